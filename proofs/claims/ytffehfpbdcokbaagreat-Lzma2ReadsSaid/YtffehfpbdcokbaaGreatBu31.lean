import Derived.Test.YtffehfpbdcokbaaGreatBu3
import Derived.Test.YtffehfpbdcokbaaGreatBu28
import Derived.Test.YtffehfpbdcokbaaGreatBu30
set_option linter.unusedVariables false
set_option linter.unusedSimpArgs false
namespace Go.Proofs.YtffehfpbdcokbaaGreat
open Lib (hid)
open Go.RowKit Rng Win Lz
theorem bitIn_val (i x:Nat) (s:CP Enc) (h:x≤1):(bitAt inC i x s).1=x:=by
 unfold bitAt inC b2n
 simp only
 by_cases h0:x=0
 ·subst h0;rfl
 obtain rfl:x=1:=by omega
 rfl
theorem treeIn_val (base x:Nat):∀ (n m:Nat) (s:CP Enc),(treeGo inC base x n m s).1=m*2 ^ n+x % 2 ^ n
 | 0,m,s=>by
  show m=m*2 ^ 0+x % 2 ^ 0
  rw [Nat.pow_zero,Nat.mod_one];omega
 | n+1,m,s=>by
  unfold treeGo
  have hb:x / 2 ^ n % 2≤1:=by have:=Nat.mod_lt (x / 2 ^ n) (show 2 > 0 by decide);omega
  rw [treeIn_val base x n,bitIn_val _ _ _ hb,Nat.mod_pow_succ,Nat.pow_succ,Nat.add_mul,Nat.mul_assoc 2 m,Nat.mul_comm (x / 2 ^ n % 2)]
  have e:m*(2 ^ n*2)=2*(m*2 ^ n):=by rw [← Nat.mul_assoc,Nat.mul_comm]
  rw [e]
  omega
theorem cnt_treeIn (base x:Nat):∀ (n m:Nat) (s:CP Enc),(treeGo inC base x n m s).2.d.cnt≤s.d.cnt+n
 | 0,m,s=>Nat.le_refl _
 | n+1,m,s=>by
  unfold treeGo
  have h1:=cnt_treeIn base x n (2*m+(bitAt inC (base+m) (x / 2 ^ n % 2) s).1) (bitAt inC (base+m) (x / 2 ^ n % 2) s).2
  have h2:(bitAt inC (base+m) (x / 2 ^ n % 2) s).2.d.cnt≤s.d.cnt+1:=Enc.bit_cnt _ _ _
  omega
open Go.RowKit Rng Lz
theorem nil_in (v : Value) (w : World) : (nilAhead 409 155 v "Bit").run Tryz.prog w = .ok (some false) w := by kernel_rfl
theorem meth_inbit (v : Value) (w : World) : (method 409 155 v "Bit").run Tryz.prog w = .ok (104, v) w := by kernel_rfl
theorem meth_indir (v : Value) (w : World) : (method 409 155 v "Direct").run Tryz.prog w = .ok (196, v) w := by kernel_rfl
def IC (b:Nat) (O:Nat→Prop) (w:World) (e:Enc):Prop:=(∃ v,EncAt w 206 0 b 0 v e∧∀ q,v.ownBlock=some q→O q)∧O b∧(∀ q,w.heap.size≤q→O q)∧EncI e
def inV (b:Nat):Value:=.agg #[.pointer (some ⟨b,0,none⟩)]
theorem IC.keep (b:Nat) (O:Nat→Prop):KeepOK (IC b O) O:=by
 intro N w w' s h hf hN
 obtain ⟨⟨v,hv,hvo⟩,hb,hz,hi⟩:=h
 exact ⟨⟨v,⟨hv.p.frm hf (hN b hb),hv.o.frm hf (fun q hq=>hN q (hvo q hq)),hv.k⟩,hvo⟩,hb,fun q hq=>hz q (Nat.le_trans hf.size hq),hi⟩
theorem IC.moved {b:Nat} {O:Nat→Prop} {w w':World} {e:Enc} {v v':Value} (hz:∀ q,w.heap.size≤q→O q) (hvo:∀ q,v.ownBlock=some q→O q) (hb:O b) (hs:w.heap.size≤w'.heap.size) (h:EncAt w' 206 0 b 0 v' e) (hm:∀ q,v'.ownBlock=some q→v.ownBlock=some q∨w.heap.size≤q) (hi:EncI e):IC b O w' e :=
 ⟨⟨v',h,fun q hq=>by rcases hm q hq with e | e;exact hvo q e;exact hz q e⟩,hb,fun q hq=>hz q (Nat.le_trans hs hq),hi⟩
theorem Moved.cases {w:World} {v u:Value} (h:Moved w v u) (q:Nat) (hq:u.ownBlock=some q):v.ownBlock=some q∨w.heap.size≤q:=by
 rcases h with e | ⟨g,e,hg⟩
 ·exact .inl (e▸hq)
 rw [e] at hq;injection hq with hq;exact .inr (hq▸hg)
theorem LzAt.coder2 {σ:Type} {CA:World→σ→Prop} {own:Nat→Prop} {T:TypeId} {w w':World} {k:LK} {st:Nat} {rep:Nat→Nat} {s:CP σ} {d:σ} (h:LzAt CA own T w k st rep s) (hc:CA w' d) (hf:Frm own w w'):LzAt CA own T w' k st rep ⟨d,s.pr⟩∧Frm (Wr own k) w w' :=
 ⟨⟨hc,h.m.frm hf h.ne.1,h.l.frm hf h.ne.2.1,h.fit,h.ne⟩,hf.mono fun q _ e=>.inl e⟩
theorem ibit_lz {b:Nat} {O:Nat→Prop} {T:TypeId} {w:World} {k:LK} {st:Nat} {rep:Nat→Nat} {s:CP Enc} (h:LzAt (IC b O) O T w k st rep s) (hc:s.d.cnt<1000000) (i tb tq x:Nat) (xi:Int) (hx:xi=(x:Int)) (hx1:x≤1) (hp:Place k i) (he:plA k i=(tb,tq)) :
 Calls Tryz.prog 104 #[inV b,.pointer (some ⟨tb,tq,none⟩),.int .i64 xi] w fun e w'=>e=.returned (.int .i64 (x:Nat))∧LzAt (IC b O) O T w' k st rep (bitAt inC i x s).2∧Frm (Wr O k) w w':=by
 subst hx
 have hcell:=h.cell hp he
 obtain ⟨⟨v,hv,hvo⟩,hob,hoz,hI⟩:=h.c
 have hntb:¬ (tb=b):=fun e=>hcell.2.2.1 (e▸hob)
 have hnb:v.ownBlock≠some tb:=fun e=>hcell.2.2.1 (hvo tb e)
 have hlt:=hcell.2.2.2.2
 have H:=hid h
 have HCELL:=hid hcell
 have HV:=hid hv
 have HI:=hid hI
 have HPL:=hid (And.intro hp he)
 have HO:=hid (And.intro hvo (And.intro hob hoz))
 have HNB:=hid hnb
 clear h hcell hv hI hp he hvo hob hoz hnb
 unfold inV
 go_enter Tryz.func104,Tryz.ntmps104
 go_wp2_with fail
 obtain ⟨X,hX⟩:∃ X,Obj.cells #[.pointer (some ⟨b,0,none⟩)] 155=X:=⟨_,rfl⟩
 rw [hX]
 have hfr:=(Frm.refl (fun _=>False) w).alloc X
 have hbl:=hfr.block tb hlt id
 have hv2:EncAt (w.alloc X) 206 0 b 0 v s.d:=⟨HV.out.p.alloc _,HV.out.o.alloc _,HV.out.k⟩
 refine (ebit_p b 0 tb tq (s.pr i) x (decide (x≠0)) v s.d (w.alloc X) hv2 (Nat.zero_le _) hc HI.out.r HI.out.c (by rw [World.cell?_of_block hbl];exact HCELL.out.1) (by rw [World.frozen?_of_block hbl];exact HCELL.out.2.1) hntb HNB.out (H.out.fit i) (by
  by_cases h0:x=0
  ·subst h0;rfl
  rw [decide_eq_true h0,decide_eq_true (by omega)])).mono ?_
 rintro e w' ⟨v',rfl,h1,h2,h3⟩
 have hf:Frm O (w.setCell ⟨tb,tq,none⟩ (.int .u16 (learn (fair (s.pr i)) (decide (x≠0))))) w':=by
  refine (((Frm.refl O w).alloc X).setBoth HCELL.out.2.2.1 hlt _).trans (h2.mono fun q _ hq=>?_)
  rcases hq with e | e
  ·rw [e];exact HO.out.2.1
  exact HO.out.1 q e
 have hsz:(w.setCell ⟨tb,tq,none⟩ (.int .u16 (learn (fair (s.pr i)) (decide (x≠0))))).heap.size=w.heap.size:=by show (w.heap.modify _ _).size=_;simp
 have hI2:EncI (s.d.bit (fair (s.pr i)) (decide (x≠0))):=encI_stays.bit s.d (s.pr i) x HI.out
 have hl:=H.out.learnt (d:=s.d.bit (fair (s.pr i)) (decide (x≠0))) HPL.out.1 HPL.out.2 (Nat.lt_of_le_of_lt (learn_bd (fair_bd (s.pr i)).2 _) (by omega)) (w':=w') (IC.moved HO.out.2.2 HO.out.1 HO.out.2.1 (hsz▸hf.size) h1 (fun q hq=>by
  rcases h3.cases q hq with e | e
  ·exact .inl e
  exact .inr (Nat.le_trans hfr.size e)) hI2) hf
 have HL:=hid hl
 clear h1 h2 h3 hX hfr hbl hv2 hf hsz hI2 hl
 go_wp2
 go_ret
 exact ⟨rfl,HL.out.1,HL.out.2⟩
open Go.RowKit Rng Lz
theorem cnt_bitIn1 (i x:Nat) (s:CP Enc):(bitAt inC i x s).2.d.cnt≤s.d.cnt+1:=Enc.bit_cnt _ _ _
theorem cnt_backIn (base x n:Nat):∀ (r m o:Nat) (s:CP Enc),(backGo inC base x n r m o s).2.d.cnt≤s.d.cnt+r
 | 0,_,_,s=>Nat.le_refl _
 | r+1,m,o,s=>by
  unfold backGo
  have h1:=cnt_backIn base x n r (2*m+(bitAt inC (base+m) (x / 2 ^ (n-(r+1)) % 2) s).1) (o+(bitAt inC (base+m) (x / 2 ^ (n-(r+1)) % 2) s).1*2 ^ (n-(r+1))) (bitAt inC (base+m) (x / 2 ^ (n-(r+1)) % 2) s).2
  have h2:=cnt_bitIn1 (base+m) (x / 2 ^ (n-(r+1)) % 2) s
  omega
set_option maxRecDepth 100000 in
set_option maxHeartbeats 1000000 in
theorem tree_in (b:Nat) (O:Nat→Prop) (T:TypeId) (k:LK) (st:Nat) (rep:Nat→Nat) (s:CP Enc) (tb tq base n len cap x:Nat) (w:World) (h:LzAt (IC b O) O T w k st rep s) (hn:n≤8) (hlen:2 ^ n≤len) (hlc:len≤cap) (hx:x<4294967296) (hc:s.d.cnt+n<1000000)
 (hpl:∀ j,1≤j→j<2 ^ n→Place k (base+j)∧plA k (base+j)=(tb,tq+j)) :
 Calls Tryz.prog 134 #[.slice (some ⟨tb,tq,none⟩) len cap,.iface 155 (inV b),.int .i64 x,.int .i64 n] w fun e w'=>e=.returned (.int .i64 ((treeAt inC base n x s).1:Nat)) ∧
  LzAt (IC b O) O T w' k st rep (treeAt inC base n x s).2∧Frm (Wr O k) w w':=by
 obtain ⟨R,hR⟩:∃ R,treeGo inC base x n 1 s=R:=⟨_,rfl⟩
 unfold treeAt
 rw [hR]
 have HZ:=hid h
 have HR:=hid hR
 have HPL:=hid hpl
 have HCN:=hid hc
 clear h hR hpl hc
 go_enter Tryz.func134,Tryz.ntmps134
 go_wp2
 go_loopw [9,10] (fun mv iv wr=>∃ (r m:Nat) (i:Int) (s':CP Enc),mv=.int .i64 m∧iv=.int .i64 i∧i=(r:Int)-1∧r≤n∧2 ^ (n-r)≤m∧m<2 ^ (n-r+1)∧treeGo inC base x r m s'=R∧LzAt (IC b O) O T wr k st rep s'∧s'.d.cnt+r<1000000∧Frm (Wr O k) w wr) (fun _ iv _=>(intOf iv+1).toNat)
 case atStart=>exact ⟨n,1,(n:Int)-1,s,rfl,by go_num,rfl,Nat.le_refl _,by simp,by simp,HR.out,HZ.out,HCN.out,Frm.refl _ _⟩
 case round =>
 obtain ⟨r,m,i,s',rfl,rfl,hi,hr,hm1,hm2,hgo,hat,hcn,hfr⟩:=hrel
 have GO:=hid hgo
 have AT:=hid hat
 have FR:=hid hfr
 have CN:=hid hcn
 clear hgo hat hfr hcn
 cases r with
 | zero =>
  obtain rfl:i = -1:=by omega
  clear hi
  have hn256:2 ^ n≤2 ^ 8:=Nat.pow_le_pow_right (by omega) hn
  have hmn:2 ^ n≤m:=by simpa using hm1
  have hmm:m<2 ^ n*2:=by rw [← Nat.pow_succ];simpa using hm2
  obtain ⟨N2,hN2⟩:∃ N2:Nat,2 ^ n=N2:=⟨_,rfl⟩
  have hN3:(2:Int) ^ n=(N2:Int):=by rw [← hN2];simp
  rw [hN2] at hmn hmm hn256
  have GO2:(m,s')=R:=GO.out
  clear hm1 hm2
  go_wp2
  go_ret
  rw [hN2,← GO2]
  refine ⟨ret_int' ?_,AT.out,FR.out⟩
  show (m:Int)-(N2:Int)=((m-N2:Nat):Int)
  omega
 | succ q =>
  obtain rfl:i=(q:Int):=by omega
  clear hi
  have hpow:m<2 ^ n:=Nat.lt_of_lt_of_le hm2 (Nat.pow_le_pow_right (by omega) (by omega))
  have hml:m<len:=by omega
  have hm256:2 ^ n≤2 ^ 8:=Nat.pow_le_pow_right (by omega) hn
  have hmb:m<256:=by omega
  have hpos:1≤m:=Nat.le_trans (Nat.one_le_two_pow) hm1
  have HP:=hid (HPL.out m hpos hpow)
  have HM1:=hid hm1
  have HM2:=hid hm2
  have hq64:min q 64=q:=by omega
  have hqu:IntKind.u64.wrap (q:Int)=(q:Int):=Go.IntWalk.u64_in _ (by omega)
  obtain ⟨Pq,hPq⟩:∃ P,2 ^ q=P:=⟨_,rfl⟩
  have hPi:(2:Int) ^ q=(Pq:Int):=by rw [← hPq];simp
  obtain ⟨Y,hY⟩:∃ Y,x / Pq=Y:=⟨_,rfl⟩
  have hYi:(x:Int) / (Pq:Int)=(Y:Int):=by rw [← hY];exact (Int.natCast_ediv x Pq).symm
  have hYb:Y<4294967296:=by have:=Nat.div_le_self x Pq;omega
  obtain ⟨W,hW⟩:∃ W,Y % 2=W:=⟨_,rfl⟩
  have hWi:bits .and .i64 (Y:Int) 1=(W:Int):=by
   have:=and_i64 (a:=Y) (b:=1) (by omega) (by omega)
   rw [nat_mask1,hW] at this
   exact this
  have hWb:W≤1:=by omega
  obtain ⟨s2,hs2⟩:∃ s2,(bitAt inC (base+m) W s').2=s2:=⟨_,rfl⟩
  have hgo:treeGo inC base x q (2*m+W) s2=R:=by
   have h:=GO.out
   unfold treeGo at h
   rw [hPq,hY,hW,bitIn_val _ _ _ hWb,hs2] at h
   exact h
  have hcn:s2.d.cnt+q<1000000:=by have:=cnt_bitIn1 (base+m) W s';rw [hs2] at this;have:=CN.out;omega
  have HGOX:=hid hgo
  have HS2:=hid hs2
  have HCN2:=hid hcn
  clear hm1 hm2 hpow hm256 hlen hPq hY hW hs2 hgo hcn
  go_wp2
  have hno:=nil_in (inV b)
  have hme:=meth_inbit (inV b)
  have ATD:=hid (AT.out.later (IC.keep b O) ((Frm.refl _ wr).drew))
  have hob:=or_bit (m:=m) (b:=W) (by omega) hWb
  have hmw:IntKind.i64.wrap ((m:Int)*2)=(m:Int)*2:=Go.IntWalk.i64_in _ (by omega)
  go_region_with (first
   | (go_at_call 104;refine (ibit_lz ATD.out (by have:=CN.out;omega) (base+m) tb (tq+m) W W rfl hWb HP.out.1 HP.out.2).mono ?_;rintro e w2 ⟨rfl,h2,f2⟩;rw [HS2.out] at h2))
  all_goals
   have H2:=hid h2
   have F2:=hid ((FR.out.drew).trans f2)
   clear h2 f2
   go_wp2
   refine ⟨⟨q,2*m+W,(q:Int)-1,_,rfl,by go_num,rfl,by omega,?_,?_,HGOX.out,H2.out,HCN2.out,F2.out⟩,by simp [intOf]⟩
   ·have:=HM1.out
    rw [show n-q=n-(q+1)+1 by omega,Nat.pow_succ];omega
   have:=HM2.out
   rw [show n-q+1=n-(q+1)+1+1 by omega,Nat.pow_succ];omega
set_option maxRecDepth 100000 in
set_option maxHeartbeats 1000000 in
theorem back_in (b:Nat) (O:Nat→Prop) (T:TypeId) (k:LK) (st:Nat) (rep:Nat→Nat) (s:CP Enc) (tb tq base n len cap x:Nat) (w:World) (h:LzAt (IC b O) O T w k st rep s) (hn:n≤8) (hlen:2 ^ n≤len) (hlc:len≤cap) (hx:x<4294967296) (hc:s.d.cnt+n<1000000)
 (hpl:∀ j,1≤j→j<2 ^ n→Place k (base+j)∧plA k (base+j)=(tb,tq+j)) :
 Calls Tryz.prog 136 #[.slice (some ⟨tb,tq,none⟩) len cap,.iface 155 (inV b),.int .i64 x,.int .i64 n] w fun e w'=>e=.returned (.int .i64 ((backAt inC base n x s).1:Nat)) ∧
  LzAt (IC b O) O T w' k st rep (backAt inC base n x s).2∧Frm (Wr O k) w w':=by
 obtain ⟨R,hR⟩:∃ R,backGo inC base x n n 1 0 s=R:=⟨_,rfl⟩
 unfold backAt
 rw [hR]
 have HZ:=hid h
 have HR:=hid hR
 have HPL:=hid hpl
 have HCN:=hid hc
 clear h hR hpl hc
 go_enter Tryz.func136,Tryz.ntmps136
 go_wp2
 go_loopw [8,9,13] (fun ov mv cv wr=>∃ (r m o c:Nat) (s':CP Enc),ov=.int .i64 o∧mv=.int .i64 m∧cv=.int .i64 c∧c+r=n∧2 ^ c≤m∧m<2 ^ (c+1)∧o<2 ^ c∧backGo inC base x n r m o s'=R∧LzAt (IC b O) O T wr k st rep s'∧s'.d.cnt+r<1000000∧Frm (Wr O k) w wr) (fun _ _ cv _=>n-(intOf cv).toNat)
 case atStart=>exact ⟨n,1,0,0,s,rfl,rfl,rfl,by omega,by simp,by simp,by simp,HR.out,HZ.out,HCN.out,Frm.refl _ _⟩
 case round =>
 obtain ⟨r,m,o,c,s',rfl,rfl,rfl,hcr,hm1,hm2,ho,hgo,hat,hcn,hfr⟩:=hrel
 have GO:=hid hgo
 have AT:=hid hat
 have FR:=hid hfr
 have CN:=hid hcn
 clear hgo hat hfr hcn
 cases r with
 | zero =>
  obtain rfl:c=n:=by omega
  have GO2:(o,s')=R:=GO.out
  clear hcr hm1 hm2 ho
  go_wp2
  go_ret
  rw [← GO2]
  exact ⟨rfl,AT.out,FR.out⟩
 | succ q =>
  have hcn:c<n:=by omega
  have hpow:m<2 ^ n:=Nat.lt_of_lt_of_le hm2 (Nat.pow_le_pow_right (by omega) (by omega))
  have hml:m<len:=by omega
  have hm256:2 ^ n≤2 ^ 8:=Nat.pow_le_pow_right (by omega) hn
  have hmb:m<256:=by omega
  have hpos:1≤m:=Nat.le_trans (Nat.one_le_two_pow) hm1
  have hob0:o<256:=by have:2 ^ c≤2 ^ n:=Nat.pow_le_pow_right (by omega) (by omega);omega
  have HP:=hid (HPL.out m hpos hpow)
  have HM1:=hid hm1
  have HM2:=hid hm2
  have HO:=hid ho
  have hc2:2 ^ c≤2 ^ 8:=Nat.pow_le_pow_right (by omega) (by omega)
  obtain ⟨C2,hC2⟩:∃ C2:Nat,2 ^ c=C2:=⟨_,rfl⟩
  have hC3:(2:Int) ^ c=(C2:Int):=by rw [← hC2];simp
  have HC2:=hid hC2
  have hc64:min c 64=c:=by omega
  have hcu:IntKind.u64.wrap (c:Int)=(c:Int):=Go.IntWalk.u64_in _ (by omega)
  obtain ⟨Y,hY⟩:∃ Y,x / C2=Y:=⟨_,rfl⟩
  have hYi:(x:Int) / (C2:Int)=(Y:Int):=by rw [← hY];exact (Int.natCast_ediv x C2).symm
  have hYb:Y<4294967296:=by have:=Nat.div_le_self x C2;omega
  obtain ⟨W,hW⟩:∃ W,Y % 2=W:=⟨_,rfl⟩
  have hWi:bits .and .i64 (Y:Int) 1=(W:Int):=by
   have:=and_i64 (a:=Y) (b:=1) (by omega) (by omega)
   rw [nat_mask1,hW] at this
   exact this
  have hWb:W≤1:=by omega
  obtain ⟨s2,hs2⟩:∃ s2,(bitAt inC (base+m) W s').2=s2:=⟨_,rfl⟩
  have hgo:backGo inC base x n q (2*m+W) (o+W*C2) s2=R:=by
   have h:=GO.out
   unfold backGo at h
   rw [show n-(q+1)=c by omega,hC2,hY,hW,bitIn_val _ _ _ hWb,hs2] at h
   exact h
  have hcnn:s2.d.cnt+q<1000000:=by have:=cnt_bitIn1 (base+m) W s';rw [hs2] at this;have:=CN.out;omega
  have HGOX:=hid hgo
  have HS2:=hid hs2
  have HCN2:=hid hcnn
  rw [hC2] at hc2
  have hno:=nil_in (inV b)
  have hme:=meth_inbit (inV b)
  have ATD:=hid (AT.out.later (IC.keep b O) ((Frm.refl _ wr).drew))
  have hob:=or_bit (m:=m) (b:=W) (by omega) hWb
  have hmw:IntKind.i64.wrap ((m:Int)*2)=(m:Int)*2:=Go.IntWalk.i64_in _ (by omega)
  clear hm1 hm2 hpow hm256 hlen ho hC2 hY hW hs2 hgo hcnn
  go_wp2
  go_region_with (first
   | (go_at_call 104;refine (ibit_lz ATD.out (by have:=CN.out;omega) (base+m) tb (tq+m) W W rfl hWb HP.out.1 HP.out.2).mono ?_;rintro e w2 ⟨rfl,h2,f2⟩;rw [HS2.out] at h2))
  all_goals
   have H2:=hid h2
   have F2:=hid ((FR.out.drew).trans f2)
   clear h2 f2
   go_wp2
   have ho9:=HO.out
   rw [HC2.out] at ho9
   have hv:=or_hi_lz HC2.out ho9 hc2 hWb
   refine ⟨⟨q,2*m+W,o+W*C2,c+1,_,by rw [hv],by go_num,by go_num,by omega,?_,?_,?_,HGOX.out,H2.out,HCN2.out,F2.out⟩,by simp [intOf];omega⟩
   ·have:=HM1.out
    rw [Nat.pow_succ];omega
   ·have:=HM2.out
    rw [Nat.pow_succ];omega
   have h1:W*C2≤C2:=by
    have h:W=0∨W=1:=by omega
    rcases h with rfl | rfl <;> omega
   rw [Nat.pow_succ,HC2.out];omega
open Go.RowKit Rng Win Lz
theorem slot_parts {d:Nat} (h4:4≤d) (h:d<4294967296):∃ L c,Nat.log2 d=L+1∧1≤L∧L≤30∧d / 2 ^ L=c∧2≤c∧c≤3∧slotOf d=2*(L+1)+c % 2∧c*2 ^ L≤d∧d<c*2 ^ L+2 ^ L:=by
 have hd0:d≠0:=by omega
 have h1:=Nat.log2_self_le hd0
 have h2:=Nat.lt_log2_self (n:=d)
 have hl2:2≤Nat.log2 d:=(Nat.le_log2 hd0).2 (by show 2 ^ 2≤d;omega)
 have hl31:Nat.log2 d<32:=(Nat.log2_lt hd0).2 (by show d<2 ^ 32;omega)
 obtain ⟨L,hL⟩:∃ L,Nat.log2 d=L+1:=⟨Nat.log2 d-1,by omega⟩
 have hp:0<2 ^ L:=Nat.two_pow_pos L
 rw [hL] at h1 h2
 rw [Nat.pow_succ] at h1
 rw [Nat.pow_succ,Nat.pow_succ] at h2
 have c2:2≤d / 2 ^ L:=(Nat.le_div_iff_mul_le hp).2 (by omega)
 have c3:d / 2 ^ L<4:=(Nat.div_lt_iff_lt_mul hp).2 (by omega)
 have hm:=Nat.div_add_mod d (2 ^ L)
 have hml:=Nat.mod_lt d hp
 refine ⟨L,d / 2 ^ L,hL,by omega,by omega,rfl,c2,by omega,?_,?_,?_⟩
 ·unfold slotOf
  rw [if_neg (by omega),hL]
  rfl
 ·rw [Nat.mul_comm];omega
 rw [Nat.mul_comm];omega
theorem slot_lt {d:Nat} (h:d<4294967296):slotOf d<64:=by
 by_cases h4:d<4
 ·unfold slotOf;rw [if_pos h4];omega
 obtain ⟨L,c,-,h1,h2,-,h3,h4,h5,-,-⟩:=slot_parts (d:=d) (by omega) h
 rw [h5];omega
theorem slot_base {d:Nat} (h4:4≤d) (h:d<4294967296):4≤slotOf d∧(2+slotOf d % 2)*2 ^ (slotOf d / 2-1)≤d∧d<(2+slotOf d % 2)*2 ^ (slotOf d / 2-1)+2 ^ (slotOf d / 2-1):=by
 obtain ⟨L,c,-,h1,h2,h3,h5,h6,h7,h8,h9⟩:=slot_parts h4 h
 have e1:slotOf d / 2-1=L:=by rw [h7];omega
 have e2:2+slotOf d % 2=c:=by rw [h7];omega
 rw [e1,e2]
 exact ⟨by rw [h7];omega,h8,h9⟩
theorem treeAt_in (base n x:Nat) (s:CP Enc) (h:x<2 ^ n):(treeAt inC base n x s).1=x:=by
 unfold treeAt
 simp only
 rw [treeIn_val,Nat.one_mul,Nat.mod_eq_of_lt h]
 omega
theorem backGo_in (base x n:Nat):∀ (r m o:Nat) (s:CP Enc),r≤n→o=x % 2 ^ (n-r)→(backGo inC base x n r m o s).1=x % 2 ^ n
 | 0,m,o,s,_,h=>by simpa [backGo] using h
 | r+1,m,o,s,hr,h=>by
  unfold backGo
  have hb:x / 2 ^ (n-(r+1)) % 2≤1:=by have:=Nat.mod_lt (x / 2 ^ (n-(r+1))) (show 2 > 0 by decide);omega
  refine backGo_in base x n r _ _ _ (by omega) ?_
  rw [bitIn_val _ _ _ hb,h,show n-r=n-(r+1)+1 by omega,Nat.mod_pow_succ,Nat.mul_comm (x / 2 ^ (n-(r+1)) % 2)]
theorem backAt_in (base n x:Nat) (s:CP Enc) (h:x<2 ^ n):(backAt inC base n x s).1=x:=by
 unfold backAt
 rw [backGo_in base x n n 1 0 s (Nat.le_refl _) (by rw [Nat.sub_self,Nat.pow_zero,Nat.mod_one]),Nat.mod_eq_of_lt h]
set_option maxRecDepth 100000 in
theorem lenAt_in (base n p:Nat) (s:CP Enc) (h2:2≤n) (h:n≤273):(lenAt inC base n p s).1=n:=by
 unfold lenAt
 simp only
 have hb:∀ (q:Bool),b2n q≤1:=by intro q;cases q <;> decide
 rw [bitIn_val _ _ _ (hb _),bitIn_val _ _ _ (hb _)]
 by_cases h10:10≤n
 ·rw [show b2n (decide (10≤n))=1 by rw [decide_eq_true h10];rfl,if_neg (by omega)]
  by_cases h18:18≤n
  ·rw [show b2n (decide (18≤n))=1 by rw [decide_eq_true h18];rfl,if_neg (by omega)]
   simp only
   rw [treeAt_in _ _ _ _ (by omega)]
   omega
  rw [show b2n (decide (18≤n))=0 by rw [decide_eq_false h18];rfl,if_pos rfl]
  simp only
  rw [treeAt_in _ _ _ _ (by omega)]
  omega
 rw [show b2n (decide (10≤n))=0 by rw [decide_eq_false h10];rfl,if_pos rfl]
 simp only
 rw [treeAt_in _ _ _ _ (by omega)]
 omega
theorem distAt_in (d size:Nat) (s:CP Enc) (h:d<4294967296):(distAt inC d size s).1=d:=by
 unfold distAt
 simp only
 rw [treeAt_in _ _ _ _ (slot_lt h)]
 by_cases h4:d<4
 ·have e:slotOf d=d:=by unfold slotOf;rw [if_pos h4]
  rw [e,if_pos h4]
 obtain ⟨b1,b2,b3⟩:=slot_base (d:=d) (by omega) h
 rw [if_neg (by omega)]
 generalize ht:slotOf d=t at *
 generalize hB:(2+t % 2)*2 ^ (t / 2-1)=B at *
 by_cases h14:t<14
 ·rw [if_pos h14]
  simp only
  rw [backAt_in _ _ _ _ (by omega)]
  omega
 rw [if_neg h14]
 simp only
 rw [backAt_in _ _ _ _ (by omega)]
 obtain ⟨P,hP⟩:∃ P,t / 2-1-4=P:=⟨_,rfl⟩
 have e1:t / 2-1=P+4:=by omega
 have hv:(inC.dir (treeAt inC (440+(min size 5-2)*64) 6 t s).2.d ((d-B) / 16) (t / 2-1-4)).1=(d-B) / 16:=by
  show (d-B) / 16 % 2 ^ (t / 2-1-4)=_
  rw [hP]
  refine Nat.mod_eq_of_lt ?_
  rw [e1,Nat.pow_add] at b3
  have:(2:Nat) ^ 4=16:=by decide
  rw [this] at b3
  generalize 2 ^ P=Q at *
  omega
 rw [hv]
 have e2:B % 16=0:=by
  rw [← hB,e1,Nat.pow_add]
  have:(2:Nat) ^ 4=16:=by decide
  rw [this,← Nat.mul_assoc,Nat.mul_mod_left]
 rw [Nat.mod_eq_of_lt (by omega)]
 omega
theorem farIn_val (base x far:Nat):∀ (n m:Nat) (s:CP Enc),(farGo inC base x far n m s).1=m*2 ^ n+x % 2 ^ n
 | 0,m,s=>by
  show m=m*2 ^ 0+x % 2 ^ 0
  rw [Nat.pow_zero,Nat.mod_one];omega
 | n+1,m,s=>by
  unfold farGo
  simp only
  have hb:x / 2 ^ n % 2≤1:=by have:=Nat.mod_lt (x / 2 ^ n) (show 2 > 0 by decide);omega
  have e:(2*m+x / 2 ^ n % 2)*2 ^ n+x % 2 ^ n=m*2 ^ (n+1)+x % 2 ^ (n+1):=by
   rw [Nat.mod_pow_succ,Nat.pow_succ,Nat.add_mul,Nat.mul_assoc 2 m,Nat.mul_comm (x / 2 ^ n % 2)]
   have e:m*(2 ^ n*2)=2*(m*2 ^ n):=by rw [← Nat.mul_assoc,Nat.mul_comm]
   rw [e]
   omega
  rw [bitIn_val _ _ _ hb]
  split
  ·rw [farIn_val base x far n];exact e
  rw [treeIn_val];exact e
theorem litIn_any (lc lp st total ahead far:Nat) (x:UInt8) (s:CP Enc):(litAt inC lc lp st total ahead far x.toNat s).1=x.toNat:=by
 have hx:=x.toNat_lt
 unfold litAt
 simp only
 split
 ·rw [farIn_val];omega
 rw [treeIn_val];omega
end Go.Proofs.YtffehfpbdcokbaaGreat
