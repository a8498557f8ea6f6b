/- The first plan of a size with a permutation has it: the law FnCountFirst answers true for all codes. No condition. -/
import Derived.Test.YtddhgiafpmghpaaGreatJ5
import Derived.Test.YtddhgiafpmghpaaGreatJ4
import Derived.Test.YtddhgiafpmghpaaGreatJ3
set_option linter.all false
namespace Go.Proofs.YtddhgiafpmghpaaGreat
namespace Fw
open Go
open Nat renaming reduceEqDiff → qE, reduceLeDiff → qL, reduceAdd → qA, reduceMul → qM, le_refl → qR
open List renaming append_nil → qN, mapM_append → qP, mapM_cons → qC, mapM_map → qU, range_succ → qS, take_of_length_le → qT
open Bool renaming and_eq_true → qB, false_eq_true → qF
open Option renaming map_some → qO, map_eq_some_iff → qI
open Int renaming reduceToNat → qZ
abbrev eLL (L:List (List Txt)):PV := .sl (L.map zan) L.length
theorem z9s {p:List Txt} {H W:Nat} (h:Shp2 p H W) (hH:H≤6) (hW:W≤6):Sm p:=⟨by rw [h.h]; omega,fun r hr=>by rw [h.w r hr]; omega⟩
theorem zu7 {α β:Type} {f:α→List β} {B:Nat}:∀ {l:List α},(∀ a∈l,(f a).length≤B)→(l.flatMap f).length≤l.length*B
 | [],_=>by simp
 | a::l,h=>by
  have h1:=h a (by simp)
  have h2:=zu7 (f:=f) (B:=B) (l:=l) fun b hb=>h b (by simp [hb])
  rw [List.flatMap_cons,List.length_append,List.length_cons,Nat.succ_mul]
  omega
theorem ycs {m n w d:Nat} {p:List Txt} {B:Nat} (h:∀ d,(Cd m p n w d).length≤B):(Ld m p n w d).length≤d*B:=by
 have:=zu7 (f:=Cd m p n w) (B:=B) (l:=List.range d) fun a _=>h a
 rwa [List.length_range]at this
theorem yct {m n H w:Nat} {p:List Txt} {B:Nat} (h:∀ w d,(Cd m p n w d).length≤B):(Lw m p n H w).length≤w*((H - fi p)*B):=by
 have:=zu7 (f:=fun w=>Ld m p n w (H - fi p)) (B:=(H - fi p)*B) (l:=List.range w) fun a _=>ycs (h a)
 rwa [List.length_range]at this
theorem z6b {H W:Nat} (h9:H*W≤9):∀ (m:Nat) {p:List Txt} {n:Nat},Shp2 p H W→(En m p n).length≤9 ^ m
 | 0,p,n,_=>by simp [En]
 | m+1,p,n,hp=>by
  by_cases hf:fi p<H
  ·rw [yd8 hp.h hf]
   refine Nat.le_trans (yct (B:=9 ^ m) fun w d=>z6b h9 m (zlu hp)) ?_
   have h1:=ya3 hp hf
   rw [← Nat.mul_assoc,Nat.pow_succ,Nat.mul_comm (9 ^ m)]
   refine Nat.mul_le_mul_right _ (Nat.le_trans ?_ h9)
   rw [Nat.mul_comm H W]
   exact Nat.mul_le_mul (by omega) (by omega)
  unfold En
  rw [hp.h,if_neg hf]
  exact Nat.one_le_pow _ _ (by omega)
theorem ygf {H W m n w d:Nat} {p:List Txt} (h9:H*W≤9) (hm:m≤8) (hp:Shp2 p H W) (hf:fi p<H) (hw:w<fw p) (hd:d<H - fi p):(Lw m p n H w++Ld m p n w d).length+(Cd m p n w d).length≤387420489:=by
 have hc:∀ w d,(Cd m p n w d).length≤9 ^ m:=fun w d=>z6b h9 m (zlu hp)
 have a1:=yct (m:=m) (n:=n) (H:=H) (w:=w) (p:=p) hc
 have a2:=ycs (m:=m) (n:=n) (w:=w) (d:=d) (p:=p) (hc w)
 have a3:=hc w d
 have h1:=ya3 hp hf
 have b1:(d+1)*9 ^ m≤(H - fi p)*9 ^ m:=Nat.mul_le_mul_right _ (by omega)
 have b2:(w+1)*((H - fi p)*9 ^ m)≤9*9 ^ m:=by
  rw [← Nat.mul_assoc]
  refine Nat.mul_le_mul_right _ (Nat.le_trans ?_ h9)
  rw [Nat.mul_comm H W]
  exact Nat.mul_le_mul (by omega) (by omega)
 have b3:(9:Nat) ^ m≤9 ^ 8:=Nat.pow_le_pow_right (by omega) hm
 rw [Nat.succ_mul]at b1 b2
 rw [List.length_append]
 omega
theorem z3c {S:Store} {o v et k:Nat} {L:List (List Txt)} (h:S.obs[o]?=some (.arr v et 1 (L.map zan))):reify S true (k+2) (.loc o v 0 L.length)=some (eLL L) :=
 zb5 h (by simp) (zbm fun x hx=>by obtain ⟨z,_,rfl⟩:=List.mem_map.1 hx; rfl)
theorem z1x {c:UInt8}:((c.toNat:Int) == 46)=decide (c=46):=by
 rw [Bool.eq_iff_iff]
 simp only[beq_iff_eq,decide_eq_true_eq]
 constructor
 ·intro h
  have:c.toNat=46:=by omega
  exact UInt8.toNat_inj.1 this
 intro h; subst h; rfl
theorem z3h {nh nw:Nat} {p:List Txt} {R:List RmB} (hs:St nh nw p R) (hn:R.length≤9) (h1:1≤nh) (h2:nh≤6) (h3:1≤nw) (h4:nw≤6) (hf:¬ fi p<nh) (n0:Int):PC Tryz.prog 93 [zan p,.int .i64 n0] (eLL [p]) false:=by
 have hph:=hs.sh.h
 refine PC.of ⟨Tryz.func93,by kernel_rfl,rfl,by kernel_rfl⟩ zao mixed (by show 2≤Tryz.f93.ntmps; decide) ?_
 refine W.r fun K hK=>?_
 simp(disch:=omega)only[↓RU,RV,RH,↓reduceIte,qE,reduceCtorEq,if_pos,↓RS,RG,qA,qM,qL]
 apply hK;clear hK K
 refine W.seq ?_
 refine W.r fun K hK=>?_
 simp(disch:=omega)only[↓RU,RV,RH,↓reduceIte,qE,reduceCtorEq,if_pos,↓RS,RG,qA,qM,qL]
 apply hK;clear hK K
 refine W.block ?_
 refine W.loop [0,1,5] (fun n vs S=>∃ i:Nat,n=nh - i∧i≤nh∧vs=[zan p,.int .i64 n0,.int .i64 i]∧S=⟨[],0⟩) nh ?_ ?_
 ·refine ⟨0,0,rfl,Nat.zero_le _,?_,rfl⟩
  simp [Env.put,Env.of,zae]
 rintro n vs S - ⟨i,rfl,h_i,rfl,rfl⟩
 refine W.seq ?_
 refine W.r fun K hK=>?_
 simp(disch:=omega)only[↓RU,RV,RH,↓reduceIte,qE,reduceCtorEq,if_pos,w64,↓RS,RG,qA,qM,qL,ty6,zaa,zac,hph]
 apply hK;clear hK K
 refine W.cond rfl (fun h0=>?_) (fun h0=>?_)
 ·try simp only[RL]at h0
  obtain ⟨row,hrow,hrl,hrx⟩:=hs.sh.row (show i<nh by omega)
  refine W.skip ?_
  refine xn ?_
  refine W.seq ?_
  refine W.block ?_
  refine W.r fun K hK=>?_
  simp(disch:=omega)only[↓RU,RV,RH,↓reduceIte,qE,reduceCtorEq,if_pos,↓RS,RG,qA,qM,qL]
  apply hK;clear hK K
  refine W.block ?_
  refine W.loop [0,1,5,6] (fun n vs S=>∃ k:Nat,n=nw - k∧(i<nh∧k≤nw)∧vs=[zan p,.int .i64 n0,.int .i64 i,.int .i64 k]∧S=⟨[],0⟩) nw ?_ ?_
  ·refine ⟨0,0,rfl,by omega,?_,rfl⟩
   simp [Env.put,Env.of,zae]
  rintro n vs S - ⟨k,rfl,h_k,rfl,rfl⟩
  refine W.seq ?_
  refine W.r fun K hK=>?_
  simp(disch:=omega)only[↓RU,RV,RH,↓reduceIte,qE,reduceCtorEq,if_pos,w64,↓RS,RG,qA,qM,qL,ty6,zaa,zac,hrow,hrl]
  apply hK;clear hK K
  refine W.cond rfl (fun h1c=>?_) (fun h1c=>?_)
  ·try simp only[RL]at h1c
   have hkw:k<nw:=by omega
   have hc:=hrx k hkw
   refine W.skip ?_
   refine xn ?_
   refine W.seq ?_
   refine W.block ?_
   refine W.r fun K hK=>?_
   simp(disch:=omega)only[↓RU,RV,RH,↓reduceIte,qE,reduceCtorEq,if_pos,w64,↓RS,RG,qA,qM,qL,ty6,zac,zd4,hrow,hrl,hc,z1x]
   apply hK;clear hK K
   refine W.cond rfl (fun h2c=>?_) (fun h2c=>?_)
   ·try simp only[RL]at h2c
    exact absurd h2c (zz7 hs.sh hf (by omega) hkw)
   try simp only[RL]at h2c
   refine W.skip ?_
   refine XbN ?_
   refine xn ?_
   refine W.k fun K hK=>?_
   simp(disch:=omega)only[↓RU,RV,RH,↓reduceIte,qE,reduceCtorEq,if_pos,w64,↓RS,RG,qA,qM,qL,zaa]
   apply hK;clear hK K
   refine xn ?_
   refine ⟨nw - (k+1),by omega,0,k+1,rfl,by omega,?_,rfl⟩
   simp [Env.put,Env.of]
  try simp only[RL]at h1c
  obtain rfl:k=nw:=by omega
  refine W.exit ?_
  refine xe ?_
  refine xe ?_
  refine XBlock.hit ?_
  refine XbN ?_
  refine xn ?_
  refine W.k fun K hK=>?_
  simp(disch:=omega)only[↓RU,RV,RH,↓reduceIte,qE,reduceCtorEq,if_pos,w64,↓RS,RG,qA,qM,qL,zaa]
  apply hK;clear hK K
  refine xn ?_
  refine ⟨nh - (i+1),by omega,0,i+1,rfl,by omega,?_,rfl⟩
  simp [Env.put,Env.of]
 try simp only[RL]at h0
 obtain rfl:i=nh:=by omega
 refine W.exit ?_
 refine xe ?_
 refine xe ?_
 refine XBlock.hit ?_
 refine xn ?_
 refine W.r fun K hK=>?_
 simp(disch:=omega)only[↓RU,RV,RH,↓reduceIte,qE,reduceCtorEq,if_pos,↓RS,RG,qA,qM,qL,ty2,ty6,zac]
 apply hK;clear hK K
 refine W.ret ?_
 refine Br rfl ?_
 exact zb5 (n:=1) rfl rfl (zcw rfl rfl)
theorem z9i {nh nw:Nat} {p:List Txt} {R:List RmB} (hs:St nh nw p R) (hn:R.length≤9) (h1:1≤nh) (h2:nh≤6) (h3:1≤nw) (h4:nw≤6) (hf:fi p<nh) (n0:Int) {X:List (List Txt)} (hB:PC Tryz.prog 137 [zan p,.int .i64 n0,.int .i64 (fi p:Nat),.int .i64 (fk p:Nat)] (eLL X) false):PC Tryz.prog 93 [zan p,.int .i64 n0] (eLL X) false:=by
 have hph:=hs.sh.h
 obtain ⟨f1,f2,f3⟩:=zjl hs.sh hf
 refine PC.of ⟨Tryz.func93,by kernel_rfl,rfl,by kernel_rfl⟩ zao mixed (by show 2≤Tryz.f93.ntmps; decide) ?_
 refine W.r fun K hK=>?_
 simp(disch:=omega)only[↓RU,RV,RH,↓reduceIte,qE,reduceCtorEq,if_pos]
 apply hK;clear hK K
 refine W.seq ?_
 refine W.r fun K hK=>?_
 simp(disch:=omega)only[↓RU,RV,RH,↓reduceIte,qE,reduceCtorEq,if_pos]
 apply hK;clear hK K
 refine W.block ?_
 refine W.loop [0,1,5] (fun n vs S=>∃ i:Nat,n=nh - i∧i≤fi p∧vs=[zan p,.int .i64 n0,.int .i64 i]∧S=⟨[],0⟩) nh ?_ ?_
 ·refine ⟨0,0,rfl,Nat.zero_le _,?_,rfl⟩
  simp [Env.put,Env.of,zae]
 rintro n vs S - ⟨i,rfl,h_i,rfl,rfl⟩
 refine W.seq ?_
 refine W.r fun K hK=>?_
 simp(disch:=omega)only[↓RU,RV,RH,↓reduceIte,qE,reduceCtorEq,if_pos,w64,ty6,zaa,zac,hph]
 apply hK;clear hK K
 refine W.cond rfl (fun h0=>?_) (fun h0=>?_)
 ·try simp only[RL]at h0
  obtain ⟨row,hrow,hrl,hrx⟩:=hs.sh.row (show i<nh by omega)
  refine W.skip ?_
  refine xn ?_
  refine W.seq ?_
  refine W.block ?_
  refine W.r fun K hK=>?_
  simp(disch:=omega)only[↓RU,RV,RH,↓reduceIte,qE,reduceCtorEq,if_pos]
  apply hK;clear hK K
  refine W.block ?_
  refine W.loop [0,1,5,6] (fun n vs S=>∃ k:Nat,n=nw - k∧((i<fi p∨(i=fi p∧k≤fk p))∧k≤nw)∧vs=[zan p,.int .i64 n0,.int .i64 i,.int .i64 k]∧S=⟨[],0⟩) nw ?_ ?_
  ·refine ⟨0,0,rfl,by omega,?_,rfl⟩
   simp [Env.put,Env.of,zae]
  rintro n vs S - ⟨k,rfl,h_k,rfl,rfl⟩
  refine W.seq ?_
  refine W.r fun K hK=>?_
  simp(disch:=omega)only[↓RU,RV,RH,↓reduceIte,qE,reduceCtorEq,if_pos,w64,ty6,zaa,zac,hrow,hrl]
  apply hK;clear hK K
  refine W.cond rfl (fun h1c=>?_) (fun h1c=>?_)
  ·try simp only[RL]at h1c
   have hkw:k<nw:=by omega
   have hc:=hrx k hkw
   refine W.skip ?_
   refine xn ?_
   refine W.seq ?_
   refine W.block ?_
   refine W.r fun K hK=>?_
   simp(disch:=omega)only[↓RU,RV,RH,↓reduceIte,qE,reduceCtorEq,if_pos,w64,ty6,zac,zd4,hrow,hrl,hc,z1x]
   apply hK;clear hK K
   refine W.cond rfl (fun h2c=>?_) (fun h2c=>?_)
   ·try simp only[RL]at h2c
    obtain ⟨rfl,rfl⟩:i=fi p∧k=fk p:=by
               rcases h_k.1 with q | ⟨q,q2⟩
               ·exact absurd h2c (f3 i k (by omega) hkw (.inl q))
               subst q; exact ⟨rfl,Classical.byContradiction fun e=>f3 (fi p) k hf hkw (.inr ⟨rfl,by omega⟩) h2c⟩
    refine W.r fun K hK=>?_
    simp(disch:=omega)only[↓RU,RV,RH,↓reduceIte,qE,reduceCtorEq,if_pos,qN]
    refine zad.pc (hB) rfl (.inr rfl) ?_
    simp(disch:=omega)only[↓RU,RV,RH,↓reduceIte,qE,reduceCtorEq,if_pos,qN]
    apply hK;clear hK K
    refine W.ret ?_
    refine XBlock.ret ?_
    refine XThen.ret ?_
    refine XThen.ret ?_
    refine XBlock.ret ?_
    refine XBlock.ret ?_
    refine XThen.ret ?_
    refine XThen.ret ?_
    refine XBlock.ret ?_
    refine XThen.ret ?_
    refine Br rfl ?_
    rfl
   try simp only[RL]at h2c
   have hne:¬ (i=fi p∧k=fk p):=fun e=>h2c (by rw [e.1,e.2]; exact f2)
   refine W.skip ?_
   refine XbN ?_
   refine xn ?_
   refine W.k fun K hK=>?_
   simp(disch:=omega)only[↓RU,RV,RH,↓reduceIte,qE,reduceCtorEq,if_pos,w64,zaa]
   apply hK;clear hK K
   refine xn ?_
   refine ⟨nw - (k+1),by omega,0,k+1,rfl,by omega,?_,rfl⟩
   simp [Env.put,Env.of]
  try simp only[RL]at h1c
  obtain rfl:k=nw:=by omega
  refine W.exit ?_
  refine xe ?_
  refine xe ?_
  refine XBlock.hit ?_
  refine XbN ?_
  refine xn ?_
  refine W.k fun K hK=>?_
  simp(disch:=omega)only[↓RU,RV,RH,↓reduceIte,qE,reduceCtorEq,if_pos,w64,zaa]
  apply hK;clear hK K
  refine xn ?_
  refine ⟨nh - (i+1),by omega,0,i+1,rfl,by omega,?_,rfl⟩
  simp [Env.put,Env.of]
 try simp only[RL]at h0
 exfalso; omega
set_option maxHeartbeats 1000000 in
theorem z9g {nh nw:Nat} {p:List Txt} {R:List RmB} (hs:St nh nw p R) (hn:R.length≤8) (h1:1≤nh) (h2:nh≤6) (h3:1≤nw) (h4:nw≤6) (hf:fi p<nh) (h9:nh*nw≤9) {m:Nat} (hm8:m≤8) (ih:∀ w d,w<fw p→d<nh - fi p→PC Tryz.prog 93 [zan (zef p (fi p) (fk p) (w+1) (rl R.length) (fi p+(d+1))),.int .i64 (((R.length:Nat):Int)+1)] (eLL (Cd m p R.length w d)) false):PC Tryz.prog 137 [zan p,.int .i64 (R.length:Nat),.int .i64 (fi p:Nat),.int .i64 (fk p:Nat)] (eLL (Lw m p R.length nh (fw p))) false:=by
 have hph:=hs.sh.h
 obtain ⟨f1,f2,f3⟩:=zjl hs.sh hf
 obtain ⟨hrr,hrl,-,hrx⟩:=z17 hs.sh hf
 have hfw:=ya3 hs.sh hf
 refine PC.of ⟨Tryz.func137,by kernel_rfl,rfl,by kernel_rfl⟩ zao mixed (by show 4≤Tryz.f137.ntmps; decide) ?_
 refine W.r fun K hK=>?_
 simp(disch:=omega)only[↓RU,RV,RH,↓reduceIte,qE,reduceCtorEq,if_pos,↓RS,RG,qA,qM,qL]
 apply hK;clear hK K
 refine W.r fun K hK=>?_
 simp(disch:=omega)only[↓RU,RV,RH,↓reduceIte,qE,reduceCtorEq,if_pos,↓RS,RG,qA,qM,qL,ty2,ty6,zac]
 apply hK;clear hK K
 refine W.seq ?_
 refine W.r fun K hK=>?_
 simp(disch:=omega)only[↓RU,RV,RH,↓reduceIte,qE,reduceCtorEq,if_pos,w64,↓RS,RG,qA,qM,qL,zaa]
 apply hK;clear hK K
 refine W.cond rfl (fun h0=>?_) (fun h0=>?_)
 ·try simp only[RL]at h0
  exfalso; omega
 try simp only[RL]at h0
 refine W.skip ?_
 refine xn ?_
 refine W.seq ?_
 refine W.r fun K hK=>?_
 simp(disch:=omega)only[↓RU,RV,RH,↓reduceIte,qE,reduceCtorEq,if_pos,↓RS,RG,qA,qM,qL]
 apply hK;clear hK K
 refine W.block ?_
 refine W.loop [0,1,2,3,9,10] (fun n vs S=>∃ w v t:Nat,n=fw p - w∧w≤fw p∧vs=[zan p,.int .i64 (R.length:Nat),.int .i64 (fi p:Nat),.int .i64 (fk p:Nat),.loc 0 v 0 (Lw m p R.length nh w).length,.int .i64 ((w+1:Nat):Int)]∧S=⟨[.arr v 22 1 ((Lw m p R.length nh w).map zan)],t⟩) (fw p) ?_ ?_
 ·refine ⟨1,0,0,1,rfl,Nat.zero_le _,?_,rfl⟩
  simp [Env.put,Env.of,zae,Lw]
 rintro n vs S - ⟨w,v,t,rfl,h_w,rfl,rfl⟩
 refine W.seq ?_
 refine W.r fun K hK=>?_
 rcases (show w<fw p∨(w=fw p∧fk p+w<nw∧ch p (fi p) (fk p+w)≠46)∨(w=fw p∧¬ fk p+w<nw) from z2a hs.sh hf h_w) with hw | ⟨hw,hw2,hw3⟩ | ⟨hw,hw2⟩
 ·skip
  obtain ⟨hw1,hw2⟩:=(ztf hs.sh hf).1 hw
  have hc:=hrx _ hw1
  rw [hw2 _ (by omega) (by omega)]at hc
  have e1:decide (((fk p:Nat):Int)+((w+1:Nat):Int)≤(nw:Int))=true:=decide_eq_true (by omega)
  have tn:(((fk p:Nat):Int)+((w+1:Nat):Int) - 1).toNat=fk p+w:=by omega
  simp(disch:=omega)only[↓RU,RV,RH,↓reduceIte,qE,reduceCtorEq,if_pos,w64,↓RS,RG,qA,qM,qL,ty6,zaa,zac,zd4,e1,tn,hc,hrr,hrl,z1x]
  apply hK;clear hK K
  refine W.cond rfl (fun h8=>?_) (fun h8=>?_)
  ·try simp only[RL]at h8
   refine W.skip ?_
   refine xn ?_
   refine W.seq ?_
   refine W.block ?_
   refine W.r fun K hK=>?_
   simp(disch:=omega)only[↓RU,RV,RH,↓reduceIte,qE,reduceCtorEq,if_pos,↓RS,RG,qA,qM,qL]
   apply hK;clear hK K
   refine W.block ?_
   refine W.loop [0,1,2,3,9,10,11] (fun n vs S=>∃ d v t:Nat,n=nh - fi p - d∧d≤nh - fi p∧vs=[zan p,.int .i64 (R.length:Nat),.int .i64 (fi p:Nat),.int .i64 (fk p:Nat),.loc 0 v 0 (Lw m p R.length nh w++Ld m p R.length w d).length,.int .i64 ((w+1:Nat):Int),.int .i64 ((d+1:Nat):Int)]∧S=⟨[.arr v 22 1 ((Lw m p R.length nh w++Ld m p R.length w d).map zan)],t⟩) (nh - fi p) ?_ ?_
   ·have hl0:(Lw m p R.length nh w++Ld m p R.length w 0)=(Lw m p R.length nh w):=by rw [show Ld m p R.length w 0=[] from rfl,qN]
    refine ⟨1,0,v,t,rfl,Nat.zero_le _,?_,by rw [hl0]; rfl⟩
    rw [hl0]
    simp [Env.put,Env.of]
   rintro n vs S - ⟨d,v,t,rfl,h_d,rfl,rfl⟩
   refine W.seq ?_
   refine W.r fun K hK=>?_
   simp(disch:=omega)only[↓RU,RV,RH,↓reduceIte,qE,reduceCtorEq,if_pos,w64,↓RS,RG,qA,qM,qL,ty6,zaa,zac,hph]
   apply hK;clear hK K
   refine W.cond rfl (fun h2c=>?_) (fun h2c=>?_)
   ·try simp only[RL]at h2c
    have hd:d<nh - fi p:=by omega
    have hwl:=ygf (n:=R.length) h9 hm8 hs.sh hf hw hd
    refine W.skip ?_
    refine xn ?_
    refine W.seq ?_
    refine W.block ?_
    refine W.k fun K hK=>?_
    simp(disch:=omega)only[↓RU,RV,RH,↓reduceIte,qE,reduceCtorEq,if_pos,w64,w64,qN,↓RS,RG,qA,qM,qL,ty2,ty6,zaa,zac,zd4]
    refine zad.pc (zpx (z9s hs.sh h2 h4) (tp:=fi p) (lf:=fk p) (hg:=d+1) (wd:=w+1) (c:=rl R.length) (by omega) (fun r hr=>by rw [hs.sh.w r hr]; omega)) rfl (.inl rfl) ?_
    simp(disch:=omega)only[↓RU,RV,RH,↓reduceIte,qE,reduceCtorEq,if_pos,w64,w64,qN,↓RS,RG,qA,qM,qL,ty2,ty6,zaa,zac,zd4]
    refine zad.pc (ih w d hw hd) rfl (.inr rfl) ?_
    simp(disch:=omega)only[↓RU,RV,RH,↓reduceIte,qE,reduceCtorEq,if_pos,w64,w64,qN,↓RS,RG,qA,qM,qL,ty2,ty6,zaa,zac,zd4]
    apply hK;clear hK K
    refine XbN ?_
    refine xn ?_
    refine W.k fun K hK=>?_
    simp(disch:=omega)only[↓RU,RV,RH,↓reduceIte,qE,reduceCtorEq,if_pos,w64,↓RS,RG,qA,qM,qL,zaa]
    apply hK;clear hK K
    refine xn ?_
    refine ⟨nh - fi p - (d+1),by omega,1,d+1,t,t+1,rfl,by omega,?_,?_⟩
    ·rw [zuw,← List.append_assoc,List.length_append (bs:=Cd m p R.length w d)]; simp [Env.put,Env.of]
    rw [zuw,← List.append_assoc,List.map_append (l₂:=Cd m p R.length w d)]; rfl
   try simp only[RL]at h2c
   obtain rfl:d=nh - fi p:=by omega
   refine W.exit ?_
   refine xe ?_
   refine xe ?_
   refine XBlock.hit ?_
   refine XbN ?_
   refine xn ?_
   refine W.k fun K hK=>?_
   simp(disch:=omega)only[↓RU,RV,RH,↓reduceIte,qE,reduceCtorEq,if_pos,w64,↓RS,RG,qA,qM,qL,zaa]
   apply hK;clear hK K
   refine xn ?_
   refine ⟨fw p - (w+1),by omega,1,w+1,v,t,rfl,by omega,?_,by rw [zux]; rfl⟩
   simp [Env.put,Env.of,zux]
  try simp only[RL]at h8
  exact absurd h8 (by simp)
 ·skip
  have hc:=hrx _ hw2
  have e1:decide (((fk p:Nat):Int)+((w+1:Nat):Int)≤(nw:Int))=true:=decide_eq_true (by omega)
  have e2:decide (ch p (fi p) (fk p+w)=46)=false:=decide_eq_false hw3
  have tn:(((fk p:Nat):Int)+((w+1:Nat):Int) - 1).toNat=fk p+w:=by omega
  simp(disch:=omega)only[↓RU,RV,RH,↓reduceIte,qE,reduceCtorEq,if_pos,w64,↓RS,RG,qA,qM,qL,ty6,zaa,zac,zd4,e1,e2,tn,hc,hrr,hrl,z1x]
  apply hK;clear hK K
  refine W.cond rfl (fun h8=>?_) (fun h8=>?_)
  ·try simp only[RL]at h8
   exact absurd h8 (by simp)
  try simp only[RL]at h8
  subst hw
  refine W.exit ?_
  refine xe ?_
  refine xe ?_
  refine XBlock.hit ?_
  refine xn ?_
  refine W.r fun K hK=>?_
  simp(disch:=omega)only[↓RU,RV,RH,↓reduceIte,qE,reduceCtorEq,if_pos,↓RS,RG,qA,qM,qL]
  apply hK;clear hK K
  refine W.ret ?_
  refine Br rfl ?_
  exact z3c rfl
 skip
 have e1:decide (((fk p:Nat):Int)+((w+1:Nat):Int)≤(nw:Int))=false:=decide_eq_false (by omega)
 simp(disch:=omega)only[↓RU,RV,RH,↓reduceIte,qE,reduceCtorEq,if_pos,w64,↓RS,RG,qA,qM,qL,ty6,zaa,zac,zd4,e1,hrr,hrl]
 apply hK;clear hK K
 refine W.cond rfl (fun h8=>?_) (fun h8=>?_)
 ·try simp only[RL]at h8
  exact absurd h8 (by simp)
 try simp only[RL]at h8
 subst hw
 refine W.exit ?_
 refine xe ?_
 refine xe ?_
 refine XBlock.hit ?_
 refine xn ?_
 refine W.r fun K hK=>?_
 simp(disch:=omega)only[↓RU,RV,RH,↓reduceIte,qE,reduceCtorEq,if_pos,↓RS,RG,qA,qM,qL]
 apply hK;clear hK K
 refine W.ret ?_
 refine Br rfl ?_
 exact z3c rfl
theorem z3i {nh nw:Nat} (h1:1≤nh) (h2:nh≤6) (h3:1≤nw) (h4:nw≤6) (h9:nh*nw≤9):∀ (m:Nat) {p:List Txt} {R:List RmB},St nh nw p R→R.length+m=9→∀ n0:Int,n0=(R.length:Nat) →
  PC Tryz.prog 93 [zan p,.int .i64 n0] (eLL (En m p R.length)) false
 | 0,p,R,hs,hm,n0,hn=>by
  have hf:¬ fi p<nh:=fun hf=>by
   obtain ⟨f1,f2,-⟩:=zjl hs.sh hf
   have:=hs.lim hf f1 f2
   omega
  exact z3h hs (by omega) h1 h2 h3 h4 hf n0
 | m+1,p,R,hs,hm,n0,hn=>by
  subst hn
  by_cases hf:fi p<nh
  ·rw [yd8 hs.sh.h hf]
   refine z9i hs (by omega) h1 h2 h3 h4 hf _ (z9g hs (by omega) h1 h2 h3 h4 hf h9 (by omega) fun w d hw hd=>?_)
   have hl:(R++[(⟨fi p,fk p,d+1,w+1⟩:RmB)]).length=R.length+1:=by simp
   have:=z3i h1 h2 h3 h4 h9 m (hs.next h9 hf hw hd) (by omega) (((R.length:Nat):Int)+1) (by rw [hl]; rfl)
   rw [hl]at this
   exact this
  have e:En (m+1) p R.length=[p]:=by
   unfold En
   rw [hs.sh.h,if_neg hf]
  rw [e]
  exact z3h hs (by omega) h1 h2 h3 h4 hf _
theorem z65 {i w:Nat}:(dots i w).map PV.str++[.str (List.replicate w 46)]=(dots (i+1) w).map PV.str:=by simp [dots,List.replicate_succ']
theorem yay {k:Nat}:(List.replicate k (46:UInt8)).map eB++[.int .u8 46]=(List.replicate (k+1) (46:UInt8)).map eB:=by simp [List.replicate_succ',eB]
theorem z1u {i w:Nat}:(dots i w).length=i:=by simp [dots]
theorem z86 {k:Nat}:(List.replicate k (46:UInt8)).length=k:=by simp
theorem ygo {H W:Nat} (h9:H*W≤9):(zfi H W).length≤387420489:=z6b h9 9 zpq
theorem z4u {nh nw:Nat} (h1:1≤nh) (h2:nh≤6) (h3:1≤nw) (h4:nw≤6) (h9:nh*nw≤9):PC Tryz.prog 45 [.int .i64 nh,.int .i64 nw] (eLL (zfi nh nw)) false:=by
 have hF:=z3i h1 h2 h3 h4 h9 9 (zz4 (H:=nh) (W:=nw)) rfl 0 rfl
 change PC _ _ _ (eLL (zfi nh nw)) _ at hF
 refine PC.of ⟨Tryz.func45,by kernel_rfl,rfl,by kernel_rfl⟩ zao mixed (by show 2≤Tryz.f45.ntmps; decide) ?_
 refine W.r fun K hK=>?_
 simp(disch:=omega)only[↓RU,RV,RH,↓reduceIte,qE,reduceCtorEq,if_pos,↓RS,RG,qA,qM,qL]
 apply hK;clear hK K
 refine W.r fun K hK=>?_
 simp(disch:=omega)only[↓RU,RV,RH,↓reduceIte,qE,reduceCtorEq,if_pos,↓RS,RG,qA,qM,qL,ty6,zac]
 apply hK;clear hK K
 refine W.joinZ [5] (fun vs S=>∃ tk:Nat,vs=[zan (dots nh nw)]∧S=⟨[],tk⟩) ?_ ?_
 ·
  refine W.r fun K hK=>?_
  simp(disch:=omega)only[↓RU,RV,RH,↓reduceIte,qE,reduceCtorEq,if_pos,↓RS,RG,qA,qM,qL]
  apply hK;clear hK K
  refine W.block ?_
  refine W.loop [0,1,5,6] (fun n vs S=>∃ i v0 tq:Nat,n=nh - i∧i≤nh∧vs=[.int .i64 nh,.int .i64 nw,.loc 0 v0 0 i,.int .i64 i]∧S=⟨[.arr v0 9 1 ((dots i nw).map .str)],tq⟩) nh ?_ ?_
  ·refine ⟨1,0,0,1,rfl,Nat.zero_le _,?_,rfl⟩
   simp [Env.put,Env.of,zae]
  rintro n vs S - ⟨i,v0,tq,rfl,h_i,rfl,rfl⟩
  refine W.seq ?_
  refine W.r fun K hK=>?_
  simp(disch:=omega)only[↓RU,RV,RH,↓reduceIte,qE,reduceCtorEq,if_pos,w64,↓RS,RG,qA,qM,qL,zaa]
  apply hK;clear hK K
  refine W.cond rfl (fun h=>?_) (fun h=>?_)
  ·try simp only[RL]at h
   have hdl:=z1u (i:=i) (w:=nw)
   refine W.skip ?_
   refine xn ?_
   refine W.seq ?_
   refine W.block ?_
   refine W.r fun K hK=>?_
   simp(disch:=omega)only[↓RU,RV,RH,↓reduceIte,qE,reduceCtorEq,if_pos,↓RS,RG,qA,qM,qL,ty7,zd4]
   apply hK;clear hK K
   refine W.seq ?_
   refine W.r fun K hK=>?_
   simp(disch:=omega)only[↓RU,RV,RH,↓reduceIte,qE,reduceCtorEq,if_pos,↓RS,RG,qA,qM,qL]
   apply hK;clear hK K
   refine W.block ?_
   refine W.loop [0,1,5,6,7,8] (fun n vs S=>∃ k v1 tq:Nat,n=nw - k∧k≤nw∧vs=[.int .i64 nh,.int .i64 nw,.loc 0 v0 0 i,.int .i64 i,.loc 1 v1 0 k,.int .i64 k]∧S=⟨[.arr v0 9 1 ((dots i nw).map .str),.arr v1 5 1 ((List.replicate k (46:UInt8)).map eB)],tq⟩) nw ?_ ?_
   ·refine ⟨2,0,tq,tq+1,rfl,Nat.zero_le _,?_,rfl⟩
    simp [Env.put,Env.of]
   rintro n vs S - ⟨k,v1,tq,rfl,h_k,rfl,rfl⟩
   refine W.seq ?_
   refine W.r fun K hK=>?_
   simp(disch:=omega)only[↓RU,RV,RH,↓reduceIte,qE,reduceCtorEq,if_pos,w64,↓RS,RG,qA,qM,qL,zaa]
   apply hK;clear hK K
   refine W.cond rfl (fun h1x=>?_) (fun h1x=>?_)
   ·try simp only[RL]at h1x
    have hrl:=z86 (k:=k)
    refine W.skip ?_
    refine xn ?_
    refine W.seq ?_
    refine W.block ?_
    refine W.k fun K hK=>?_
    simp(disch:=omega)only[↓RU,RV,RH,↓reduceIte,qE,reduceCtorEq,if_pos,↓RS,RG,qA,qM,qL,ty7,zd4,hrl]
    apply hK;clear hK K
    refine XbN ?_
    refine xn ?_
    refine W.k fun K hK=>?_
    simp(disch:=omega)only[↓RU,RV,RH,↓reduceIte,qE,reduceCtorEq,if_pos,w64,↓RS,RG,qA,qM,qL,zaa]
    apply hK;clear hK K
    refine xn ?_
    refine ⟨nw - (k+1),by omega,2,k+1,tq+1,tq+2,rfl,by omega,?_,?_⟩
    ·simp [Env.put,Env.of]
    rw [← yay]; simp [zay,zk2]
   try simp only[RL]at h1x
   obtain rfl:k=nw:=by omega
   have hrl:=z86 (k:=k)
   refine W.exit ?_
   refine xe ?_
   refine xe ?_
   refine XBlock.hit ?_
   refine xn ?_
   refine W.k fun K hK=>?_
   simp(disch:=omega)only[↓RU,RV,RH,↓reduceIte,qE,reduceCtorEq,if_pos,w64,↓RS,RG,qA,qM,qL,ty6,ty7,zac,zd4,hrl,hdl]
   apply hK;clear hK K
   refine XbN ?_
   refine xn ?_
   refine W.k fun K hK=>?_
   simp(disch:=omega)only[↓RU,RV,RH,↓reduceIte,qE,reduceCtorEq,if_pos,w64,↓RS,RG,qA,qM,qL,zaa]
   apply hK;clear hK K
   refine xn ?_
   refine ⟨nh - (i+1),by omega,1,i+1,tq+1,tq+2,rfl,by omega,?_,?_⟩
   ·simp [Env.put,Env.of]
   rw [← z65]; simp [zay,zk2]
  try simp only[RL]at h
  obtain rfl:i=nh:=by omega
  refine W.exit ?_
  refine xe ?_
  refine xe ?_
  refine XBlock.hit ?_
  refine xn ?_
  have hdl:=z1u (i:=i) (w:=nw)
  refine ⟨0,[zan (dots i nw)],⟨[],tq⟩,?_,?_,tq,rfl,rfl⟩
  ·have ht:((dots i nw).map PV.str).take i=(dots i nw).map PV.str:=qT (by simp [hdl])
   have hm:∀ S:Store,((dots i nw).map PV.str).mapM (rfz S 0 9)=some ((dots i nw).map PV.str):=fun S=>zrv (fun _=>rfl) _
   simp [-qU,zbi,zbf,hdl,ht,hm,Env.put,Env.of]
  rfl
 rintro vs S - ⟨tk,rfl,rfl⟩
 refine W.r fun K hK=>?_
 simp(disch:=omega)only[↓RU,RV,RH,↓reduceIte,qE,reduceCtorEq,if_pos,qN,↓RS,RG,qA,qM,qL]
 refine zad.pc (hF) rfl (.inr rfl) ?_
 simp(disch:=omega)only[↓RU,RV,RH,↓reduceIte,qE,reduceCtorEq,if_pos,qN,↓RS,RG,qA,qM,qL]
 apply hK;clear hK K
 refine W.ret ?_
 refine Br rfl ?_
 rfl

theorem yhc {L:List (List Txt)} {i:Nat} {q:List Txt} (h:L[i]?=some q):(L.map zan)[i]?=some (zan q):=by rw [List.getElem?_map,h]; rfl
def yg6 (o:Option (List Txt)):PV:=match o with | some q => .tup [zan q,.bool true] | none => .tup [.sl [] 0,.bool false]
theorem yeo {α:Type} {f:α→Bool} {l:List α} {i:Nat} {x:α} (h:(l.take i).find? f=none) (hx:l[i]?=some x) (hf:f x=true):l.find? f=some x:=by
 obtain ⟨hl,e⟩:=List.getElem?_eq_some_iff.1 hx
 conv=>lhs; rw [← List.take_append_drop i l,List.drop_eq_getElem_cons hl,e]
 rw [List.find?_append,h,Option.none_or,List.find?_cons,hf]
theorem zqv {α:Type} {f:α→Bool} {l:List α} {i:Nat} {x:α} (h:(l.take i).find? f=none) (hx:l[i]?=some x) (hf:f x=false):(l.take (i+1)).find? f=none:=by
 rw [tk hx,List.find?_append,h,Option.none_or,List.find?_cons,hf]; rfl
theorem zml {w:List Int} {q:List Txt}:zfk w q=(decide ((rP q).length=w.length) && (zca q && decide (zd3 q=w))):=by
 unfold zfk; rw [zfh]
theorem z9h {a b:Int} {w:List Int} (hw:w.length≤1048576) (hv:(zjh a b && zgz w)=false):PC Tryz.prog 15 [.int .i64 a,.int .i64 b,eInts w] (.tup [.sl [] 0,.bool false]) false:=by
 refine PC.of ⟨Tryz.func15,by kernel_rfl,rfl,by kernel_rfl⟩ zao mixed (by show 3≤Tryz.f15.ntmps; decide) ?_
 refine W.r fun K hK=>?_
 simp(disch:=omega)only[↓RU,RV,RH,↓reduceIte,qE,reduceCtorEq,if_pos,↓RS,RG,qA,qM,qL]
 apply hK;clear hK K
 refine W.seq ?_
 refine W.r fun K hK=>?_
 cases hc:zjh a b
 ·skip
  simp(disch:=omega)only[↓RU,RV,RH,↓reduceIte,qE,reduceCtorEq,if_pos,qN,↓RS,RG,qA,qM,qL,hc]
  refine zad.pc (zls a b) rfl (.inl rfl) ?_
  simp(disch:=omega)only[↓RU,RV,RH,↓reduceIte,qE,reduceCtorEq,if_pos,qN,↓RS,RG,qA,qM,qL,hc]
  apply hK;clear hK K
  refine W.cond rfl (fun h0=>?_) (fun h0=>?_)
  ·try simp only[RL]at h0
   refine W.r fun K hK=>?_
   simp(disch:=omega)only[↓RU,RV,RH,↓reduceIte,qE,reduceCtorEq,if_pos,qN,↓RS,RG,qA,qM,qL]
   refine zad.pc (zew) rfl (.inl rfl) ?_
   simp(disch:=omega)only[↓RU,RV,RH,↓reduceIte,qE,reduceCtorEq,if_pos,qN,↓RS,RG,qA,qM,qL]
   apply hK;clear hK K
   refine W.ret ?_
   refine XThen.ret ?_
   refine Br rfl ?_
   rfl
  try simp only[RL]at h0
  exact absurd h0 (by simp)
 skip
 have hp:zgz w=false:=by rw [hc,Bool.true_and]at hv; exact hv
 simp(disch:=omega)only[↓RU,RV,RH,↓reduceIte,qE,reduceCtorEq,if_pos,qN,↓RS,RG,qA,qM,qL,hc,hp]
 refine zad.pc (zls a b) rfl (.inl rfl) ?_
 simp(disch:=omega)only[↓RU,RV,RH,↓reduceIte,qE,reduceCtorEq,if_pos,qN,↓RS,RG,qA,qM,qL,hc,hp]
 refine zad.pc (zuf (l:=w) (by omega)) rfl (.inl rfl) ?_
 simp(disch:=omega)only[↓RU,RV,RH,↓reduceIte,qE,reduceCtorEq,if_pos,qN,↓RS,RG,qA,qM,qL,hc,hp]
 apply hK;clear hK K
 refine W.cond rfl (fun h0=>?_) (fun h0=>?_)
 ·try simp only[RL]at h0
  refine W.r fun K hK=>?_
  simp(disch:=omega)only[↓RU,RV,RH,↓reduceIte,qE,reduceCtorEq,if_pos,qN,↓RS,RG,qA,qM,qL]
  refine zad.pc (zew) rfl (.inl rfl) ?_
  simp(disch:=omega)only[↓RU,RV,RH,↓reduceIte,qE,reduceCtorEq,if_pos,qN,↓RS,RG,qA,qM,qL]
  apply hK;clear hK K
  refine W.ret ?_
  refine XThen.ret ?_
  refine Br rfl ?_
  rfl
 try simp only[RL]at h0
 exact absurd h0 (by simp)
theorem z5m {nr nc:Nat} {w:List Int} (hc:zjh nr nc=true) (hp:zgz w=true) (h1:1≤nr) (h2:nr≤6) (h3:1≤nc) (h4:nc≤6) (h9:nr*nc≤9):PC Tryz.prog 15 [.int .i64 nr,.int .i64 nc,eInts w] (yg6 ((zfi nr nc).find? (zfk w))) false:=by
 have hw7:w.length≤7:=by unfold zgz at hp; simp only[qB,decide_eq_true_eq]at hp; exact hp.1.2
 have hfew:=ygo h9
 refine PC.of ⟨Tryz.func15,by kernel_rfl,rfl,by kernel_rfl⟩ zao mixed (by show 3≤Tryz.f15.ntmps; decide) ?_
 refine W.r fun K hK=>?_
 simp(disch:=omega)only[↓RU,RV,RH,↓reduceIte,qE,reduceCtorEq,if_pos,↓RS,RG,qA,qM,qL]
 apply hK;clear hK K
 refine W.seq ?_
 refine W.r fun K hK=>?_
 simp(disch:=omega)only[↓RU,RV,RH,↓reduceIte,qE,reduceCtorEq,if_pos,qN,↓RS,RG,qA,qM,qL,hc,hp]
 refine zad.pc (zls nr nc) rfl (.inl rfl) ?_
 simp(disch:=omega)only[↓RU,RV,RH,↓reduceIte,qE,reduceCtorEq,if_pos,qN,↓RS,RG,qA,qM,qL,hc,hp]
 refine zad.pc (zuf (l:=w) (by omega)) rfl (.inl rfl) ?_
 simp(disch:=omega)only[↓RU,RV,RH,↓reduceIte,qE,reduceCtorEq,if_pos,qN,↓RS,RG,qA,qM,qL,hc,hp]
 apply hK;clear hK K
 refine W.cond rfl (fun h0=>?_) (fun h0=>?_)
 ·try simp only[RL]at h0
  exact absurd h0 (by simp)
 try simp only[RL]at h0
 refine W.skip ?_
 refine xn ?_
 refine W.r fun K hK=>?_
 simp(disch:=omega)only[↓RU,RV,RH,↓reduceIte,qE,reduceCtorEq,if_pos,qN,↓RS,RG,qA,qM,qL]
 refine zad.pc (z4u h1 h2 h3 h4 h9) rfl (.inr rfl) ?_
 simp(disch:=omega)only[↓RU,RV,RH,↓reduceIte,qE,reduceCtorEq,if_pos,qN,↓RS,RG,qA,qM,qL]
 apply hK;clear hK K
 refine W.seq ?_
 refine W.r fun K hK=>?_
 simp(disch:=omega)only[↓RU,RV,RH,↓reduceIte,qE,reduceCtorEq,if_pos,↓RS,RG,qA,qM,qL]
 apply hK;clear hK K
 refine W.block ?_
 refine W.loop [2,8,9] (fun n vs S=>∃ i:Nat,n=(zfi nr nc).length - i∧i≤(zfi nr nc).length∧((zfi nr nc).take i).find? (zfk w)=none∧vs=[eInts w,eLL (zfi nr nc),.int .i64 i]∧S=⟨[],0⟩) (zfi nr nc).length ?_ ?_
 ·refine ⟨0,0,rfl,Nat.zero_le _,rfl,?_,rfl⟩
  simp [Env.put,Env.of,zae]
 rintro n vs S - ⟨i,rfl,h_i,hno,rfl,rfl⟩
 refine W.seq ?_
 refine W.r fun K hK=>?_
 simp(disch:=omega)only[↓RU,RV,RH,↓reduceIte,qE,reduceCtorEq,if_pos,w64,↓RS,RG,qA,qM,qL,ty2,ty6,zaa,zac]
 apply hK;clear hK K
 refine W.cond rfl (fun h1c=>?_) (fun h1c=>?_)
 ·try simp only[RL]at h1c
  obtain ⟨q,hq,hqm⟩:=zaf (show i<(zfi nr nc).length by omega)
  obtain ⟨hqp,hqs⟩:=zt4 h9 h1 h2 h3 h4 hqm
  have hqS:=z9s hqs h2 h4
  have hle:=yhc hq
  have hrm:=(zds hqp).rooms
  refine W.skip ?_
  refine xn ?_
  refine W.seq ?_
  refine W.block ?_
  refine W.r fun K hK=>?_
  rcases (show (rP q).length≠w.length∨((rP q).length=w.length∧zca q=false)∨((rP q).length=w.length∧zca q=true∧zd3 q=w)∨((rP q).length=w.length∧zca q=true∧zd3 q≠w) by by_cases e0:(rP q).length=w.length <;> cases zca q <;> by_cases e:zd3 q=w <;> simp [e0,e]) with hq0 | ⟨hq0,hq1⟩ | ⟨hq0,hq1,hq2⟩ | ⟨hq0,hq1,hq2⟩
  ·skip
   have hgd:zfk w q=false:=by rw [zml,decide_eq_false hq0,Bool.false_and]
   have hlq:(((rP q).length:Int) == (w.length:Int))=false:=by rw [beq_eq_false_iff_ne]; omega
   simp(disch:=omega)only[↓RU,RV,RH,↓reduceIte,qE,reduceCtorEq,if_pos,qN,w64,↓RS,RG,qA,qM,qL,ty2,zab,ty6,zaa,zac,hle,hrm,hlq]
   refine zad.pc (zep hqS) rfl (.inl rfl) ?_
   simp(disch:=omega)only[↓RU,RV,RH,↓reduceIte,qE,reduceCtorEq,if_pos,qN,w64,↓RS,RG,qA,qM,qL,ty2,zab,ty6,zaa,zac,hle,hrm,hlq]
   apply hK;clear hK K
   refine W.cond rfl (fun h2c=>?_) (fun h2c=>?_)
   ·try simp only[RL]at h2c
    exact absurd h2c (by simp)
   try simp only[RL]at h2c
   refine W.skip ?_
   refine XbN ?_
   refine xn ?_
   refine W.k fun K hK=>?_
   simp(disch:=omega)only[↓RU,RV,RH,↓reduceIte,qE,reduceCtorEq,if_pos,w64,↓RS,RG,qA,qM,qL,zaa]
   apply hK;clear hK K
   refine xn ?_
   refine ⟨(zfi nr nc).length - (i+1),by omega,0,i+1,rfl,by omega,zqv hno hq hgd,?_,rfl⟩
   simp [Env.put,Env.of]
  ·skip
   have hgd:zfk w q=false:=by rw [zml,hq1,Bool.false_and,Bool.and_false]
   have hlq:(((rP q).length:Int) == (w.length:Int))=true:=by rw [beq_iff_eq]; omega
   simp(disch:=omega)only[↓RU,RV,RH,↓reduceIte,qE,reduceCtorEq,if_pos,qN,w64,↓RS,RG,qA,qM,qL,ty2,zab,ty6,zaa,zac,hle,hrm,hlq,hq1]
   refine zad.pc (zep hqS) rfl (.inl rfl) ?_
   simp(disch:=omega)only[↓RU,RV,RH,↓reduceIte,qE,reduceCtorEq,if_pos,qN,w64,↓RS,RG,qA,qM,qL,ty2,zab,ty6,zaa,zac,hle,hrm,hlq,hq1]
   refine zad.pc (zkk hqS) rfl (.inl rfl) ?_
   simp(disch:=omega)only[↓RU,RV,RH,↓reduceIte,qE,reduceCtorEq,if_pos,qN,w64,↓RS,RG,qA,qM,qL,ty2,zab,ty6,zaa,zac,hle,hrm,hlq,hq1]
   apply hK;clear hK K
   refine W.cond rfl (fun h2c=>?_) (fun h2c=>?_)
   ·try simp only[RL]at h2c
    exact absurd h2c (by simp)
   try simp only[RL]at h2c
   refine W.skip ?_
   refine XbN ?_
   refine xn ?_
   refine W.k fun K hK=>?_
   simp(disch:=omega)only[↓RU,RV,RH,↓reduceIte,qE,reduceCtorEq,if_pos,w64,↓RS,RG,qA,qM,qL,zaa]
   apply hK;clear hK K
   refine xn ?_
   refine ⟨(zfi nr nc).length - (i+1),by omega,0,i+1,rfl,by omega,zqv hno hq hgd,?_,rfl⟩
   simp [Env.put,Env.of]
  ·skip
   have ql:=z0q hq1
   have hde:decide (zd3 q=w)=true:=decide_eq_true hq2
   have hgd:zfk w q=true:=by rw [zml,decide_eq_true hq0,hq1,hde]; rfl
   have hlq:(((rP q).length:Int) == (w.length:Int))=true:=by rw [beq_iff_eq]; omega
   simp(disch:=omega)only[↓RU,RV,RH,↓reduceIte,qE,reduceCtorEq,if_pos,qN,w64,↓RS,RG,qA,qM,qL,ty2,zab,ty6,zaa,zac,hle,hrm,hlq,hq1,hde]
   refine zad.pc (zep hqS) rfl (.inl rfl) ?_
   simp(disch:=omega)only[↓RU,RV,RH,↓reduceIte,qE,reduceCtorEq,if_pos,qN,w64,↓RS,RG,qA,qM,qL,ty2,zab,ty6,zaa,zac,hle,hrm,hlq,hq1,hde]
   refine zad.pc (zkk hqS) rfl (.inl rfl) ?_
   simp(disch:=omega)only[↓RU,RV,RH,↓reduceIte,qE,reduceCtorEq,if_pos,qN,w64,↓RS,RG,qA,qM,qL,ty2,zab,ty6,zaa,zac,hle,hrm,hlq,hq1,hde]
   refine zad.pc (zq5 hqS hq1) rfl (.inl rfl) ?_
   simp(disch:=omega)only[↓RU,RV,RH,↓reduceIte,qE,reduceCtorEq,if_pos,qN,w64,↓RS,RG,qA,qM,qL,ty2,zab,ty6,zaa,zac,hle,hrm,hlq,hq1,hde]
   refine zad.pc (ztk (p:=zd3 q) (q:=w) (by omega) (by omega)) rfl (.inl rfl) ?_
   simp(disch:=omega)only[↓RU,RV,RH,↓reduceIte,qE,reduceCtorEq,if_pos,qN,w64,↓RS,RG,qA,qM,qL,ty2,zab,ty6,zaa,zac,hle,hrm,hlq,hq1,hde]
   apply hK;clear hK K
   refine W.cond rfl (fun h2c=>?_) (fun h2c=>?_)
   ·try simp only[RL]at h2c
    refine W.r fun K hK=>?_
    simp(disch:=omega)only[↓RU,RV,RH,↓reduceIte,qE,reduceCtorEq,if_pos,↓RS,RG,qA,qM,qL,ty2,ty6,zac,hle]
    apply hK;clear hK K
    refine W.ret ?_
    refine XBlock.ret ?_
    refine XThen.ret ?_
    refine XThen.ret ?_
    refine XBlock.ret ?_
    refine XThen.ret ?_
    refine Br rfl ?_
    rw [yeo hno hq hgd]
    rfl
   try simp only[RL]at h2c
   exact absurd h2c (by simp)
  skip
  have ql:=z0q hq1
  have hde:decide (zd3 q=w)=false:=decide_eq_false hq2
  have hgd:zfk w q=false:=by rw [zml,hq1,hde,Bool.true_and,Bool.and_false]
  have hlq:(((rP q).length:Int) == (w.length:Int))=true:=by rw [beq_iff_eq]; omega
  simp(disch:=omega)only[↓RU,RV,RH,↓reduceIte,qE,reduceCtorEq,if_pos,qN,w64,↓RS,RG,qA,qM,qL,ty2,zab,ty6,zaa,zac,hle,hrm,hlq,hq1,hde]
  refine zad.pc (zep hqS) rfl (.inl rfl) ?_
  simp(disch:=omega)only[↓RU,RV,RH,↓reduceIte,qE,reduceCtorEq,if_pos,qN,w64,↓RS,RG,qA,qM,qL,ty2,zab,ty6,zaa,zac,hle,hrm,hlq,hq1,hde]
  refine zad.pc (zkk hqS) rfl (.inl rfl) ?_
  simp(disch:=omega)only[↓RU,RV,RH,↓reduceIte,qE,reduceCtorEq,if_pos,qN,w64,↓RS,RG,qA,qM,qL,ty2,zab,ty6,zaa,zac,hle,hrm,hlq,hq1,hde]
  refine zad.pc (zq5 hqS hq1) rfl (.inl rfl) ?_
  simp(disch:=omega)only[↓RU,RV,RH,↓reduceIte,qE,reduceCtorEq,if_pos,qN,w64,↓RS,RG,qA,qM,qL,ty2,zab,ty6,zaa,zac,hle,hrm,hlq,hq1,hde]
  refine zad.pc (ztk (p:=zd3 q) (q:=w) (by omega) (by omega)) rfl (.inl rfl) ?_
  simp(disch:=omega)only[↓RU,RV,RH,↓reduceIte,qE,reduceCtorEq,if_pos,qN,w64,↓RS,RG,qA,qM,qL,ty2,zab,ty6,zaa,zac,hle,hrm,hlq,hq1,hde]
  apply hK;clear hK K
  refine W.cond rfl (fun h2c=>?_) (fun h2c=>?_)
  ·try simp only[RL]at h2c
   exact absurd h2c (by simp)
  try simp only[RL]at h2c
  refine W.skip ?_
  refine XbN ?_
  refine xn ?_
  refine W.k fun K hK=>?_
  simp(disch:=omega)only[↓RU,RV,RH,↓reduceIte,qE,reduceCtorEq,if_pos,w64,↓RS,RG,qA,qM,qL,zaa]
  apply hK;clear hK K
  refine xn ?_
  refine ⟨(zfi nr nc).length - (i+1),by omega,0,i+1,rfl,by omega,zqv hno hq hgd,?_,rfl⟩
  simp [Env.put,Env.of]
 try simp only[RL]at h1c
 obtain rfl:i=(zfi nr nc).length:=by omega
 rw [List.take_length]at hno
 refine W.exit ?_
 refine xe ?_
 refine xe ?_
 refine XBlock.hit ?_
 refine xn ?_
 refine W.r fun K hK=>?_
 simp(disch:=omega)only[↓RU,RV,RH,↓reduceIte,qE,reduceCtorEq,if_pos,qN,↓RS,RG,qA,qM,qL]
 refine zad.pc (zew) rfl (.inl rfl) ?_
 simp(disch:=omega)only[↓RU,RV,RH,↓reduceIte,qE,reduceCtorEq,if_pos,qN,↓RS,RG,qA,qM,qL]
 apply hK;clear hK K
 refine W.ret ?_
 refine Br rfl ?_
 rw [hno]
 rfl

section
section
variable {P:Program} {T:Tab} {F0:Nat→Prop} {G0:GSt} {w0:World} {N:Nat}
theorem z07 {R:Option Nat} {nn:Nat} (hT:zbr P T) {ops:Array Oper} {effs pend keep:List Nat} {Q:Env→Store→Prop} {i:Nat} {r1 r2 r3:List Nat} {e:Env} {F:Nat→Prop} {G:GSt} {a:Act} {w:World}
  (hnc:∀ o:Oper,ops[i]?=some o→∀ c,o.op ≠ .call c)
  (h1:zcs P T ops effs pend keep Q (i::r1) e G.er) (h2:zcs P T ops effs pend keep Q (i::r2) e G.er) (h3:zcs P T ops effs pend keep Q (i::r3) e G.er) (hi:Inv F G w) (he:ze7 w.heap F G e a) (hn:Next F0 G0 w0 F G w) (hs:a.tmps.size=N) (hd:Marks w0 a.defers w)
  (hdst:∀ o∈ops.toList,∀ d,o.dst=some d→d<N) {Qx:Exit→Act→World→Prop} {K:Act→World→Prop}
  (hK:∀ e' F' G' a' w',zcs P T ops effs pend keep Q r1 e' G'.er→zcs P T ops effs pend keep Q r2 e' G'.er→zcs P T ops effs pend keep Q r3 e' G'.er→Inv F' G' w'→ze7 w'.heap F' G' e' a'→Next F0 G0 w0 F' G' w'→a'.tmps.size=N→Marks w0 a'.defers w'→K a' w') :
  wpOpIn (fnc R) nn P ops Qx i K a w:=by
 simp only[zcs]at h1 h2 h3
 unfold wpOpIn
 cases ho:ops[i]? with
 | none=>rw [ho]at h1; exact h1.elim
 | some o =>
  rw [ho]at h1 h2 h3
  have hnc:=hnc o ho
  have hd1:∀ t,o.dst=some t→t<a.tmps.size:=fun t ht=>by
   rw [hs]; exact hdst o (List.mem_of_getElem? (i:=i) (by simpa using ho)) t ht
  simp only at h1 h2 h3 ⊢
  rcases zha he (zn5 (zn5 h1 h2) h3) with ⟨hw,⟨h1,h2⟩,h3⟩ | ⟨hw,⟨h1,h2⟩,h3⟩
  ·rw [if_pos hw]
   split at h1
   ·rename_i hc
    rw [if_pos hc]at h2 h3
    refine zf7 hT hi he (zrj hnc (zrj hnc h1 h2) h3) ?_
    intro v cv F' G' w' hk i1 i2 i3
    exact hK _ _ _ _ _ hk.1.1.2 hk.1.2.2 hk.2.2 i1 ((he.next hi i2).put _ hd1 i3) (hn.trans i2) (by rw [zd7]; exact hs) (by rw [zcg]; exact hd.next hi i2)
   ·rename_i hc
    rw [if_neg hc]at h2 h3
    rw [zcp]at h1 h2 h3
    obtain ⟨v,f1,_,f3⟩:=h1
    obtain ⟨v',g1,_,g3⟩:=h2
    obtain ⟨v2,q1,_,q3⟩:=h3
    have hv:v=v':=by
     have hop:=zrj hnc (zjz f1) (zjz g1)
     have key:∀ {op:Op},(∀ c,op ≠ .call c)→pFl P T G.er e op v→pFl P T G.er e op v'→v=v':=by
      intro op hc a1 a2
      cases op with
      | call c=>exact absurd rfl (hc c)
      | _=>exact Option.some.inj (a1.symm.trans a2)
     exact key hnc f1 g1
    subst hv
    have hv2:v=v2:=by
     have key:∀ {op:Op},(∀ c,op ≠ .call c)→pFl P T G.er e op v→pFl P T G.er e op v2→v=v2:=by
      intro op hc a1 a2
      cases op with
      | call c=>exact absurd rfl (hc c)
      | _=>exact Option.some.inj (a1.symm.trans a2)
     exact key hnc f1 q1
    subst hv2
    refine zf7 hT hi he (zjz f1) ?_
    rintro v' cv F' G' w' ⟨rfl,hS⟩ i1 i2 i3
    exact hK _ _ _ _ _ (by rw [hS]; exact f3) (by rw [hS]; exact g3) (by rw [hS]; exact q3) i1 ((he.next hi i2).put _ hd1 i3) (hn.trans i2) (by rw [zd7]; exact hs) (by rw [zcg]; exact hd.next hi i2)
  rw [if_neg (by simp [hw])]
  exact ⟨fun _ _=>trivial,hK _ _ _ _ _ h1 h2 h3 hi (zkb hi he _ hd1) hn (by rw [zd7]; exact hs) (by rw [zcg]; exact hd)⟩
theorem z4b {R:Option Nat} {nn:Nat} (hT:zbr P T) {ops:Array Oper} {effs pend keep:List Nat} {Q:Env→Store→Prop} (hdst:∀ o∈ops.toList,∀ d,o.dst=some d→d<N)
  (hdep:∀ (i:Nat) o,ops[i]?=some o→∀ e∈o.after.toList,Region.binds .any e=true→e.on<ops.size) {x0 y0:Nat} (hxy:x0≠y0) (hno1:((prs ops).getD x0 0).testBit y0=false) (hno2:((prs ops).getD y0 0).testBit x0=false)
  (hnc:∀ (i:Nat) (o:Oper),ops[i]?=some o→i=x0∨i=y0∨(∀ c,o.op ≠ .call c)∨((prs ops).getD i 0).testBit x0=true) :
  ∀ (fuel:Nat) (listed:Array Bool) (l l':List Nat) {e:Env} {F:Nat→Prop} {G:GSt} {a:Act} {w:World},l.length=fuel→l'.length=fuel→x0∈l→y0∈l →
   l.Pairwise (fun x i=>zeg ops (prs ops) effs pend x i=true∨(x=x0∧i=y0))→l'.Pairwise (fun x i=>zeg ops (prs ops) effs pend x i=true∨(x=y0∧i=x0))→l.Nodup→l'.Nodup→(∀ x∈l,((prs ops).getD x 0).testBit x=false) →
   listed.size=ops.size→(∀ i,i∈l↔i<ops.size∧listed.getD i true=false)→(∀ i,i∈l'↔i<ops.size∧listed.getD i true=false) →
   (∀ i x,listed.getD i false=true→((prs ops).getD i 0).testBit x=true→x<ops.size→listed.getD x true=true) →
   zcs P T ops effs pend keep Q l e G.er→zcs P T ops effs pend keep Q l' e G.er→Inv F G w→ze7 w.heap F G e a→Next F0 G0 w0 F G w→a.tmps.size=N→Marks w0 a.defers w →
   wpAnyIn (fnc R) nn P .any ops (Sto F0 G0 w0 N (Nrm Q)) fuel listed a w:=by
 intro fuel
 induction fuel with
 | zero =>
  intro listed l l' e F G a w hl hl' hx0 hy0 hp hp' hnd hnd' hself hsz hmem hmem' hcl h h' hi he hn hs hd
  have hl0:l=[]:=List.eq_nil_of_length_eq_zero hl
  subst hl0
  simp at hx0
 | succ fuel ih =>
  intro listed l l' e F G a w hl hl' hx0 hy0 hp hp' hnd hnd' hself hsz hmem hmem' hcl h h' hi he hn hs hd
  have hmm:∀ i,i∈l↔i∈l':=fun i=>(hmem i).trans (hmem' i).symm
  have bound:∀ i x,((prs ops).getD i 0).testBit x=true→x<ops.size:=by
   have key:∀ n i x,i<n→((prs ops).getD i 0).testBit x=true→x<ops.size:=by
    intro n
    induction n with
    | zero=>intro i x h; omega
    | succ n ihn =>
     intro i x hin hx
     obtain ⟨o,ho,ed,h1,h2,h3⟩:=zg0 hx
     rcases h3 with rfl | ⟨h3,h4⟩
     ·exact hdep i o ho ed h1 h2
     exact ihn ed.on x (by omega) h4
   exact fun i x=>key (i+1) i x (Nat.lt_succ_self _)
  have facts:∀ i,i∈Region.ready .any ops listed→i∈l∧∃ q,ops[i]?=some q∧∀ e∈q.after.toList,Region.binds .any e=true→listed.getD e.on false=true:=by
   intro i hr
   unfold Region.ready at hr
   rw [List.mem_filter]at hr
   obtain ⟨h1,h2⟩:=hr
   have hlt:i<ops.size:=by simpa using h1
   rw [Array.getElem?_eq_getElem hlt]at h2
   simp only[qO,Option.getD_some,qB,Bool.not_eq_true']at h2
   refine ⟨(hmem i).2 ⟨hlt,h2.1⟩,ops[i],Array.getElem?_eq_getElem hlt,fun e he hb=>?_⟩
   have:=h2.2
   rw [Array.all_eq_true_iff_forall_mem]at this
   have:=this e (by simpa using he)
   simpa [hb] using this
  have preds:∀ i,i∈Region.ready .any ops listed→∀ x,((prs ops).getD i 0).testBit x=true→listed.getD x true=true:=by
   intro i hr x hx
   obtain ⟨_,q,hq,hdeps⟩:=facts i hr
   have hxl:=bound i x hx
   obtain ⟨o,ho,ed,h1,h2,h3⟩:=zg0 hx
   rw [hq]at ho
   cases ho
   have hl1:=hdeps ed h1 h2
   rcases h3 with rfl | ⟨_,h3⟩
   ·have hlt:ed.on<listed.size:=by rw [hsz]; exact hxl
    rw [Array.getD_eq_getD_getElem?,Array.getElem?_eq_getElem hlt]at hl1 ⊢
    exact hl1
   exact hcl _ _ hl1 h3 hxl
  refine ⟨fun hr0=>?_,fun i hr=>?_⟩
  ·exfalso
   cases l with
   | nil=>simp at hl
   | cons x l =>
    have hx:=(hmem x).1 (by simp)
    have hready:x∈Region.ready .any ops listed:=by
     unfold Region.ready
     rw [List.mem_filter]
     refine ⟨by simpa using hx.1,?_⟩
     rw [Array.getElem?_eq_getElem hx.1]
     simp only[qO,Option.getD_some,qB,Bool.not_eq_true']
     refine ⟨hx.2,?_⟩
     rw [Array.all_eq_true_iff_forall_mem]
     intro ed hed
     cases hb:Region.binds .any ed with
     | false=>simp
     | true =>
      have hon:=hdep x _ (Array.getElem?_eq_getElem hx.1) ed (by simpa using hed) hb
      have hbit:=zob (Array.getElem?_eq_getElem hx.1) (by simpa using hed) hb
      cases hq:listed.getD ed.on true with
      | true =>
       have hlt:ed.on<listed.size:=by rw [hsz]; exact hon
       rw [Array.getD_eq_getD_getElem?,Array.getElem?_eq_getElem hlt]at hq ⊢
       simpa using hq
      | false =>
       exfalso
       have hm:=(hmem ed.on).2 ⟨hon,hq⟩
       rcases List.mem_cons.1 hm with he1 | hm
       ·have:=hself x (by simp)
        rw [he1]at hbit
        rw [hbit]at this
        cases this
       rcases List.rel_of_pairwise_cons hp hm with this | ⟨e1,e2⟩
       ·unfold zeg at this
        rw [hbit]at this
        simp at this
       rw [e1,e2,hno1]at hbit; cases hbit
    rw [hr0]at hready
    simp at hready
  obtain ⟨hil,q,hq,_⟩:=facts i hr
  have hil':=(hmm i).1 hil
  obtain ⟨l1,l2,rfl⟩:=List.append_of_mem hil
  obtain ⟨l3,l4,rfl⟩:=List.append_of_mem hil'
  have good:∀ x,x∈l1++i::l2→zeg ops (prs ops) effs pend x i=true→∃ p,ops[x]?=some p∧effs.contains x=false∧Oper.apart ops p q=true∧(effs.contains i=true→(pend.contains x=true∧pend.contains i=false)∨zly p.op=true):=by
   intro x hx hpair
   have hxm:=(hmem x).1 hx
   have hnb:((prs ops).getD i 0).testBit x=false:=by
    cases hb:((prs ops).getD i 0).testBit x with
    | false=>rfl
    | true=>have:=preds i hr x hb; rw [hxm.2]at this; cases this
   unfold zeg at hpair
   rw [hnb,hq,Array.getElem?_eq_getElem hxm.1]at hpair
   simp only[Bool.false_or,qB,Bool.not_eq_true',Bool.or_eq_true]at hpair
   refine ⟨ops[x],Array.getElem?_eq_getElem hxm.1,hpair.2.1.1,hpair.2.1.2,fun hc=>?_⟩
   rcases hpair.2.2 with (h1 | h1) | h1
   ·rw [hc]at h1; cases h1
   ·exact .inl h1
   exact .inr h1
  have hlt:i<ops.size:=((hmem i).1 hil).1
  have hgetD:∀ j d,(listed.setIfInBounds i true).getD j d=if j=i then true else listed.getD j d:=by
   intro j d
   rw [Array.getD_eq_getD_getElem?,Array.getD_eq_getD_getElem?]
   by_cases hj:j=i
   ·subst hj; simp [hsz,hlt]
   rw [Array.getElem?_setIfInBounds_ne (Ne.symm hj),if_neg hj]
  have nmem:∀ {m1 m2:List Nat},(m1++i::m2).Nodup→i ∉ m1++m2:=by
   intro m1 m2 hnd hm
   have:=List.nodup_append.1 hnd
   rcases List.mem_append.1 hm with h1 | h1
   ·exact this.2.2 i h1 i (by simp) rfl
   exact (List.nodup_cons.1 this.2.1).1 h1
  have nlist:∀ {m1 m2:List Nat},(m1++i::m2).Nodup→(∀ j,j∈m1++i::m2↔j<ops.size∧listed.getD j true=false)→∀ j,j∈m1++m2↔j<ops.size∧(listed.setIfInBounds i true).getD j true=false:=by
   intro m1 m2 hnd hm j
   rw [hgetD]
   by_cases hj:j=i
   ·subst hj
    rw [if_pos rfl]
    exact ⟨fun h=>(nmem hnd h).elim,fun h=>(by cases h.2)⟩
   rw [if_neg hj,← hm j]
   simp [hj]
  have ncl:∀ (j x:Nat),(listed.setIfInBounds i true).getD j false=true→((prs ops).getD j 0).testBit x=true→x<ops.size→(listed.setIfInBounds i true).getD x true=true:=by
   intro j x h1 h2 h3
   rw [hgetD]at h1 ⊢
   by_cases hx:x=i
   ·rw [if_pos hx]
   rw [if_neg hx]
   by_cases hj:j=i
   ·subst hj; exact preds j hr x h2
   rw [if_neg hj]at h1; exact hcl j x h1 h2 h3
  by_cases ix:i=x0
  ·subst ix
   have hfront:=zc2 hq l1 (fun x hx=>good x (by simp [hx]) (by
    rcases (List.pairwise_append.1 hp).2.2 x hx i (by simp) with h1 | ⟨e1,e2⟩
    ·exact h1
    exact absurd e2 hxy)) h
   refine zjw hT hfront hi he hn hs hd hdst ?_
   intro e' F' G' a' w' k1 k2 k3 k4 k5 k6
   refine zjj hT hdst hdep _ _ (l1++l2) (by simp at hl ⊢; omega) ?_ (hnd.sublist (by simp)) (fun x hx=>hself x (by rcases List.mem_append.1 hx with h9 | h9 <;> simp [h9])) (by simp [hsz]) (nlist hnd hmem) ncl k1 k2 k3 k4 k5 k6
   refine (hp.sublist (by simp)).imp_of_mem (S:=fun x i=>zeg ops (prs ops) effs pend x i=true) fun {x y} hx hy hh=>?_
   rcases hh with h1 | ⟨e1,e2⟩
   ·exact h1
   exact absurd (e1 ▸ hx) (nmem hnd)
  by_cases iy:i=y0
  ·subst iy
   have hfront:=zc2 hq l3 (fun x hx=>good x ((hmm x).2 (by simp [hx])) (by
    rcases (List.pairwise_append.1 hp').2.2 x hx i (by simp) with h1 | ⟨e1,e2⟩
    ·exact h1
    exact absurd e2 ix)) h'
   refine zjw hT hfront hi he hn hs hd hdst ?_
   intro e' F' G' a' w' k1 k2 k3 k4 k5 k6
   refine zjj hT hdst hdep _ _ (l3++l4) (by simp at hl' ⊢; omega) ?_ (hnd'.sublist (by simp)) (fun x hx=>hself x ((hmm x).2 (by rcases List.mem_append.1 hx with h9 | h9 <;> simp [h9]))) (by simp [hsz]) (nlist hnd' hmem') ncl k1 k2 k3 k4 k5 k6
   refine (hp'.sublist (by simp)).imp_of_mem (S:=fun x i=>zeg ops (prs ops) effs pend x i=true) fun {x y} hx hy hh=>?_
   rcases hh with h1 | ⟨e1,e2⟩
   ·exact h1
   exact absurd (e1 ▸ hx) (nmem hnd')
  have hf1:=zc2 hq l1 (fun x hx=>good x (by simp [hx]) (by
   rcases (List.pairwise_append.1 hp).2.2 x hx i (by simp) with h1 | ⟨e1,e2⟩
   ·exact h1
   exact absurd e2 iy)) h
  have hf2:=zc2 hq l3 (fun x hx=>good x ((hmm x).2 (by simp [hx])) (by
   rcases (List.pairwise_append.1 hp').2.2 x hx i (by simp) with h1 | ⟨e1,e2⟩
   ·exact h1
   exact absurd e2 ix)) h'
  have hnci:∀ o:Oper,ops[i]?=some o→∀ c,o.op ≠ .call c:=fun o ho=>by
   rcases hnc i o ho with h9 | h9 | h9 | h9
   ·exact absurd h9 ix
   ·exact absurd h9 iy
   ·exact h9
   have:=preds i hr x0 h9
   rw [((hmem x0).1 hx0).2]at this; cases this
  refine zzl hT hnci hf1 hf2 hi he hn hs hd hdst ?_
  intro e' F' G' a' w' k1 k1' k2 k3 k4 k5 k6
  have hx1:x0∈l1++l2:=by have:=hx0; simp only[List.mem_append,List.mem_cons]at this ⊢; rcases this with h9 | h9 | h9 <;> first | exact .inl h9 | exact .inr h9 | exact absurd h9.symm ix
  have hy1:y0∈l1++l2:=by have:=hy0; simp only[List.mem_append,List.mem_cons]at this ⊢; rcases this with h9 | h9 | h9 <;> first | exact .inl h9 | exact .inr h9 | exact absurd h9.symm iy
  exact ih _ (l1++l2) (l3++l4) (by simp at hl ⊢; omega) (by simp at hl' ⊢; omega) hx1 hy1 (hp.sublist (by simp)) (hp'.sublist (by simp)) (hnd.sublist (by simp)) (hnd'.sublist (by simp)) (fun x hx=>hself x (by rcases List.mem_append.1 hx with h9 | h9 <;> simp [h9])) (by simp [hsz])
   (nlist hnd hmem) (nlist hnd' hmem') ncl k1 k1' k2 k3 k4 k5 k6
theorem zz5 {R:Option Nat} {nn:Nat} (hT:zbr P T) {ops:Array Oper} {effs pend keep:List Nat} {Q:Env→Store→Prop} (hdst:∀ o∈ops.toList,∀ d,o.dst=some d→d<N)
  (hdep:∀ (i:Nat) o,ops[i]?=some o→∀ e∈o.after.toList,Region.binds .any e=true→e.on<ops.size) {m a0 b0:Nat} (hma:m≠a0) (hmb:m≠b0) (hab:a0≠b0) (n1:((prs ops).getD m 0).testBit a0=false) (n2:((prs ops).getD a0 0).testBit m=false)
  (n3:((prs ops).getD m 0).testBit b0=false) (n4:((prs ops).getD b0 0).testBit m=false) (hba:((prs ops).getD b0 0).testBit a0=true)
  (hA:∀ o:Oper,ops[a0]?=some o→∀ c,o.op ≠ .call c)
  (hnc:∀ (i:Nat) (o:Oper),ops[i]?=some o→i=m∨i=a0∨i=b0∨(∀ c,o.op ≠ .call c)∨((prs ops).getD i 0).testBit m=true) :
  ∀ (fuel:Nat) (listed:Array Bool) (l l' l'':List Nat) {e:Env} {F:Nat→Prop} {G:GSt} {a:Act} {w:World},l.length=fuel→l'.length=fuel→l''.length=fuel→m∈l→a0∈l→b0∈l →
   l.Pairwise (fun x i=>zeg ops (prs ops) effs pend x i=true∨(x=m∧(i=a0∨i=b0)))→l'.Pairwise (fun x i=>zeg ops (prs ops) effs pend x i=true∨(x=a0∧i=m)∨(x=m∧i=b0))→l''.Pairwise (fun x i=>zeg ops (prs ops) effs pend x i=true∨((x=a0∨x=b0)∧i=m)) →
   l.Nodup→l'.Nodup→l''.Nodup→(∀ x∈l,((prs ops).getD x 0).testBit x=false) →
   listed.size=ops.size→(∀ i,i∈l↔i<ops.size∧listed.getD i true=false)→(∀ i,i∈l'↔i<ops.size∧listed.getD i true=false)→(∀ i,i∈l''↔i<ops.size∧listed.getD i true=false) →
   (∀ i x,listed.getD i false=true→((prs ops).getD i 0).testBit x=true→x<ops.size→listed.getD x true=true) →
   zcs P T ops effs pend keep Q l e G.er→zcs P T ops effs pend keep Q l' e G.er→zcs P T ops effs pend keep Q l'' e G.er→Inv F G w→ze7 w.heap F G e a→Next F0 G0 w0 F G w→a.tmps.size=N→Marks w0 a.defers w →
   wpAnyIn (fnc R) nn P .any ops (Sto F0 G0 w0 N (Nrm Q)) fuel listed a w:=by
 intro fuel
 induction fuel with
 | zero =>
  intro listed l l' l'' e F G a w hl hl' hl'' hx0 hy0 hz0 hp hp' hp'' hnd hnd' hnd'' hself hsz hmem hmem' hmem'' hcl h h' h'' hi he hn hs hd
  have hl0:l=[]:=List.eq_nil_of_length_eq_zero hl
  subst hl0
  simp at hx0
 | succ fuel ih =>
  intro listed l l' l'' e F G a w hl hl' hl'' hx0 hy0 hz0 hp hp' hp'' hnd hnd' hnd'' hself hsz hmem hmem' hmem'' hcl h h' h'' hi he hn hs hd
  have hmm:∀ i,i∈l↔i∈l':=fun i=>(hmem i).trans (hmem' i).symm
  have hmm2:∀ i,i∈l↔i∈l'':=fun i=>(hmem i).trans (hmem'' i).symm
  have bound:∀ i x,((prs ops).getD i 0).testBit x=true→x<ops.size:=by
   have key:∀ n i x,i<n→((prs ops).getD i 0).testBit x=true→x<ops.size:=by
    intro n
    induction n with
    | zero=>intro i x h; omega
    | succ n ihn =>
     intro i x hin hx
     obtain ⟨o,ho,ed,h1,h2,h3⟩:=zg0 hx
     rcases h3 with rfl | ⟨h3,h4⟩
     ·exact hdep i o ho ed h1 h2
     exact ihn ed.on x (by omega) h4
   exact fun i x=>key (i+1) i x (Nat.lt_succ_self _)
  have facts:∀ i,i∈Region.ready .any ops listed→i∈l∧∃ q,ops[i]?=some q∧∀ e∈q.after.toList,Region.binds .any e=true→listed.getD e.on false=true:=by
   intro i hr
   unfold Region.ready at hr
   rw [List.mem_filter]at hr
   obtain ⟨h1,h2⟩:=hr
   have hlt:i<ops.size:=by simpa using h1
   rw [Array.getElem?_eq_getElem hlt]at h2
   simp only[qO,Option.getD_some,qB,Bool.not_eq_true']at h2
   refine ⟨(hmem i).2 ⟨hlt,h2.1⟩,ops[i],Array.getElem?_eq_getElem hlt,fun e he hb=>?_⟩
   have:=h2.2
   rw [Array.all_eq_true_iff_forall_mem]at this
   have:=this e (by simpa using he)
   simpa [hb] using this
  have preds:∀ i,i∈Region.ready .any ops listed→∀ x,((prs ops).getD i 0).testBit x=true→listed.getD x true=true:=by
   intro i hr x hx
   obtain ⟨_,q,hq,hdeps⟩:=facts i hr
   have hxl:=bound i x hx
   obtain ⟨o,ho,ed,h1,h2,h3⟩:=zg0 hx
   rw [hq]at ho
   cases ho
   have hl1:=hdeps ed h1 h2
   rcases h3 with rfl | ⟨_,h3⟩
   ·have hlt:ed.on<listed.size:=by rw [hsz]; exact hxl
    rw [Array.getD_eq_getD_getElem?,Array.getElem?_eq_getElem hlt]at hl1 ⊢
    exact hl1
   exact hcl _ _ hl1 h3 hxl
  refine ⟨fun hr0=>?_,fun i hr=>?_⟩
  ·exfalso
   cases l with
   | nil=>simp at hl
   | cons x l =>
    have hx:=(hmem x).1 (by simp)
    have hready:x∈Region.ready .any ops listed:=by
     unfold Region.ready
     rw [List.mem_filter]
     refine ⟨by simpa using hx.1,?_⟩
     rw [Array.getElem?_eq_getElem hx.1]
     simp only[qO,Option.getD_some,qB,Bool.not_eq_true']
     refine ⟨hx.2,?_⟩
     rw [Array.all_eq_true_iff_forall_mem]
     intro ed hed
     cases hb:Region.binds .any ed with
     | false=>simp
     | true =>
      have hon:=hdep x _ (Array.getElem?_eq_getElem hx.1) ed (by simpa using hed) hb
      have hbit:=zob (Array.getElem?_eq_getElem hx.1) (by simpa using hed) hb
      cases hq:listed.getD ed.on true with
      | true =>
       have hlt:ed.on<listed.size:=by rw [hsz]; exact hon
       rw [Array.getD_eq_getD_getElem?,Array.getElem?_eq_getElem hlt]at hq ⊢
       simpa using hq
      | false =>
       exfalso
       have hm:=(hmem ed.on).2 ⟨hon,hq⟩
       rcases List.mem_cons.1 hm with he1 | hm
       ·have:=hself x (by simp)
        rw [he1]at hbit
        rw [hbit]at this
        cases this
       rcases List.rel_of_pairwise_cons hp hm with this | ⟨e1,e2 | e2⟩
       ·unfold zeg at this
        rw [hbit]at this
        simp at this
       ·rw [e1,e2,n1]at hbit; cases hbit
       rw [e1,e2,n3]at hbit; cases hbit
    rw [hr0]at hready
    simp at hready
  obtain ⟨hil,q,hq,_⟩:=facts i hr
  have hil':=(hmm i).1 hil
  have hil2:=(hmm2 i).1 hil
  obtain ⟨l1,l2,rfl⟩:=List.append_of_mem hil
  obtain ⟨l3,l4,rfl⟩:=List.append_of_mem hil'
  obtain ⟨l5,l6,rfl⟩:=List.append_of_mem hil2
  have good:∀ x,x∈l1++i::l2→zeg ops (prs ops) effs pend x i=true→∃ p,ops[x]?=some p∧effs.contains x=false∧Oper.apart ops p q=true∧(effs.contains i=true→(pend.contains x=true∧pend.contains i=false)∨zly p.op=true):=by
   intro x hx hpair
   have hxm:=(hmem x).1 hx
   have hnb:((prs ops).getD i 0).testBit x=false:=by
    cases hb:((prs ops).getD i 0).testBit x with
    | false=>rfl
    | true=>have:=preds i hr x hb; rw [hxm.2]at this; cases this
   unfold zeg at hpair
   rw [hnb,hq,Array.getElem?_eq_getElem hxm.1]at hpair
   simp only[Bool.false_or,qB,Bool.not_eq_true',Bool.or_eq_true]at hpair
   refine ⟨ops[x],Array.getElem?_eq_getElem hxm.1,hpair.2.1.1,hpair.2.1.2,fun hc=>?_⟩
   rcases hpair.2.2 with (h1 | h1) | h1
   ·rw [hc]at h1; cases h1
   ·exact .inl h1
   exact .inr h1
  have hlt:i<ops.size:=((hmem i).1 hil).1
  have hgetD:∀ j d,(listed.setIfInBounds i true).getD j d=if j=i then true else listed.getD j d:=by
   intro j d
   rw [Array.getD_eq_getD_getElem?,Array.getD_eq_getD_getElem?]
   by_cases hj:j=i
   ·subst hj; simp [hsz,hlt]
   rw [Array.getElem?_setIfInBounds_ne (Ne.symm hj),if_neg hj]
  have nmem:∀ {m1 m2:List Nat},(m1++i::m2).Nodup→i ∉ m1++m2:=by
   intro m1 m2 hnd hm
   have:=List.nodup_append.1 hnd
   rcases List.mem_append.1 hm with h1 | h1
   ·exact this.2.2 i h1 i (by simp) rfl
   exact (List.nodup_cons.1 this.2.1).1 h1
  have nlist:∀ {m1 m2:List Nat},(m1++i::m2).Nodup→(∀ j,j∈m1++i::m2↔j<ops.size∧listed.getD j true=false)→∀ j,j∈m1++m2↔j<ops.size∧(listed.setIfInBounds i true).getD j true=false:=by
   intro m1 m2 hnd hm j
   rw [hgetD]
   by_cases hj:j=i
   ·subst hj
    rw [if_pos rfl]
    exact ⟨fun h=>(nmem hnd h).elim,fun h=>(by cases h.2)⟩
   rw [if_neg hj,← hm j]
   simp [hj]
  have ncl:∀ (j x:Nat),(listed.setIfInBounds i true).getD j false=true→((prs ops).getD j 0).testBit x=true→x<ops.size→(listed.setIfInBounds i true).getD x true=true:=by
   intro j x h1 h2 h3
   rw [hgetD]at h1 ⊢
   by_cases hx:x=i
   ·rw [if_pos hx]
   rw [if_neg hx]
   by_cases hj:j=i
   ·subst hj; exact preds j hr x h2
   rw [if_neg hj]at h1; exact hcl j x h1 h2 h3
  have sub9:∀ {m1 m2:List Nat} {x:Nat},x∈m1++m2→x∈m1++i::m2:=fun {m1 m2 x} hx=>by rcases List.mem_append.1 hx with h9 | h9 <;> simp [h9]
  by_cases ix:i=m
  ·subst ix
   have hfront:=zc2 hq l1 (fun x hx=>good x (by simp [hx]) (by
    rcases (List.pairwise_append.1 hp).2.2 x hx i (by simp) with h1 | ⟨e1,e2 | e2⟩
    ·exact h1
    ·exact absurd e2 hma
    exact absurd e2 hmb)) h
   refine zjw hT hfront hi he hn hs hd hdst ?_
   intro e' F' G' a' w' k1 k2 k3 k4 k5 k6
   refine zjj hT hdst hdep _ _ (l1++l2) (by simp at hl ⊢; omega) ?_ (hnd.sublist (by simp)) (fun x hx=>hself x (sub9 hx)) (by simp [hsz]) (nlist hnd hmem) ncl k1 k2 k3 k4 k5 k6
   refine (hp.sublist (by simp)).imp_of_mem (S:=fun x i=>zeg ops (prs ops) effs pend x i=true) fun {x y} hx hy hh=>?_
   rcases hh with h1 | ⟨e1,e2⟩
   ·exact h1
   exact absurd (e1 ▸ hx) (nmem hnd)
  by_cases iy:i=a0
  ·subst iy
   have hf2:=zc2 hq l3 (fun x hx=>good x ((hmm x).2 (by simp [hx])) (by
    rcases (List.pairwise_append.1 hp').2.2 x hx i (by simp) with h1 | ⟨e1,e2⟩ | ⟨e1,e2⟩
    ·exact h1
    ·exact absurd e2 ix
    exact absurd e2 hab)) h'
   have hf3:=zc2 hq l5 (fun x hx=>good x ((hmm2 x).2 (by simp [hx])) (by
    rcases (List.pairwise_append.1 hp'').2.2 x hx i (by simp) with h1 | ⟨e1,e2⟩
    ·exact h1
    exact absurd e2 ix)) h''
   refine zzl hT hA hf2 hf3 hi he hn hs hd hdst ?_
   intro e' F' G' a' w' k1 k1' k2 k3 k4 k5 k6
   have rem:∀ {z:Nat},z∈l1++i::l2→z≠i→z∈l3++l4:=fun {z} hz hne=>by
    have:=(hmm z).1 hz
    simp only[List.mem_append,List.mem_cons]at this ⊢
    rcases this with h9 | h9 | h9
    ·exact .inl h9
    ·exact absurd h9 hne
    exact .inr h9
   refine z4b hT hdst hdep hmb n3 n4 (fun j o ho=>?_) _ _ (l3++l4) (l5++l6) (by simp at hl' ⊢; omega) (by simp at hl'' ⊢; omega) (rem hx0 hma) (rem hz0 hab.symm) ?_ ?_ (hnd'.sublist (by simp)) (hnd''.sublist (by simp)) (fun x hx=>hself x ((hmm x).2 (sub9 hx))) (by simp [hsz]) (nlist hnd' hmem') (nlist hnd'' hmem'') ncl k1 k1' k2 k3 k4 k5 k6
   ·rcases hnc j o ho with h9 | h9 | h9 | h9 | h9
    ·exact .inl h9
    ·subst h9; exact .inr (.inr (.inl (hA o ho)))
    ·exact .inr (.inl h9)
    ·exact .inr (.inr (.inl h9))
    exact .inr (.inr (.inr h9))
   ·refine (hp'.sublist (by simp)).imp_of_mem (S:=fun x i=>zeg ops (prs ops) effs pend x i=true∨(x=m∧i=b0)) fun {x y} hx hy hh=>?_
    rcases hh with h1 | ⟨e1,e2⟩ | h1
    ·exact .inl h1
    ·exact absurd (e1 ▸ hx) (nmem hnd')
    exact .inr h1
   refine (hp''.sublist (by simp)).imp_of_mem (S:=fun x i=>zeg ops (prs ops) effs pend x i=true∨(x=b0∧i=m)) fun {x y} hx hy hh=>?_
   rcases hh with h1 | ⟨e1 | e1,e2⟩
   ·exact .inl h1
   ·exact absurd (e1 ▸ hx) (nmem hnd'')
   exact .inr ⟨e1,e2⟩
  have iz:i≠b0:=fun hz=>by
   have:=preds i hr a0 (by rw [hz]; exact hba)
   rw [((hmem a0).1 hy0).2]at this; cases this
  have hf1:=zc2 hq l1 (fun x hx=>good x (by simp [hx]) (by
   rcases (List.pairwise_append.1 hp).2.2 x hx i (by simp) with h1 | ⟨e1,e2 | e2⟩
   ·exact h1
   ·exact absurd e2 iy
   exact absurd e2 iz)) h
  have hf2:=zc2 hq l3 (fun x hx=>good x ((hmm x).2 (by simp [hx])) (by
   rcases (List.pairwise_append.1 hp').2.2 x hx i (by simp) with h1 | ⟨e1,e2⟩ | ⟨e1,e2⟩
   ·exact h1
   ·exact absurd e2 ix
   exact absurd e2 iz)) h'
  have hf3:=zc2 hq l5 (fun x hx=>good x ((hmm2 x).2 (by simp [hx])) (by
   rcases (List.pairwise_append.1 hp'').2.2 x hx i (by simp) with h1 | ⟨e1,e2⟩
   ·exact h1
   exact absurd e2 ix)) h''
  have hnci:∀ o:Oper,ops[i]?=some o→∀ c,o.op ≠ .call c:=fun o ho=>by
   rcases hnc i o ho with h9 | h9 | h9 | h9 | h9
   ·exact absurd h9 ix
   ·exact absurd h9 iy
   ·exact absurd h9 iz
   ·exact h9
   have:=preds i hr m h9
   rw [((hmem m).1 hx0).2]at this; cases this
  refine z07 hT hnci hf1 hf2 hf3 hi he hn hs hd hdst ?_
  intro e' F' G' a' w' k1 k1' k1'' k2 k3 k4 k5 k6
  have keepm:∀ {z:Nat},z∈l1++i::l2→z≠i→z∈l1++l2:=fun {z} hz hne=>by
   simp only[List.mem_append,List.mem_cons]at hz ⊢
   rcases hz with h9 | h9 | h9
   ·exact .inl h9
   ·exact absurd h9 hne
   exact .inr h9
  exact ih _ (l1++l2) (l3++l4) (l5++l6) (by simp at hl ⊢; omega) (by simp at hl' ⊢; omega) (by simp at hl'' ⊢; omega) (keepm hx0 (Ne.symm ix)) (keepm hy0 (Ne.symm iy)) (keepm hz0 (Ne.symm iz)) (hp.sublist (by simp)) (hp'.sublist (by simp)) (hp''.sublist (by simp)) (hnd.sublist (by simp)) (hnd'.sublist (by simp)) (hnd''.sublist (by simp)) (fun x hx=>hself x (sub9 hx)) (by simp [hsz])
   (nlist hnd hmem) (nlist hnd' hmem') (nlist hnd'' hmem'') ncl k1 k1' k1'' k2 k3 k4 k5 k6
def z6p (ops:Array Oper) (l l' l'' effs pend:List Nat) (m a b:Nat):Bool :=
 let B:=prs ops
 zj0 (fun x i=>zeg ops B effs pend x i || (x == m && (i == a || i == b))) l && zj0 (fun x i=>zeg ops B effs pend x i || ((x == a && i == m) || (x == m && i == b))) l' && zj0 (fun x i=>zeg ops B effs pend x i || ((x == a || x == b) && i == m)) l'' &&
 l.length == ops.size && l'.length == ops.size && l''.length == ops.size && l.all (fun x=>decide (x<ops.size) && !(B.getD x 0).testBit x) && l'.all (fun x=>decide (x<ops.size)) && l''.all (fun x=>decide (x<ops.size)) &&
 ((List.range ops.size).all l.contains) && ((List.range ops.size).all l'.contains) && ((List.range ops.size).all l''.contains) && (ops.toList.all fun o=>o.after.toList.all fun e => !Region.binds .any e || decide (e.on<ops.size)) &&
 !(m == a) && !(m == b) && !(a == b) && l.contains m && l.contains a && l.contains b && !(B.getD m 0).testBit a && !(B.getD a 0).testBit m && !(B.getD m 0).testBit b && !(B.getD b 0).testBit m && (B.getD b 0).testBit a &&
 (List.range ops.size).all fun i=>i == m || i == b || (match ops[i]? with | some o=>(match o.op with | .call _=>false | _=>true) | none=>true) || (!(i == a) && (B.getD i 0).testBit m)
theorem W.region_three {Q:Exit→Env→Store→Prop} {e:Env} {S:Store} {id:Nat} {ops:Array Oper} (l l' l'' effs pend keep:List Nat) (m a b:Nat) (hc:z6p ops l l' l'' effs pend m a b=true) (h:zcs P T ops effs pend keep (Q .normal) l e S) (h':zcs P T ops effs pend keep (Q .normal) l' e S) (h'':zcs P T ops effs pend keep (Q .normal) l'' e S) :
  W P T (.region id ops true) Q e S:=by
 refine ⟨?_⟩
 intro hT hm F0 G0 w0 N F G act w h3 h4 h5 h6 h7 h8 h9 R nn
 subst h3
 unfold z6p at hc
 simp only[qB,beq_iff_eq,List.all_eq_true,decide_eq_true_eq,Bool.not_eq_true',List.contains_eq_mem,List.mem_range,Bool.or_eq_true,beq_eq_false_iff_ne]at hc
 obtain ⟨⟨⟨⟨⟨⟨⟨⟨⟨⟨⟨⟨⟨⟨⟨⟨⟨⟨⟨⟨⟨⟨⟨⟨c1,c1'⟩,c1''⟩,c2⟩,c2'⟩,c2''⟩,c3⟩,c3'⟩,c3''⟩,c4⟩,c4'⟩,c4''⟩,c5⟩,d1⟩,d2⟩,d3⟩,e1⟩,e2⟩,e3⟩,b1⟩,b2⟩,b3⟩,b4⟩,b5⟩,c11⟩:=hc
 obtain ⟨p1,p2⟩:=zfg c1
 obtain ⟨p1',p2'⟩:=zfg c1'
 obtain ⟨p1'',p2''⟩:=zfg c1''
 have hin:∀ i,i<ops.size↔i<ops.size∧(Array.replicate ops.size false).getD i true=false:=by
  intro i
  constructor
  ·intro hi; refine ⟨hi,?_⟩; rw [Array.getD_eq_getD_getElem?]; simp [hi]
  exact fun h=>h.1
 have hcall:∀ (i:Nat) (o:Oper),ops[i]?=some o→i=m∨i=b∨(∀ c,o.op ≠ .call c)∨(i≠a∧((prs ops).getD i 0).testBit m=true):=by
  intro i o ho
  have hi:i<ops.size:=(Array.getElem?_eq_some_iff.1 ho).1
  rcases c11 i hi with ((h9 | h9) | h9) | h9
  ·exact .inl h9
  ·exact .inr (.inl h9)
  ·rw [ho]at h9
   refine .inr (.inr (.inl fun c hcc=>?_))
   simp [hcc]at h9
  exact .inr (.inr (.inr h9))
 refine wpIn_mono (wpIn_region_any hm (zz5 (Q:=Q .normal) hT (znt h9) ?_ d1 d2 d3 b1 b2 b3 b4 b5 ?_ ?_ ops.size (Array.replicate ops.size false) l l' l'' c2 c2' c2'' (by simpa using e1) (by simpa using e2) (by simpa using e3) (p1.imp fun h=>by simpa using h) (p1'.imp fun h=>by simpa using h) (p1''.imp fun h=>by simpa using h) p2 p2' p2'' (fun x hx=>(c3 x hx).2) (by simp) ?_ ?_ ?_ ?_ h h' h'' (h4.drew) h5 (h6.drew) h7 h8)) ztr
 ·intro i o ho ed hed hb
  have hmem:o∈ops.toList:=by
   have:=Array.mem_of_getElem? ho
   simpa using this
  have:=c5 o hmem ed hed
  rw [hb]at this
  simpa using this
 ·intro o ho c hcc
  rcases hcall a o ho with h9 | h9 | h9 | h9
  ·exact d1 h9.symm
  ·exact d3 h9
  ·exact h9 c hcc
  exact h9.1 rfl
 ·intro i o ho
  rcases hcall i o ho with h9 | h9 | h9 | h9
  ·exact .inl h9
  ·exact .inr (.inr (.inl h9))
  ·exact .inr (.inr (.inr (.inl h9)))
  exact .inr (.inr (.inr (.inr h9.2)))
 ·exact fun i=>⟨fun hi=>(hin i).1 (c3 i hi).1,fun hi=>c4 i hi.1⟩
 ·exact fun i=>⟨fun hi=>(hin i).1 (c3' i hi),fun hi=>c4' i hi.1⟩
 ·exact fun i=>⟨fun hi=>(hin i).1 (c3'' i hi),fun hi=>c4'' i hi.1⟩
 intro i x hx
 rw [Array.getD_eq_getD_getElem?]at hx
 simp only[Array.getElem?_replicate]at hx
 split at hx <;> cases hx
def zmf (P:Program) (T:Tab) (ds:List (Option Tmp)) (pd:List (Option Tmp)):List Oper→Env→Store→(Env→Store→Prop)→Prop
 | [],e,S,K=>K e S
 | o::r,e,S,K =>
  if pd.contains o.dst then zdk o.op=true∧o.guard=none∧∃ v,(∀ S',zdx T S' e o.op=some v)∧zmf P T ds pd r (e.put o.dst v) S K
  else zbg false P T ds [o] e S fun e' S'=>zmf P T ds pd r e' S' K
theorem zbj {e:Env} {S:Store} {ds pd:List (Option Tmp)} {r:List Oper} {o:Oper} {K:Env→Store→Prop} (h0:pd.contains o.dst=false)
  (h:zbg false P T ds [o] e S fun e' S'=>zmf P T ds pd r e' S' K):zmf P T ds pd (o::r) e S K:=by
 rw [zmf,if_neg (by rw [h0]; exact Bool.false_ne_true)]; exact h
theorem zg3 {e:Env} {S:Store} {ds pd:List (Option Tmp)} {r:List Oper} {o:Oper} {K:Env→Store→Prop} (v:PV) (h0:pd.contains o.dst=true) (h1:zdk o.op=true) (h2:o.guard=none)
  (h3:∀ S',zdx T S' e o.op=some v) (h:zmf P T ds pd r (e.put o.dst v) S K):zmf P T ds pd (o::r) e S K:=by
 rw [zmf,if_pos h0]; exact ⟨h1,h2,v,h3,h⟩
theorem zqn {e:Env} {S:Store} {ds pd:List (Option Tmp)} {K:Env→Store→Prop} (h:K e S):zmf P T ds pd [] e S K:=h
theorem zkq {S:Store} {e:Env} {t:TypeId} {x:Operand} {lo hi:Option Operand}:zdx T S e (.slice t x lo hi none)=zt1 T S t (e.ev x) (lo.map e.ev) (hi.map e.ev):=by
 cases lo <;> cases hi <;> rfl
theorem zln {all:List Oper} {effs pend:List Nat} {pd:List (Option Tmp)} {K:Env→Store→Prop} (heff:∀ (i:Nat) (o:Oper),all[i]?=some o→(effs.contains i=false↔zdk o.op=true)) (hpd:∀ (i:Nat) (o:Oper),all[i]?=some o→pend.contains i=pd.contains o.dst):∀ (r:List Nat) (l:List Oper) {e:Env} {S:Store},r.map (all[·]?)=l.map some →
  zmf P T (dsts all) pd l e S K→zcs P T all.toArray effs pend [] K r e S
 | [],l,e,S,hl,h=>by
  cases l with
  | nil=>exact h
  | cons o l=>simp at hl
 | i::r,l,e,S,hl,h=>by
  cases l with
  | nil=>simp at hl
  | cons o l =>
   simp only[List.map_cons,List.cons.injEq]at hl
   obtain ⟨ho,hl⟩:=hl
   have hpi:=hpd i o ho
   simp only[zcs,List.getElem?_toArray,ho]
   unfold zmf at h
   split at h
   ·rename_i hp
    obtain ⟨hf,hg,v,h1,h2⟩:=h
    unfold zdi gdec
    rw [hg]
    simp only
    have hce:=(heff i o ho).2 hf
    rw [if_neg (by rw [hce]; exact Bool.false_ne_true),zcp]
    have hfl:∀ S',pFl P T S' e o.op v:=by
     intro S'
     have:=h1 S'
     have:z45 P T S' e o.op fun u=>u=v:=by
      revert this hf
      generalize o.op=op
      intro hf this
      have hpg:zie (zdx T S' e op) fun u=>u=v:=by rw [this]; rfl
      cases op with
      | call c =>
       obtain ⟨cal,xs,ts⟩:=c
       cases cal with
       | value f=>simp [zdk]at hf
       | _=>exact hpg
      | _=>exact hpg
     obtain ⟨u,h3,rfl⟩:=zcp.1 this
     exact h3
    refine ⟨v,hfl S,?_,zln heff hpd r l hl h2⟩
    split
    ·exact fun S' _=>hfl S'
    trivial
   rename_i hp
   unfold zbg at h
   rw [zjp]at h
   unfold zdi
   split at h
   ·rename_i hg
    rw [hg]
    simp only
    split
    ·exact zd6 (fun v S' hv=>⟨.inr (by intro o ho; cases ho),zln heff hpd r l hl hv⟩) (zj7 h)
    rename_i hc
    have:=zki ((heff i o ho).1 (by simpa using hc)) h
    rw [zcp]at this ⊢
    obtain ⟨v,h1,h2⟩:=this
    exact ⟨v,h1,by rw [if_neg (by rw [hpi]; exact hp)]; trivial,zln heff hpd r l hl h2⟩
   ·rename_i hg; rw [hg]; exact zln heff hpd r l hl h
   exact h.elim
theorem W.draw_three {Q:Exit→Env→Store→Prop} {e:Env} {S:Store} {id:Nat} {l r1 r2 r3:List Oper} (l1 l2 l3 pend:List Nat) (pd:List (Option Tmp)) (m a b:Nat) (hc:z6p l.toArray l1 l2 l3 (zcf l 0) pend m a b=true) (hp:(l.zipIdx.all fun q=>pend.contains q.2 == pd.contains q.1.dst)=true)
  (hr:l1.map (l[·]?)=r1.map some) (hr2:l2.map (l[·]?)=r2.map some) (hr3:l3.map (l[·]?)=r3.map some)
  (h1:∀ K:Env→Store→Prop,(∀ e S,Q .normal e S→K e S)→zmf P T (dsts l) pd r1 e S K) (h2:∀ K:Env→Store→Prop,(∀ e S,Q .normal e S→K e S)→zmf P T (dsts l) pd r2 e S K) (h3:∀ K:Env→Store→Prop,(∀ e S,Q .normal e S→K e S)→zmf P T (dsts l) pd r3 e S K):W P T (.region id l.toArray true) Q e S:=by
 have heff:∀ (i:Nat) (o:Oper),l[i]?=some o→((zcf l 0).contains i=false↔zdk o.op=true):=by
  intro i o hio
  have:=ziu l 0 i o hio
  rw [Nat.zero_add]at this
  cases hf:zdk o.op with
  | true =>
   have h9:¬ i∈zcf l 0:=fun h=>by have:=this.1 h; rw [hf]at this; cases this
   simpa using h9
  | false=>have h9:=this.2 hf; simpa using h9
 have hpd:∀ (i:Nat) (o:Oper),l[i]?=some o→pend.contains i=pd.contains o.dst:=fun i o hio=>by
  rw [List.all_eq_true]at hp
  have:=hp (o,i) (List.mem_of_getElem? (i:=i) (by simp [List.getElem?_zipIdx,hio]))
  exact eq_of_beq this
 exact W.region_three l1 l2 l3 (zcf l 0) pend [] m a b hc (zln heff hpd _ _ hr (h1 _ fun _ _ h=>h)) (zln heff hpd _ _ hr2 (h2 _ fun _ _ h=>h)) (zln heff hpd _ _ hr3 (h3 _ fun _ _ h=>h))
end
end




theorem zhs {k:Nat}:((k:Nat):Int)*5=((k*5:Nat):Int):=by omega
def pX (z i v:Nat) (l:List Int):PV:=if i<z then eInts l else .loc 1 v 0 l.length
def pO (z i v:Nat) (l:List Int):List Ob:=if i<z then [] else [.arr v 3 1 (l.map (.int .i64))]
theorem z8p {z i v:Nat} {l:List Int} (h:i<z):pX z i v l=eInts l:=if_pos h
theorem z8l {z i v:Nat} {l:List Int} (h:i<z):pO z i v l=[]:=if_pos h
theorem ybm {z i v:Nat} {l:List Int} (h:¬ i<z):pX z i v l = .loc 1 v 0 l.length:=if_neg h
theorem ybk {z i v:Nat} {l:List Int} (h:¬ i<z):pO z i v l=[.arr v 3 1 (l.map (.int .i64))]:=if_neg h
theorem yfu {l:List Int} {x:PV} (h:l≠[]):x::(l.map (PV.int .i64)).tail=(l.map (PV.int .i64)).set 0 x:=by cases l <;> simp_all
theorem zju {a b:Nat}:((a:Nat):Int)+((b:Nat):Int)=((a+b:Nat):Int):=by omega
theorem z4w {code:Txt} {q vr t:Nat} (hc:code.length≤1048576) (hq:q≤700000):Ev Tryz.prog 67 [.ref 0 vr 0] ⟨[.arr vr 118 2 [eBy code,.int .i64 (q:Int)]],t⟩ fun v S=>∃ (a b q2:Nat),v = .tup [.int .i64 (a:Nat),.int .i64 (b:Nat)]∧a≤100∧b≤100∧q2≤q+10∧S=⟨[.arr vr 118 2 [eBy code,.int .i64 (q2:Int)]],t⟩:=by
 refine Ev.of ⟨Tryz.func67,by kernel_rfl,rfl,by kernel_rfl⟩ zao mixed (by show 1≤Tryz.f67.ntmps; decide) ?_
 refine W.r fun K hK=>?_
 simp(disch:=omega)only[↓RU,RV,RH,↓reduceIte,qE,reduceCtorEq,if_pos,↓RS,RG,qA,qM,qL]
 apply hK;clear hK K
 refine W.r fun K hK=>?_
 simp(disch:=omega)only[↓RU,RV,RH,↓reduceIte,qE,reduceCtorEq,if_pos,qN,w64,↓RS,RG,qA,qM,qL,zaa,zjv]
 refine zad.ev (zdg (q:=q) hc (by omega) 3 (by omega) (by omega)) ?_
 rintro _ _ ⟨k1,rfl,hk1z,hk1,rfl⟩
 have hk1b:=hk1 (by omega)
 simp(disch:=omega)only[↓RU,RV,RH,↓reduceIte,qE,reduceCtorEq,if_pos,qN,w64,↓RS,RG,qA,qM,qL,zaa,zjv,zlf,yad]
 apply hK;clear hK K
 refine W.r fun K hK=>?_
 simp(disch:=omega)only[↓RU,RV,RH,↓reduceIte,qE,reduceCtorEq,if_pos,qN,w64,↓RS,RG,qA,qM,qL,zaa,zjv]
 refine zad.ev (zdg (q:=q+1) hc (by omega) 3 (by omega) (by omega)) ?_
 rintro _ _ ⟨k2,rfl,hk2z,hk2,rfl⟩
 have hk2b:=hk2 (by omega)
 simp(disch:=omega)only[↓RU,RV,RH,↓reduceIte,qE,reduceCtorEq,if_pos,qN,w64,↓RS,RG,qA,qM,qL,zaa,zjv,zlf,yad]
 apply hK;clear hK K
 refine W.seq ?_
 refine W.r fun K hK=>?_
 rcases (show k1≠2∨(k1=2∧k2≠2)∨(k1=2∧k2=2) by omega) with e1 | ⟨e1,e2⟩ | ⟨e1,e2⟩
 ·skip
  have d1:(((1+k1:Nat):Int) == 3)=false:=by rw [beq_eq_false_iff_ne]; omega
  simp(disch:=omega)only[↓RU,RV,RH,↓reduceIte,qE,reduceCtorEq,if_pos,w64,qN,↓RS,RG,qA,qM,qL,zaa,d1]
  apply hK;clear hK K
  refine W.cond rfl (fun h0=>?_) (fun h0=>?_)
  ·try simp only[RL]at h0
   exact absurd h0 (by simp)
  try simp only[RL]at h0
  refine W.skip ?_
  refine xn ?_
  refine W.r fun K hK=>?_
  simp(disch:=omega)only[↓RU,RV,RH,↓reduceIte,qE,reduceCtorEq,if_pos,qN,w64,↓RS,RG,qA,qM,qL,zaa,zhs,zju]
  refine zad.ev (zdg (q:=q+1+1) hc (by omega) 40 (by omega) (by omega)) ?_
  rintro _ _ ⟨k4,rfl,hk4z,hk4,rfl⟩
  have hk4b:=hk4 (by omega)
  simp(disch:=omega)only[↓RU,RV,RH,↓reduceIte,qE,reduceCtorEq,if_pos,qN,w64,↓RS,RG,qA,qM,qL,zaa,zhs,zju,zlf,yad]
  apply hK;clear hK K
  refine W.ret ?_
  refine Br rfl ?_
  exact ⟨1,_,_,_,rfl,by omega,by omega,by omega,zah⟩
 ·skip
  have d1:(((1+k1:Nat):Int) == 3)=true:=by rw [beq_iff_eq]; omega
  have d2:(((1+k2:Nat):Int) == 3)=false:=by rw [beq_eq_false_iff_ne]; omega
  simp(disch:=omega)only[↓RU,RV,RH,↓reduceIte,qE,reduceCtorEq,if_pos,w64,qN,↓RS,RG,qA,qM,qL,zaa,d1,d2]
  apply hK;clear hK K
  refine W.cond rfl (fun h0=>?_) (fun h0=>?_)
  ·try simp only[RL]at h0
   exact absurd h0 (by simp)
  try simp only[RL]at h0
  refine W.skip ?_
  refine xn ?_
  refine W.r fun K hK=>?_
  simp(disch:=omega)only[↓RU,RV,RH,↓reduceIte,qE,reduceCtorEq,if_pos,qN,w64,↓RS,RG,qA,qM,qL,zaa,zhs,zju]
  refine zad.ev (zdg (q:=q+1+1) hc (by omega) 40 (by omega) (by omega)) ?_
  rintro _ _ ⟨k4,rfl,hk4z,hk4,rfl⟩
  have hk4b:=hk4 (by omega)
  simp(disch:=omega)only[↓RU,RV,RH,↓reduceIte,qE,reduceCtorEq,if_pos,qN,w64,↓RS,RG,qA,qM,qL,zaa,zhs,zju,zlf,yad]
  apply hK;clear hK K
  refine W.ret ?_
  refine Br rfl ?_
  exact ⟨1,_,_,_,rfl,by omega,by omega,by omega,zah⟩
 skip
 have d1:(((1+k1:Nat):Int) == 3)=true:=by rw [beq_iff_eq]; omega
 have d2:(((1+k2:Nat):Int) == 3)=true:=by rw [beq_iff_eq]; omega
 simp(disch:=omega)only[↓RU,RV,RH,↓reduceIte,qE,reduceCtorEq,if_pos,w64,qN,↓RS,RG,qA,qM,qL,zaa,d1,d2]
 refine zad.ev (zdg (q:=q+1+1) hc (by omega) 6 (by omega) (by omega)) ?_
 rintro _ _ ⟨k3,rfl,hk3z,hk3,rfl⟩
 have hk3b:=hk3 (by omega)
 simp(disch:=omega)only[↓RU,RV,RH,↓reduceIte,qE,reduceCtorEq,if_pos,w64,qN,↓RS,RG,qA,qM,qL,zaa,d1,d2,zlf,yad]
 apply hK;clear hK K
 refine W.cond rfl (fun h0=>?_) (fun h0=>?_)
 ·try simp only[RL]at h0
  refine W.k fun K hK=>?_
  simp(disch:=omega)only[↓RU,RV,RH,↓reduceIte,qE,reduceCtorEq,if_pos,↓RS,RG,qA,qM,qL]
  apply hK;clear hK K
  refine xn ?_
  refine W.r fun K hK=>?_
  simp(disch:=omega)only[↓RU,RV,RH,↓reduceIte,qE,reduceCtorEq,if_pos,qN,w64,↓RS,RG,qA,qM,qL,zaa,zhs,zju]
  refine zad.ev (zdg (q:=q+1+1+1) hc (by omega) 40 (by omega) (by omega)) ?_
  rintro _ _ ⟨k4,rfl,hk4z,hk4,rfl⟩
  have hk4b:=hk4 (by omega)
  simp(disch:=omega)only[↓RU,RV,RH,↓reduceIte,qE,reduceCtorEq,if_pos,qN,w64,↓RS,RG,qA,qM,qL,zaa,zhs,zju,zlf,yad]
  apply hK;clear hK K
  refine W.ret ?_
  refine Br rfl ?_
  exact ⟨1,_,2,_,rfl,by omega,by omega,by omega,zah⟩
 try simp only[RL]at h0
 refine W.skip ?_
 refine xn ?_
 refine W.r fun K hK=>?_
 simp(disch:=omega)only[↓RU,RV,RH,↓reduceIte,qE,reduceCtorEq,if_pos,qN,w64,↓RS,RG,qA,qM,qL,zaa,zhs,zju]
 refine zad.ev (zdg (q:=q+1+1+1) hc (by omega) 40 (by omega) (by omega)) ?_
 rintro _ _ ⟨k4,rfl,hk4z,hk4,rfl⟩
 have hk4b:=hk4 (by omega)
 simp(disch:=omega)only[↓RU,RV,RH,↓reduceIte,qE,reduceCtorEq,if_pos,qN,w64,↓RS,RG,qA,qM,qL,zaa,zhs,zju,zlf,yad]
 apply hK;clear hK K
 refine W.ret ?_
 refine Br rfl ?_
 exact ⟨1,_,_,_,rfl,by omega,by omega,by omega,zah⟩
theorem ztn {code:Txt} {q vr t:Nat} (hc:code.length≤1048576) (hq:q≤700000) {mx:Nat} (hm1:1≤mx) (hm9:mx≤9):Ev Tryz.prog 68 [.ref 0 vr 0,.int .i64 (mx:Nat)] ⟨[.arr vr 118 2 [eBy code,.int .i64 (q:Int)]],t⟩ fun v S=>∃ (l:List Int) (q2 v2 t2:Nat),v = .loc 1 v2 0 l.length∧l.length≤9∧q2≤q+100∧S=⟨[.arr vr 118 2 [eBy code,.int .i64 (q2:Int)],.arr v2 3 1 (l.map (.int .i64))],t2⟩:=by
 refine Ev.of ⟨Tryz.func68,by kernel_rfl,rfl,by kernel_rfl⟩ zao mixed (by show 2≤Tryz.f68.ntmps; decide) ?_
 refine W.r fun K hK=>?_
 simp(disch:=omega)only[↓RU,RV,RH,↓reduceIte,qE,reduceCtorEq,if_pos,↓RS,RG,qA,qM,qL]
 apply hK;clear hK K
 refine W.r fun K hK=>?_
 simp(disch:=omega)only[↓RU,RV,RH,↓reduceIte,qE,reduceCtorEq,if_pos,↓RS,RG,qA,qM,qL,zab,zaa]
 apply hK;clear hK K
 refine W.r fun K hK=>?_
 simp(disch:=omega)only[↓RU,RV,RH,↓reduceIte,qE,reduceCtorEq,if_pos,qN,w64,↓RS,RG,qA,qM,qL,zaa,zjv]
 refine zad.ev (zdg (q:=q) hc (by omega) (mx:Int) (by omega) (by omega)) ?_
 rintro _ _ ⟨k,rfl,hkz,hk,rfl⟩
 have hkb:=hk (by omega)
 simp(disch:=omega)only[↓RU,RV,RH,↓reduceIte,qE,reduceCtorEq,if_pos,qN,w64,↓RS,RG,qA,qM,qL,zaa,zjv,zlf,yad]
 apply hK;clear hK K
 obtain ⟨z,hsz⟩:∃ z:Nat,1+k=z:=⟨_,rfl⟩
 simp only[hsz]
 refine W.seq ?_
 refine W.r fun K hK=>?_
 simp(disch:=omega)only[↓RU,RV,RH,↓reduceIte,qE,reduceCtorEq,if_pos,↓RS,RG,qA,qM,qL]
 apply hK;clear hK K
 refine W.block ?_
 refine W.loopS [0,5,6,7] (fun n vs S=>∃ (i:Nat) (l:List Int) (q2 v tk:Nat),n=z - i∧i≤z∧l.length=i∧q2≤q+1+i∧vs=[.ref 0 vr 0,pX z i v l,.int .i64 (z:Nat),.int .i64 (i:Nat)]∧S=⟨.arr vr 118 2 [eBy code,.int .i64 (q2:Int)]::pO z i v l,tk⟩) z ?_ ?_
 ·refine ⟨1,[],[.ref 0 vr 0,eInts [],.int .i64 (z:Nat),.int .i64 (0:Nat)],⟨.arr vr 118 2 [eBy code,.int .i64 ((q+1:Nat):Int)]::[],(t+2)⟩,?_,?_,0,[],q+1,0,t+2,rfl,Nat.zero_le _,rfl,by omega,by rw [z8p (by omega)],by rw [z8l (by omega)]⟩
  ·simp [-qU,Env.put,Env.of,zae,zbq,zag,zaj,zap,zar,zbz,zb0,zc9,zby,za2,zb1,zc8,zda,za4,za3,zas,zbx,zb2,zc7,za0,zaz,zaq,za1,zbw,ze9,qS,qP,qC,zm9]
  simp [-qU,Env.put,Env.of,zae,zbq,zag,zaj,zap,zar,zbz,zb0,zc9,zby,za2,zb1,zc8,zda,za4,za3,zas,zbx,zb2,zc7,za0,zaz,zaq,za1,zbw,ze9,qS,qP,qC]
 rintro n vs S - ⟨i,l,q2,v,tk,rfl,h_i,hll,hq2,rfl,rfl⟩
 refine W.seq ?_
 refine W.r fun K hK=>?_
 simp(disch:=omega)only[↓RU,RV,RH,↓reduceIte,qE,reduceCtorEq,if_pos,w64,↓RS,RG,qA,qM,qL,zaa]
 apply hK;clear hK K
 refine W.cond rfl (fun h0=>?_) (fun h0=>?_)
 ·try simp only[RL]at h0
  have hiz:i<z:=by omega
  rw [z8p hiz,z8l hiz]
  refine W.skip ?_
  refine xn ?_
  refine W.seq ?_
  refine W.block ?_
  refine W.r fun K hK=>?_
  simp(disch:=omega)only[↓RU,RV,RH,↓reduceIte,qE,reduceCtorEq,if_pos,w64,qN,↓RS,RG,qA,qM,qL,zab,zaa]
  refine zad.ev (zdg (q:=q2) hc (by omega) ((l.length:Int)+1) (by omega) (by omega)) ?_
  rintro _ _ ⟨j,rfl,hjz,hj,rfl⟩
  have hjb:=hj (by omega)
  simp(disch:=omega)only[↓RU,RV,RH,↓reduceIte,qE,reduceCtorEq,if_pos,w64,qN,↓RS,RG,qA,qM,qL,zab,zaa,zlf,yad]
  apply hK;clear hK K
  have hjl:j≤l.length:=by omega
  have hnl:(l.take j++[(i:Int)]++l.drop j).length=i+1:=by simp; omega
  have hcl:List.take (j+1) (List.take j (List.take j (l.map (PV.int .i64)))++[PV.int .i64 (i:Int)])++List.drop j (l.map (PV.int .i64))=(l.take j++[(i:Int)]++l.drop j).map (PV.int .i64):=by
     rw [List.take_take,Nat.min_self,qT (by simp; omega)]; simp [List.map_take,List.map_drop]
  have hln:(List.take j (List.take j (l.map (PV.int .i64)))++[PV.int .i64 (i:Int)]).length=j+1:=by simp; omega
  have hjn:j+1+(l.length - j)=i+1:=by omega
  refine W.draw_three (r1:=[_,_,_,_,_,_,_,_,_,_,_,_,_]) (r2:=[_,_,_,_,_,_,_,_,_,_,_,_,_]) (r3:=[_,_,_,_,_,_,_,_,_,_,_,_,_]) [1,2,3,5,8,9,10,6,0,4,7,11,12] [1,2,3,5,8,9,10,0,6,4,7,11,12] [1,2,3,5,8,9,10,0,4,6,7,11,12] [3,10] [some 27,some 34] 6 0 4 (by kernel_rfl) (by kernel_rfl) rfl rfl rfl (fun K hK=>?_) (fun K hK=>?_) (fun K hK=>?_)
  ·skip
   refine zbj rfl ?_
   simp(disch:=omega)only[↓RU,RV,RH,↓reduceIte,qE,reduceCtorEq,if_pos,Option.map_none,↓RS,RG,qA,qM,qL,zab,zaa]
   refine zbj rfl ?_
   simp(disch:=omega)only[↓RU,RV,RH,↓reduceIte,qE,reduceCtorEq,if_pos,Option.map_none,↓RS,RG,qA,qM,qL,zab,zaa]
   refine zg3 (.sl (List.take j (l.map (PV.int .i64))) j) rfl rfl rfl (fun S'=>?_) ?_
   ·simp(disch:=omega)only[↓RU,RV,RH,↓reduceIte,qE,reduceCtorEq,if_pos,Option.map_none,↓RS,RG,qA,qM,qL,zab,zaa,Nat.sub_zero,hcl,hln,hjn,qR,true_and,List.length_take,List.length_map,Nat.min_eq_left hjl,List.length_drop,zkq]
   refine zbj rfl ?_
   simp(disch:=omega)only[↓RU,RV,RH,↓reduceIte,qE,reduceCtorEq,if_pos,Option.map_none,↓RS,RG,qA,qM,qL,zab,zaa]
   refine zbj rfl ?_
   simp(disch:=omega)only[↓RU,RV,RH,↓reduceIte,qE,reduceCtorEq,if_pos,Option.map_none,↓RS,RG,qA,qM,qL,zab,zaa]
   refine zbj rfl ?_
   simp(disch:=omega)only[↓RU,RV,RH,↓reduceIte,qE,reduceCtorEq,if_pos,Option.map_none,↓RS,RG,qA,qM,qL,zab,zaa]
   refine zg3 (.sl (List.drop j (l.map (PV.int .i64))) (l.length - j)) rfl rfl rfl (fun S'=>?_) ?_
   ·simp(disch:=omega)only[↓RU,RV,RH,↓reduceIte,qE,reduceCtorEq,if_pos,Option.map_none,↓RS,RG,qA,qM,qL,zab,zaa,Nat.sub_zero,hcl,hln,hjn,qR,true_and,List.length_take,List.length_map,Nat.min_eq_left hjl,List.length_drop,zkq]
   refine zbj rfl ?_
   simp(disch:=omega)only[↓RU,RV,RH,↓reduceIte,qE,reduceCtorEq,if_pos,Option.map_none,↓RS,RG,qA,qM,qL,zab,zaa]
   refine zbj rfl ?_
   simp(disch:=omega)only[↓RU,RV,RH,↓reduceIte,qE,reduceCtorEq,if_pos,Option.map_none,↓RS,RG,qA,qM,qL,zab,zaa]
   refine zbj rfl ?_
   simp(disch:=omega)only[↓RU,RV,RH,↓reduceIte,qE,reduceCtorEq,if_pos,Option.map_none,↓RS,RG,qA,qM,qL,zab,zaa,Nat.sub_zero,hcl,hln,hjn,qR,true_and,List.length_take,List.length_map,Nat.min_eq_left hjl,List.length_drop]
   refine zbj rfl ?_
   simp(disch:=omega)only[↓RU,RV,RH,↓reduceIte,qE,reduceCtorEq,if_pos,Option.map_none,↓RS,RG,qA,qM,qL,zab,zaa,Nat.sub_zero,hcl,hln,hjn,qR,true_and,List.length_take,List.length_map,Nat.min_eq_left hjl,List.length_drop]
   refine zbj rfl ?_
   simp(disch:=omega)only[↓RU,RV,RH,↓reduceIte,qE,reduceCtorEq,if_pos,Option.map_none,↓RS,RG,qA,qM,qL,zab,zaa,Nat.sub_zero,hcl,hln,hjn,qR,true_and,List.length_take,List.length_map,Nat.min_eq_left hjl,List.length_drop]
   refine zbj rfl ?_
   simp(disch:=omega)only[↓RU,RV,RH,↓reduceIte,qE,reduceCtorEq,if_pos,Option.map_none,↓RS,RG,qA,qM,qL,zab,zaa,Nat.sub_zero,hcl,hln,hjn,qR,true_and,List.length_take,List.length_map,Nat.min_eq_left hjl,List.length_drop]
   refine zqn ?_
   apply hK;clear hK K
   obtain ⟨nl,hnd⟩:∃ nl:List Int,(l.take j++[(i:Int)]++l.drop j)=nl:=⟨_,rfl⟩
   simp only[hnd]at hnl ⊢
   have htk:List.take (i+1) (nl.map (PV.int .i64))=nl.map (PV.int .i64):=qT (by simp [hnl])
   refine XbN ?_
   refine xn ?_
   refine W.k fun K hK=>?_
   simp(disch:=omega)only[↓RU,RV,RH,↓reduceIte,qE,reduceCtorEq,if_pos,w64,↓RS,RG,qA,qM,qL,zaa]
   apply hK;clear hK K
   refine xn ?_
   by_cases hls:i+1<z
   ·refine ⟨z - (i+1),by omega,1,[],[.ref 0 vr 0,eInts nl,.int .i64 (z:Nat),.int .i64 ((i+1):Nat)],⟨.arr vr 118 2 [eBy code,.int .i64 ((q2+1:Nat):Int)]::[],(tk+6)⟩,?_,?_,i+1,nl,q2+1,0,tk+6,rfl,by omega,hnl,by omega,by rw [z8p hls],by rw [z8l hls]⟩
    ·simp [-qU,Env.put,Env.of,zae,zbq,zag,zaj,zap,zar,zbz,zb0,zc9,zby,za2,zb1,zc8,zda,za4,za3,zas,zbx,zb2,zc7,za0,zaz,zaq,za1,zbw,ze9,qS,qP,qC,hnl,zm9,htk]
    simp [-qU,Env.put,Env.of,zae,zbq,zag,zaj,zap,zar,zbz,zb0,zc9,zby,za2,zb1,zc8,zda,za4,za3,zas,zbx,zb2,zc7,za0,zaz,zaq,za1,zbw,ze9,qS,qP,qC,zfr]
   refine ⟨z - (i+1),by omega,1,[2],[.ref 0 vr 0,.loc 1 (tk+5) 0 nl.length,.int .i64 (z:Nat),.int .i64 ((i+1):Nat)],⟨.arr vr 118 2 [eBy code,.int .i64 ((q2+1:Nat):Int)]::[.arr (tk+5) 3 1 (nl.map (.int .i64))],(tk+6)⟩,?_,?_,i+1,nl,q2+1,tk+5,tk+6,rfl,by omega,hnl,by omega,by rw [ybm hls],by rw [ybk hls]⟩
   ·simp [-qU,Env.put,Env.of,zae,zbq,zag,zaj,zap,zar,zbz,zb0,zc9,zby,za2,zb1,zc8,zda,za4,za3,zas,zbx,zb2,zc7,za0,zaz,zaq,za1,zbw,ze9,qS,qP,qC,hnl]
   simp [-qU,Env.put,Env.of,zae,zbq,zag,zaj,zap,zar,zbz,zb0,zc9,zby,za2,zb1,zc8,zda,za4,za3,zas,zbx,zb2,zc7,za0,zaz,zaq,za1,zbw,ze9,qS,qP,qC,zfr]
  ·skip
   refine zbj rfl ?_
   simp(disch:=omega)only[↓RU,RV,RH,↓reduceIte,qE,reduceCtorEq,if_pos,Option.map_none,↓RS,RG,qA,qM,qL,zab,zaa]
   refine zbj rfl ?_
   simp(disch:=omega)only[↓RU,RV,RH,↓reduceIte,qE,reduceCtorEq,if_pos,Option.map_none,↓RS,RG,qA,qM,qL,zab,zaa]
   refine zg3 (.sl (List.take j (l.map (PV.int .i64))) j) rfl rfl rfl (fun S'=>?_) ?_
   ·simp(disch:=omega)only[↓RU,RV,RH,↓reduceIte,qE,reduceCtorEq,if_pos,Option.map_none,↓RS,RG,qA,qM,qL,zab,zaa,Nat.sub_zero,hcl,hln,hjn,qR,true_and,List.length_take,List.length_map,Nat.min_eq_left hjl,List.length_drop,zkq]
   refine zbj rfl ?_
   simp(disch:=omega)only[↓RU,RV,RH,↓reduceIte,qE,reduceCtorEq,if_pos,Option.map_none,↓RS,RG,qA,qM,qL,zab,zaa]
   refine zbj rfl ?_
   simp(disch:=omega)only[↓RU,RV,RH,↓reduceIte,qE,reduceCtorEq,if_pos,Option.map_none,↓RS,RG,qA,qM,qL,zab,zaa]
   refine zbj rfl ?_
   simp(disch:=omega)only[↓RU,RV,RH,↓reduceIte,qE,reduceCtorEq,if_pos,Option.map_none,↓RS,RG,qA,qM,qL,zab,zaa]
   refine zg3 (.sl (List.drop j (l.map (PV.int .i64))) (l.length - j)) rfl rfl rfl (fun S'=>?_) ?_
   ·simp(disch:=omega)only[↓RU,RV,RH,↓reduceIte,qE,reduceCtorEq,if_pos,Option.map_none,↓RS,RG,qA,qM,qL,zab,zaa,Nat.sub_zero,hcl,hln,hjn,qR,true_and,List.length_take,List.length_map,Nat.min_eq_left hjl,List.length_drop,zkq]
   refine zbj rfl ?_
   simp(disch:=omega)only[↓RU,RV,RH,↓reduceIte,qE,reduceCtorEq,if_pos,Option.map_none,↓RS,RG,qA,qM,qL,zab,zaa]
   refine zbj rfl ?_
   simp(disch:=omega)only[↓RU,RV,RH,↓reduceIte,qE,reduceCtorEq,if_pos,Option.map_none,↓RS,RG,qA,qM,qL,zab,zaa]
   refine zbj rfl ?_
   simp(disch:=omega)only[↓RU,RV,RH,↓reduceIte,qE,reduceCtorEq,if_pos,Option.map_none,↓RS,RG,qA,qM,qL,zab,zaa,Nat.sub_zero,hcl,hln,hjn,qR,true_and,List.length_take,List.length_map,Nat.min_eq_left hjl,List.length_drop]
   refine zbj rfl ?_
   simp(disch:=omega)only[↓RU,RV,RH,↓reduceIte,qE,reduceCtorEq,if_pos,Option.map_none,↓RS,RG,qA,qM,qL,zab,zaa,Nat.sub_zero,hcl,hln,hjn,qR,true_and,List.length_take,List.length_map,Nat.min_eq_left hjl,List.length_drop]
   refine zbj rfl ?_
   simp(disch:=omega)only[↓RU,RV,RH,↓reduceIte,qE,reduceCtorEq,if_pos,Option.map_none,↓RS,RG,qA,qM,qL,zab,zaa,Nat.sub_zero,hcl,hln,hjn,qR,true_and,List.length_take,List.length_map,Nat.min_eq_left hjl,List.length_drop]
   refine zbj rfl ?_
   simp(disch:=omega)only[↓RU,RV,RH,↓reduceIte,qE,reduceCtorEq,if_pos,Option.map_none,↓RS,RG,qA,qM,qL,zab,zaa,Nat.sub_zero,hcl,hln,hjn,qR,true_and,List.length_take,List.length_map,Nat.min_eq_left hjl,List.length_drop]
   refine zqn ?_
   apply hK;clear hK K
   obtain ⟨nl,hnd⟩:∃ nl:List Int,(l.take j++[(i:Int)]++l.drop j)=nl:=⟨_,rfl⟩
   simp only[hnd]at hnl ⊢
   have htk:List.take (i+1) (nl.map (PV.int .i64))=nl.map (PV.int .i64):=qT (by simp [hnl])
   refine XbN ?_
   refine xn ?_
   refine W.k fun K hK=>?_
   simp(disch:=omega)only[↓RU,RV,RH,↓reduceIte,qE,reduceCtorEq,if_pos,w64,↓RS,RG,qA,qM,qL,zaa]
   apply hK;clear hK K
   refine xn ?_
   by_cases hls:i+1<z
   ·refine ⟨z - (i+1),by omega,1,[],[.ref 0 vr 0,eInts nl,.int .i64 (z:Nat),.int .i64 ((i+1):Nat)],⟨.arr vr 118 2 [eBy code,.int .i64 ((q2+1:Nat):Int)]::[],(tk+6)⟩,?_,?_,i+1,nl,q2+1,0,tk+6,rfl,by omega,hnl,by omega,by rw [z8p hls],by rw [z8l hls]⟩
    ·simp [-qU,Env.put,Env.of,zae,zbq,zag,zaj,zap,zar,zbz,zb0,zc9,zby,za2,zb1,zc8,zda,za4,za3,zas,zbx,zb2,zc7,za0,zaz,zaq,za1,zbw,ze9,qS,qP,qC,hnl,zm9,htk]
    simp [-qU,Env.put,Env.of,zae,zbq,zag,zaj,zap,zar,zbz,zb0,zc9,zby,za2,zb1,zc8,zda,za4,za3,zas,zbx,zb2,zc7,za0,zaz,zaq,za1,zbw,ze9,qS,qP,qC,zfr]
   refine ⟨z - (i+1),by omega,1,[1],[.ref 0 vr 0,.loc 1 (tk+5) 0 nl.length,.int .i64 (z:Nat),.int .i64 ((i+1):Nat)],⟨.arr vr 118 2 [eBy code,.int .i64 ((q2+1:Nat):Int)]::[.arr (tk+5) 3 1 (nl.map (.int .i64))],(tk+6)⟩,?_,?_,i+1,nl,q2+1,tk+5,tk+6,rfl,by omega,hnl,by omega,by rw [ybm hls],by rw [ybk hls]⟩
   ·simp [-qU,Env.put,Env.of,zae,zbq,zag,zaj,zap,zar,zbz,zb0,zc9,zby,za2,zb1,zc8,zda,za4,za3,zas,zbx,zb2,zc7,za0,zaz,zaq,za1,zbw,ze9,qS,qP,qC,hnl]
   simp [-qU,Env.put,Env.of,zae,zbq,zag,zaj,zap,zar,zbz,zb0,zc9,zby,za2,zb1,zc8,zda,za4,za3,zas,zbx,zb2,zc7,za0,zaz,zaq,za1,zbw,ze9,qS,qP,qC,zfr]
  skip
  refine zbj rfl ?_
  simp(disch:=omega)only[↓RU,RV,RH,↓reduceIte,qE,reduceCtorEq,if_pos,Option.map_none,↓RS,RG,qA,qM,qL,zab,zaa]
  refine zbj rfl ?_
  simp(disch:=omega)only[↓RU,RV,RH,↓reduceIte,qE,reduceCtorEq,if_pos,Option.map_none,↓RS,RG,qA,qM,qL,zab,zaa]
  refine zg3 (.sl (List.take j (l.map (PV.int .i64))) j) rfl rfl rfl (fun S'=>?_) ?_
  ·simp(disch:=omega)only[↓RU,RV,RH,↓reduceIte,qE,reduceCtorEq,if_pos,Option.map_none,↓RS,RG,qA,qM,qL,zab,zaa,Nat.sub_zero,hcl,hln,hjn,qR,true_and,List.length_take,List.length_map,Nat.min_eq_left hjl,List.length_drop,zkq]
  refine zbj rfl ?_
  simp(disch:=omega)only[↓RU,RV,RH,↓reduceIte,qE,reduceCtorEq,if_pos,Option.map_none,↓RS,RG,qA,qM,qL,zab,zaa]
  refine zbj rfl ?_
  simp(disch:=omega)only[↓RU,RV,RH,↓reduceIte,qE,reduceCtorEq,if_pos,Option.map_none,↓RS,RG,qA,qM,qL,zab,zaa]
  refine zbj rfl ?_
  simp(disch:=omega)only[↓RU,RV,RH,↓reduceIte,qE,reduceCtorEq,if_pos,Option.map_none,↓RS,RG,qA,qM,qL,zab,zaa]
  refine zg3 (.sl (List.drop j (l.map (PV.int .i64))) (l.length - j)) rfl rfl rfl (fun S'=>?_) ?_
  ·simp(disch:=omega)only[↓RU,RV,RH,↓reduceIte,qE,reduceCtorEq,if_pos,Option.map_none,↓RS,RG,qA,qM,qL,zab,zaa,Nat.sub_zero,hcl,hln,hjn,qR,true_and,List.length_take,List.length_map,Nat.min_eq_left hjl,List.length_drop,zkq]
  refine zbj rfl ?_
  simp(disch:=omega)only[↓RU,RV,RH,↓reduceIte,qE,reduceCtorEq,if_pos,Option.map_none,↓RS,RG,qA,qM,qL,zab,zaa]
  refine zbj rfl ?_
  simp(disch:=omega)only[↓RU,RV,RH,↓reduceIte,qE,reduceCtorEq,if_pos,Option.map_none,↓RS,RG,qA,qM,qL,zab,zaa,Nat.sub_zero,hcl,hln,hjn,qR,true_and,List.length_take,List.length_map,Nat.min_eq_left hjl,List.length_drop]
  refine zbj rfl ?_
  simp(disch:=omega)only[↓RU,RV,RH,↓reduceIte,qE,reduceCtorEq,if_pos,Option.map_none,↓RS,RG,qA,qM,qL,zab,zaa]
  refine zbj rfl ?_
  simp(disch:=omega)only[↓RU,RV,RH,↓reduceIte,qE,reduceCtorEq,if_pos,Option.map_none,↓RS,RG,qA,qM,qL,zab,zaa,Nat.sub_zero,hcl,hln,hjn,qR,true_and,List.length_take,List.length_map,Nat.min_eq_left hjl,List.length_drop]
  refine zbj rfl ?_
  simp(disch:=omega)only[↓RU,RV,RH,↓reduceIte,qE,reduceCtorEq,if_pos,Option.map_none,↓RS,RG,qA,qM,qL,zab,zaa,Nat.sub_zero,hcl,hln,hjn,qR,true_and,List.length_take,List.length_map,Nat.min_eq_left hjl,List.length_drop]
  refine zbj rfl ?_
  simp(disch:=omega)only[↓RU,RV,RH,↓reduceIte,qE,reduceCtorEq,if_pos,Option.map_none,↓RS,RG,qA,qM,qL,zab,zaa,Nat.sub_zero,hcl,hln,hjn,qR,true_and,List.length_take,List.length_map,Nat.min_eq_left hjl,List.length_drop]
  refine zqn ?_
  apply hK;clear hK K
  obtain ⟨nl,hnd⟩:∃ nl:List Int,(l.take j++[(i:Int)]++l.drop j)=nl:=⟨_,rfl⟩
  simp only[hnd]at hnl ⊢
  have htk:List.take (i+1) (nl.map (PV.int .i64))=nl.map (PV.int .i64):=qT (by simp [hnl])
  refine XbN ?_
  refine xn ?_
  refine W.k fun K hK=>?_
  simp(disch:=omega)only[↓RU,RV,RH,↓reduceIte,qE,reduceCtorEq,if_pos,w64,↓RS,RG,qA,qM,qL,zaa]
  apply hK;clear hK K
  refine xn ?_
  by_cases hls:i+1<z
  ·refine ⟨z - (i+1),by omega,1,[],[.ref 0 vr 0,eInts nl,.int .i64 (z:Nat),.int .i64 ((i+1):Nat)],⟨.arr vr 118 2 [eBy code,.int .i64 ((q2+1:Nat):Int)]::[],(tk+6)⟩,?_,?_,i+1,nl,q2+1,0,tk+6,rfl,by omega,hnl,by omega,by rw [z8p hls],by rw [z8l hls]⟩
   ·simp [-qU,Env.put,Env.of,zae,zbq,zag,zaj,zap,zar,zbz,zb0,zc9,zby,za2,zb1,zc8,zda,za4,za3,zas,zbx,zb2,zc7,za0,zaz,zaq,za1,zbw,ze9,qS,qP,qC,hnl,zm9,htk]
   simp [-qU,Env.put,Env.of,zae,zbq,zag,zaj,zap,zar,zbz,zb0,zc9,zby,za2,zb1,zc8,zda,za4,za3,zas,zbx,zb2,zc7,za0,zaz,zaq,za1,zbw,ze9,qS,qP,qC,zfr]
  refine ⟨z - (i+1),by omega,1,[1],[.ref 0 vr 0,.loc 1 (tk+5) 0 nl.length,.int .i64 (z:Nat),.int .i64 ((i+1):Nat)],⟨.arr vr 118 2 [eBy code,.int .i64 ((q2+1:Nat):Int)]::[.arr (tk+5) 3 1 (nl.map (.int .i64))],(tk+6)⟩,?_,?_,i+1,nl,q2+1,tk+5,tk+6,rfl,by omega,hnl,by omega,by rw [ybm hls],by rw [ybk hls]⟩
  ·simp [-qU,Env.put,Env.of,zae,zbq,zag,zaj,zap,zar,zbz,zb0,zc9,zby,za2,zb1,zc8,zda,za4,za3,zas,zbx,zb2,zc7,za0,zaz,zaq,za1,zbw,ze9,qS,qP,qC,hnl]
  simp [-qU,Env.put,Env.of,zae,zbq,zag,zaj,zap,zar,zbz,zb0,zc9,zby,za2,zb1,zc8,zda,za4,za3,zas,zbx,zb2,zc7,za0,zaz,zaq,za1,zbw,ze9,qS,qP,qC,zfr]
 try simp only[RL]at h0
 obtain rfl:i=z:=by omega
 rw [ybm (Nat.lt_irrefl _),ybk (Nat.lt_irrefl _)]
 refine W.exit ?_
 refine xe ?_
 refine xe ?_
 refine XBlock.hit ?_
 refine xn ?_
 refine W.seq ?_
 refine W.r fun K hK=>?_
 simp(disch:=omega)only[↓RU,RV,RH,↓reduceIte,qE,reduceCtorEq,if_pos,qN,w64,↓RS,RG,qA,qM,qL,zaa]
 refine zad.ev (zdg (q:=q2) hc (by omega) 30 (by omega) (by omega)) ?_
 rintro _ _ ⟨k5,rfl,hk5z,hk5,rfl⟩
 have hk5b:=hk5 (by omega)
 simp(disch:=omega)only[↓RU,RV,RH,↓reduceIte,qE,reduceCtorEq,if_pos,qN,w64,↓RS,RG,qA,qM,qL,zaa,zlf,yad]
 apply hK;clear hK K
 refine W.cond rfl (fun h1=>?_) (fun h1=>?_)
 ·try simp only[RL]at h1
  refine W.k fun K hK=>?_
  simp(disch:=omega)only[↓RU,RV,RH,↓reduceIte,qE,reduceCtorEq,if_pos,↓RS,RG,qA,qM,qL,zab,zaa]
  apply hK;clear hK K
  refine xn ?_
  refine W.r fun K hK=>?_
  simp(disch:=omega)only[↓RU,RV,RH,↓reduceIte,qE,reduceCtorEq,if_pos,↓RS,RG,qA,qM,qL]
  apply hK;clear hK K
  refine W.ret ?_
  refine Br rfl ?_
  have hne:l≠[]:=by intro e; rw [e]at hll; simp at hll; omega
  exact ⟨2,l.set 0 (i:Int),q2+1,v,tk,by simp [Env.put,Env.of],by simp; omega,by omega,by simp [zay,List.map_set,yfu hne]⟩
 try simp only[RL]at h1
 refine W.skip ?_
 refine xn ?_
 refine W.r fun K hK=>?_
 simp(disch:=omega)only[↓RU,RV,RH,↓reduceIte,qE,reduceCtorEq,if_pos,↓RS,RG,qA,qM,qL]
 apply hK;clear hK K
 refine W.ret ?_
 refine Br rfl ?_
 exact ⟨2,l,_,_,_,rfl,by omega,by omega,zah⟩
def yeg (a b:Int) (w:List Int):Option (List Txt):=if zjh a b && zgz w then (zfi a.toNat b.toNat).find? (zfk w) else none
theorem PN.texts {P:Program} {f:FuncId} {args:List PV} {l:List Txt} {b im:Bool} (h:PN P f args (.tup [.loc 0 0 0 l.length,.bool b]) [.arr 0 9 1 (l.map .str)] im) (h1:args.mapM (reify ⟨[],0⟩ true 10)=some args):PC P f args (.tup [zan l,.bool b]) true:=by
 refine PN.pc h h1 ?_
 simp only[z95,zzn,zv8,List.map_cons,List.map_nil,zkx,z1a,Nat.add_zero]
 show (([PV.loc 0 0 0 l.length,PV.bool b]).mapM (reify _ _ 9)).map PV.tup=_
 rw [zcw (zb5 (k:=8) rfl (by simp) (zmo _)) (zcw rfl rfl)]
 rfl
theorem zwy {a b:Int} {w:List Int} (hw:w.length≤1048576):PC Tryz.prog 17 [.int .i64 a,.int .i64 b,eInts w] (yg6 (yeg a b w)) false:=by
 unfold yeg
 cases hv:(zjh a b && zgz w) with
 | false=>exact (yax hw hv).old
 | true =>
  simp only[if_true]
  rw [qB]at hv
  obtain ⟨n,m,rfl,rfl,h1,h2,h3,h4,h9⟩:=zzz hv.1
  simp only[Int.toNat_natCast]
  cases hF:(zfi n m).find? (zfk w) with
  | none=>exact (z39 hv.1 hv.2 h1 h2 h3 h4 h9 hF).old
  | some q=>exact (PN.texts (z4a hv.1 hv.2 h1 h2 h3 h4 h9 hF) rfl).old
theorem zwz {a b:Int} {w:List Int} (hw:w.length≤1048576):PC Tryz.prog 15 [.int .i64 a,.int .i64 b,eInts w] (yg6 (yeg a b w)) false:=by
 unfold yeg
 cases hv:(zjh a b && zgz w) with
 | false=>exact z9h hw hv
 | true =>
  simp only[if_true]
  rw [qB]at hv
  obtain ⟨n,m,rfl,rfl,h1,h2,h3,h4,h9⟩:=zzz hv.1
  simp only[Int.toNat_natCast]
  exact z5m hv.1 hv.2 h1 h2 h3 h4 h9
theorem z6v {a b:Int} {w:List Int} {q:List Txt} (h:yeg a b w=some q):zca q=true∧zd3 q=w∧(q.length:Int)=a∧((zax q).length:Int)=b∧Sm q∧0<q.length:=by
 unfold yeg at h
 cases hv:(zjh a b && zgz w) with
 | false=>rw [hv]at h; cases h
 | true =>
  rw [hv,if_pos rfl]at h
  rw [qB]at hv
  obtain ⟨n,m,rfl,rfl,h1,h2,h3,h4,h9⟩:=zzz hv.1
  simp only[Int.toNat_natCast]at h
  have hg:=List.find?_some h
  obtain ⟨hp,hs⟩:=zt4 h9 h1 h2 h3 h4 (List.mem_of_find?_eq_some h)
  rw [zml]at hg
  simp only[qB,decide_eq_true_eq]at hg
  have hl:q.length=n:=hs.h
  have hh:(zax q).length=m:=by
   obtain ⟨row,hr,hm⟩:=zaf (show 0<q.length by omega)
   rw [zc4 hr]; exact hs.w row hm
  exact ⟨hg.2.1,hg.2.2,by rw [hl],by rw [hh],z9s hs h2 h4,by omega⟩
theorem zns {code:Txt} (hc:code.length≤1048576):Ev Tryz.prog 22 [eBy code] ⟨[],0⟩ fun v S=>∃ (a b:Int) (l:List Int) (t:Nat),l.length≤9∧((∃ v2 o,v = .tup [.int .i64 a,.int .i64 b,.loc 1 v2 0 l.length]∧S=⟨[o,.arr v2 3 1 (l.map (.int .i64))],t⟩)∨(v = .tup [.int .i64 a,.int .i64 b,eInts l]∧∃ o,S=⟨[o],t⟩)):=by
 refine Ev.of ⟨Tryz.func22,by kernel_rfl,rfl,by kernel_rfl⟩ zao mixed (by show 1≤Tryz.f22.ntmps; decide) ?_
 refine W.r fun K hK=>?_
 simp(disch:=omega)only[↓RU,RV,RH,↓reduceIte,qE,reduceCtorEq,if_pos,↓RS,RG,qA,qM,qL]
 apply hK;clear hK K
 refine W.r fun K hK=>?_
 simp(disch:=omega)only[↓RU,RV,RH,↓reduceIte,qE,reduceCtorEq,if_pos,qN,↓RS,RG,qA,qM,qL,rdO]
 refine zad.pn (z7w hc) rfl (.inr rfl) ?_
 simp(disch:=omega)only[↓RU,RV,RH,↓reduceIte,qE,reduceCtorEq,if_pos,qN,↓RS,RG,qA,qM,qL,rdO,rdO,RN]
 apply hK;clear hK K
 refine W.r fun K hK=>?_
 have hc2:(code.take 2000).length≤1048576:=by rw [List.length_take]; omega
 generalize code.take 2000=code2 at hc2 ⊢
 simp(disch:=omega)only[↓RU,RV,RH,↓reduceIte,qE,reduceCtorEq,if_pos,qN,↓RS,RG,qA,qM,qL]
 refine zad.ev (z4w (q:=0) (code:=code2) hc2 (by omega)) ?_
 rintro _ _ ⟨a,b,q2,rfl,ha,hb,hq2,rfl⟩
 simp(disch:=omega)only[↓RU,RV,RH,↓reduceIte,qE,reduceCtorEq,if_pos,qN,↓RS,RG,qA,qM,qL]
 apply hK;clear hK K
 refine W.seq ?_
 refine W.r fun K hK=>?_
 simp(disch:=omega)only[↓RU,RV,RH,↓reduceIte,qE,reduceCtorEq,if_pos,qN,w64,↓RS,RG,qA,qM,qL,zaa]
 refine zad.ev (zdg (q:=q2) hc2 (by omega) 3 (by omega) (by omega)) ?_
 rintro _ _ ⟨k,rfl,hkz,hk,rfl⟩
 simp(disch:=omega)only[↓RU,RV,RH,↓reduceIte,qE,reduceCtorEq,if_pos,qN,w64,↓RS,RG,qA,qM,qL,zaa]
 apply hK;clear hK K
 refine W.cond rfl (fun h0=>?_) (fun h0=>?_)
 ·try simp only[RL]at h0
  refine W.r fun K hK=>?_
  simp(disch:=omega)only[↓RU,RV,RH,↓reduceIte,qE,reduceCtorEq,if_pos,qN,↓RS,RG,qA,qM,qL]
  refine zad.ev (ztn (q:=q2+1) (code:=code2) hc2 (by omega) (mx:=4) (by omega) (by omega)) ?_
  rintro _ _ ⟨l,q3,v2,t2,rfl,hl9,hq3,rfl⟩
  simp(disch:=omega)only[↓RU,RV,RH,↓reduceIte,qE,reduceCtorEq,if_pos,qN,↓RS,RG,qA,qM,qL]
  apply hK;clear hK K
  refine W.ret ?_
  refine XThen.ret ?_
  refine Br rfl ?_
  exact ⟨2,_,_,l,_,hl9,.inl ⟨_,_,rfl,rfl⟩⟩
 try simp only[RL]at h0
 refine W.skip ?_
 refine xn ?_
 refine W.r fun K hK=>?_
 simp(disch:=omega)only[↓RU,RV,RH,↓reduceIte,qE,reduceCtorEq,if_pos,qN,↓RS,RG,qA,qM,qL]
 refine zad.ev (z0k (q:=q2+1) (code:=code2) hc2 (by omega) (rows:=3) (cols:=2) (by omega) (by omega) (by omega) (by omega)) ?_
 rintro _ _ ⟨p,q4,t3,rfl,hs,hl,hq4,rfl⟩
 simp(disch:=omega)only[↓RU,RV,RH,↓reduceIte,qE,reduceCtorEq,if_pos,qN,↓RS,RG,qA,qM,qL]
 refine zad.pc (zv2 hs) rfl (.inr rfl) ?_
 simp(disch:=omega)only[↓RU,RV,RH,↓reduceIte,qE,reduceCtorEq,if_pos,qN,↓RS,RG,qA,qM,qL]
 apply hK;clear hK K
 refine W.seq ?_
 refine W.r fun K hK=>?_
 cases hv:zca p
 ·skip
  simp(disch:=omega)only[↓RU,RV,RH,↓reduceIte,qE,reduceCtorEq,if_pos,↓RS,RG,qA,qM,qL,hv]
  apply hK;clear hK K
  refine W.cond rfl (fun h1=>?_) (fun h1=>?_)
  ·try simp only[RL]at h1
   refine W.r fun K hK=>?_
   simp(disch:=omega)only[↓RU,RV,RH,↓reduceIte,qE,reduceCtorEq,if_pos,qN,↓RS,RG,qA,qM,qL]
   refine zad.ev (ztn (q:=q4) (code:=code2) hc2 (by omega) (mx:=3) (by omega) (by omega)) ?_
   rintro _ _ ⟨l,q3,v2,t2,rfl,hl9,hq3,rfl⟩
   simp(disch:=omega)only[↓RU,RV,RH,↓reduceIte,qE,reduceCtorEq,if_pos,qN,↓RS,RG,qA,qM,qL]
   apply hK;clear hK K
   refine W.ret ?_
   refine XThen.ret ?_
   refine Br rfl ?_
   exact ⟨2,_,_,l,_,hl9,.inl ⟨_,_,rfl,rfl⟩⟩
  try simp only[RL]at h1
  exact absurd h1 (by simp)
 skip
 simp(disch:=omega)only[↓RU,RV,RH,↓reduceIte,qE,reduceCtorEq,if_pos,↓RS,RG,qA,qM,qL,hv]
 apply hK;clear hK K
 refine W.cond rfl (fun h1=>?_) (fun h1=>?_)
 ·try simp only[RL]at h1
  exact absurd h1 (by simp)
 try simp only[RL]at h1
 refine W.skip ?_
 refine xn ?_
 refine W.r fun K hK=>?_
 simp(disch:=omega)only[↓RU,RV,RH,↓reduceIte,qE,reduceCtorEq,if_pos,↓RS,RG,qA,qM,qL]
 apply hK;clear hK K
 refine W.ret ?_
 refine Br rfl ?_
 exact ⟨1,_,_,zd3 p,_,z0q hv,.inr ⟨rfl,_,rfl⟩⟩
theorem z66 {code:Txt} (hc:code.length≤1048576):Ev Tryz.prog 22 [eBy code] ⟨[],0⟩ fun v S=>∃ (a b:Int) (l:List Int) (t:Nat),v = .tup [.int .i64 a,.int .i64 b,eInts l]∧l.length≤9∧S=⟨[],t⟩:=by
 refine (zns hc).fz 0 ?_
 rintro v S1 ⟨a,b,l,t,hl,⟨v2,o,rfl,rfl⟩ | ⟨rfl,o,rfl⟩⟩
 ·refine ⟨.tup [.int .i64 a,.int .i64 b,eInts l],⟨[],t⟩,?_,rfl,a,b,l,t,rfl,hl,rfl⟩
  have hx:frz ⟨[o,.arr v2 3 1 (l.map (.int .i64))],t⟩ 0 9 (.loc 1 v2 0 l.length)=some (eInts l):=by
   rw [zbi,if_neg (Nat.not_lt_zero _),zbf]
   simp [-qU,za5,qT,eInts]
  have hm:[PV.int .i64 a,.int .i64 b,.loc 1 v2 0 l.length].mapM (frz ⟨[o,.arr v2 3 1 (l.map (.int .i64))],t⟩ 0 9)=some [PV.int .i64 a,.int .i64 b,eInts l] :=
   zcw (f:=(frz ⟨[o,.arr v2 3 1 (l.map (.int .i64))],t⟩ 0 9)) (a := .int .i64 a) (b := .int .i64 a) rfl (zcw (f:=(frz ⟨[o,.arr v2 3 1 (l.map (.int .i64))],t⟩ 0 9)) (a := .int .i64 b) (b := .int .i64 b) rfl (zcw (f:=(frz ⟨[o,.arr v2 3 1 (l.map (.int .i64))],t⟩ 0 9)) (a := .loc 1 v2 0 l.length) (b:=eInts l) hx rfl))
  show ([PV.int .i64 a,.int .i64 b,.loc 1 v2 0 l.length].mapM (frz ⟨[o,.arr v2 3 1 (l.map (.int .i64))],t⟩ 0 9)).map PV.tup=_
  rw [hm]; rfl
 exact ⟨.tup [.int .i64 a,.int .i64 b,eInts l],⟨[],t⟩,rfl,rfl,a,b,l,t,rfl,hl,rfl⟩
theorem zj8 {p q:List Txt} (hp:p.length<2147483648) (hq:q.length<2147483648):PC Tryz.prog 23 [zan p,zan q] (.bool (decide (p=q))) true:=by
 refine PC.of ⟨Tryz.func23,by kernel_rfl,rfl,by kernel_rfl⟩ zao mixed (by show 2≤Tryz.f23.ntmps; decide) ?_
 refine W.r fun K hK=>?_
 simp(disch:=omega)only[↓RU,RV,RH,↓reduceIte,qE,reduceCtorEq,if_pos]
 apply hK;clear hK K
 refine W.seq ?_
 refine W.r fun K hK=>?_
 simp(disch:=omega)only[↓RU,RV,RH,↓reduceIte,qE,reduceCtorEq,if_pos,w64,ty6,zaa,zac]
 apply hK;clear hK K
 refine W.cond rfl (fun h=>?_) (fun h=>?_)
 ·try simp only[RL]at h
  refine W.r fun K hK=>?_
  simp(disch:=omega)only[↓RU,RV,RH,↓reduceIte,qE,reduceCtorEq,if_pos]
  apply hK;clear hK K
  refine W.ret ?_
  refine XThen.ret ?_
  refine Br rfl ?_
  rw [show decide (p=q)=false by simp; rintro rfl; exact h rfl]
  rfl
 try simp only[RL]at h
 refine W.skip ?_
 refine xn ?_
 refine W.seq ?_
 refine W.r fun K hK=>?_
 simp(disch:=omega)only[↓RU,RV,RH,↓reduceIte,qE,reduceCtorEq,if_pos]
 apply hK;clear hK K
 refine W.block ?_
 refine W.loop [0,1,5] (fun n vs S=>∃ i:Nat,n=p.length - i∧i≤p.length∧(p.take i=q.take i)∧vs=[zan p,zan q,.int .i64 i]∧S=⟨[],0⟩) (p.length) ?_ ?_
 ·refine ⟨0,0,rfl,Nat.zero_le _,rfl,?_,rfl⟩
  simp [Env.put,Env.of,zae]
 rintro n vs S - ⟨i,rfl,h_i,htk,rfl,rfl⟩
 refine W.seq ?_
 refine W.r fun K hK=>?_
 simp(disch:=omega)only[↓RU,RV,RH,↓reduceIte,qE,reduceCtorEq,if_pos,w64,ty6,zaa,zac]
 apply hK;clear hK K
 refine W.cond rfl (fun h1=>?_) (fun h1=>?_)
 ·try simp only[RL]at h1
  obtain ⟨x,hx,-⟩:=zaf (show i<p.length by omega)
  obtain ⟨y,hy,-⟩:=zaf (show i<q.length by omega)
  refine W.skip ?_
  refine xn ?_
  refine W.seq ?_
  refine W.block ?_
  refine W.seq_draw (by kernel_rfl) fun K hK=>?_
  simp(disch:=omega)only[↓RU,RV,RH,↓reduceIte,qE,reduceCtorEq,if_pos,w64,ty6,zac,hx,hy,zyj]
  apply hK;clear hK K
  refine W.cond rfl (fun h2=>?_) (fun h2=>?_)
  ·try simp only[RL]at h2
   refine W.r fun K hK=>?_
   simp(disch:=omega)only[↓RU,RV,RH,↓reduceIte,qE,reduceCtorEq,if_pos]
   apply hK;clear hK K
   refine W.ret ?_
   refine XBlock.ret ?_
   refine XThen.ret ?_
   refine XThen.ret ?_
   refine XBlock.ret ?_
   refine XThen.ret ?_
   refine Br rfl ?_
   rw [show decide (p=q)=false by simp; rintro rfl; rw [hx]at hy; simp_all]
   rfl
  try simp only[RL]at h2
  have h2:x=y:=by simpa using h2
  refine W.skip ?_
  refine XbN ?_
  refine xn ?_
  refine W.k fun K hK=>?_
  simp(disch:=omega)only[↓RU,RV,RH,↓reduceIte,qE,reduceCtorEq,if_pos,w64,zaa]
  apply hK;clear hK K
  refine xn ?_
  refine ⟨p.length - (i+1),by omega,0,i+1,rfl,by omega,zgh htk hx hy h2,?_,rfl⟩
  simp [Env.put,Env.of]
 try simp only[RL]at h1
 refine W.exit ?_
 refine xe ?_
 refine xe ?_
 refine XBlock.hit ?_
 refine xn ?_
 refine W.r fun K hK=>?_
 simp(disch:=omega)only[↓RU,RV,RH,↓reduceIte,qE,reduceCtorEq,if_pos]
 apply hK;clear hK K
 refine W.ret ?_
 refine Br rfl ?_
 have h1:p.take i=p:=qT (by omega)
 have h2:q.take i=q:=qT (by omega)
 rw [show decide (p=q)=true by simp; rw [← h1,← h2]; exact htk]
 rfl
theorem zsl {code:Txt} (hcode:code.length≤9223372036854775807):PC Tryz.prog 6 [eBy code] (.bool true) true:=by
 refine PC.of ⟨Tryz.func6,by kernel_rfl,rfl,by kernel_rfl⟩ zao mixed (by show 1≤Tryz.f6.ntmps; decide) ?_
 refine W.r fun K hK=>?_
 simp(disch:=omega)only[↓RU,RV,RH,↓reduceIte,qE,reduceCtorEq,if_pos,↓RS,RG,qA,qM,qL]
 apply hK;clear hK K
 refine W.seq ?_
 refine W.r fun K hK=>?_
 simp(disch:=omega)only[↓RU,RV,RH,↓reduceIte,qE,reduceCtorEq,if_pos,w64,↓RS,RG,qA,qM,qL,ty7,zaa,zd4]
 apply hK;clear hK K
 refine W.cond rfl (fun h0=>?_) (fun h0=>?_)
 ·try simp only[RL]at h0
  refine W.r fun K hK=>?_
  simp(disch:=omega)only[↓RU,RV,RH,↓reduceIte,qE,reduceCtorEq,if_pos,↓RS,RG,qA,qM,qL]
  apply hK;clear hK K
  refine W.ret ?_
  refine XThen.ret ?_
  refine Br rfl ?_
  rfl
 try simp only[RL]at h0
 have hcl:code.length≤1048576:=by omega
 refine W.skip ?_
 refine xn ?_
 refine W.r fun K hK=>?_
 simp(disch:=omega)only[↓RU,RV,RH,↓reduceIte,qE,reduceCtorEq,if_pos,qN,↓RS,RG,qA,qM,qL]
 refine zad.ev (z66 hcl) ?_
 rintro _ _ ⟨a,b,l,t,rfl,hl9,rfl⟩
 simp(disch:=omega)only[↓RU,RV,RH,↓reduceIte,qE,reduceCtorEq,if_pos,qN,↓RS,RG,qA,qM,qL]
 apply hK;clear hK K
 refine W.r fun K hK=>?_
 rcases hcv:yeg a b l with _ | q
 ·skip
  have hI:=zwy (a:=a) (b:=b) (w:=l) (by omega)
  have hS:=zwz (a:=a) (b:=b) (w:=l) (by omega)
  rw [hcv]at hI hS
  simp only[yg6]at hI hS
  simp(disch:=omega)only[↓RU,RV,RH,↓reduceIte,qE,reduceCtorEq,if_pos,qN,↓RS,RG,qA,qM,qL]
  refine zad.pc (hI) rfl (.inr rfl) ?_
  simp(disch:=omega)only[↓RU,RV,RH,↓reduceIte,qE,reduceCtorEq,if_pos,qN,↓RS,RG,qA,qM,qL]
  apply hK;clear hK K
  refine W.r fun K hK=>?_
  simp(disch:=omega)only[↓RU,RV,RH,↓reduceIte,qE,reduceCtorEq,if_pos,qN,↓RS,RG,qA,qM,qL]
  refine zad.pc (hS) rfl (.inr rfl) ?_
  simp(disch:=omega)only[↓RU,RV,RH,↓reduceIte,qE,reduceCtorEq,if_pos,qN,↓RS,RG,qA,qM,qL]
  apply hK;clear hK K
  refine W.seq ?_
  refine W.r fun K hK=>?_
  simp(disch:=omega)only[↓RU,RV,RH,↓reduceIte,qE,reduceCtorEq,if_pos,w64,qN,↓RS,RG,qA,qM,qL,zam,zo3,qO,bne_self_eq_false,beq_self_eq_true,Bool.not_true,Bool.not_false,decide_true]
  refine zad.pc (zj8 (p:=[]) (q:=[]) (by simp) (by simp)) rfl (.inl rfl) ?_
  simp(disch:=omega)only[↓RU,RV,RH,↓reduceIte,qE,reduceCtorEq,if_pos,w64,qN,↓RS,RG,qA,qM,qL,zam,zo3,qO,bne_self_eq_false,beq_self_eq_true,Bool.not_true,Bool.not_false,decide_true]
  apply hK;clear hK K
  refine W.cond rfl (fun h1=>?_) (fun h1=>?_)
  ·try simp only[RL]at h1
   refine W.r fun K hK=>?_
   simp(disch:=omega)only[↓RU,RV,RH,↓reduceIte,qE,reduceCtorEq,if_pos,w64,qN,↓RS,RG,qA,qM,qL,zam,zo3,qO,bne_self_eq_false,beq_self_eq_true,Bool.not_true,Bool.not_false,decide_true,decide_true]
   refine zad.pc (zj8 (p:=[]) (q:=[]) (by simp) (by simp)) rfl (.inl rfl) ?_
   simp(disch:=omega)only[↓RU,RV,RH,↓reduceIte,qE,reduceCtorEq,if_pos,w64,qN,↓RS,RG,qA,qM,qL,zam,zo3,qO,bne_self_eq_false,beq_self_eq_true,Bool.not_true,Bool.not_false,decide_true,decide_true]
   apply hK;clear hK K
   refine W.ret ?_
   refine XThen.ret ?_
   refine Br rfl ?_
   rfl
  try simp only[RL]at h1
  exact absurd h1 (by simp)
 skip
 have hI:=zwy (a:=a) (b:=b) (w:=l) (by omega)
 have hS:=zwz (a:=a) (b:=b) (w:=l) (by omega)
 rw [hcv]at hI hS
 simp only[yg6]at hI hS
 obtain ⟨f1,f2,f3,f4,f5,f6⟩:=z6v hcv
 obtain ⟨row0,hrow0,-⟩:=zaf f6
 have hh:(row0.length:Int)=b:=by rw [← f4,zc4 hrow0]
 have hpi:zc0 q=true:=by rw [zfh]; exact f1
 have hP:=zx2 f5
 rw [hpi]at hP
 have hq1:=f5.rows
 simp(disch:=omega)only[↓RU,RV,RH,↓reduceIte,qE,reduceCtorEq,if_pos,qN,↓RS,RG,qA,qM,qL]
 refine zad.pc (hI) rfl (.inr rfl) ?_
 simp(disch:=omega)only[↓RU,RV,RH,↓reduceIte,qE,reduceCtorEq,if_pos,qN,↓RS,RG,qA,qM,qL]
 apply hK;clear hK K
 refine W.r fun K hK=>?_
 simp(disch:=omega)only[↓RU,RV,RH,↓reduceIte,qE,reduceCtorEq,if_pos,qN,↓RS,RG,qA,qM,qL]
 refine zad.pc (hS) rfl (.inr rfl) ?_
 simp(disch:=omega)only[↓RU,RV,RH,↓reduceIte,qE,reduceCtorEq,if_pos,qN,↓RS,RG,qA,qM,qL]
 apply hK;clear hK K
 refine W.seq ?_
 refine W.r fun K hK=>?_
 simp(disch:=omega)only[↓RU,RV,RH,↓reduceIte,qE,reduceCtorEq,if_pos,w64,qN,↓RS,RG,qA,qM,qL,zam,zo3,qO,bne_self_eq_false,beq_self_eq_true,Bool.not_true,Bool.not_false,decide_true,decide_true]
 refine zad.pc (zj8 (p:=q) (q:=q) (by omega) (by omega)) rfl (.inl rfl) ?_
 simp(disch:=omega)only[↓RU,RV,RH,↓reduceIte,qE,reduceCtorEq,if_pos,w64,qN,↓RS,RG,qA,qM,qL,zam,zo3,qO,bne_self_eq_false,beq_self_eq_true,Bool.not_true,Bool.not_false,decide_true,decide_true]
 apply hK;clear hK K
 refine W.cond rfl (fun h1=>?_) (fun h1=>?_)
 ·try simp only[RL]at h1
  exact absurd h1 (by simp)
 try simp only[RL]at h1
 refine W.skip ?_
 refine xn ?_
 refine W.r fun K hK=>?_
 simp(disch:=omega)only[↓RU,RV,RH,↓reduceIte,qE,reduceCtorEq,if_pos,qN,↓RS,RG,qA,qM,qL]
 refine zad.pc (hP) rfl (.inr rfl) ?_
 simp(disch:=omega)only[↓RU,RV,RH,↓reduceIte,qE,reduceCtorEq,if_pos,qN,↓RS,RG,qA,qM,qL]
 apply hK;clear hK K
 refine W.r fun K hK=>?_
 have hde:decide (zd3 q=l)=true:=decide_eq_true f2
 have g1:((q.length:Int) == a)=true:=by rw [f3]; exact beq_self_eq_true _
 have g2:((row0.length:Int) == b)=true:=by rw [hh]; exact beq_self_eq_true _
 have pl:=zfq (p:=q)
 have ql:(zd3 q).length=l.length:=by rw [f2]
 simp(disch:=omega)only[↓RU,RV,RH,↓reduceIte,qE,reduceCtorEq,if_pos,qN,w64,↓RS,RG,qA,qM,qL,ty6,zaa,zac,zo3,qO,bne_self_eq_false,beq_self_eq_true,Bool.not_true,Bool.not_false,decide_true,hde,g1,g2,hrow0,Int.toNat_zero,Nat.zero_mul,qZ,qM,Nat.zero_add,Nat.mul_one,List.getElem?_cons_zero,List.getElem?_cons_succ]
 refine zad.pc (z0y (p:=zd3 q) (q:=l) (by omega) (by omega)) rfl (.inl rfl) ?_
 simp(disch:=omega)only[↓RU,RV,RH,↓reduceIte,qE,reduceCtorEq,if_pos,qN,w64,↓RS,RG,qA,qM,qL,ty6,zaa,zac,zo3,qO,bne_self_eq_false,beq_self_eq_true,Bool.not_true,Bool.not_false,decide_true,hde,g1,g2,hrow0,Int.toNat_zero,Nat.zero_mul,qZ,qM,Nat.zero_add,Nat.mul_one,List.getElem?_cons_zero,List.getElem?_cons_succ]
 apply hK;clear hK K
 refine W.ret ?_
 refine Br rfl ?_
 rfl
end Fw
end Go.Proofs.YtddhgiafpmghpaaGreat
namespace Go.Proofs.YtddhgiafpmghpaaGreat
open Go Go.ChangeShapes Go.WideShapes Go.ChangeAt Go.RowKit Fw
theorem Tryz.ownRsd:ownKnob Tryz.prog.godebug=none:=by kernel_rfl
theorem Tryz.laidOutRsd:laidOutB Tryz.prog=true:=by kernel_rfl
set_option maxRecDepth 100000 in
theorem rsd_lifted (os:Os) (started:os.Started) (H:Type) (enc:TypeId × Value→H) :
  ReturnsInHanded {} Tryz.checked os 6 .any (Rows.fnCountFirstSpec.pre6 enc Tryz.prog Tryz.f6 Rows.fnCountFirstRow.domain false) (Rows.fnCountFirstSpec.post enc Tryz.prog Tryz.f6 false true false false):=by
 refine returnsInHanded_of_change (C:=Tryz.checked) Tryz.ownRsd started (by kernel_rfl) Tryz.func6
  (ChangeSpec.witness6 (enc:=enc) (C:=Tryz.checked) false ⟨#[],#[.slice none 0 0],[]⟩ 8 (by kernel_rfl) (by kernel_rfl) (by kernel_rfl) (by kernel_rfl)) ?_
 intro W base args ds gs before hval0 hW hcnd _
 have hval:∀ (j:Nat) t v,Tryz.f6.params[j]?=some t→args[j]?=some v→Value.okWide Tryz.prog W .any base t v:=hval0
 have hW':=hW
 obtain ⟨p,q,hA0,hV,rfl,hfz,hnd⟩:=hW
 have hA:DataW.TrodAll enc Tryz.prog W 0 (fun _=>true) true Tryz.f6.params.toList args.toList ds p:=hA0
 rw [Tryz.params6]at hA hval
 obtain ⟨v0,d0,rfl,rfl,h0⟩:=trodAll_one hA
 obtain ⟨rfl,rfl⟩:=trodVars_none hV
 obtain ⟨l0,i0,b0⟩:=ycg (hval 0 _ v0 rfl rfl) h0
 have hlt:∀ x∈p,x.block<W.heap.size:=fun x hx=>hW'.lt x (by simp [hx])
 refine ((zsl b0).run (fun b=>b<W.heap.size) W #[v0] (fun _ h=>h) rfl ?_).mono ?_
 ·rintro (_ | i) p c hp hc
  ·cases hp; cases hc; exact i0
  simp at hp
 rintro e W' ⟨cv,rfl,⟨hB,_⟩,hr⟩
 have hcv:cv = .bool true:=by cases hr; rfl
 subst hcv
 have t0:=Below.trod Tryz.laidOutRsd (by kernel_rfl) (of_decide_eq_true (by kernel_rfl)) h0 hB fun x hx=>hlt x (by simp [hx])
 refine ⟨_,rfl,_,_,_,[],p,[],hW',?_,?_,?_,hB.frame _,fun h=>by cases h⟩
 ·exact trodAll_mk1 (shut_bool Tryz.underlying4 true)
 ·rw [Tryz.params6]; exact trodAll_mk1 t0
 trivial
theorem rsd_holds:Rows.FnCountFirstSaid :=
 OpenClaim.holds_of_wide 6 Tryz.f6 rfl rfl rfl rfl rfl rfl rfl ⟨rfl,rfl,rfl,rfl,rfl⟩ rfl rfl rfl rfl rfl (by kernel_rfl) Tryz.func6 (by kernel_rfl)
  (of_decide_eq_true (by kernel_rfl)) (by unfold Func.isWrapper; first | (rw [if_pos (by decide +kernel)]; kernel_rfl) | (rw [if_neg (by decide +kernel)]; exact ⟨rfl,rfl⟩))
  (fun os started H enc _=>rsd_lifted os started H enc)
end Go.Proofs.YtddhgiafpmghpaaGreat
