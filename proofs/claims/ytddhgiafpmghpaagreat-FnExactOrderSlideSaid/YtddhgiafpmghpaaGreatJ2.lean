/- Parts of the framework and of the proof: The specification of plans, gone through; What a plan is, gone through; Points where rooms meet, gone through; Walls, gone through; Walls and their sides, gone through; The sides of a wall, gone through; Upright walls, gone through; Walls and orders of plans in plain words; All walls; sets of rooms, gone through; Sizes of plans in plain words; The program's own data in plain words; Small functions of the program and of the library, gone through; The program's walls in plain words; Walls of the program, gone through; Lists without neighbours that are the same; the program's relations in plain words; Compact and the sides of walls of the program, gone through; Relations of rooms in plain words, and in the store; Relations, gone through; The program's orders in plain words; Orders of the program, gone through. -/
import Derived.Test.YtddhgiafpmghpaaGreatJ1
set_option linter.all false
namespace Go.Proofs.YtddhgiafpmghpaaGreat
namespace Fw
open Go
open Nat renaming reduceEqDiff → qE, reduceLeDiff → qL, reduceAdd → qA, reduceMul → qM, le_refl → qR
open List renaming append_nil → qN, mapM_append → qP, mapM_cons → qC, mapM_map → qU, range_succ → qS, take_of_length_le → qT
open Bool renaming and_eq_true → qB, false_eq_true → qF
open Option renaming map_some → qO, map_eq_some_iff → qI
open Int renaming reduceToNat → qZ
theorem zla {p:List Txt} (hs:Sm p):PC Tryz.prog 72 [zal p] (.bool (zcp p)) true:=by
 have hp:=hs.rows
 have hr:=hs.cols
 refine PC.of ⟨Tryz.func72,by kernel_rfl,rfl,by kernel_rfl⟩ zam mixed (by show 1≤Tryz.f72.ntmps; decide) ?_
 refine W.r fun K hK=>?_
 simp(disch:=omega)only[↓RU,RV,RH,↓reduceIte,qE,reduceCtorEq,if_pos]
 apply hK;clear hK K
 refine W.seq ?_
 refine W.r fun K hK=>?_
 simp(disch:=omega)only[↓RU,RV,RH,↓reduceIte,qE,reduceCtorEq,if_pos]
 apply hK;clear hK K
 refine W.block ?_
 refine W.loop [0,3] (fun n vs S=>∃ i:Nat,n=p.length - i∧i≤p.length∧((p.take i).all (zq5 (zah p).length)=true)∧vs=[zal p,.int .i64 i]∧S=⟨[],0⟩) (p.length) ?_ ?_
 ·refine ⟨0,0,rfl,Nat.zero_le _,rfl,?_,rfl⟩
  simp [Env.put,Env.of,zae]
 rintro n vs S - ⟨i,rfl,h_i,hg,rfl,rfl⟩
 refine W.seq ?_
 refine W.r fun K hK=>?_
 simp(disch:=omega)only[↓RU,RV,RH,↓reduceIte,qE,reduceCtorEq,if_pos,w64,ty6,zaa,zac]
 apply hK;clear hK K
 refine W.cond rfl (fun h=>?_) (fun h=>?_)
 ·try simp only[RL]at h
  obtain ⟨row,hrow,hrm⟩:=zad (show i<p.length by omega)
  have hrl:=hr row hrm
  obtain ⟨row0,hrow0,hrm0⟩:=zad (show 0<p.length by omega)
  have hhd:=zcm hrow0
  refine W.skip ?_
  refine xn ?_
  refine W.seq ?_
  refine W.block ?_
  refine W.seq ?_
  refine W.seq_draw (by kernel_rfl) fun K hK=>?_
  cases hw:((row.length:Int) != (row0.length:Int))
  ·skip
   simp(disch:=omega)only[↓RU,RV,RH,↓reduceIte,qE,reduceCtorEq,if_pos,w64,qN,ty6,zaa,zac,hrow,hrow0,Int.toNat_zero,Nat.zero_mul,qZ,hw]
   refine zaf.pc (z5j _ _ _) rfl (.inl rfl) ?_
   simp(disch:=omega)only[↓RU,RV,RH,↓reduceIte,qE,reduceCtorEq,if_pos,w64,qN,ty6,zaa,zac,hrow,hrow0,Int.toNat_zero,Nat.zero_mul,qZ,hw]
   apply hK;clear hK K
   simp only[bne_eq_false_iff_eq]at hw
   refine W.cond rfl (fun h2=>?_) (fun h2=>?_)
   ·skip
    simp only[Bool.not_eq_true',Bool.and_eq_false_iff,decide_eq_false_iff_not]at h2
    refine W.r fun K hK=>?_
    simp(disch:=omega)only[↓RU,RV,RH,↓reduceIte,qE,reduceCtorEq,if_pos]
    apply hK;clear hK K
    refine W.ret ?_
    refine XThen.ret ?_
    refine XBlock.ret ?_
    refine XThen.ret ?_
    refine XThen.ret ?_
    refine XBlock.ret ?_
    refine XThen.ret ?_
    refine Br rfl ?_
    rw [zn9 hrow (by cases hb:zq5 (zah p).length row with | false=>rfl | true=>exfalso; simp only[zq5,qB,decide_eq_true_eq]at hb; rw [hhd]at hb; omega)]
    rfl
   skip
   simp only[Bool.not_eq_false',qB,decide_eq_true_eq]at h2
   refine W.skip ?_
   refine xn ?_
   refine W.r fun K hK=>?_
   simp(disch:=omega)only[↓RU,RV,RH,↓reduceIte,qE,reduceCtorEq,if_pos]
   apply hK;clear hK K
   refine W.block ?_
   refine W.loop [0,3,4] (fun n vs S=>∃ k:Nat,n=row.length - k∧k≤row.length∧((row.take k).all zct=true)∧vs=[zal p,.int .i64 i,.int .i64 k]∧S=⟨[],0⟩) (row.length) ?_ ?_
   ·refine ⟨0,0,rfl,Nat.zero_le _,rfl,?_,rfl⟩
    simp [Env.put,Env.of,zae]
   rintro n vs S - ⟨k,rfl,h_k,hl,rfl,rfl⟩
   refine W.seq ?_
   refine W.r fun K hK=>?_
   simp(disch:=omega)only[↓RU,RV,RH,↓reduceIte,qE,reduceCtorEq,if_pos,w64,ty6,zaa,zac,hrow]
   apply hK;clear hK K
   refine W.cond rfl (fun h3=>?_) (fun h3=>?_)
   ·try simp only[RL]at h3
    obtain ⟨c,hc,-⟩:=zad (show k<row.length by omega)
    have hcl:=c.toNat_lt
    refine W.skip ?_
    refine xn ?_
    refine W.seq ?_
    refine W.block ?_
    refine W.r fun K hK=>?_
    cases hlo:decide ((c.toNat:Int)<97)
    ·skip
     simp(disch:=omega)only[↓RU,RV,RH,↓reduceIte,qE,reduceCtorEq,if_pos,w64,ty6,zac,zep,hrow,hc,hlo]
     apply hK;clear hK K
     refine W.cond rfl (fun h4=>?_) (fun h4=>?_)
     ·try simp only[RL]at h4
      refine W.r fun K hK=>?_
      simp(disch:=omega)only[↓RU,RV,RH,↓reduceIte,qE,reduceCtorEq,if_pos]
      apply hK;clear hK K
      refine W.ret ?_
      refine XBlock.ret ?_
      refine XThen.ret ?_
      refine XThen.ret ?_
      refine XBlock.ret ?_
      refine XBlock.ret ?_
      refine XThen.ret ?_
      refine XThen.ret ?_
      refine XBlock.ret ?_
      refine XThen.ret ?_
      refine Br rfl ?_
      rw [zn9 hrow (zl3 hc (by cases hb:zct c with | false=>rfl | true=>exfalso; simp only[zct,qB,decide_eq_true_eq]at hb; omega))]
      rfl
     try simp only[RL]at h4
     refine W.skip ?_
     refine XbN ?_
     refine xn ?_
     refine W.k fun K hK=>?_
     simp(disch:=omega)only[↓RU,RV,RH,↓reduceIte,qE,reduceCtorEq,if_pos,w64,zaa]
     apply hK;clear hK K
     refine xn ?_
     refine ⟨row.length - (k+1),by omega,0,k+1,rfl,by omega,zza hc hl (by simp only[decide_eq_false_iff_not]at hlo; simp only[zct,qB,decide_eq_true_eq]; omega),?_,rfl⟩
     simp [Env.put,Env.of]
    skip
    simp(disch:=omega)only[↓RU,RV,RH,↓reduceIte,qE,reduceCtorEq,if_pos,w64,ty6,zac,zep,hrow,hc,hlo]
    apply hK;clear hK K
    refine W.cond rfl (fun h4=>?_) (fun h4=>?_)
    ·try simp only[RL]at h4
     refine W.r fun K hK=>?_
     simp(disch:=omega)only[↓RU,RV,RH,↓reduceIte,qE,reduceCtorEq,if_pos]
     apply hK;clear hK K
     refine W.ret ?_
     refine XBlock.ret ?_
     refine XThen.ret ?_
     refine XThen.ret ?_
     refine XBlock.ret ?_
     refine XBlock.ret ?_
     refine XThen.ret ?_
     refine XThen.ret ?_
     refine XBlock.ret ?_
     refine XThen.ret ?_
     refine Br rfl ?_
     simp only[decide_eq_true_eq]at hlo
     rw [zn9 hrow (zl3 hc (by cases hb:zct c with | false=>rfl | true=>exfalso; simp only[zct,qB,decide_eq_true_eq]at hb; omega))]
     rfl
    try simp only[RL]at h4
    exact absurd h4 (by simp)
   try simp only[RL]at h3
   have hl2:row.all zct=true:=by rw [show k=row.length by omega,List.take_length]at hl; exact hl
   refine W.exit ?_
   refine xe ?_
   refine xe ?_
   refine XBlock.hit ?_
   refine XbN ?_
   refine xn ?_
   refine W.k fun K hK=>?_
   simp(disch:=omega)only[↓RU,RV,RH,↓reduceIte,qE,reduceCtorEq,if_pos,w64,zaa]
   apply hK;clear hK K
   refine xn ?_
   refine ⟨p.length - (i+1),by omega,0,i+1,rfl,by omega,zza hrow hg (by rw [hhd]; simp only[zq5,hl2,Bool.and_true,qB,decide_eq_true_eq]; omega),?_,rfl⟩
   simp [Env.put,Env.of]
  skip
  simp(disch:=omega)only[↓RU,RV,RH,↓reduceIte,qE,reduceCtorEq,if_pos,w64,qN,ty6,zaa,zac,hrow,hrow0,Int.toNat_zero,Nat.zero_mul,qZ,hw]
  apply hK;clear hK K
  simp only[bne_iff_ne,ne_eq]at hw
  refine W.cond rfl (fun h2=>?_) (fun h2=>?_)
  ·try simp only[RL]at h2
   refine W.r fun K hK=>?_
   simp(disch:=omega)only[↓RU,RV,RH,↓reduceIte,qE,reduceCtorEq,if_pos]
   apply hK;clear hK K
   refine W.ret ?_
   refine XThen.ret ?_
   refine XBlock.ret ?_
   refine XThen.ret ?_
   refine XThen.ret ?_
   refine XBlock.ret ?_
   refine XThen.ret ?_
   refine Br rfl ?_
   rw [zn9 hrow (by cases hb:zq5 (zah p).length row with | false=>rfl | true=>exfalso; simp only[zq5,qB,decide_eq_true_eq]at hb; rw [hhd]at hb; omega)]
   rfl
  try simp only[RL]at h2
  exact absurd h2 (by simp)
 try simp only[RL]at h
 refine W.exit ?_
 refine xe ?_
 refine xe ?_
 refine XBlock.hit ?_
 refine xn ?_
 refine W.r fun K hK=>?_
 simp(disch:=omega)only[↓RU,RV,RH,↓reduceIte,qE,reduceCtorEq,if_pos,qN,ty6,zac]
 refine zaf.pc (z5j _ _ _) rfl (.inl rfl) ?_
 simp(disch:=omega)only[↓RU,RV,RH,↓reduceIte,qE,reduceCtorEq,if_pos,qN,ty6,zac]
 apply hK;clear hK K
 refine W.ret ?_
 refine Br rfl ?_
 have hip:i=p.length:=by omega
 rw [hip,List.take_length]at hg
 rw [z46 hg,← yeu]
 rfl
theorem zrx {p:List Txt} (hs:Sm p):PC Tryz.prog 74 [zal p] (zal (names p)) true:=by
 have hp:=hs.rows
 have hr:=hs.cols
 refine PC.of ⟨Tryz.func74,by kernel_rfl,rfl,by kernel_rfl⟩ zam mixed (by show 1≤Tryz.f74.ntmps; decide) ?_
 refine W.r fun K hK=>?_
 simp(disch:=omega)only[↓RU,RV,RH,↓reduceIte,qE,reduceCtorEq,if_pos,↓RS,RG,qA,qM,qL]
 apply hK;clear hK K
 refine W.r fun K hK=>?_
 simp(disch:=omega)only[↓RU,RV,RH,↓reduceIte,qE,reduceCtorEq,if_pos,↓RS,RG,qA,qM,qL,ty7,zep]
 apply hK;clear hK K
 refine W.r fun K hK=>?_
 simp(disch:=omega)only[↓RU,RV,RH,↓reduceIte,qE,reduceCtorEq,if_pos,↓RS,RG,qA,qM,qL,ty6,zac]
 apply hK;clear hK K
 refine W.seq ?_
 refine W.r fun K hK=>?_
 simp(disch:=omega)only[↓RU,RV,RH,↓reduceIte,qE,reduceCtorEq,if_pos,↓RS,RG,qA,qM,qL]
 apply hK;clear hK K
 refine W.block ?_
 refine W.loop [0,3,4,5] (fun n vs S=>∃ i v0 v1 tk:Nat,n=p.length - i∧i≤p.length∧vs=[zal p,.loc 0 v0 0 (ze3 p i).1.length,.loc 1 v1 0 (ze3 p i).2.length,.int .i64 i]∧S=⟨[.arr v0 5 1 ((ze3 p i).1.map eB),.arr v1 9 1 ((ze3 p i).2.map .str)],tk⟩) (p.length) ?_ ?_
 ·refine ⟨2,0,0,1,2,rfl,Nat.zero_le _,?_,rfl⟩
  simp [Env.put,Env.of,zae,ze3]
 rintro n vs S - ⟨i,v0,v1,tk,rfl,h_i,rfl,rfl⟩
 refine W.seq ?_
 refine W.r fun K hK=>?_
 simp(disch:=omega)only[↓RU,RV,RH,↓reduceIte,qE,reduceCtorEq,if_pos,w64,↓RS,RG,qA,qM,qL,ty6,zaa,zac]
 apply hK;clear hK K
 refine W.cond rfl (fun h=>?_) (fun h=>?_)
 ·try simp only[RL]at h
  obtain ⟨row,hrow,hrm⟩:=zad (show i<p.length by omega)
  have hrl:=hr row hrm
  have hal:=zoq hs.2 h_i
  have hs1:=hs.1
  refine W.skip ?_
  refine xn ?_
  refine W.seq ?_
  refine W.block ?_
  refine W.r fun K hK=>?_
  simp(disch:=omega)only[↓RU,RV,RH,↓reduceIte,qE,reduceCtorEq,if_pos,↓RS,RG,qA,qM,qL,ty7,zep]
  apply hK;clear hK K
  refine W.seq ?_
  refine W.r fun K hK=>?_
  simp(disch:=omega)only[↓RU,RV,RH,↓reduceIte,qE,reduceCtorEq,if_pos,↓RS,RG,qA,qM,qL]
  apply hK;clear hK K
  refine W.block ?_
  refine W.loop [0,3,4,5,6,7] (fun n vs S=>∃ k v0 v2 tk:Nat,n=row.length - k∧k≤row.length∧vs=[zal p,.loc 0 v0 0 (zkk (ze3 p i).1 row k).1.length,.loc 1 v1 0 (ze3 p i).2.length,.int .i64 i,.loc 2 v2 0 (zkk (ze3 p i).1 row k).2.length,.int .i64 k]∧S=⟨[.arr v0 5 1 ((zkk (ze3 p i).1 row k).1.map eB),.arr v1 9 1 ((ze3 p i).2.map .str),.arr v2 5 1 ((zkk (ze3 p i).1 row k).2.map eB)],tk⟩) (row.length) ?_ ?_
  ·refine ⟨3,0,v0,tk,tk+1,rfl,Nat.zero_le _,?_,rfl⟩
   simp [Env.put,Env.of,zae,zkk]
  rintro n vs S - ⟨k,v0,v2,tk,rfl,h_k,rfl,rfl⟩
  refine W.seq ?_
  refine W.r fun K hK=>?_
  simp(disch:=omega)only[↓RU,RV,RH,↓reduceIte,qE,reduceCtorEq,if_pos,w64,↓RS,RG,qA,qM,qL,ty6,zaa,zac,hrow]
  apply hK;clear hK K
  refine W.cond rfl (fun h1=>?_) (fun h1=>?_)
  ·try simp only[RL]at h1
   obtain ⟨c,hc,-⟩:=zad (show k<row.length by omega)
   have hcl:=c.toNat_lt
   have hrs:=zl0 (o:=(ze3 p i).1) h_k
   generalize hst:zkk (ze3 p i).1 row k=st at hrs ⊢
   refine W.skip ?_
   refine xn ?_
   refine W.seq ?_
   refine W.block ?_
   refine W.r fun K hK=>?_
   simp(disch:=omega)only[↓RU,RV,RH,↓reduceIte,qE,reduceCtorEq,if_pos,↓RS,RG,qA,qM,qL]
   apply hK;clear hK K
   refine W.seq ?_
   refine W.block ?_
   refine W.loop [0,3,4,5,6,7,8] (fun n vs S=>∃ a:Nat,n=st.1.length - a∧a≤st.1.length∧(∀ j,j<a→st.1[j]?≠some c)∧vs=[zal p,.loc 0 v0 0 st.1.length,.loc 1 v1 0 (ze3 p i).2.length,.int .i64 i,.loc 2 v2 0 st.2.length,.int .i64 k,.int .i64 a]∧S=⟨[.arr v0 5 1 (st.1.map eB),.arr v1 9 1 ((ze3 p i).2.map .str),.arr v2 5 1 (st.2.map eB)],tk⟩) (st.1.length) ?_ ?_
   ·refine ⟨3,0,rfl,Nat.zero_le _,fun j hj=>absurd hj (Nat.not_lt_zero _),?_,rfl⟩
    simp [Env.put,Env.of,zae]
   rintro n vs S - ⟨a,rfl,h_a,ha,rfl,rfl⟩
   refine W.seq ?_
   refine W.seq_draw (by kernel_rfl) fun K hK=>?_
   cases ho:decide ((a:Int)<(st.1.length:Int))
   ·skip
    simp(disch:=omega)only[↓RU,RV,RH,↓reduceIte,qE,reduceCtorEq,if_pos,w64,↓RS,RG,qA,qM,qL,ty6,ty7,zaa,zac,zep,hrow,hc,ho]
    apply hK;clear hK K
    refine W.cond rfl (fun h2=>?_) (fun h2=>?_)
    ·try simp only[RL]at h2
     exact absurd h2 (by simp)
    ·try simp only[RL]at h2
     have hal2:a=st.1.length:=by simp at ho; omega
     have hix:st.1.idxOf c=a:=zob ha (.inl hal2)
     refine W.exit ?_
     refine xe ?_
     refine xe ?_
     refine XBlock.hit ?_
     refine xn ?_
     refine W.seq ?_
     refine W.r fun K hK=>?_
     simp(disch:=omega)only[↓RU,RV,RH,↓reduceIte,qE,reduceCtorEq,if_pos,w64,↓RS,RG,qA,qM,qL,ty7,zaa,zep]
     apply hK;clear hK K
     refine W.cond rfl (fun h3=>?_) (fun h3=>?_)
     ·try simp only[RL]at h3
      refine W.k fun K hK=>?_
      simp(disch:=omega)only[↓RU,RV,RH,↓reduceIte,qE,reduceCtorEq,if_pos,↓RS,RG,qA,qM,qL,ty6,ty7,zac,zep,hrow,hc]
      apply hK;clear hK K
      refine xn ?_
      refine W.k fun K hK=>?_
      simp(disch:=omega)only[↓RU,RV,RH,↓reduceIte,qE,reduceCtorEq,if_pos,w64,w64,↓RS,RG,qA,qM,qL,ty7,zaa,zep,ydp]
      apply hK;clear hK K
      refine XbN ?_
      refine xn ?_
      refine W.k fun K hK=>?_
      simp(disch:=omega)only[↓RU,RV,RH,↓reduceIte,qE,reduceCtorEq,if_pos,w64,↓RS,RG,qA,qM,qL,zaa]
      apply hK;clear hK K
      refine xn ?_
      refine ⟨row.length - (k+1),by omega,3,k+1,tk+1,tk+3,tk+4,rfl,by omega,?_,?_⟩
      all_goals rw [zjd hc,hst,z82 hix hal2]
      all_goals simp [Env.put,Env.of,zaq]
     try simp only[RL]at h3
     simp at ho; omega
   ·skip
    obtain ⟨x,hx,-⟩:=zad (show a<st.1.length by simpa using ho)
    have ho2:a<st.1.length:=by simpa using ho
    simp(disch:=omega)only[↓RU,RV,RH,↓reduceIte,qE,reduceCtorEq,if_pos,w64,↓RS,RG,qA,qM,qL,ty6,ty7,zaa,zac,zep,hrow,hc,ho,hx]
    apply hK;clear hK K
    refine W.cond rfl (fun h2=>?_) (fun h2=>?_)
    ·try simp only[RL]at h2
     refine W.skip ?_
     refine xn ?_
     refine W.block ?_
     refine W.k fun K hK=>?_
     simp(disch:=omega)only[↓RU,RV,RH,↓reduceIte,qE,reduceCtorEq,if_pos,w64,↓RS,RG,qA,qM,qL,zaa]
     apply hK;clear hK K
     refine XbN ?_
     refine xn ?_
     refine ⟨st.1.length - (a+1),by omega,3,a+1,rfl,by omega,fun j hj=>(Nat.lt_succ_iff_lt_or_eq.1 hj).elim (ha j) fun e=>by rw [e,hx]; intro e2; exact h2 (by rw [Option.some.inj e2]),?_,rfl⟩
     simp [Env.put,Env.of]
    ·try simp only[RL]at h2
     have hal2:a<st.1.length:=by simpa using ho
     have hix:st.1.idxOf c=a:=zob ha (.inr (by rw [hx,UInt8.toNat_inj.1 (show x.toNat=c.toNat by omega)]))
     refine W.exit ?_
     refine xe ?_
     refine xe ?_
     refine XBlock.hit ?_
     refine xn ?_
     refine W.seq ?_
     refine W.r fun K hK=>?_
     simp(disch:=omega)only[↓RU,RV,RH,↓reduceIte,qE,reduceCtorEq,if_pos,w64,↓RS,RG,qA,qM,qL,ty7,zaa,zep]
     apply hK;clear hK K
     refine W.cond rfl (fun h3=>?_) (fun h3=>?_)
     ·try simp only[RL]at h3
      simp at ho; omega
     ·try simp only[RL]at h3
      refine W.skip ?_
      refine xn ?_
      refine W.k fun K hK=>?_
      simp(disch:=omega)only[↓RU,RV,RH,↓reduceIte,qE,reduceCtorEq,if_pos,w64,w64,↓RS,RG,qA,qM,qL,ty7,zaa,zep,ydp]
      apply hK;clear hK K
      refine XbN ?_
      refine xn ?_
      refine W.k fun K hK=>?_
      simp(disch:=omega)only[↓RU,RV,RH,↓reduceIte,qE,reduceCtorEq,if_pos,w64,↓RS,RG,qA,qM,qL,zaa]
      apply hK;clear hK K
      refine xn ?_
      refine ⟨row.length - (k+1),by omega,3,k+1,v0,tk+1,tk+2,rfl,by omega,?_,?_⟩
      all_goals rw [zjd hc,hst,z83 hix hal2]
      all_goals simp [Env.put,Env.of,zaq]
  ·try simp only[RL]at h1
   have hkr:k=row.length:=by omega
   subst hkr
   refine W.exit ?_
   refine xe ?_
   refine xe ?_
   refine XBlock.hit ?_
   refine xn ?_
   refine W.k fun K hK=>?_
   simp(disch:=omega)only[↓RU,RV,RH,↓reduceIte,qE,reduceCtorEq,if_pos,w64,↓RS,RG,qA,qM,qL,ty6,ty7,zac,zep]
   apply hK;clear hK K
   refine XbN ?_
   refine xn ?_
   refine W.k fun K hK=>?_
   simp(disch:=omega)only[↓RU,RV,RH,↓reduceIte,qE,reduceCtorEq,if_pos,w64,↓RS,RG,qA,qM,qL,zaa]
   apply hK;clear hK K
   refine xn ?_
   refine ⟨p.length - (i+1),by omega,2,i+1,v0,tk+1,tk+2,rfl,by omega,?_,?_⟩
   all_goals rw [zi0 hrow]
   all_goals simp [Env.put,Env.of,zaq]
 try simp only[RL]at h
 refine W.exit ?_
 refine xe ?_
 refine xe ?_
 refine XBlock.hit ?_
 refine xn ?_
 refine W.r fun K hK=>?_
 simp(disch:=omega)only[↓RU,RV,RH,↓reduceIte,qE,reduceCtorEq,if_pos,↓RS,RG,qA,qM,qL]
 apply hK;clear hK K
 refine W.ret ?_
 refine Br rfl ?_
 have hip:i=p.length:=by omega
 subst hip
 rw [zop]
 exact zbh (k:=9) rfl (by simp) (zod _)
theorem zsn {p:List Txt} (hs:Sm p):PC Tryz.prog 29 [zal p] (.bool (zes p)) true:=by
 have hp:=hs.rows
 have hrb:=zf8 p
 obtain ⟨R,hR⟩:∃ R:Nat,zaw p=R:=⟨_,(Int.toNat_of_nonneg hrb.1).symm⟩
 refine PC.of ⟨Tryz.func29,by kernel_rfl,rfl,by kernel_rfl⟩ zam mixed (by show 1≤Tryz.f29.ntmps; decide) ?_
 refine W.r fun K hK=>?_
 simp(disch:=omega)only[↓RU,RV,RH,↓reduceIte,qE,reduceCtorEq,if_pos]
 apply hK;clear hK K
 refine W.seq ?_
 refine W.r fun K hK=>?_
 rcases hx:(zcp p,decide (names p=p)) with ⟨_ | _,_ | _⟩
 ·skip
  simp only[Prod.mk.injEq]at hx
  obtain ⟨hg,hn⟩:=hx
  simp(disch:=omega)only[↓RU,RV,RH,↓reduceIte,qE,reduceCtorEq,if_pos,qN,w64,zaa,hg]
  refine zaf.pc (zla hs) rfl (.inl rfl) ?_
  simp(disch:=omega)only[↓RU,RV,RH,↓reduceIte,qE,reduceCtorEq,if_pos,qN,w64,zaa,hg]
  apply hK;clear hK K
  refine W.cond rfl (fun h0=>?_) (fun h0=>?_)
  ·try simp only[RL]at h0
   refine W.r fun K hK=>?_
   simp(disch:=omega)only[↓RU,RV,RH,↓reduceIte,qE,reduceCtorEq,if_pos]
   apply hK;clear hK K
   refine W.ret ?_
   refine XThen.ret ?_
   refine Br rfl ?_
   rw [zof (.inl hg)]
   rfl
  try simp only[RL]at h0
  exact absurd h0 (by simp)
 ·skip
  simp only[Prod.mk.injEq]at hx
  obtain ⟨hg,hn⟩:=hx
  simp(disch:=omega)only[↓RU,RV,RH,↓reduceIte,qE,reduceCtorEq,if_pos,qN,w64,zaa,hg]
  refine zaf.pc (zla hs) rfl (.inl rfl) ?_
  simp(disch:=omega)only[↓RU,RV,RH,↓reduceIte,qE,reduceCtorEq,if_pos,qN,w64,zaa,hg]
  apply hK;clear hK K
  refine W.cond rfl (fun h0=>?_) (fun h0=>?_)
  ·try simp only[RL]at h0
   refine W.r fun K hK=>?_
   simp(disch:=omega)only[↓RU,RV,RH,↓reduceIte,qE,reduceCtorEq,if_pos]
   apply hK;clear hK K
   refine W.ret ?_
   refine XThen.ret ?_
   refine Br rfl ?_
   rw [zof (.inl hg)]
   rfl
  try simp only[RL]at h0
  exact absurd h0 (by simp)
 ·skip
  simp only[Prod.mk.injEq]at hx
  obtain ⟨hg,hn⟩:=hx
  simp(disch:=omega)only[↓RU,RV,RH,↓reduceIte,qE,reduceCtorEq,if_pos,qN,w64,zaa,hg,hn]
  refine zaf.pc (zla hs) rfl (.inl rfl) ?_
  simp(disch:=omega)only[↓RU,RV,RH,↓reduceIte,qE,reduceCtorEq,if_pos,qN,w64,zaa,hg,hn]
  refine zaf.pc (zrx hs) rfl (.inl rfl) ?_
  simp(disch:=omega)only[↓RU,RV,RH,↓reduceIte,qE,reduceCtorEq,if_pos,qN,w64,zaa,hg,hn]
  refine zaf.pc (zvv hs.names) rfl (.inl rfl) ?_
  simp(disch:=omega)only[↓RU,RV,RH,↓reduceIte,qE,reduceCtorEq,if_pos,qN,w64,zaa,hg,hn]
  apply hK;clear hK K
  refine W.cond rfl (fun h0=>?_) (fun h0=>?_)
  ·try simp only[RL]at h0
   refine W.r fun K hK=>?_
   simp(disch:=omega)only[↓RU,RV,RH,↓reduceIte,qE,reduceCtorEq,if_pos]
   apply hK;clear hK K
   refine W.ret ?_
   refine XThen.ret ?_
   refine Br rfl ?_
   rw [zof (.inr (.inl hn))]
   rfl
  try simp only[RL]at h0
  exact absurd h0 (by simp)
 skip
 simp only[Prod.mk.injEq]at hx
 obtain ⟨hg,hn⟩:=hx
 simp(disch:=omega)only[↓RU,RV,RH,↓reduceIte,qE,reduceCtorEq,if_pos,qN,w64,zaa,hg,hn]
 refine zaf.pc (zla hs) rfl (.inl rfl) ?_
 simp(disch:=omega)only[↓RU,RV,RH,↓reduceIte,qE,reduceCtorEq,if_pos,qN,w64,zaa,hg,hn]
 refine zaf.pc (zrx hs) rfl (.inl rfl) ?_
 simp(disch:=omega)only[↓RU,RV,RH,↓reduceIte,qE,reduceCtorEq,if_pos,qN,w64,zaa,hg,hn]
 refine zaf.pc (zvv hs.names) rfl (.inl rfl) ?_
 simp(disch:=omega)only[↓RU,RV,RH,↓reduceIte,qE,reduceCtorEq,if_pos,qN,w64,zaa,hg,hn]
 refine zaf.pc (zmo hs) rfl (.inl rfl) ?_
 simp(disch:=omega)only[↓RU,RV,RH,↓reduceIte,qE,reduceCtorEq,if_pos,qN,w64,zaa,hg,hn]
 apply hK;clear hK K
 refine W.cond rfl (fun h0=>?_) (fun h0=>?_)
 ·try simp only[RL]at h0
  refine W.r fun K hK=>?_
  simp(disch:=omega)only[↓RU,RV,RH,↓reduceIte,qE,reduceCtorEq,if_pos]
  apply hK;clear hK K
  refine W.ret ?_
  refine XThen.ret ?_
  refine Br rfl ?_
  rw [zof (.inr (.inr h0))]
  rfl
 try simp only[RL]at h0
 have hsm:=zck hg
 refine W.skip ?_
 refine xn ?_
 refine W.seq ?_
 refine W.r fun K hK=>?_
 simp(disch:=omega)only[↓RU,RV,RH,↓reduceIte,qE,reduceCtorEq,if_pos]
 apply hK;clear hK K
 refine W.block ?_
 refine W.loop [0,3] (fun n vs S=>∃ i:Nat,n=R - i∧i≤R∧((List.range i).all (z6z p)=true)∧vs=[zal p,.int .i64 i]∧S=⟨[],0⟩) (R) ?_ ?_
 ·refine ⟨0,0,rfl,Nat.zero_le _,rfl,?_,rfl⟩
  simp [Env.put,Env.of,zae]
 rintro n vs S - ⟨i,rfl,h_i,hi,rfl,rfl⟩
 refine W.seq ?_
 refine W.r fun K hK=>?_
 simp(disch:=omega)only[↓RU,RV,RH,↓reduceIte,qE,reduceCtorEq,if_pos,qN,w64,zaa,hR]
 refine zaf.pc (zmo hs) rfl (.inl rfl) ?_
 simp(disch:=omega)only[↓RU,RV,RH,↓reduceIte,qE,reduceCtorEq,if_pos,qN,w64,zaa,hR]
 apply hK;clear hK K
 refine W.cond rfl (fun h1=>?_) (fun h1=>?_)
 ·try simp only[RL]at h1
  have hbs:=z4a (i:Int) hsm.2.1 hsm.2.2
  refine W.skip ?_
  refine xn ?_
  refine W.seq ?_
  refine W.block ?_
  refine W.r fun K hK=>?_
  simp(disch:=omega)only[↓RU,RV,RH,↓reduceIte,qE,reduceCtorEq,if_pos,qN]
  refine zaf.pc (z5h hs hsm.1 (i:Int)) rfl (.inl rfl) ?_
  simp(disch:=omega)only[↓RU,RV,RH,↓reduceIte,qE,reduceCtorEq,if_pos,qN]
  apply hK;clear hK K
  refine W.r fun K hK=>?_
  simp(disch:=omega)only[↓RU,RV,RH,↓reduceIte,qE,reduceCtorEq,if_pos,qN,w64,zaa]
  refine zaf.pc (z19 hs (by omega) (fun r hr=>by have:=hsm.2.2 r hr; omega) (i:Int)) rfl (.inl rfl) ?_
  simp(disch:=omega)only[↓RU,RV,RH,↓reduceIte,qE,reduceCtorEq,if_pos,qN,w64,zaa]
  apply hK;clear hK K
  refine W.cond rfl (fun h2=>?_) (fun h2=>?_)
  ·try simp only[RL]at h2
   refine W.r fun K hK=>?_
   simp(disch:=omega)only[↓RU,RV,RH,↓reduceIte,qE,reduceCtorEq,if_pos]
   apply hK;clear hK K
   refine W.ret ?_
   refine XBlock.ret ?_
   refine XThen.ret ?_
   refine XThen.ret ?_
   refine XBlock.ret ?_
   refine XThen.ret ?_
   refine Br rfl ?_
   have:(List.range R).all (z6z p)=false:=by
    rw [List.all_eq_false]
    exact ⟨i,by simp; omega,by simpa [z6z] using h2⟩
   rw [z0t hg hn (by omega) hR,this]
   rfl
  try simp only[RL]at h2
  refine W.skip ?_
  refine XbN ?_
  refine xn ?_
  refine W.k fun K hK=>?_
  simp(disch:=omega)only[↓RU,RV,RH,↓reduceIte,qE,reduceCtorEq,if_pos,w64,zaa]
  apply hK;clear hK K
  refine xn ?_
  refine ⟨R - (i+1),by omega,0,i+1,rfl,by omega,by rw [qS,List.all_append,hi]; simpa [z6z] using h2,?_,rfl⟩
  simp [Env.put,Env.of]
 try simp only[RL]at h1
 refine W.exit ?_
 refine xe ?_
 refine xe ?_
 refine XBlock.hit ?_
 refine xn ?_
 refine W.r fun K hK=>?_
 simp(disch:=omega)only[↓RU,RV,RH,↓reduceIte,qE,reduceCtorEq,if_pos]
 apply hK;clear hK K
 refine W.ret ?_
 refine Br rfl ?_
 have hip:i=R:=by omega
 rw [hip]at hi
 rw [z0t hg hn (by omega) hR,hi]
 rfl
theorem z2b {p:List Txt} (hs:Sm p) {i k:Nat} {r1 r2:Txt} {a b c d:UInt8} (hi:1≤i) (hk:1≤k) (h1:p[i - 1]?=some r1) (h2:p[i]?=some r2) (ha:r1[k - 1]?=some a) (hb:r1[k]?=some b) (hc:r2[k - 1]?=some c) (hd:r2[k]?=some d):PC Tryz.prog 163 [zal p,.int .i64 i,.int .i64 k] (.int .i64 (zf3 [a,b,c,d] 4)) true:=by
 have l1:=zay h1
 have l2:=zay h2
 have l3:=zay ha
 have l4:=zay hb
 have l5:=zay hc
 have l6:=zay hd
 have hp:=hs.rows
 have hq:=hs.cols r1 (List.mem_of_getElem? h1)
 generalize hcs:[a,b,c,d]=cs
 have hcl:cs.length=4:=by rw [← hcs]; rfl
 refine PC.of ⟨Tryz.func163,by kernel_rfl,rfl,by kernel_rfl⟩ zam mixed (by show 3≤Tryz.f163.ntmps; decide) ?_
 refine W.r fun K hK=>?_
 simp(disch:=omega)only[↓RU,RV,RH,↓reduceIte,qE,reduceCtorEq,if_pos,↓RS,RG,qA,qM,qL]
 apply hK;clear hK K
 refine W.seq_draw (by kernel_rfl) fun K hK=>?_
 simp(disch:=omega)only[↓RU,RV,RH,↓reduceIte,qE,reduceCtorEq,if_pos,w64,↓RS,RG,qA,qM,qL,ty6,ty7,zaa,zac,zep,h1,h2,ha,hb,hc,hd,zaz]
 apply hK;clear hK K
 refine W.r fun K hK=>?_
 simp(disch:=omega)only[↓RU,RV,RH,↓reduceIte,qE,reduceCtorEq,if_pos,↓RS,RG,qA,qM,qL]
 apply hK;clear hK K
 refine W.seq ?_
 refine W.r fun K hK=>?_
 simp(disch:=omega)only[↓RU,RV,RH,↓reduceIte,qE,reduceCtorEq,if_pos,↓RS,RG,qA,qM,qL]
 apply hK;clear hK K
 refine W.block ?_
 refine W.loop [7,8,9] (fun n vs S=>∃ x:Nat,n=4 - x∧x≤4∧vs=[.loc 0 0 0 4,.int .i64 (zf3 cs x),.int .i64 x]∧S=⟨[.arr 0 5 1 (cs.map eB)],1⟩) (4) ?_ ?_
 ·refine ⟨1,0,rfl,Nat.zero_le _,?_,by rw [← hcs]; rfl⟩
  simp [Env.put,Env.of,zae,zf3]
 rintro n vs S - ⟨x,rfl,h_x,rfl,rfl⟩
 refine W.seq ?_
 refine W.r fun K hK=>?_
 simp(disch:=omega)only[↓RU,RV,RH,↓reduceIte,qE,reduceCtorEq,if_pos,w64,↓RS,RG,qA,qM,qL,zaa]
 apply hK;clear hK K
 refine W.cond rfl (fun h3=>?_) (fun h3=>?_)
 ·try simp only[RL]at h3
  obtain ⟨cx,hcx,-⟩:=zad (show x<cs.length by omega)
  have hdb:=znb cs x
  refine W.skip ?_
  refine xn ?_
  refine W.seq ?_
  refine W.block ?_
  refine W.r fun K hK=>?_
  simp(disch:=omega)only[↓RU,RV,RH,↓reduceIte,qE,reduceCtorEq,if_pos,↓RS,RG,qA,qM,qL]
  apply hK;clear hK K
  refine W.seq ?_
  refine W.r fun K hK=>?_
  simp(disch:=omega)only[↓RU,RV,RH,↓reduceIte,qE,reduceCtorEq,if_pos,↓RS,RG,qA,qM,qL]
  apply hK;clear hK K
  refine W.block ?_
  refine W.loop [7,8,9,10,11] (fun n vs S=>∃ y:Nat,n=x - y∧y≤x∧vs=[.loc 0 0 0 4,.int .i64 (zf3 cs x),.int .i64 x,.bool (zq3 cs cx y),.int .i64 y]∧S=⟨[.arr 0 5 1 (cs.map eB)],1⟩) (x) ?_ ?_
  ·refine ⟨1,0,rfl,Nat.zero_le _,?_,rfl⟩
   simp [Env.put,Env.of,zae,zq3]
  rintro n vs S - ⟨y,rfl,h_y,rfl,rfl⟩
  refine W.seq ?_
  refine W.r fun K hK=>?_
  simp(disch:=omega)only[↓RU,RV,RH,↓reduceIte,qE,reduceCtorEq,if_pos,w64,↓RS,RG,qA,qM,qL,zaa]
  apply hK;clear hK K
  refine W.cond rfl (fun h4=>?_) (fun h4=>?_)
  ·try simp only[RL]at h4
   obtain ⟨cy,hcy,-⟩:=zad (show y<cs.length by omega)
   refine W.skip ?_
   refine xn ?_
   refine W.seq ?_
   refine W.block ?_
   refine W.draw_k (by kernel_rfl) fun K hK=>?_
   cases hf:zq3 cs cx y
   ·skip
    simp(disch:=omega)only[↓RU,RV,RH,↓reduceIte,qE,reduceCtorEq,if_pos,w64,↓RS,RG,qA,qM,qL,ty7,zep,hcx,hcy,hcl,hf]
    apply hK;clear hK K
    refine XbN ?_
    refine xn ?_
    refine W.k fun K hK=>?_
    simp(disch:=omega)only[↓RU,RV,RH,↓reduceIte,qE,reduceCtorEq,if_pos,w64,↓RS,RG,qA,qM,qL,zaa]
    apply hK;clear hK K
    refine xn ?_
    refine ⟨x - (y+1),by omega,1,y+1,rfl,by omega,?_,rfl⟩
    rw [zr1 hcy,hf]
    simp [Env.put,Env.of]
   skip
   simp(disch:=omega)only[↓RU,RV,RH,↓reduceIte,qE,reduceCtorEq,if_pos,w64,↓RS,RG,qA,qM,qL,ty7,zep,hcx,hcy,hcl,hf,yee]
   apply hK;clear hK K
   refine XbN ?_
   refine xn ?_
   refine W.k fun K hK=>?_
   simp(disch:=omega)only[↓RU,RV,RH,↓reduceIte,qE,reduceCtorEq,if_pos,w64,↓RS,RG,qA,qM,qL,zaa]
   apply hK;clear hK K
   refine xn ?_
   refine ⟨x - (y+1),by omega,1,y+1,rfl,by omega,?_,rfl⟩
   rw [zr1 hcy,hf]
   simp [Env.put,Env.of]
  try simp only[RL]at h4
  refine W.exit ?_
  refine xe ?_
  refine xe ?_
  refine XBlock.hit ?_
  refine xn ?_
  refine W.r fun K hK=>?_
  simp(disch:=omega)only[↓RU,RV,RH,↓reduceIte,qE,reduceCtorEq,if_pos,↓RS,RG,qA,qM,qL]
  apply hK;clear hK K
  refine W.cond rfl (fun h6=>?_) (fun h6=>?_)
  ·try simp only[RL]at h6
   refine W.k fun K hK=>?_
   simp(disch:=omega)only[↓RU,RV,RH,↓reduceIte,qE,reduceCtorEq,if_pos,w64,↓RS,RG,qA,qM,qL,zaa]
   apply hK;clear hK K
   refine XbN ?_
   refine xn ?_
   refine W.k fun K hK=>?_
   simp(disch:=omega)only[↓RU,RV,RH,↓reduceIte,qE,reduceCtorEq,if_pos,w64,↓RS,RG,qA,qM,qL,zaa]
   apply hK;clear hK K
   refine xn ?_
   refine ⟨4 - (x+1),by omega,1,x+1,rfl,by omega,?_,rfl⟩
   rw [zf3,z0a hcx,show x=y by omega]
   simp [Env.put,Env.of,h6]
  try simp only[RL]at h6
  refine W.skip ?_
  refine XbN ?_
  refine xn ?_
  refine W.k fun K hK=>?_
  simp(disch:=omega)only[↓RU,RV,RH,↓reduceIte,qE,reduceCtorEq,if_pos,w64,↓RS,RG,qA,qM,qL,zaa]
  apply hK;clear hK K
  refine xn ?_
  refine ⟨4 - (x+1),by omega,1,x+1,rfl,by omega,?_,rfl⟩
  rw [zf3,z0a hcx,show x=y by omega]
  simp [Env.put,Env.of,h6]
 try simp only[RL]at h3
 refine W.exit ?_
 refine xe ?_
 refine xe ?_
 refine XBlock.hit ?_
 refine xn ?_
 refine W.r fun K hK=>?_
 simp(disch:=omega)only[↓RU,RV,RH,↓reduceIte,qE,reduceCtorEq,if_pos,↓RS,RG,qA,qM,qL]
 apply hK;clear hK K
 refine W.ret ?_
 refine Br rfl ?_
 have hx4:x=4:=by omega
 rw [hx4]
 rfl
theorem zyi {p:List Txt} (hs:Sm p) (hg:zcp p=true) (many:Int):PC Tryz.prog 135 [zal p,.int .i64 many] (.int .i64 (points p many)) true:=by
 have hp:=hs.rows
 have hsm:=zck hg
 obtain ⟨row0,hrow0,hrm0⟩:=zad hsm.1
 have hhd:=zcm hrow0
 have hw6:=hsm.2.2 row0 hrm0
 refine PC.of ⟨Tryz.func135,by kernel_rfl,rfl,by kernel_rfl⟩ zam mixed (by show 2≤Tryz.f135.ntmps; decide) ?_
 refine W.r fun K hK=>?_
 simp(disch:=omega)only[↓RU,RV,RH,↓reduceIte,qE,reduceCtorEq,if_pos]
 apply hK;clear hK K
 refine W.r fun K hK=>?_
 simp(disch:=omega)only[↓RU,RV,RH,↓reduceIte,qE,reduceCtorEq,if_pos]
 apply hK;clear hK K
 refine W.seq ?_
 refine W.r fun K hK=>?_
 simp(disch:=omega)only[↓RU,RV,RH,↓reduceIte,qE,reduceCtorEq,if_pos]
 apply hK;clear hK K
 refine W.block ?_
 refine W.loop [0,1,5,6] (fun n vs S=>∃ i:Nat,n=p.length - i∧i≤p.length∧(1≤i)∧vs=[zal p,.int .i64 many,.int .i64 (zia p many row0.length i),.int .i64 i]∧S=⟨[],0⟩) (p.length - 1) ?_ ?_
 ·refine ⟨0,1,rfl,by omega,qR _,?_,rfl⟩
  simp [Env.put,Env.of,zae,zia]
 rintro n vs S - ⟨i,rfl,h_i,h1i,rfl,rfl⟩
 refine W.seq ?_
 refine W.r fun K hK=>?_
 simp(disch:=omega)only[↓RU,RV,RH,↓reduceIte,qE,reduceCtorEq,if_pos,w64,ty6,zaa,zac]
 apply hK;clear hK K
 refine W.cond rfl (fun h=>?_) (fun h=>?_)
 ·try simp only[RL]at h
  obtain ⟨r1,hr1,hm1⟩:=zad (show i - 1<p.length by omega)
  obtain ⟨r2,hr2,hm2⟩:=zad (show i<p.length by omega)
  have hl1:=zds hg hr1
  have hl2:=zds hg hr2
  rw [hhd]at hl1 hl2
  have hb1:=zp7 p many hw6 i
  have hw1:=(zg2 hg hrow0)
  refine W.skip ?_
  refine xn ?_
  refine W.seq ?_
  refine W.block ?_
  refine W.r fun K hK=>?_
  simp(disch:=omega)only[↓RU,RV,RH,↓reduceIte,qE,reduceCtorEq,if_pos]
  apply hK;clear hK K
  refine W.block ?_
  refine W.loop [0,1,5,6,7] (fun n vs S=>∃ k:Nat,n=row0.length - k∧k≤row0.length∧(1≤k)∧vs=[zal p,.int .i64 many,.int .i64 (zia p many row0.length i+zf4 p many i k),.int .i64 i,.int .i64 k]∧S=⟨[],0⟩) (row0.length - 1) ?_ ?_
  ·refine ⟨0,1,rfl,by omega,qR _,?_,rfl⟩
   simp [Env.put,Env.of,zae,zf4]
  rintro n vs S - ⟨k,rfl,h_k,h1k,rfl,rfl⟩
  refine W.seq ?_
  refine W.r fun K hK=>?_
  simp(disch:=omega)only[↓RU,RV,RH,↓reduceIte,qE,reduceCtorEq,if_pos,w64,ty6,zaa,zac,hrow0,Int.toNat_zero,Nat.zero_mul,qZ]
  apply hK;clear hK K
  refine W.cond rfl (fun h1=>?_) (fun h1=>?_)
  ·try simp only[RL]at h1
   obtain ⟨a,ha,-⟩:=zad (show k - 1<r1.length by omega)
   obtain ⟨b,hb,-⟩:=zad (show k<r1.length by omega)
   obtain ⟨c,hc,-⟩:=zad (show k - 1<r2.length by omega)
   obtain ⟨d,hd,-⟩:=zad (show k<r2.length by omega)
   have hmt:zin p i k=zf3 [a,b,c,d] 4:=by simp [zin,hr1,hr2,ha,hb,hc,hd]
   have hb2:=zey p many i k
   refine W.skip ?_
   refine xn ?_
   refine W.seq ?_
   refine W.block ?_
   refine W.r fun K hK=>?_
   simp(disch:=omega)only[↓RU,RV,RH,↓reduceIte,qE,reduceCtorEq,if_pos,qN,w64,zaa]
   refine zaf.pc (z2b hs h1i h1k hr1 hr2 ha hb hc hd) rfl (.inl rfl) ?_
   simp(disch:=omega)only[↓RU,RV,RH,↓reduceIte,qE,reduceCtorEq,if_pos,qN,w64,zaa]
   apply hK;clear hK K
   refine W.cond rfl (fun h2=>?_) (fun h2=>?_)
   ·try simp only[RL]at h2
    refine W.k fun K hK=>?_
    simp(disch:=omega)only[↓RU,RV,RH,↓reduceIte,qE,reduceCtorEq,if_pos,w64,zaa]
    apply hK;clear hK K
    refine XbN ?_
    refine xn ?_
    refine W.k fun K hK=>?_
    simp(disch:=omega)only[↓RU,RV,RH,↓reduceIte,qE,reduceCtorEq,if_pos,w64,zaa]
    apply hK;clear hK K
    refine xn ?_
    refine ⟨row0.length - (k+1),by omega,0,k+1,rfl,by omega,by omega,?_,rfl⟩
    rw [zf4]
    simp [Env.put,Env.of,hmt,h2,h1k,Int.add_assoc]
   try simp only[RL]at h2
   refine W.skip ?_
   refine XbN ?_
   refine xn ?_
   refine W.k fun K hK=>?_
   simp(disch:=omega)only[↓RU,RV,RH,↓reduceIte,qE,reduceCtorEq,if_pos,w64,zaa]
   apply hK;clear hK K
   refine xn ?_
   refine ⟨row0.length - (k+1),by omega,0,k+1,rfl,by omega,by omega,?_,rfl⟩
   rw [zf4]
   simp [Env.put,Env.of,hmt,h2,h1k,Int.add_assoc]
  try simp only[RL]at h1
  refine W.exit ?_
  refine xe ?_
  refine xe ?_
  refine XBlock.hit ?_
  refine XbN ?_
  refine xn ?_
  refine W.k fun K hK=>?_
  simp(disch:=omega)only[↓RU,RV,RH,↓reduceIte,qE,reduceCtorEq,if_pos,w64,zaa]
  apply hK;clear hK K
  refine xn ?_
  refine ⟨p.length - (i+1),by omega,0,i+1,rfl,by omega,by omega,?_,rfl⟩
  rw [zia,if_pos h1i]
  simp [Env.put,Env.of,show row0.length=k by omega]
 try simp only[RL]at h
 refine W.exit ?_
 refine xe ?_
 refine xe ?_
 refine XBlock.hit ?_
 refine xn ?_
 refine W.r fun K hK=>?_
 simp(disch:=omega)only[↓RU,RV,RH,↓reduceIte,qE,reduceCtorEq,if_pos]
 apply hK;clear hK K
 refine W.ret ?_
 refine Br rfl ?_
 have hip:i=p.length:=by omega
 rw [points,hhd,← hip]
 rfl
theorem zuc {p:List Txt} (hs:Sm p):PC Tryz.prog 91 [zal p] (.bool (zbk p)) true:=by
 refine PC.of ⟨Tryz.func91,by kernel_rfl,rfl,by kernel_rfl⟩ zam mixed (by show 1≤Tryz.f91.ntmps; decide) ?_
 refine W.r fun K hK=>?_
 simp(disch:=omega)only[↓RU,RV,RH,↓reduceIte,qE,reduceCtorEq,if_pos]
 apply hK;clear hK K
 refine W.r fun K hK=>?_
 cases hg:zes p
 ·skip
  simp(disch:=omega)only[↓RU,RV,RH,↓reduceIte,qE,reduceCtorEq,if_pos,qN,w64,zaa,hg]
  refine zaf.pc (zsn hs) rfl (.inl rfl) ?_
  simp(disch:=omega)only[↓RU,RV,RH,↓reduceIte,qE,reduceCtorEq,if_pos,qN,w64,zaa,hg]
  apply hK;clear hK K
  refine W.ret ?_
  refine Br rfl ?_
  rw [zbk,hg]
  rfl
 skip
 simp(disch:=omega)only[↓RU,RV,RH,↓reduceIte,qE,reduceCtorEq,if_pos,qN,w64,zaa,hg]
 refine zaf.pc (zsn hs) rfl (.inl rfl) ?_
 simp(disch:=omega)only[↓RU,RV,RH,↓reduceIte,qE,reduceCtorEq,if_pos,qN,w64,zaa,hg]
 refine zaf.pc (zyi hs (zsc hg) 4) rfl (.inl rfl) ?_
 simp(disch:=omega)only[↓RU,RV,RH,↓reduceIte,qE,reduceCtorEq,if_pos,qN,w64,zaa,hg]
 apply hK;clear hK K
 refine W.ret ?_
 refine Br rfl ?_
 rw [zbk,hg]
 rfl
theorem zfh {p:List Txt} (hs:Sm p):PC Tryz.prog 43 [zal p] (.bool (zbk p)) true:=by
 refine PC.of ⟨Tryz.func43,by kernel_rfl,rfl,by kernel_rfl⟩ zam mixed (by show 1≤Tryz.f43.ntmps; decide) ?_
 refine W.r fun K hK=>?_
 simp(disch:=omega)only[↓RU,RV,RH,↓reduceIte,qE,reduceCtorEq,if_pos]
 apply hK;clear hK K
 refine W.r fun K hK=>?_
 simp(disch:=omega)only[↓RU,RV,RH,↓reduceIte,qE,reduceCtorEq,if_pos,qN]
 refine zaf.pc (zuc hs) rfl (.inl rfl) ?_
 simp(disch:=omega)only[↓RU,RV,RH,↓reduceIte,qE,reduceCtorEq,if_pos,qN]
 apply hK;clear hK K
 refine W.ret ?_
 refine Br rfl ?_
 rfl
theorem z2a {p:List Txt} (hs:Sm p) (hg:zcp p=true):PC Tryz.prog 153 [zal p] (zal (zcv p)) true:=by
 have hp:=hs.rows
 have hsm:=zck hg
 obtain ⟨row0,hrow0,hrm0⟩:=zad hsm.1
 have hhd:=zcm hrow0
 have hw6:=hsm.2.2 row0 hrm0
 refine PC.of ⟨Tryz.func153,by kernel_rfl,rfl,by kernel_rfl⟩ zam mixed (by show 1≤Tryz.f153.ntmps; decide) ?_
 refine W.r fun K hK=>?_
 simp(disch:=omega)only[↓RU,RV,RH,↓reduceIte,qE,reduceCtorEq,if_pos,↓RS,RG,qA,qM,qL]
 apply hK;clear hK K
 refine W.r fun K hK=>?_
 simp(disch:=omega)only[↓RU,RV,RH,↓reduceIte,qE,reduceCtorEq,if_pos,↓RS,RG,qA,qM,qL,ty6,zac]
 apply hK;clear hK K
 refine W.seq ?_
 refine W.r fun K hK=>?_
 simp(disch:=omega)only[↓RU,RV,RH,↓reduceIte,qE,reduceCtorEq,if_pos,↓RS,RG,qA,qM,qL]
 apply hK;clear hK K
 refine W.block ?_
 refine W.loop [0,3,4] (fun n vs S=>∃ k v0 tk:Nat,n=row0.length - k∧k≤row0.length∧vs=[zal p,.loc 0 v0 0 k,.int .i64 k]∧S=⟨[.arr v0 9 1 ((zjo p k).map .str)],tk⟩) (row0.length) ?_ ?_
 ·refine ⟨1,0,0,1,rfl,Nat.zero_le _,?_,rfl⟩
  simp [Env.put,Env.of,zae]
 rintro n vs S - ⟨k,v0,tk,rfl,h_k,rfl,rfl⟩
 refine W.seq ?_
 refine W.r fun K hK=>?_
 simp(disch:=omega)only[↓RU,RV,RH,↓reduceIte,qE,reduceCtorEq,if_pos,w64,↓RS,RG,qA,qM,qL,ty6,zaa,zac,hrow0,Int.toNat_zero,Nat.zero_mul,qZ]
 apply hK;clear hK K
 refine W.cond rfl (fun h=>?_) (fun h=>?_)
 ·try simp only[RL]at h
  have hcl0:=zi1 (p:=p) (k:=k)
  refine W.skip ?_
  refine xn ?_
  refine W.seq ?_
  refine W.block ?_
  refine W.r fun K hK=>?_
  simp(disch:=omega)only[↓RU,RV,RH,↓reduceIte,qE,reduceCtorEq,if_pos,↓RS,RG,qA,qM,qL,ty7,zep]
  apply hK;clear hK K
  refine W.seq ?_
  refine W.r fun K hK=>?_
  simp(disch:=omega)only[↓RU,RV,RH,↓reduceIte,qE,reduceCtorEq,if_pos,↓RS,RG,qA,qM,qL]
  apply hK;clear hK K
  refine W.block ?_
  refine W.loop [0,3,4,5,6] (fun n vs S=>∃ i v1 tk:Nat,n=p.length - i∧i≤p.length∧vs=[zal p,.loc 0 v0 0 k,.int .i64 k,.loc 1 v1 0 i,.int .i64 i]∧S=⟨[.arr v0 9 1 ((zjo p k).map .str),.arr v1 5 1 ((znz p k i).map eB)],tk⟩) (p.length) ?_ ?_
  ·refine ⟨2,0,tk,tk+1,rfl,Nat.zero_le _,?_,rfl⟩
   simp [Env.put,Env.of,zae]
  rintro n vs S - ⟨i,v1,tk,rfl,h_i,rfl,rfl⟩
  refine W.seq ?_
  refine W.r fun K hK=>?_
  simp(disch:=omega)only[↓RU,RV,RH,↓reduceIte,qE,reduceCtorEq,if_pos,w64,↓RS,RG,qA,qM,qL,ty6,zaa,zac]
  apply hK;clear hK K
  refine W.cond rfl (fun h1=>?_) (fun h1=>?_)
  ·try simp only[RL]at h1
   obtain ⟨row,hrow,hrm⟩:=zad (show i<p.length by omega)
   have hrl:=zds hg hrow
   rw [hhd]at hrl
   obtain ⟨c,hc,-⟩:=zad (show k<row.length by omega)
   have hctl:=zg7 (p:=p) (k:=k) h_i
   refine W.skip ?_
   refine xn ?_
   refine W.seq ?_
   refine W.block ?_
   refine W.k fun K hK=>?_
   simp(disch:=omega)only[↓RU,RV,RH,↓reduceIte,qE,reduceCtorEq,if_pos,↓RS,RG,qA,qM,qL,ty6,ty7,zac,zep,hrow,hc]
   apply hK;clear hK K
   refine XbN ?_
   refine xn ?_
   refine W.k fun K hK=>?_
   simp(disch:=omega)only[↓RU,RV,RH,↓reduceIte,qE,reduceCtorEq,if_pos,w64,↓RS,RG,qA,qM,qL,zaa]
   apply hK;clear hK K
   refine xn ?_
   refine ⟨p.length - (i+1),by omega,2,i+1,tk+1,tk+2,rfl,by omega,?_,?_⟩
   all_goals simp [Env.put,Env.of,zaq,z1z hrow hc,hcl0,hctl,zl9]
  ·try simp only[RL]at h1
   have hip:i=p.length:=by omega
   subst hip
   have hctl:=zg7 (p:=p) (k:=k) (qR _)
   refine W.exit ?_
   refine xe ?_
   refine xe ?_
   refine XBlock.hit ?_
   refine xn ?_
   refine W.k fun K hK=>?_
   simp(disch:=omega)only[↓RU,RV,RH,↓reduceIte,qE,reduceCtorEq,if_pos,w64,↓RS,RG,qA,qM,qL,ty6,ty7,zac,zep]
   apply hK;clear hK K
   refine XbN ?_
   refine xn ?_
   refine W.k fun K hK=>?_
   simp(disch:=omega)only[↓RU,RV,RH,↓reduceIte,qE,reduceCtorEq,if_pos,w64,↓RS,RG,qA,qM,qL,zaa]
   apply hK;clear hK K
   refine xn ?_
   refine ⟨row0.length - (k+1),by omega,1,k+1,tk+1,tk+2,rfl,by omega,?_,?_⟩
   all_goals simp [Env.put,Env.of,zaq,zx2,hctl,zl9,hcl0]
 try simp only[RL]at h
 refine W.exit ?_
 refine xe ?_
 refine xe ?_
 refine XBlock.hit ?_
 refine xn ?_
 refine W.r fun K hK=>?_
 simp(disch:=omega)only[↓RU,RV,RH,↓reduceIte,qE,reduceCtorEq,if_pos,↓RS,RG,qA,qM,qL]
 apply hK;clear hK K
 refine W.ret ?_
 refine Br rfl ?_
 have hkp:k=row0.length:=by omega
 subst hkp
 rw [zcv,hhd]
 exact zbh (k:=9) rfl (by simp [zi1]) (zod _) |>.trans (by simp [zi1])
theorem zvw {xs ys:List Int} {v0 v1 tk:Nat} (hx:xs.length≤1048576) (hy:ys.length≤1048576) (x:Int):Ev Tryz.prog 202 [.loc 0 v0 0 xs.length,.int .i64 x] ⟨[.arr v0 3 1 (xs.map (.int .i64)),.arr v1 3 1 (ys.map (.int .i64))],tk⟩ fun v S=>∃ w t,v = .loc 0 w 0 (zib xs x).length∧S=⟨[.arr w 3 1 ((zib xs x).map (.int .i64)),.arr v1 3 1 (ys.map (.int .i64))],t⟩:=by
 refine Ev.of ⟨Tryz.func202,by kernel_rfl,rfl,by kernel_rfl⟩ zam mixed (by show 2≤Tryz.f202.ntmps; decide) ?_
 refine W.r fun K hK=>?_
 simp(disch:=omega)only[↓RU,RV,RH,↓reduceIte,qE,reduceCtorEq,if_pos,↓RS,RG,qA,qM,qL]
 apply hK;clear hK K
 refine W.seq ?_
 refine W.r fun K hK=>?_
 cases hp:decide ((xs.length:Int)>0)
 ·skip
  simp(disch:=omega)only[↓RU,RV,RH,↓reduceIte,qE,reduceCtorEq,if_pos,w64,↓RS,RG,qA,qM,qL,zab,zaa,hp]
  apply hK;clear hK K
  refine W.cond rfl (fun h0=>?_) (fun h0=>?_)
  ·try simp only[RL]at h0
   exact absurd h0 (by simp)
  try simp only[RL]at h0
  have hpl:zib xs x=xs++[x]:=z0w (by simpa using hp)
  refine W.skip ?_
  refine xn ?_
  refine W.r fun K hK=>?_
  simp(disch:=omega)only[↓RU,RV,RH,↓reduceIte,qE,reduceCtorEq,if_pos,↓RS,RG,qA,qM,qL,zab,zaa]
  apply hK;clear hK K
  refine W.ret ?_
  refine Br rfl ?_
  exact ⟨2,_,_,by simp [Env.put,hpl]; rfl,by simp [zaq,hpl]; rfl⟩
 skip
 have hp2:0<xs.length:=by simpa using hp
 obtain ⟨q,hq,-⟩:=zad (show xs.length - 1<xs.length by omega)
 simp(disch:=omega)only[↓RU,RV,RH,↓reduceIte,qE,reduceCtorEq,if_pos,w64,↓RS,RG,qA,qM,qL,zab,zaa,hp,hq,zaz]
 apply hK;clear hK K
 refine W.cond rfl (fun h0=>?_) (fun h0=>?_)
 ·try simp only[RL]at h0
  have hpl:zib xs x=xs:=zwr hq h0
  refine W.r fun K hK=>?_
  simp(disch:=omega)only[↓RU,RV,RH,↓reduceIte,qE,reduceCtorEq,if_pos,↓RS,RG,qA,qM,qL]
  apply hK;clear hK K
  refine W.ret ?_
  refine XThen.ret ?_
  refine Br rfl ?_
  exact ⟨2,_,_,by simp [Env.put,hpl]; rfl,by simp [zaq,hpl]; rfl⟩
 try simp only[RL]at h0
 have hpl:zib xs x=xs++[x]:=z0v hq h0
 refine W.skip ?_
 refine xn ?_
 refine W.r fun K hK=>?_
 simp(disch:=omega)only[↓RU,RV,RH,↓reduceIte,qE,reduceCtorEq,if_pos,↓RS,RG,qA,qM,qL,zab,zaa]
 apply hK;clear hK K
 refine W.ret ?_
 refine Br rfl ?_
 exact ⟨2,_,_,by simp [Env.put,hpl]; rfl,by simp [zaq,hpl]; rfl⟩
theorem zvx {xs ys:List Int} {v0 v1 tk:Nat} (hx:xs.length≤1048576) (hy:ys.length≤1048576) (x:Int):Ev Tryz.prog 202 [.loc 1 v1 0 ys.length,.int .i64 x] ⟨[.arr v0 3 1 (xs.map (.int .i64)),.arr v1 3 1 (ys.map (.int .i64))],tk⟩ fun v S=>∃ w t,v = .loc 1 w 0 (zib ys x).length∧S=⟨[.arr v0 3 1 (xs.map (.int .i64)),.arr w 3 1 ((zib ys x).map (.int .i64))],t⟩:=by
 refine Ev.of ⟨Tryz.func202,by kernel_rfl,rfl,by kernel_rfl⟩ zam mixed (by show 2≤Tryz.f202.ntmps; decide) ?_
 refine W.r fun K hK=>?_
 simp(disch:=omega)only[↓RU,RV,RH,↓reduceIte,qE,reduceCtorEq,if_pos,↓RS,RG,qA,qM,qL]
 apply hK;clear hK K
 refine W.seq ?_
 refine W.r fun K hK=>?_
 cases hp:decide ((ys.length:Int)>0)
 ·skip
  simp(disch:=omega)only[↓RU,RV,RH,↓reduceIte,qE,reduceCtorEq,if_pos,w64,↓RS,RG,qA,qM,qL,zab,zaa,hp]
  apply hK;clear hK K
  refine W.cond rfl (fun h0=>?_) (fun h0=>?_)
  ·try simp only[RL]at h0
   exact absurd h0 (by simp)
  try simp only[RL]at h0
  have hpl:zib ys x=ys++[x]:=z0w (by simpa using hp)
  refine W.skip ?_
  refine xn ?_
  refine W.r fun K hK=>?_
  simp(disch:=omega)only[↓RU,RV,RH,↓reduceIte,qE,reduceCtorEq,if_pos,↓RS,RG,qA,qM,qL,zab,zaa]
  apply hK;clear hK K
  refine W.ret ?_
  refine Br rfl ?_
  exact ⟨2,_,_,by simp [Env.put,hpl]; rfl,by simp [zaq,hpl]; rfl⟩
 skip
 have hp2:0<ys.length:=by simpa using hp
 obtain ⟨q,hq,-⟩:=zad (show ys.length - 1<ys.length by omega)
 simp(disch:=omega)only[↓RU,RV,RH,↓reduceIte,qE,reduceCtorEq,if_pos,w64,↓RS,RG,qA,qM,qL,zab,zaa,hp,hq,zaz]
 apply hK;clear hK K
 refine W.cond rfl (fun h0=>?_) (fun h0=>?_)
 ·try simp only[RL]at h0
  have hpl:zib ys x=ys:=zwr hq h0
  refine W.r fun K hK=>?_
  simp(disch:=omega)only[↓RU,RV,RH,↓reduceIte,qE,reduceCtorEq,if_pos,↓RS,RG,qA,qM,qL]
  apply hK;clear hK K
  refine W.ret ?_
  refine XThen.ret ?_
  refine Br rfl ?_
  exact ⟨2,_,_,by simp [Env.put,hpl]; rfl,by simp [zaq,hpl]; rfl⟩
 try simp only[RL]at h0
 have hpl:zib ys x=ys++[x]:=z0v hq h0
 refine W.skip ?_
 refine xn ?_
 refine W.r fun K hK=>?_
 simp(disch:=omega)only[↓RU,RV,RH,↓reduceIte,qE,reduceCtorEq,if_pos,↓RS,RG,qA,qM,qL,zab,zaa]
 apply hK;clear hK K
 refine W.ret ?_
 refine Br rfl ?_
 exact ⟨2,_,_,by simp [Env.put,hpl]; rfl,by simp [zaq,hpl]; rfl⟩
theorem zdl {a b:Nat}:((a:Int)+(b:Int)).toNat=a+b:=by omega
theorem zhk {S:Store} {im:Bool} {k:Nat} {a b a2 b2:PV} (h1:reify S im k a=some a2) (h2:reify S im k b=some b2):reify S im (k+1) (.tup [a,b])=some (.tup [a2,b2]):=by
 simp [reify,h1,h2]
theorem z2c {p:List Txt} (hs:Sm p) (hg:zcp p=true) {kind line fr long:Nat} (hl:1≤line) (h0:kind=0→line<(zah p).length∧fr+long≤p.length) (h1:kind≠0→line<p.length∧fr+long≤(zah p).length):PC Tryz.prog 185 [zal p,.sl [.int .i64 kind,.int .i64 line,.int .i64 fr,.int .i64 long] 4] (.tup [eInts (zda p kind line fr long).1,eInts (zda p kind line fr long).2]) true:=by
 have hp:=hs.rows
 have hsm:=zck hg
 obtain ⟨row0,hrow0,hrm0⟩:=zad hsm.1
 have hhd:=zcm hrow0
 have hw6:=hsm.2.2 row0 hrm0
 rw [hhd]at h0 h1
 have hb:fr+long≤6∧line≤6:=by by_cases hk:kind=0; (have:=h0 hk; omega); (have:=h1 hk; omega)
 refine PC.of ⟨Tryz.func185,by kernel_rfl,rfl,by kernel_rfl⟩ zam mixed (by show 2≤Tryz.f185.ntmps; decide) ?_
 refine W.r fun K hK=>?_
 simp(disch:=omega)only[↓RU,RV,RH,↓reduceIte,qE,reduceCtorEq,if_pos,↓RS,RG,qA,qM,qL]
 apply hK;clear hK K
 refine W.r fun K hK=>?_
 simp(disch:=omega)only[↓RU,RV,RH,↓reduceIte,qE,reduceCtorEq,if_pos,↓RS,RG,qA,qM,qL,zab,zaa]
 apply hK;clear hK K
 refine W.r fun K hK=>?_
 simp(disch:=omega)only[↓RU,RV,RH,↓reduceIte,qE,reduceCtorEq,if_pos,↓RS,RG,qA,qM,qL,zab,zaa]
 apply hK;clear hK K
 refine W.seq ?_
 refine W.r fun K hK=>?_
 simp(disch:=omega)only[↓RU,RV,RH,↓reduceIte,qE,reduceCtorEq,if_pos,↓RS,RG,qA,qM,qL,zab,zaa,qZ,zaz,zdl]
 apply hK;clear hK K
 refine W.block ?_
 refine W.loop [0,1,6,7,8] (fun n vs S=>∃ j v0 v1 tk:Nat,n=long - j∧j≤long∧vs=[zal p,.sl [.int .i64 kind,.int .i64 line,.int .i64 fr,.int .i64 long] 4,.loc 0 v0 0 (zda p kind line fr j).1.length,.loc 1 v1 0 (zda p kind line fr j).2.length,.int .i64 ((fr:Int)+j)]∧S=⟨[.arr v0 3 1 ((zda p kind line fr j).1.map (.int .i64)),.arr v1 3 1 ((zda p kind line fr j).2.map (.int .i64))],tk⟩) (long) ?_ ?_
 ·refine ⟨2,0,0,1,2,rfl,Nat.zero_le _,?_,rfl⟩
  simp [Env.put,Env.of,zae,zda]
 rintro n vs S - ⟨j,v0,v1,tk,rfl,h_j,rfl,rfl⟩
 refine W.seq ?_
 refine W.seq_draw (by kernel_rfl) fun K hK=>?_
 simp(disch:=omega)only[↓RU,RV,RH,↓reduceIte,qE,reduceCtorEq,if_pos,w64,↓RS,RG,qA,qM,qL,zab,zaa,qZ,zaz,zdl]
 apply hK;clear hK K
 refine W.cond rfl (fun h2=>?_) (fun h2=>?_)
 ·try simp only[RL]at h2
  have hsl:=zko (p:=p) (kind:=kind) (line:=line) (fr:=fr) j
  refine W.skip ?_
  refine xn ?_
  refine W.seq ?_
  refine W.block ?_
  refine W.r fun K hK=>?_
  simp(disch:=omega)only[↓RU,RV,RH,↓reduceIte,qE,reduceCtorEq,if_pos,w64,↓RS,RG,qA,qM,qL,zab,zaa,qZ,zaz,zdl]
  apply hK;clear hK K
  refine W.cond rfl (fun h3=>?_) (fun h3=>?_)
  ·try simp only[RL]at h3
   have hk:kind=0:=by omega
   have h0k:=h0 hk
   obtain ⟨r1,hr1,-⟩:=zad (show fr+j<p.length by omega)
   have hr2:=hr1
   have hrl:=zds hg hr1
   rw [hhd]at hrl
   obtain ⟨c1,hc1,-⟩:=zad (show line - 1<r1.length by omega)
   obtain ⟨c2,hc2,-⟩:=zad (show line<r1.length by omega)
   have hcl1:=c1.toNat_lt
   have hcl2:=c2.toNat_lt
   refine W.seq_drawE (by kernel_rfl) fun K hK=>?_
   simp(disch:=omega)only[↓RU,RV,RH,↓reduceIte,qE,reduceCtorEq,if_pos,w64,w64,qN,↓RS,RG,qA,qM,qL,zab,ty6,zaa,zac,zep,qZ,zaz,zdl,hr1,hc1]
   refine zaf.ev (zvw (by omega) (by omega) _) ?_
   rintro v S ⟨w,t,rfl,rfl⟩
   simp(disch:=omega)only[↓RU,RV,RH,↓reduceIte,qE,reduceCtorEq,if_pos,w64,w64,qN,↓RS,RG,qA,qM,qL,zab,ty6,zaa,zac,zep,qZ,zaz,zdl,hr1,hc1]
   apply hK;clear hK K
   refine W.drawE_k (by kernel_rfl) fun K hK=>?_
   simp(disch:=omega)only[↓RU,RV,RH,↓reduceIte,qE,reduceCtorEq,if_pos,w64,w64,qN,↓RS,RG,qA,qM,qL,zab,ty6,zaa,zac,zep,qZ,zaz,zdl,hr2,hc2]
   refine zaf.ev (zvx (Nat.le_trans zlq (by omega)) (by omega) _) ?_
   rintro v S ⟨w2,t2,rfl,rfl⟩
   simp(disch:=omega)only[↓RU,RV,RH,↓reduceIte,qE,reduceCtorEq,if_pos,w64,w64,qN,↓RS,RG,qA,qM,qL,zab,ty6,zaa,zac,zep,qZ,zaz,zdl,hr2,hc2]
   apply hK;clear hK K
   refine XbN ?_
   refine xn ?_
   refine W.k fun K hK=>?_
   simp(disch:=omega)only[↓RU,RV,RH,↓reduceIte,qE,reduceCtorEq,if_pos,w64,↓RS,RG,qA,qM,qL,zaa]
   apply hK;clear hK K
   refine xn ?_
   refine ⟨long - (j+1),by omega,2,j+1,w,w2,t2,rfl,by omega,?_,?_⟩
   all_goals simp [zda,hk,zcl hr1 hc1,zcl hr2 hc2,Env.put,Env.of,zaq,Int.add_assoc]
  ·try simp only[RL]at h3
   have hk:¬ kind=0:=by omega
   have h1k:=h1 hk
   obtain ⟨r1,hr1,-⟩:=zad (show line - 1<p.length by omega)
   obtain ⟨r2,hr2,-⟩:=zad (show line<p.length by omega)
   have hrl:=zds hg hr1
   have hrl2:=zds hg hr2
   rw [hhd]at hrl hrl2
   obtain ⟨c1,hc1,-⟩:=zad (show fr+j<r1.length by omega)
   obtain ⟨c2,hc2,-⟩:=zad (show fr+j<r2.length by omega)
   have hcl1:=c1.toNat_lt
   have hcl2:=c2.toNat_lt
   refine W.r fun K hK=>?_
   simp(disch:=omega)only[↓RU,RV,RH,↓reduceIte,qE,reduceCtorEq,if_pos,w64,w64,qN,↓RS,RG,qA,qM,qL,zab,ty6,zaa,zac,zep,qZ,zaz,zdl,hr1,hc1]
   refine zaf.ev (zvw (by omega) (by omega) _) ?_
   rintro v S ⟨w,t,rfl,rfl⟩
   simp(disch:=omega)only[↓RU,RV,RH,↓reduceIte,qE,reduceCtorEq,if_pos,w64,w64,qN,↓RS,RG,qA,qM,qL,zab,ty6,zaa,zac,zep,qZ,zaz,zdl,hr1,hc1]
   apply hK;clear hK K
   refine W.k fun K hK=>?_
   simp(disch:=omega)only[↓RU,RV,RH,↓reduceIte,qE,reduceCtorEq,if_pos,w64,w64,qN,↓RS,RG,qA,qM,qL,zab,ty6,zaa,zac,zep,qZ,zaz,zdl,hr2,hc2]
   refine zaf.ev (zvx (Nat.le_trans zlq (by omega)) (by omega) _) ?_
   rintro v S ⟨w2,t2,rfl,rfl⟩
   simp(disch:=omega)only[↓RU,RV,RH,↓reduceIte,qE,reduceCtorEq,if_pos,w64,w64,qN,↓RS,RG,qA,qM,qL,zab,ty6,zaa,zac,zep,qZ,zaz,zdl,hr2,hc2]
   apply hK;clear hK K
   refine XbN ?_
   refine xn ?_
   refine W.k fun K hK=>?_
   simp(disch:=omega)only[↓RU,RV,RH,↓reduceIte,qE,reduceCtorEq,if_pos,w64,↓RS,RG,qA,qM,qL,zaa]
   apply hK;clear hK K
   refine xn ?_
   refine ⟨long - (j+1),by omega,2,j+1,w,w2,t2,rfl,by omega,?_,?_⟩
   all_goals simp [zda,hk,zcl hr1 hc1,zcl hr2 hc2,Env.put,Env.of,zaq,Int.add_assoc]
 try simp only[RL]at h2
 refine W.exit ?_
 refine xe ?_
 refine xe ?_
 refine XBlock.hit ?_
 refine xn ?_
 refine W.r fun K hK=>?_
 simp(disch:=omega)only[↓RU,RV,RH,↓reduceIte,qE,reduceCtorEq,if_pos,↓RS,RG,qA,qM,qL]
 apply hK;clear hK K
 refine W.ret ?_
 refine Br rfl ?_
 have hjl:j=long:=by omega
 subst hjl
 exact zhk (zbh (k:=8) rfl (by simp) (zlc _)) (zbh (k:=8) rfl (by simp) (zlc _))
theorem znk {p:List Txt} (hs:Sm p) (hg:zcp p=true):PC Tryz.prog 152 [zal p] (.sl ((uprights p).map eInts) (uprights p).length) false:=by
 have hp:=hs.rows
 have hsm:=zck hg
 obtain ⟨row0,hrow0,hrm0⟩:=zad hsm.1
 have hhd:=zcm hrow0
 have hw6:=hsm.2.2 row0 hrm0
 have hw1:=zg2 hg hrow0
 refine PC.of ⟨Tryz.func152,by kernel_rfl,rfl,by kernel_rfl⟩ zam mixed (by show 1≤Tryz.f152.ntmps; decide) ?_
 refine W.r fun K hK=>?_
 simp(disch:=omega)only[↓RU,RV,RH,↓reduceIte,qE,reduceCtorEq,if_pos,↓RS,RG,qA,qM,qL]
 apply hK;clear hK K
 refine W.r fun K hK=>?_
 simp(disch:=omega)only[↓RU,RV,RH,↓reduceIte,qE,reduceCtorEq,if_pos,↓RS,RG,qA,qM,qL,ty1,zab,zaa]
 apply hK;clear hK K
 refine W.seq ?_
 refine W.r fun K hK=>?_
 simp(disch:=omega)only[↓RU,RV,RH,↓reduceIte,qE,reduceCtorEq,if_pos,↓RS,RG,qA,qM,qL]
 apply hK;clear hK K
 refine W.block ?_
 refine W.loopZ [0,3,4] (fun n vs S=>∃ k v0 tk:Nat,n=row0.length - k∧k≤row0.length∧(1≤k)∧vs=[zal p,.loc 0 v0 0 (zde p k).length,.int .i64 k]∧S=⟨[.arr v0 34 1 ((zde p k).map eInts)],tk⟩) (row0.length - 1) ?_ ?_
 ·refine ⟨1,[zal p,.loc 0 0 0 (zde p 1).length,.int .i64 1],⟨[.arr 0 34 1 ((zde p 1).map eInts)],1⟩,?_,?_,1,0,1,rfl,by omega,qR _,rfl,rfl⟩
  ·rfl
  rfl
 rintro n vs S - ⟨k,v0,tk,rfl,h_k,h1k,rfl,rfl⟩
 refine W.seq ?_
 refine W.r fun K hK=>?_
 simp(disch:=omega)only[↓RU,RV,RH,↓reduceIte,qE,reduceCtorEq,if_pos,w64,↓RS,RG,qA,qM,qL,ty6,zaa,zac,hrow0,Int.toNat_zero,Nat.zero_mul,qZ]
 apply hK;clear hK K
 refine W.cond rfl (fun h=>?_) (fun h=>?_)
 ·try simp only[RL]at h
  have hul:=Nat.le_trans (zmb p k) (Nat.mul_le_mul (show p.length+1≤7 by omega) (show k≤6 by omega))
  refine W.skip ?_
  refine xn ?_
  refine W.seq ?_
  refine W.block ?_
  refine W.r fun K hK=>?_
  simp(disch:=omega)only[↓RU,RV,RH,↓reduceIte,qE,reduceCtorEq,if_pos,↓RS,RG,qA,qM,qL]
  apply hK;clear hK K
  refine W.r fun K hK=>?_
  simp(disch:=omega)only[↓RU,RV,RH,↓reduceIte,qE,reduceCtorEq,if_pos,↓RS,RG,qA,qM,qL]
  apply hK;clear hK K
  refine W.block ?_
  refine W.loopZ [0,3,4,5,6] (fun n vs S=>∃ i v0 tk:Nat,n=(p.length+1) - i∧i≤(p.length+1)∧vs=[zal p,.loc 0 v0 0 (zfd p k (zde p k) i).2.length,.int .i64 k,.int .i64 (zfd p k (zde p k) i).1,.int .i64 i]∧S=⟨[.arr v0 34 1 ((zfd p k (zde p k) i).2.map eInts)],tk⟩) ((p.length+1)) ?_ ?_
  ·refine ⟨1,[zal p,.loc 0 v0 0 (zfd p k (zde p k) 0).2.length,.int .i64 k,.int .i64 (zfd p k (zde p k) 0).1,.int .i64 0],⟨[.arr v0 34 1 ((zfd p k (zde p k) 0).2.map eInts)],tk⟩,?_,?_,0,v0,tk,rfl,by omega,rfl,rfl⟩
   ·simp [-qU,Store.frz,zdh,zd2,zbr,zc0,zcu,zc5,zeo,zcf,zb3,zcg,zbq,zbt,zc8,zch,zc6,zce,Env.put,Env.of,zae,zc7,qP,qC] <;> simp [zfd]
   simp [-qU,Store.frz,zdh,zd2,zbr,zc0,zcu,zc5,zeo,zcf,zb3,zcg,zbq,zbt,zc8,zch,zc6,zce,Env.put,Env.of,zae,zc7,qP,qC] <;> simp [zfd]
  rintro n vs S - ⟨i,v0,tk,rfl,h_i,rfl,rfl⟩
  refine W.seq ?_
  refine W.r fun K hK=>?_
  simp(disch:=omega)only[↓RU,RV,RH,↓reduceIte,qE,reduceCtorEq,if_pos,w64,↓RS,RG,qA,qM,qL,ty6,zaa,zac]
  apply hK;clear hK K
  refine W.cond rfl (fun h1=>?_) (fun h1=>?_)
  ·try simp only[RL]at h1
   have hutl:=zuj p k (zde p k) i
   have hutb:=zsx p k (zde p k) i
   refine W.skip ?_
   refine xn ?_
   refine W.seq ?_
   refine W.block ?_
   refine W.join [0,3,4,5,6,7] (fun vs S=>vs=[zal p,.loc 0 v0 0 (zfd p k (zde p k) i).2.length,.int .i64 k,.int .i64 (zfd p k (zde p k) i).1,.int .i64 i,.bool (zgq p k i)]∧S=⟨[.arr v0 34 1 ((zfd p k (zde p k) i).2.map eInts)],tk⟩) ?_ ?_
   ·
    refine W.draw_k (by kernel_rfl) fun K hK=>?_
    by_cases hip:i<p.length
    ·skip
     obtain ⟨r1,hr1,-⟩:=zad hip
     have hrl:=zds hg hr1
     rw [hhd]at hrl
     obtain ⟨c1,hc1,-⟩:=zad (show k - 1<r1.length by omega)
     obtain ⟨c2,hc2,-⟩:=zad (show k<r1.length by omega)
     have hid:((i:Int)<(p.length:Int)):=by omega
     simp(disch:=omega)only[↓RU,RV,RH,↓reduceIte,qE,reduceCtorEq,if_pos,w64,↓RS,RG,qA,qM,qL,ty6,zaa,zac,zep,hid,decide_true,hr1,hc1,hc2,zaz]
     apply hK;clear hK K
     refine xn ?_
     refine ⟨1,?_,?_⟩
     all_goals simp [Env.put,Env.of,zaq,zgq,hip]
     try simp [zcl hr1 hc1,zcl hr1 hc2,ydq,zta]
    ·skip
     have hid:¬ ((i:Int)<(p.length:Int)):=by omega
     simp(disch:=omega)only[↓RU,RV,RH,↓reduceIte,qE,reduceCtorEq,if_pos,w64,↓RS,RG,qA,qM,qL,ty6,zaa,zac,zep,hid,decide_false]
     apply hK;clear hK K
     refine xn ?_
     refine ⟨1,?_,?_⟩
     all_goals simp [Env.put,Env.of,zaq,zgq,hip]
     try simp [zcl hr1 hc1,zcl hr1 hc2,ydq,zta]
   rintro vs S - ⟨rfl,rfl⟩
   refine W.seq ?_
   refine W.r fun K hK=>?_
   cases hw:zgq p k i
   ·skip
    simp(disch:=omega)only[↓RU,RV,RH,↓reduceIte,qE,reduceCtorEq,if_pos,w64,↓RS,RG,qA,qM,qL,zaa,hw]
    apply hK;clear hK K
    refine W.cond rfl (fun h2=>?_) (fun h2=>?_)
    ·try simp only[RL]at h2
     exact absurd h2 (by simp)
    try simp only[RL]at h2
    refine W.skip ?_
    refine xn ?_
    refine W.r fun K hK=>?_
    simp(disch:=omega)only[↓RU,RV,RH,↓reduceIte,qE,reduceCtorEq,if_pos,w64,↓RS,RG,qA,qM,qL,zaa]
    apply hK;clear hK K
    refine W.cond rfl (fun h3=>?_) (fun h3=>?_)
    ·try simp only[RL]at h3
     refine W.r fun K hK=>?_
     simp(disch:=omega)only[↓RU,RV,RH,↓reduceIte,qE,reduceCtorEq,if_pos,w64,↓RS,RG,qA,qM,qL,ty1,zab,zaa]
     apply hK;clear hK K
     refine W.k fun K hK=>?_
     simp(disch:=omega)only[↓RU,RV,RH,↓reduceIte,qE,reduceCtorEq,if_pos,↓RS,RG,qA,qM,qL]
     apply hK;clear hK K
     refine XbN ?_
     refine xn ?_
     refine W.k fun K hK=>?_
     simp(disch:=omega)only[↓RU,RV,RH,↓reduceIte,qE,reduceCtorEq,if_pos,w64,↓RS,RG,qA,qM,qL,zaa]
     apply hK;clear hK K
     refine xn ?_
     refine ⟨(p.length+1) - (i+1),by omega,1,[zal p,.loc 0 (tk+2) 0 (zfd p k (zde p k) (i+1)).2.length,.int .i64 k,.int .i64 (zfd p k (zde p k) (i+1)).1,.int .i64 (i+1)],⟨[.arr (tk+2) 34 1 ((zfd p k (zde p k) (i+1)).2.map eInts)],(tk+3)⟩,?_,?_,(i+1),tk+2,tk+3,rfl,by omega,rfl,rfl⟩
     ·simp [-qU,Store.frz,zdh,zd2,zbr,zc0,zcu,zc5,zeo,zcf,zb3,zcg,zbq,zbt,zc8,zch,zc6,zce,Env.put,Env.of,zae,zc7,qP,qC,zfd,zf7,hw,h2,h3]
     simp [-qU,Store.frz,zdh,zd2,zbr,zc0,zcu,zc5,zeo,zcf,zb3,zcg,zbq,zbt,zc8,zch,zc6,zce,Env.put,Env.of,zae,zc7,qP,qC,zfd,zf7,hw,h2,h3]
    try simp only[RL]at h3
    refine W.skip ?_
    refine XbN ?_
    refine xn ?_
    refine W.k fun K hK=>?_
    simp(disch:=omega)only[↓RU,RV,RH,↓reduceIte,qE,reduceCtorEq,if_pos,w64,↓RS,RG,qA,qM,qL,zaa]
    apply hK;clear hK K
    refine xn ?_
    refine ⟨(p.length+1) - (i+1),by omega,1,[zal p,.loc 0 v0 0 (zfd p k (zde p k) (i+1)).2.length,.int .i64 k,.int .i64 (zfd p k (zde p k) (i+1)).1,.int .i64 (i+1)],⟨[.arr v0 34 1 ((zfd p k (zde p k) (i+1)).2.map eInts)],tk⟩,?_,?_,(i+1),v0,tk,rfl,by omega,rfl,rfl⟩
    ·simp [-qU,Store.frz,zdh,zd2,zbr,zc0,zcu,zc5,zeo,zcf,zb3,zcg,zbq,zbt,zc8,zch,zc6,zce,Env.put,Env.of,zae,zc7,qP,qC,zfd,zf7,hw,h2,h3]
    simp [-qU,Store.frz,zdh,zd2,zbr,zc0,zcu,zc5,zeo,zcf,zb3,zcg,zbq,zbt,zc8,zch,zc6,zce,Env.put,Env.of,zae,zc7,qP,qC,zfd,zf7,hw,h2,h3]
   skip
   simp(disch:=omega)only[↓RU,RV,RH,↓reduceIte,qE,reduceCtorEq,if_pos,w64,↓RS,RG,qA,qM,qL,zaa,hw]
   apply hK;clear hK K
   refine W.cond rfl (fun h2=>?_) (fun h2=>?_)
   ·try simp only[RL]at h2
    refine W.k fun K hK=>?_
    simp(disch:=omega)only[↓RU,RV,RH,↓reduceIte,qE,reduceCtorEq,if_pos,↓RS,RG,qA,qM,qL]
    apply hK;clear hK K
    refine xn ?_
    refine W.r fun K hK=>?_
    simp(disch:=omega)only[↓RU,RV,RH,↓reduceIte,qE,reduceCtorEq,if_pos,w64,↓RS,RG,qA,qM,qL,zaa]
    apply hK;clear hK K
    refine W.cond rfl (fun h3=>?_) (fun h3=>?_)
    ·try simp only[RL]at h3
     exact absurd h3 (by simp)
    try simp only[RL]at h3
    refine W.skip ?_
    refine XbN ?_
    refine xn ?_
    refine W.k fun K hK=>?_
    simp(disch:=omega)only[↓RU,RV,RH,↓reduceIte,qE,reduceCtorEq,if_pos,w64,↓RS,RG,qA,qM,qL,zaa]
    apply hK;clear hK K
    refine xn ?_
    refine ⟨(p.length+1) - (i+1),by omega,1,[zal p,.loc 0 v0 0 (zfd p k (zde p k) (i+1)).2.length,.int .i64 k,.int .i64 (zfd p k (zde p k) (i+1)).1,.int .i64 (i+1)],⟨[.arr v0 34 1 ((zfd p k (zde p k) (i+1)).2.map eInts)],tk⟩,?_,?_,(i+1),v0,tk,rfl,by omega,rfl,rfl⟩
    ·simp [-qU,Store.frz,zdh,zd2,zbr,zc0,zcu,zc5,zeo,zcf,zb3,zcg,zbq,zbt,zc8,zch,zc6,zce,Env.put,Env.of,zae,zc7,qP,qC,zfd,zf7,hw,h2,h3]
    simp [-qU,Store.frz,zdh,zd2,zbr,zc0,zcu,zc5,zeo,zcf,zb3,zcg,zbq,zbt,zc8,zch,zc6,zce,Env.put,Env.of,zae,zc7,qP,qC,zfd,zf7,hw,h2,h3]
   try simp only[RL]at h2
   refine W.skip ?_
   refine xn ?_
   refine W.r fun K hK=>?_
   simp(disch:=omega)only[↓RU,RV,RH,↓reduceIte,qE,reduceCtorEq,if_pos,w64,↓RS,RG,qA,qM,qL,zaa]
   apply hK;clear hK K
   refine W.cond rfl (fun h3=>?_) (fun h3=>?_)
   ·try simp only[RL]at h3
    exact absurd h3 (by simp)
   try simp only[RL]at h3
   refine W.skip ?_
   refine XbN ?_
   refine xn ?_
   refine W.k fun K hK=>?_
   simp(disch:=omega)only[↓RU,RV,RH,↓reduceIte,qE,reduceCtorEq,if_pos,w64,↓RS,RG,qA,qM,qL,zaa]
   apply hK;clear hK K
   refine xn ?_
   refine ⟨(p.length+1) - (i+1),by omega,1,[zal p,.loc 0 v0 0 (zfd p k (zde p k) (i+1)).2.length,.int .i64 k,.int .i64 (zfd p k (zde p k) (i+1)).1,.int .i64 (i+1)],⟨[.arr v0 34 1 ((zfd p k (zde p k) (i+1)).2.map eInts)],tk⟩,?_,?_,(i+1),v0,tk,rfl,by omega,rfl,rfl⟩
   ·simp [-qU,Store.frz,zdh,zd2,zbr,zc0,zcu,zc5,zeo,zcf,zb3,zcg,zbq,zbt,zc8,zch,zc6,zce,Env.put,Env.of,zae,zc7,qP,qC,zfd,zf7,hw,h2,h3]
   simp [-qU,Store.frz,zdh,zd2,zbr,zc0,zcu,zc5,zeo,zcf,zb3,zcg,zbq,zbt,zc8,zch,zc6,zce,Env.put,Env.of,zae,zc7,qP,qC,zfd,zf7,hw,h2,h3]
  try simp only[RL]at h1
  refine W.exit ?_
  refine xe ?_
  refine xe ?_
  refine XBlock.hit ?_
  refine XbN ?_
  refine xn ?_
  refine W.k fun K hK=>?_
  simp(disch:=omega)only[↓RU,RV,RH,↓reduceIte,qE,reduceCtorEq,if_pos,w64,↓RS,RG,qA,qM,qL,zaa]
  apply hK;clear hK K
  refine xn ?_
  refine ⟨row0.length - (k+1),by omega,1,[zal p,.loc 0 v0 0 (zde p (k+1)).length,.int .i64 (k+1)],⟨[.arr v0 34 1 ((zde p (k+1)).map eInts)],tk⟩,?_,?_,(k+1),v0,tk,rfl,by omega,by omega,rfl,rfl⟩
  ·simp [-qU,Store.frz,zdh,zd2,zbr,zc0,zcu,zc5,zeo,zcf,zb3,zcg,zbq,zbt,zc8,zch,zc6,zce,Env.put,Env.of,zae,zc7,qP,qC] <;> (rw [zm1 h1k]; obtain rfl:i=p.length+1:=(by omega); simp)
  simp [-qU,Store.frz,zdh,zd2,zbr,zc0,zcu,zc5,zeo,zcf,zb3,zcg,zbq,zbt,zc8,zch,zc6,zce,Env.put,Env.of,zae,zc7,qP,qC] <;> (rw [zm1 h1k]; obtain rfl:i=p.length+1:=(by omega); simp)
 try simp only[RL]at h
 refine W.exit ?_
 refine xe ?_
 refine xe ?_
 refine XBlock.hit ?_
 refine xn ?_
 refine W.r fun K hK=>?_
 simp(disch:=omega)only[↓RU,RV,RH,↓reduceIte,qE,reduceCtorEq,if_pos,↓RS,RG,qA,qM,qL]
 apply hK;clear hK K
 refine W.ret ?_
 refine Br rfl ?_
 have hkp:k=row0.length:=by omega
 subst hkp
 rw [uprights,hhd]
 exact zbh (k:=9) rfl (by simp) (zmp _)
def ybt (p:List Txt) (k0:Nat) (w:List Int):Prop :=
 ∃ k f l:Nat,w=[(k:Int),(f:Int),(l:Int)]∧1≤k∧k<k0∧1≤l∧f+l≤p.length∧∀ j,f≤j→j<f+l→zgq p k j=true
theorem z7y {p:List Txt} {k:Nat}:zgq p k p.length=false:=by simp [zgq]
theorem z7s {p:List Txt} {k k0:Nat} (hk:1≤k) (hk0:k<k0) {s0:List (List Int)} (h0:∀ w∈s0,ybt p k0 w):∀ i,i≤p.length+1 →
  (∀ w∈(zfd p k s0 i).2,ybt p k0 w)∧((zfd p k s0 i).1 = -1∨∃ f:Nat,(zfd p k s0 i).1=f∧f<i∧∀ j,f≤j→j<i→zgq p k j=true)
 | 0,_=>⟨h0,.inl rfl⟩
 | i+1,hi=>by
  obtain ⟨ih1,ih2⟩:=z7s hk hk0 h0 i (by omega)
  unfold zfd zf7
  cases hw:zgq p k i with
  | true =>
   simp only[Bool.true_and,decide_eq_true_eq,Bool.not_true,Bool.false_and,qF,if_false]
   refine ⟨ih1,.inr ?_⟩
   rcases ih2 with h | ⟨f,h,hf,hr⟩
   ·rw [h,if_pos (by omega)]
    exact ⟨i,rfl,by omega,fun j h1 h2=>by rw [show j=i by omega]; exact hw⟩
   rw [h,if_neg (by omega)]
   refine ⟨f,rfl,by omega,fun j h1 h2=>?_⟩
   by_cases hj:j=i
   ·rw [hj]; exact hw
   exact hr j h1 (by omega)
  | false =>
   simp only[Bool.false_and,qF,if_false,Bool.not_false,Bool.true_and,decide_eq_true_eq]
   rcases ih2 with h | ⟨f,h,hf,hr⟩
   ·rw [h,if_neg (by omega)]
    exact ⟨ih1,.inl rfl⟩
   rw [h,if_pos (by omega)]
   refine ⟨fun w hw'=>?_,.inl rfl⟩
   rcases List.mem_append.1 hw' with h1 | h1
   ·exact ih1 w h1
   rw [List.mem_singleton]at h1
   have hip:i≤p.length:=by omega
   refine ⟨k,f,i - f,by rw [h1]; simp; omega,hk,hk0,by omega,by omega,fun j h1 h2=>hr j h1 (by omega)⟩
theorem ybt.up {p:List Txt} {k k':Nat} (h:k≤k') {w:List Int} (hw:ybt p k w):ybt p k' w:=by
 obtain ⟨a,f,l,h1,h2,h3,h4⟩:=hw
 exact ⟨a,f,l,h1,h2,by omega,h4⟩
theorem zum (p:List Txt):∀ k,∀ w∈zde p k,ybt p k w
 | 0,w,h=>by simp [zde]at h
 | k+1,w,h=>by
  unfold zde at h
  split at h
  ·rename_i hk
   exact (z7s hk (Nat.lt_succ_self k) (fun w hw=>(zum p k w hw).up (by omega)) _ (qR _)).1 w h
  exact (zum p k w h).up (by omega)
theorem z7w {p:List Txt} {w:List Int} (h:w∈uprights p):ybt p (zah p).length w:=zum p _ w h
theorem zxp {p:List Txt} {w:List Int} (h:w∈uprights p):w.length=3:=by
 obtain ⟨_,_,_,rfl,_⟩:=z7w h; rfl
theorem z4h {p:List Txt} {k i:Nat} {row:Txt} (h:p[i]?=some row):(znz p k p.length)[i]?=some (row.getD k 0):=by
 simp [znz,h]
theorem zxm {p:List Txt} {k:Nat} (h:k<(zah p).length):(zcv p)[k]?=some (znz p k p.length):=by
 simp [zcv,zjo,h]
theorem zma {p:List Txt}:(zcv p).length=(zah p).length:=by simp [zcv,zi1]
theorem zom {p:List Txt} (h:0<(zah p).length):(zah (zcv p)).length=p.length:=by
 rw [zcm (zxm h)]; exact zg7 (qR _)
theorem zz3 {p:List Txt} (h:zcp p=true) {i k:Nat} {row:Txt} (hr:p[i]?=some row) (hk:k<(zah p).length):∃ c,row[k]?=some c∧zct c=true:=by
 have hl:=zds h hr
 unfold zcp at h
 simp only[qB,decide_eq_true_eq,List.all_eq_true]at h
 have:=h.1.1 row (List.mem_of_getElem? hr)
 simp only[zq5,qB,decide_eq_true_eq,List.all_eq_true]at this
 obtain ⟨c,hc,hm⟩:=zad (show k<row.length by omega)
 exact ⟨c,hc,this.2 c hm⟩
theorem zsw {p:List Txt} (h:zcp p=true):zcp (zcv p)=true:=by
 have hsm:=zck h
 obtain ⟨row0,hrow0,hrm0⟩:=zad hsm.1
 have hhd:=zcm hrow0
 have hw1:=zg2 h hrow0
 have hw6:=hsm.2.2 row0 hrm0
 have hlen:=zma (p:=p)
 have hhd2:=zom (p:=p) (by rw [hhd]; omega)
 rw [hhd]at hlen
 unfold zcp
 simp only[qB,decide_eq_true_eq,List.all_eq_true]
 refine ⟨⟨fun r hr=>?_,by omega⟩,by omega⟩
 simp only[zcv,zjo,List.mem_map,List.mem_range]at hr
 obtain ⟨k,hk,rfl⟩:=hr
 simp only[zq5,qB,decide_eq_true_eq,List.all_eq_true]
 refine ⟨⟨⟨by rw [hhd2]; exact zg7 (qR _),by rw [zg7 (qR _)]; omega⟩,by rw [zg7 (qR _)]; omega⟩,fun c hc=>?_⟩
 simp only[znz,List.take_length,List.mem_map]at hc
 obtain ⟨row,hrm,rfl⟩:=hc
 obtain ⟨i,hi⟩:=List.mem_iff_getElem?.1 hrm
 obtain ⟨c,hc,hl⟩:=zz3 h hi hk
 simpa [List.getD_eq_getElem?_getD,hc] using hl
theorem Sm.grid {p:List Txt} (h:zcp p=true):Sm p:=by
 have:=zck h
 exact ⟨by omega,fun r hr=>by have:=this.2.2 r hr; omega⟩
theorem zhp {p:List Txt} {i k:Nat} (h:i<p.length) (hk:k<(zah p).length):zbv (zcv p) k i=zbv p i k:=by
 obtain ⟨row,hr,-⟩:=zad h
 simp [zbv,zxm hk,z4h hr,hr,List.getD_eq_getElem?_getD]
def walls (p:List Txt):List (List Int):=(uprights p).map (0 :: ·)++(uprights (zcv p)).map (1 :: ·)
def zy7 (p:List Txt) (w:List Int):Prop :=
 ∃ kind line fr long:Nat,w=[(kind:Int),(line:Int),(fr:Int),(long:Int)]∧1≤line∧1≤long ∧
  ((kind=0∧line<(zah p).length∧fr+long≤p.length∧∀ j,fr≤j→j<fr+long→zbv p j (line - 1)≠zbv p j line) ∨
  (kind=1∧line<p.length∧fr+long≤(zah p).length∧∀ j,fr≤j→j<fr+long→zbv p (line - 1) j≠zbv p line j))
theorem zuo {p:List Txt} (hg:zcp p=true) {w:List Int} (h:w∈walls p):zy7 p w:=by
 have hsm:=zck hg
 obtain ⟨row0,hrow0,hrm0⟩:=zad hsm.1
 have hhd:=zcm hrow0
 have hw1:=zg2 hg hrow0
 have hhd2:=zom (p:=p) (by rw [hhd]; omega)
 unfold walls at h
 rcases List.mem_append.1 h with h | h
 ·obtain ⟨u,hu,rfl⟩:=List.mem_map.1 h
  obtain ⟨k,f,l,rfl,h1,h2,h3,h4,h5⟩:=z7w hu
  refine ⟨0,k,f,l,rfl,h1,h3,.inl ⟨rfl,h2,h4,fun j a b=>?_⟩⟩
  have:=h5 j a b
  simp only[zgq,qB,decide_eq_true_eq]at this
  exact this.2
 obtain ⟨u,hu,rfl⟩:=List.mem_map.1 h
 obtain ⟨k,f,l,rfl,h1,h2,h3,h4,h5⟩:=z7w hu
 rw [zma]at h4
 rw [hhd2]at h2
 refine ⟨1,k,f,l,rfl,h1,h3,.inr ⟨rfl,h2,h4,fun j a b=>?_⟩⟩
 have:=h5 j a b
 simp only[zgq,qB,decide_eq_true_eq]at this
 rw [zhp (by omega) (by omega),zhp (by omega) (by omega)]at this
 exact this.2
def zgx (p:List Txt) (i:Nat):List (List Int):=((uprights p).take i).map (0 :: ·)
def zgo (p:List Txt) (j:Nat):List (List Int):=zgx p (uprights p).length++((uprights (zcv p)).take j).map (1 :: ·)
theorem zsz {p:List Txt} {i:Nat} (h:i≤(uprights p).length):(zgx p i).length=i:=by simp [zgx]; omega
theorem z3q {p:List Txt} {j:Nat} (h:j≤(uprights (zcv p)).length):(zgo p j).length=(uprights p).length+j:=by simp [zgo,zsz]; omega
theorem zqt {p:List Txt} {i:Nat} {u:List Int} (h:(uprights p)[i]?=some u):zgx p (i+1)=zgx p i++[0::u]:=by simp [zgx,tk h]
theorem zqu {p:List Txt} {i:Nat} {u:List Int} (h:(uprights (zcv p))[i]?=some u):zgo p (i+1)=zgo p i++[1::u]:=by simp [zgo,tk h]
theorem zqv {p:List Txt}:zgo p 0=zgx p (uprights p).length:=by simp [zgo]
theorem z3p {p:List Txt}:zgo p (uprights (zcv p)).length=walls p:=by simp [zgo,zgx,walls]
theorem zxq {p:List Txt} (hg:zcp p=true):(walls p).length≤84:=by
 have hsm:=zck hg
 obtain ⟨row0,hrow0,hrm0⟩:=zad hsm.1
 have hhd:=zcm hrow0
 have hw1:=zg2 hg hrow0
 have hw6:=hsm.2.2 row0 hrm0
 have hhd2:=zom (p:=p) (by rw [hhd]; omega)
 have hl2:=zma (p:=p)
 rw [hhd]at hl2
 have h1:=Nat.le_trans (zmb p (zah p).length) (Nat.mul_le_mul (show p.length+1≤7 by omega) (show (zah p).length≤6 by rw [hhd]; omega))
 have h2:=Nat.le_trans (zmb (zcv p) (zah (zcv p)).length) (Nat.mul_le_mul (show (zcv p).length+1≤7 by omega) (show (zah (zcv p)).length≤6 by omega))
 simp only[walls,uprights,List.length_append,List.length_map]
 omega
theorem z61 (row:Txt):∀ (n:Int),n≤zf6 n row∧∀ (k:Nat) (c:UInt8),row[k]?=some c→(c.toNat:Int) - 97+1≤zf6 n row:=by
 induction row with
 | nil=>intro n; exact ⟨Int.le_refl _,by simp⟩
 | cons a row ih =>
  intro n
  have h:=ih (max n ((a.toNat:Int) - 97+1))
  have e:zf6 n (a::row)=zf6 (max n ((a.toNat:Int) - 97+1)) row:=rfl
  rw [e]
  refine ⟨by omega,?_⟩
  rintro (_ | k) c hc
  ·simp at hc; subst hc; omega
  simp at hc; exact h.2 k c hc
theorem zsl (p:List Txt):∀ (n:Int),n≤p.foldl zf6 n∧∀ (i k:Nat) (row:Txt) (c:UInt8),p[i]?=some row→row[k]?=some c→(c.toNat:Int) - 97+1≤p.foldl zf6 n:=by
 induction p with
 | nil=>intro n; exact ⟨Int.le_refl _,by simp⟩
 | cons r p ih =>
  intro n
  have h:=ih (zf6 n r)
  have h2:=z61 r n
  simp only[List.foldl_cons]
  refine ⟨by omega,?_⟩
  rintro (_ | i) k row c hr hc
  ·simp at hr; subst hr
   have:=h2.2 k c hc; omega
  simp at hr; exact h.2 i k row c hr hc
theorem zn2 {p:List Txt} (hg:zcp p=true) {i k:Nat} (hi:i<p.length) (hk:k<(zah p).length):0≤zbv p i k∧zbv p i k<zaw p:=by
 obtain ⟨row,hr,-⟩:=zad hi
 obtain ⟨c,hc,hl⟩:=zz3 hg hr hk
 rw [zcl hr hc]
 have:=(zsl p 0).2 i k row c hr hc
 simp only[zct,qB,decide_eq_true_eq]at hl
 unfold zaw
 omega
def orBit (ms:List Nat) (a b:Nat):List Nat:=ms.set a ((ms[a]?.getD 0) ||| 2 ^ b)
def justB (a:Nat) (ms:List Nat) (bs:List Int):List Nat:=bs.foldl (fun ms b=>orBit ms a b.toNat) ms
def justA (bs:List Int) (ms:List Nat) (la:List Int):List Nat:=la.foldl (fun ms a=>justB a.toNat ms bs) ms
def zca (p:List Txt) (w:List Int):List Int × List Int :=
 match w with
 | [kind,line,fr,long]=>zda p kind.toNat line.toNat fr.toNat long.toNat
 | _=>([],[])
def justW (p:List Txt) (kind:Int) (ms:List Nat) (w:List Int):List Nat :=
 if w[0]?.getD 0=kind then justA (zca p w).2 ms (zca p w).1 else ms
def just (p:List Txt) (kind:Int):List Nat:=(walls p).foldl (justW p kind) (List.replicate (zaw p).toNat 0)
def allA (c:Nat) (ms:List Nat) (a:Nat):List Nat:=if (ms[a]?.getD 0).testBit c then ms.set a ((ms[a]?.getD 0) ||| (ms[c]?.getD 0)) else ms
def yd4 (n:Nat) (ms:List Nat) (c:Nat):List Nat:=(List.range n).foldl (allA c) ms
def zux (p:List Txt) (kind:Int):List Nat:=(List.range (just p kind).length).foldl (yd4 (just p kind).length) (just p kind)
def Msk (n:Nat) (ms:List Nat):Prop:=ms.length=n∧∀ m∈ms,m<512
theorem Msk.get {n:Nat} {ms:List Nat} (h:Msk n ms) (a:Nat):ms[a]?.getD 0<512:=by
 cases e:ms[a]? with
 | none=>simp
 | some m=>simpa using h.2 m (List.mem_of_getElem? e)
theorem z0e {a b:Nat} (ha:a<512) (hb:b<512):a ||| b<512:=Nat.or_lt_two_pow (n:=9) ha hb
theorem Msk.set {n:Nat} {ms:List Nat} (h:Msk n ms) {a m:Nat} (hm:m<512):Msk n (ms.set a m):=by
 refine ⟨by simpa using h.1,fun x hx=>?_⟩
 rcases List.mem_or_eq_of_mem_set hx with h1 | rfl
 ·exact h.2 x h1
 exact hm
theorem Msk.orBit {n:Nat} {ms:List Nat} (h:Msk n ms) {a b:Nat} (hb:b<9):Msk n (orBit ms a b) :=
 h.set (z0e (h.get a) (Nat.pow_lt_pow_right (by omega) hb))
theorem Msk.justB {n:Nat} {a:Nat}:∀ {bs:List Int} {ms:List Nat},Msk n ms→(∀ b∈bs,b.toNat<9)→Msk n (justB a ms bs)
 | [],ms,h,_=>h
 | b::bs,ms,h,hb=>by
  show Msk n (Fw.justB a (Fw.orBit ms a b.toNat) bs)
  exact Msk.justB (h.orBit (hb b (by simp))) fun x hx=>hb x (by simp [hx])
theorem Msk.justA {n:Nat} {bs:List Int} (hb:∀ b∈bs,b.toNat<9):∀ {la:List Int} {ms:List Nat},Msk n ms→Msk n (justA bs ms la)
 | [],ms,h=>h
 | a::la,ms,h=>by
  show Msk n (Fw.justA bs (Fw.justB a.toNat ms bs) la)
  exact Msk.justA hb (h.justB hb)
theorem Msk.allA {n c a:Nat} {ms:List Nat} (h:Msk n ms):Msk n (allA c ms a):=by
 unfold Fw.allA
 split
 ·exact h.set (z0e (h.get a) (h.get c))
 exact h
theorem Msk.foldl {n:Nat} {α:Type} {f:List Nat→α→List Nat}:∀ {l:List α} {ms:List Nat},(∀ ms,Msk n ms→∀ a∈l,Msk n (f ms a))→Msk n ms→Msk n (l.foldl f ms)
 | [],ms,_,h=>h
 | a::l,ms,hf,h=>Msk.foldl (l:=l) (fun ms hm x hx=>hf ms hm x (by simp [hx])) (hf ms h a (by simp))
theorem zlr {l:List Int} {x y:Int} (h:y∈zib l x):y∈l∨y=x:=by
 unfold zib at h
 split at h
 ·exact .inl h
 simpa using h
theorem zqo {p:List Txt} {kind line fr:Nat}:∀ n,
  (∀ x∈(zda p kind line fr n).1,∃ j,j<n∧x=if kind=0 then zbv p (fr+j) (line - 1) else zbv p (line - 1) (fr+j)) ∧
  (∀ x∈(zda p kind line fr n).2,∃ j,j<n∧x=if kind=0 then zbv p (fr+j) line else zbv p line (fr+j))
 | 0=>by simp [zda]
 | n+1=>by
  obtain ⟨h1,h2⟩:=zqo (p:=p) (kind:=kind) (line:=line) (fr:=fr) n
  unfold zda
  simp only
  split
  ·rename_i hk
   simp only[hk,if_true]at h1 h2 ⊢
   constructor
   ·intro x hx
    rcases zlr hx with h | h
    ·obtain ⟨j,hj,e⟩:=h1 x h; exact ⟨j,by omega,e⟩
    exact ⟨n,by omega,h⟩
   intro x hx
   rcases zlr hx with h | h
   ·obtain ⟨j,hj,e⟩:=h2 x h; exact ⟨j,by omega,e⟩
   exact ⟨n,by omega,h⟩
  rename_i hk
  simp only[hk,if_false]at h1 h2 ⊢
  constructor
  ·intro x hx
   rcases zlr hx with h | h
   ·obtain ⟨j,hj,e⟩:=h1 x h; exact ⟨j,by omega,e⟩
   exact ⟨n,by omega,h⟩
  intro x hx
  rcases zlr hx with h | h
  ·obtain ⟨j,hj,e⟩:=h2 x h; exact ⟨j,by omega,e⟩
  exact ⟨n,by omega,h⟩
theorem znu {p:List Txt} (hg:zcp p=true) {w:List Int} (hw:zy7 p w) :
  (∀ x∈(zca p w).1,0≤x∧x<zaw p)∧(∀ x∈(zca p w).2,0≤x∧x<zaw p):=by
 obtain ⟨kind,line,fr,long,rfl,h1,h2,h3⟩:=hw
 simp only[zca,Int.toNat_natCast]
 obtain ⟨m1,m2⟩:=zqo (p:=p) (kind:=kind) (line:=line) (fr:=fr) long
 refine ⟨fun x hx=>?_,fun x hx=>?_⟩
 ·obtain ⟨j,hj,rfl⟩:=m1 x hx
  rcases h3 with ⟨rfl,a,b,_⟩ | ⟨rfl,a,b,_⟩
  ·exact zn2 hg (by omega) (by omega)
  exact zn2 hg (by omega) (by omega)
 obtain ⟨j,hj,rfl⟩:=m2 x hx
 rcases h3 with ⟨rfl,a,b,_⟩ | ⟨rfl,a,b,_⟩
 ·exact zn2 hg (by omega) (by omega)
 exact zn2 hg (by omega) (by omega)
theorem Msk.justW {p:List Txt} (hg:zcp p=true) (h9:zaw p≤9) {n:Nat} {ms:List Nat} (h:Msk n ms) {kind:Int} {w:List Int} (hw:zy7 p w):Msk n (justW p kind ms w):=by
 unfold Fw.justW
 split
 ·exact Msk.justA (fun b hb=>by have:=(znu hg hw).2 b hb; omega) h
 exact h
theorem zoc {p:List Txt} (hg:zcp p=true) (h9:zaw p≤9) (kind:Int):Msk (zaw p).toNat (just p kind) :=
 Msk.foldl (fun _ hm _ hw=>hm.justW hg h9 (zuo hg hw)) ⟨by simp,fun m hm=>by rw [(List.mem_replicate.1 hm).2]; omega⟩
theorem zs8 {p:List Txt} (hg:zcp p=true) (h9:zaw p≤9) (kind:Int):Msk (zaw p).toNat (zux p kind) :=
 Msk.foldl (fun _ hm _ _=>Msk.foldl (fun _ hm _ _=>hm.allA) hm) (zoc hg h9 kind)
theorem w_or {a b:Nat} (ha:a<1048576) (hb:b<1048576):IntKind.i64.wrap ((BitVec.ofInt IntKind.i64.bits (a:Int) ||| BitVec.ofInt IntKind.i64.bits (b:Int)).toNat:Int)=((a ||| b:Nat):Int):=by
 have h1:(BitVec.ofInt 64 (a:Int)).toNat=a:=by simp [BitVec.toNat_ofInt]; omega
 have h2:(BitVec.ofInt 64 (b:Int)).toNat=b:=by simp [BitVec.toNat_ofInt]; omega
 have h3:(BitVec.ofInt IntKind.i64.bits (a:Int) ||| BitVec.ofInt IntKind.i64.bits (b:Int)).toNat=a ||| b:=by
  show (BitVec.ofInt 64 (a:Int) ||| BitVec.ofInt 64 (b:Int)).toNat=_
  rw [BitVec.toNat_or,h1,h2]
 have h4:a ||| b<1048576:=Nat.or_lt_two_pow (n:=20) ha hb
 rw [h3]
 exact w64 (by omega) (by omega)
theorem ygi {b:Nat} (hb:b<20):IntKind.i64.wrap (1*2 ^ (min b IntKind.i64.bits))=((2 ^ b:Nat):Int):=by
 have h1:min b IntKind.i64.bits=b:=by simp [IntKind.bits]; omega
 have h2:(2:Nat) ^ b<2 ^ 20:=Nat.pow_lt_pow_right (by omega) hb
 rw [h1,Int.one_mul,show (2:Int) ^ b=((2 ^ b:Nat):Int) by simp]
 generalize (2:Nat) ^ b=x at h2 ⊢
 exact w64 (by omega) (by omega)
theorem z3n {m c:Nat} (hm:m<1048576) (hc:c<64):(IntKind.i64.wrap ((BitVec.ofInt IntKind.i64.bits ((m:Int).fdiv (2 ^ (min c IntKind.i64.bits))) &&& BitVec.ofInt IntKind.i64.bits 1).toNat:Int) == 1)=m.testBit c:=by
 have h1:min c IntKind.i64.bits=c:=by simp [IntKind.bits]; omega
 have h2:(m:Int).fdiv (2 ^ c)=((m / 2 ^ c:Nat):Int):=by
  rw [show (2:Int) ^ c=((2 ^ c:Nat):Int) by simp,Int.fdiv_eq_ediv_of_nonneg _ (Int.natCast_nonneg _)]
  norm_cast
 have h3:m / 2 ^ c≤m:=Nat.div_le_self _ _
 have h4:(BitVec.ofInt 64 ((m / 2 ^ c:Nat):Int)).toNat=m / 2 ^ c:=by
  generalize m / 2 ^ c=x at h3 ⊢
  simp [BitVec.toNat_ofInt]; omega
 have h5:(BitVec.ofInt IntKind.i64.bits ((m / 2 ^ c:Nat):Int) &&& BitVec.ofInt IntKind.i64.bits 1).toNat=(m / 2 ^ c) % 2:=by
  show (BitVec.ofInt 64 ((m / 2 ^ c:Nat):Int) &&& BitVec.ofInt 64 1).toNat=_
  rw [BitVec.toNat_and,h4]
  show m / 2 ^ c &&& 1=_
  exact Nat.and_one_is_mod _
 rw [h1,h2,h5,w64 (by omega) (by omega),Nat.testBit_eq_decide_div_mod_eq]
 by_cases h:m / 2 ^ c % 2=1
 ·simp [h]
 have:m / 2 ^ c % 2=0:=by omega
 simp [this]
abbrev zx7 (l:List Nat):PV := .sl (l.map fun m:Nat=>PV.int .i64 m) l.length
theorem zt3:∀ (n:Nat),repz [PV.int .i64 0] n=(List.replicate n 0).map fun m:Nat=>PV.int .i64 m
 | 0=>rfl
 | n+1=>by rw [zgi,zt3 n,List.replicate_succ]; rfl
theorem z80 {S:Store} {im:Bool} {k:Nat} (l:List Nat):(l.map fun m:Nat=>PV.int .i64 m).mapM (reify S im (k+1))=some (l.map fun m:Nat=>PV.int .i64 m) :=
 za5 fun x hx=>by obtain ⟨a,_,rfl⟩:=List.mem_map.1 hx; rfl
theorem ye7 {S:Store} {im:Bool} {k:Nat} (l:List Nat):(l.map fun m:Nat=>PV.int .i64 m).mapM (sh S im (k+1))=some (l.map fun m:Nat=>PV.int .i64 m) :=
 za5 fun x hx=>by obtain ⟨a,_,rfl⟩:=List.mem_map.1 hx; rfl
theorem zuf {S:Store} {im:Bool} {k:Nat} {q:IntKind} (l:List Int):(l.map (PV.int q)).mapM (sh S im (k+1))=some (l.map (PV.int q)) :=
 za5 fun x hx=>by obtain ⟨a,_,rfl⟩:=List.mem_map.1 hx; rfl
theorem ydd {S:Store} {im:Bool} {k:Nat} (l:List (List UInt8)):(l.map PV.str).mapM (sh S im (k+1))=some (l.map PV.str) :=
 za5 fun x hx=>by obtain ⟨a,_,rfl⟩:=List.mem_map.1 hx; rfl
theorem zxc {S:Store} {im:Bool} {v et n:Nat} {cells:List PV} {R:List Ob} (hS:S.obs = .arr v et 1 cells::R) (hc:cells.mapM (sh (S.take 1) im 10)=some cells) :
  ∃ k,sh (S.take k) im 10 (.loc 0 v 0 n)=some (.loc 0 0 0 n)∧zhm (S.take k) im (S.take k).obs=some [.arr 0 et 1 cells]:=by
 refine ⟨1,?_,?_⟩
 ·simp [sh,Store.take,hS]
 have e:(S.take 1).obs=[.arr v et 1 cells]:=by simp [Store.take,hS]
 rw [e]
 simp [zhm,z1f,hc]
theorem zek {α β:Type} {f:β→α→β} {z:β} {l:List α} {i:Nat} {a:α} (h:l[i]?=some a):(l.take (i+1)).foldl f z=f ((l.take i).foldl f z) a:=by
 simp [tk h,List.foldl_append]
theorem Msk.at_ {n:Nat} {ms:List Nat} (h:Msk n ms) {a:Nat} (ha:a<n):∃ m,ms[a]?=some m∧m<512:=by
 obtain ⟨m,hm,h2⟩:=zad (show a<ms.length by rw [h.1]; exact ha)
 exact ⟨m,hm,h.2 m h2⟩
theorem zdg {a b:Int} (h:a≤b):(a≤b)=True:=eq_true h
theorem z6j {b:Nat} (h:b<9):2 ^ b<512:=Nat.pow_lt_pow_right (a:=2) (n:=9) (by omega) h
theorem pShl {k:IntKind} {a:Int} {b:Nat}:znr .shl k a (b:Int)=some (.int k (k.wrap (a*2 ^ (min b k.bits)))):=by
 simp [znr,show ¬ ((b:Int)<0) by omega]
theorem ydy {k:IntKind} {a:Int} {b:Nat}:znr .shr k a (b:Int)=some (.int k (a.fdiv (2 ^ (min b k.bits)))):=by
 simp [znr,show ¬ ((b:Int)<0) by omega]
theorem z3b {p:List Txt} (hg:zcp p=true) {w:List Int} (hw:zy7 p w):(zca p w).1.length≤6∧(zca p w).2.length≤6:=by
 have hsm:=zck hg
 obtain ⟨row0,hrow0,hrm0⟩:=zad hsm.1
 have hhd:=zcm hrow0
 have hw6:=hsm.2.2 row0 hrm0
 obtain ⟨kind,line,fr,long,rfl,h1,h2,h3⟩:=hw
 have h4:=zko (p:=p) (kind:=kind) (line:=line) (fr:=fr) long
 simp only[zca,Int.toNat_natCast]
 rw [hhd]at h3
 omega
theorem z0d {ms:List Nat} {a b m:Nat} (h:ms[a]?=some m):orBit ms a b=ms.set a (m ||| 2 ^ b):=by simp [orBit,h]
theorem zbe {α:Type} {f:α→PV} {l:List α} {a:Nat} {v:PV} (h:a<l.length):(l.map f).take a++[v]++(l.map f).drop (a+1)=(l.map f).set a v:=by
 rw [List.set_eq_take_append_cons_drop,if_pos (by simpa using h)]; simp
theorem z7f {l:List Nat} {a m:Nat}:(l.map fun m:Nat=>PV.int .i64 m).set a (.int .i64 (m:Int))=(l.set a m).map fun m:Nat=>PV.int .i64 m:=by
 rw [List.map_set]
theorem zc9 {l:List Int} {q:IntKind} {a:Nat} {m:Int}:(l.map (PV.int q)).set a (.int q m)=(l.set a m).map (PV.int q):=by
 rw [List.map_set]
theorem zb1 {β:Type} {f:β→Nat→β} {z:β} {i:Nat}:(List.range (i+1)).foldl f z=f ((List.range i).foldl f z) i:=by
 simp [qS,List.foldl_append]
theorem zy9 {ms:List Nat} {c a m k:Nat} (h:ms[a]?=some m) (hc:ms[c]?=some k) (hb:m.testBit c=true):allA c ms a=ms.set a (m ||| k):=by simp [allA,h,hc,hb]
theorem z30 {ms:List Nat} {c a m:Nat} (h:ms[a]?=some m) (hb:m.testBit c=false):allA c ms a=ms:=by simp [allA,h,hb]
theorem z2d {p:List Txt} (hs:Sm p) (hg:zcp p=true):PC Tryz.prog 184 [zal p] (.sl ((walls p).map eInts) (walls p).length) false:=by
 have hp:=hs.rows
 have hsm:=zck hg
 obtain ⟨row0,hrow0,hrm0⟩:=zad hsm.1
 have hhd:=zcm hrow0
 have hw6:=hsm.2.2 row0 hrm0
 have hw1:=zg2 hg hrow0
 have hwl:=zxq hg
 simp only[walls,List.length_append,List.length_map]at hwl
 refine PC.of ⟨Tryz.func184,by kernel_rfl,rfl,by kernel_rfl⟩ zam mixed (by show 1≤Tryz.f184.ntmps; decide) ?_
 refine W.r fun K hK=>?_
 simp(disch:=omega)only[↓RU,RV,RH,↓reduceIte,qE,reduceCtorEq,if_pos,↓RS,RG,qA,qM,qL]
 apply hK;clear hK K
 refine W.r fun K hK=>?_
 simp(disch:=omega)only[↓RU,RV,RH,↓reduceIte,qE,reduceCtorEq,if_pos,↓RS,RG,qA,qM,qL,ty1,zab,zaa]
 apply hK;clear hK K
 refine W.r fun K hK=>?_
 simp(disch:=omega)only[↓RU,RV,RH,↓reduceIte,qE,reduceCtorEq,if_pos,qN,↓RS,RG,qA,qM,qL]
 refine zaf.pc (znk hs hg) rfl (.inr rfl) ?_
 simp(disch:=omega)only[↓RU,RV,RH,↓reduceIte,qE,reduceCtorEq,if_pos,qN,↓RS,RG,qA,qM,qL]
 apply hK;clear hK K
 refine W.seq ?_
 refine W.r fun K hK=>?_
 simp(disch:=omega)only[↓RU,RV,RH,↓reduceIte,qE,reduceCtorEq,if_pos,↓RS,RG,qA,qM,qL]
 apply hK;clear hK K
 refine W.block ?_
 refine W.loopZ [0,3,4,5] (fun n vs S=>∃ i v0 tk:Nat,n=(uprights p).length - i∧i≤(uprights p).length∧vs=[zal p,.loc 0 v0 0 (zgx p i).length,.sl ((uprights p).map eInts) (uprights p).length,.int .i64 i]∧S=⟨[.arr v0 34 1 ((zgx p i).map eInts)],tk⟩) ((uprights p).length) ?_ ?_
 ·refine ⟨1,[zal p,.loc 0 0 0 (zgx p 0).length,.sl ((uprights p).map eInts) (uprights p).length,.int .i64 0],⟨[.arr 0 34 1 ((zgx p 0).map eInts)],1⟩,?_,?_,0,0,1,rfl,by omega,rfl,rfl⟩
  ·rfl
  rfl
 rintro n vs S - ⟨i,v0,tk,rfl,h_i,rfl,rfl⟩
 refine W.seq ?_
 refine W.r fun K hK=>?_
 simp(disch:=omega)only[↓RU,RV,RH,↓reduceIte,qE,reduceCtorEq,if_pos,w64,↓RS,RG,qA,qM,qL,ty1,zab,zaa]
 apply hK;clear hK K
 refine W.cond rfl (fun h=>?_) (fun h=>?_)
 ·try simp only[RL]at h
  obtain ⟨u,hu,hum⟩:=zad (show i<(uprights p).length by omega)
  have hu3:=zxp hum
  have htl:=zsz h_i
  refine W.skip ?_
  refine xn ?_
  refine W.seq ?_
  refine W.block ?_
  refine W.k fun K hK=>?_
  simp(disch:=omega)only[↓RU,RV,RH,↓reduceIte,qE,reduceCtorEq,if_pos,↓RS,RG,qA,qM,qL,ty1,zab,zaa,hu,htl,hu3]
  apply hK;clear hK K
  refine XbN ?_
  refine xn ?_
  refine W.k fun K hK=>?_
  simp(disch:=omega)only[↓RU,RV,RH,↓reduceIte,qE,reduceCtorEq,if_pos,w64,↓RS,RG,qA,qM,qL,zaa]
  apply hK;clear hK K
  refine xn ?_
  refine ⟨(uprights p).length - (i+1),by omega,1,[zal p,.loc 0 (tk+3) 0 (zgx p (i+1)).length,.sl ((uprights p).map eInts) (uprights p).length,.int .i64 (i+1)],⟨[.arr (tk+3) 34 1 ((zgx p (i+1)).map eInts)],(tk+4)⟩,?_,?_,(i+1),tk+3,tk+4,rfl,by omega,rfl,rfl⟩
  ·simp [-qU,Store.frz,zdh,zd2,zbr,zc0,zcu,zc5,zeo,zcf,zb3,zcg,zbq,zbt,zc8,zch,zc6,zce,Env.put,Env.of,zae,zc7,qP,qC,hu3,zl9,zqt hu,htl]
  simp [-qU,Store.frz,zdh,zd2,zbr,zc0,zcu,zc5,zeo,zcf,zb3,zcg,zbq,zbt,zc8,zch,zc6,zce,Env.put,Env.of,zae,zc7,qP,qC,hu3,zl9,zqt hu,htl]
 try simp only[RL]at h
 obtain rfl:i=(uprights p).length:=by omega
 refine W.exit ?_
 refine xe ?_
 refine xe ?_
 refine XBlock.hit ?_
 refine xn ?_
 refine W.r fun K hK=>?_
 simp(disch:=omega)only[↓RU,RV,RH,↓reduceIte,qE,reduceCtorEq,if_pos,qN,↓RS,RG,qA,qM,qL]
 refine zaf.pc (z2a hs hg) rfl (.inl rfl) ?_
 simp(disch:=omega)only[↓RU,RV,RH,↓reduceIte,qE,reduceCtorEq,if_pos,qN,↓RS,RG,qA,qM,qL]
 refine zaf.pc (znk (Sm.grid (zsw hg)) (zsw hg)) rfl (.inr rfl) ?_
 simp(disch:=omega)only[↓RU,RV,RH,↓reduceIte,qE,reduceCtorEq,if_pos,qN,↓RS,RG,qA,qM,qL]
 apply hK;clear hK K
 refine W.seq ?_
 refine W.r fun K hK=>?_
 simp(disch:=omega)only[↓RU,RV,RH,↓reduceIte,qE,reduceCtorEq,if_pos,↓RS,RG,qA,qM,qL]
 apply hK;clear hK K
 refine W.block ?_
 refine W.loopZ [0,3,6,7] (fun n vs S=>∃ j v0 tk:Nat,n=(uprights (zcv p)).length - j∧j≤(uprights (zcv p)).length∧vs=[zal p,.loc 0 v0 0 (zgo p j).length,.sl ((uprights (zcv p)).map eInts) (uprights (zcv p)).length,.int .i64 j]∧S=⟨[.arr v0 34 1 ((zgo p j).map eInts)],tk⟩) ((uprights (zcv p)).length) ?_ ?_
 ·refine ⟨1,[zal p,.loc 0 v0 0 (zgo p 0).length,.sl ((uprights (zcv p)).map eInts) (uprights (zcv p)).length,.int .i64 0],⟨[.arr v0 34 1 ((zgo p 0).map eInts)],tk⟩,?_,?_,0,v0,tk,rfl,by omega,rfl,rfl⟩
  ·simp [-qU,Store.frz,zdh,zd2,zbr,zc0,zcu,zc5,zeo,zcf,zb3,zcg,zbq,zbt,zc8,zch,zc6,zce,Env.put,Env.of,zae,zc7,qP,qC] <;> simp [zqv]
  simp [-qU,Store.frz,zdh,zd2,zbr,zc0,zcu,zc5,zeo,zcf,zb3,zcg,zbq,zbt,zc8,zch,zc6,zce,Env.put,Env.of,zae,zc7,qP,qC] <;> simp [zqv]
 rintro n vs S - ⟨j,v0,tk,rfl,h_j,rfl,rfl⟩
 refine W.seq ?_
 refine W.r fun K hK=>?_
 simp(disch:=omega)only[↓RU,RV,RH,↓reduceIte,qE,reduceCtorEq,if_pos,w64,↓RS,RG,qA,qM,qL,ty1,zab,zaa]
 apply hK;clear hK K
 refine W.cond rfl (fun h2=>?_) (fun h2=>?_)
 ·try simp only[RL]at h2
  obtain ⟨u,hu,hum⟩:=zad (show j<(uprights (zcv p)).length by omega)
  have hu3:=zxp hum
  have htl:=z3q h_j
  refine W.skip ?_
  refine xn ?_
  refine W.seq ?_
  refine W.block ?_
  refine W.k fun K hK=>?_
  simp(disch:=omega)only[↓RU,RV,RH,↓reduceIte,qE,reduceCtorEq,if_pos,↓RS,RG,qA,qM,qL,ty1,zab,zaa,hu,htl,hu3]
  apply hK;clear hK K
  refine XbN ?_
  refine xn ?_
  refine W.k fun K hK=>?_
  simp(disch:=omega)only[↓RU,RV,RH,↓reduceIte,qE,reduceCtorEq,if_pos,w64,↓RS,RG,qA,qM,qL,zaa]
  apply hK;clear hK K
  refine xn ?_
  refine ⟨(uprights (zcv p)).length - (j+1),by omega,1,[zal p,.loc 0 (tk+3) 0 (zgo p (j+1)).length,.sl ((uprights (zcv p)).map eInts) (uprights (zcv p)).length,.int .i64 (j+1)],⟨[.arr (tk+3) 34 1 ((zgo p (j+1)).map eInts)],(tk+4)⟩,?_,?_,(j+1),tk+3,tk+4,rfl,by omega,rfl,rfl⟩
  ·simp [-qU,Store.frz,zdh,zd2,zbr,zc0,zcu,zc5,zeo,zcf,zb3,zcg,zbq,zbt,zc8,zch,zc6,zce,Env.put,Env.of,zae,zc7,qP,qC,hu3,zl9,zqu hu,htl]
  simp [-qU,Store.frz,zdh,zd2,zbr,zc0,zcu,zc5,zeo,zcf,zb3,zcg,zbq,zbt,zc8,zch,zc6,zce,Env.put,Env.of,zae,zc7,qP,qC,hu3,zl9,zqu hu,htl]
 try simp only[RL]at h2
 obtain rfl:j=(uprights (zcv p)).length:=by omega
 refine W.exit ?_
 refine xe ?_
 refine xe ?_
 refine XBlock.hit ?_
 refine xn ?_
 refine W.r fun K hK=>?_
 simp(disch:=omega)only[↓RU,RV,RH,↓reduceIte,qE,reduceCtorEq,if_pos,↓RS,RG,qA,qM,qL]
 apply hK;clear hK K
 refine W.ret ?_
 refine Br rfl ?_
 rw [z3p]
 exact zbh (k:=9) rfl (by simp) (zmp _)
theorem z5i {p:List Txt} (hs:Sm p) (hg:zcp p=true) (h9:zaw p≤9) (kind:Int):PN Tryz.prog 164 [zal p,.int .i64 kind] (.loc 0 0 0 (just p kind).length) [.arr 0 3 1 ((just p kind).map fun m:Nat=>PV.int .i64 m)] false:=by
 have hrb:=zf8 p
 have hwl:=zxq hg
 obtain ⟨R,hR⟩:∃ R:Nat,zaw p=R:=⟨(zaw p).toNat,by omega⟩
 refine PN.of ⟨Tryz.func164,by kernel_rfl,rfl,by kernel_rfl⟩ zam mixed (by show 2≤Tryz.f164.ntmps; decide) ?_
 refine W.r fun K hK=>?_
 simp(disch:=omega)only[↓RU,RV,RH,↓reduceIte,qE,reduceCtorEq,if_pos,↓RS,RG,qA,qM,qL]
 apply hK;clear hK K
 refine W.r fun K hK=>?_
 simp(disch:=omega)only[↓RU,RV,RH,↓reduceIte,qE,reduceCtorEq,if_pos,qN,↓RS,RG,qA,qM,qL,zab,zaa,hR,zt3,zdg]
 refine zaf.pc (zmo hs) rfl (.inl rfl) ?_
 simp(disch:=omega)only[↓RU,RV,RH,↓reduceIte,qE,reduceCtorEq,if_pos,qN,↓RS,RG,qA,qM,qL,zab,zaa,hR,zt3,zdg]
 apply hK;clear hK K
 refine W.r fun K hK=>?_
 simp(disch:=omega)only[↓RU,RV,RH,↓reduceIte,qE,reduceCtorEq,if_pos,qN,↓RS,RG,qA,qM,qL]
 refine zaf.pc (z2d hs hg) rfl (.inr rfl) ?_
 simp(disch:=omega)only[↓RU,RV,RH,↓reduceIte,qE,reduceCtorEq,if_pos,qN,↓RS,RG,qA,qM,qL]
 apply hK;clear hK K
 refine W.seq ?_
 refine W.r fun K hK=>?_
 simp(disch:=omega)only[↓RU,RV,RH,↓reduceIte,qE,reduceCtorEq,if_pos,↓RS,RG,qA,qM,qL]
 apply hK;clear hK K
 refine W.block ?_
 refine W.loop [0,1,5,6,7] (fun n vs S=>∃ i:Nat,n=(walls p).length - i∧i≤(walls p).length∧vs=[zal p,.int .i64 kind,.loc 0 0 0 (zaw p).toNat,.sl ((walls p).map eInts) (walls p).length,.int .i64 i]∧S=⟨[.arr 0 3 1 ((((walls p).take i).foldl (justW p kind) (List.replicate (zaw p).toNat 0)).map fun m:Nat=>PV.int .i64 m)],1⟩) ((walls p).length) ?_ ?_
 ·refine ⟨1,0,rfl,Nat.zero_le _,?_,by simp [hR,zaq,Env.put,Env.of,zae]⟩
  simp [Env.put,Env.of,zae,hR]
 rintro n vs S - ⟨i,rfl,h_i,rfl,rfl⟩
 refine W.seq ?_
 refine W.r fun K hK=>?_
 simp(disch:=omega)only[↓RU,RV,RH,↓reduceIte,qE,reduceCtorEq,if_pos,w64,↓RS,RG,qA,qM,qL,ty1,zab,zaa]
 apply hK;clear hK K
 refine W.cond rfl (fun h=>?_) (fun h=>?_)
 ·try simp only[RL]at h
  obtain ⟨w,hw,hwm⟩:=zad (show i<(walls p).length by omega)
  have hok:=zuo hg hwm
  have hsr:=znu hg hok
  have hsl:=z3b hg hok
  obtain ⟨wk,wl,wf,wg,hwe,hw1,hw2,hw3⟩:=hok
  have hM:Msk (zaw p).toNat (((walls p).take i).foldl (justW p kind) (List.replicate (zaw p).toNat 0)):=Msk.foldl (fun _ hm _ hw=>hm.justW hg h9 (zuo hg (List.mem_of_mem_take hw))) ⟨by simp,fun m hm=>by rw [(List.mem_replicate.1 hm).2]; omega⟩
  generalize hMe:((walls p).take i).foldl (justW p kind) (List.replicate (zaw p).toNat 0)=M at hM
  refine W.skip ?_
  refine xn ?_
  refine W.seq ?_
  refine W.block ?_
  refine W.seq ?_
  refine W.r fun K hK=>?_
  simp(disch:=omega)only[↓RU,RV,RH,↓reduceIte,qE,reduceCtorEq,if_pos,w64,↓RS,RG,qA,qM,qL,ty1,zab,zaa,hw,hwe,hMe]
  apply hK;clear hK K
  refine W.cond rfl (fun h1=>?_) (fun h1=>?_)
  ·try simp only[RL]at h1
   have hjs:justW p kind M w=M:=by simp [justW,hwe,h1]
   refine W.exit ?_
   refine xe ?_
   refine XBlock.hit ?_
   refine xn ?_
   refine W.k fun K hK=>?_
   simp(disch:=omega)only[↓RU,RV,RH,↓reduceIte,qE,reduceCtorEq,if_pos,w64,↓RS,RG,qA,qM,qL,zaa]
   apply hK;clear hK K
   refine xn ?_
   refine ⟨(walls p).length - (i+1),by omega,1,i+1,rfl,by omega,?_,?_⟩
   ·simp [Env.put,Env.of]
   simp only[zaq,zek hw,hMe,hjs]; rfl
  try simp only[RL]at h1
  have hjs:justW p kind M w=justA (zca p w).2 M (zca p w).1:=by simp [justW,hwe,h1]
  refine W.skip ?_
  refine xn ?_
  refine W.r fun K hK=>?_
  simp(disch:=omega)only[↓RU,RV,RH,↓reduceIte,qE,reduceCtorEq,if_pos,qN,↓RS,RG,qA,qM,qL,ty1,zab,zaa,hw,hwe]
  refine zaf.pc (z2c hs hg (kind:=wk) (line:=wl) (fr:=wf) (long:=wg) hw1 (fun h=>by omega) (fun h=>by omega)) rfl (.inl rfl) ?_
  simp(disch:=omega)only[↓RU,RV,RH,↓reduceIte,qE,reduceCtorEq,if_pos,qN,↓RS,RG,qA,qM,qL,ty1,zab,zaa,hw,hwe]
  apply hK;clear hK K
  have hA:zda p wk wl wf wg=zca p w:=by simp [zca,hwe]
  rw [hA]
  refine W.r fun K hK=>?_
  simp(disch:=omega)only[↓RU,RV,RH,↓reduceIte,qE,reduceCtorEq,if_pos,↓RS,RG,qA,qM,qL]
  apply hK;clear hK K
  refine W.block ?_
  refine W.loop [0,1,5,6,7,8,9,10] (fun n vs S=>∃ x:Nat,n=(zca p w).1.length - x∧x≤(zca p w).1.length∧vs=[zal p,.int .i64 kind,.loc 0 0 0 (zaw p).toNat,.sl ((walls p).map eInts) (walls p).length,.int .i64 i,eInts (zca p w).1,eInts (zca p w).2,.int .i64 x]∧S=⟨[.arr 0 3 1 ((((zca p w).1.take x).foldl (fun ms a=>justB a.toNat ms (zca p w).2) M).map fun m:Nat=>PV.int .i64 m)],1⟩) ((zca p w).1.length) ?_ ?_
  ·refine ⟨1,0,rfl,Nat.zero_le _,?_,by simp [zaq]⟩
   simp [Env.put,Env.of]
  rintro n vs S - ⟨x,rfl,h_x,rfl,rfl⟩
  refine W.seq ?_
  refine W.r fun K hK=>?_
  simp(disch:=omega)only[↓RU,RV,RH,↓reduceIte,qE,reduceCtorEq,if_pos,w64,↓RS,RG,qA,qM,qL,zab,zaa]
  apply hK;clear hK K
  refine W.cond rfl (fun h2=>?_) (fun h2=>?_)
  ·try simp only[RL]at h2
   obtain ⟨a,ha,ham⟩:=zad (show x<(zca p w).1.length by omega)
   have hab:=hsr.1 a ham
   obtain ⟨a,rfl⟩:∃ a2:Nat,a=a2:=⟨a.toNat,by omega⟩
   have hX:Msk (zaw p).toNat (((zca p w).1.take x).foldl (fun ms a=>justB a.toNat ms (zca p w).2) M):=Msk.foldl (fun _ hm _ _=>hm.justB fun b hb=>by have:=hsr.2 b hb; omega) hM
   generalize hXe:((zca p w).1.take x).foldl (fun ms a=>justB a.toNat ms (zca p w).2) M=X at hX
   refine W.skip ?_
   refine xn ?_
   refine W.seq ?_
   refine W.block ?_
   refine W.r fun K hK=>?_
   simp(disch:=omega)only[↓RU,RV,RH,↓reduceIte,qE,reduceCtorEq,if_pos,↓RS,RG,qA,qM,qL]
   apply hK;clear hK K
   refine W.block ?_
   refine W.loop [0,1,5,6,7,8,9,10,11] (fun n vs S=>∃ y:Nat,n=(zca p w).2.length - y∧y≤(zca p w).2.length∧vs=[zal p,.int .i64 kind,.loc 0 0 0 (zaw p).toNat,.sl ((walls p).map eInts) (walls p).length,.int .i64 i,eInts (zca p w).1,eInts (zca p w).2,.int .i64 x,.int .i64 y]∧S=⟨[.arr 0 3 1 ((((zca p w).2.take y).foldl (fun ms b=>orBit ms a b.toNat) X).map fun m:Nat=>PV.int .i64 m)],1⟩) ((zca p w).2.length) ?_ ?_
   ·refine ⟨1,0,rfl,Nat.zero_le _,?_,by simp [zaq,hXe]⟩
    simp [Env.put,Env.of]
   rintro n vs S - ⟨y,rfl,h_y,rfl,rfl⟩
   refine W.seq ?_
   refine W.r fun K hK=>?_
   simp(disch:=omega)only[↓RU,RV,RH,↓reduceIte,qE,reduceCtorEq,if_pos,w64,↓RS,RG,qA,qM,qL,zab,zaa]
   apply hK;clear hK K
   refine W.cond rfl (fun h3=>?_) (fun h3=>?_)
   ·try simp only[RL]at h3
    obtain ⟨b,hb,hbm⟩:=zad (show y<(zca p w).2.length by omega)
    have hbb:=hsr.2 b hbm
    obtain ⟨b,rfl⟩:∃ b2:Nat,b=b2:=⟨b.toNat,by omega⟩
    have hY:Msk (zaw p).toNat (((zca p w).2.take y).foldl (fun ms b=>orBit ms a b.toNat) X):=Msk.foldl (fun _ hm b hb=>hm.orBit (by have:=hsr.2 b (List.mem_of_mem_take hb); omega)) hX
    generalize hYe:((zca p w).2.take y).foldl (fun ms b=>orBit ms a b.toNat) X=Y at hY
    obtain ⟨m,hm,hm5⟩:=hY.at_ (show a<(zaw p).toNat by omega)
    have hYl:=hY.1
    have hp2:=z6j (show b<9 by omega)
    refine W.skip ?_
    refine xn ?_
    refine W.seq ?_
    refine W.block ?_
    refine W.draw_k (by kernel_rfl) fun K hK=>?_
    simp(disch:=omega)only[↓RU,RV,RH,↓reduceIte,qE,reduceCtorEq,if_pos,w64,↓RS,RG,qA,qM,qL,zab,zaa,ha,hb,hm,pShl,ygi,w_or,hYl,zbe,z7f]
    apply hK;clear hK K
    refine XbN ?_
    refine xn ?_
    refine W.k fun K hK=>?_
    simp(disch:=omega)only[↓RU,RV,RH,↓reduceIte,qE,reduceCtorEq,if_pos,w64,↓RS,RG,qA,qM,qL,zaa]
    apply hK;clear hK K
    refine xn ?_
    refine ⟨(zca p w).2.length - (y+1),by omega,1,y+1,rfl,by omega,?_,?_⟩
    ·simp [Env.put,Env.of]
    simp only[zaq,zek hb,hYe,Int.toNat_natCast,z0d hm]; rfl
   try simp only[RL]at h3
   obtain rfl:y=(zca p w).2.length:=by omega
   rw [List.take_length]
   refine W.exit ?_
   refine xe ?_
   refine xe ?_
   refine XBlock.hit ?_
   refine XbN ?_
   refine xn ?_
   refine W.k fun K hK=>?_
   simp(disch:=omega)only[↓RU,RV,RH,↓reduceIte,qE,reduceCtorEq,if_pos,w64,↓RS,RG,qA,qM,qL,zaa]
   apply hK;clear hK K
   refine xn ?_
   refine ⟨(zca p w).1.length - (x+1),by omega,1,x+1,rfl,by omega,?_,?_⟩
   ·simp [Env.put,Env.of]
   simp only[zaq,zek ha,hXe,Int.toNat_natCast]; rfl
  try simp only[RL]at h2
  obtain rfl:x=(zca p w).1.length:=by omega
  rw [List.take_length]
  refine W.exit ?_
  refine xe ?_
  refine xe ?_
  refine XBlock.hit ?_
  refine XbN ?_
  refine xn ?_
  refine W.k fun K hK=>?_
  simp(disch:=omega)only[↓RU,RV,RH,↓reduceIte,qE,reduceCtorEq,if_pos,w64,↓RS,RG,qA,qM,qL,zaa]
  apply hK;clear hK K
  refine xn ?_
  refine ⟨(walls p).length - (i+1),by omega,1,i+1,rfl,by omega,?_,?_⟩
  ·simp [Env.put,Env.of]
  simp only[zaq,zek hw,hMe,hjs]; rfl
 try simp only[RL]at h
 obtain rfl:i=(walls p).length:=by omega
 rw [List.take_length]
 refine W.exit ?_
 refine xe ?_
 refine xe ?_
 refine XBlock.hit ?_
 refine xn ?_
 refine W.r fun K hK=>?_
 simp(disch:=omega)only[↓RU,RV,RH,↓reduceIte,qE,reduceCtorEq,if_pos,↓RS,RG,qA,qM,qL]
 apply hK;clear hK K
 refine W.ret ?_
 refine Br rfl ?_
 have hjl:=(zoc hg h9 kind).1
 rw [just]at hjl ⊢
 rw [hjl]
 exact zxc rfl (ye7 _)
theorem zz5 {p:List Txt} (hs:Sm p) (hg:zcp p=true) (h9:zaw p≤9) (kind:Int):PC Tryz.prog 136 [zal p,.int .i64 kind] (zx7 (zux p kind)) true:=by
 have hrb:=zf8 p
 have hJ:=zoc hg h9 kind
 obtain ⟨nr,hn⟩:∃ nr:Nat,(just p kind).length=nr:=⟨_,rfl⟩
 have hn9:nr≤9:=by have:=hJ.1; omega
 rw [← hJ.1,hn]at hJ
 refine PC.of ⟨Tryz.func136,by kernel_rfl,rfl,by kernel_rfl⟩ zam mixed (by show 2≤Tryz.f136.ntmps; decide) ?_
 refine W.r fun K hK=>?_
 simp(disch:=omega)only[↓RU,RV,RH,↓reduceIte,qE,reduceCtorEq,if_pos,↓RS,RG,qA,qM,qL]
 apply hK;clear hK K
 refine W.r fun K hK=>?_
 simp(disch:=omega)only[↓RU,RV,RH,↓reduceIte,qE,reduceCtorEq,if_pos,qN,↓RS,RG,qA,qM,qL]
 refine zaf.pn (z5i hs hg h9 kind) rfl (.inl rfl) ?_
 simp(disch:=omega)only[↓RU,RV,RH,↓reduceIte,qE,reduceCtorEq,if_pos,qN,↓RS,RG,qA,qM,qL,RN]
 apply hK;clear hK K
 refine W.seq ?_
 refine W.r fun K hK=>?_
 simp(disch:=omega)only[↓RU,RV,RH,↓reduceIte,qE,reduceCtorEq,if_pos,↓RS,RG,qA,qM,qL]
 apply hK;clear hK K
 refine W.block ?_
 refine W.loop [0,1,5,6] (fun n vs S=>∃ c:Nat,n=nr - c∧c≤nr∧vs=[zal p,.int .i64 kind,.loc 0 0 0 nr,.int .i64 c]∧S=⟨[.arr 0 3 1 (((List.range c).foldl (yd4 nr) (just p kind)).map fun m:Nat=>PV.int .i64 m)],1⟩) (nr) ?_ ?_
 ·refine ⟨1,0,rfl,Nat.zero_le _,?_,by simp [zaq,Env.put,Env.of,zae,z3l,zy2]⟩
  simp [Env.put,Env.of,zae,hn]
 rintro n vs S - ⟨c,rfl,h_c,rfl,rfl⟩
 refine W.seq ?_
 refine W.r fun K hK=>?_
 simp(disch:=omega)only[↓RU,RV,RH,↓reduceIte,qE,reduceCtorEq,if_pos,w64,↓RS,RG,qA,qM,qL,zab,zaa]
 apply hK;clear hK K
 refine W.cond rfl (fun h=>?_) (fun h=>?_)
 ·try simp only[RL]at h
  have hX:Msk nr ((List.range c).foldl (yd4 nr) (just p kind)):=Msk.foldl (fun _ hm _ _=>Msk.foldl (fun _ hm _ _=>hm.allA) hm) hJ
  generalize hXe:(List.range c).foldl (yd4 nr) (just p kind)=X at hX
  refine W.skip ?_
  refine xn ?_
  refine W.seq ?_
  refine W.block ?_
  refine W.r fun K hK=>?_
  simp(disch:=omega)only[↓RU,RV,RH,↓reduceIte,qE,reduceCtorEq,if_pos,↓RS,RG,qA,qM,qL]
  apply hK;clear hK K
  refine W.block ?_
  refine W.loop [0,1,5,6,7] (fun n vs S=>∃ a:Nat,n=nr - a∧a≤nr∧vs=[zal p,.int .i64 kind,.loc 0 0 0 nr,.int .i64 c,.int .i64 a]∧S=⟨[.arr 0 3 1 (((List.range a).foldl (allA c) X).map fun m:Nat=>PV.int .i64 m)],1⟩) (nr) ?_ ?_
  ·refine ⟨1,0,rfl,Nat.zero_le _,?_,by simp [zaq,hXe]⟩
   simp [Env.put,Env.of]
  rintro n vs S - ⟨a,rfl,h_a,rfl,rfl⟩
  refine W.seq ?_
  refine W.r fun K hK=>?_
  simp(disch:=omega)only[↓RU,RV,RH,↓reduceIte,qE,reduceCtorEq,if_pos,w64,↓RS,RG,qA,qM,qL,zab,zaa]
  apply hK;clear hK K
  refine W.cond rfl (fun h1=>?_) (fun h1=>?_)
  ·try simp only[RL]at h1
   have hY:Msk nr ((List.range a).foldl (allA c) X):=Msk.foldl (fun _ hm _ _=>hm.allA) hX
   generalize hYe:(List.range a).foldl (allA c) X=Y at hY
   obtain ⟨m,hm,hm5⟩:=hY.at_ (show a<nr by omega)
   obtain ⟨k,hk,hk5⟩:=hY.at_ (show c<nr by omega)
   have hYl:=hY.1
   refine W.skip ?_
   refine xn ?_
   refine W.seq ?_
   refine W.block ?_
   refine W.r fun K hK=>?_
   simp(disch:=omega)only[↓RU,RV,RH,↓reduceIte,qE,reduceCtorEq,if_pos,w64,↓RS,RG,qA,qM,qL,zab,zaa,hYe,hm,ydy,z3n]
   apply hK;clear hK K
   refine W.cond rfl (fun h2=>?_) (fun h2=>?_)
   ·try simp only[RL]at h2
    refine W.draw_k (by kernel_rfl) fun K hK=>?_
    simp(disch:=omega)only[↓RU,RV,RH,↓reduceIte,qE,reduceCtorEq,if_pos,w64,↓RS,RG,qA,qM,qL,zab,zaa,hm,hk,w_or,zbe,z7f,hYl]
    apply hK;clear hK K
    refine XbN ?_
    refine xn ?_
    refine W.k fun K hK=>?_
    simp(disch:=omega)only[↓RU,RV,RH,↓reduceIte,qE,reduceCtorEq,if_pos,w64,↓RS,RG,qA,qM,qL,zaa]
    apply hK;clear hK K
    refine xn ?_
    refine ⟨nr - (a+1),by omega,1,a+1,rfl,by omega,?_,?_⟩
    ·simp [Env.put,Env.of]
    simp only[zaq,zb1,hYe,zy9 hm hk h2]; rfl
   try simp only[RL]at h2
   refine W.skip ?_
   refine XbN ?_
   refine xn ?_
   refine W.k fun K hK=>?_
   simp(disch:=omega)only[↓RU,RV,RH,↓reduceIte,qE,reduceCtorEq,if_pos,w64,↓RS,RG,qA,qM,qL,zaa]
   apply hK;clear hK K
   refine xn ?_
   refine ⟨nr - (a+1),by omega,1,a+1,rfl,by omega,?_,?_⟩
   ·simp [Env.put,Env.of]
   simp only[zaq,zb1,hYe,z30 hm h2]; rfl
  try simp only[RL]at h1
  obtain rfl:a=nr:=by omega
  refine W.exit ?_
  refine xe ?_
  refine xe ?_
  refine XBlock.hit ?_
  refine XbN ?_
  refine xn ?_
  refine W.k fun K hK=>?_
  simp(disch:=omega)only[↓RU,RV,RH,↓reduceIte,qE,reduceCtorEq,if_pos,w64,↓RS,RG,qA,qM,qL,zaa]
  apply hK;clear hK K
  refine xn ?_
  refine ⟨a - (c+1),by omega,1,c+1,rfl,by omega,?_,?_⟩
  ·simp [Env.put,Env.of]
  simp only[zaq,zb1,hXe]; rfl
 try simp only[RL]at h
 obtain rfl:c=nr:=by omega
 refine W.exit ?_
 refine xe ?_
 refine xe ?_
 refine XBlock.hit ?_
 refine xn ?_
 refine W.r fun K hK=>?_
 simp(disch:=omega)only[↓RU,RV,RH,↓reduceIte,qE,reduceCtorEq,if_pos,↓RS,RG,qA,qM,qL]
 apply hK;clear hK K
 refine W.ret ?_
 refine Br rfl ?_
 have hal:(zux p kind).length=c:=by have:=(zs8 hg h9 kind).1; have h2:=(zoc hg h9 kind).1; omega
 rw [show (List.range c).foldl (yd4 c) (just p kind)=zux p kind by rw [zux,hn]]
 rw [← hal]
 exact zbh (k:=9) rfl (by simp) (z80 _)
def Bnd (n:Nat) (M:Int) (l:List Int):Prop:=l.length=n∧∀ x∈l,0≤x∧x≤M
theorem Bnd.at_ {n:Nat} {M:Int} {l:List Int} (h:Bnd n M l) {a:Nat} (ha:a<n):∃ x,l[a]?=some x∧0≤x∧x≤M:=by
 obtain ⟨x,hx,hm⟩:=zad (show a<l.length by rw [h.1]; exact ha)
 exact ⟨x,hx,h.2 x hm⟩
theorem Bnd.up {n:Nat} {M M':Int} {l:List Int} (h:Bnd n M l) (hM:M≤M'):Bnd n M' l:=⟨h.1,fun x hx=>by have:=h.2 x hx; omega⟩
theorem Bnd.set {n:Nat} {M:Int} {l:List Int} (h:Bnd n M l) {a:Nat} {x:Int} (h0:0≤x) (hx:x≤M):Bnd n M (l.set a x):=by
 refine ⟨by simpa using h.1,fun y hy=>?_⟩
 rcases List.mem_or_eq_of_mem_set hy with h1 | rfl
 ·exact h.2 y h1
 exact ⟨h0,hx⟩
theorem Bnd.zero {n:Nat}:Bnd n 0 (List.replicate n 0):=⟨by simp,fun x hx=>by rw [(List.mem_replicate.1 hx).2]; omega⟩
def znj (l:List Int) (a:Nat):Int:=l[a]?.getD 0
theorem z45 {l:List Int} {a:Nat} {x:Int} (h:l[a]?=some x):znj l a=x:=by simp [znj,h]
def zow (ms:List Nat) (a b:Nat):Bool:=(ms[a]?.getD 0).testBit b
theorem zho {ms:List Nat} {a b m:Nat} (h:ms[a]?=some m):zow ms a b=m.testBit b:=by simp [zow,h]
def plB (sets:List Nat) (needs:List Int) (a:Nat) (out:List Int) (b:Nat):List Int :=
 if zow sets a b then out.set b (max (znj out b) (znj out a+znj needs a)) else out
def plA (sets:List Nat) (needs:List Int) (out:List Int) (a:Nat):List Int:=(List.range needs.length).foldl (plB sets needs a) out
def plN (sets:List Nat) (needs:List Int) (out:List Int) (_:Nat):List Int:=(List.range needs.length).foldl (plA sets needs) out
def places (sets:List Nat) (needs:List Int):List Int:=(List.range needs.length).foldl (plN sets needs) (List.replicate needs.length 0)
def least (sets:List Nat) (needs:List Int):Int:=(List.range needs.length).foldl (fun m a=>max m (znj (places sets needs) a+znj needs a)) 0
theorem zel:∀ (n:Nat),repz [PV.int .i64 0] n=(List.replicate n 0).map (PV.int .i64)
 | 0=>rfl
 | n+1=>by rw [zgi,zel n,List.replicate_succ]; rfl
theorem zlx:∀ (n:Nat),repz [PV.str []] n=(List.replicate n []).map PV.str
 | 0=>rfl
 | n+1=>by rw [zgi,zlx n,List.replicate_succ]; rfl
theorem zud {l:List Txt} {a:Nat} {m:Txt}:(l.map PV.str).set a (.str m)=(l.set a m).map PV.str:=by
 rw [List.map_set]
theorem zo3 {α:Type} {l:List α} {z:α} {i:Nat} {a:α} (h:l[i]?=some a):((l.take i)++List.replicate (l.length - i) z).set i a=(l.take (i+1))++List.replicate (l.length - (i+1)) z:=by
 have hi:=zay h
 apply List.ext_getElem?
 intro j
 rw [List.getElem?_set]
 by_cases hj:i=j
 ·subst hj
  have e1:i<(l.take i++List.replicate (l.length - i) z).length:=by simp; omega
  rw [if_pos rfl,if_pos e1,tk h,List.append_assoc,List.getElem?_append_right (by simp; omega)]
  simp [Nat.min_eq_left (Nat.le_of_lt hi)]
 rw [if_neg hj]
 by_cases hlt:j<i
 ·rw [List.getElem?_append_left (by simp; omega),List.getElem?_append_left (by simp; omega)]
  simp [List.getElem?_take,hlt,show j<i+1 by omega]
 rw [List.getElem?_append_right (by simp; omega),List.getElem?_append_right (by simp; omega)]
 simp only[List.length_take,Nat.min_eq_left (Nat.le_of_lt hi),Nat.min_eq_left (show i+1≤l.length by omega),List.getElem?_replicate]
 have:(j - i<l.length - i)=(j - (i+1)<l.length - (i+1)):=by apply propext; omega
 simp [this]
def zh0:List Txt→Nat
 | []=>0
 | r::p=>r.length+zh0 p
theorem z3i {p:List Txt} {i:Nat} {r:Txt} (h:p[i]?=some r):zh0 (p.take (i+1))=zh0 (p.take i)+r.length:=by
 induction p generalizing i with
 | nil=>simp at h
 | cons a p ih =>
  cases i with
  | zero=>simp at h; subst h; simp [zh0]
  | succ i=>simp at h; simp [zh0,ih h]; omega
theorem z9z {p:List Txt} {i:Nat}:zh0 (p.take i)≤zh0 p:=by
 induction p generalizing i with
 | nil=>simp [zh0]
 | cons a p ih =>
  cases i with
  | zero=>simp [zh0]
  | succ i=>simp only[List.take_succ_cons,zh0]; have := @ih i; omega
theorem z7o {p:List Txt} {r:Txt} (h:r∈p):r.length≤zh0 p:=by
 induction p with
 | nil=>simp at h
 | cons a p ih =>
  simp only[zh0]
  rcases List.mem_cons.1 h with rfl | h
  ·omega
  have:=ih h; omega
def sz (p:List Txt) (left:Int):Int:=if (p.length+zh0 p:Nat)≤left then left - (p.length+zh0 p:Nat) else -1
theorem yge {p:List Txt} {left:Int} (hl:left≤1048576) (h:0≤sz p left):Sm p:=by
 unfold sz at h
 split at h
 ·exact ⟨by omega,fun r hr=>by have:=z7o hr; omega⟩
 omega
theorem zgw {α:Type} {p q:List α} {i:Nat} {x y:α} (h:p.take i=q.take i) (hx:p[i]?=some x) (hy:q[i]?=some y) (e:x=y):p.take (i+1)=q.take (i+1):=by
 rw [tk hx,tk hy,h,e]
section
abbrev zeh (g:List (List Int)):PV := .sl (g.map eInts) g.length
structure Rect where
 row:Int
 col:Int
 high:Int
 wide:Int
 deriving DecidableEq
def Rect.cells (r:Rect):List PV:=[.int .i64 r.row,.int .i64 r.col,.int .i64 r.high,.int .i64 r.wide]
abbrev ztf (r:Rect):PV := .agg r.cells
def rcs (rs:List Rect):List PV:=rs.flatMap Rect.cells
abbrev yan (rs:List Rect):PV := .sl (rcs rs) rs.length
abbrev zbj (g:List (List Int)) (rs:List Rect):PV := .ip [zeh g,yan rs] 0
theorem zbu (rs:List Rect):(rcs rs).length=rs.length*4:=by
 induction rs with
 | nil=>rfl
 | cons r rs ih=>simp only[rcs,List.flatMap_cons,List.length_append,List.length_cons]at ih ⊢; rw [ih]; simp [Rect.cells]; omega
theorem zt0 (rs ss:List Rect):rcs (rs++ss)=rcs rs++rcs ss:=by simp [rcs]
theorem zlt (r:Rect) (rs:List Rect):rcs (r::rs)=r.cells++rcs rs:=rfl
theorem z9e (rs:List Rect) (n:Nat):(rcs rs).take (n*4)=rcs (rs.take n):=by
 induction rs generalizing n with
 | nil=>simp [rcs]
 | cons r rs ih =>
  cases n with
  | zero=>simp [rcs]
  | succ n =>
   rw [zlt,List.take_succ_cons,zlt,← ih n]
   rw [show (n+1)*4=r.cells.length+n*4 by simp [Rect.cells]; omega,List.take_length_add_append]
theorem z00 (rs:List Rect) (n:Nat):(rcs rs).drop (n*4)=rcs (rs.drop n):=by
 induction rs generalizing n with
 | nil=>simp [rcs]
 | cons r rs ih =>
  cases n with
  | zero=>simp
  | succ n =>
   rw [zlt,List.drop_succ_cons,← ih n]
   rw [show (n+1)*4=r.cells.length+n*4 by simp [Rect.cells]; omega,List.drop_length_add_append]
theorem zls {rs:List Rect} {n:Nat} {r:Rect} (h:rs[n]?=some r):((rcs rs).drop (n*4)).take 4=r.cells:=by
 rw [z00]
 have:rs.drop n=r::rs.drop (n+1):=by
  obtain ⟨hn,rfl⟩:=List.getElem?_eq_some_iff.1 h
  exact List.drop_eq_getElem_cons hn
 rw [this,zlt]
 simp [Rect.cells]
theorem yc0 {rs:List Rect} {n:Nat} {r:Rect} (h:n<rs.length):(rcs rs).take (n*4)++r.cells++(rcs rs).drop (n*4+4)=rcs (rs.set n r):=by
 rw [z9e,show n*4+4=(n+1)*4 by omega,z00,show r.cells=rcs [r] by simp [rcs],← zt0,← zt0]
 congr 1
 rw [List.set_eq_take_append_cons_drop,if_pos h]
 simp
def ixf {α:Type} (test:α→Bool) (l:List α):Int :=
 match l.findIdx? test with
 | some i=>i
 | none => -1
theorem ya0 {α:Type} {test:α→Bool} {l:List α} {i:Nat} {x:α} (h:l[i]?=some x) (hall:(l.take i).any test=false) (hx:test x=true):ixf test l=i:=by
 have:l.findIdx? test=some i:=by
  obtain ⟨hi,rfl⟩:=List.getElem?_eq_some_iff.1 h
  rw [List.findIdx?_eq_some_iff_getElem]
  refine ⟨hi,hx,fun j hj=>?_⟩
  rw [List.any_eq_false]at hall
  have:=hall l[j] (by rw [List.mem_take_iff_getElem]; exact ⟨j,by omega,rfl⟩)
  simpa using this
 simp [ixf,this]
theorem ztm {α:Type} {test:α→Bool} {l:List α} (hall:l.any test=false):ixf test l = -1:=by
 have:l.findIdx? test=none:=by
  rw [List.findIdx?_eq_none_iff]
  intro x hx
  rw [List.any_eq_false]at hall
  simpa using hall x hx
 simp [ixf,this]
theorem ycg {α:Type} {test:α→Bool} {l:List α}:decide (0≤ixf test l)=l.any test:=by
 cases h:l.any test with
 | false=>rw [ztm h]; rfl
 | true =>
  unfold ixf
  cases hi:l.findIdx? test with
  | none =>
   rw [List.findIdx?_eq_none_iff]at hi
   rw [List.any_eq_true]at h
   obtain ⟨x,hx,hx2⟩:=h
   rw [hi x hx]at hx2; cases hx2
  | some i=>simp
theorem yah {α:Type} {f:α→Bool} {l:List α} {i:Nat} {a:α} (h:l[i]?=some a) (h1:(l.take i).any f=false) (h2:f a=false):(l.take (i+1)).any f=false:=by
 rw [tk h,List.any_append,h1]; simp [h2]
def Rect.both (b o:Rect):Rect:=⟨min b.row o.row,min b.col o.col,max (b.row+b.high) (o.row+o.high) - min b.row o.row,max (b.col+b.wide) (o.col+o.wide) - min b.col o.col⟩
def Rect.In (M:Int) (r:Rect):Prop:=0≤r.row∧r.row≤M∧0≤r.col∧r.col≤M∧0≤r.high∧r.high≤M∧0≤r.wide∧r.wide≤M
theorem z9h {S:Store} {im:Bool} {k:Nat} {g:FuncId} {cap:List PV}:reify S im (k+1) (.fn g cap)=(cap.mapM (reify S im k)).map (.fn g):=rfl
section
variable {S:Store} {k f lo:Nat} {sel:List Nat} {fr:Nat→Bool} {im:Bool}
theorem zb5 {q:IntKind} {n:Int}:rn S k sel (f+1) (.int q n)=some (.int q n):=rfl
theorem zbb {b:Bool}:rn S k sel (f+1) (.bool b)=some (.bool b):=rfl
theorem zb8 {b:Txt}:rn S k sel (f+1) (.str b)=some (.str b):=rfl
theorem zd0 {cs:List PV} {n:Nat}:rn S k sel (f+1) (.sl cs n)=some (.sl cs n):=rfl
theorem zdy {cs:List PV} {n:Nat}:rn S k sel (f+1) (.ip cs n)=some (.ip cs n):=rfl
theorem zbd:rn S k sel (f+1) .nils=some .nils:=rfl
theorem zbc:rn S k sel (f+1) .nilp=some .nilp:=rfl
theorem zav:rn S k sel (f+1) .undef=some .undef:=rfl
theorem zb4 {cs:List PV}:rn S k sel (f+1) (.agg cs)=(cs.mapM (rn S k sel f)).map .agg:=rfl
theorem zb9 {cs:List PV}:rn S k sel (f+1) (.tup cs)=(cs.mapM (rn S k sel f)).map .tup:=rfl
theorem zdx {g:FuncId} {cs:List PV}:rn S k sel (f+1) (.fn g cs)=(cs.mapM (rn S k sel f)).map (.fn g):=rfl
theorem zb6 {o ver off n:Nat}:rn S k sel (f+1) (.loc o ver off n)=(if o<k then some (.loc o ver off n) else
   if sel.contains o then (match S.obs[o]? with | some (.arr v _ _ _)=>if v=ver then some (.loc (k+sel.idxOf o) S.tick off n) else none | _=>none)
   else rfq S (zfv k sel) 10 (.loc o ver off n)):=rfl
theorem zb7 {o ver off:Nat}:rn S k sel (f+1) (.ref o ver off)=(if o<k then some (.ref o ver off) else
   if sel.contains o then (match S.obs[o]? with | some (.arr v _ _ _)=>if v=ver then some (.ref (k+sel.idxOf o) S.tick off) else none | _=>none)
   else rfq S (zfv k sel) 10 (.ref o ver off)):=rfl
theorem zdz {o ver:Nat}:rn S k sel (f+1) (.mp o ver)=(if o<k then some (.mp o ver) else
   if sel.contains o then (match S.obs[o]? with | some (.map v _)=>if v=ver then some (.mp (k+sel.idxOf o) S.tick) else none | _=>none)
   else none):=rfl
theorem za9 {o ver off n:Nat}:rfq S fr (f+1) (.loc o ver off n)=(match S.obs[o]? with
   | some (.arr v _ sz cells)=>if fr o=true∧v=ver∧off+n*sz≤cells.length then (((cells.drop off).take (n*sz)).mapM (rfq S fr f)).map (.sl · n) else none
   | _=>none):=rfl
theorem za8 {q:IntKind} {n:Int}:rfq S fr (f+1) (.int q n)=some (.int q n):=rfl
theorem zat {b:Bool}:rfq S fr (f+1) (.bool b)=some (.bool b):=rfl
theorem zba {b:Txt}:rfq S fr (f+1) (.str b)=some (.str b):=rfl
theorem zb2 {cs:List PV} {n:Nat}:rfq S fr (f+1) (.sl cs n)=some (.sl cs n):=rfl
theorem zan {old:Bool}:zqb S k sel old []=some []:=rfl
theorem zak {old:Bool} {o:Nat} {r:List Nat}:zqb S k sel old (o::r)=((S.obs[o]?).bind (z22 S k sel old)).bind fun a=>(zqb S k sel old r).map (a :: ·):=rfl
theorem zas {old:Bool} {ver et sz:Nat} {cells:List PV}:z22 S k sel old (.arr ver et sz cells)=(cells.mapM (rn S k sel 10)).map (.arr (if old then ver else S.tick) et sz ·):=rfl
theorem zau {old:Bool} {ver:Nat} {es:List (PV × PV)}:z22 S k sel old (.map ver es)=(es.mapM fun q=>(rn S k sel 10 q.1).bind fun a=>(rn S k sel 10 q.2).map fun b=>(a,b)).map (.map (if old then ver else S.tick) ·):=rfl
theorem zby:S.rn k sel=(if sel.all (fun o=>decide (k≤o)) && decide sel.Nodup && decide (k≤S.obs.length) then
  (zqb S k sel true (List.range k)).bind fun a=>(zqb S k sel false sel).map fun b=>⟨a++b,S.tick+1⟩
 else none):=rfl
def scal:PV→Bool
 | .int _ _ | .bool _ | .str _=>true
 | _=>false
theorem zt7 {l:List PV} (h:l.all scal=true):l.mapM (rn S k sel (f+1))=some l:=by
 rw [List.all_eq_true]at h
 exact za5 fun x hx=>by have:=h x hx; cases x <;> simp [scal]at this <;> rfl
theorem zmv {l:List PV} (h:l.all scal=true):l.mapM (reify S im (f+1))=some l:=by
 rw [List.all_eq_true]at h
 exact za5 fun x hx=>by have:=h x hx; cases x <;> simp [scal]at this <;> rfl
theorem ydc {l:List PV} (h:l.all scal=true):l.mapM (sh S im (f+1))=some l:=by
 rw [List.all_eq_true]at h
 exact za5 fun x hx=>by have:=h x hx; cases x <;> simp [scal]at this <;> rfl
theorem z1b (rs:List Rect):(rcs rs).all scal=true:=by
 induction rs with
 | nil=>rfl
 | cons r rs ih=>rw [zlt,List.all_append,ih]; rfl
end
end
theorem zkb (g:List (List Int)) (rs:List Rect):PC Tryz.prog 48 [zbj g rs] (.int .i64 g.length) true:=by
 refine PC.of ⟨Tryz.func48,by kernel_rfl,rfl,by kernel_rfl⟩ zam mixed (by show 1≤Tryz.f48.ntmps; decide) ?_
 refine W.r fun K hK=>?_
 simp(disch:=omega)only[↓RU,RV,RH,↓reduceIte,qE,reduceCtorEq,if_pos,↓RS,RG,qA,qM,qL]
 apply hK;clear hK K
 refine W.r fun K hK=>?_
 simp(disch:=omega)only[↓RU,RV,RH,↓reduceIte,qE,reduceCtorEq,if_pos,↓RS,RG,qA,qM,qL,ty1,ty4,zab,zez,zcb,zdo,zaa,ze0,zdp]
 apply hK;clear hK K
 refine W.ret ?_
 refine Br rfl ?_
 rfl
theorem zm2 {g:List (List Int)} {row:List Int} (h:g[0]?=some row) (rs:List Rect):PC Tryz.prog 49 [zbj g rs] (.int .i64 row.length) true:=by
 have hl:=zay h
 refine PC.of ⟨Tryz.func49,by kernel_rfl,rfl,by kernel_rfl⟩ zam mixed (by show 1≤Tryz.f49.ntmps; decide) ?_
 refine W.r fun K hK=>?_
 simp(disch:=omega)only[↓RU,RV,RH,↓reduceIte,qE,reduceCtorEq,if_pos,↓RS,RG,qA,qM,qL]
 apply hK;clear hK K
 refine W.r fun K hK=>?_
 simp(disch:=omega)only[↓RU,RV,RH,↓reduceIte,qE,reduceCtorEq,if_pos,↓RS,RG,qA,qM,qL,ty1,ty4,zab,zez,zcb,zdo,zaa,ze0,zdp,h,Int.toNat_zero,Nat.zero_mul,qZ]
 apply hK;clear hK K
 refine W.ret ?_
 refine Br rfl ?_
 rfl
theorem ybu {r:Rect} (h1:0≤r.high*r.wide) (h2:r.high*r.wide≤1048576):PC Tryz.prog 145 [ztf r] (.int .i64 (r.high*r.wide)) true:=by
 simp only[ztf,Rect.cells]
 refine PC.of ⟨Tryz.func145,by kernel_rfl,rfl,by kernel_rfl⟩ zam mixed (by show 1≤Tryz.f145.ntmps; decide) ?_
 refine W.r fun K hK=>?_
 simp(disch:=omega)only[↓RU,RV,RH,↓reduceIte,qE,reduceCtorEq,if_pos,↓RS,RG,qA,qM,qL,zdo,zaa,zdp]
 apply hK;clear hK K
 refine W.r fun K hK=>?_
 simp(disch:=omega)only[↓RU,RV,RH,↓reduceIte,qE,reduceCtorEq,if_pos,w64,↓RS,RG,qA,qM,qL,zdo,zaa,zdp]
 apply hK;clear hK K
 refine W.ret ?_
 refine Br rfl ?_
 rfl
theorem zxy {b o:Rect} (hb:b.In 1000) (ho:o.In 1000):PC Tryz.prog 128 [ztf b,ztf o] (ztf (b.both o)) true:=by
 unfold Rect.In at hb ho
 simp only[ztf,Rect.cells,Rect.both]
 refine PC.of ⟨Tryz.func128,by kernel_rfl,rfl,by kernel_rfl⟩ zam mixed (by show 2≤Tryz.f128.ntmps; decide) ?_
 refine W.r fun K hK=>?_
 simp(disch:=omega)only[↓RU,RV,RH,↓reduceIte,qE,reduceCtorEq,if_pos,↓RS,RG,qA,qM,qL,zdo,zaa,zdp]
 apply hK;clear hK K
 refine W.seq_draw (by kernel_rfl) fun K hK=>?_
 simp(disch:=omega)only[↓RU,RV,RH,↓reduceIte,qE,reduceCtorEq,if_pos,ztl,↓RS,RG,qA,qM,qL,zdo,zaa,zdp]
 apply hK;clear hK K
 refine W.r fun K hK=>?_
 simp(disch:=omega)only[↓RU,RV,RH,↓reduceIte,qE,reduceCtorEq,if_pos,w64,zmn,↓RS,RG,qA,qM,qL,zdo,zaa,zdp]
 apply hK;clear hK K
 refine W.ret ?_
 refine Br rfl ?_
 rfl
theorem zyv (row:List Int) (w:Int) (hr:row.length<2147483648):PC Tryz.prog 143 [eInts row,.ip [.int .i64 w] 0] (.bool (decide ((row.length:Int)≠w))) true:=by
 refine PC.of ⟨Tryz.func143,by kernel_rfl,rfl,by kernel_rfl⟩ zam mixed (by show 2≤Tryz.f143.ntmps; decide) ?_
 refine W.r fun K hK=>?_
 simp(disch:=omega)only[↓RU,RV,RH,↓reduceIte,qE,reduceCtorEq,if_pos,↓RS,RG,qA,qM,qL]
 apply hK;clear hK K
 refine W.r fun K hK=>?_
 simp(disch:=omega)only[↓RU,RV,RH,↓reduceIte,qE,reduceCtorEq,if_pos,w64,↓RS,RG,qA,qM,qL,zab,zaa]
 apply hK;clear hK K
 refine W.ret ?_
 refine Br rfl ?_
 rw [show decide ((row.length:Int)≠w)=((row.length:Int) != w) by rw [zta]; simp]
 rfl
theorem ycf {l:List Int} (hl:l.length<2147483648) {g:FuncId} {cap:List PV} (hc:cap.mapM (reify ⟨[],0⟩ true 10)=some cap) {test:Int→Bool} (hg:∀ x∈l,PC Tryz.prog g (.int .i64 x::cap) (.bool (test x)) true):PC Tryz.prog 183 [eInts l,.fn g cap] (.int .i64 (ixf test l)) true:=by
 refine PC.of ⟨Tryz.func183,by kernel_rfl,rfl,by kernel_rfl⟩ zam mixed (by show 2≤Tryz.f183.ntmps; decide) ?_
 refine W.r fun K hK=>?_
 simp(disch:=omega)only[↓RU,RV,RH,↓reduceIte,qE,reduceCtorEq,if_pos]
 apply hK;clear hK K
 refine W.seq ?_
 refine W.r fun K hK=>?_
 simp(disch:=omega)only[↓RU,RV,RH,↓reduceIte,qE,reduceCtorEq,if_pos,zab,zaa]
 apply hK;clear hK K
 refine W.block ?_
 refine W.loop [0,1,6,7,8] (fun n vs S=>∃ i:Nat,n=l.length - i∧i≤l.length∧((l.take i).any test=false)∧vs=[eInts l,.fn g cap,eInts l,.int .i64 l.length,.int .i64 i]∧S=⟨[],0⟩) (l.length) ?_ ?_
 ·refine ⟨0,0,rfl,Nat.zero_le _,rfl,?_,rfl⟩
  simp [Env.put,Env.of,zae]
 rintro n vs S - ⟨i,rfl,h_i,hall,rfl,rfl⟩
 refine W.r fun K hK=>?_
 simp(disch:=omega)only[↓RU,RV,RH,↓reduceIte,qE,reduceCtorEq,if_pos,w64,zaa]
 apply hK;clear hK K
 refine W.seq ?_
 refine W.cond rfl (fun h=>?_) (fun h=>?_)
 ·try simp only[RL]at h
  obtain ⟨x,hx,hxm⟩:=zad (show i<l.length by omega)
  refine W.skip ?_
  refine xn ?_
  refine W.seq ?_
  refine W.block ?_
  refine W.r fun K hK=>?_
  simp(disch:=omega)only[↓RU,RV,RH,↓reduceIte,qE,reduceCtorEq,if_pos]
  apply hK;clear hK K
  refine W.r fun K hK=>?_
  simp(disch:=omega)only[↓RU,RV,RH,↓reduceIte,qE,reduceCtorEq,if_pos,qN,zab,zaa,hx]
  refine zaf.pc (hg x hxm) (zcn rfl hc) (.inl rfl) ?_
  simp(disch:=omega)only[↓RU,RV,RH,↓reduceIte,qE,reduceCtorEq,if_pos,qN,zab,zaa,hx]
  apply hK;clear hK K
  refine W.cond rfl (fun h1=>?_) (fun h1=>?_)
  ·try simp only[RL]at h1
   refine W.r fun K hK=>?_
   simp(disch:=omega)only[↓RU,RV,RH,↓reduceIte,qE,reduceCtorEq,if_pos]
   apply hK;clear hK K
   refine W.ret ?_
   refine XBlock.ret ?_
   refine XThen.ret ?_
   refine XThen.ret ?_
   refine XBlock.ret ?_
   refine XThen.ret ?_
   refine Br rfl ?_
   rw [ya0 hx hall h1]
   rfl
  try simp only[RL]at h1
  refine W.skip ?_
  refine XbN ?_
  refine xn ?_
  refine W.k fun K hK=>?_
  simp(disch:=omega)only[↓RU,RV,RH,↓reduceIte,qE,reduceCtorEq,if_pos,w64,zaa]
  apply hK;clear hK K
  refine xn ?_
  refine ⟨l.length - (i+1),by omega,0,i+1,rfl,by omega,yah hx (by assumption) h1,?_,rfl⟩
  simp [Env.put,Env.of]
 try simp only[RL]at h
 refine W.exit ?_
 refine xe ?_
 refine xe ?_
 refine XBlock.hit ?_
 refine xn ?_
 refine W.r fun K hK=>?_
 simp(disch:=omega)only[↓RU,RV,RH,↓reduceIte,qE,reduceCtorEq,if_pos]
 apply hK;clear hK K
 refine W.ret ?_
 refine Br rfl ?_
 have hip:l.take i=l:=qT (by omega)
 rw [hip]at hall
 rw [ztm hall]
 rfl
theorem zkc {l:List (List Int)} (hl:l.length<2147483648) {g:FuncId} {cap:List PV} (hc:cap.mapM (reify ⟨[],0⟩ true 10)=some cap) {test:(List Int)→Bool} (hg:∀ x∈l,PC Tryz.prog g (eInts x::cap) (.bool (test x)) true):PC Tryz.prog 106 [zeh l,.fn g cap] (.int .i64 (ixf test l)) true:=by
 refine PC.of ⟨Tryz.func106,by kernel_rfl,rfl,by kernel_rfl⟩ zam mixed (by show 2≤Tryz.f106.ntmps; decide) ?_
 refine W.r fun K hK=>?_
 simp(disch:=omega)only[↓RU,RV,RH,↓reduceIte,qE,reduceCtorEq,if_pos]
 apply hK;clear hK K
 refine W.seq ?_
 refine W.r fun K hK=>?_
 simp(disch:=omega)only[↓RU,RV,RH,↓reduceIte,qE,reduceCtorEq,if_pos,ty1,zab,zcb,zaa]
 apply hK;clear hK K
 refine W.block ?_
 refine W.loop [0,1,6,7,8] (fun n vs S=>∃ i:Nat,n=l.length - i∧i≤l.length∧((l.take i).any test=false)∧vs=[zeh l,.fn g cap,zeh l,.int .i64 l.length,.int .i64 i]∧S=⟨[],0⟩) (l.length) ?_ ?_
 ·refine ⟨0,0,rfl,Nat.zero_le _,rfl,?_,rfl⟩
  simp [Env.put,Env.of,zae]
 rintro n vs S - ⟨i,rfl,h_i,hall,rfl,rfl⟩
 refine W.r fun K hK=>?_
 simp(disch:=omega)only[↓RU,RV,RH,↓reduceIte,qE,reduceCtorEq,if_pos,w64,zaa]
 apply hK;clear hK K
 refine W.seq ?_
 refine W.cond rfl (fun h=>?_) (fun h=>?_)
 ·try simp only[RL]at h
  obtain ⟨x,hx,hxm⟩:=zad (show i<l.length by omega)
  refine W.skip ?_
  refine xn ?_
  refine W.seq ?_
  refine W.block ?_
  refine W.r fun K hK=>?_
  simp(disch:=omega)only[↓RU,RV,RH,↓reduceIte,qE,reduceCtorEq,if_pos]
  apply hK;clear hK K
  refine W.r fun K hK=>?_
  simp(disch:=omega)only[↓RU,RV,RH,↓reduceIte,qE,reduceCtorEq,if_pos,qN,ty1,zab,zcb,zaa,hx]
  refine zaf.pc (hg x hxm) (zcn rfl hc) (.inl rfl) ?_
  simp(disch:=omega)only[↓RU,RV,RH,↓reduceIte,qE,reduceCtorEq,if_pos,qN,ty1,zab,zcb,zaa,hx]
  apply hK;clear hK K
  refine W.cond rfl (fun h1=>?_) (fun h1=>?_)
  ·try simp only[RL]at h1
   refine W.r fun K hK=>?_
   simp(disch:=omega)only[↓RU,RV,RH,↓reduceIte,qE,reduceCtorEq,if_pos]
   apply hK;clear hK K
   refine W.ret ?_
   refine XBlock.ret ?_
   refine XThen.ret ?_
   refine XThen.ret ?_
   refine XBlock.ret ?_
   refine XThen.ret ?_
   refine Br rfl ?_
   rw [ya0 hx hall h1]
   rfl
  try simp only[RL]at h1
  refine W.skip ?_
  refine XbN ?_
  refine xn ?_
  refine W.k fun K hK=>?_
  simp(disch:=omega)only[↓RU,RV,RH,↓reduceIte,qE,reduceCtorEq,if_pos,w64,zaa]
  apply hK;clear hK K
  refine xn ?_
  refine ⟨l.length - (i+1),by omega,0,i+1,rfl,by omega,yah hx (by assumption) h1,?_,rfl⟩
  simp [Env.put,Env.of]
 try simp only[RL]at h
 refine W.exit ?_
 refine xe ?_
 refine xe ?_
 refine XBlock.hit ?_
 refine xn ?_
 refine W.r fun K hK=>?_
 simp(disch:=omega)only[↓RU,RV,RH,↓reduceIte,qE,reduceCtorEq,if_pos]
 apply hK;clear hK K
 refine W.ret ?_
 refine Br rfl ?_
 have hip:l.take i=l:=qT (by omega)
 rw [hip]at hall
 rw [ztm hall]
 rfl
theorem zqz {l:List (List Int)} (hl:l.length<2147483648) {g:FuncId} {cap:List PV} (hc9:cap.mapM (reify ⟨[],0⟩ true 9)=some cap) (hc:cap.mapM (reify ⟨[],0⟩ true 10)=some cap) {test:(List Int)→Bool} (hg:∀ x∈l,PC Tryz.prog g (eInts x::cap) (.bool (test x)) true):PC Tryz.prog 142 [zeh l,.fn g cap] (.bool (l.any test)) true:=by
 have hcr:[zeh l,.fn g cap].mapM (reify ⟨[],0⟩ true 10)=some [zeh l,.fn g cap]:=zcn rfl (zcn (by rw [z9h,hc9]; rfl) rfl)
 refine PC.of ⟨Tryz.func142,by kernel_rfl,rfl,by kernel_rfl⟩ zam mixed (by show 2≤Tryz.f142.ntmps; decide) ?_
 refine W.r fun K hK=>?_
 simp(disch:=omega)only[↓RU,RV,RH,↓reduceIte,qE,reduceCtorEq,if_pos]
 apply hK;clear hK K
 refine W.r fun K hK=>?_
 simp(disch:=omega)only[↓RU,RV,RH,↓reduceIte,qE,reduceCtorEq,if_pos,qN,w64,zaa]
 refine zaf.pc (zkc hl hc hg) hcr (.inl rfl) ?_
 simp(disch:=omega)only[↓RU,RV,RH,↓reduceIte,qE,reduceCtorEq,if_pos,qN,w64,zaa]
 apply hK;clear hK K
 refine W.ret ?_
 refine Br rfl ?_
 rw [← ycg]
 rfl
theorem zvl {p q:List Txt} (hp:p.length<2147483648) (hq:q.length<2147483648):PC Tryz.prog 117 [zal p,zal q] (.bool (decide (p=q))) true:=by
 refine PC.of ⟨Tryz.func117,by kernel_rfl,rfl,by kernel_rfl⟩ zam mixed (by show 2≤Tryz.f117.ntmps; decide) ?_
 refine W.r fun K hK=>?_
 simp(disch:=omega)only[↓RU,RV,RH,↓reduceIte,qE,reduceCtorEq,if_pos]
 apply hK;clear hK K
 refine W.seq ?_
 refine W.r fun K hK=>?_
 simp(disch:=omega)only[↓RU,RV,RH,↓reduceIte,qE,reduceCtorEq,if_pos,w64,ty6,zaa,zac]
 apply hK;clear hK K
 refine W.cond rfl (fun h=>?_) (fun h=>?_)
 ·try simp only[RL]at h
  refine W.r fun K hK=>?_
  simp(disch:=omega)only[↓RU,RV,RH,↓reduceIte,qE,reduceCtorEq,if_pos]
  apply hK;clear hK K
  refine W.ret ?_
  refine XThen.ret ?_
  refine Br rfl ?_
  rw [show decide (p=q)=false by simp; rintro rfl; exact h rfl]
  rfl
 try simp only[RL]at h
 refine W.skip ?_
 refine xn ?_
 refine W.seq ?_
 refine W.r fun K hK=>?_
 simp(disch:=omega)only[↓RU,RV,RH,↓reduceIte,qE,reduceCtorEq,if_pos,ty6,zac]
 apply hK;clear hK K
 refine W.block ?_
 refine W.loop [0,1,11,12,13] (fun n vs S=>∃ i:Nat,n=p.length - i∧i≤p.length∧(p.take i=q.take i)∧vs=[zal p,zal q,zal p,.int .i64 p.length,.int .i64 i]∧S=⟨[],0⟩) (p.length) ?_ ?_
 ·refine ⟨0,0,rfl,Nat.zero_le _,rfl,?_,rfl⟩
  simp [Env.put,Env.of,zae]
 rintro n vs S - ⟨i,rfl,h_i,htk,rfl,rfl⟩
 refine W.r fun K hK=>?_
 simp(disch:=omega)only[↓RU,RV,RH,↓reduceIte,qE,reduceCtorEq,if_pos,w64,zaa]
 apply hK;clear hK K
 refine W.seq ?_
 refine W.cond rfl (fun h1=>?_) (fun h1=>?_)
 ·try simp only[RL]at h1
  obtain ⟨x,hx,-⟩:=zad (show i<p.length by omega)
  obtain ⟨y,hy,-⟩:=zad (show i<q.length by omega)
  refine W.skip ?_
  refine xn ?_
  refine W.seq ?_
  refine W.block ?_
  refine W.r fun K hK=>?_
  simp(disch:=omega)only[↓RU,RV,RH,↓reduceIte,qE,reduceCtorEq,if_pos]
  apply hK;clear hK K
  refine W.seq_draw (by kernel_rfl) fun K hK=>?_
  simp(disch:=omega)only[↓RU,RV,RH,↓reduceIte,qE,reduceCtorEq,if_pos,w64,ty6,zac,hx,hy]
  apply hK;clear hK K
  refine W.cond rfl (fun h2=>?_) (fun h2=>?_)
  ·try simp only[RL]at h2
   refine W.r fun K hK=>?_
   simp(disch:=omega)only[↓RU,RV,RH,↓reduceIte,qE,reduceCtorEq,if_pos]
   apply hK;clear hK K
   refine W.ret ?_
   refine XBlock.ret ?_
   refine XThen.ret ?_
   refine XThen.ret ?_
   refine XBlock.ret ?_
   refine XThen.ret ?_
   refine Br rfl ?_
   rw [show decide (p=q)=false by simp; rintro rfl; rw [hx]at hy; simp_all]
   rfl
  try simp only[RL]at h2
  refine W.skip ?_
  refine XbN ?_
  refine xn ?_
  refine W.k fun K hK=>?_
  simp(disch:=omega)only[↓RU,RV,RH,↓reduceIte,qE,reduceCtorEq,if_pos,w64,zaa]
  apply hK;clear hK K
  refine xn ?_
  refine ⟨p.length - (i+1),by omega,0,i+1,rfl,by omega,zgw htk hx hy h2,?_,rfl⟩
  simp [Env.put,Env.of]
 try simp only[RL]at h1
 refine W.exit ?_
 refine xe ?_
 refine xe ?_
 refine XBlock.hit ?_
 refine xn ?_
 refine W.r fun K hK=>?_
 simp(disch:=omega)only[↓RU,RV,RH,↓reduceIte,qE,reduceCtorEq,if_pos]
 apply hK;clear hK K
 refine W.ret ?_
 refine Br rfl ?_
 have h1:p.take i=p:=qT (by omega)
 have h2:q.take i=q:=qT (by omega)
 rw [show decide (p=q)=true by simp; rw [← h1,← h2]; exact htk]
 rfl
def GW (g:List (List Int)) (H W:Nat):Prop:=g.length=H∧(∀ r∈g,r.length=W)∧1≤H∧H≤6∧1≤W∧W≤6
def gz (g:List (List Int)) (i j:Nat):Int:=(g[i]?.getD [])[j]?.getD 0
theorem GW.at_ {g:List (List Int)} {H W:Nat} (h:GW g H W) {i j:Nat} (hi:i<H) (hj:j<W):∃ row,g[i]?=some row∧row.length=W∧row[j]?=some (gz g i j):=by
 obtain ⟨row,hr,hm⟩:=zad (show i<g.length by rw [h.1]; exact hi)
 have hl:=h.2.1 row hm
 obtain ⟨x,hx,-⟩:=zad (show j<row.length by omega)
 exact ⟨row,hr,hl,by simp [gz,hr,hx]⟩
def zbz (g:List (List Int)) (level:Bool) (line at_:Nat):Int × Int:=if level then (gz g (line - 1) at_,gz g line at_) else (gz g at_ (line - 1),gz g at_ line)
def InL (H W:Nat) (level:Bool) (line at_:Nat):Prop:=1≤line∧if level then line<H∧at_<W else line<W∧at_<H
structure Wall where
 level:Bool
 line:Int
 fr:Int
 long:Int
def Wall.cells (w:Wall):List PV:=[.bool w.level,.int .i64 w.line,.int .i64 w.fr,.int .i64 w.long]
abbrev yem (w:Wall):PV := .agg w.cells
def wcs (ws:List Wall):List PV:=ws.flatMap Wall.cells
abbrev zrn (ws:List Wall):PV := .sl (wcs ws) ws.length
theorem zon (r:Wall) (rs:List Wall):wcs (r::rs)=r.cells++wcs rs:=rfl
theorem zup (rs ss:List Wall):wcs (rs++ss)=wcs rs++wcs ss:=by simp [wcs]
theorem zh1 (rs:List Wall):(wcs rs).length=rs.length*4:=by
 induction rs with
 | nil=>rfl
 | cons r rs ih=>rw [zon,List.length_append,ih,List.length_cons]; simp [Wall.cells]; omega
theorem yfl {ws:List Wall} {n:Nat} {w:Wall} (h:ws[n]?=some w):((wcs ws).drop (n*4)).take 4=w.cells:=by
 induction ws generalizing n with
 | nil=>simp at h
 | cons a ws ih =>
  cases n with
  | zero=>simp at h; subst h; rw [zon]; simp [Wall.cells]
  | succ n =>
   simp at h
   rw [zon,show (n+1)*4=a.cells.length+n*4 by simp [Wall.cells]; omega,List.drop_length_add_append]
   exact ih h
def zef (d:Bool) (level:Bool) (line at_:Nat) (s:List Wall × Bool):List Wall × Bool :=
 if d && s.2 then (s.1.dropLast++(s.1.getLast?.map fun w=>{ w with long:=w.long+1 }).toList,d)
 else if d then (s.1++[⟨level,line,at_,1⟩],d) else (s.1,d)
def zj3 (g:List (List Int)) (level:Bool) (line at_:Nat):Bool:=decide ((zbz g level line at_).1≠(zbz g level line at_).2)
def zbi (g:List (List Int)) (level:Bool) (line:Nat) (ws:List Wall) (n:Nat):List Wall × Bool :=
 (List.range n).foldl (fun s at_=>zef (zj3 g level line at_) level line at_ s) (ws,false)
def zbp (g:List (List Int)) (level:Bool) (places:Nat) (ws:List Wall) (line:Nat):List Wall :=
 (List.range line).foldl (fun ws l=>if 1≤l then (zbi g level l ws places).1 else ws) ws
def zcc (g:List (List Int)) (H W:Nat):List Wall:=zbp g true W (zbp g false H [] W) H
theorem zd1 {g:List (List Int)} {level:Bool} {line:Nat} {ws:List Wall} {n:Nat}:zbi g level line ws (n+1)=zef (zj3 g level line n) level line n (zbi g level line ws n):=by
 unfold zbi; rw [zb1]
theorem zee {g:List (List Int)} {level:Bool} {places:Nat} {ws:List Wall} {line:Nat} (h:1≤line):zbp g level places ws (line+1)=(zbi g level line (zbp g level places ws line) places).1:=by
 unfold zbp; rw [zb1,if_pos h]
theorem zy5 {d level:Bool} {line at_:Nat} {s:List Wall × Bool} (h:s.2=true→s.1≠[]):(zef d level line at_ s).2=d∧(d=true→(zef d level line at_ s).1≠[])∧(zef d level line at_ s).1.length≤s.1.length+1∧s.1.length≤(zef d level line at_ s).1.length:=by
 unfold zef
 cases d with
 | false=>simp
 | true =>
  cases ho:s.2 with
  | false=>simp
  | true =>
   have:=h ho
   cases hl:s.1.getLast? with
   | none=>rw [List.getLast?_eq_none_iff]at hl; exact absurd hl this
   | some w =>
    have:0<s.1.length:=List.length_pos_iff.2 this
    simp; omega
theorem zkt (g:List (List Int)) (level:Bool) (line:Nat) (ws:List Wall):∀ n,((zbi g level line ws n).2=true→(zbi g level line ws n).1≠[])∧(zbi g level line ws n).1.length≤ws.length+n∧ws.length≤(zbi g level line ws n).1.length
 | 0=>by simp [zbi]
 | n+1=>by
  have ih:=zkt g level line ws n
  have:=zy5 (d:=zj3 g level line n) (level:=level) (line:=line) (at_:=n) ih.1
  rw [zd1]
  refine ⟨fun h=>this.2.1 (this.1 ▸ h),by omega,by omega⟩
theorem zh2 (g:List (List Int)) (level:Bool) {places:Nat} (hp:places≤6) (ws:List Wall):∀ line,(zbp g level places ws line).length≤ws.length+6*line
 | 0=>by simp [zbp]
 | line+1=>by
  have ih:=zh2 g level hp ws line
  by_cases h:1≤line
  ·rw [zee h]
   have:=(zkt g level line (zbp g level places ws line) places).2.1
   omega
  have:line=0:=by omega
  subst this
  simp [zbp]at ih ⊢
theorem zks (g:List (List Int)) (level:Bool) (line:Nat) {ws:List Wall} {M:Int} (hM:1≤M) (hws:∀ w∈ws,0≤w.long∧w.long≤M):∀ n:Nat,∀ w∈(zbi g level line ws n).1,0≤w.long∧w.long≤M+n
 | 0,w,h=>by simp [zbi]at h; have:=hws w h; omega
 | n+1,w,h=>by
  have ih:=zks g level line hM hws n
  rw [zd1]at h
  unfold zef at h
  split at h
  ·simp only[List.mem_append,Option.mem_toList,Option.mem_def,qI]at h
   rcases h with h | ⟨u,hu,rfl⟩
   ·have:=ih w ((List.dropLast_sublist _).subset h); omega
   have:=ih u (List.mem_of_getLast? hu); simp only; omega
  split at h
  ·simp only[List.mem_append,List.mem_singleton]at h
   rcases h with h | rfl
   ·have:=ih w h; omega
   simp only; omega
  have:=ih w h; omega
theorem zgy (g:List (List Int)) (level:Bool) {places:Nat} (hp:places≤6) {ws:List Wall} {M:Int} (hM:1≤M) (hws:∀ w∈ws,0≤w.long∧w.long≤M):∀ line:Nat,∀ w∈zbp g level places ws line,0≤w.long∧w.long≤M+6*line
 | 0,w,h=>by simp [zbp]at h; have:=hws w h; omega
 | line+1,w,h=>by
  have ih:=zgy g level hp hM hws line
  by_cases hl:1≤line
  ·rw [zee hl]at h
   have:=zks g level line (M:=M+6*line) (by omega) ih places w h
   omega
  have:line=0:=by omega
  subst this
  simp [zbp]at h
  have:=hws w h; omega
theorem z1c (ws:List Wall):(wcs ws).all scal=true:=by
 induction ws with
 | nil=>rfl
 | cons r rs ih=>rw [zon,List.all_append,ih]; rfl
def slW (ws:List Wall) (v:Nat):PV:=match ws with | [] => .nils | _ => .loc 0 v 0 ws.length
def stW (ws:List Wall) (v t:Nat):Store:=match ws with | []=>⟨[],t⟩ | _=>⟨[.arr v 105 4 (wcs ws)],t⟩
theorem ydf {v:Nat}:slW [] v = .nils:=rfl
theorem ydi {v t:Nat}:stW [] v t=⟨[],t⟩:=rfl
theorem zsr {ws:List Wall} {v:Nat} (h:ws≠[]):slW ws v = .loc 0 v 0 ws.length:=by cases ws with | nil=>exact absurd rfl h | cons a l=>rfl
theorem znv {ws:List Wall} {v t:Nat} (h:ws≠[]):stW ws v t=⟨[.arr v 105 4 (wcs ws)],t⟩:=by cases ws with | nil=>exact absurd rfl h | cons a l=>rfl
theorem z6y {S:Store} {k f:Nat} {sel:List Nat} (ws:List Wall):(wcs ws).mapM (rn S k sel (f+1))=some (wcs ws):=zt7 (z1c ws)
theorem z6t {S:Store} {im:Bool} {f:Nat} (ws:List Wall):(wcs ws).mapM (reify S im (f+1))=some (wcs ws):=zmv (z1c ws)
theorem z96 {d op:Bool} {ws:List Wall} (h:op=true→ws≠[]):d=false∨(d=true∧op=false∧ws=[])∨(d=true∧op=false∧ws≠[])∨(d=true∧op=true∧ws≠[]):=by
 cases d <;> cases op <;> simp_all
 by_cases hw:ws=[] <;> simp [hw]
theorem z5k {α:Type} {l:List α} (h:l≠[]):∃ l0 a,l=l0++[a]:=⟨l.dropLast,l.getLast h,(List.dropLast_concat_getLast h).symm⟩
theorem z94 {ws:List Wall} {w:Wall}:(wcs (ws++[w]))[ws.length*4+3]?=some (.int .i64 w.long):=by
 rw [zup,List.getElem?_append_right (by rw [zh1]; omega),zh1]
 simp [wcs,Wall.cells]
theorem ydt {ws:List Wall} {w:Wall} {x:Int}:(wcs (ws++[w])).take (ws.length*4+3)++[.int .i64 x]++(wcs (ws++[w])).drop (ws.length*4+4)=wcs (ws++[{ w with long:=x }]):=by
 rw [zup,zup,← zh1,List.take_length_add_append,List.drop_length_add_append]
 simp [wcs,Wall.cells]
def wsI (g:List (List Int)) (nh nw:Nat) (i:Nat):List Wall:=if i=0 then [] else if i=1 then zbp g false nh [] nw else zcc g nh nw
theorem zkr {g:List (List Int)} {level:Bool} {places:Nat} {ws:List Wall}:zbp g level places ws 1=ws:=by simp [zbp]
theorem zku {g:List (List Int)} {level:Bool} {line:Nat} {ws:List Wall}:zbi g level line ws 0=(ws,false):=rfl
theorem z98 {g:List (List Int)} {nh nw i:Nat} (h:i<2):wsI g nh nw (i+1)=zbp g (decide (i=1)) (if i=1 then nw else nh) (wsI g nh nw i) (if i=1 then nh else nw):=by
 rcases (show i=0∨i=1 by omega) with rfl | rfl <;> simp [wsI,zcc]
theorem z7z {g:List (List Int)} {nh nw i:Nat} (hh:nh≤6) (hw:nw≤6):(wsI g nh nw i).length≤72:=by
 have h1:=zh2 g false (places:=nh) hh [] nw
 have h2:=zh2 g true (places:=nw) hw (zbp g false nh [] nw) nh
 unfold wsI
 split
 ·simp
 split
 ·simp at h1; omega
 simp at h1; simp only[zcc]; omega
theorem z97 {g:List (List Int)} {nh nw i:Nat} (hh:nh≤6) (hw:nw≤6):∀ w∈wsI g nh nw i,0≤w.long∧w.long≤100:=by
 have h1:=zgy g false (places:=nh) hh (ws:=[]) (M:=1) (by omega) (by simp) nw
 have h2:=zgy g true (places:=nw) hw (M:=1+6*nw) (by omega) h1 nh
 unfold wsI
 split
 ·simp
 split
 ·intro w hw; have:=h1 w hw; omega
 intro w hw; have:=h2 w hw; omega
theorem zw3 {ws:List Wall} {v t f:Nat}:rn (stW ws v t) (stW ws v t).obs.length [] (f+1) (slW ws v)=some (slW ws v):=by
 cases ws <;> rfl
theorem zw4 {ws:List Wall} {v t:Nat}:(stW ws v t).rn (stW ws v t).obs.length []=some (stW ws v (t+1)):=by
 cases ws with
 | nil=>rfl
 | cons w ws =>
  rw [znv (by simp),znv (by simp)]
  simp [zby,zak,zan,zas,z6y,qS]
theorem zao {S:Store}:S.take S.obs.length=S:=by simp [Store.take]
theorem ybp {ws:List Wall}:(wcs ws).take (ws.length*4)=wcs ws:=by rw [← zh1,List.take_length]
theorem z95 {ws:List Wall} {w:Wall}:wcs (ws++[w])=wcs ws++w.cells:=by rw [zup]; simp [wcs]
theorem z6s {ws:List Wall} {v t:Nat} {im:Bool} {k:Nat}:reify (stW ws v t) im (k+2) (slW ws v)=some (zrn ws):=by
 cases ws with
 | nil=>rfl
 | cons w ws =>
  rw [zsr (by simp),znv (by simp)]
  exact zbh rfl (zh1 _) (z6t _)
theorem z3j {n:Nat}:(((n+1:Nat):Int) - 1).toNat=n:=by omega
theorem z1k {g:List (List Int)} {nh nw:Nat} (hg:GW g nh nw) (rs:List Rect) {level:Bool} {line at_:Nat} (hi:InL nh nw level line at_):PC Tryz.prog 139 [zbj g rs,.bool level,.int .i64 line,.int .i64 at_] (.tup [.int .i64 (zbz g level line at_).1,.int .i64 (zbz g level line at_).2]) true:=by
 have hl:=hg.1
 obtain ⟨hi1,hi2⟩:=hi
 have hb:line≤6∧at_≤6:=by have:=hg.2.2; cases level <;> simp at hi2 <;> omega
 refine PC.of ⟨Tryz.func139,by kernel_rfl,rfl,by kernel_rfl⟩ zam mixed (by show 4≤Tryz.f139.ntmps; decide) ?_
 refine W.r fun K hK=>?_
 simp(disch:=omega)only[↓RU,RV,RH,↓reduceIte,qE,reduceCtorEq,if_pos,↓RS,RG,qA,qM,qL]
 apply hK;clear hK K
 refine W.seq ?_
 refine W.r fun K hK=>?_
 simp(disch:=omega)only[↓RU,RV,RH,↓reduceIte,qE,reduceCtorEq,if_pos,↓RS,RG,qA,qM,qL]
 apply hK;clear hK K
 refine W.cond rfl (fun h0=>?_) (fun h0=>?_)
 ·try simp only[RL]at h0
  subst h0
  simp only[if_true]at hi2
  obtain ⟨r1,hr1,hl1,hx1⟩:=hg.at_ (i:=line - 1) (j:=at_) (by omega) hi2.2
  obtain ⟨r2,hr2,hl2,hx2⟩:=hg.at_ (i:=line) (j:=at_) hi2.1 hi2.2
  refine W.seq_draw (by kernel_rfl) fun K hK=>?_
  simp(disch:=omega)only[↓RU,RV,RH,↓reduceIte,qE,reduceCtorEq,if_pos,w64,↓RS,RG,qA,qM,qL,ty1,ty4,zab,zez,zcb,zdo,zaa,ze0,zdp,hr1,hx1,hr2,hx2,zaz]
  apply hK;clear hK K
  refine W.ret ?_
  refine XThen.ret ?_
  refine Br rfl ?_
  rfl
 try simp only[RL]at h0
 subst h0
 simp only[qF,if_false]at hi2
 obtain ⟨r1,hr1,hl1,hx1⟩:=hg.at_ (i:=at_) (j:=line - 1) hi2.2 (by omega)
 obtain ⟨r2,hr2,hl2,hx2⟩:=hg.at_ (i:=at_) (j:=line) hi2.2 hi2.1
 obtain rfl:r1=r2:=by rw [hr1]at hr2; exact Option.some.inj hr2
 refine W.skip ?_
 refine xn ?_
 refine W.seq_draw (by kernel_rfl) fun K hK=>?_
 simp(disch:=omega)only[↓RU,RV,RH,↓reduceIte,qE,reduceCtorEq,if_pos,w64,↓RS,RG,qA,qM,qL,ty1,ty4,zab,zez,zcb,zdo,zaa,ze0,zdp,hr1,hx1,hr2,hx2,zaz]
 apply hK;clear hK K
 refine W.ret ?_
 refine Br rfl ?_
 rfl
theorem z4n {g:List (List Int)} {nh nw:Nat} (hg:GW g nh nw) (rs:List Rect) {level:Bool} {line at_:Nat} (hi:InL nh nw level line at_):PC Tryz.prog 138 [zbj g rs,.bool level,.int .i64 line,.int .i64 at_] (.bool (zj3 g level line at_)) true:=by
 refine PC.of ⟨Tryz.func138,by kernel_rfl,rfl,by kernel_rfl⟩ zam mixed (by show 4≤Tryz.f138.ntmps; decide) ?_
 refine W.r fun K hK=>?_
 simp(disch:=omega)only[↓RU,RV,RH,↓reduceIte,qE,reduceCtorEq,if_pos]
 apply hK;clear hK K
 refine W.r fun K hK=>?_
 simp(disch:=omega)only[↓RU,RV,RH,↓reduceIte,qE,reduceCtorEq,if_pos,qN]
 refine zaf.pc (z1k hg rs hi) rfl (.inl rfl) ?_
 simp(disch:=omega)only[↓RU,RV,RH,↓reduceIte,qE,reduceCtorEq,if_pos,qN]
 apply hK;clear hK K
 refine W.r fun K hK=>?_
 simp(disch:=omega)only[↓RU,RV,RH,↓reduceIte,qE,reduceCtorEq,if_pos,w64,zaa]
 apply hK;clear hK K
 refine W.ret ?_
 refine Br rfl ?_
 rw [show zj3 g level line at_=((zbz g level line at_).1 != (zbz g level line at_).2) by rw [zta,zj3]; simp]
 rfl
theorem z93 {g:List (List Int)} {nh nw:Nat} (hg:GW g nh nw) (rs:List Rect):PC Tryz.prog 95 [zbj g rs] (zrn (zcc g nh nw)) true:=by
 have hl:=hg.1
 obtain ⟨hg1,hg2,hg3,hg4⟩:=hg.2.2
 obtain ⟨row0,hrow0,hrl0,-⟩:=hg.at_ (i:=0) (j:=0) (by omega) (by omega)
 refine PC.of ⟨Tryz.func95,by kernel_rfl,rfl,by kernel_rfl⟩ zam mixed (by show 1≤Tryz.f95.ntmps; decide) ?_
 refine W.r fun K hK=>?_
 simp(disch:=omega)only[↓RU,RV,RH,↓reduceIte,qE,reduceCtorEq,if_pos,↓RS,RG,qA,qM,qL]
 apply hK;clear hK K
 refine W.r fun K hK=>?_
 simp(disch:=omega)only[↓RU,RV,RH,↓reduceIte,qE,reduceCtorEq,if_pos,↓RS,RG,qA,qM,qL]
 apply hK;clear hK K
 refine W.seq ?_
 refine W.r fun K hK=>?_
 simp(disch:=omega)only[↓RU,RV,RH,↓reduceIte,qE,reduceCtorEq,if_pos,↓RS,RG,qA,qM,qL,ty3,zap]
 apply hK;clear hK K
 refine W.block ?_
 refine W.loopS [0,12,13,14,3] (fun n vs S=>∃ i v t:Nat,n=2 - i∧(i≤2)∧vs=[zbj g rs,.sl [.bool false,.bool true] 2,.int .i64 2,.int .i64 i,slW (wsI g nh nw i) v]∧S=stW (wsI g nh nw i) v t) 2 ?_ ?_
 ·refine ⟨0,[],[zbj g rs,.sl [.bool false,.bool true] 2,.int .i64 2,.int .i64 (0:Nat),.nils],⟨[],2⟩,?_,?_,0,0,2,rfl,by omega,rfl,rfl⟩
  ·simp [-qU,Env.put,Env.of,zae,zby,zak,zan,zas,zau,zb6,zb7,zdz,zb5,zbb,zb8,zdy,zd0,zbd,zbc,zav,zb4,zb9,zdx,za9,za8,zat,zba,zb2,zfv,qS,qP,qC]
  simp [-qU,Env.put,Env.of,zae,zby,zak,zan,zas,zau,zb6,zb7,zdz,zb5,zbb,zb8,zdy,zd0,zbd,zbc,zav,zb4,zb9,zdx,za9,za8,zat,zba,zb2,zfv,qS,qP,qC]
 rintro n vs S - ⟨i,v,t,rfl,h_i,rfl,rfl⟩
 refine W.r fun K hK=>?_
 simp(disch:=omega)only[↓RU,RV,RH,↓reduceIte,qE,reduceCtorEq,if_pos,w64,↓RS,RG,qA,qM,qL,zaa]
 apply hK;clear hK K
 refine W.seq ?_
 refine W.cond rfl (fun h=>?_) (fun h=>?_)
 ·try simp only[RL]at h
  have hi2:i<2:=by omega
  obtain ⟨ls,hls⟩:∃ ls:Nat,(if i=1 then nh else nw)=ls:=⟨_,rfl⟩
  obtain ⟨ps,hps⟩:∃ ps:Nat,(if i=1 then nw else nh)=ps:=⟨_,rfl⟩
  have hlp:1≤ls∧ls≤6∧1≤ps∧ps≤6:=by subst hls hps; split <;> omega
  have hwl:=z7z (g:=g) (nh:=nh) (nw:=nw) (i:=i) hg2 hg4
  have hlong:=z97 (g:=g) (nh:=nh) (nw:=nw) (i:=i) hg2 hg4
  have hlev:[PV.bool false,PV.bool true][i]?=some (.bool (decide (i=1))):=by rcases (show i=0∨i=1 by omega) with rfl | rfl <;> rfl
  refine W.skip ?_
  refine xn ?_
  refine W.seq ?_
  refine W.block ?_
  refine W.r fun K hK=>?_
  simp(disch:=omega)only[↓RU,RV,RH,↓reduceIte,qE,reduceCtorEq,if_pos,↓RS,RG,qA,qM,qL,ty3,zap,hlev]
  apply hK;clear hK K
  refine W.r fun K hK=>?_
  simp(disch:=omega)only[↓RU,RV,RH,↓reduceIte,qE,reduceCtorEq,if_pos,qN,↓RS,RG,qA,qM,qL,hl,hrl0]
  refine zaf.pc (zm2 hrow0 rs) rfl (.inl rfl) ?_
  simp(disch:=omega)only[↓RU,RV,RH,↓reduceIte,qE,reduceCtorEq,if_pos,qN,↓RS,RG,qA,qM,qL,hl,hrl0]
  refine zaf.pc (zkb g rs) rfl (.inl rfl) ?_
  simp(disch:=omega)only[↓RU,RV,RH,↓reduceIte,qE,reduceCtorEq,if_pos,qN,↓RS,RG,qA,qM,qL,hl,hrl0]
  apply hK;clear hK K
  refine W.join [0,12,13,14,3,5,6,7] (fun vs S=>vs=[zbj g rs,.sl [.bool false,.bool true] 2,.int .i64 2,.int .i64 i,slW (wsI g nh nw i) v,.bool (decide (i=1)),.int .i64 ls,.int .i64 ps]∧S=stW (wsI g nh nw i) v t) ?_ ?_
  ·
   refine W.r fun K hK=>?_
   simp(disch:=omega)only[↓RU,RV,RH,↓reduceIte,qE,reduceCtorEq,if_pos,↓RS,RG,qA,qM,qL]
   apply hK;clear hK K
   refine W.cond rfl (fun h1=>?_) (fun h1=>?_)
   ·try simp only[RL]at h1
    refine W.k fun K hK=>?_
    simp(disch:=omega)only[↓RU,RV,RH,↓reduceIte,qE,reduceCtorEq,if_pos,↓RS,RG,qA,qM,qL]
    apply hK;clear hK K
    refine xn ?_
    refine ⟨_,?_,zao⟩
    subst hls hps
    simp [Env.put,Env.of,h1]
   try simp only[RL]at h1
   refine W.skip ?_
   refine xn ?_
   refine ⟨_,?_,zao⟩
   subst hls hps
   simp [Env.put,Env.of,h1]
  rintro vs S - ⟨rfl,rfl⟩
  refine W.r fun K hK=>?_
  simp(disch:=omega)only[↓RU,RV,RH,↓reduceIte,qE,reduceCtorEq,if_pos,↓RS,RG,qA,qM,qL]
  apply hK;clear hK K
  refine W.block ?_
  refine W.loopS [0,12,13,14,3,5,6,7,8] (fun n vs S=>∃ line v t:Nat,n=ls - line∧(1≤line)∧(line≤ls)∧vs=[zbj g rs,.sl [.bool false,.bool true] 2,.int .i64 2,.int .i64 i,slW (zbp g (decide (i=1)) ps (wsI g nh nw i) line) v,.bool (decide (i=1)),.int .i64 ls,.int .i64 ps,.int .i64 line]∧S=stW (zbp g (decide (i=1)) ps (wsI g nh nw i) line) v t) (ls - 1) ?_ ?_
  ·refine ⟨_,[],[zbj g rs,.sl [.bool false,.bool true] 2,.int .i64 2,.int .i64 i,slW (wsI g nh nw i) v,.bool (decide (i=1)),.int .i64 ls,.int .i64 ps,.int .i64 (1:Nat)],stW (wsI g nh nw i) v (t+1),?_,zw4,1,v,t+1,rfl,by omega,by omega,by rw [zkr],by rw [zkr]⟩
   simp [-qU,Env.put,Env.of,zae,zby,zak,zan,zas,zau,zb6,zb7,zdz,zb5,zbb,zb8,zdy,zd0,zbd,zbc,zav,zb4,zb9,zdx,za9,za8,zat,zba,zb2,zfv,qS,qP,qC,zw3]
  rintro n vs S - ⟨line,v,t,rfl,h1l,h_l,rfl,rfl⟩
  refine W.seq ?_
  refine W.r fun K hK=>?_
  simp(disch:=omega)only[↓RU,RV,RH,↓reduceIte,qE,reduceCtorEq,if_pos,w64,↓RS,RG,qA,qM,qL,zaa]
  apply hK;clear hK K
  refine W.cond rfl (fun h2=>?_) (fun h2=>?_)
  ·try simp only[RL]at h2
   have hwl2:=zh2 g (decide (i=1)) hlp.2.2.2 (wsI g nh nw i) line
   have hlong2:=zgy g (decide (i=1)) hlp.2.2.2 (M:=100) (by omega) hlong line
   generalize hWs:(zbp g (decide (i=1)) ps (wsI g nh nw i) line)=Ws at hwl2 hlong2
   refine W.skip ?_
   refine xn ?_
   refine W.seq ?_
   refine W.block ?_
   refine W.r fun K hK=>?_
   simp(disch:=omega)only[↓RU,RV,RH,↓reduceIte,qE,reduceCtorEq,if_pos,↓RS,RG,qA,qM,qL]
   apply hK;clear hK K
   refine W.r fun K hK=>?_
   simp(disch:=omega)only[↓RU,RV,RH,↓reduceIte,qE,reduceCtorEq,if_pos,↓RS,RG,qA,qM,qL]
   apply hK;clear hK K
   refine W.block ?_
   refine W.loopS [0,12,13,14,3,5,6,7,8,9,30,31] (fun n vs S=>∃ at_ v t:Nat,n=ps - at_∧(at_≤ps)∧vs=[zbj g rs,.sl [.bool false,.bool true] 2,.int .i64 2,.int .i64 i,slW (zbi g (decide (i=1)) line Ws at_).1 v,.bool (decide (i=1)),.int .i64 ls,.int .i64 ps,.int .i64 line,.bool (zbi g (decide (i=1)) line Ws at_).2,.int .i64 ps,.int .i64 at_]∧S=stW (zbi g (decide (i=1)) line Ws at_).1 v t) ps ?_ ?_
   ·refine ⟨_,[],[zbj g rs,.sl [.bool false,.bool true] 2,.int .i64 2,.int .i64 i,slW Ws v,.bool (decide (i=1)),.int .i64 ls,.int .i64 ps,.int .i64 line,.bool false,.int .i64 ps,.int .i64 (0:Nat)],stW Ws v (t+1),?_,zw4,0,v,t+1,rfl,by omega,rfl,rfl⟩
    simp [-qU,Env.put,Env.of,zae,zby,zak,zan,zas,zau,zb6,zb7,zdz,zb5,zbb,zb8,zdy,zd0,zbd,zbc,zav,zb4,zb9,zdx,za9,za8,zat,zba,zb2,zfv,qS,qP,qC,zw3]
   rintro n vs S - ⟨at_,v,t,rfl,h_a,rfl,rfl⟩
   refine W.r fun K hK=>?_
   simp(disch:=omega)only[↓RU,RV,RH,↓reduceIte,qE,reduceCtorEq,if_pos,w64,↓RS,RG,qA,qM,qL,zaa]
   apply hK;clear hK K
   refine W.seq ?_
   refine W.cond rfl (fun h3=>?_) (fun h3=>?_)
   ·try simp only[RL]at h3
    have hop:=(zkt g (decide (i=1)) line Ws at_)
    have hlong3:=zks g (decide (i=1)) line (M:=100+6*line) (by omega) hlong2 at_
    have hin:InL nh nw (decide (i=1)) line at_:=by refine ⟨h1l,?_⟩; rcases (show i=0∨i=1 by omega) with rfl | rfl <;> simp at hls hps ⊢ <;> omega
    generalize hs:zbi g (decide (i=1)) line Ws at_=s at hop hlong3
    obtain ⟨ws,op⟩:=s
    simp only at hop hlong3
    refine W.skip ?_
    refine xn ?_
    refine W.seq ?_
    refine W.block ?_
    refine W.r fun K hK=>?_
    simp(disch:=omega)only[↓RU,RV,RH,↓reduceIte,qE,reduceCtorEq,if_pos,↓RS,RG,qA,qM,qL]
    apply hK;clear hK K
    refine W.r fun K hK=>?_
    simp(disch:=omega)only[↓RU,RV,RH,↓reduceIte,qE,reduceCtorEq,if_pos,qN,↓RS,RG,qA,qM,qL]
    refine zaf.pc (z4n hg rs hin) rfl (.inl rfl) ?_
    simp(disch:=omega)only[↓RU,RV,RH,↓reduceIte,qE,reduceCtorEq,if_pos,qN,↓RS,RG,qA,qM,qL]
    apply hK;clear hK K
    refine W.seq ?_
    refine W.block ?_
    refine W.r fun K hK=>?_
    obtain hd | ⟨hd,rfl,rfl⟩ | ⟨hd,rfl,hw⟩ | ⟨hd,rfl,hw⟩:=z96 (d:=zj3 g (decide (i=1)) line at_) hop.1
    ·skip
     simp(disch:=omega)only[↓RU,RV,RH,↓reduceIte,qE,reduceCtorEq,if_pos,↓RS,RG,qA,qM,qL,hd]
     apply hK;clear hK K
     refine W.cond rfl (fun h4=>?_) (fun h4=>?_)
     ·try simp only[RL]at h4
      exact absurd h4 (by simp)
     try simp only[RL]at h4
     refine W.r fun K hK=>?_
     simp(disch:=omega)only[↓RU,RV,RH,↓reduceIte,qE,reduceCtorEq,if_pos,↓RS,RG,qA,qM,qL]
     apply hK;clear hK K
     refine W.cond rfl (fun h5=>?_) (fun h5=>?_)
     ·try simp only[RL]at h5
      exact absurd h5 (by simp)
     try simp only[RL]at h5
     refine W.skip ?_
     refine XbN ?_
     refine xn ?_
     refine W.k fun K hK=>?_
     simp(disch:=omega)only[↓RU,RV,RH,↓reduceIte,qE,reduceCtorEq,if_pos,↓RS,RG,qA,qM,qL]
     apply hK;clear hK K
     refine XbN ?_
     refine xn ?_
     refine W.k fun K hK=>?_
     simp(disch:=omega)only[↓RU,RV,RH,↓reduceIte,qE,reduceCtorEq,if_pos,w64,↓RS,RG,qA,qM,qL,zaa]
     apply hK;clear hK K
     refine xn ?_
     have hnx:zbi g (decide (i=1)) line Ws (at_+1)=(ws,false):=by rw [zd1,hs,hd]; simp [zef]
     refine ⟨ps - (at_+1),by omega,(stW ws v t).obs.length,[],[zbj g rs,.sl [.bool false,.bool true] 2,.int .i64 2,.int .i64 i,slW (zbi g (decide (i=1)) line Ws (at_+1)).1 v,.bool (decide (i=1)),.int .i64 ls,.int .i64 ps,.int .i64 line,.bool (zbi g (decide (i=1)) line Ws (at_+1)).2,.int .i64 ps,.int .i64 ((at_+1:Nat):Int)],stW (zbi g (decide (i=1)) line Ws (at_+1)).1 v (t+1),?_,?_,at_+1,v,(t+1),rfl,by omega,rfl,rfl⟩
     ·rw [hnx]; simp [-qU,Env.put,Env.of,zae,zby,zak,zan,zas,zau,zb6,zb7,zdz,zb5,zbb,zb8,zdy,zd0,zbd,zbc,zav,zb4,zb9,zdx,za9,za8,zat,zba,zb2,zfv,qS,qP,qC,zw3]
     rw [hnx]; exact zw4
    ·skip
     rw [ydf,ydi]
     simp(disch:=omega)only[↓RU,RV,RH,↓reduceIte,qE,reduceCtorEq,if_pos,↓RS,RG,qA,qM,qL,hd]
     apply hK;clear hK K
     refine W.cond rfl (fun h4=>?_) (fun h4=>?_)
     ·try simp only[RL]at h4
      exact absurd h4 (by simp)
     try simp only[RL]at h4
     refine W.r fun K hK=>?_
     simp(disch:=omega)only[↓RU,RV,RH,↓reduceIte,qE,reduceCtorEq,if_pos,↓RS,RG,qA,qM,qL]
     apply hK;clear hK K
     refine W.cond rfl (fun h5=>?_) (fun h5=>?_)
     ·try simp only[RL]at h5
      refine W.k fun K hK=>?_
      simp(disch:=omega)only[↓RU,RV,RH,↓reduceIte,qE,reduceCtorEq,if_pos,↓RS,RG,qA,qM,qL,ty5,zap,z1p,zaa,z1q,zh1,ybp]
      apply hK;clear hK K
      refine XbN ?_
      refine xn ?_
      refine W.k fun K hK=>?_
      simp(disch:=omega)only[↓RU,RV,RH,↓reduceIte,qE,reduceCtorEq,if_pos,↓RS,RG,qA,qM,qL]
      apply hK;clear hK K
      refine XbN ?_
      refine xn ?_
      refine W.k fun K hK=>?_
      simp(disch:=omega)only[↓RU,RV,RH,↓reduceIte,qE,reduceCtorEq,if_pos,w64,↓RS,RG,qA,qM,qL,zaa]
      apply hK;clear hK K
      refine xn ?_
      have hnx:zbi g (decide (i=1)) line Ws (at_+1)=([⟨decide (i=1),line,at_,1⟩],true):=by rw [zd1,hs,hd]; simp [zef]
      refine ⟨ps - (at_+1),by omega,0,[1],[zbj g rs,.sl [.bool false,.bool true] 2,.int .i64 2,.int .i64 i,slW (zbi g (decide (i=1)) line Ws (at_+1)).1 (t+2),.bool (decide (i=1)),.int .i64 ls,.int .i64 ps,.int .i64 line,.bool (zbi g (decide (i=1)) line Ws (at_+1)).2,.int .i64 ps,.int .i64 ((at_+1:Nat):Int)],stW (zbi g (decide (i=1)) line Ws (at_+1)).1 (t+2) (t+3),?_,?_,at_+1,(t+2),(t+3),rfl,by omega,rfl,rfl⟩
      ·rw [hnx]; simp [-qU,Env.put,Env.of,zae,zby,zak,zan,zas,zau,zb6,zb7,zdz,zb5,zbb,zb8,zdy,zd0,zbd,zbc,zav,zb4,zb9,zdx,za9,za8,zat,zba,zb2,zfv,qS,qP,qC,zsr]
      rw [hnx]; simp [-qU,Env.put,Env.of,zae,zby,zak,zan,zas,zau,zb6,zb7,zdz,zb5,zbb,zb8,zdy,zd0,zbd,zbc,zav,zb4,zb9,zdx,za9,za8,zat,zba,zb2,zfv,qS,qP,qC,znv,wcs,Wall.cells]
     try simp only[RL]at h5
     exact absurd h5 (by simp)
    ·skip
     rw [zsr hw,znv hw]
     simp(disch:=omega)only[↓RU,RV,RH,↓reduceIte,qE,reduceCtorEq,if_pos,↓RS,RG,qA,qM,qL,hd]
     apply hK;clear hK K
     refine W.cond rfl (fun h4=>?_) (fun h4=>?_)
     ·try simp only[RL]at h4
      exact absurd h4 (by simp)
     try simp only[RL]at h4
     refine W.r fun K hK=>?_
     simp(disch:=omega)only[↓RU,RV,RH,↓reduceIte,qE,reduceCtorEq,if_pos,↓RS,RG,qA,qM,qL]
     apply hK;clear hK K
     refine W.cond rfl (fun h5=>?_) (fun h5=>?_)
     ·try simp only[RL]at h5
      refine W.k fun K hK=>?_
      simp(disch:=omega)only[↓RU,RV,RH,↓reduceIte,qE,reduceCtorEq,if_pos,↓RS,RG,qA,qM,qL,ty5,zap,z1p,zaa,z1q,zh1,ybp]
      apply hK;clear hK K
      refine XbN ?_
      refine xn ?_
      refine W.k fun K hK=>?_
      simp(disch:=omega)only[↓RU,RV,RH,↓reduceIte,qE,reduceCtorEq,if_pos,↓RS,RG,qA,qM,qL]
      apply hK;clear hK K
      refine XbN ?_
      refine xn ?_
      refine W.k fun K hK=>?_
      simp(disch:=omega)only[↓RU,RV,RH,↓reduceIte,qE,reduceCtorEq,if_pos,w64,↓RS,RG,qA,qM,qL,zaa]
      apply hK;clear hK K
      refine xn ?_
      have hnx:zbi g (decide (i=1)) line Ws (at_+1)=(ws++[⟨decide (i=1),line,at_,1⟩],true):=by rw [zd1,hs,hd]; simp [zef]
      refine ⟨ps - (at_+1),by omega,1,[],[zbj g rs,.sl [.bool false,.bool true] 2,.int .i64 2,.int .i64 i,slW (zbi g (decide (i=1)) line Ws (at_+1)).1 (t+1),.bool (decide (i=1)),.int .i64 ls,.int .i64 ps,.int .i64 line,.bool (zbi g (decide (i=1)) line Ws (at_+1)).2,.int .i64 ps,.int .i64 ((at_+1:Nat):Int)],stW (zbi g (decide (i=1)) line Ws (at_+1)).1 (t+1) (t+3),?_,?_,at_+1,(t+1),(t+3),rfl,by omega,rfl,rfl⟩
      ·rw [hnx]; simp [-qU,Env.put,Env.of,zae,zby,zak,zan,zas,zau,zb6,zb7,zdz,zb5,zbb,zb8,zdy,zd0,zbd,zbc,zav,zb4,zb9,zdx,za9,za8,zat,zba,zb2,zfv,qS,qP,qC,zsr]
      rw [hnx]; simp [-qU,Env.put,Env.of,zae,zby,zak,zan,zas,zau,zb6,zb7,zdz,zb5,zbb,zb8,zdy,zd0,zbd,zbc,zav,zb4,zb9,zdx,za9,za8,zat,zba,zb2,zfv,qS,qP,qC,znv,z6y,z95,Wall.cells]
     try simp only[RL]at h5
     exact absurd h5 (by simp)
    skip
    obtain ⟨ws,w,rfl⟩:=z5k hw
    rw [zsr hw,znv hw]
    have hwlg:=hlong3 w (by simp)
    have hwl3:ws.length+1≤200:=by have:=hop.2.1; simp at this; omega
    simp(disch:=omega)only[↓RU,RV,RH,↓reduceIte,qE,reduceCtorEq,if_pos,↓RS,RG,qA,qM,qL,hd]
    apply hK;clear hK K
    refine W.cond rfl (fun h4=>?_) (fun h4=>?_)
    ·try simp only[RL]at h4
     refine W.k fun K hK=>?_
     simp(disch:=omega)only[↓RU,RV,RH,↓reduceIte,qE,reduceCtorEq,if_pos,w64,↓RS,RG,qA,qM,qL,ty5,zap,z1p,zaa,z1q,List.length_append,zh1,z94,ydt,z3j]
     apply hK;clear hK K
     refine XbN ?_
     refine xn ?_
     refine W.k fun K hK=>?_
     simp(disch:=omega)only[↓RU,RV,RH,↓reduceIte,qE,reduceCtorEq,if_pos,↓RS,RG,qA,qM,qL]
     apply hK;clear hK K
     refine XbN ?_
     refine xn ?_
     refine W.k fun K hK=>?_
     simp(disch:=omega)only[↓RU,RV,RH,↓reduceIte,qE,reduceCtorEq,if_pos,w64,↓RS,RG,qA,qM,qL,zaa]
     apply hK;clear hK K
     refine xn ?_
     have hnx:zbi g (decide (i=1)) line Ws (at_+1)=(ws++[{ w with long:=w.long+1 }],true):=by rw [zd1,hs,hd]; simp [zef]
     refine ⟨ps - (at_+1),by omega,1,[],[zbj g rs,.sl [.bool false,.bool true] 2,.int .i64 2,.int .i64 i,slW (zbi g (decide (i=1)) line Ws (at_+1)).1 v,.bool (decide (i=1)),.int .i64 ls,.int .i64 ps,.int .i64 line,.bool (zbi g (decide (i=1)) line Ws (at_+1)).2,.int .i64 ps,.int .i64 ((at_+1:Nat):Int)],stW (zbi g (decide (i=1)) line Ws (at_+1)).1 v (t+1),?_,?_,at_+1,v,(t+1),rfl,by omega,rfl,rfl⟩
     ·rw [hnx]; simp [-qU,Env.put,Env.of,zae,zby,zak,zan,zas,zau,zb6,zb7,zdz,zb5,zbb,zb8,zdy,zd0,zbd,zbc,zav,zb4,zb9,zdx,za9,za8,zat,zba,zb2,zfv,qS,qP,qC,zsr]
     rw [hnx]; simp [-qU,Env.put,Env.of,zae,zby,zak,zan,zas,zau,zb6,zb7,zdz,zb5,zbb,zb8,zdy,zd0,zbd,zbc,zav,zb4,zb9,zdx,za9,za8,zat,zba,zb2,zfv,qS,qP,qC,znv,z6y]
    try simp only[RL]at h4
    exact absurd h4 (by simp)
   ·try simp only[RL]at h3
    obtain rfl:ps=at_:=by omega
    refine W.exit ?_
    refine xe ?_
    refine xe ?_
    refine XBlock.hit ?_
    refine XbN ?_
    refine xn ?_
    refine W.k fun K hK=>?_
    simp(disch:=omega)only[↓RU,RV,RH,↓reduceIte,qE,reduceCtorEq,if_pos,w64,↓RS,RG,qA,qM,qL,zaa]
    apply hK;clear hK K
    refine xn ?_
    refine ⟨ls - (line+1),by omega,(stW (zbi g (decide (i=1)) line Ws ps).1 v t).obs.length,[],[zbj g rs,.sl [.bool false,.bool true] 2,.int .i64 2,.int .i64 i,slW (zbp g (decide (i=1)) ps (wsI g nh nw i) (line+1)) v,.bool (decide (i=1)),.int .i64 ls,.int .i64 ps,.int .i64 ((line+1:Nat):Int)],stW (zbp g (decide (i=1)) ps (wsI g nh nw i) (line+1)) v (t+1),?_,?_,line+1,v,t+1,rfl,by omega,by omega,rfl,rfl⟩
    rotate_left
    ·rw [zee h1l,hWs]; exact zw4
    rw [zee h1l,hWs]; simp [-qU,Env.put,Env.of,zae,zby,zak,zan,zas,zau,zb6,zb7,zdz,zb5,zbb,zb8,zdy,zd0,zbd,zbc,zav,zb4,zb9,zdx,za9,za8,zat,zba,zb2,zfv,qS,qP,qC,zw3]
  ·try simp only[RL]at h2
   obtain rfl:ls=line:=by omega
   refine W.exit ?_
   refine xe ?_
   refine xe ?_
   refine XBlock.hit ?_
   refine XbN ?_
   refine xn ?_
   refine W.k fun K hK=>?_
   simp(disch:=omega)only[↓RU,RV,RH,↓reduceIte,qE,reduceCtorEq,if_pos,w64,↓RS,RG,qA,qM,qL,zaa]
   apply hK;clear hK K
   refine xn ?_
   have hwn:=z98 (g:=g) (nh:=nh) (nw:=nw) hi2
   rw [hps,hls]at hwn
   refine ⟨2 - (i+1),by omega,(stW (zbp g (decide (i=1)) ps (wsI g nh nw i) ls) v t).obs.length,[],[zbj g rs,.sl [.bool false,.bool true] 2,.int .i64 2,.int .i64 ((i+1:Nat):Int),slW (wsI g nh nw (i+1)) v],stW (wsI g nh nw (i+1)) v (t+1),?_,?_,i+1,v,t+1,rfl,by omega,rfl,rfl⟩
   rotate_left
   ·rw [hwn]; exact zw4
   rw [hwn]; simp [-qU,Env.put,Env.of,zae,zby,zak,zan,zas,zau,zb6,zb7,zdz,zb5,zbb,zb8,zdy,zd0,zbd,zbc,zav,zb4,zb9,zdx,za9,za8,zat,zba,zb2,zfv,qS,qP,qC,zw3]
 try simp only[RL]at h
 refine W.exit ?_
 refine xe ?_
 refine xe ?_
 refine XBlock.hit ?_
 refine xn ?_
 refine W.r fun K hK=>?_
 simp(disch:=omega)only[↓RU,RV,RH,↓reduceIte,qE,reduceCtorEq,if_pos,↓RS,RG,qA,qM,qL]
 apply hK;clear hK K
 refine W.ret ?_
 refine Br rfl ?_
 obtain rfl:i=2:=by omega
 rw [show wsI g nh nw 2=zcc g nh nw from rfl]
 exact z6s
theorem gF {F R:List Ob} {a:Ob}:(F++a::R)[F.length]?=some a:=by simp
theorem zdn {F R:List Ob} {a b:Ob}:(F++a::R).set F.length b=F++b::R:=by simp
theorem z9r {α:Type} {f:α→PV} {l:List α} {x:α} {a n:Nat}:(l.map f).take a++(List.replicate n x).map f++(l.map f).drop (a+n)=(l.take a++List.replicate n x++l.drop (a+n)).map f:=by simp
theorem z78 {q:IntKind} {l:List Int}:zbn (l.map (PV.int q))=True:=eq_true (zuw (fun _=>rfl) l)
def ddp (l:List Int):List Int:=l.foldl zib []
theorem zn5 {l:List Int} {p:Nat} {x:Int} (h:l[p]?=some x):ddp (l.take (p+1))=zib (ddp (l.take p)) x:=zek h
theorem z6m (l:List Int) (x:Int):(zib l x).getLast?=some x:=by
 unfold zib; split
 ·assumption
 simp
theorem ztd {l:List Int} {p:Nat} {y:Int} (h:l[p]?=some y):(ddp (l.take (p+1))).getLast?=some y:=by rw [zn5 h]; exact z6m _ _
theorem zn4 {l:List Int} {p:Nat} {x y:Int} (hp:1≤p) (h0:l[p - 1]?=some y) (h:l[p]?=some x) (e:x=y):ddp (l.take (p+1))=ddp (l.take p):=by
 have:=ztd h0
 rw [show p - 1+1=p by omega]at this
 rw [zn5 h,zib,this,e]; simp
theorem zx5 {l:List Int} {p:Nat} {x y:Int} (hp:1≤p) (h0:l[p - 1]?=some y) (h:l[p]?=some x) (e:¬ x=y):ddp (l.take (p+1))=ddp (l.take p)++[x]:=by
 have:=ztd h0
 rw [show p - 1+1=p by omega]at this
 rw [zn5 h,zib,this,if_neg (by simpa using Ne.symm e)]
theorem yb0 {l:List Int} (h:1≤l.length):ddp (l.take 1)=l.take 1:=by
 cases l with
 | nil=>simp at h
 | cons a l=>rfl
theorem zu7 {l:List Int} (h:l.length<2):ddp l=l:=by
 match l,h with
 | [],_=>rfl
 | [a],_=>rfl
theorem z4k (l:List Int):(ddp l).length≤l.length:=by
 unfold ddp
 have:∀ (l m:List Int),(l.foldl zib m).length≤m.length+l.length:=by
  intro l
  induction l with
  | nil=>intro m; simp
  | cons a l ih=>intro m; have:=ih (zib m a); have:=zlq (l:=m) (x:=a); simp only[List.foldl_cons,List.length_cons]; omega
 have:=this l []
 simpa using this
structure DC (l c:List Int) (k p:Nat):Prop where
 len:c.length=l.length
 dk:(ddp (l.take p)).length=k
 hd:c.take k=ddp (l.take p)
 dr:c.drop (p - 1)=l.drop (p - 1)
 kp:k+1≤p
theorem DC.get {l c:List Int} {k p j:Nat} (h:DC l c k p) (hj:p - 1≤j):c[j]?=l[j]?:=by
 have:=congrArg (fun x=>x[j - (p - 1)]?) h.dr
 simp only[List.getElem?_drop]at this
 rwa [show p - 1+(j - (p - 1))=j by omega]at this
theorem DC.first {l:List Int} {k:Nat} {x y:Int} (h1:1≤k) (hd:ddp (l.take k)=l.take k) (hy:l[k - 1]?=some y) (hx:l[k]?=some x) (e:x=y):DC l l k (k+1):=by
 have hk:=zay hx
 refine ⟨rfl,?_,?_,rfl,qR _⟩
 ·rw [zn4 h1 hy hx e,hd,List.length_take]; omega
 rw [zn4 h1 hy hx e,hd]
theorem DC.same {l c:List Int} {k p:Nat} {x y:Int} (h:DC l c k p) (h1:1≤p) (hy:l[p - 1]?=some y) (hx:l[p]?=some x) (e:x=y):DC l c k (p+1):=by
 refine ⟨h.len,?_,?_,?_,by have:=h.kp; omega⟩
 ·rw [zn4 h1 hy hx e]; exact h.dk
 ·rw [zn4 h1 hy hx e]; exact h.hd
 have:=congrArg (List.drop 1) h.dr
 rw [List.drop_drop,List.drop_drop]at this
 rwa [show p - 1+1=p by omega]at this
theorem DC.new {l c:List Int} {k p:Nat} {x y:Int} (h:DC l c k p) (h1:1≤p) (hy:l[p - 1]?=some y) (hx:l[p]?=some x) (e:¬ x=y):DC l (c.set k x) (k+1) (p+1):=by
 have hp:=zay hx
 have hk:=h.kp
 have hl:=h.len
 refine ⟨by simpa using hl,?_,?_,?_,by omega⟩
 ·rw [zx5 h1 hy hx e,List.length_append,h.dk]; rfl
 ·rw [zx5 h1 hy hx e,← h.hd]
  have:(c.set k x)[k]?=some x:=by rw [List.getElem?_set]; simp; omega
  rw [tk this,List.take_set_of_le (qR _)]
 rw [Nat.add_sub_cancel,List.drop_set_of_lt (by omega)]
 have:=congrArg (List.drop 1) h.dr
 rw [List.drop_drop,List.drop_drop]at this
 rwa [show p - 1+1=p by omega]at this
def za3 (g:List (List Int)) (level:Bool) (line fr:Nat) (n:Nat):List Int × List Int :=
 ((List.range n).map fun j=>(zbz g level line (fr+j)).1,(List.range n).map fun j=>(zbz g level line (fr+j)).2)
theorem zfo {g:List (List Int)} {level:Bool} {line fr n:Nat}:(za3 g level line fr (n+1)).1=(za3 g level line fr n).1++[(zbz g level line (fr+n)).1]:=by simp [za3,qS]
theorem zfp {g:List (List Int)} {level:Bool} {line fr n:Nat}:(za3 g level line fr (n+1)).2=(za3 g level line fr n).2++[(zbz g level line (fr+n)).2]:=by simp [za3,qS]
theorem zme {g:List (List Int)} {level:Bool} {line fr n:Nat}:(za3 g level line fr n).1.length=n∧(za3 g level line fr n).2.length=n:=by simp [za3]
def slL (l:List Int) (k v:Nat):PV:=match l with | [] => .nils | _ => .loc k v 0 l.length
def tlL (l m:List Int) (v0 v1:Nat):List Ob:=match l with | []=>[] | _=>[.arr v0 3 1 (l.map (.int .i64)),.arr v1 3 1 (m.map (.int .i64))]
theorem zsq {l:List Int} {k v:Nat} (h:l≠[]):slL l k v = .loc k v 0 l.length:=by cases l with | nil=>exact absurd rfl h | cons a l=>rfl
theorem z1o {l m:List Int} {v0 v1:Nat} (h:l≠[]):tlL l m v0 v1=[.arr v0 3 1 (l.map (.int .i64)),.arr v1 3 1 (m.map (.int .i64))]:=by cases l with | nil=>exact absurd rfl h | cons a l=>rfl
theorem zit {S:Store} {k f:Nat} {sel:List Nat} {q:IntKind} (l:List Int):(l.map (PV.int q)).mapM (rn S k sel (f+1))=some (l.map (PV.int q)) :=
 za5 fun x hx=>by obtain ⟨a,_,rfl⟩:=List.mem_map.1 hx; rfl
theorem zwu {S:Store} {im:Bool} {k o ver et:Nat} {l z:List Int} (h:S.obs[o]?=some (.arr ver et 1 ((l++z).map (.int .i64)))):reify S im (k+2) (.loc o ver 0 l.length)=some (eInts l):=by
 simp only[reify,h,Nat.zero_add,Nat.mul_one,List.length_map,List.length_append,Nat.le_add_right,and_self,if_true,List.drop_zero,List.map_append]
 rw [List.take_append_of_le_length (by simp),qT (by simp)]
 have:=zlc (S:=S) (im:=im) (k:=k) (q := .i64) l
 simp only[eInts]
 exact congrArg (Option.map fun x=>PV.sl x l.length) this
theorem zmg {F R:List Ob} {ver t:Nat} {l:List Int} (hl:l.length<2147483648):Ev Tryz.prog 125 [.loc F.length ver 0 l.length] ⟨F ++ .arr ver 3 1 (l.map (.int .i64))::R,t⟩ fun v S=>∃ z:List Int,v = .loc F.length ver 0 (ddp l).length∧S=⟨F ++ .arr ver 3 1 ((ddp l++z).map (.int .i64))::R,t⟩:=by
 refine Ev.of ⟨Tryz.func125,by kernel_rfl,rfl,by kernel_rfl⟩ zam mixed (by show 1≤Tryz.f125.ntmps; decide) ?_
 refine W.r fun K hK=>?_
 simp(disch:=omega)only[↓RU,RV,RH,↓reduceIte,qE,reduceCtorEq,if_pos,↓RS,RG,qA,qM,qL,gF,zdn]
 apply hK;clear hK K
 refine W.seq ?_
 refine W.r fun K hK=>?_
 simp(disch:=omega)only[↓RU,RV,RH,↓reduceIte,qE,reduceCtorEq,if_pos,w64,↓RS,RG,qA,qM,qL,zab,zaa,gF,zdn]
 apply hK;clear hK K
 refine W.cond rfl (fun h=>?_) (fun h=>?_)
 ·try simp only[RL]at h
  refine W.r fun K hK=>?_
  simp(disch:=omega)only[↓RU,RV,RH,↓reduceIte,qE,reduceCtorEq,if_pos,↓RS,RG,qA,qM,qL,gF,zdn]
  apply hK;clear hK K
  refine W.ret ?_
  refine XThen.ret ?_
  refine Br rfl ?_
  refine ⟨(F++Ob.arr ver 3 1 (l.map (.int .i64))::R).length,[],?_,?_⟩
  ·rw [zu7 (by omega)]; rfl
  rw [qN,zu7 (by omega)]; exact zao
 try simp only[RL]at h
 refine W.skip ?_
 refine xn ?_
 refine W.seq ?_
 refine W.r fun K hK=>?_
 simp(disch:=omega)only[↓RU,RV,RH,↓reduceIte,qE,reduceCtorEq,if_pos,↓RS,RG,qA,qM,qL,gF,zdn]
 apply hK;clear hK K
 refine W.block ?_
 refine W.loop [0,3] (fun n vs S=>∃ k0:Nat,n=l.length - k0∧k0≤l.length∧(1≤k0)∧(ddp (l.take k0)=l.take k0)∧vs=[.loc F.length ver 0 l.length,.int .i64 k0]∧S=⟨F ++ .arr ver 3 1 (l.map (.int .i64))::R,t⟩) (l.length - 1) ?_ ?_
 ·refine ⟨_,1,rfl,by omega,qR _,yb0 (by omega),?_,zao⟩
  simp [Env.put,Env.of,zae]
 rintro n vs S - ⟨k0,rfl,h_k0,h1k,hd,rfl,rfl⟩
 refine W.seq ?_
 refine W.r fun K hK=>?_
 simp(disch:=omega)only[↓RU,RV,RH,↓reduceIte,qE,reduceCtorEq,if_pos,w64,↓RS,RG,qA,qM,qL,zab,zaa,gF,zdn]
 apply hK;clear hK K
 refine W.cond rfl (fun h1=>?_) (fun h1=>?_)
 ·try simp only[RL]at h1
  obtain ⟨x,hx,-⟩:=zad (show k0<l.length by omega)
  obtain ⟨y,hy,-⟩:=zad (show k0 - 1<l.length by omega)
  refine W.skip ?_
  refine xn ?_
  refine W.seq ?_
  refine W.block ?_
  refine W.seq_draw (by kernel_rfl) fun K hK=>?_
  simp(disch:=omega)only[↓RU,RV,RH,↓reduceIte,qE,reduceCtorEq,if_pos,w64,↓RS,RG,qA,qM,qL,zab,zaa,gF,zdn,hx,hy,zaz]
  apply hK;clear hK K
  refine W.cond rfl (fun h2=>?_) (fun h2=>?_)
  ·try simp only[RL]at h2
   refine W.r fun K hK=>?_
   simp(disch:=omega)only[↓RU,RV,RH,↓reduceIte,qE,reduceCtorEq,if_pos,Option.map_none,↓RS,RG,qA,qM,qL,zab,zaa,gF,zdn]
   apply hK;clear hK K
   refine W.seq ?_
   refine W.r fun K hK=>?_
   simp(disch:=omega)only[↓RU,RV,RH,↓reduceIte,qE,reduceCtorEq,if_pos,↓RS,RG,qA,qM,qL,gF,zdn]
   apply hK;clear hK K
   refine W.block ?_
   refine W.loop [0,3,4,5] (fun n vs S=>∃ k p:Nat,∃ c:List Int,n=l.length - p∧DC l c k p∧k0+1≤p∧p≤l.length∧vs=[.loc F.length ver 0 l.length,.int .i64 k,.loc F.length ver k0 (l.length - k0),.int .i64 ((p - k0:Nat):Int)]∧S=⟨F ++ .arr ver 3 1 (c.map (.int .i64))::R,t⟩) (l.length - (k0+1)) ?_ ?_
   ·refine ⟨_,k0,k0+1,l,rfl,DC.first h1k hd hy hx h2,qR _,by omega,?_,zao⟩
    simp [Env.put,Env.of]
   rintro n vs S - ⟨k,p,c,rfl,hdc,hk0,h_p,rfl,rfl⟩
   refine W.seq ?_
   refine W.r fun K hK=>?_
   simp(disch:=omega)only[↓RU,RV,RH,↓reduceIte,qE,reduceCtorEq,if_pos,w64,↓RS,RG,qA,qM,qL,zab,zaa,gF,zdn]
   apply hK;clear hK K
   refine W.cond rfl (fun h3=>?_) (fun h3=>?_)
   ·try simp only[RL]at h3
    have hkp:=hdc.kp
    obtain ⟨x2,hx2,-⟩:=zad (show p<l.length by omega)
    obtain ⟨y2,hy2,-⟩:=zad (show p - 1<l.length by omega)
    have hcx:=hdc.get (j:=p) (by omega)
    have hcy:=hdc.get (j:=p - 1) (by omega)
    rw [hx2]at hcx
    rw [hy2]at hcy
    have hcl:=hdc.len
    have e1:k0+(p - k0)=p:=by omega
    have e2:k0+(p - k0 - 1)=p - 1:=by omega
    refine W.skip ?_
    refine xn ?_
    refine W.seq ?_
    refine W.block ?_
    refine W.seq_draw (by kernel_rfl) fun K hK=>?_
    simp(disch:=omega)only[↓RU,RV,RH,↓reduceIte,qE,reduceCtorEq,if_pos,w64,↓RS,RG,qA,qM,qL,zab,zaa,gF,zdn,hcx,hcy,zaz,e1,e2]
    apply hK;clear hK K
    refine W.cond rfl (fun h4=>?_) (fun h4=>?_)
    ·try simp only[RL]at h4
     refine W.r fun K hK=>?_
     simp(disch:=omega)only[↓RU,RV,RH,↓reduceIte,qE,reduceCtorEq,if_pos,↓RS,RG,qA,qM,qL,zab,zaa,gF,zdn,hcx,e1,hcl,zbe,zc9]
     apply hK;clear hK K
     refine W.k fun K hK=>?_
     simp(disch:=omega)only[↓RU,RV,RH,↓reduceIte,qE,reduceCtorEq,if_pos,w64,↓RS,RG,qA,qM,qL,zaa,gF,zdn]
     apply hK;clear hK K
     refine XbN ?_
     refine xn ?_
     refine W.k fun K hK=>?_
     simp(disch:=omega)only[↓RU,RV,RH,↓reduceIte,qE,reduceCtorEq,if_pos,w64,↓RS,RG,qA,qM,qL,zaa,gF,zdn]
     apply hK;clear hK K
     refine xn ?_
     refine ⟨l.length - (p+1),by omega,_,k+1,p+1,c.set k x2,rfl,hdc.new (by omega) hy2 hx2 h4,by omega,by omega,?_,zao⟩
     simp [Env.put,Env.of,show p+1 - k0=p - k0+1 by omega]
    try simp only[RL]at h4
    refine W.skip ?_
    refine XbN ?_
    refine xn ?_
    refine W.k fun K hK=>?_
    simp(disch:=omega)only[↓RU,RV,RH,↓reduceIte,qE,reduceCtorEq,if_pos,w64,↓RS,RG,qA,qM,qL,zaa,gF,zdn]
    apply hK;clear hK K
    refine xn ?_
    refine ⟨l.length - (p+1),by omega,_,k,p+1,c,rfl,hdc.same (by omega) hy2 hx2 h4,by omega,by omega,?_,zao⟩
    simp [Env.put,Env.of,show p+1 - k0=p - k0+1 by omega]
   try simp only[RL]at h3
   have hkp:=hdc.kp
   have hcl:=hdc.len
   obtain rfl:p=l.length:=by omega
   refine W.exit ?_
   refine xe ?_
   refine xe ?_
   refine XBlock.hit ?_
   refine xn ?_
   refine W.r fun K hK=>?_
   simp(disch:=omega)only[↓RU,RV,RH,↓reduceIte,qE,reduceCtorEq,if_pos,Option.map_none,zgh,zel,↓RS,RG,qA,qM,qL,zab,zaa,gF,zdn,hcl,zel,z9r,z78,List.length_replicate]
   apply hK;clear hK K
   refine W.r fun K hK=>?_
   simp(disch:=omega)only[↓RU,RV,RH,↓reduceIte,qE,reduceCtorEq,if_pos,Option.map_none,↓RS,RG,qA,qM,qL,zab,zaa,gF,zdn]
   apply hK;clear hK K
   refine W.ret ?_
   refine XBlock.ret ?_
   refine XThen.ret ?_
   refine XThen.ret ?_
   refine XBlock.ret ?_
   refine XThen.ret ?_
   refine Br rfl ?_
   have hdk:=hdc.dk
   rw [List.take_length]at hdk
   have htk:=hdc.hd
   rw [List.take_length]at htk
   have hdrop:c.drop (k+(l.length - k))=[]:=List.drop_of_length_le (by omega)
   rw [hdrop,qN,htk]
   refine ⟨(F++Ob.arr ver 3 1 ((ddp l++List.replicate (l.length - k) 0).map (.int .i64))::R).length,_,?_,zao⟩
   rw [hdk]; rfl
  try simp only[RL]at h2
  refine W.skip ?_
  refine XbN ?_
  refine xn ?_
  refine W.k fun K hK=>?_
  simp(disch:=omega)only[↓RU,RV,RH,↓reduceIte,qE,reduceCtorEq,if_pos,w64,↓RS,RG,qA,qM,qL,zaa,gF,zdn]
  apply hK;clear hK K
  refine xn ?_
  refine ⟨l.length - (k0+1),by omega,_,k0+1,rfl,by omega,by omega,by rw [zx5 h1k hy hx h2,hd,← tk hx],?_,zao⟩
  simp [Env.put,Env.of]
 try simp only[RL]at h1
 refine W.exit ?_
 refine xe ?_
 refine xe ?_
 refine XBlock.hit ?_
 refine xn ?_
 refine W.r fun K hK=>?_
 simp(disch:=omega)only[↓RU,RV,RH,↓reduceIte,qE,reduceCtorEq,if_pos,↓RS,RG,qA,qM,qL,gF,zdn]
 apply hK;clear hK K
 refine W.ret ?_
 refine Br rfl ?_
 obtain rfl:k0=l.length:=by omega
 refine ⟨(F++Ob.arr ver 3 1 (l.map (.int .i64))::R).length,[],?_,?_⟩
 ·rw [show ddp l=l by simpa using hd]; rfl
 rw [qN,show ddp l=l by simpa using hd]; exact zao
theorem z79 {g:List (List Int)} {nh nw:Nat} (hg:GW g nh nw) (rs:List Rect) {level:Bool} {line fr long:Nat} (h1:1≤long) (hin:∀ j,fr≤j→j<fr+long→InL nh nw level line j):PC Tryz.prog 96 [zbj g rs,yem ⟨level,line,fr,long⟩] (.tup [eInts (ddp (za3 g level line fr long).1),eInts (ddp (za3 g level line fr long).2)]) true:=by
 have hgg:=hg.2.2
 have hb:fr+long≤6:=by have h:=hin (fr+long - 1) (by omega) (by omega); unfold InL at h; cases level <;> simp at h <;> omega
 simp only[yem,Wall.cells]
 refine PC.of ⟨Tryz.func96,by kernel_rfl,rfl,by kernel_rfl⟩ zam mixed (by show 2≤Tryz.f96.ntmps; decide) ?_
 refine W.r fun K hK=>?_
 simp(disch:=omega)only[↓RU,RV,RH,↓reduceIte,qE,reduceCtorEq,if_pos,↓RS,RG,qA,qM,qL,zap,z1p,zaa,z1q]
 apply hK;clear hK K
 refine W.r fun K hK=>?_
 simp(disch:=omega)only[↓RU,RV,RH,↓reduceIte,qE,reduceCtorEq,if_pos,↓RS,RG,qA,qM,qL]
 apply hK;clear hK K
 refine W.seq ?_
 refine W.r fun K hK=>?_
 simp(disch:=omega)only[↓RU,RV,RH,↓reduceIte,qE,reduceCtorEq,if_pos,↓RS,RG,qA,qM,qL,zap,z1p,zaa,z1q]
 apply hK;clear hK K
 refine W.block ?_
 refine W.loopS [0,3,6,7,8] (fun n vs S=>∃ j v0 v1 t:Nat,n=long - j∧j≤long∧vs=[zbj g rs,.ref 0 0 0,slL (za3 g level line fr j).1 1 v0,slL (za3 g level line fr j).2 2 v1,.int .i64 (((fr+j:Nat):Int))]∧S=⟨(.arr 0 105 4 [.bool level,.int .i64 line,.int .i64 fr,.int .i64 long])::tlL (za3 g level line fr j).1 (za3 g level line fr j).2 v0 v1,t⟩) long ?_ ?_
 ·refine ⟨1,[],[zbj g rs,.ref 0 0 0,slL (za3 g level line fr 0).1 1 0,slL (za3 g level line fr 0).2 2 0,.int .i64 (((fr+0:Nat):Int))],⟨(.arr 0 105 4 [.bool level,.int .i64 line,.int .i64 fr,.int .i64 long])::tlL (za3 g level line fr 0).1 (za3 g level line fr 0).2 0 0,2⟩,?_,?_,0,0,0,2,rfl,by omega,rfl,rfl⟩
  ·simp [-qU,Env.put,Env.of,zae,zby,zak,zan,zas,zau,zb6,zb7,zdz,zb5,zbb,zb8,zdy,zd0,zbd,zbc,zav,zb4,zb9,zdx,za9,za8,zat,zba,zb2,zfv,qS,qP,qC,za3,slL]
  simp [-qU,Env.put,Env.of,zae,zby,zak,zan,zas,zau,zb6,zb7,zdz,zb5,zbb,zb8,zdy,zd0,zbd,zbc,zav,zb4,zb9,zdx,za9,za8,zat,zba,zb2,zfv,qS,qP,qC,za3,tlL]
 rintro n vs S - ⟨j,v0,v1,t,rfl,h_j,rfl,rfl⟩
 refine W.seq ?_
 refine W.r fun K hK=>?_
 simp(disch:=omega)only[↓RU,RV,RH,↓reduceIte,qE,reduceCtorEq,if_pos,w64,↓RS,RG,qA,qM,qL,zap,z1p,zaa,z1q]
 apply hK;clear hK K
 refine W.cond rfl (fun h=>?_) (fun h=>?_)
 ·try simp only[RL]at h
  have hjl:j<long:=by omega
  have hij:=hin (fr+j) (by omega) (by omega)
  have hal:=zme (g:=g) (level:=level) (line:=line) (fr:=fr) (n:=j)
  refine W.skip ?_
  refine xn ?_
  refine W.seq ?_
  refine W.block ?_
  refine W.r fun K hK=>?_
  simp(disch:=omega)only[↓RU,RV,RH,↓reduceIte,qE,reduceCtorEq,if_pos,qN,↓RS,RG,qA,qM,qL,zap,z1p,zaa,z1q]
  refine zaf.pc (z1k hg rs hij) rfl (.inl rfl) ?_
  simp(disch:=omega)only[↓RU,RV,RH,↓reduceIte,qE,reduceCtorEq,if_pos,qN,↓RS,RG,qA,qM,qL,zap,z1p,zaa,z1q]
  apply hK;clear hK K
  refine W.k fun K hK=>?_
  by_cases hj0:j=0
  ·skip
   subst hj0
   rw [show (za3 g level line fr 0)=([],[]) from rfl]
   rw [show slL ([],[]).1 1 v0 = .nils from rfl,show slL ([],[]).2 2 v1 = .nils from rfl,show tlL ([],[]).1 ([],[]).2 v0 v1=[] from rfl]
   simp(disch:=omega)only[↓RU,RV,RH,↓reduceIte,qE,reduceCtorEq,if_pos,↓RS,RG,qA,qM,qL,zab,zaa]
   apply hK;clear hK K
   refine XbN ?_
   refine xn ?_
   refine W.k fun K hK=>?_
   simp(disch:=omega)only[↓RU,RV,RH,↓reduceIte,qE,reduceCtorEq,if_pos,w64,↓RS,RG,qA,qM,qL,zaa]
   apply hK;clear hK K
   refine xn ?_
   refine ⟨long - ((0+1)),by omega,1,[2,4],[zbj g rs,.ref 0 0 0,slL (za3 g level line fr (0+1)).1 1 (t+4),slL (za3 g level line fr (0+1)).2 2 (t+4),.int .i64 (((fr+(0+1):Nat):Int))],⟨(.arr 0 105 4 [.bool level,.int .i64 line,.int .i64 fr,.int .i64 long])::tlL (za3 g level line fr (0+1)).1 (za3 g level line fr (0+1)).2 (t+4) (t+4),(t+5)⟩,?_,?_,(0+1),(t+4),(t+4),(t+5),rfl,by omega,rfl,rfl⟩
   ·simp [-qU,Env.put,Env.of,zae,zby,zak,zan,zas,zau,zb6,zb7,zdz,zb5,zbb,zb8,zdy,zd0,zbd,zbc,zav,zb4,zb9,zdx,za9,za8,zat,zba,zb2,zfv,qS,qP,qC,show za3 g level line fr 0=([],[]) from rfl,show List.idxOf 4 [2,4]=1 from rfl,Int.add_assoc,zfo,zfp,zsq,hal.1,hal.2]
   simp [-qU,Env.put,Env.of,zae,zby,zak,zan,zas,zau,zb6,zb7,zdz,zb5,zbb,zb8,zdy,zd0,zbd,zbc,zav,zb4,zb9,zdx,za9,za8,zat,zba,zb2,zfv,qS,qP,qC,show za3 g level line fr 0=([],[]) from rfl,show List.idxOf 4 [2,4]=1 from rfl,zfo,zfp,z1o,zit,zl9,hal.1,hal.2]
  skip
  have hne1:(za3 g level line fr j).1≠[]:=by intro h; have:=hal.1; rw [h]at this; simp at this; omega
  have hne2:(za3 g level line fr j).2≠[]:=by intro h; have:=hal.2; rw [h]at this; simp at this; omega
  rw [zsq hne1,zsq hne2,z1o hne1]
  simp(disch:=omega)only[↓RU,RV,RH,↓reduceIte,qE,reduceCtorEq,if_pos,↓RS,RG,qA,qM,qL,zab,zaa,hal.1,hal.2]
  apply hK;clear hK K
  refine XbN ?_
  refine xn ?_
  refine W.k fun K hK=>?_
  simp(disch:=omega)only[↓RU,RV,RH,↓reduceIte,qE,reduceCtorEq,if_pos,w64,↓RS,RG,qA,qM,qL,zaa]
  apply hK;clear hK K
  refine xn ?_
  refine ⟨long - ((j+1)),by omega,3,[],[zbj g rs,.ref 0 0 0,slL (za3 g level line fr (j+1)).1 1 (t+1),slL (za3 g level line fr (j+1)).2 2 (t+3),.int .i64 (((fr+(j+1):Nat):Int))],⟨(.arr 0 105 4 [.bool level,.int .i64 line,.int .i64 fr,.int .i64 long])::tlL (za3 g level line fr (j+1)).1 (za3 g level line fr (j+1)).2 (t+1) (t+3),(t+5)⟩,?_,?_,(j+1),(t+1),(t+3),(t+5),rfl,by omega,rfl,rfl⟩
  ·simp [-qU,Env.put,Env.of,zae,zby,zak,zan,zas,zau,zb6,zb7,zdz,zb5,zbb,zb8,zdy,zd0,zbd,zbc,zav,zb4,zb9,zdx,za9,za8,zat,zba,zb2,zfv,qS,qP,qC,Int.add_assoc,zfo,zfp,zsq,hal.1,hal.2]
  simp [-qU,Env.put,Env.of,zae,zby,zak,zan,zas,zau,zb6,zb7,zdz,zb5,zbb,zb8,zdy,zd0,zbd,zbc,zav,zb4,zb9,zdx,za9,za8,zat,zba,zb2,zfv,qS,qP,qC,zfo,zfp,z1o,zit,zl9,hal.1,hal.2]
 try simp only[RL]at h
 obtain rfl:long=j:=by omega
 refine W.exit ?_
 refine xe ?_
 refine xe ?_
 refine XBlock.hit ?_
 refine xn ?_
 refine W.r fun K hK=>?_
 have hal:=zme (g:=g) (level:=level) (line:=line) (fr:=fr) (n:=long)
 have hne1:(za3 g level line fr long).1≠[]:=by intro h; have:=hal.1; rw [h]at this; simp at this; omega
 have hne2:(za3 g level line fr long).2≠[]:=by intro h; have:=hal.2; rw [h]at this; simp at this; omega
 rw [zsq hne1,zsq hne2,z1o hne1]
 simp(disch:=omega)only[↓RU,RV,RH,↓reduceIte,qE,reduceCtorEq,if_pos,qN,↓RS,RG,qA,qM,qL]
 refine zaf.ev (zmg (F:=[(.arr 0 105 4 [.bool level,.int .i64 line,.int .i64 fr,.int .i64 long])]) (R:=[.arr v1 3 1 ((za3 g level line fr long).2.map (.int .i64))]) (l:=(za3 g level line fr long).1) (by omega)) ?_
 rintro _ _ ⟨z1,rfl,rfl⟩
 simp(disch:=omega)only[↓RU,RV,RH,↓reduceIte,qE,reduceCtorEq,if_pos,qN,↓RS,RG,qA,qM,qL]
 refine zaf.ev (zmg (F:=[(.arr 0 105 4 [.bool level,.int .i64 line,.int .i64 fr,.int .i64 long]),.arr v0 3 1 ((ddp (za3 g level line fr long).1++z1).map (.int .i64))]) (R:=[]) (l:=(za3 g level line fr long).2) (by omega)) ?_
 rintro _ _ ⟨z2,rfl,rfl⟩
 simp(disch:=omega)only[↓RU,RV,RH,↓reduceIte,qE,reduceCtorEq,if_pos,qN,↓RS,RG,qA,qM,qL]
 apply hK;clear hK K
 refine W.ret ?_
 refine Br rfl ?_
 exact zhk (zwu (k:=7) rfl) (zwu (k:=7) rfl)
abbrev eBools (l:List Bool):PV := .sl (l.map .bool) l.length
abbrev zg3 (M:List (List Bool)):PV := .sl (M.map eBools) M.length
theorem zai {S S':Store} (h:S=S'):S.take S.obs.length=S':=by rw [zao,h]
def Sq (n:Nat) (M:List (List Bool)):Prop:=M.length=n∧∀ r∈M,r.length=n
def zcr (M:List (List Bool)) (a b:Nat):Bool:=(M[a]?.getD [])[b]?.getD false
def z27 (M:List (List Bool)) (a b:Nat) (x:Bool):List (List Bool):=M.set a ((M[a]?.getD []).set b x)
theorem Sq.at_ {n:Nat} {M:List (List Bool)} (h:Sq n M) {a b:Nat} (ha:a<n) (hb:b<n):∃ row,M[a]?=some row∧row.length=n∧row[b]?=some (zcr M a b):=by
 obtain ⟨row,hr,hm⟩:=zad (show a<M.length by rw [h.1]; exact ha)
 have hl:=h.2 row hm
 obtain ⟨x,hx,-⟩:=zad (show b<row.length by omega)
 exact ⟨row,hr,hl,by simp [zcr,hr,hx]⟩
theorem Sq.set {n:Nat} {M:List (List Bool)} (h:Sq n M) {a b:Nat} {x:Bool} (ha:a<n):Sq n (z27 M a b x):=by
 obtain ⟨row,hr,hm⟩:=zad (show a<M.length by rw [h.1]; exact ha)
 refine ⟨by simp [z27,h.1],fun r hr'=>?_⟩
 rcases List.mem_or_eq_of_mem_set hr' with h1 | rfl
 ·exact h.2 r h1
 simp [hr,h.2 row hm]
theorem zgn {M:List (List Bool)} {a b:Nat} {x:Bool} {row:List Bool} (h:M[a]?=some row):z27 M a b x=M.set a (row.set b x):=by simp [z27,h]
def zbl (n:Nat):List (List Bool):=List.replicate n (List.replicate n false)
theorem zeq (n:Nat):Sq n (zbl n):=⟨by simp [zbl],fun r hr=>by rw [(List.mem_replicate.1 hr).2]; simp⟩
def za6 (k t:Nat) (M:List (List Bool)):List Ob :=
 .arr t 108 1 ((List.range M.length).map fun i => .loc (k+1+i) t 0 M.length)::M.map fun r => .arr t 4 1 (r.map .bool)
theorem zag {k t:Nat} {M:List (List Bool)}:(za6 k t M).length=M.length+1:=by simp [za6]
theorem z3u {F R:List Ob} {t:Nat} {M:List (List Bool)} {n:Nat} (h:M.length=n):(F++(za6 F.length t M++R))[F.length]?=some (.arr t 108 1 ((List.range n).map fun i => .loc (F.length+1+i) t 0 n)):=by
 subst h; simp [za6]
theorem zww {F R:List Ob} {t a:Nat} {M:List (List Bool)} {row:List Bool} (h:M[a]?=some row):(F++(za6 F.length t M++R))[F.length+1+a]?=some (.arr t 4 1 (row.map .bool)):=by
 have ha:=zay h
 rw [List.getElem?_append_right (by omega),List.getElem?_append_left (by rw [zag]; omega),show F.length+1+a - F.length=a+1 by omega]
 simp [za6,h]
theorem zlv {F R:List Ob} {t a:Nat} {M:List (List Bool)} {row:List Bool} {n:Nat} (hn:M.length=n) (h:a<n):(F++(za6 F.length t M++R)).set (F.length+1+a) (.arr t 4 1 (row.map .bool))=F++(za6 F.length t (M.set a row)++R):=by
 subst hn
 rw [List.set_append_right _ _ (by omega),List.set_append_left _ _ (by rw [zag]; omega),show F.length+1+a - F.length=a+1 by omega]
 simp [za6,List.map_set]
theorem zjx {n a:Nat} (h:a<n):(List.range n)[a]?=some a:=List.getElem?_range h
theorem zfn {l:List Bool} {a:Nat} {x:Bool}:(l.map PV.bool).set a (.bool x)=(l.set a x).map PV.bool:=by rw [List.map_set]
theorem zwx:∀ (n:Nat),repz [PV.bool false] n=(List.replicate n false).map PV.bool
 | 0=>rfl
 | n+1=>by rw [zgi,zwx n,List.replicate_succ]; rfl
theorem zlw:∀ (n:Nat),repz [PV.nils] n=List.replicate n PV.nils
 | 0=>rfl
 | n+1=>by rw [zgi,zlw n,List.replicate_succ]; rfl
theorem zyk {α:Type} {f:α→PV} {g:PV→Option PV} {h:α→PV}:∀ {l:List α},(∀ a∈l,g (f a)=some (h a))→(l.map f).mapM g=some (l.map h)
 | [],_=>rfl
 | a::l,H=>by
  rw [List.map_cons,qC,H a (by simp),zyk (l:=l) fun x hx=>H x (by simp [hx])]; rfl
theorem z1g {α:Type} {f h:α→Ob} {S:Store} {im:Bool}:∀ {l:List α},(∀ a∈l,z1f S im (f a)=some (h a))→zhm S im (l.map f)=some (l.map h)
 | [],_=>rfl
 | a::l,H=>by
  rw [List.map_cons,zhm,H a (by simp),Option.bind_some,z1g (l:=l) fun x hx=>H x (by simp [hx])]; rfl
def grX (n i:Nat):List PV:=((List.range i).map fun j=>PV.loc (j+1) (j+1) 0 n)++List.replicate (n - i) .nils
def grY (n i:Nat):List Ob:=(List.range i).map fun j => .arr (j+1) 4 1 ((List.replicate n false).map .bool)
theorem ycb {n i:Nat} (h:i≤n):(grX n i).length=n:=by simp [grX]; omega
theorem ycc {n i:Nat}:(grY n i).length=i:=by simp [grY]
theorem z8u {n i:Nat}:grY n (i+1)=grY n i++[.arr (i+1) 4 1 ((List.replicate n false).map .bool)]:=by simp [grY,qS]
theorem z8t {n i:Nat} (h:i<n):(grX n i).take i++[.loc (i+1) (i+1) 0 n]++(grX n i).drop (i+1)=grX n (i+1):=by
 unfold grX
 have e:((List.range i).map fun j=>PV.loc (j+1) (j+1) 0 n).length=i:=by simp
 rw [List.take_append_of_le_length (by omega),qT (by omega)]
 have:(((List.range i).map fun j=>PV.loc (j+1) (j+1) 0 n)++List.replicate (n - i) PV.nils).drop (i+1)=List.replicate (n - (i+1)) PV.nils:=by
  rw [List.drop_append,List.drop_of_length_le (by omega),e,List.nil_append,List.drop_replicate]; congr 1; omega
 rw [this,qS]; simp
def ze5 (n i:Nat):List Ob := .arr 0 108 1 (grX n i)::grY n i
theorem ycd {n t:Nat} {im:Bool}:∃ k,sh (Store.take ⟨ze5 n n,t⟩ k) im 10 (.loc 0 0 0 n)=some (.loc 0 0 0 n)∧zhm (Store.take ⟨ze5 n n,t⟩ k) im (Store.take ⟨ze5 n n,t⟩ k).obs=some (za6 0 0 (zbl n)):=by
 refine ⟨(ze5 n n).length,?_⟩
 have e:Store.take ⟨ze5 n n,t⟩ (ze5 n n).length=⟨ze5 n n,t⟩:=zao
 rw [e]
 refine ⟨rfl,?_⟩
 have hrow:∀ j,j<n→(ze5 n n)[j+1]?=some (.arr (j+1) 4 1 ((List.replicate n false).map .bool)):=by
  intro j hj; simp [ze5,grY,hj]
 have h1:((List.range n).map fun j=>PV.loc (j+1) (j+1) 0 n).mapM (sh ⟨ze5 n n,t⟩ im 10)=some ((List.range n).map fun j=>PV.loc (0+1+j) 0 0 n):=by
  refine zyk fun j hj=>?_
  have hj:=List.mem_range.1 hj
  simp only[sh,hrow j hj,if_true]
  congr 2; omega
 have h2:zhm ⟨ze5 n n,t⟩ im ((List.range n).map fun j => .arr (j+1) 4 1 ((List.replicate n false).map .bool))=some ((List.range n).map fun _ => .arr 0 4 1 ((List.replicate n false).map .bool)):=by
  refine z1g fun j _=>?_
  simp only[z1f]
  rw [ydc (by simp [List.all_replicate,scal])]; rfl
 have h3:(zbl n).length=n:=by simp [zbl]
 show zhm ⟨ze5 n n,t⟩ im (ze5 n n)=_
 conv=>lhs; arg 3; unfold ze5 grX grY
 rw [zhm,Nat.sub_self,List.replicate_zero,qN]
 simp only[z1f]
 rw [h1]
 simp only[qO,Option.bind_some]
 rw [h2]
 simp only[qO,za6,h3]
 congr 2
 simp [zbl,List.map_const']
theorem zft {k t:Nat} {M:List (List Bool)}:(za6 0 0 M).map (z3l k t)=za6 k t M:=by
 simp only[za6,List.map_cons,zji,List.map_map]
 congr 1
 ·congr 1
  apply List.map_congr_left
  intro i _
  simp only[Function.comp,zxo]
  congr 1; omega
 apply List.map_congr_left
 intro r _
 simp only[Function.comp,zji,zuk]
theorem zwv {S:Store} {im:Bool} {f k t:Nat} {M:List (List Bool)} {n:Nat} (hM:Sq n M) (h0:S.obs[k]?=some (.arr t 108 1 ((List.range n).map fun i => .loc (k+1+i) t 0 n)))
  (h1:∀ a row,M[a]?=some row→S.obs[k+1+a]?=some (.arr t 4 1 (row.map .bool))):reify S im (f+3) (.loc k t 0 n)=some (zg3 M):=by
 have hm:((List.range n).map fun i=>PV.loc (k+1+i) t 0 n).mapM (reify S im (f+2))=some ((List.range n).map fun i=>eBools (M[i]?.getD [])):=by
  refine zyk fun i hi=>?_
  have hi:=List.mem_range.1 hi
  obtain ⟨row,hr,hm⟩:=zad (show i<M.length by rw [hM.1]; exact hi)
  have hl:=hM.2 row hm
  rw [hr]
  have:=zbh (n:=n) (k:=f+1) (im:=im) (h1 i row hr) (by simp [hl]) (z5p row)
  rw [this]
  simp [eBools,hl]
 have:=zbh (n:=n) (k:=f+2) (im:=im) h0 (by simp) hm
 rw [this]
 have e:((List.range n).map fun i=>eBools (M[i]?.getD []))=M.map eBools:=by
  apply List.ext_getElem
  ·simp [hM.1]
  intro i a b
  have:i<M.length:=by rw [hM.1]; simpa using a
  simp [this]
 rw [e]
 simp [zg3,hM.1]
def clB (k a:Nat) (M:List (List Bool)) (b:Nat):List (List Bool):=z27 M a b (zcr M a b || (zcr M a k && zcr M k b))
def clA (n k:Nat) (M:List (List Bool)) (a:Nat):List (List Bool):=(List.range n).foldl (clB k a) M
def clK (n:Nat) (M:List (List Bool)) (k:Nat):List (List Bool):=(List.range n).foldl (clA n k) M
def zfq (M:List (List Bool)):List (List Bool):=(List.range M.length).foldl (clK M.length) M
theorem Sq.foldl {n:Nat} {f:List (List Bool)→Nat→List (List Bool)}:∀ (i:Nat) {M:List (List Bool)},(∀ M j,j<i→Sq n M→Sq n (f M j))→Sq n M→Sq n ((List.range i).foldl f M)
 | 0,M,_,h=>by simpa using h
 | i+1,M,hf,h=>by
  rw [zb1]
  exact hf _ i (Nat.lt_succ_self i) (Sq.foldl i (fun M j hj=>hf M j (by omega)) h)
theorem Sq.clB {n:Nat} {M:List (List Bool)} {k a b:Nat} (h:Sq n M) (ha:a<n):Sq n (clB k a M b):=h.set ha
theorem Sq.clA {n:Nat} {M:List (List Bool)} {k a:Nat} (h:Sq n M) (ha:a<n):Sq n (clA n k M a):=Sq.foldl n (fun _ _ _ h=>h.clB ha) h
theorem Sq.clK {n:Nat} {M:List (List Bool)} {k:Nat} (h:Sq n M):Sq n (clK n M k):=Sq.foldl n (fun _ _ hj h=>h.clA hj) h
theorem Sq.close {n:Nat} {M:List (List Bool)} (h:Sq n M):Sq n (zfq M):=by
 unfold zfq; rw [h.1]; exact Sq.foldl n (fun _ _ _ h=>h.clK) h
theorem zge {nr:Nat} (hn:nr≤9):PN Tryz.prog 94 [.int .i64 nr] (.loc 0 0 0 nr) (za6 0 0 (zbl nr)) false:=by
 refine PN.of ⟨Tryz.func94,by kernel_rfl,rfl,by kernel_rfl⟩ zam mixed (by show 1≤Tryz.f94.ntmps; decide) ?_
 refine W.r fun K hK=>?_
 simp(disch:=omega)only[↓RU,RV,RH,↓reduceIte,qE,reduceCtorEq,if_pos,↓RS,RG,qA,qM,qL]
 apply hK;clear hK K
 refine W.r fun K hK=>?_
 simp(disch:=omega)only[↓RU,RV,RH,↓reduceIte,qE,reduceCtorEq,if_pos,↓RS,RG,qA,qM,qL,ty0,ty3,zap,zfc,zlw,zdg]
 apply hK;clear hK K
 refine W.seq ?_
 refine W.r fun K hK=>?_
 simp(disch:=omega)only[↓RU,RV,RH,↓reduceIte,qE,reduceCtorEq,if_pos,↓RS,RG,qA,qM,qL,ty0,ty3,zap,zfc]
 apply hK;clear hK K
 refine W.block ?_
 refine W.loop [0,3,8,9] (fun n vs S=>∃ i:Nat,n=nr - i∧i≤nr∧vs=[.int .i64 nr,.loc 0 0 0 nr,.int .i64 nr,.int .i64 i]∧S=⟨.arr 0 108 1 (grX nr i)::grY nr i,i+1⟩) (nr) ?_ ?_
 ·refine ⟨_,0,rfl,Nat.zero_le _,?_,zai (by simp [grX,grY])⟩
  simp [Env.put,Env.of,zae]
 rintro n vs S - ⟨i,rfl,h_i,rfl,rfl⟩
 refine W.r fun K hK=>?_
 simp(disch:=omega)only[↓RU,RV,RH,↓reduceIte,qE,reduceCtorEq,if_pos,w64,↓RS,RG,qA,qM,qL,zaa]
 apply hK;clear hK K
 refine W.seq ?_
 refine W.cond rfl (fun h=>?_) (fun h=>?_)
 ·try simp only[RL]at h
  have hx:=ycb (show i≤nr by omega)
  refine W.skip ?_
  refine xn ?_
  refine W.seq ?_
  refine W.block ?_
  refine W.r fun K hK=>?_
  simp(disch:=omega)only[↓RU,RV,RH,↓reduceIte,qE,reduceCtorEq,if_pos,↓RS,RG,qA,qM,qL]
  apply hK;clear hK K
  refine W.k fun K hK=>?_
  simp(disch:=omega)only[↓RU,RV,RH,↓reduceIte,qE,reduceCtorEq,if_pos,↓RS,RG,qA,qM,qL,ty0,ty3,zap,zfc,zwx,zdg,ycc,hx,z8t]
  apply hK;clear hK K
  refine XbN ?_
  refine xn ?_
  refine W.k fun K hK=>?_
  simp(disch:=omega)only[↓RU,RV,RH,↓reduceIte,qE,reduceCtorEq,if_pos,w64,↓RS,RG,qA,qM,qL,zaa]
  apply hK;clear hK K
  refine xn ?_
  refine ⟨nr - (i+1),by omega,_,i+1,rfl,by omega,?_,zai (by simp [z8u])⟩
  simp [Env.put,Env.of]
 try simp only[RL]at h
 refine W.exit ?_
 refine xe ?_
 refine xe ?_
 refine XBlock.hit ?_
 refine xn ?_
 refine W.r fun K hK=>?_
 simp(disch:=omega)only[↓RU,RV,RH,↓reduceIte,qE,reduceCtorEq,if_pos,↓RS,RG,qA,qM,qL]
 apply hK;clear hK K
 refine W.ret ?_
 refine Br rfl ?_
 obtain rfl:nr=i:=by omega
 exact ycd
theorem zzf {F R:List Ob} {t tk nr:Nat} {M:List (List Bool)} (hM:Sq nr M) (hn:nr≤9):Ev Tryz.prog 97 [.loc F.length t 0 nr] ⟨F++(za6 F.length t (M)++R),tk⟩ fun v S=>v = .tup []∧S=⟨F++(za6 F.length t (zfq M)++R),tk⟩:=by
 refine Ev.of ⟨Tryz.func97,by kernel_rfl,rfl,by kernel_rfl⟩ zam mixed (by show 1≤Tryz.f97.ntmps; decide) ?_
 refine W.r fun K hK=>?_
 simp(disch:=omega)only[↓RU,RV,RH,↓reduceIte,qE,reduceCtorEq,if_pos,↓RS,RG,qA,qM,qL,ty0,ty3,zap,zfc,z3u hM.1]
 apply hK;clear hK K
 refine W.block ?_
 refine W.loop [0,6,7] (fun n vs S=>∃ k:Nat,n=nr - k∧k≤nr∧vs=[.loc F.length t 0 nr,.int .i64 nr,.int .i64 k]∧S=⟨F++(za6 F.length t ((List.range k).foldl (clK nr) M)++R),tk⟩) (nr) ?_ ?_
 ·refine ⟨_,0,rfl,Nat.zero_le _,?_,zai rfl⟩
  simp [Env.put,Env.of,zae]
 rintro n vs S - ⟨k,rfl,h_k,rfl,rfl⟩
 refine W.r fun K hK=>?_
 simp(disch:=omega)only[↓RU,RV,RH,↓reduceIte,qE,reduceCtorEq,if_pos,w64,↓RS,RG,qA,qM,qL,zaa]
 apply hK;clear hK K
 refine W.seq ?_
 refine W.cond rfl (fun h=>?_) (fun h=>?_)
 ·try simp only[RL]at h
  have hX:=Sq.foldl (f:=clK nr) k (fun _ _ _ h=>h.clK) hM
  generalize hXe:(List.range k).foldl (clK nr) M=X at hX
  refine W.skip ?_
  refine xn ?_
  refine W.seq ?_
  refine W.block ?_
  refine W.r fun K hK=>?_
  simp(disch:=omega)only[↓RU,RV,RH,↓reduceIte,qE,reduceCtorEq,if_pos,↓RS,RG,qA,qM,qL]
  apply hK;clear hK K
  refine W.r fun K hK=>?_
  simp(disch:=omega)only[↓RU,RV,RH,↓reduceIte,qE,reduceCtorEq,if_pos,↓RS,RG,qA,qM,qL,ty0,ty3,zap,zfc,hXe,z3u hX.1]
  apply hK;clear hK K
  refine W.block ?_
  refine W.loop [0,2,6,7,11,12] (fun n vs S=>∃ a:Nat,n=nr - a∧a≤nr∧vs=[.loc F.length t 0 nr,.int .i64 k,.int .i64 nr,.int .i64 k,.int .i64 nr,.int .i64 a]∧S=⟨F++(za6 F.length t ((List.range a).foldl (clA nr k) X)++R),tk⟩) (nr) ?_ ?_
  ·refine ⟨_,0,rfl,Nat.zero_le _,?_,zai rfl⟩
   simp [Env.put,Env.of,zae]
  rintro n vs S - ⟨a,rfl,h_a,rfl,rfl⟩
  refine W.r fun K hK=>?_
  simp(disch:=omega)only[↓RU,RV,RH,↓reduceIte,qE,reduceCtorEq,if_pos,w64,↓RS,RG,qA,qM,qL,zaa]
  apply hK;clear hK K
  refine W.seq ?_
  refine W.cond rfl (fun h1=>?_) (fun h1=>?_)
  ·try simp only[RL]at h1
   have hY:=Sq.foldl (f:=clA nr k) a (fun _ _ hj h=>h.clA (by omega)) hX
   generalize hYe:(List.range a).foldl (clA nr k) X=Y at hY
   refine W.skip ?_
   refine xn ?_
   refine W.seq ?_
   refine W.block ?_
   refine W.r fun K hK=>?_
   simp(disch:=omega)only[↓RU,RV,RH,↓reduceIte,qE,reduceCtorEq,if_pos,↓RS,RG,qA,qM,qL]
   apply hK;clear hK K
   refine W.r fun K hK=>?_
   simp(disch:=omega)only[↓RU,RV,RH,↓reduceIte,qE,reduceCtorEq,if_pos,↓RS,RG,qA,qM,qL,ty0,ty3,zap,zfc,hYe,z3u hY.1]
   apply hK;clear hK K
   refine W.block ?_
   refine W.loop [0,2,3,6,7,11,12,16,17] (fun n vs S=>∃ b:Nat,n=nr - b∧b≤nr∧vs=[.loc F.length t 0 nr,.int .i64 k,.int .i64 a,.int .i64 nr,.int .i64 k,.int .i64 nr,.int .i64 a,.int .i64 nr,.int .i64 b]∧S=⟨F++(za6 F.length t ((List.range b).foldl (clB k a) Y)++R),tk⟩) (nr) ?_ ?_
   ·refine ⟨_,0,rfl,Nat.zero_le _,?_,zai rfl⟩
    simp [Env.put,Env.of,zae]
   rintro n vs S - ⟨b,rfl,h_b,rfl,rfl⟩
   refine W.r fun K hK=>?_
   simp(disch:=omega)only[↓RU,RV,RH,↓reduceIte,qE,reduceCtorEq,if_pos,w64,↓RS,RG,qA,qM,qL,zaa]
   apply hK;clear hK K
   refine W.seq ?_
   refine W.cond rfl (fun h2=>?_) (fun h2=>?_)
   ·try simp only[RL]at h2
    have hZ:=Sq.foldl (f:=clB k a) b (fun _ _ _ h=>h.clB (show a<nr by omega)) hY
    generalize hZe:(List.range b).foldl (clB k a) Y=Z at hZ
    have hZl:=hZ.1
    obtain ⟨ra,hra,hral,hrab⟩:=hZ.at_ (show a<nr by omega) (show b<nr by omega)
    obtain ⟨ra2,hra2,-,hrak⟩:=hZ.at_ (show a<nr by omega) (show k<nr by omega)
    obtain ⟨rk,hrk,hrkl,hrkb⟩:=hZ.at_ (show k<nr by omega) (show b<nr by omega)
    obtain rfl:ra=ra2:=by rw [hra]at hra2; exact Option.some.inj hra2
    refine W.skip ?_
    refine xn ?_
    refine W.seq ?_
    refine W.block ?_
    refine W.r fun K hK=>?_
    simp(disch:=omega)only[↓RU,RV,RH,↓reduceIte,qE,reduceCtorEq,if_pos,↓RS,RG,qA,qM,qL]
    apply hK;clear hK K
    refine W.draw_k (by kernel_rfl) fun K hK=>?_
    rcases hv:(zcr Z a b,zcr Z a k,zcr Z k b) with ⟨_ | _,_ | _,_ | _⟩
    ·skip
     simp only[Prod.mk.injEq]at hv
     obtain ⟨hv1,hv2,hv3⟩:=hv
     rw [hv1]at hrab
     rw [hv2]at hrak
     rw [hv3]at hrkb
     simp(disch:=omega)only[↓RU,RV,RH,↓reduceIte,qE,reduceCtorEq,if_pos,↓RS,RG,qA,qM,qL,ty0,ty3,zap,zfc,hZe,z3u hZl,zjx,zww hra,zww hrk,hrab,hrak,hrkb,zbe,zfn,hral,zlv hZl]
     apply hK;clear hK K
     refine XbN ?_
     refine xn ?_
     refine W.k fun K hK=>?_
     simp(disch:=omega)only[↓RU,RV,RH,↓reduceIte,qE,reduceCtorEq,if_pos,w64,↓RS,RG,qA,qM,qL,zaa]
     apply hK;clear hK K
     refine xn ?_
     refine ⟨nr - (b+1),by omega,_,b+1,rfl,by omega,?_,zai (by rw [zb1,hZe,clB,zgn hra]; simp [hv1,hv2,hv3])⟩
     simp [Env.put,Env.of]
    ·skip
     simp only[Prod.mk.injEq]at hv
     obtain ⟨hv1,hv2,hv3⟩:=hv
     rw [hv1]at hrab
     rw [hv2]at hrak
     rw [hv3]at hrkb
     simp(disch:=omega)only[↓RU,RV,RH,↓reduceIte,qE,reduceCtorEq,if_pos,↓RS,RG,qA,qM,qL,ty0,ty3,zap,zfc,hZe,z3u hZl,zjx,zww hra,zww hrk,hrab,hrak,hrkb,zbe,zfn,hral,zlv hZl]
     apply hK;clear hK K
     refine XbN ?_
     refine xn ?_
     refine W.k fun K hK=>?_
     simp(disch:=omega)only[↓RU,RV,RH,↓reduceIte,qE,reduceCtorEq,if_pos,w64,↓RS,RG,qA,qM,qL,zaa]
     apply hK;clear hK K
     refine xn ?_
     refine ⟨nr - (b+1),by omega,_,b+1,rfl,by omega,?_,zai (by rw [zb1,hZe,clB,zgn hra]; simp [hv1,hv2,hv3])⟩
     simp [Env.put,Env.of]
    ·skip
     simp only[Prod.mk.injEq]at hv
     obtain ⟨hv1,hv2,hv3⟩:=hv
     rw [hv1]at hrab
     rw [hv2]at hrak
     rw [hv3]at hrkb
     simp(disch:=omega)only[↓RU,RV,RH,↓reduceIte,qE,reduceCtorEq,if_pos,↓RS,RG,qA,qM,qL,ty0,ty3,zap,zfc,hZe,z3u hZl,zjx,zww hra,zww hrk,hrab,hrak,hrkb,zbe,zfn,hral,zlv hZl]
     apply hK;clear hK K
     refine XbN ?_
     refine xn ?_
     refine W.k fun K hK=>?_
     simp(disch:=omega)only[↓RU,RV,RH,↓reduceIte,qE,reduceCtorEq,if_pos,w64,↓RS,RG,qA,qM,qL,zaa]
     apply hK;clear hK K
     refine xn ?_
     refine ⟨nr - (b+1),by omega,_,b+1,rfl,by omega,?_,zai (by rw [zb1,hZe,clB,zgn hra]; simp [hv1,hv2,hv3])⟩
     simp [Env.put,Env.of]
    ·skip
     simp only[Prod.mk.injEq]at hv
     obtain ⟨hv1,hv2,hv3⟩:=hv
     rw [hv1]at hrab
     rw [hv2]at hrak
     rw [hv3]at hrkb
     simp(disch:=omega)only[↓RU,RV,RH,↓reduceIte,qE,reduceCtorEq,if_pos,↓RS,RG,qA,qM,qL,ty0,ty3,zap,zfc,hZe,z3u hZl,zjx,zww hra,zww hrk,hrab,hrak,hrkb,zbe,zfn,hral,zlv hZl]
     apply hK;clear hK K
     refine XbN ?_
     refine xn ?_
     refine W.k fun K hK=>?_
     simp(disch:=omega)only[↓RU,RV,RH,↓reduceIte,qE,reduceCtorEq,if_pos,w64,↓RS,RG,qA,qM,qL,zaa]
     apply hK;clear hK K
     refine xn ?_
     refine ⟨nr - (b+1),by omega,_,b+1,rfl,by omega,?_,zai (by rw [zb1,hZe,clB,zgn hra]; simp [hv1,hv2,hv3])⟩
     simp [Env.put,Env.of]
    ·skip
     simp only[Prod.mk.injEq]at hv
     obtain ⟨hv1,hv2,hv3⟩:=hv
     rw [hv1]at hrab
     rw [hv2]at hrak
     rw [hv3]at hrkb
     simp(disch:=omega)only[↓RU,RV,RH,↓reduceIte,qE,reduceCtorEq,if_pos,↓RS,RG,qA,qM,qL,ty0,ty3,zap,zfc,hZe,z3u hZl,zjx,zww hra,zww hrk,hrab,hrak,hrkb,zbe,zfn,hral,zlv hZl]
     apply hK;clear hK K
     refine XbN ?_
     refine xn ?_
     refine W.k fun K hK=>?_
     simp(disch:=omega)only[↓RU,RV,RH,↓reduceIte,qE,reduceCtorEq,if_pos,w64,↓RS,RG,qA,qM,qL,zaa]
     apply hK;clear hK K
     refine xn ?_
     refine ⟨nr - (b+1),by omega,_,b+1,rfl,by omega,?_,zai (by rw [zb1,hZe,clB,zgn hra]; simp [hv1,hv2,hv3])⟩
     simp [Env.put,Env.of]
    ·skip
     simp only[Prod.mk.injEq]at hv
     obtain ⟨hv1,hv2,hv3⟩:=hv
     rw [hv1]at hrab
     rw [hv2]at hrak
     rw [hv3]at hrkb
     simp(disch:=omega)only[↓RU,RV,RH,↓reduceIte,qE,reduceCtorEq,if_pos,↓RS,RG,qA,qM,qL,ty0,ty3,zap,zfc,hZe,z3u hZl,zjx,zww hra,zww hrk,hrab,hrak,hrkb,zbe,zfn,hral,zlv hZl]
     apply hK;clear hK K
     refine XbN ?_
     refine xn ?_
     refine W.k fun K hK=>?_
     simp(disch:=omega)only[↓RU,RV,RH,↓reduceIte,qE,reduceCtorEq,if_pos,w64,↓RS,RG,qA,qM,qL,zaa]
     apply hK;clear hK K
     refine xn ?_
     refine ⟨nr - (b+1),by omega,_,b+1,rfl,by omega,?_,zai (by rw [zb1,hZe,clB,zgn hra]; simp [hv1,hv2,hv3])⟩
     simp [Env.put,Env.of]
    ·skip
     simp only[Prod.mk.injEq]at hv
     obtain ⟨hv1,hv2,hv3⟩:=hv
     rw [hv1]at hrab
     rw [hv2]at hrak
     rw [hv3]at hrkb
     simp(disch:=omega)only[↓RU,RV,RH,↓reduceIte,qE,reduceCtorEq,if_pos,↓RS,RG,qA,qM,qL,ty0,ty3,zap,zfc,hZe,z3u hZl,zjx,zww hra,zww hrk,hrab,hrak,hrkb,zbe,zfn,hral,zlv hZl]
     apply hK;clear hK K
     refine XbN ?_
     refine xn ?_
     refine W.k fun K hK=>?_
     simp(disch:=omega)only[↓RU,RV,RH,↓reduceIte,qE,reduceCtorEq,if_pos,w64,↓RS,RG,qA,qM,qL,zaa]
     apply hK;clear hK K
     refine xn ?_
     refine ⟨nr - (b+1),by omega,_,b+1,rfl,by omega,?_,zai (by rw [zb1,hZe,clB,zgn hra]; simp [hv1,hv2,hv3])⟩
     simp [Env.put,Env.of]
    skip
    simp only[Prod.mk.injEq]at hv
    obtain ⟨hv1,hv2,hv3⟩:=hv
    rw [hv1]at hrab
    rw [hv2]at hrak
    rw [hv3]at hrkb
    simp(disch:=omega)only[↓RU,RV,RH,↓reduceIte,qE,reduceCtorEq,if_pos,↓RS,RG,qA,qM,qL,ty0,ty3,zap,zfc,hZe,z3u hZl,zjx,zww hra,zww hrk,hrab,hrak,hrkb,zbe,zfn,hral,zlv hZl]
    apply hK;clear hK K
    refine XbN ?_
    refine xn ?_
    refine W.k fun K hK=>?_
    simp(disch:=omega)only[↓RU,RV,RH,↓reduceIte,qE,reduceCtorEq,if_pos,w64,↓RS,RG,qA,qM,qL,zaa]
    apply hK;clear hK K
    refine xn ?_
    refine ⟨nr - (b+1),by omega,_,b+1,rfl,by omega,?_,zai (by rw [zb1,hZe,clB,zgn hra]; simp [hv1,hv2,hv3])⟩
    simp [Env.put,Env.of]
   try simp only[RL]at h2
   obtain rfl:nr=b:=by omega
   refine W.exit ?_
   refine xe ?_
   refine xe ?_
   refine XBlock.hit ?_
   refine XbN ?_
   refine xn ?_
   refine W.k fun K hK=>?_
   simp(disch:=omega)only[↓RU,RV,RH,↓reduceIte,qE,reduceCtorEq,if_pos,w64,↓RS,RG,qA,qM,qL,zaa]
   apply hK;clear hK K
   refine xn ?_
   refine ⟨nr - (a+1),by omega,_,a+1,rfl,by omega,?_,zai (by rw [zb1,hYe]; rfl)⟩
   simp [Env.put,Env.of]
  try simp only[RL]at h1
  obtain rfl:nr=a:=by omega
  refine W.exit ?_
  refine xe ?_
  refine xe ?_
  refine XBlock.hit ?_
  refine XbN ?_
  refine xn ?_
  refine W.k fun K hK=>?_
  simp(disch:=omega)only[↓RU,RV,RH,↓reduceIte,qE,reduceCtorEq,if_pos,w64,↓RS,RG,qA,qM,qL,zaa]
  apply hK;clear hK K
  refine xn ?_
  refine ⟨nr - (k+1),by omega,_,k+1,rfl,by omega,?_,zai (by rw [zb1,hXe]; rfl)⟩
  simp [Env.put,Env.of]
 try simp only[RL]at h
 obtain rfl:nr=k:=by omega
 refine W.exit ?_
 refine xe ?_
 refine xe ?_
 refine XBlock.hit ?_
 refine ze1.norm rfl ?_
 refine ⟨_,rfl,zai ?_⟩
 rw [zfq,hM.1]
section
def relB (a:Int) (bs:List Int) (M:List (List Bool)):List (List Bool):=bs.foldl (fun M b=>z27 M a.toNat b.toNat true) M
def relW (M:List (List Bool)) (la bs:List Int):List (List Bool):=la.foldl (fun M a=>relB a bs M) M
def zar (g:List (List Int)) (w:Wall):List Int × List Int :=
 (ddp (za3 g w.level w.line.toNat w.fr.toNat w.long.toNat).1,ddp (za3 g w.level w.line.toNat w.fr.toNat w.long.toNat).2)
def zmc (g:List (List Int)) (M:List (List Bool) × List (List Bool)) (w:Wall):List (List Bool) × List (List Bool) :=
 if w.level then (M.1,relW M.2 (zar g w).1 (zar g w).2) else (relW M.1 (zar g w).1 (zar g w).2,M.2)
def z85 (g:List (List Int)) (nh nw n:Nat):List (List Bool) × List (List Bool):=(zcc g nh nw).foldl (zmc g) (zbl n,zbl n)
def zvy (g:List (List Int)) (nh nw n:Nat):List (List Bool):=zfq (z85 g nh nw n).1
def zm6 (g:List (List Int)) (nh nw n:Nat):List (List Bool):=zfq (z85 g nh nw n).2
def zs6 (g:List (List Int)) (nh nw:Nat) (w:Wall):Prop :=
 ∃ line fr long:Nat,w=⟨w.level,line,fr,long⟩∧1≤long∧∀ j,fr≤j→j<fr+long→InL nh nw w.level line j∧zj3 g w.level line j=true
theorem zxr {g:List (List Int)} {nh nw:Nat} {level:Bool} {line places:Nat} (hin:∀ j,j<places→InL nh nw level line j) {ws:List Wall} (hws:∀ w∈ws,zs6 g nh nw w):∀ n,n≤places →
  (∀ w∈(zbi g level line ws n).1,zs6 g nh nw w)∧((zbi g level line ws n).2=true→∃ ws0,∃ fr long:Nat,(zbi g level line ws n).1=ws0++[⟨level,line,fr,long⟩]∧fr+long=n∧1≤long∧∀ j,fr≤j→j<fr+long→InL nh nw level line j∧zj3 g level line j=true)
 | 0,_=>⟨hws,by simp [zbi]⟩
 | n+1,hn=>by
  obtain ⟨ih1,ih2⟩:=zxr hin hws n (by omega)
  rw [zd1]
  generalize zbi g level line ws n=s at ih1 ih2
  obtain ⟨ws',op⟩:=s
  simp only at ih1 ih2
  cases hd:zj3 g level line n with
  | false=>simp only[zef,Bool.false_and,qF,if_false]; exact ⟨ih1,by simp⟩
  | true =>
   cases op with
   | false =>
    simp only[zef,Bool.and_false,qF,if_false,if_true]
    have hnew:∀ j,n≤j→j<n+1→InL nh nw level line j∧zj3 g level line j=true:=by
     intro j h1 h2
     obtain rfl:j=n:=by omega
     exact ⟨hin _ (by omega),hd⟩
    refine ⟨fun w hw=>?_,fun _=>⟨ws',n,1,rfl,rfl,qR _,hnew⟩⟩
    rcases List.mem_append.1 hw with h | h
    ·exact ih1 w h
    rw [List.mem_singleton]at h; subst h
    exact ⟨line,n,1,rfl,qR _,hnew⟩
   | true =>
    obtain ⟨ws0,fr,long,e,h1,h2,h3⟩:=ih2 rfl
    subst e
    have hnew:∀ j,fr≤j→j<fr+(long+1)→InL nh nw level line j∧zj3 g level line j=true:=by
     intro j a b
     by_cases hj:j=n
     ·subst hj; exact ⟨hin _ (by omega),hd⟩
     exact h3 j a (by omega)
    simp only[zef,Bool.and_self,if_true,List.dropLast_concat,List.getLast?_concat,qO,Option.toList_some]
    refine ⟨fun w hw=>?_,fun _=>⟨ws0,fr,long+1,rfl,by omega,by omega,hnew⟩⟩
    rcases List.mem_append.1 hw with h | h
    ·exact ih1 w (List.mem_append_left _ h)
    rw [List.mem_singleton]at h; subst h
    exact ⟨line,fr,long+1,rfl,by omega,hnew⟩
theorem zm3 {g:List (List Int)} {nh nw:Nat} {level:Bool} {lines places:Nat} (hin:∀ l j,1≤l→l<lines→j<places→InL nh nw level l j) {ws:List Wall} (hws:∀ w∈ws,zs6 g nh nw w):∀ line,line≤lines →
  ∀ w∈zbp g level places ws line,zs6 g nh nw w
 | 0,_=>by simpa [zbp] using hws
 | line+1,hl=>by
  have ih:=zm3 hin hws line (by omega)
  by_cases h:1≤line
  ·rw [zee h]
   exact (zxr (fun j hj=>hin line j h (by omega) hj) ih places (qR _)).1
  have:line=0:=by omega
  subst this
  simpa [zbp] using hws
theorem zdm {g:List (List Int)} {nh nw:Nat}:∀ w∈zcc g nh nw,zs6 g nh nw w :=
 zm3 (lines:=nh) (fun l j h1 h2 h3=>⟨h1,by simp; omega⟩) (zm3 (lines:=nw) (fun l j h1 h2 h3=>⟨h1,by simp; omega⟩) (by simp) nw (qR _)) nh (qR _)
def zus (g:List (List Int)) (nh nw n:Nat):Prop:=∀ i j,i<nh→j<nw→0≤gz g i j∧gz g i j<n
theorem zqp {g:List (List Int)} {nh nw n:Nat} (h:zus g nh nw n) {level:Bool} {line j:Nat} (hi:InL nh nw level line j) :
  0≤(zbz g level line j).1∧(zbz g level line j).1<n∧0≤(zbz g level line j).2∧(zbz g level line j).2<n:=by
 obtain ⟨h1,h2⟩:=hi
 cases level with
 | true=>simp only[if_true]at h2; have a:=h (line - 1) j (by omega) h2.2; have b:=h line j h2.1 h2.2; simp only[zbz,if_true]; omega
 | false=>simp only[qF,if_false]at h2; have a:=h j (line - 1) h2.2 (by omega); have b:=h j line h2.2 h2.1; simp only[zbz,qF,if_false]; omega
theorem z4l {l:List Int} {x:Int} (h:x∈ddp l):x∈l:=by
 unfold ddp at h
 have:∀ (l m:List Int),x∈l.foldl zib m→x∈m∨x∈l:=by
  intro l
  induction l with
  | nil=>intro m h; exact .inl h
  | cons a l ih =>
   intro m h
   rcases ih _ h with h | h
   ·rcases zlr h with h | h
    ·exact .inl h
    exact .inr (by simp [h])
   exact .inr (by simp [h])
 rcases this l [] h with h | h
 ·simp at h
 exact h
theorem ze9 {g:List (List Int)} {nh nw n:Nat} (h:zus g nh nw n) {w:Wall} (hw:zs6 g nh nw w):(∀ x∈(zar g w).1,0≤x∧x<n)∧(∀ x∈(zar g w).2,0≤x∧x<n):=by
 obtain ⟨line,fr,long,e,h1,h2⟩:=hw
 have e1:w.line.toNat=line:=by rw [e]; simp
 have e2:w.fr.toNat=fr:=by rw [e]; simp
 have e3:w.long.toNat=long:=by rw [e]; simp
 simp only[zar,e1,e2,e3]
 refine ⟨fun x hx=>?_,fun x hx=>?_⟩
 ·have:=z4l hx
  simp only[za3,List.mem_map,List.mem_range]at this
  obtain ⟨j,hj,rfl⟩:=this
  have:=zqp h (h2 (fr+j) (by omega) (by omega)).1
  omega
 have:=z4l hx
 simp only[za3,List.mem_map,List.mem_range]at this
 obtain ⟨j,hj,rfl⟩:=this
 have:=zqp h (h2 (fr+j) (by omega) (by omega)).1
 omega
theorem zyx {g:List (List Int)} {nh nw:Nat} (hg:GW g nh nw) {w:Wall} (hw:zs6 g nh nw w):(zar g w).1.length≤6∧(zar g w).2.length≤6:=by
 obtain ⟨line,fr,long,e,h1,h2⟩:=hw
 have hgg:=hg.2.2
 have hb:fr+long≤6:=by
  have h:=(h2 (fr+long - 1) (by omega) (by omega)).1.2
  cases hl:w.level <;> rw [hl]at h <;> simp at h <;> omega
 have e3:w.long.toNat=long:=by rw [e]; simp
 have h3:=zme (g:=g) (level:=w.level) (line:=w.line.toNat) (fr:=w.fr.toNat) (n:=long)
 simp only[zar,e3]
 exact ⟨Nat.le_trans (z4k _) (by omega),Nat.le_trans (z4k _) (by omega)⟩
theorem Sq.relB {n:Nat} {a:Int} (ha:a.toNat<n):∀ {bs:List Int} {M:List (List Bool)},Sq n M→Sq n (relB a bs M)
 | [],M,h=>h
 | b::bs,M,h=>by
  show Sq n (Fw.relB a bs (z27 M a.toNat b.toNat true))
  exact Sq.relB ha (h.set ha)
theorem Sq.relW {n:Nat} {bs:List Int}:∀ {la:List Int} {M:List (List Bool)},(∀ a∈la,a.toNat<n)→Sq n M→Sq n (relW M la bs)
 | [],M,_,h=>h
 | a::la,M,ha,h=>by
  show Sq n (Fw.relW (Fw.relB a bs M) la bs)
  exact Sq.relW (fun x hx=>ha x (by simp [hx])) (h.relB (ha a (by simp)))
theorem ycx {g:List (List Int)} {nh nw n:Nat} (h:zus g nh nw n) {w:Wall} (hw:zs6 g nh nw w) {M:List (List Bool) × List (List Bool)} (h1:Sq n M.1) (h2:Sq n M.2):Sq n (zmc g M w).1∧Sq n (zmc g M w).2:=by
 have hs:=(ze9 h hw).1
 unfold zmc
 split
 ·exact ⟨h1,h2.relW fun a ha=>by have:=hs a ha; omega⟩
 exact ⟨h1.relW fun a ha=>by have:=hs a ha; omega,h2⟩
theorem ztt {g:List (List Int)} {nh nw n:Nat} (h:zus g nh nw n):∀ {ws:List Wall},(∀ w∈ws,zs6 g nh nw w)→∀ {M:List (List Bool) × List (List Bool)},Sq n M.1→Sq n M.2→Sq n (ws.foldl (zmc g) M).1∧Sq n (ws.foldl (zmc g) M).2
 | [],_,M,h1,h2=>⟨h1,h2⟩
 | w::ws,hw,M,h1,h2=>by
  obtain ⟨k1,k2⟩:=ycx h (hw w (by simp)) h1 h2
  exact ztt h (ws:=ws) (fun x hx=>hw x (by simp [hx])) k1 k2
theorem z2z {F R:List Ob} {k t:Nat} {M:List (List Bool)} {n:Nat} (hk:F.length=k) (h:M.length=n):(F++(za6 k t M++R))[k]?=some (.arr t 108 1 ((List.range n).map fun i => .loc (k+1+i) t 0 n)):=by subst hk; exact z3u h
theorem z20 {F R:List Ob} {k t a:Nat} {M:List (List Bool)} {row:List Bool} (hk:F.length=k) (h:M[a]?=some row):(F++(za6 k t M++R))[k+1+a]?=some (.arr t 4 1 (row.map .bool)):=by subst hk; exact zww h
theorem zmw {F R:List Ob} {k t a:Nat} {M:List (List Bool)} {row:List Bool} {n:Nat} (hk:F.length=k) (hn:M.length=n) (h:a<n):(F++(za6 k t M++R)).set (k+1+a) (.arr t 4 1 (row.map .bool))=F++(za6 k t (M.set a row)++R):=by subst hk; exact zlv hn h
structure Lay (n:Nat) where
 f:Ob→Ob→List Ob→List (List Bool)→List (List Bool)→List Ob
 pL:Nat
 vL:Nat
 pA:Nat
 vA:Nat
 p3:Nat
 v3:Nat
 appR:∀ {o2:Ob} {o3:Ob} {R:List Ob} {L:List (List Bool)} {A:List (List Bool)},f o2 o3 R L A=f o2 o3 [] L A++R
 len0:∀ {o2:Ob} {o3:Ob} {L:List (List Bool)} {A:List (List Bool)},L.length=n→A.length=n→(f o2 o3 [] L A).length=2*n+4
 get0:∀ {o2:Ob} {o3:Ob} {R:List Ob} {L:List (List Bool)} {A:List (List Bool)},(f o2 o3 R L A)[0]?=some o2
 set0:∀ {o2:Ob} {o3:Ob} {R:List Ob} {L:List (List Bool)} {A:List (List Bool)} {o:Ob},(f o2 o3 R L A).set 0 o=f o o3 R L A
 get3:∀ {o2:Ob} {o3:Ob} {R:List Ob} {L:List (List Bool)} {A:List (List Bool)},L.length=n→A.length=n→(f o2 o3 R L A)[p3]?=some o3
 getL:∀ {o2:Ob} {o3:Ob} {R:List Ob} {L:List (List Bool)} {A:List (List Bool)},L.length=n→(f o2 o3 R L A)[pL]?=some (.arr vL 108 1 ((List.range n).map fun i => .loc (pL+1+i) vL 0 n))
 getLr:∀ {o2:Ob} {o3:Ob} {R:List Ob} {L:List (List Bool)} {A:List (List Bool)} {a:Nat} {row:List Bool},L[a]?=some row→(f o2 o3 R L A)[pL+1+a]?=some (.arr vL 4 1 (row.map .bool))
 setL:∀ {o2:Ob} {o3:Ob} {R:List Ob} {L:List (List Bool)} {A:List (List Bool)} {a:Nat} {row:List Bool},L.length=n→a<n→(f o2 o3 R L A).set (pL+1+a) (.arr vL 4 1 (row.map .bool))=f o2 o3 R (L.set a row) A
 getA:∀ {o2:Ob} {o3:Ob} {R:List Ob} {L:List (List Bool)} {A:List (List Bool)},L.length=n→A.length=n→(f o2 o3 R L A)[pA]?=some (.arr vA 108 1 ((List.range n).map fun i => .loc (pA+1+i) vA 0 n))
 getAr:∀ {o2:Ob} {o3:Ob} {R:List Ob} {L:List (List Bool)} {A:List (List Bool)} {a:Nat} {row:List Bool},L.length=n→A[a]?=some row→(f o2 o3 R L A)[pA+1+a]?=some (.arr vA 4 1 (row.map .bool))
 setA:∀ {o2:Ob} {o3:Ob} {R:List Ob} {L:List (List Bool)} {A:List (List Bool)} {a:Nat} {row:List Bool},L.length=n→A.length=n→a<n→(f o2 o3 R L A).set (pA+1+a) (.arr vA 4 1 (row.map .bool))=f o2 o3 R L (A.set a row)
 splL:∀ {o2:Ob} {o3:Ob} {R:List Ob} {L:List (List Bool)} {A:List (List Bool)},∃ F R',pL=F.length∧∀ L':List (List Bool),L'.length=L.length→f o2 o3 R L' A=F++(za6 F.length vL L'++R')
 splA:∀ {o2:Ob} {o3:Ob} {R:List Ob} {L:List (List Bool)} {A:List (List Bool)},L.length=n→∃ F R',pA=F.length∧∀ A':List (List Bool),A'.length=A.length→f o2 o3 R L A'=F++(za6 F.length vA A'++R')
section
variable {n:Nat} (Y:Lay n) {o2 o3:Ob} {R:List Ob} {a t:Nat} {L A:List (List Bool)} {w w':Ob}
theorem Lay.app:Y.f o2 o3 R L A++[w]=Y.f o2 o3 (R++[w]) L A:=by rw [Y.appR,Y.appR (R:=R++[w])]; simp
theorem Lay.len (hl:L.length=n) (h:A.length=n):(Y.f o2 o3 R L A).length=2*n+4+R.length:=by rw [Y.appR,List.length_append,Y.len0 hl h]
theorem Lay.get4 (hl:L.length=n) (h:A.length=n):(Y.f o2 o3 (w::R) L A)[2*n+4]?=some w:=by
 rw [Y.appR,List.getElem?_append_right (by rw [Y.len0 hl h]; exact qR _),Y.len0 hl h]; simp
theorem Lay.set4 (hl:L.length=n) (h:A.length=n):(Y.f o2 o3 (w::R) L A).set (2*n+4) w'=Y.f o2 o3 (w'::R) L A:=by
 rw [Y.appR,List.set_append_right _ _ (by rw [Y.len0 hl h]; exact qR _),Y.len0 hl h,Y.appR (R:=w'::R)]; simp
theorem Lay.take (hl:L.length=n) (h:A.length=n):Store.take ⟨Y.f o2 o3 R L A,t⟩ (2*n+4)=⟨Y.f o2 o3 [] L A,t⟩:=by
 simp only[Store.take]
 rw [Y.appR,List.take_append_of_le_length (by rw [Y.len0 hl h]; exact qR _),qT (by rw [Y.len0 hl h]; exact qR _)]
end
def yf1 (n:Nat):Lay n where
 f o2 o3 R L A:=[o2]++(za6 1 1 L++(za6 (n+2) 2 A++o3::R))
 pL:=1
 vL:=1
 pA:=n+2
 vA:=2
 p3:=2*n+3
 v3:=3
 appR:=by intros; simp
 len0:=by intros o2 o3 L A h1 h2; simp [zag]; omega
 get0:=rfl
 set0:=rfl
 get3:=by
  intros o2 o3 R L A h1 h2
  rw [List.getElem?_append_right (by simp),List.getElem?_append_right (by simp [zag]; omega),List.getElem?_append_right (by simp [zag]; omega)]
  rw [zag,zag,show 2*n+3 - [o2].length - (L.length+1) - (A.length+1)=0 by simp; omega]; rfl
 getL:=fun h=>z2z rfl h
 getLr:=fun h=>z20 rfl h
 setL:=fun h1 h2=>zmw rfl h1 h2
 getA:=by intros o2 o3 R L A h1 h2; rw [← List.append_assoc]; exact z2z (by simp [zag]; omega) h2
 getAr:=by intros o2 o3 R L A a row h1 h2; rw [← List.append_assoc]; exact z20 (by simp [zag]; omega) h2
 setA:=by intros o2 o3 R L A a row h1 h2 h3; rw [← List.append_assoc,zmw (by simp [zag]; omega) h2 h3,List.append_assoc]
 splL:=by intros o2 o3 R L A; exact ⟨[o2],_,rfl,fun _ _=>rfl⟩
 splA:=by intros o2 o3 R L A h; exact ⟨[o2]++za6 1 1 L,o3::R,by simp [zag]; omega,fun A' _=>by rw [show ([o2]++za6 1 1 L).length=n+2 by simp [zag]; omega,List.append_assoc]⟩
def yf0 (n:Nat):Lay n where
 f o2 o3 R L A:=[o2]++(za6 1 1 L++(o3::(za6 (n+3) 3 A++R)))
 pL:=1
 vL:=1
 pA:=n+3
 vA:=3
 p3:=n+2
 v3:=2
 appR:=by intros; simp
 len0:=by intros o2 o3 L A h1 h2; simp [zag]; omega
 get0:=rfl
 set0:=rfl
 get3:=by
  intros o2 o3 R L A h1 h2
  rw [List.getElem?_append_right (by simp),List.getElem?_append_right (by simp [zag]; omega)]
  rw [zag,show n+2 - [o2].length - (L.length+1)=0 by simp; omega]; rfl
 getL:=fun h=>z2z rfl h
 getLr:=fun h=>z20 rfl h
 setL:=fun h1 h2=>zmw rfl h1 h2
 getA:=by intros o2 o3 R L A h1 h2; rw [show [o2]++(za6 1 1 L++(o3::(za6 (n+3) 3 A++R)))=([o2]++za6 1 1 L++[o3])++(za6 (n+3) 3 A++R) by simp]; exact z2z (by simp [zag]; omega) h2
 getAr:=by intros o2 o3 R L A a row h1 h2; rw [show [o2]++(za6 1 1 L++(o3::(za6 (n+3) 3 A++R)))=([o2]++za6 1 1 L++[o3])++(za6 (n+3) 3 A++R) by simp]; exact z20 (by simp [zag]; omega) h2
 setA:=by intros o2 o3 R L A a row h1 h2 h3; rw [show [o2]++(za6 1 1 L++(o3::(za6 (n+3) 3 A++R)))=([o2]++za6 1 1 L++[o3])++(za6 (n+3) 3 A++R) by simp,zmw (by simp [zag]; omega) h2 h3]; simp
 splL:=by intros o2 o3 R L A; exact ⟨[o2],_,rfl,fun _ _=>rfl⟩
 splA:=by intros o2 o3 R L A h; exact ⟨[o2]++za6 1 1 L++[o3],R,by simp [zag]; omega,fun A' _=>by rw [show ([o2]++za6 1 1 L++[o3]).length=n+3 by simp [zag]; omega]; simp⟩
def yfz (n:Nat):Lay n where
 f o2 o3 R L A:=[o2,o3]++(za6 2 2 L++(za6 (n+3) 3 A++R))
 pL:=2
 vL:=2
 pA:=n+3
 vA:=3
 p3:=1
 v3:=1
 appR:=by intros; simp
 len0:=by intros o2 o3 L A h1 h2; simp [zag]; omega
 get0:=rfl
 set0:=rfl
 get3:=fun _ _=>rfl
 getL:=fun h=>z2z rfl h
 getLr:=fun h=>z20 rfl h
 setL:=fun h1 h2=>zmw rfl h1 h2
 getA:=by intros o2 o3 R L A h1 h2; rw [← List.append_assoc]; exact z2z (by simp [zag]; omega) h2
 getAr:=by intros o2 o3 R L A a row h1 h2; rw [← List.append_assoc]; exact z20 (by simp [zag]; omega) h2
 setA:=by intros o2 o3 R L A a row h1 h2 h3; rw [← List.append_assoc,zmw (by simp [zag]; omega) h2 h3,List.append_assoc]
 splL:=by intros o2 o3 R L A; exact ⟨[o2,o3],_,rfl,fun _ _=>rfl⟩
 splA:=by intros o2 o3 R L A h; exact ⟨[o2,o3]++za6 2 2 L,R,by simp [zag]; omega,fun A' _=>by rw [show ([o2,o3]++za6 2 2 L).length=n+3 by simp [zag]; omega,List.append_assoc]⟩
def z9p (lv:Bool) (M:List (List Bool) × List (List Bool)) (X:List (List Bool)):List (List Bool) × List (List Bool):=if lv then (M.1,X) else (X,M.2)
def zou (lv:Bool) (M:List (List Bool) × List (List Bool)):List (List Bool):=if lv then M.2 else M.1
theorem z7e {lv:Bool} {M:List (List Bool) × List (List Bool)}:z9p lv M (zou lv M)=M:=by cases lv <;> rfl
theorem z8a {n:Nat} {lv:Bool} {M:List (List Bool) × List (List Bool)} (h1:Sq n M.1) (h2:Sq n M.2):Sq n (zou lv M):=by cases lv <;> simp [zou,h1,h2]
theorem z86 {g:List (List Int)} {M:List (List Bool) × List (List Bool)} {w:Wall}:zmc g M w=z9p w.level M (relW (zou w.level M) (zar g w).1 (zar g w).2):=by
 unfold zmc z9p zou; cases w.level <;> rfl
theorem yc2 {M:List (List Bool)} {la bs:List Int} {x:Nat} {a:Int} (h:la[x]?=some a):relW M (la.take (x+1)) bs=relB a bs (relW M (la.take x) bs):=zek h
theorem z6u {M:List (List Bool)} {bs:List Int} {y:Nat} {a b:Int} (h:bs[y]?=some b):relB a (bs.take (y+1)) M=z27 (relB a (bs.take y) M) a.toNat b.toNat true:=zek h
theorem z2t {S:Store} {im:Bool} {k:Nat} {a b a2 b2:PV} (h1:reify S im k a=some a2) (h2:reify S im k b=some b2):reify S im (k+1) (.agg [a,b])=some (.agg [a2,b2]):=by
 simp [reify,h1,h2]
theorem zik {nr:Nat} {x:Ob} {B:List Ob}:(za6 1 1 (zbl nr)++[x]++B)[nr+1]?=some x:=by
 have:(za6 1 1 (zbl nr)).length=nr+1:=by simp [zag,zbl]
 rw [List.append_assoc,List.getElem?_append_right (by omega),this]; simp
theorem zix {nr:Nat} {x y:Ob} {B:List Ob}:(za6 1 1 (zbl nr)++[x]++B).set (nr+1) y=za6 1 1 (zbl nr)++[y]++B:=by
 have:(za6 1 1 (zbl nr)).length=nr+1:=by simp [zag,zbl]
 rw [List.append_assoc,List.set_append_right _ _ (by omega),this]; simp
theorem zj4 {P:Program} {T:Tab} {e:Env} {S:Store} {ds pd:List (Option Tmp)} {t d:Nat} {o:Oper} {r l2:List Oper} {K:Env→Store→Prop} (hp:pd.contains o.dst=false) (h:zea o.op=true)
  (k:za2 false P T ds [o] e S fun e S=>zjk P T ds pd t d l2 r e S K):zjk P T ds pd t d l2 (o::r) e S K:=(z10 hp h).symm ▸ k
theorem ztk {l:List Ob} {a:Ob}:(l++[a])[l.length]?=some a:=by simp
theorem ze8 {l:List Ob} {a b:Ob}:(l++[a]).set l.length b=l++[b]:=by simp
theorem za4 {n:Nat}:(zbl n).length=n:=by simp [zbl]
end
theorem z4g {nr tk:Nat} (Y:Lay nr) {o2 o3:Ob} {R:List Ob} {L A:List (List Bool)} (hL:Sq nr L) (hn:nr≤9) :
  Ev Tryz.prog 97 [.loc Y.pL Y.vL 0 nr] ⟨Y.f o2 o3 R L A,tk⟩ fun v S=>v = .tup []∧S=⟨Y.f o2 o3 R (zfq L) A,tk⟩:=by
 obtain ⟨F,R',hp,hF⟩:=Y.splL (o2:=o2) (o3:=o3) (R:=R) (L:=L) (A:=A)
 rw [hp,hF L rfl,hF (zfq L) (by rw [hL.1,hL.close.1])]
 exact zzf hL hn
theorem z4f {nr tk:Nat} (Y:Lay nr) {o2 o3:Ob} {R:List Ob} {L A:List (List Bool)} (hL:L.length=nr) (hA:Sq nr A) (hn:nr≤9) :
  Ev Tryz.prog 97 [.loc Y.pA Y.vA 0 nr] ⟨Y.f o2 o3 R L A,tk⟩ fun v S=>v = .tup []∧S=⟨Y.f o2 o3 R L (zfq A),tk⟩:=by
 obtain ⟨F,R',hp,hF⟩:=Y.splA (o2:=o2) (o3:=o3) (R:=R) (L:=L) (A:=A) hL
 rw [hp,hF A rfl,hF (zfq A) (by rw [hA.1,hA.close.1])]
 exact zzf hA hn
theorem zlg {g:List (List Int)} {nh nw nr:Nat} (hg:GW g nh nw) {rs:List Rect} (hr:rs.length=nr) (hn:nr≤9) (hrm:zus g nh nw nr):PC Tryz.prog 50 [zbj g rs] (.agg [zg3 (zvy g nh nw nr),zg3 (zm6 g nh nw nr)]) true:=by
 have hwsl:=z7z (g:=g) (nh:=nh) (nw:=nw) (i:=2) hg.2.2.2.1 hg.2.2.2.2.2
 rw [show wsI g nh nw 2=zcc g nh nw from rfl]at hwsl
 refine PC.of ⟨Tryz.func50,by kernel_rfl,rfl,by kernel_rfl⟩ zam mixed (by show 1≤Tryz.f50.ntmps; decide) ?_
 refine W.r fun K hK=>?_
 simp(disch:=omega)only[↓RU,RV,RH,↓reduceIte,qE,reduceCtorEq,if_pos,↓RS,RG,qA,qM,qL,ty0,ty3,zap,zg5,zfc,zg6]
 apply hK;clear hK K
 refine W.join [0,2,3] (fun vs S=>∃ (Y:Lay nr) (tk:Nat),vs=[zbj g rs,.ref 0 0 0,.ref Y.p3 Y.v3 0]∧S=⟨Y.f (.arr 0 57 2 [.nils,.nils]) (.arr Y.v3 57 2 [.loc Y.pL Y.vL 0 nr,.loc Y.pA Y.vA 0 nr]) [] (zbl nr) (zbl nr),tk⟩) ?_ ?_
 ·
  refine W.region_mk (r1:=[_,_,_,_,_,_,_,_,_,_,_,_,_]) (r2:=[_]) 13 57 3 [0,1,2,3,4,6,7,8,9,10,5,11,12] [14] [7,8,9,10] [some 20,some 21,some 22,some 23] (by kernel_rfl) (by kernel_rfl) (by kernel_rfl) rfl rfl fun K hK=>?_
  refine zj4 rfl rfl ?_
  simp(disch:=omega)only[↓RU,RV,RH,↓reduceIte,qE,reduceCtorEq,if_pos,qN,↓RS,RG,qA,qM,qL,ty0,ty1,ty3,ty4,zab,zap,zez,zcb,zg5,zdo,zfc,zaa,ze0,zg6,zdp,hr,zft,zag,za4,ztk,ze8,zik,zix]
  refine zj4 rfl rfl ?_
  simp(disch:=omega)only[↓RU,RV,RH,↓reduceIte,qE,reduceCtorEq,if_pos,qN,↓RS,RG,qA,qM,qL,ty0,ty1,ty3,ty4,zab,zap,zez,zcb,zg5,zdo,zfc,zaa,ze0,zg6,zdp,hr,zft,zag,za4,ztk,ze8,zik,zix]
  refine zj4 rfl rfl ?_
  simp(disch:=omega)only[↓RU,RV,RH,↓reduceIte,qE,reduceCtorEq,if_pos,qN,↓RS,RG,qA,qM,qL,ty0,ty1,ty3,ty4,zab,zap,zez,zcb,zg5,zdo,zfc,zaa,ze0,zg6,zdp,hr,zft,zag,za4,ztk,ze8,zik,zix]
  refine zj4 rfl rfl ?_
  simp(disch:=omega)only[↓RU,RV,RH,↓reduceIte,qE,reduceCtorEq,if_pos,qN,↓RS,RG,qA,qM,qL,ty0,ty1,ty3,ty4,zab,zap,zez,zcb,zg5,zdo,zfc,zaa,ze0,zg6,zdp,hr,zft,zag,za4,ztk,ze8,zik,zix]
  refine zj4 rfl rfl ?_
  simp(disch:=omega)only[↓RU,RV,RH,↓reduceIte,qE,reduceCtorEq,if_pos,qN,↓RS,RG,qA,qM,qL,ty0,ty1,ty3,ty4,zab,zap,zez,zcb,zg5,zdo,zfc,zaa,ze0,zg6,zdp,hr,zft,zag,za4,ztk,ze8,zik,zix]
  refine zj4 rfl rfl ?_
  simp(disch:=omega)only[↓RU,RV,RH,↓reduceIte,qE,reduceCtorEq,if_pos,qN,↓RS,RG,qA,qM,qL,ty0,ty1,ty3,ty4,zab,zap,zez,zcb,zg5,zdo,zfc,zaa,ze0,zg6,zdp,hr,zft,zag,za4,ztk,ze8,zik,zix]
  refine zi2 rfl rfl rfl (fun S'=>rfl) ?_
  refine zi2 rfl rfl rfl (fun S'=>rfl) ?_
  refine zi2 rfl rfl rfl (fun S'=>rfl) ?_
  refine zi2 rfl rfl rfl (fun S'=>rfl) ?_
  refine zva rfl (by decide) ?_ ?_
  ·simp(disch:=omega)only[↓RU,RV,RH,↓reduceIte,qE,reduceCtorEq,if_pos,qN,↓RS,RG,qA,qM,qL,ty0,ty1,ty3,ty4,zab,zap,zez,zcb,zg5,zdo,zfc,zaa,ze0,zg6,zdp,hr,zft,zag,za4,ztk,ze8,zik,zix]
   refine zaf.pn (zge hn) rfl (.inl rfl) ?_
   simp(disch:=omega)only[↓RU,RV,RH,↓reduceIte,qE,reduceCtorEq,if_pos,qN,↓RS,RG,qA,qM,qL,ty0,ty1,ty3,ty4,zab,zap,zez,zcb,zg5,zdo,zfc,zaa,ze0,zg6,zdp,hr,zft,zag,za4,ztk,ze8,zik,zix,RN]
   refine zaf.pn (zge hn) rfl (.inl rfl) ?_
   simp(disch:=omega)only[↓RU,RV,RH,↓reduceIte,qE,reduceCtorEq,if_pos,qN,↓RS,RG,qA,qM,qL,ty0,ty1,ty3,ty4,zab,zap,zez,zcb,zg5,zdo,zfc,zaa,ze0,zg6,zdp,hr,zft,zag,za4,ztk,ze8,zik,zix,RN]
   apply hK;clear hK K
   refine xn ?_
   refine ⟨_,yfz nr,4,?_,zai ?_⟩
   ·simp [Env.put,Env.of,zae,yfz,zag,za4]; try omega
   simp [yfz,zag,za4]
  simp(disch:=omega)only[↓RU,RV,RH,↓reduceIte,qE,reduceCtorEq,if_pos,qN,↓RS,RG,qA,qM,qL,ty0,ty1,ty3,ty4,zab,zap,zez,zcb,zg5,zdo,zfc,zaa,ze0,zg6,zdp,hr,zft,zag,za4,ztk,ze8,zik,zix]
  refine zaf.pn (zge hn) rfl (.inl rfl) ?_
  simp(disch:=omega)only[↓RU,RV,RH,↓reduceIte,qE,reduceCtorEq,if_pos,qN,↓RS,RG,qA,qM,qL,ty0,ty1,ty3,ty4,zab,zap,zez,zcb,zg5,zdo,zfc,zaa,ze0,zg6,zdp,hr,zft,zag,za4,ztk,ze8,zik,zix,RN]
  refine zva rfl (by decide) ?_ ?_
  ·simp(disch:=omega)only[↓RU,RV,RH,↓reduceIte,qE,reduceCtorEq,if_pos,qN,↓RS,RG,qA,qM,qL,ty0,ty1,ty3,ty4,zab,zap,zez,zcb,zg5,zdo,zfc,zaa,ze0,zg6,zdp,hr,zft,zag,za4,ztk,ze8,zik,zix]
   refine zaf.pn (zge hn) rfl (.inl rfl) ?_
   simp(disch:=omega)only[↓RU,RV,RH,↓reduceIte,qE,reduceCtorEq,if_pos,qN,↓RS,RG,qA,qM,qL,ty0,ty1,ty3,ty4,zab,zap,zez,zcb,zg5,zdo,zfc,zaa,ze0,zg6,zdp,hr,zft,zag,za4,ztk,ze8,zik,zix,RN]
   apply hK;clear hK K
   refine xn ?_
   refine ⟨_,yf0 nr,4,?_,zai ?_⟩
   ·simp [Env.put,Env.of,zae,yf0,zag,za4]; try omega
   simp [yf0,zag,za4]
  simp(disch:=omega)only[↓RU,RV,RH,↓reduceIte,qE,reduceCtorEq,if_pos,qN,↓RS,RG,qA,qM,qL,ty0,ty1,ty3,ty4,zab,zap,zez,zcb,zg5,zdo,zfc,zaa,ze0,zg6,zdp,hr,zft,zag,za4,ztk,ze8,zik,zix]
  refine zaf.pn (zge hn) rfl (.inl rfl) ?_
  simp(disch:=omega)only[↓RU,RV,RH,↓reduceIte,qE,reduceCtorEq,if_pos,qN,↓RS,RG,qA,qM,qL,ty0,ty1,ty3,ty4,zab,zap,zez,zcb,zg5,zdo,zfc,zaa,ze0,zg6,zdp,hr,zft,zag,za4,ztk,ze8,zik,zix,RN]
  refine zj4 rfl rfl ?_
  simp(disch:=omega)only[↓RU,RV,RH,↓reduceIte,qE,reduceCtorEq,if_pos,qN,↓RS,RG,qA,qM,qL,ty0,ty1,ty3,ty4,zab,zap,zez,zcb,zg5,zdo,zfc,zaa,ze0,zg6,zdp,hr,zft,zag,za4,ztk,ze8,zik,zix,RN]
  refine ⟨by decide,?_⟩
  simp(disch:=omega)only[↓RU,RV,RH,↓reduceIte,qE,reduceCtorEq,if_pos,qN,↓RS,RG,qA,qM,qL,ty0,ty1,ty3,ty4,zab,zap,zez,zcb,zg5,zdo,zfc,zaa,ze0,zg6,zdp,hr,zft,zag,za4,ztk,ze8,zik,zix,RN]
  apply hK;clear hK K
  refine xn ?_
  refine ⟨_,yf1 nr,4,?_,zai ?_⟩
  ·simp [Env.put,Env.of,zae,yf1,zag,za4]; try omega
  simp [yf1,zag,za4]
 rintro vs S - ⟨Y,tk,rfl,rfl⟩
 refine W.seq ?_
 refine W.r fun K hK=>?_
 simp(disch:=omega)only[↓RU,RV,RH,↓reduceIte,qE,reduceCtorEq,if_pos,qN,↓RS,RG,qA,qM,qL,ty5,zap,z1p,zaa,z1q,ztk,ze8]
 refine zaf.pc (z93 hg rs) rfl (.inl rfl) ?_
 simp(disch:=omega)only[↓RU,RV,RH,↓reduceIte,qE,reduceCtorEq,if_pos,qN,↓RS,RG,qA,qM,qL,ty5,zap,z1p,zaa,z1q,ztk,ze8]
 apply hK;clear hK K
 refine W.block ?_
 refine W.loop [0,2,3,27,28,29] (fun n vs S=>∃ i tk:Nat,n=(zcc g nh nw).length - i∧i≤(zcc g nh nw).length∧vs=[zbj g rs,.ref 0 0 0,.ref Y.p3 Y.v3 0,zrn (zcc g nh nw),.int .i64 (zcc g nh nw).length,.int .i64 i]∧S=⟨Y.f (.arr 0 57 2 [.nils,.nils]) (.arr Y.v3 57 2 [.loc Y.pL Y.vL 0 nr,.loc Y.pA Y.vA 0 nr]) [] (((zcc g nh nw).take i).foldl (zmc g) (zbl nr,zbl nr)).1 (((zcc g nh nw).take i).foldl (zmc g) (zbl nr,zbl nr)).2,tk⟩) (zcc g nh nw).length ?_ ?_
 ·refine ⟨_,0,tk,rfl,by omega,?_,zai rfl⟩
  simp [Env.put,Env.of,zae]
 rintro n vs S - ⟨i,tk,rfl,h_i,rfl,rfl⟩
 refine W.r fun K hK=>?_
 simp(disch:=omega)only[↓RU,RV,RH,↓reduceIte,qE,reduceCtorEq,if_pos,w64,↓RS,RG,qA,qM,qL,zaa]
 apply hK;clear hK K
 refine W.seq ?_
 refine W.cond rfl (fun h=>?_) (fun h=>?_)
 ·try simp only[RL]at h
  obtain ⟨w,hw,hwm⟩:=zad (show i<(zcc g nh nw).length by omega)
  obtain ⟨hL,hA⟩:=ztt hrm (ws:=(zcc g nh nw).take i) (fun w hw=>zdm w (List.mem_of_mem_take hw)) (M:=(zbl nr,zbl nr)) (zeq nr) (zeq nr)
  generalize hMe:(((zcc g nh nw).take i).foldl (zmc g) (zbl nr,zbl nr))=M at hL hA
  obtain ⟨ln,fr,lg,hwe,hlg,hin⟩:=zdm w hwm
  obtain ⟨lv,wl,wf,wg⟩:=w
  simp only[Wall.mk.injEq,true_and]at hwe hin
  obtain ⟨rfl,rfl,rfl⟩:=hwe
  have hsr:=ze9 hrm (zdm _ hwm)
  obtain ⟨hLl,-⟩:=id hL
  obtain ⟨hAl,-⟩:=id hA
  refine W.skip ?_
  refine xn ?_
  refine W.seq ?_
  refine W.block ?_
  refine W.r fun K hK=>?_
  simp(disch:=omega)only[↓RU,RV,RH,↓reduceIte,qE,reduceCtorEq,if_pos,↓RS,RG,qA,qM,qL,ty5,zap,z1p,zaa,z1q,hMe,hw,yfl hw,zh1,Y.app,Y.len hLl hAl,Y.get4 hLl hAl,Y.set4 hLl hAl,Wall.cells]
  apply hK;clear hK K
  refine W.r fun K hK=>?_
  simp(disch:=omega)only[↓RU,RV,RH,↓reduceIte,qE,reduceCtorEq,if_pos,↓RS,RG,qA,qM,qL,ty0,ty3,zap,zg5,zfc,zg6,Y.get3 hLl hAl]
  apply hK;clear hK K
  refine W.join [0,2,3,27,28,29,5,6] (fun vs S=>vs=[zbj g rs,.ref 0 0 0,.ref Y.p3 Y.v3 0,zrn (zcc g nh nw),.int .i64 (zcc g nh nw).length,.int .i64 i,.ref (2*nr+4) tk 0,(if lv then .loc Y.pA Y.vA 0 nr else .loc Y.pL Y.vL 0 nr)]∧S=⟨Y.f (.arr 0 57 2 [.nils,.nils]) (.arr Y.v3 57 2 [.loc Y.pL Y.vL 0 nr,.loc Y.pA Y.vA 0 nr]) [.arr tk 105 4 [.bool lv,.int .i64 ln,.int .i64 fr,.int .i64 lg]] M.1 M.2,tk+1⟩) ?_ ?_
  ·
   refine W.r fun K hK=>?_
   simp(disch:=omega)only[↓RU,RV,RH,↓reduceIte,qE,reduceCtorEq,if_pos,↓RS,RG,qA,qM,qL,zap,z1p,zaa,z1q,Y.get4 hLl hAl]
   apply hK;clear hK K
   refine W.cond rfl (fun h1=>?_) (fun h1=>?_)
   ·try simp only[RL]at h1
    refine W.k fun K hK=>?_
    simp(disch:=omega)only[↓RU,RV,RH,↓reduceIte,qE,reduceCtorEq,if_pos,↓RS,RG,qA,qM,qL,ty0,ty3,zap,zg5,zfc,zg6,Y.get3 hLl hAl]
    apply hK;clear hK K
    refine xn ?_
    refine ⟨_,?_,zao⟩
    simp [Env.put,Env.of,h1]
   try simp only[RL]at h1
   refine W.skip ?_
   refine xn ?_
   refine ⟨_,?_,zao⟩
   simp [Env.put,Env.of,h1]
  rintro vs S - ⟨rfl,rfl⟩
  refine W.r fun K hK=>?_
  simp(disch:=omega)only[↓RU,RV,RH,↓reduceIte,qE,reduceCtorEq,if_pos,qN,↓RS,RG,qA,qM,qL,zap,z1p,zaa,z1q,Y.get4 hLl hAl]
  refine zaf.pc (z79 hg rs hlg fun j a b=>(hin j a b).1) rfl (.inl rfl) ?_
  simp(disch:=omega)only[↓RU,RV,RH,↓reduceIte,qE,reduceCtorEq,if_pos,qN,↓RS,RG,qA,qM,qL,zap,z1p,zaa,z1q,Y.get4 hLl hAl]
  apply hK;clear hK K
  have hs1:ddp (za3 g lv ln fr lg).1=(zar g ⟨lv,ln,fr,lg⟩).1:=by simp [zar]
  have hs2:ddp (za3 g lv ln fr lg).2=(zar g ⟨lv,ln,fr,lg⟩).2:=by simp [zar]
  rw [hs1,hs2]
  obtain ⟨hsr1,hsr2⟩:=hsr
  have hsl:=zyx hg (zdm _ hwm)
  generalize hasE:(zar g ⟨lv,ln,fr,lg⟩).1=av at hsr1 hsl
  generalize hbsE:(zar g ⟨lv,ln,fr,lg⟩).2=bv at hsr2 hsl
  refine W.r fun K hK=>?_
  simp(disch:=omega)only[↓RU,RV,RH,↓reduceIte,qE,reduceCtorEq,if_pos,↓RS,RG,qA,qM,qL,zab,zaa]
  apply hK;clear hK K
  refine W.block ?_
  refine W.loop [0,2,3,27,28,29,6,8,45,46,47] (fun n vs S=>∃ x tk:Nat,n=av.length - x∧x≤av.length∧vs=[zbj g rs,.ref 0 0 0,.ref Y.p3 Y.v3 0,zrn (zcc g nh nw),.int .i64 (zcc g nh nw).length,.int .i64 i,(if lv then .loc Y.pA Y.vA 0 nr else .loc Y.pL Y.vL 0 nr),eInts bv,eInts av,.int .i64 av.length,.int .i64 x]∧S=⟨Y.f (.arr 0 57 2 [.nils,.nils]) (.arr Y.v3 57 2 [.loc Y.pL Y.vL 0 nr,.loc Y.pA Y.vA 0 nr]) [] (z9p lv M (relW (zou lv M) (av.take x) bv)).1 (z9p lv M (relW (zou lv M) (av.take x) bv)).2,tk⟩) av.length ?_ ?_
  ·refine ⟨2*nr+4,0,tk+1,rfl,by omega,?_,?_⟩
   ·simp [Env.put,Env.of]
   rw [Y.take hLl hAl,List.take_zero]; rw [show relW (zou lv M) [] bv=zou lv M from rfl,z7e]
  rintro n vs S - ⟨x,tk,rfl,h_x,rfl,rfl⟩
  refine W.r fun K hK=>?_
  simp(disch:=omega)only[↓RU,RV,RH,↓reduceIte,qE,reduceCtorEq,if_pos,w64,↓RS,RG,qA,qM,qL,zaa]
  apply hK;clear hK K
  refine W.seq ?_
  refine W.cond rfl (fun h2=>?_) (fun h2=>?_)
  ·try simp only[RL]at h2
   obtain ⟨a,ha,ham⟩:=zad (show x<av.length by omega)
   have hab:=hsr1 a ham
   have hX:Sq nr (relW (zou lv M) (av.take x) bv):=Sq.relW (fun a ha=>by have:=hsr1 a (List.mem_of_mem_take ha); omega) (z8a hL hA)
   generalize hXe:relW (zou lv M) (av.take x) bv=X at hX
   have hasl2:=hsl.1
   have hbsl2:=hsl.2
   refine W.skip ?_
   refine xn ?_
   refine W.seq ?_
   refine W.block ?_
   refine W.r fun K hK=>?_
   simp(disch:=omega)only[↓RU,RV,RH,↓reduceIte,qE,reduceCtorEq,if_pos,↓RS,RG,qA,qM,qL,zab,zaa,ha]
   apply hK;clear hK K
   refine W.r fun K hK=>?_
   simp(disch:=omega)only[↓RU,RV,RH,↓reduceIte,qE,reduceCtorEq,if_pos,↓RS,RG,qA,qM,qL,zab,zaa]
   apply hK;clear hK K
   refine W.block ?_
   refine W.loop [0,2,3,27,28,29,6,8,45,46,47,10,51,52,53] (fun n vs S=>∃ y tk:Nat,n=bv.length - y∧y≤bv.length∧vs=[zbj g rs,.ref 0 0 0,.ref Y.p3 Y.v3 0,zrn (zcc g nh nw),.int .i64 (zcc g nh nw).length,.int .i64 i,(if lv then .loc Y.pA Y.vA 0 nr else .loc Y.pL Y.vL 0 nr),eInts bv,eInts av,.int .i64 av.length,.int .i64 x,.int .i64 a,eInts bv,.int .i64 bv.length,.int .i64 y]∧S=⟨Y.f (.arr 0 57 2 [.nils,.nils]) (.arr Y.v3 57 2 [.loc Y.pL Y.vL 0 nr,.loc Y.pA Y.vA 0 nr]) [] (z9p lv M (relB a (bv.take y) X)).1 (z9p lv M (relB a (bv.take y) X)).2,tk⟩) bv.length ?_ ?_
   ·refine ⟨_,0,tk,rfl,by omega,?_,zai ?_⟩
    ·simp [Env.put,Env.of]
    rfl
   rintro n vs S - ⟨y,tk,rfl,h_y,rfl,rfl⟩
   refine W.r fun K hK=>?_
   simp(disch:=omega)only[↓RU,RV,RH,↓reduceIte,qE,reduceCtorEq,if_pos,w64,↓RS,RG,qA,qM,qL,zaa]
   apply hK;clear hK K
   refine W.seq ?_
   refine W.cond rfl (fun h3=>?_) (fun h3=>?_)
   ·try simp only[RL]at h3
    obtain ⟨b,hb,hbm⟩:=zad (show y<bv.length by omega)
    have hbb:=hsr2 b hbm
    have hZ:Sq nr (relB a (bv.take y) X):=hX.relB (by omega)
    generalize hZe:relB a (bv.take y) X=Z at hZ
    obtain ⟨a,rfl⟩:∃ a2:Nat,a=a2:=⟨a.toNat,by omega⟩
    obtain ⟨b,rfl⟩:∃ b2:Nat,b=b2:=⟨b.toNat,by omega⟩
    obtain ⟨row,hrow,hrl,-⟩:=hZ.at_ (show a<nr by omega) (show b<nr by omega)
    have hZl:=hZ.1
    refine W.skip ?_
    refine xn ?_
    refine W.seq ?_
    refine W.block ?_
    refine W.r fun K hK=>?_
    simp(disch:=omega)only[↓RU,RV,RH,↓reduceIte,qE,reduceCtorEq,if_pos,↓RS,RG,qA,qM,qL,zab,zaa,hb]
    apply hK;clear hK K
    refine W.k fun K hK=>?_
    cases lv
    ·skip
     simp only[z9p,qF,if_false]
     try rw [hZe]
     simp(disch:=omega)only[↓RU,RV,RH,↓reduceIte,qE,reduceCtorEq,if_pos,↓RS,RG,qA,qM,qL,ty0,ty3,zap,zfc,Y.getL hZl,Y.getLr hrow,zjx,hrl,zbe,zfn,Y.setL hZl]
     apply hK;clear hK K
     refine XbN ?_
     refine xn ?_
     refine W.k fun K hK=>?_
     simp(disch:=omega)only[↓RU,RV,RH,↓reduceIte,qE,reduceCtorEq,if_pos,w64,↓RS,RG,qA,qM,qL,zaa]
     apply hK;clear hK K
     refine xn ?_
     refine ⟨bv.length - (y+1),by omega,_,y+1,tk,rfl,by omega,?_,zai ?_⟩
     ·simp [Env.put,Env.of]
     rw [z6u hb,hZe,Int.toNat_natCast,Int.toNat_natCast,zgn hrow]; rfl
    skip
    simp only[z9p,if_true]
    try rw [hZe]
    simp(disch:=omega)only[↓RU,RV,RH,↓reduceIte,qE,reduceCtorEq,if_pos,↓RS,RG,qA,qM,qL,ty0,ty3,zap,zfc,Y.getA hLl hZl,Y.getAr hLl hrow,zjx,hrl,zbe,zfn,Y.setA hLl hZl]
    apply hK;clear hK K
    refine XbN ?_
    refine xn ?_
    refine W.k fun K hK=>?_
    simp(disch:=omega)only[↓RU,RV,RH,↓reduceIte,qE,reduceCtorEq,if_pos,w64,↓RS,RG,qA,qM,qL,zaa]
    apply hK;clear hK K
    refine xn ?_
    refine ⟨bv.length - (y+1),by omega,_,y+1,tk,rfl,by omega,?_,zai ?_⟩
    ·simp [Env.put,Env.of]
    rw [z6u hb,hZe,Int.toNat_natCast,Int.toNat_natCast,zgn hrow]; rfl
   try simp only[RL]at h3
   obtain rfl:y=bv.length:=by omega
   rw [List.take_length]
   refine W.exit ?_
   refine xe ?_
   refine xe ?_
   refine XBlock.hit ?_
   refine XbN ?_
   refine xn ?_
   refine W.k fun K hK=>?_
   simp(disch:=omega)only[↓RU,RV,RH,↓reduceIte,qE,reduceCtorEq,if_pos,w64,↓RS,RG,qA,qM,qL,zaa]
   apply hK;clear hK K
   refine xn ?_
   refine ⟨av.length - (x+1),by omega,_,x+1,tk,rfl,by omega,?_,zai ?_⟩
   ·simp [Env.put,Env.of]
   rw [yc2 ha,hXe]
  try simp only[RL]at h2
  obtain rfl:x=av.length:=by omega
  refine W.exit ?_
  refine xe ?_
  refine xe ?_
  refine XBlock.hit ?_
  refine XbN ?_
  refine xn ?_
  refine W.k fun K hK=>?_
  simp(disch:=omega)only[↓RU,RV,RH,↓reduceIte,qE,reduceCtorEq,if_pos,w64,↓RS,RG,qA,qM,qL,zaa]
  apply hK;clear hK K
  refine xn ?_
  refine ⟨(zcc g nh nw).length - (i+1),by omega,_,i+1,tk,rfl,by omega,?_,zai ?_⟩
  ·simp [Env.put,Env.of]
  rw [zek hw,hMe,z86,List.take_length,hasE,hbsE]
 try simp only[RL]at h
 obtain rfl:i=(zcc g nh nw).length:=by omega
 rw [List.take_length]
 have hLA:=ztt hrm (ws:=zcc g nh nw) zdm (M:=(zbl nr,zbl nr)) (zeq nr) (zeq nr)
 rw [show (zcc g nh nw).foldl (zmc g) (zbl nr,zbl nr)=z85 g nh nw nr from rfl]at hLA ⊢
 obtain ⟨hL,hA⟩:=hLA
 have hLl:=hL.1
 have hAl:=hA.1
 have hLc:=hL.close
 have hAc:=hA.close
 have hLcl:=hLc.1
 have hAcl:=hAc.1
 refine W.exit ?_
 refine xe ?_
 refine xe ?_
 refine XBlock.hit ?_
 refine xn ?_
 refine W.r fun K hK=>?_
 simp(disch:=omega)only[↓RU,RV,RH,↓reduceIte,qE,reduceCtorEq,if_pos,qN,↓RS,RG,qA,qM,qL,ty0,ty3,zap,zg5,zfc,zg6,Y.get3 hLl hAl]
 refine zaf.ev (z4g Y hL hn) ?_
 rintro _ _ ⟨rfl,rfl⟩
 simp(disch:=omega)only[↓RU,RV,RH,↓reduceIte,qE,reduceCtorEq,if_pos,qN,↓RS,RG,qA,qM,qL,ty0,ty3,zap,zg5,zfc,zg6,Y.get3 hLl hAl]
 apply hK;clear hK K
 refine W.r fun K hK=>?_
 simp(disch:=omega)only[↓RU,RV,RH,↓reduceIte,qE,reduceCtorEq,if_pos,qN,↓RS,RG,qA,qM,qL,ty0,ty3,zap,zg5,zfc,zg6,Y.get3 hLcl hAl]
 refine zaf.ev (z4f Y hLcl hA hn) ?_
 rintro _ _ ⟨rfl,rfl⟩
 simp(disch:=omega)only[↓RU,RV,RH,↓reduceIte,qE,reduceCtorEq,if_pos,qN,↓RS,RG,qA,qM,qL,ty0,ty3,zap,zg5,zfc,zg6,Y.get3 hLcl hAl]
 apply hK;clear hK K
 refine W.r fun K hK=>?_
 simp(disch:=omega)only[↓RU,RV,RH,↓reduceIte,qE,reduceCtorEq,if_pos,↓RS,RG,qA,qM,qL,ty0,ty3,zap,zg5,zfc,zg6,Y.get3 hLcl hAcl,Y.get0,Y.set0]
 apply hK;clear hK K
 refine W.ret ?_
 refine Br (v := .agg [.loc Y.pL Y.vL 0 nr,.loc Y.pA Y.vA 0 nr]) (by simp only[zt5,zki,show Tryz.f50.results.toList=[.cell 2 57] from rfl,zwz,Env.put,Env.of,qE,↓reduceIte,zpx,ybz,Y.get0]; rfl) ?_
 exact z2t (zwv (f:=6) hLc (Y.getL hLcl) fun a row h=>Y.getLr h) (zwv (f:=6) hAc (Y.getA hLcl hAcl) fun a row h=>Y.getAr hLcl h)
end Fw
end Go.Proofs.YtddhgiafpmghpaaGreat
