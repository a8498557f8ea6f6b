/- Parts of the framework and of the proof: The specification of plans, gone through; What a plan is, gone through; Points where rooms meet, gone through; Walls, gone through; Walls and their sides, gone through; The sides of a wall, gone through; Upright walls, gone through; Walls and orders of plans in plain words; All walls; sets of rooms, gone through; Sizes of plans in plain words; The program's own data in plain words; Small functions of the program and of the library, gone through; The program's walls in plain words; Walls of the program, gone through; Lists without neighbours that are the same; the program's relations in plain words; Compact and the sides of walls of the program, gone through; Relations of rooms in plain words, and in the store; Relations, gone through; The program's orders in plain words; Orders of the program, gone through. -/
import Derived.Test.YtddhgiafpmghpaaGreatJ1
set_option linter.all false
namespace Go.Proofs.YtddhgiafpmghpaaGreat
namespace Fw
open Go
open Nat renaming reduceEqDiff → qE, reduceLeDiff → qL, reduceAdd → qA, reduceMul → qM, le_refl → qR
open List renaming append_nil → qN, mapM_append → qP, mapM_cons → qC, mapM_map → qU, range_succ → qS, take_of_length_le → qT
open Bool renaming and_eq_true → qB, false_eq_true → qF
open Option renaming map_some → qO, map_eq_some_iff → qI
open Int renaming reduceToNat → qZ
theorem zgd {p:List Txt} (hs:Sm p):PC Tryz.prog 72 [zan p] (.bool (zc1 p)) true:=by
 have hp:=hs.rows
 have hr:=hs.cols
 refine PC.of ⟨Tryz.func72,by kernel_rfl,rfl,by kernel_rfl⟩ zao mixed (by show 1≤Tryz.f72.ntmps; decide) ?_
 refine W.r fun K hK=>?_
 simp(disch:=omega)only[↓RU,RV,RH,↓reduceIte,qE,reduceCtorEq,if_pos]
 apply hK;clear hK K
 refine W.seq ?_
 refine W.r fun K hK=>?_
 simp(disch:=omega)only[↓RU,RV,RH,↓reduceIte,qE,reduceCtorEq,if_pos]
 apply hK;clear hK K
 refine W.block ?_
 refine W.loop [0,3] (fun n vs S=>∃ i:Nat,n=p.length - i∧i≤p.length∧((p.take i).all (zsr (zax p).length)=true)∧vs=[zan p,.int .i64 i]∧S=⟨[],0⟩) (p.length) ?_ ?_
 ·refine ⟨0,0,rfl,Nat.zero_le _,rfl,?_,rfl⟩
  simp [Env.put,Env.of,zae]
 rintro n vs S - ⟨i,rfl,h_i,hg,rfl,rfl⟩
 refine W.seq ?_
 refine W.r fun K hK=>?_
 simp(disch:=omega)only[↓RU,RV,RH,↓reduceIte,qE,reduceCtorEq,if_pos,w64,ty6,zaa,zac]
 apply hK;clear hK K
 refine W.cond rfl (fun h=>?_) (fun h=>?_)
 ·try simp only[RL]at h
  obtain ⟨row,hrow,hrm⟩:=zaf (show i<p.length by omega)
  have hrl:=hr row hrm
  obtain ⟨row0,hrow0,hrm0⟩:=zaf (show 0<p.length by omega)
  have hhd:=zc4 hrow0
  refine W.skip ?_
  refine xn ?_
  refine W.seq ?_
  refine W.block ?_
  refine W.seq ?_
  refine W.seq_draw (by kernel_rfl) fun K hK=>?_
  cases hw:((row.length:Int) != (row0.length:Int))
  ·skip
   simp(disch:=omega)only[↓RU,RV,RH,↓reduceIte,qE,reduceCtorEq,if_pos,w64,qN,ty6,zaa,zac,hrow,hrow0,Int.toNat_zero,Nat.zero_mul,qZ,hw]
   refine zad.pc (zeq _ _ _) rfl (.inl rfl) ?_
   simp(disch:=omega)only[↓RU,RV,RH,↓reduceIte,qE,reduceCtorEq,if_pos,w64,qN,ty6,zaa,zac,hrow,hrow0,Int.toNat_zero,Nat.zero_mul,qZ,hw]
   apply hK;clear hK K
   simp only[bne_eq_false_iff_eq]at hw
   refine W.cond rfl (fun h2=>?_) (fun h2=>?_)
   ·skip
    simp only[Bool.not_eq_true',Bool.and_eq_false_iff,decide_eq_false_iff_not]at h2
    refine W.r fun K hK=>?_
    simp(disch:=omega)only[↓RU,RV,RH,↓reduceIte,qE,reduceCtorEq,if_pos]
    apply hK;clear hK K
    refine W.ret ?_
    refine XThen.ret ?_
    refine XBlock.ret ?_
    refine XThen.ret ?_
    refine XThen.ret ?_
    refine XBlock.ret ?_
    refine XThen.ret ?_
    refine Br rfl ?_
    rw [zpt hrow (by cases hb:zsr (zax p).length row with | false=>rfl | true=>exfalso; simp only[zsr,qB,decide_eq_true_eq]at hb; rw [hhd]at hb; omega)]
    rfl
   skip
   simp only[Bool.not_eq_false',qB,decide_eq_true_eq]at h2
   refine W.skip ?_
   refine xn ?_
   refine W.r fun K hK=>?_
   simp(disch:=omega)only[↓RU,RV,RH,↓reduceIte,qE,reduceCtorEq,if_pos]
   apply hK;clear hK K
   refine W.block ?_
   refine W.loop [0,3,4] (fun n vs S=>∃ k:Nat,n=row.length - k∧k≤row.length∧((row.take k).all zde=true)∧vs=[zan p,.int .i64 i,.int .i64 k]∧S=⟨[],0⟩) (row.length) ?_ ?_
   ·refine ⟨0,0,rfl,Nat.zero_le _,rfl,?_,rfl⟩
    simp [Env.put,Env.of,zae]
   rintro n vs S - ⟨k,rfl,h_k,hl,rfl,rfl⟩
   refine W.seq ?_
   refine W.r fun K hK=>?_
   simp(disch:=omega)only[↓RU,RV,RH,↓reduceIte,qE,reduceCtorEq,if_pos,w64,ty6,zaa,zac,hrow]
   apply hK;clear hK K
   refine W.cond rfl (fun h3=>?_) (fun h3=>?_)
   ·try simp only[RL]at h3
    obtain ⟨c,hc,-⟩:=zaf (show k<row.length by omega)
    have hcl:=c.toNat_lt
    refine W.skip ?_
    refine xn ?_
    refine W.seq ?_
    refine W.block ?_
    refine W.r fun K hK=>?_
    cases hlo:decide ((c.toNat:Int)<97)
    ·skip
     simp(disch:=omega)only[↓RU,RV,RH,↓reduceIte,qE,reduceCtorEq,if_pos,w64,ty6,zac,zd4,hrow,hc,hlo]
     apply hK;clear hK K
     refine W.cond rfl (fun h4=>?_) (fun h4=>?_)
     ·try simp only[RL]at h4
      refine W.r fun K hK=>?_
      simp(disch:=omega)only[↓RU,RV,RH,↓reduceIte,qE,reduceCtorEq,if_pos]
      apply hK;clear hK K
      refine W.ret ?_
      refine XBlock.ret ?_
      refine XThen.ret ?_
      refine XThen.ret ?_
      refine XBlock.ret ?_
      refine XBlock.ret ?_
      refine XThen.ret ?_
      refine XThen.ret ?_
      refine XBlock.ret ?_
      refine XThen.ret ?_
      refine Br rfl ?_
      rw [zpt hrow (zne hc (by cases hb:zde c with | false=>rfl | true=>exfalso; simp only[zde,qB,decide_eq_true_eq]at hb; omega))]
      rfl
     try simp only[RL]at h4
     refine W.skip ?_
     refine XbN ?_
     refine xn ?_
     refine W.k fun K hK=>?_
     simp(disch:=omega)only[↓RU,RV,RH,↓reduceIte,qE,reduceCtorEq,if_pos,w64,zaa]
     apply hK;clear hK K
     refine xn ?_
     refine ⟨row.length - (k+1),by omega,0,k+1,rfl,by omega,z1k hc hl (by simp only[decide_eq_false_iff_not]at hlo; simp only[zde,qB,decide_eq_true_eq]; omega),?_,rfl⟩
     simp [Env.put,Env.of]
    skip
    simp(disch:=omega)only[↓RU,RV,RH,↓reduceIte,qE,reduceCtorEq,if_pos,w64,ty6,zac,zd4,hrow,hc,hlo]
    apply hK;clear hK K
    refine W.cond rfl (fun h4=>?_) (fun h4=>?_)
    ·try simp only[RL]at h4
     refine W.r fun K hK=>?_
     simp(disch:=omega)only[↓RU,RV,RH,↓reduceIte,qE,reduceCtorEq,if_pos]
     apply hK;clear hK K
     refine W.ret ?_
     refine XBlock.ret ?_
     refine XThen.ret ?_
     refine XThen.ret ?_
     refine XBlock.ret ?_
     refine XBlock.ret ?_
     refine XThen.ret ?_
     refine XThen.ret ?_
     refine XBlock.ret ?_
     refine XThen.ret ?_
     refine Br rfl ?_
     simp only[decide_eq_true_eq]at hlo
     rw [zpt hrow (zne hc (by cases hb:zde c with | false=>rfl | true=>exfalso; simp only[zde,qB,decide_eq_true_eq]at hb; omega))]
     rfl
    try simp only[RL]at h4
    exact absurd h4 (by simp)
   try simp only[RL]at h3
   have hl2:row.all zde=true:=by rw [show k=row.length by omega,List.take_length]at hl; exact hl
   refine W.exit ?_
   refine xe ?_
   refine xe ?_
   refine XBlock.hit ?_
   refine XbN ?_
   refine xn ?_
   refine W.k fun K hK=>?_
   simp(disch:=omega)only[↓RU,RV,RH,↓reduceIte,qE,reduceCtorEq,if_pos,w64,zaa]
   apply hK;clear hK K
   refine xn ?_
   refine ⟨p.length - (i+1),by omega,0,i+1,rfl,by omega,z1k hrow hg (by rw [hhd]; simp only[zsr,hl2,Bool.and_true,qB,decide_eq_true_eq]; omega),?_,rfl⟩
   simp [Env.put,Env.of]
  skip
  simp(disch:=omega)only[↓RU,RV,RH,↓reduceIte,qE,reduceCtorEq,if_pos,w64,qN,ty6,zaa,zac,hrow,hrow0,Int.toNat_zero,Nat.zero_mul,qZ,hw]
  apply hK;clear hK K
  simp only[bne_iff_ne,ne_eq]at hw
  refine W.cond rfl (fun h2=>?_) (fun h2=>?_)
  ·try simp only[RL]at h2
   refine W.r fun K hK=>?_
   simp(disch:=omega)only[↓RU,RV,RH,↓reduceIte,qE,reduceCtorEq,if_pos]
   apply hK;clear hK K
   refine W.ret ?_
   refine XThen.ret ?_
   refine XBlock.ret ?_
   refine XThen.ret ?_
   refine XThen.ret ?_
   refine XBlock.ret ?_
   refine XThen.ret ?_
   refine Br rfl ?_
   rw [zpt hrow (by cases hb:zsr (zax p).length row with | false=>rfl | true=>exfalso; simp only[zsr,qB,decide_eq_true_eq]at hb; rw [hhd]at hb; omega)]
   rfl
  try simp only[RL]at h2
  exact absurd h2 (by simp)
 try simp only[RL]at h
 refine W.exit ?_
 refine xe ?_
 refine xe ?_
 refine XBlock.hit ?_
 refine xn ?_
 refine W.r fun K hK=>?_
 simp(disch:=omega)only[↓RU,RV,RH,↓reduceIte,qE,reduceCtorEq,if_pos,qN,ty6,zac]
 refine zad.pc (zeq _ _ _) rfl (.inl rfl) ?_
 simp(disch:=omega)only[↓RU,RV,RH,↓reduceIte,qE,reduceCtorEq,if_pos,qN,ty6,zac]
 apply hK;clear hK K
 refine W.ret ?_
 refine Br rfl ?_
 have hip:i=p.length:=by omega
 rw [hip,List.take_length]at hg
 rw [z7l hg,← yhk]
 rfl
theorem zic {p:List Txt} (hs:Sm p):PC Tryz.prog 74 [zan p] (zan (names p)) true:=by
 have hp:=hs.rows
 have hr:=hs.cols
 refine PC.of ⟨Tryz.func74,by kernel_rfl,rfl,by kernel_rfl⟩ zao mixed (by show 1≤Tryz.f74.ntmps; decide) ?_
 refine W.r fun K hK=>?_
 simp(disch:=omega)only[↓RU,RV,RH,↓reduceIte,qE,reduceCtorEq,if_pos,↓RS,RG,qA,qM,qL]
 apply hK;clear hK K
 refine W.r fun K hK=>?_
 simp(disch:=omega)only[↓RU,RV,RH,↓reduceIte,qE,reduceCtorEq,if_pos,↓RS,RG,qA,qM,qL,ty7,zd4]
 apply hK;clear hK K
 refine W.r fun K hK=>?_
 simp(disch:=omega)only[↓RU,RV,RH,↓reduceIte,qE,reduceCtorEq,if_pos,↓RS,RG,qA,qM,qL,ty6,zac]
 apply hK;clear hK K
 refine W.seq ?_
 refine W.r fun K hK=>?_
 simp(disch:=omega)only[↓RU,RV,RH,↓reduceIte,qE,reduceCtorEq,if_pos,↓RS,RG,qA,qM,qL]
 apply hK;clear hK K
 refine W.block ?_
 refine W.loop [0,3,4,5] (fun n vs S=>∃ i v0 v1 tk:Nat,n=p.length - i∧i≤p.length∧vs=[zan p,.loc 0 v0 0 (zfl p i).1.length,.loc 1 v1 0 (zfl p i).2.length,.int .i64 i]∧S=⟨[.arr v0 5 1 ((zfl p i).1.map eB),.arr v1 9 1 ((zfl p i).2.map .str)],tk⟩) (p.length) ?_ ?_
 ·refine ⟨2,0,0,1,2,rfl,Nat.zero_le _,?_,rfl⟩
  simp [Env.put,Env.of,zae,zfl]
 rintro n vs S - ⟨i,v0,v1,tk,rfl,h_i,rfl,rfl⟩
 refine W.seq ?_
 refine W.r fun K hK=>?_
 simp(disch:=omega)only[↓RU,RV,RH,↓reduceIte,qE,reduceCtorEq,if_pos,w64,↓RS,RG,qA,qM,qL,ty6,zaa,zac]
 apply hK;clear hK K
 refine W.cond rfl (fun h=>?_) (fun h=>?_)
 ·try simp only[RL]at h
  obtain ⟨row,hrow,hrm⟩:=zaf (show i<p.length by omega)
  have hrl:=hr row hrm
  have hal:=zp9 hs.2 h_i
  have hs1:=hs.1
  refine W.skip ?_
  refine xn ?_
  refine W.seq ?_
  refine W.block ?_
  refine W.r fun K hK=>?_
  simp(disch:=omega)only[↓RU,RV,RH,↓reduceIte,qE,reduceCtorEq,if_pos,↓RS,RG,qA,qM,qL,ty7,zd4]
  apply hK;clear hK K
  refine W.seq ?_
  refine W.r fun K hK=>?_
  simp(disch:=omega)only[↓RU,RV,RH,↓reduceIte,qE,reduceCtorEq,if_pos,↓RS,RG,qA,qM,qL]
  apply hK;clear hK K
  refine W.block ?_
  refine W.loop [0,3,4,5,6,7] (fun n vs S=>∃ k v0 v2 tk:Nat,n=row.length - k∧k≤row.length∧vs=[zan p,.loc 0 v0 0 (zlx (zfl p i).1 row k).1.length,.loc 1 v1 0 (zfl p i).2.length,.int .i64 i,.loc 2 v2 0 (zlx (zfl p i).1 row k).2.length,.int .i64 k]∧S=⟨[.arr v0 5 1 ((zlx (zfl p i).1 row k).1.map eB),.arr v1 9 1 ((zfl p i).2.map .str),.arr v2 5 1 ((zlx (zfl p i).1 row k).2.map eB)],tk⟩) (row.length) ?_ ?_
  ·refine ⟨3,0,v0,tk,tk+1,rfl,Nat.zero_le _,?_,rfl⟩
   simp [Env.put,Env.of,zae,zlx]
  rintro n vs S - ⟨k,v0,v2,tk,rfl,h_k,rfl,rfl⟩
  refine W.seq ?_
  refine W.r fun K hK=>?_
  simp(disch:=omega)only[↓RU,RV,RH,↓reduceIte,qE,reduceCtorEq,if_pos,w64,↓RS,RG,qA,qM,qL,ty6,zaa,zac,hrow]
  apply hK;clear hK K
  refine W.cond rfl (fun h1=>?_) (fun h1=>?_)
  ·try simp only[RL]at h1
   obtain ⟨c,hc,-⟩:=zaf (show k<row.length by omega)
   have hcl:=c.toNat_lt
   have hrs:=znb (o:=(zfl p i).1) h_k
   generalize hst:zlx (zfl p i).1 row k=st at hrs ⊢
   refine W.skip ?_
   refine xn ?_
   refine W.seq ?_
   refine W.block ?_
   refine W.r fun K hK=>?_
   simp(disch:=omega)only[↓RU,RV,RH,↓reduceIte,qE,reduceCtorEq,if_pos,↓RS,RG,qA,qM,qL]
   apply hK;clear hK K
   refine W.seq ?_
   refine W.block ?_
   refine W.loop [0,3,4,5,6,7,8] (fun n vs S=>∃ a:Nat,n=st.1.length - a∧a≤st.1.length∧(∀ j,j<a→st.1[j]?≠some c)∧vs=[zan p,.loc 0 v0 0 st.1.length,.loc 1 v1 0 (zfl p i).2.length,.int .i64 i,.loc 2 v2 0 st.2.length,.int .i64 k,.int .i64 a]∧S=⟨[.arr v0 5 1 (st.1.map eB),.arr v1 9 1 ((zfl p i).2.map .str),.arr v2 5 1 (st.2.map eB)],tk⟩) (st.1.length) ?_ ?_
   ·refine ⟨3,0,rfl,Nat.zero_le _,fun j hj=>absurd hj (Nat.not_lt_zero _),?_,rfl⟩
    simp [Env.put,Env.of,zae]
   rintro n vs S - ⟨a,rfl,h_a,ha,rfl,rfl⟩
   refine W.seq ?_
   refine W.seq_draw (by kernel_rfl) fun K hK=>?_
   cases ho:decide ((a:Int)<(st.1.length:Int))
   ·skip
    simp(disch:=omega)only[↓RU,RV,RH,↓reduceIte,qE,reduceCtorEq,if_pos,w64,↓RS,RG,qA,qM,qL,ty6,ty7,zaa,zac,zd4,hrow,hc,ho]
    apply hK;clear hK K
    refine W.cond rfl (fun h2=>?_) (fun h2=>?_)
    ·try simp only[RL]at h2
     exact absurd h2 (by simp)
    ·try simp only[RL]at h2
     have hal2:a=st.1.length:=by simp at ho; omega
     have hix:st.1.idxOf c=a:=zpv ha (.inl hal2)
     refine W.exit ?_
     refine xe ?_
     refine xe ?_
     refine XBlock.hit ?_
     refine xn ?_
     refine W.seq ?_
     refine W.r fun K hK=>?_
     simp(disch:=omega)only[↓RU,RV,RH,↓reduceIte,qE,reduceCtorEq,if_pos,w64,↓RS,RG,qA,qM,qL,ty7,zaa,zd4]
     apply hK;clear hK K
     refine W.cond rfl (fun h3=>?_) (fun h3=>?_)
     ·try simp only[RL]at h3
      refine W.k fun K hK=>?_
      simp(disch:=omega)only[↓RU,RV,RH,↓reduceIte,qE,reduceCtorEq,if_pos,↓RS,RG,qA,qM,qL,ty6,ty7,zac,zd4,hrow,hc]
      apply hK;clear hK K
      refine xn ?_
      refine W.k fun K hK=>?_
      simp(disch:=omega)only[↓RU,RV,RH,↓reduceIte,qE,reduceCtorEq,if_pos,w64,w64,↓RS,RG,qA,qM,qL,ty7,zaa,zd4,ygd]
      apply hK;clear hK K
      refine XbN ?_
      refine xn ?_
      refine W.k fun K hK=>?_
      simp(disch:=omega)only[↓RU,RV,RH,↓reduceIte,qE,reduceCtorEq,if_pos,w64,↓RS,RG,qA,qM,qL,zaa]
      apply hK;clear hK K
      refine xn ?_
      refine ⟨row.length - (k+1),by omega,3,k+1,tk+1,tk+3,tk+4,rfl,by omega,?_,?_⟩
      all_goals rw [zks hc,hst,ybd hix hal2]
      all_goals simp [Env.put,Env.of,zay]
     try simp only[RL]at h3
     simp at ho; omega
   ·skip
    obtain ⟨x,hx,-⟩:=zaf (show a<st.1.length by simpa using ho)
    have ho2:a<st.1.length:=by simpa using ho
    simp(disch:=omega)only[↓RU,RV,RH,↓reduceIte,qE,reduceCtorEq,if_pos,w64,↓RS,RG,qA,qM,qL,ty6,ty7,zaa,zac,zd4,hrow,hc,ho,hx]
    apply hK;clear hK K
    refine W.cond rfl (fun h2=>?_) (fun h2=>?_)
    ·try simp only[RL]at h2
     refine W.skip ?_
     refine xn ?_
     refine W.block ?_
     refine W.k fun K hK=>?_
     simp(disch:=omega)only[↓RU,RV,RH,↓reduceIte,qE,reduceCtorEq,if_pos,w64,↓RS,RG,qA,qM,qL,zaa]
     apply hK;clear hK K
     refine XbN ?_
     refine xn ?_
     refine ⟨st.1.length - (a+1),by omega,3,a+1,rfl,by omega,fun j hj=>(Nat.lt_succ_iff_lt_or_eq.1 hj).elim (ha j) fun e=>by rw [e,hx]; intro e2; exact h2 (by rw [Option.some.inj e2]),?_,rfl⟩
     simp [Env.put,Env.of]
    ·try simp only[RL]at h2
     have hal2:a<st.1.length:=by simpa using ho
     have hix:st.1.idxOf c=a:=zpv ha (.inr (by rw [hx,UInt8.toNat_inj.1 (show x.toNat=c.toNat by omega)]))
     refine W.exit ?_
     refine xe ?_
     refine xe ?_
     refine XBlock.hit ?_
     refine xn ?_
     refine W.seq ?_
     refine W.r fun K hK=>?_
     simp(disch:=omega)only[↓RU,RV,RH,↓reduceIte,qE,reduceCtorEq,if_pos,w64,↓RS,RG,qA,qM,qL,ty7,zaa,zd4]
     apply hK;clear hK K
     refine W.cond rfl (fun h3=>?_) (fun h3=>?_)
     ·try simp only[RL]at h3
      simp at ho; omega
     ·try simp only[RL]at h3
      refine W.skip ?_
      refine xn ?_
      refine W.k fun K hK=>?_
      simp(disch:=omega)only[↓RU,RV,RH,↓reduceIte,qE,reduceCtorEq,if_pos,w64,w64,↓RS,RG,qA,qM,qL,ty7,zaa,zd4,ygd]
      apply hK;clear hK K
      refine XbN ?_
      refine xn ?_
      refine W.k fun K hK=>?_
      simp(disch:=omega)only[↓RU,RV,RH,↓reduceIte,qE,reduceCtorEq,if_pos,w64,↓RS,RG,qA,qM,qL,zaa]
      apply hK;clear hK K
      refine xn ?_
      refine ⟨row.length - (k+1),by omega,3,k+1,v0,tk+1,tk+2,rfl,by omega,?_,?_⟩
      all_goals rw [zks hc,hst,ybe hix hal2]
      all_goals simp [Env.put,Env.of,zay]
  ·try simp only[RL]at h1
   have hkr:k=row.length:=by omega
   subst hkr
   refine W.exit ?_
   refine xe ?_
   refine xe ?_
   refine XBlock.hit ?_
   refine xn ?_
   refine W.k fun K hK=>?_
   simp(disch:=omega)only[↓RU,RV,RH,↓reduceIte,qE,reduceCtorEq,if_pos,w64,↓RS,RG,qA,qM,qL,ty6,ty7,zac,zd4]
   apply hK;clear hK K
   refine XbN ?_
   refine xn ?_
   refine W.k fun K hK=>?_
   simp(disch:=omega)only[↓RU,RV,RH,↓reduceIte,qE,reduceCtorEq,if_pos,w64,↓RS,RG,qA,qM,qL,zaa]
   apply hK;clear hK K
   refine xn ?_
   refine ⟨p.length - (i+1),by omega,2,i+1,v0,tk+1,tk+2,rfl,by omega,?_,?_⟩
   all_goals rw [zkc hrow]
   all_goals simp [Env.put,Env.of,zay]
 try simp only[RL]at h
 refine W.exit ?_
 refine xe ?_
 refine xe ?_
 refine XBlock.hit ?_
 refine xn ?_
 refine W.r fun K hK=>?_
 simp(disch:=omega)only[↓RU,RV,RH,↓reduceIte,qE,reduceCtorEq,if_pos,↓RS,RG,qA,qM,qL]
 apply hK;clear hK K
 refine W.ret ?_
 refine Br rfl ?_
 have hip:i=p.length:=by omega
 subst hip
 rw [zp8]
 exact zb5 (k:=9) rfl (by simp) (zmo _)
theorem zg5 {p:List Txt} (hs:Sm p):PC Tryz.prog 29 [zan p] (.bool (zcu p)) true:=by
 have hp:=hs.rows
 have hrb:=zdw p
 obtain ⟨R,hR⟩:∃ R:Nat,zaw p=R:=⟨_,(Int.toNat_of_nonneg hrb.1).symm⟩
 refine PC.of ⟨Tryz.func29,by kernel_rfl,rfl,by kernel_rfl⟩ zao mixed (by show 1≤Tryz.f29.ntmps; decide) ?_
 refine W.r fun K hK=>?_
 simp(disch:=omega)only[↓RU,RV,RH,↓reduceIte,qE,reduceCtorEq,if_pos]
 apply hK;clear hK K
 refine W.seq ?_
 refine W.r fun K hK=>?_
 rcases hx:(zc1 p,decide (names p=p)) with ⟨_ | _,_ | _⟩
 ·skip
  simp only[Prod.mk.injEq]at hx
  obtain ⟨hg,hn⟩:=hx
  simp(disch:=omega)only[↓RU,RV,RH,↓reduceIte,qE,reduceCtorEq,if_pos,qN,w64,zaa,hg]
  refine zad.pc (zgd hs) rfl (.inl rfl) ?_
  simp(disch:=omega)only[↓RU,RV,RH,↓reduceIte,qE,reduceCtorEq,if_pos,qN,w64,zaa,hg]
  apply hK;clear hK K
  refine W.cond rfl (fun h0=>?_) (fun h0=>?_)
  ·try simp only[RL]at h0
   refine W.r fun K hK=>?_
   simp(disch:=omega)only[↓RU,RV,RH,↓reduceIte,qE,reduceCtorEq,if_pos]
   apply hK;clear hK K
   refine W.ret ?_
   refine XThen.ret ?_
   refine Br rfl ?_
   rw [zpz (.inl hg)]
   rfl
  try simp only[RL]at h0
  exact absurd h0 (by simp)
 ·skip
  simp only[Prod.mk.injEq]at hx
  obtain ⟨hg,hn⟩:=hx
  simp(disch:=omega)only[↓RU,RV,RH,↓reduceIte,qE,reduceCtorEq,if_pos,qN,w64,zaa,hg]
  refine zad.pc (zgd hs) rfl (.inl rfl) ?_
  simp(disch:=omega)only[↓RU,RV,RH,↓reduceIte,qE,reduceCtorEq,if_pos,qN,w64,zaa,hg]
  apply hK;clear hK K
  refine W.cond rfl (fun h0=>?_) (fun h0=>?_)
  ·try simp only[RL]at h0
   refine W.r fun K hK=>?_
   simp(disch:=omega)only[↓RU,RV,RH,↓reduceIte,qE,reduceCtorEq,if_pos]
   apply hK;clear hK K
   refine W.ret ?_
   refine XThen.ret ?_
   refine Br rfl ?_
   rw [zpz (.inl hg)]
   rfl
  try simp only[RL]at h0
  exact absurd h0 (by simp)
 ·skip
  simp only[Prod.mk.injEq]at hx
  obtain ⟨hg,hn⟩:=hx
  simp(disch:=omega)only[↓RU,RV,RH,↓reduceIte,qE,reduceCtorEq,if_pos,qN,w64,zaa,hg,hn]
  refine zad.pc (zgd hs) rfl (.inl rfl) ?_
  simp(disch:=omega)only[↓RU,RV,RH,↓reduceIte,qE,reduceCtorEq,if_pos,qN,w64,zaa,hg,hn]
  refine zad.pc (zic hs) rfl (.inl rfl) ?_
  simp(disch:=omega)only[↓RU,RV,RH,↓reduceIte,qE,reduceCtorEq,if_pos,qN,w64,zaa,hg,hn]
  refine zad.pc (zxn hs.names) rfl (.inl rfl) ?_
  simp(disch:=omega)only[↓RU,RV,RH,↓reduceIte,qE,reduceCtorEq,if_pos,qN,w64,zaa,hg,hn]
  apply hK;clear hK K
  refine W.cond rfl (fun h0=>?_) (fun h0=>?_)
  ·try simp only[RL]at h0
   refine W.r fun K hK=>?_
   simp(disch:=omega)only[↓RU,RV,RH,↓reduceIte,qE,reduceCtorEq,if_pos]
   apply hK;clear hK K
   refine W.ret ?_
   refine XThen.ret ?_
   refine Br rfl ?_
   rw [zpz (.inr (.inl hn))]
   rfl
  try simp only[RL]at h0
  exact absurd h0 (by simp)
 skip
 simp only[Prod.mk.injEq]at hx
 obtain ⟨hg,hn⟩:=hx
 simp(disch:=omega)only[↓RU,RV,RH,↓reduceIte,qE,reduceCtorEq,if_pos,qN,w64,zaa,hg,hn]
 refine zad.pc (zgd hs) rfl (.inl rfl) ?_
 simp(disch:=omega)only[↓RU,RV,RH,↓reduceIte,qE,reduceCtorEq,if_pos,qN,w64,zaa,hg,hn]
 refine zad.pc (zic hs) rfl (.inl rfl) ?_
 simp(disch:=omega)only[↓RU,RV,RH,↓reduceIte,qE,reduceCtorEq,if_pos,qN,w64,zaa,hg,hn]
 refine zad.pc (zxn hs.names) rfl (.inl rfl) ?_
 simp(disch:=omega)only[↓RU,RV,RH,↓reduceIte,qE,reduceCtorEq,if_pos,qN,w64,zaa,hg,hn]
 refine zad.pc (zep hs) rfl (.inl rfl) ?_
 simp(disch:=omega)only[↓RU,RV,RH,↓reduceIte,qE,reduceCtorEq,if_pos,qN,w64,zaa,hg,hn]
 apply hK;clear hK K
 refine W.cond rfl (fun h0=>?_) (fun h0=>?_)
 ·try simp only[RL]at h0
  refine W.r fun K hK=>?_
  simp(disch:=omega)only[↓RU,RV,RH,↓reduceIte,qE,reduceCtorEq,if_pos]
  apply hK;clear hK K
  refine W.ret ?_
  refine XThen.ret ?_
  refine Br rfl ?_
  rw [zpz (.inr (.inr h0))]
  rfl
 try simp only[RL]at h0
 have hsm:=zcr hg
 refine W.skip ?_
 refine xn ?_
 refine W.seq ?_
 refine W.r fun K hK=>?_
 simp(disch:=omega)only[↓RU,RV,RH,↓reduceIte,qE,reduceCtorEq,if_pos]
 apply hK;clear hK K
 refine W.block ?_
 refine W.loop [0,3] (fun n vs S=>∃ i:Nat,n=R - i∧i≤R∧((List.range i).all (z9a p)=true)∧vs=[zan p,.int .i64 i]∧S=⟨[],0⟩) (R) ?_ ?_
 ·refine ⟨0,0,rfl,Nat.zero_le _,rfl,?_,rfl⟩
  simp [Env.put,Env.of,zae]
 rintro n vs S - ⟨i,rfl,h_i,hi,rfl,rfl⟩
 refine W.seq ?_
 refine W.r fun K hK=>?_
 simp(disch:=omega)only[↓RU,RV,RH,↓reduceIte,qE,reduceCtorEq,if_pos,qN,w64,zaa,hR]
 refine zad.pc (zep hs) rfl (.inl rfl) ?_
 simp(disch:=omega)only[↓RU,RV,RH,↓reduceIte,qE,reduceCtorEq,if_pos,qN,w64,zaa,hR]
 apply hK;clear hK K
 refine W.cond rfl (fun h1=>?_) (fun h1=>?_)
 ·try simp only[RL]at h1
  have hbs:=z6n (i:Int) hsm.2.1 hsm.2.2
  refine W.skip ?_
  refine xn ?_
  refine W.seq ?_
  refine W.block ?_
  refine W.r fun K hK=>?_
  simp(disch:=omega)only[↓RU,RV,RH,↓reduceIte,qE,reduceCtorEq,if_pos,qN]
  refine zad.pc (zxm hs hsm.1 (i:Int)) rfl (.inl rfl) ?_
  simp(disch:=omega)only[↓RU,RV,RH,↓reduceIte,qE,reduceCtorEq,if_pos,qN]
  apply hK;clear hK K
  refine W.r fun K hK=>?_
  simp(disch:=omega)only[↓RU,RV,RH,↓reduceIte,qE,reduceCtorEq,if_pos,qN,w64,zaa]
  refine zad.pc (z4o hs (by omega) (fun r hr=>by have:=hsm.2.2 r hr; omega) (i:Int)) rfl (.inl rfl) ?_
  simp(disch:=omega)only[↓RU,RV,RH,↓reduceIte,qE,reduceCtorEq,if_pos,qN,w64,zaa]
  apply hK;clear hK K
  refine W.cond rfl (fun h2=>?_) (fun h2=>?_)
  ·try simp only[RL]at h2
   refine W.r fun K hK=>?_
   simp(disch:=omega)only[↓RU,RV,RH,↓reduceIte,qE,reduceCtorEq,if_pos]
   apply hK;clear hK K
   refine W.ret ?_
   refine XBlock.ret ?_
   refine XThen.ret ?_
   refine XThen.ret ?_
   refine XBlock.ret ?_
   refine XThen.ret ?_
   refine Br rfl ?_
   have:(List.range R).all (z9a p)=false:=by
    rw [List.all_eq_false]
    exact ⟨i,by simp; omega,by simpa [z9a] using h2⟩
   rw [z23 hg hn (by omega) hR,this]
   rfl
  try simp only[RL]at h2
  refine W.skip ?_
  refine XbN ?_
  refine xn ?_
  refine W.k fun K hK=>?_
  simp(disch:=omega)only[↓RU,RV,RH,↓reduceIte,qE,reduceCtorEq,if_pos,w64,zaa]
  apply hK;clear hK K
  refine xn ?_
  refine ⟨R - (i+1),by omega,0,i+1,rfl,by omega,by rw [qS,List.all_append,hi]; simpa [z9a] using h2,?_,rfl⟩
  simp [Env.put,Env.of]
 try simp only[RL]at h1
 refine W.exit ?_
 refine xe ?_
 refine xe ?_
 refine XBlock.hit ?_
 refine xn ?_
 refine W.r fun K hK=>?_
 simp(disch:=omega)only[↓RU,RV,RH,↓reduceIte,qE,reduceCtorEq,if_pos]
 apply hK;clear hK K
 refine W.ret ?_
 refine Br rfl ?_
 have hip:i=R:=by omega
 rw [hip]at hi
 rw [z23 hg hn (by omega) hR,hi]
 rfl
theorem z4p {p:List Txt} (hs:Sm p) (room:Int):PC Tryz.prog 206 [zan p,.int .i64 room] (.bool (zcu p && (decide (0≤room) && decide (room≤zaw p - 1)))) true:=by
 have hrb:=zdw p
 refine PC.of ⟨Tryz.func206,by kernel_rfl,rfl,by kernel_rfl⟩ zao mixed (by show 2≤Tryz.f206.ntmps; decide) ?_
 refine W.r fun K hK=>?_
 simp(disch:=omega)only[↓RU,RV,RH,↓reduceIte,qE,reduceCtorEq,if_pos]
 apply hK;clear hK K
 refine W.r fun K hK=>?_
 cases hg:zcu p
 ·skip
  simp(disch:=omega)only[↓RU,RV,RH,↓reduceIte,qE,reduceCtorEq,if_pos,qN,w64,zaa,hg]
  refine zad.pc (zg5 hs) rfl (.inl rfl) ?_
  simp(disch:=omega)only[↓RU,RV,RH,↓reduceIte,qE,reduceCtorEq,if_pos,qN,w64,zaa,hg]
  apply hK;clear hK K
  refine W.ret ?_
  refine Br rfl ?_
  rw [hg]
  rfl
 skip
 simp(disch:=omega)only[↓RU,RV,RH,↓reduceIte,qE,reduceCtorEq,if_pos,qN,w64,zaa,hg]
 refine zad.pc (zg5 hs) rfl (.inl rfl) ?_
 simp(disch:=omega)only[↓RU,RV,RH,↓reduceIte,qE,reduceCtorEq,if_pos,qN,w64,zaa,hg]
 refine zad.pc (zep hs) rfl (.inl rfl) ?_
 simp(disch:=omega)only[↓RU,RV,RH,↓reduceIte,qE,reduceCtorEq,if_pos,qN,w64,zaa,hg]
 refine zad.pc (zeq _ _ _) rfl (.inl rfl) ?_
 simp(disch:=omega)only[↓RU,RV,RH,↓reduceIte,qE,reduceCtorEq,if_pos,qN,w64,zaa,hg]
 apply hK;clear hK K
 refine W.ret ?_
 refine Br rfl ?_
 rw [hg]
 rfl
theorem z4r {p:List Txt} (hs:Sm p) {i k:Nat} {r1 r2:Txt} {a b c d:UInt8} (hi:1≤i) (hk:1≤k) (h1:p[i - 1]?=some r1) (h2:p[i]?=some r2) (ha:r1[k - 1]?=some a) (hb:r1[k]?=some b) (hc:r2[k - 1]?=some c) (hd:r2[k]?=some d):PC Tryz.prog 163 [zan p,.int .i64 i,.int .i64 k] (.int .i64 (zgr [a,b,c,d] 4)) true:=by
 have l1:=zbd h1
 have l2:=zbd h2
 have l3:=zbd ha
 have l4:=zbd hb
 have l5:=zbd hc
 have l6:=zbd hd
 have hp:=hs.rows
 have hq:=hs.cols r1 (List.mem_of_getElem? h1)
 generalize hcs:[a,b,c,d]=cs
 have hcl:cs.length=4:=by rw [← hcs]; rfl
 refine PC.of ⟨Tryz.func163,by kernel_rfl,rfl,by kernel_rfl⟩ zao mixed (by show 3≤Tryz.f163.ntmps; decide) ?_
 refine W.r fun K hK=>?_
 simp(disch:=omega)only[↓RU,RV,RH,↓reduceIte,qE,reduceCtorEq,if_pos,↓RS,RG,qA,qM,qL]
 apply hK;clear hK K
 refine W.seq_draw (by kernel_rfl) fun K hK=>?_
 simp(disch:=omega)only[↓RU,RV,RH,↓reduceIte,qE,reduceCtorEq,if_pos,w64,↓RS,RG,qA,qM,qL,ty6,ty7,zaa,zac,zd4,h1,h2,ha,hb,hc,hd,zbb]
 apply hK;clear hK K
 refine W.r fun K hK=>?_
 simp(disch:=omega)only[↓RU,RV,RH,↓reduceIte,qE,reduceCtorEq,if_pos,↓RS,RG,qA,qM,qL]
 apply hK;clear hK K
 refine W.seq ?_
 refine W.r fun K hK=>?_
 simp(disch:=omega)only[↓RU,RV,RH,↓reduceIte,qE,reduceCtorEq,if_pos,↓RS,RG,qA,qM,qL]
 apply hK;clear hK K
 refine W.block ?_
 refine W.loop [7,8,9] (fun n vs S=>∃ x:Nat,n=4 - x∧x≤4∧vs=[.loc 0 0 0 4,.int .i64 (zgr cs x),.int .i64 x]∧S=⟨[.arr 0 5 1 (cs.map eB)],1⟩) (4) ?_ ?_
 ·refine ⟨1,0,rfl,Nat.zero_le _,?_,by rw [← hcs]; rfl⟩
  simp [Env.put,Env.of,zae,zgr]
 rintro n vs S - ⟨x,rfl,h_x,rfl,rfl⟩
 refine W.seq ?_
 refine W.r fun K hK=>?_
 simp(disch:=omega)only[↓RU,RV,RH,↓reduceIte,qE,reduceCtorEq,if_pos,w64,↓RS,RG,qA,qM,qL,zaa]
 apply hK;clear hK K
 refine W.cond rfl (fun h3=>?_) (fun h3=>?_)
 ·try simp only[RL]at h3
  obtain ⟨cx,hcx,-⟩:=zaf (show x<cs.length by omega)
  have hdb:=zoq cs x
  refine W.skip ?_
  refine xn ?_
  refine W.seq ?_
  refine W.block ?_
  refine W.r fun K hK=>?_
  simp(disch:=omega)only[↓RU,RV,RH,↓reduceIte,qE,reduceCtorEq,if_pos,↓RS,RG,qA,qM,qL]
  apply hK;clear hK K
  refine W.seq ?_
  refine W.r fun K hK=>?_
  simp(disch:=omega)only[↓RU,RV,RH,↓reduceIte,qE,reduceCtorEq,if_pos,↓RS,RG,qA,qM,qL]
  apply hK;clear hK K
  refine W.block ?_
  refine W.loop [7,8,9,10,11] (fun n vs S=>∃ y:Nat,n=x - y∧y≤x∧vs=[.loc 0 0 0 4,.int .i64 (zgr cs x),.int .i64 x,.bool (zso cs cx y),.int .i64 y]∧S=⟨[.arr 0 5 1 (cs.map eB)],1⟩) (x) ?_ ?_
  ·refine ⟨1,0,rfl,Nat.zero_le _,?_,rfl⟩
   simp [Env.put,Env.of,zae,zso]
  rintro n vs S - ⟨y,rfl,h_y,rfl,rfl⟩
  refine W.seq ?_
  refine W.r fun K hK=>?_
  simp(disch:=omega)only[↓RU,RV,RH,↓reduceIte,qE,reduceCtorEq,if_pos,w64,↓RS,RG,qA,qM,qL,zaa]
  apply hK;clear hK K
  refine W.cond rfl (fun h4=>?_) (fun h4=>?_)
  ·try simp only[RL]at h4
   obtain ⟨cy,hcy,-⟩:=zaf (show y<cs.length by omega)
   refine W.skip ?_
   refine xn ?_
   refine W.seq ?_
   refine W.block ?_
   refine W.draw_k (by kernel_rfl) fun K hK=>?_
   cases hf:zso cs cx y
   ·skip
    simp(disch:=omega)only[↓RU,RV,RH,↓reduceIte,qE,reduceCtorEq,if_pos,w64,↓RS,RG,qA,qM,qL,ty7,zd4,hcx,hcy,hcl,hf]
    apply hK;clear hK K
    refine XbN ?_
    refine xn ?_
    refine W.k fun K hK=>?_
    simp(disch:=omega)only[↓RU,RV,RH,↓reduceIte,qE,reduceCtorEq,if_pos,w64,↓RS,RG,qA,qM,qL,zaa]
    apply hK;clear hK K
    refine xn ?_
    refine ⟨x - (y+1),by omega,1,y+1,rfl,by omega,?_,rfl⟩
    rw [ztq hcy,hf]
    simp [Env.put,Env.of]
   skip
   simp(disch:=omega)only[↓RU,RV,RH,↓reduceIte,qE,reduceCtorEq,if_pos,w64,↓RS,RG,qA,qM,qL,ty7,zd4,hcx,hcy,hcl,hf,yg3]
   apply hK;clear hK K
   refine XbN ?_
   refine xn ?_
   refine W.k fun K hK=>?_
   simp(disch:=omega)only[↓RU,RV,RH,↓reduceIte,qE,reduceCtorEq,if_pos,w64,↓RS,RG,qA,qM,qL,zaa]
   apply hK;clear hK K
   refine xn ?_
   refine ⟨x - (y+1),by omega,1,y+1,rfl,by omega,?_,rfl⟩
   rw [ztq hcy,hf]
   simp [Env.put,Env.of]
  try simp only[RL]at h4
  refine W.exit ?_
  refine xe ?_
  refine xe ?_
  refine XBlock.hit ?_
  refine xn ?_
  refine W.r fun K hK=>?_
  simp(disch:=omega)only[↓RU,RV,RH,↓reduceIte,qE,reduceCtorEq,if_pos,↓RS,RG,qA,qM,qL]
  apply hK;clear hK K
  refine W.cond rfl (fun h6=>?_) (fun h6=>?_)
  ·try simp only[RL]at h6
   refine W.k fun K hK=>?_
   simp(disch:=omega)only[↓RU,RV,RH,↓reduceIte,qE,reduceCtorEq,if_pos,w64,↓RS,RG,qA,qM,qL,zaa]
   apply hK;clear hK K
   refine XbN ?_
   refine xn ?_
   refine W.k fun K hK=>?_
   simp(disch:=omega)only[↓RU,RV,RH,↓reduceIte,qE,reduceCtorEq,if_pos,w64,↓RS,RG,qA,qM,qL,zaa]
   apply hK;clear hK K
   refine xn ?_
   refine ⟨4 - (x+1),by omega,1,x+1,rfl,by omega,?_,rfl⟩
   rw [zgr,z2m hcx,show x=y by omega]
   simp [Env.put,Env.of,h6]
  try simp only[RL]at h6
  refine W.skip ?_
  refine XbN ?_
  refine xn ?_
  refine W.k fun K hK=>?_
  simp(disch:=omega)only[↓RU,RV,RH,↓reduceIte,qE,reduceCtorEq,if_pos,w64,↓RS,RG,qA,qM,qL,zaa]
  apply hK;clear hK K
  refine xn ?_
  refine ⟨4 - (x+1),by omega,1,x+1,rfl,by omega,?_,rfl⟩
  rw [zgr,z2m hcx,show x=y by omega]
  simp [Env.put,Env.of,h6]
 try simp only[RL]at h3
 refine W.exit ?_
 refine xe ?_
 refine xe ?_
 refine XBlock.hit ?_
 refine xn ?_
 refine W.r fun K hK=>?_
 simp(disch:=omega)only[↓RU,RV,RH,↓reduceIte,qE,reduceCtorEq,if_pos,↓RS,RG,qA,qM,qL]
 apply hK;clear hK K
 refine W.ret ?_
 refine Br rfl ?_
 have hx4:x=4:=by omega
 rw [hx4]
 rfl
theorem z0h {p:List Txt} (hs:Sm p) (hg:zc1 p=true) (many:Int):PC Tryz.prog 135 [zan p,.int .i64 many] (.int .i64 (points p many)) true:=by
 have hp:=hs.rows
 have hsm:=zcr hg
 obtain ⟨row0,hrow0,hrm0⟩:=zaf hsm.1
 have hhd:=zc4 hrow0
 have hw6:=hsm.2.2 row0 hrm0
 refine PC.of ⟨Tryz.func135,by kernel_rfl,rfl,by kernel_rfl⟩ zao mixed (by show 2≤Tryz.f135.ntmps; decide) ?_
 refine W.r fun K hK=>?_
 simp(disch:=omega)only[↓RU,RV,RH,↓reduceIte,qE,reduceCtorEq,if_pos]
 apply hK;clear hK K
 refine W.r fun K hK=>?_
 simp(disch:=omega)only[↓RU,RV,RH,↓reduceIte,qE,reduceCtorEq,if_pos]
 apply hK;clear hK K
 refine W.seq ?_
 refine W.r fun K hK=>?_
 simp(disch:=omega)only[↓RU,RV,RH,↓reduceIte,qE,reduceCtorEq,if_pos]
 apply hK;clear hK K
 refine W.block ?_
 refine W.loop [0,1,5,6] (fun n vs S=>∃ i:Nat,n=p.length - i∧i≤p.length∧(1≤i)∧vs=[zan p,.int .i64 many,.int .i64 (zjb p many row0.length i),.int .i64 i]∧S=⟨[],0⟩) (p.length - 1) ?_ ?_
 ·refine ⟨0,1,rfl,by omega,qR _,?_,rfl⟩
  simp [Env.put,Env.of,zae,zjb]
 rintro n vs S - ⟨i,rfl,h_i,h1i,rfl,rfl⟩
 refine W.seq ?_
 refine W.r fun K hK=>?_
 simp(disch:=omega)only[↓RU,RV,RH,↓reduceIte,qE,reduceCtorEq,if_pos,w64,ty6,zaa,zac]
 apply hK;clear hK K
 refine W.cond rfl (fun h=>?_) (fun h=>?_)
 ·try simp only[RL]at h
  obtain ⟨r1,hr1,hm1⟩:=zaf (show i - 1<p.length by omega)
  obtain ⟨r2,hr2,hm2⟩:=zaf (show i<p.length by omega)
  have hl1:=zd5 hg hr1
  have hl2:=zd5 hg hr2
  rw [hhd]at hl1 hl2
  have hb1:=zrr p many hw6 i
  have hw1:=(zhf hg hrow0)
  refine W.skip ?_
  refine xn ?_
  refine W.seq ?_
  refine W.block ?_
  refine W.r fun K hK=>?_
  simp(disch:=omega)only[↓RU,RV,RH,↓reduceIte,qE,reduceCtorEq,if_pos]
  apply hK;clear hK K
  refine W.block ?_
  refine W.loop [0,1,5,6,7] (fun n vs S=>∃ k:Nat,n=row0.length - k∧k≤row0.length∧(1≤k)∧vs=[zan p,.int .i64 many,.int .i64 (zjb p many row0.length i+zgs p many i k),.int .i64 i,.int .i64 k]∧S=⟨[],0⟩) (row0.length - 1) ?_ ?_
  ·refine ⟨0,1,rfl,by omega,qR _,?_,rfl⟩
   simp [Env.put,Env.of,zae,zgs]
  rintro n vs S - ⟨k,rfl,h_k,h1k,rfl,rfl⟩
  refine W.seq ?_
  refine W.r fun K hK=>?_
  simp(disch:=omega)only[↓RU,RV,RH,↓reduceIte,qE,reduceCtorEq,if_pos,w64,ty6,zaa,zac,hrow0,Int.toNat_zero,Nat.zero_mul,qZ]
  apply hK;clear hK K
  refine W.cond rfl (fun h1=>?_) (fun h1=>?_)
  ·try simp only[RL]at h1
   obtain ⟨a,ha,-⟩:=zaf (show k - 1<r1.length by omega)
   obtain ⟨b,hb,-⟩:=zaf (show k<r1.length by omega)
   obtain ⟨c,hc,-⟩:=zaf (show k - 1<r2.length by omega)
   obtain ⟨d,hd,-⟩:=zaf (show k<r2.length by omega)
   have hmt:zjt p i k=zgr [a,b,c,d] 4:=by simp [zjt,hr1,hr2,ha,hb,hc,hd]
   have hb2:=zfj p many i k
   refine W.skip ?_
   refine xn ?_
   refine W.seq ?_
   refine W.block ?_
   refine W.r fun K hK=>?_
   simp(disch:=omega)only[↓RU,RV,RH,↓reduceIte,qE,reduceCtorEq,if_pos,qN,w64,zaa]
   refine zad.pc (z4r hs h1i h1k hr1 hr2 ha hb hc hd) rfl (.inl rfl) ?_
   simp(disch:=omega)only[↓RU,RV,RH,↓reduceIte,qE,reduceCtorEq,if_pos,qN,w64,zaa]
   apply hK;clear hK K
   refine W.cond rfl (fun h2=>?_) (fun h2=>?_)
   ·try simp only[RL]at h2
    refine W.k fun K hK=>?_
    simp(disch:=omega)only[↓RU,RV,RH,↓reduceIte,qE,reduceCtorEq,if_pos,w64,zaa]
    apply hK;clear hK K
    refine XbN ?_
    refine xn ?_
    refine W.k fun K hK=>?_
    simp(disch:=omega)only[↓RU,RV,RH,↓reduceIte,qE,reduceCtorEq,if_pos,w64,zaa]
    apply hK;clear hK K
    refine xn ?_
    refine ⟨row0.length - (k+1),by omega,0,k+1,rfl,by omega,by omega,?_,rfl⟩
    rw [zgs]
    simp [Env.put,Env.of,hmt,h2,h1k,Int.add_assoc]
   try simp only[RL]at h2
   refine W.skip ?_
   refine XbN ?_
   refine xn ?_
   refine W.k fun K hK=>?_
   simp(disch:=omega)only[↓RU,RV,RH,↓reduceIte,qE,reduceCtorEq,if_pos,w64,zaa]
   apply hK;clear hK K
   refine xn ?_
   refine ⟨row0.length - (k+1),by omega,0,k+1,rfl,by omega,by omega,?_,rfl⟩
   rw [zgs]
   simp [Env.put,Env.of,hmt,h2,h1k,Int.add_assoc]
  try simp only[RL]at h1
  refine W.exit ?_
  refine xe ?_
  refine xe ?_
  refine XBlock.hit ?_
  refine XbN ?_
  refine xn ?_
  refine W.k fun K hK=>?_
  simp(disch:=omega)only[↓RU,RV,RH,↓reduceIte,qE,reduceCtorEq,if_pos,w64,zaa]
  apply hK;clear hK K
  refine xn ?_
  refine ⟨p.length - (i+1),by omega,0,i+1,rfl,by omega,by omega,?_,rfl⟩
  rw [zjb,if_pos h1i]
  simp [Env.put,Env.of,show row0.length=k by omega]
 try simp only[RL]at h
 refine W.exit ?_
 refine xe ?_
 refine xe ?_
 refine XBlock.hit ?_
 refine xn ?_
 refine W.r fun K hK=>?_
 simp(disch:=omega)only[↓RU,RV,RH,↓reduceIte,qE,reduceCtorEq,if_pos]
 apply hK;clear hK K
 refine W.ret ?_
 refine Br rfl ?_
 have hip:i=p.length:=by omega
 rw [points,hhd,← hip]
 rfl
theorem znf {p:List Txt} (hs:Sm p):PC Tryz.prog 91 [zan p] (.bool (zca p)) true:=by
 refine PC.of ⟨Tryz.func91,by kernel_rfl,rfl,by kernel_rfl⟩ zao mixed (by show 1≤Tryz.f91.ntmps; decide) ?_
 refine W.r fun K hK=>?_
 simp(disch:=omega)only[↓RU,RV,RH,↓reduceIte,qE,reduceCtorEq,if_pos]
 apply hK;clear hK K
 refine W.r fun K hK=>?_
 cases hg:zcu p
 ·skip
  simp(disch:=omega)only[↓RU,RV,RH,↓reduceIte,qE,reduceCtorEq,if_pos,qN,w64,zaa,hg]
  refine zad.pc (zg5 hs) rfl (.inl rfl) ?_
  simp(disch:=omega)only[↓RU,RV,RH,↓reduceIte,qE,reduceCtorEq,if_pos,qN,w64,zaa,hg]
  apply hK;clear hK K
  refine W.ret ?_
  refine Br rfl ?_
  rw [zca,hg]
  rfl
 skip
 simp(disch:=omega)only[↓RU,RV,RH,↓reduceIte,qE,reduceCtorEq,if_pos,qN,w64,zaa,hg]
 refine zad.pc (zg5 hs) rfl (.inl rfl) ?_
 simp(disch:=omega)only[↓RU,RV,RH,↓reduceIte,qE,reduceCtorEq,if_pos,qN,w64,zaa,hg]
 refine zad.pc (z0h hs (zkp hg) 4) rfl (.inl rfl) ?_
 simp(disch:=omega)only[↓RU,RV,RH,↓reduceIte,qE,reduceCtorEq,if_pos,qN,w64,zaa,hg]
 apply hK;clear hK K
 refine W.ret ?_
 refine Br rfl ?_
 rw [zca,hg]
 rfl
theorem zkk {p:List Txt} (hs:Sm p):PC Tryz.prog 43 [zan p] (.bool (zca p)) true:=by
 refine PC.of ⟨Tryz.func43,by kernel_rfl,rfl,by kernel_rfl⟩ zao mixed (by show 1≤Tryz.f43.ntmps; decide) ?_
 refine W.r fun K hK=>?_
 simp(disch:=omega)only[↓RU,RV,RH,↓reduceIte,qE,reduceCtorEq,if_pos]
 apply hK;clear hK K
 refine W.r fun K hK=>?_
 simp(disch:=omega)only[↓RU,RV,RH,↓reduceIte,qE,reduceCtorEq,if_pos,qN]
 refine zad.pc (znf hs) rfl (.inl rfl) ?_
 simp(disch:=omega)only[↓RU,RV,RH,↓reduceIte,qE,reduceCtorEq,if_pos,qN]
 apply hK;clear hK K
 refine W.ret ?_
 refine Br rfl ?_
 rfl
theorem z4q {p:List Txt} (hs:Sm p) (hg:zc1 p=true):PC Tryz.prog 153 [zan p] (zan (zdf p)) true:=by
 have hp:=hs.rows
 have hsm:=zcr hg
 obtain ⟨row0,hrow0,hrm0⟩:=zaf hsm.1
 have hhd:=zc4 hrow0
 have hw6:=hsm.2.2 row0 hrm0
 refine PC.of ⟨Tryz.func153,by kernel_rfl,rfl,by kernel_rfl⟩ zao mixed (by show 1≤Tryz.f153.ntmps; decide) ?_
 refine W.r fun K hK=>?_
 simp(disch:=omega)only[↓RU,RV,RH,↓reduceIte,qE,reduceCtorEq,if_pos,↓RS,RG,qA,qM,qL]
 apply hK;clear hK K
 refine W.r fun K hK=>?_
 simp(disch:=omega)only[↓RU,RV,RH,↓reduceIte,qE,reduceCtorEq,if_pos,↓RS,RG,qA,qM,qL,ty6,zac]
 apply hK;clear hK K
 refine W.seq ?_
 refine W.r fun K hK=>?_
 simp(disch:=omega)only[↓RU,RV,RH,↓reduceIte,qE,reduceCtorEq,if_pos,↓RS,RG,qA,qM,qL]
 apply hK;clear hK K
 refine W.block ?_
 refine W.loop [0,3,4] (fun n vs S=>∃ k v0 tk:Nat,n=row0.length - k∧k≤row0.length∧vs=[zan p,.loc 0 v0 0 k,.int .i64 k]∧S=⟨[.arr v0 9 1 ((zk4 p k).map .str)],tk⟩) (row0.length) ?_ ?_
 ·refine ⟨1,0,0,1,rfl,Nat.zero_le _,?_,rfl⟩
  simp [Env.put,Env.of,zae]
 rintro n vs S - ⟨k,v0,tk,rfl,h_k,rfl,rfl⟩
 refine W.seq ?_
 refine W.r fun K hK=>?_
 simp(disch:=omega)only[↓RU,RV,RH,↓reduceIte,qE,reduceCtorEq,if_pos,w64,↓RS,RG,qA,qM,qL,ty6,zaa,zac,hrow0,Int.toNat_zero,Nat.zero_mul,qZ]
 apply hK;clear hK K
 refine W.cond rfl (fun h=>?_) (fun h=>?_)
 ·try simp only[RL]at h
  have hcl0:=zkd (p:=p) (k:=k)
  refine W.skip ?_
  refine xn ?_
  refine W.seq ?_
  refine W.block ?_
  refine W.r fun K hK=>?_
  simp(disch:=omega)only[↓RU,RV,RH,↓reduceIte,qE,reduceCtorEq,if_pos,↓RS,RG,qA,qM,qL,ty7,zd4]
  apply hK;clear hK K
  refine W.seq ?_
  refine W.r fun K hK=>?_
  simp(disch:=omega)only[↓RU,RV,RH,↓reduceIte,qE,reduceCtorEq,if_pos,↓RS,RG,qA,qM,qL]
  apply hK;clear hK K
  refine W.block ?_
  refine W.loop [0,3,4,5,6] (fun n vs S=>∃ i v1 tk:Nat,n=p.length - i∧i≤p.length∧vs=[zan p,.loc 0 v0 0 k,.int .i64 k,.loc 1 v1 0 i,.int .i64 i]∧S=⟨[.arr v0 9 1 ((zk4 p k).map .str),.arr v1 5 1 ((zph p k i).map eB)],tk⟩) (p.length) ?_ ?_
  ·refine ⟨2,0,tk,tk+1,rfl,Nat.zero_le _,?_,rfl⟩
   simp [Env.put,Env.of,zae]
  rintro n vs S - ⟨i,v1,tk,rfl,h_i,rfl,rfl⟩
  refine W.seq ?_
  refine W.r fun K hK=>?_
  simp(disch:=omega)only[↓RU,RV,RH,↓reduceIte,qE,reduceCtorEq,if_pos,w64,↓RS,RG,qA,qM,qL,ty6,zaa,zac]
  apply hK;clear hK K
  refine W.cond rfl (fun h1=>?_) (fun h1=>?_)
  ·try simp only[RL]at h1
   obtain ⟨row,hrow,hrm⟩:=zaf (show i<p.length by omega)
   have hrl:=zd5 hg hrow
   rw [hhd]at hrl
   obtain ⟨c,hc,-⟩:=zaf (show k<row.length by omega)
   have hctl:=zh5 (p:=p) (k:=k) h_i
   refine W.skip ?_
   refine xn ?_
   refine W.seq ?_
   refine W.block ?_
   refine W.k fun K hK=>?_
   simp(disch:=omega)only[↓RU,RV,RH,↓reduceIte,qE,reduceCtorEq,if_pos,↓RS,RG,qA,qM,qL,ty6,ty7,zac,zd4,hrow,hc]
   apply hK;clear hK K
   refine XbN ?_
   refine xn ?_
   refine W.k fun K hK=>?_
   simp(disch:=omega)only[↓RU,RV,RH,↓reduceIte,qE,reduceCtorEq,if_pos,w64,↓RS,RG,qA,qM,qL,zaa]
   apply hK;clear hK K
   refine xn ?_
   refine ⟨p.length - (i+1),by omega,2,i+1,tk+1,tk+2,rfl,by omega,?_,?_⟩
   all_goals simp [Env.put,Env.of,zay,z38 hrow hc,hcl0,hctl,zk2]
  ·try simp only[RL]at h1
   have hip:i=p.length:=by omega
   subst hip
   have hctl:=zh5 (p:=p) (k:=k) (qR _)
   refine W.exit ?_
   refine xe ?_
   refine xe ?_
   refine XBlock.hit ?_
   refine xn ?_
   refine W.k fun K hK=>?_
   simp(disch:=omega)only[↓RU,RV,RH,↓reduceIte,qE,reduceCtorEq,if_pos,w64,↓RS,RG,qA,qM,qL,ty6,ty7,zac,zd4]
   apply hK;clear hK K
   refine XbN ?_
   refine xn ?_
   refine W.k fun K hK=>?_
   simp(disch:=omega)only[↓RU,RV,RH,↓reduceIte,qE,reduceCtorEq,if_pos,w64,↓RS,RG,qA,qM,qL,zaa]
   apply hK;clear hK K
   refine xn ?_
   refine ⟨row0.length - (k+1),by omega,1,k+1,tk+1,tk+2,rfl,by omega,?_,?_⟩
   all_goals simp [Env.put,Env.of,zay,zz0,hctl,zk2,hcl0]
 try simp only[RL]at h
 refine W.exit ?_
 refine xe ?_
 refine xe ?_
 refine XBlock.hit ?_
 refine xn ?_
 refine W.r fun K hK=>?_
 simp(disch:=omega)only[↓RU,RV,RH,↓reduceIte,qE,reduceCtorEq,if_pos,↓RS,RG,qA,qM,qL]
 apply hK;clear hK K
 refine W.ret ?_
 refine Br rfl ?_
 have hkp:k=row0.length:=by omega
 subst hkp
 rw [zdf,hhd]
 exact zb5 (k:=9) rfl (by simp [zkd]) (zmo _) |>.trans (by simp [zkd])
theorem zxo {xs ys:List Int} {v0 v1 tk:Nat} (hx:xs.length≤1048576) (hy:ys.length≤1048576) (x:Int):Ev Tryz.prog 202 [.loc 0 v0 0 xs.length,.int .i64 x] ⟨[.arr v0 3 1 (xs.map (.int .i64)),.arr v1 3 1 (ys.map (.int .i64))],tk⟩ fun v S=>∃ w t,v = .loc 0 w 0 (zjc xs x).length∧S=⟨[.arr w 3 1 ((zjc xs x).map (.int .i64)),.arr v1 3 1 (ys.map (.int .i64))],t⟩:=by
 refine Ev.of ⟨Tryz.func202,by kernel_rfl,rfl,by kernel_rfl⟩ zao mixed (by show 2≤Tryz.f202.ntmps; decide) ?_
 refine W.r fun K hK=>?_
 simp(disch:=omega)only[↓RU,RV,RH,↓reduceIte,qE,reduceCtorEq,if_pos,↓RS,RG,qA,qM,qL]
 apply hK;clear hK K
 refine W.seq ?_
 refine W.r fun K hK=>?_
 cases hp:decide ((xs.length:Int)>0)
 ·skip
  simp(disch:=omega)only[↓RU,RV,RH,↓reduceIte,qE,reduceCtorEq,if_pos,w64,↓RS,RG,qA,qM,qL,zab,zaa,hp]
  apply hK;clear hK K
  refine W.cond rfl (fun h0=>?_) (fun h0=>?_)
  ·try simp only[RL]at h0
   exact absurd h0 (by simp)
  try simp only[RL]at h0
  have hpl:zjc xs x=xs++[x]:=z26 (by simpa using hp)
  refine W.skip ?_
  refine xn ?_
  refine W.r fun K hK=>?_
  simp(disch:=omega)only[↓RU,RV,RH,↓reduceIte,qE,reduceCtorEq,if_pos,↓RS,RG,qA,qM,qL,zab,zaa]
  apply hK;clear hK K
  refine W.ret ?_
  refine Br rfl ?_
  exact ⟨2,_,_,by simp [Env.put,hpl]; rfl,by simp [zay,hpl]; rfl⟩
 skip
 have hp2:0<xs.length:=by simpa using hp
 obtain ⟨q,hq,-⟩:=zaf (show xs.length - 1<xs.length by omega)
 simp(disch:=omega)only[↓RU,RV,RH,↓reduceIte,qE,reduceCtorEq,if_pos,w64,↓RS,RG,qA,qM,qL,zab,zaa,hp,hq,zbb]
 apply hK;clear hK K
 refine W.cond rfl (fun h0=>?_) (fun h0=>?_)
 ·try simp only[RL]at h0
  have hpl:zjc xs x=xs:=zyp hq h0
  refine W.r fun K hK=>?_
  simp(disch:=omega)only[↓RU,RV,RH,↓reduceIte,qE,reduceCtorEq,if_pos,↓RS,RG,qA,qM,qL]
  apply hK;clear hK K
  refine W.ret ?_
  refine XThen.ret ?_
  refine Br rfl ?_
  exact ⟨2,_,_,by simp [Env.put,hpl]; rfl,by simp [zay,hpl]; rfl⟩
 try simp only[RL]at h0
 have hpl:zjc xs x=xs++[x]:=z25 hq h0
 refine W.skip ?_
 refine xn ?_
 refine W.r fun K hK=>?_
 simp(disch:=omega)only[↓RU,RV,RH,↓reduceIte,qE,reduceCtorEq,if_pos,↓RS,RG,qA,qM,qL,zab,zaa]
 apply hK;clear hK K
 refine W.ret ?_
 refine Br rfl ?_
 exact ⟨2,_,_,by simp [Env.put,hpl]; rfl,by simp [zay,hpl]; rfl⟩
theorem zxp {xs ys:List Int} {v0 v1 tk:Nat} (hx:xs.length≤1048576) (hy:ys.length≤1048576) (x:Int):Ev Tryz.prog 202 [.loc 1 v1 0 ys.length,.int .i64 x] ⟨[.arr v0 3 1 (xs.map (.int .i64)),.arr v1 3 1 (ys.map (.int .i64))],tk⟩ fun v S=>∃ w t,v = .loc 1 w 0 (zjc ys x).length∧S=⟨[.arr v0 3 1 (xs.map (.int .i64)),.arr w 3 1 ((zjc ys x).map (.int .i64))],t⟩:=by
 refine Ev.of ⟨Tryz.func202,by kernel_rfl,rfl,by kernel_rfl⟩ zao mixed (by show 2≤Tryz.f202.ntmps; decide) ?_
 refine W.r fun K hK=>?_
 simp(disch:=omega)only[↓RU,RV,RH,↓reduceIte,qE,reduceCtorEq,if_pos,↓RS,RG,qA,qM,qL]
 apply hK;clear hK K
 refine W.seq ?_
 refine W.r fun K hK=>?_
 cases hp:decide ((ys.length:Int)>0)
 ·skip
  simp(disch:=omega)only[↓RU,RV,RH,↓reduceIte,qE,reduceCtorEq,if_pos,w64,↓RS,RG,qA,qM,qL,zab,zaa,hp]
  apply hK;clear hK K
  refine W.cond rfl (fun h0=>?_) (fun h0=>?_)
  ·try simp only[RL]at h0
   exact absurd h0 (by simp)
  try simp only[RL]at h0
  have hpl:zjc ys x=ys++[x]:=z26 (by simpa using hp)
  refine W.skip ?_
  refine xn ?_
  refine W.r fun K hK=>?_
  simp(disch:=omega)only[↓RU,RV,RH,↓reduceIte,qE,reduceCtorEq,if_pos,↓RS,RG,qA,qM,qL,zab,zaa]
  apply hK;clear hK K
  refine W.ret ?_
  refine Br rfl ?_
  exact ⟨2,_,_,by simp [Env.put,hpl]; rfl,by simp [zay,hpl]; rfl⟩
 skip
 have hp2:0<ys.length:=by simpa using hp
 obtain ⟨q,hq,-⟩:=zaf (show ys.length - 1<ys.length by omega)
 simp(disch:=omega)only[↓RU,RV,RH,↓reduceIte,qE,reduceCtorEq,if_pos,w64,↓RS,RG,qA,qM,qL,zab,zaa,hp,hq,zbb]
 apply hK;clear hK K
 refine W.cond rfl (fun h0=>?_) (fun h0=>?_)
 ·try simp only[RL]at h0
  have hpl:zjc ys x=ys:=zyp hq h0
  refine W.r fun K hK=>?_
  simp(disch:=omega)only[↓RU,RV,RH,↓reduceIte,qE,reduceCtorEq,if_pos,↓RS,RG,qA,qM,qL]
  apply hK;clear hK K
  refine W.ret ?_
  refine XThen.ret ?_
  refine Br rfl ?_
  exact ⟨2,_,_,by simp [Env.put,hpl]; rfl,by simp [zay,hpl]; rfl⟩
 try simp only[RL]at h0
 have hpl:zjc ys x=ys++[x]:=z25 hq h0
 refine W.skip ?_
 refine xn ?_
 refine W.r fun K hK=>?_
 simp(disch:=omega)only[↓RU,RV,RH,↓reduceIte,qE,reduceCtorEq,if_pos,↓RS,RG,qA,qM,qL,zab,zaa]
 apply hK;clear hK K
 refine W.ret ?_
 refine Br rfl ?_
 exact ⟨2,_,_,by simp [Env.put,hpl]; rfl,by simp [zay,hpl]; rfl⟩
theorem zeb {a b:Nat}:((a:Int)+(b:Int)).toNat=a+b:=by omega
theorem zik {S:Store} {im:Bool} {k:Nat} {a b a2 b2:PV} (h1:reify S im k a=some a2) (h2:reify S im k b=some b2):reify S im (k+1) (.tup [a,b])=some (.tup [a2,b2]):=by
 simp [reify,h1,h2]
theorem z4s {p:List Txt} (hs:Sm p) (hg:zc1 p=true) {kind line fr long:Nat} (hl:1≤line) (h0:kind=0→line<(zax p).length∧fr+long≤p.length) (h1:kind≠0→line<p.length∧fr+long≤(zax p).length):PC Tryz.prog 185 [zan p,.sl [.int .i64 kind,.int .i64 line,.int .i64 fr,.int .i64 long] 4] (.tup [eInts (zdr p kind line fr long).1,eInts (zdr p kind line fr long).2]) true:=by
 have hp:=hs.rows
 have hsm:=zcr hg
 obtain ⟨row0,hrow0,hrm0⟩:=zaf hsm.1
 have hhd:=zc4 hrow0
 have hw6:=hsm.2.2 row0 hrm0
 rw [hhd]at h0 h1
 have hb:fr+long≤6∧line≤6:=by by_cases hk:kind=0; (have:=h0 hk; omega); (have:=h1 hk; omega)
 refine PC.of ⟨Tryz.func185,by kernel_rfl,rfl,by kernel_rfl⟩ zao mixed (by show 2≤Tryz.f185.ntmps; decide) ?_
 refine W.r fun K hK=>?_
 simp(disch:=omega)only[↓RU,RV,RH,↓reduceIte,qE,reduceCtorEq,if_pos,↓RS,RG,qA,qM,qL]
 apply hK;clear hK K
 refine W.r fun K hK=>?_
 simp(disch:=omega)only[↓RU,RV,RH,↓reduceIte,qE,reduceCtorEq,if_pos,↓RS,RG,qA,qM,qL,zab,zaa]
 apply hK;clear hK K
 refine W.r fun K hK=>?_
 simp(disch:=omega)only[↓RU,RV,RH,↓reduceIte,qE,reduceCtorEq,if_pos,↓RS,RG,qA,qM,qL,zab,zaa]
 apply hK;clear hK K
 refine W.seq ?_
 refine W.r fun K hK=>?_
 simp(disch:=omega)only[↓RU,RV,RH,↓reduceIte,qE,reduceCtorEq,if_pos,↓RS,RG,qA,qM,qL,zab,zaa,qZ,zbb,zeb]
 apply hK;clear hK K
 refine W.block ?_
 refine W.loop [0,1,6,7,8] (fun n vs S=>∃ j v0 v1 tk:Nat,n=long - j∧j≤long∧vs=[zan p,.sl [.int .i64 kind,.int .i64 line,.int .i64 fr,.int .i64 long] 4,.loc 0 v0 0 (zdr p kind line fr j).1.length,.loc 1 v1 0 (zdr p kind line fr j).2.length,.int .i64 ((fr:Int)+j)]∧S=⟨[.arr v0 3 1 ((zdr p kind line fr j).1.map (.int .i64)),.arr v1 3 1 ((zdr p kind line fr j).2.map (.int .i64))],tk⟩) (long) ?_ ?_
 ·refine ⟨2,0,0,1,2,rfl,Nat.zero_le _,?_,rfl⟩
  simp [Env.put,Env.of,zae,zdr]
 rintro n vs S - ⟨j,v0,v1,tk,rfl,h_j,rfl,rfl⟩
 refine W.seq ?_
 refine W.seq_draw (by kernel_rfl) fun K hK=>?_
 simp(disch:=omega)only[↓RU,RV,RH,↓reduceIte,qE,reduceCtorEq,if_pos,w64,↓RS,RG,qA,qM,qL,zab,zaa,qZ,zbb,zeb]
 apply hK;clear hK K
 refine W.cond rfl (fun h2=>?_) (fun h2=>?_)
 ·try simp only[RL]at h2
  have hsl:=zl2 (p:=p) (kind:=kind) (line:=line) (fr:=fr) j
  refine W.skip ?_
  refine xn ?_
  refine W.seq ?_
  refine W.block ?_
  refine W.r fun K hK=>?_
  simp(disch:=omega)only[↓RU,RV,RH,↓reduceIte,qE,reduceCtorEq,if_pos,w64,↓RS,RG,qA,qM,qL,zab,zaa,qZ,zbb,zeb]
  apply hK;clear hK K
  refine W.cond rfl (fun h3=>?_) (fun h3=>?_)
  ·try simp only[RL]at h3
   have hk:kind=0:=by omega
   have h0k:=h0 hk
   obtain ⟨r1,hr1,-⟩:=zaf (show fr+j<p.length by omega)
   have hr2:=hr1
   have hrl:=zd5 hg hr1
   rw [hhd]at hrl
   obtain ⟨c1,hc1,-⟩:=zaf (show line - 1<r1.length by omega)
   obtain ⟨c2,hc2,-⟩:=zaf (show line<r1.length by omega)
   have hcl1:=c1.toNat_lt
   have hcl2:=c2.toNat_lt
   refine W.seq_drawE (by kernel_rfl) fun K hK=>?_
   simp(disch:=omega)only[↓RU,RV,RH,↓reduceIte,qE,reduceCtorEq,if_pos,w64,w64,qN,↓RS,RG,qA,qM,qL,zab,ty6,zaa,zac,zd4,qZ,zbb,zeb,hr1,hc1]
   refine zad.ev (zxo (by omega) (by omega) _) ?_
   rintro v S ⟨w,t,rfl,rfl⟩
   simp(disch:=omega)only[↓RU,RV,RH,↓reduceIte,qE,reduceCtorEq,if_pos,w64,w64,qN,↓RS,RG,qA,qM,qL,zab,ty6,zaa,zac,zd4,qZ,zbb,zeb,hr1,hc1]
   apply hK;clear hK K
   refine W.drawE_k (by kernel_rfl) fun K hK=>?_
   simp(disch:=omega)only[↓RU,RV,RH,↓reduceIte,qE,reduceCtorEq,if_pos,w64,w64,qN,↓RS,RG,qA,qM,qL,zab,ty6,zaa,zac,zd4,qZ,zbb,zeb,hr2,hc2]
   refine zad.ev (zxp (Nat.le_trans zm1 (by omega)) (by omega) _) ?_
   rintro v S ⟨w2,t2,rfl,rfl⟩
   simp(disch:=omega)only[↓RU,RV,RH,↓reduceIte,qE,reduceCtorEq,if_pos,w64,w64,qN,↓RS,RG,qA,qM,qL,zab,ty6,zaa,zac,zd4,qZ,zbb,zeb,hr2,hc2]
   apply hK;clear hK K
   refine XbN ?_
   refine xn ?_
   refine W.k fun K hK=>?_
   simp(disch:=omega)only[↓RU,RV,RH,↓reduceIte,qE,reduceCtorEq,if_pos,w64,↓RS,RG,qA,qM,qL,zaa]
   apply hK;clear hK K
   refine xn ?_
   refine ⟨long - (j+1),by omega,2,j+1,w,w2,t2,rfl,by omega,?_,?_⟩
   all_goals simp [zdr,hk,zc3 hr1 hc1,zc3 hr2 hc2,Env.put,Env.of,zay,Int.add_assoc]
  ·try simp only[RL]at h3
   have hk:¬ kind=0:=by omega
   have h1k:=h1 hk
   obtain ⟨r1,hr1,-⟩:=zaf (show line - 1<p.length by omega)
   obtain ⟨r2,hr2,-⟩:=zaf (show line<p.length by omega)
   have hrl:=zd5 hg hr1
   have hrl2:=zd5 hg hr2
   rw [hhd]at hrl hrl2
   obtain ⟨c1,hc1,-⟩:=zaf (show fr+j<r1.length by omega)
   obtain ⟨c2,hc2,-⟩:=zaf (show fr+j<r2.length by omega)
   have hcl1:=c1.toNat_lt
   have hcl2:=c2.toNat_lt
   refine W.r fun K hK=>?_
   simp(disch:=omega)only[↓RU,RV,RH,↓reduceIte,qE,reduceCtorEq,if_pos,w64,w64,qN,↓RS,RG,qA,qM,qL,zab,ty6,zaa,zac,zd4,qZ,zbb,zeb,hr1,hc1]
   refine zad.ev (zxo (by omega) (by omega) _) ?_
   rintro v S ⟨w,t,rfl,rfl⟩
   simp(disch:=omega)only[↓RU,RV,RH,↓reduceIte,qE,reduceCtorEq,if_pos,w64,w64,qN,↓RS,RG,qA,qM,qL,zab,ty6,zaa,zac,zd4,qZ,zbb,zeb,hr1,hc1]
   apply hK;clear hK K
   refine W.k fun K hK=>?_
   simp(disch:=omega)only[↓RU,RV,RH,↓reduceIte,qE,reduceCtorEq,if_pos,w64,w64,qN,↓RS,RG,qA,qM,qL,zab,ty6,zaa,zac,zd4,qZ,zbb,zeb,hr2,hc2]
   refine zad.ev (zxp (Nat.le_trans zm1 (by omega)) (by omega) _) ?_
   rintro v S ⟨w2,t2,rfl,rfl⟩
   simp(disch:=omega)only[↓RU,RV,RH,↓reduceIte,qE,reduceCtorEq,if_pos,w64,w64,qN,↓RS,RG,qA,qM,qL,zab,ty6,zaa,zac,zd4,qZ,zbb,zeb,hr2,hc2]
   apply hK;clear hK K
   refine XbN ?_
   refine xn ?_
   refine W.k fun K hK=>?_
   simp(disch:=omega)only[↓RU,RV,RH,↓reduceIte,qE,reduceCtorEq,if_pos,w64,↓RS,RG,qA,qM,qL,zaa]
   apply hK;clear hK K
   refine xn ?_
   refine ⟨long - (j+1),by omega,2,j+1,w,w2,t2,rfl,by omega,?_,?_⟩
   all_goals simp [zdr,hk,zc3 hr1 hc1,zc3 hr2 hc2,Env.put,Env.of,zay,Int.add_assoc]
 try simp only[RL]at h2
 refine W.exit ?_
 refine xe ?_
 refine xe ?_
 refine XBlock.hit ?_
 refine xn ?_
 refine W.r fun K hK=>?_
 simp(disch:=omega)only[↓RU,RV,RH,↓reduceIte,qE,reduceCtorEq,if_pos,↓RS,RG,qA,qM,qL]
 apply hK;clear hK K
 refine W.ret ?_
 refine Br rfl ?_
 have hjl:j=long:=by omega
 subst hjl
 exact zik (zb5 (k:=8) rfl (by simp) (zmn _)) (zb5 (k:=8) rfl (by simp) (zmn _))
theorem zoz {p:List Txt} (hs:Sm p) (hg:zc1 p=true):PC Tryz.prog 152 [zan p] (.sl ((uprights p).map eInts) (uprights p).length) false:=by
 have hp:=hs.rows
 have hsm:=zcr hg
 obtain ⟨row0,hrow0,hrm0⟩:=zaf hsm.1
 have hhd:=zc4 hrow0
 have hw6:=hsm.2.2 row0 hrm0
 have hw1:=zhf hg hrow0
 refine PC.of ⟨Tryz.func152,by kernel_rfl,rfl,by kernel_rfl⟩ zao mixed (by show 1≤Tryz.f152.ntmps; decide) ?_
 refine W.r fun K hK=>?_
 simp(disch:=omega)only[↓RU,RV,RH,↓reduceIte,qE,reduceCtorEq,if_pos,↓RS,RG,qA,qM,qL]
 apply hK;clear hK K
 refine W.r fun K hK=>?_
 simp(disch:=omega)only[↓RU,RV,RH,↓reduceIte,qE,reduceCtorEq,if_pos,↓RS,RG,qA,qM,qL,ty1,zab,zaa]
 apply hK;clear hK K
 refine W.seq ?_
 refine W.r fun K hK=>?_
 simp(disch:=omega)only[↓RU,RV,RH,↓reduceIte,qE,reduceCtorEq,if_pos,↓RS,RG,qA,qM,qL]
 apply hK;clear hK K
 refine W.block ?_
 refine W.loopZ [0,3,4] (fun n vs S=>∃ k v0 tk:Nat,n=row0.length - k∧k≤row0.length∧(1≤k)∧vs=[zan p,.loc 0 v0 0 (zd1 p k).length,.int .i64 k]∧S=⟨[.arr v0 34 1 ((zd1 p k).map eInts)],tk⟩) (row0.length - 1) ?_ ?_
 ·refine ⟨1,[zan p,.loc 0 0 0 (zd1 p 1).length,.int .i64 1],⟨[.arr 0 34 1 ((zd1 p 1).map eInts)],1⟩,?_,?_,1,0,1,rfl,by omega,qR _,rfl,rfl⟩
  ·rfl
  rfl
 rintro n vs S - ⟨k,v0,tk,rfl,h_k,h1k,rfl,rfl⟩
 refine W.seq ?_
 refine W.r fun K hK=>?_
 simp(disch:=omega)only[↓RU,RV,RH,↓reduceIte,qE,reduceCtorEq,if_pos,w64,↓RS,RG,qA,qM,qL,ty6,zaa,zac,hrow0,Int.toNat_zero,Nat.zero_mul,qZ]
 apply hK;clear hK K
 refine W.cond rfl (fun h=>?_) (fun h=>?_)
 ·try simp only[RL]at h
  have hul:=Nat.le_trans (znm p k) (Nat.mul_le_mul (show p.length+1≤7 by omega) (show k≤6 by omega))
  refine W.skip ?_
  refine xn ?_
  refine W.seq ?_
  refine W.block ?_
  refine W.r fun K hK=>?_
  simp(disch:=omega)only[↓RU,RV,RH,↓reduceIte,qE,reduceCtorEq,if_pos,↓RS,RG,qA,qM,qL]
  apply hK;clear hK K
  refine W.r fun K hK=>?_
  simp(disch:=omega)only[↓RU,RV,RH,↓reduceIte,qE,reduceCtorEq,if_pos,↓RS,RG,qA,qM,qL]
  apply hK;clear hK K
  refine W.block ?_
  refine W.loopZ [0,3,4,5,6] (fun n vs S=>∃ i v0 tk:Nat,n=(p.length+1) - i∧i≤(p.length+1)∧vs=[zan p,.loc 0 v0 0 (zfx p k (zd1 p k) i).2.length,.int .i64 k,.int .i64 (zfx p k (zd1 p k) i).1,.int .i64 i]∧S=⟨[.arr v0 34 1 ((zfx p k (zd1 p k) i).2.map eInts)],tk⟩) ((p.length+1)) ?_ ?_
  ·refine ⟨1,[zan p,.loc 0 v0 0 (zfx p k (zd1 p k) 0).2.length,.int .i64 k,.int .i64 (zfx p k (zd1 p k) 0).1,.int .i64 0],⟨[.arr v0 34 1 ((zfx p k (zd1 p k) 0).2.map eInts)],tk⟩,?_,?_,0,v0,tk,rfl,by omega,rfl,rfl⟩
   ·simp [-qU,Store.frz,zcd,zcz,zau,zbi,zbf,zbs,zcm,za8,za5,za9,zat,zav,zbv,zba,zbt,za7,Env.put,Env.of,zae,zbu,qP,qC] <;> simp [zfx]
   simp [-qU,Store.frz,zcd,zcz,zau,zbi,zbf,zbs,zcm,za8,za5,za9,zat,zav,zbv,zba,zbt,za7,Env.put,Env.of,zae,zbu,qP,qC] <;> simp [zfx]
  rintro n vs S - ⟨i,v0,tk,rfl,h_i,rfl,rfl⟩
  refine W.seq ?_
  refine W.r fun K hK=>?_
  simp(disch:=omega)only[↓RU,RV,RH,↓reduceIte,qE,reduceCtorEq,if_pos,w64,↓RS,RG,qA,qM,qL,ty6,zaa,zac]
  apply hK;clear hK K
  refine W.cond rfl (fun h1=>?_) (fun h1=>?_)
  ·try simp only[RL]at h1
   have hutl:=zv7 p k (zd1 p k) i
   have hutb:=zup p k (zd1 p k) i
   refine W.skip ?_
   refine xn ?_
   refine W.seq ?_
   refine W.block ?_
   refine W.join [0,3,4,5,6,7] (fun vs S=>vs=[zan p,.loc 0 v0 0 (zfx p k (zd1 p k) i).2.length,.int .i64 k,.int .i64 (zfx p k (zd1 p k) i).1,.int .i64 i,.bool (zhn p k i)]∧S=⟨[.arr v0 34 1 ((zfx p k (zd1 p k) i).2.map eInts)],tk⟩) ?_ ?_
   ·
    refine W.draw_k (by kernel_rfl) fun K hK=>?_
    by_cases hip:i<p.length
    ·skip
     obtain ⟨r1,hr1,-⟩:=zaf hip
     have hrl:=zd5 hg hr1
     rw [hhd]at hrl
     obtain ⟨c1,hc1,-⟩:=zaf (show k - 1<r1.length by omega)
     obtain ⟨c2,hc2,-⟩:=zaf (show k<r1.length by omega)
     have hid:((i:Int)<(p.length:Int)):=by omega
     simp(disch:=omega)only[↓RU,RV,RH,↓reduceIte,qE,reduceCtorEq,if_pos,w64,↓RS,RG,qA,qM,qL,ty6,zaa,zac,zd4,hid,decide_true,hr1,hc1,hc2,zbb]
     apply hK;clear hK K
     refine xn ?_
     refine ⟨1,?_,?_⟩
     all_goals simp [Env.put,Env.of,zay,zhn,hip]
     try simp [zc3 hr1 hc1,zc3 hr1 hc2,yge,zu2]
    ·skip
     have hid:¬ ((i:Int)<(p.length:Int)):=by omega
     simp(disch:=omega)only[↓RU,RV,RH,↓reduceIte,qE,reduceCtorEq,if_pos,w64,↓RS,RG,qA,qM,qL,ty6,zaa,zac,zd4,hid,decide_false]
     apply hK;clear hK K
     refine xn ?_
     refine ⟨1,?_,?_⟩
     all_goals simp [Env.put,Env.of,zay,zhn,hip]
     try simp [zc3 hr1 hc1,zc3 hr1 hc2,yge,zu2]
   rintro vs S - ⟨rfl,rfl⟩
   refine W.seq ?_
   refine W.r fun K hK=>?_
   cases hw:zhn p k i
   ·skip
    simp(disch:=omega)only[↓RU,RV,RH,↓reduceIte,qE,reduceCtorEq,if_pos,w64,↓RS,RG,qA,qM,qL,zaa,hw]
    apply hK;clear hK K
    refine W.cond rfl (fun h2=>?_) (fun h2=>?_)
    ·try simp only[RL]at h2
     exact absurd h2 (by simp)
    try simp only[RL]at h2
    refine W.skip ?_
    refine xn ?_
    refine W.r fun K hK=>?_
    simp(disch:=omega)only[↓RU,RV,RH,↓reduceIte,qE,reduceCtorEq,if_pos,w64,↓RS,RG,qA,qM,qL,zaa]
    apply hK;clear hK K
    refine W.cond rfl (fun h3=>?_) (fun h3=>?_)
    ·try simp only[RL]at h3
     refine W.r fun K hK=>?_
     simp(disch:=omega)only[↓RU,RV,RH,↓reduceIte,qE,reduceCtorEq,if_pos,w64,↓RS,RG,qA,qM,qL,ty1,zab,zaa]
     apply hK;clear hK K
     refine W.k fun K hK=>?_
     simp(disch:=omega)only[↓RU,RV,RH,↓reduceIte,qE,reduceCtorEq,if_pos,↓RS,RG,qA,qM,qL]
     apply hK;clear hK K
     refine XbN ?_
     refine xn ?_
     refine W.k fun K hK=>?_
     simp(disch:=omega)only[↓RU,RV,RH,↓reduceIte,qE,reduceCtorEq,if_pos,w64,↓RS,RG,qA,qM,qL,zaa]
     apply hK;clear hK K
     refine xn ?_
     refine ⟨(p.length+1) - (i+1),by omega,1,[zan p,.loc 0 (tk+2) 0 (zfx p k (zd1 p k) (i+1)).2.length,.int .i64 k,.int .i64 (zfx p k (zd1 p k) (i+1)).1,.int .i64 (i+1)],⟨[.arr (tk+2) 34 1 ((zfx p k (zd1 p k) (i+1)).2.map eInts)],(tk+3)⟩,?_,?_,(i+1),tk+2,tk+3,rfl,by omega,rfl,rfl⟩
     ·simp [-qU,Store.frz,zcd,zcz,zau,zbi,zbf,zbs,zcm,za8,za5,za9,zat,zav,zbv,zba,zbt,za7,Env.put,Env.of,zae,zbu,qP,qC,zfx,zgv,hw,h2,h3]
     simp [-qU,Store.frz,zcd,zcz,zau,zbi,zbf,zbs,zcm,za8,za5,za9,zat,zav,zbv,zba,zbt,za7,Env.put,Env.of,zae,zbu,qP,qC,zfx,zgv,hw,h2,h3]
    try simp only[RL]at h3
    refine W.skip ?_
    refine XbN ?_
    refine xn ?_
    refine W.k fun K hK=>?_
    simp(disch:=omega)only[↓RU,RV,RH,↓reduceIte,qE,reduceCtorEq,if_pos,w64,↓RS,RG,qA,qM,qL,zaa]
    apply hK;clear hK K
    refine xn ?_
    refine ⟨(p.length+1) - (i+1),by omega,1,[zan p,.loc 0 v0 0 (zfx p k (zd1 p k) (i+1)).2.length,.int .i64 k,.int .i64 (zfx p k (zd1 p k) (i+1)).1,.int .i64 (i+1)],⟨[.arr v0 34 1 ((zfx p k (zd1 p k) (i+1)).2.map eInts)],tk⟩,?_,?_,(i+1),v0,tk,rfl,by omega,rfl,rfl⟩
    ·simp [-qU,Store.frz,zcd,zcz,zau,zbi,zbf,zbs,zcm,za8,za5,za9,zat,zav,zbv,zba,zbt,za7,Env.put,Env.of,zae,zbu,qP,qC,zfx,zgv,hw,h2,h3]
    simp [-qU,Store.frz,zcd,zcz,zau,zbi,zbf,zbs,zcm,za8,za5,za9,zat,zav,zbv,zba,zbt,za7,Env.put,Env.of,zae,zbu,qP,qC,zfx,zgv,hw,h2,h3]
   skip
   simp(disch:=omega)only[↓RU,RV,RH,↓reduceIte,qE,reduceCtorEq,if_pos,w64,↓RS,RG,qA,qM,qL,zaa,hw]
   apply hK;clear hK K
   refine W.cond rfl (fun h2=>?_) (fun h2=>?_)
   ·try simp only[RL]at h2
    refine W.k fun K hK=>?_
    simp(disch:=omega)only[↓RU,RV,RH,↓reduceIte,qE,reduceCtorEq,if_pos,↓RS,RG,qA,qM,qL]
    apply hK;clear hK K
    refine xn ?_
    refine W.r fun K hK=>?_
    simp(disch:=omega)only[↓RU,RV,RH,↓reduceIte,qE,reduceCtorEq,if_pos,w64,↓RS,RG,qA,qM,qL,zaa]
    apply hK;clear hK K
    refine W.cond rfl (fun h3=>?_) (fun h3=>?_)
    ·try simp only[RL]at h3
     exact absurd h3 (by simp)
    try simp only[RL]at h3
    refine W.skip ?_
    refine XbN ?_
    refine xn ?_
    refine W.k fun K hK=>?_
    simp(disch:=omega)only[↓RU,RV,RH,↓reduceIte,qE,reduceCtorEq,if_pos,w64,↓RS,RG,qA,qM,qL,zaa]
    apply hK;clear hK K
    refine xn ?_
    refine ⟨(p.length+1) - (i+1),by omega,1,[zan p,.loc 0 v0 0 (zfx p k (zd1 p k) (i+1)).2.length,.int .i64 k,.int .i64 (zfx p k (zd1 p k) (i+1)).1,.int .i64 (i+1)],⟨[.arr v0 34 1 ((zfx p k (zd1 p k) (i+1)).2.map eInts)],tk⟩,?_,?_,(i+1),v0,tk,rfl,by omega,rfl,rfl⟩
    ·simp [-qU,Store.frz,zcd,zcz,zau,zbi,zbf,zbs,zcm,za8,za5,za9,zat,zav,zbv,zba,zbt,za7,Env.put,Env.of,zae,zbu,qP,qC,zfx,zgv,hw,h2,h3]
    simp [-qU,Store.frz,zcd,zcz,zau,zbi,zbf,zbs,zcm,za8,za5,za9,zat,zav,zbv,zba,zbt,za7,Env.put,Env.of,zae,zbu,qP,qC,zfx,zgv,hw,h2,h3]
   try simp only[RL]at h2
   refine W.skip ?_
   refine xn ?_
   refine W.r fun K hK=>?_
   simp(disch:=omega)only[↓RU,RV,RH,↓reduceIte,qE,reduceCtorEq,if_pos,w64,↓RS,RG,qA,qM,qL,zaa]
   apply hK;clear hK K
   refine W.cond rfl (fun h3=>?_) (fun h3=>?_)
   ·try simp only[RL]at h3
    exact absurd h3 (by simp)
   try simp only[RL]at h3
   refine W.skip ?_
   refine XbN ?_
   refine xn ?_
   refine W.k fun K hK=>?_
   simp(disch:=omega)only[↓RU,RV,RH,↓reduceIte,qE,reduceCtorEq,if_pos,w64,↓RS,RG,qA,qM,qL,zaa]
   apply hK;clear hK K
   refine xn ?_
   refine ⟨(p.length+1) - (i+1),by omega,1,[zan p,.loc 0 v0 0 (zfx p k (zd1 p k) (i+1)).2.length,.int .i64 k,.int .i64 (zfx p k (zd1 p k) (i+1)).1,.int .i64 (i+1)],⟨[.arr v0 34 1 ((zfx p k (zd1 p k) (i+1)).2.map eInts)],tk⟩,?_,?_,(i+1),v0,tk,rfl,by omega,rfl,rfl⟩
   ·simp [-qU,Store.frz,zcd,zcz,zau,zbi,zbf,zbs,zcm,za8,za5,za9,zat,zav,zbv,zba,zbt,za7,Env.put,Env.of,zae,zbu,qP,qC,zfx,zgv,hw,h2,h3]
   simp [-qU,Store.frz,zcd,zcz,zau,zbi,zbf,zbs,zcm,za8,za5,za9,zat,zav,zbv,zba,zbt,za7,Env.put,Env.of,zae,zbu,qP,qC,zfx,zgv,hw,h2,h3]
  try simp only[RL]at h1
  refine W.exit ?_
  refine xe ?_
  refine xe ?_
  refine XBlock.hit ?_
  refine XbN ?_
  refine xn ?_
  refine W.k fun K hK=>?_
  simp(disch:=omega)only[↓RU,RV,RH,↓reduceIte,qE,reduceCtorEq,if_pos,w64,↓RS,RG,qA,qM,qL,zaa]
  apply hK;clear hK K
  refine xn ?_
  refine ⟨row0.length - (k+1),by omega,1,[zan p,.loc 0 v0 0 (zd1 p (k+1)).length,.int .i64 (k+1)],⟨[.arr v0 34 1 ((zd1 p (k+1)).map eInts)],tk⟩,?_,?_,(k+1),v0,tk,rfl,by omega,by omega,rfl,rfl⟩
  ·simp [-qU,Store.frz,zcd,zcz,zau,zbi,zbf,zbs,zcm,za8,za5,za9,zat,zav,zbv,zba,zbt,za7,Env.put,Env.of,zae,zbu,qP,qC] <;> (rw [zoh h1k]; obtain rfl:i=p.length+1:=(by omega); simp)
  simp [-qU,Store.frz,zcd,zcz,zau,zbi,zbf,zbs,zcm,za8,za5,za9,zat,zav,zbv,zba,zbt,za7,Env.put,Env.of,zae,zbu,qP,qC] <;> (rw [zoh h1k]; obtain rfl:i=p.length+1:=(by omega); simp)
 try simp only[RL]at h
 refine W.exit ?_
 refine xe ?_
 refine xe ?_
 refine XBlock.hit ?_
 refine xn ?_
 refine W.r fun K hK=>?_
 simp(disch:=omega)only[↓RU,RV,RH,↓reduceIte,qE,reduceCtorEq,if_pos,↓RS,RG,qA,qM,qL]
 apply hK;clear hK K
 refine W.ret ?_
 refine Br rfl ?_
 have hkp:k=row0.length:=by omega
 subst hkp
 rw [uprights,hhd]
 exact zb5 (k:=9) rfl (by simp) (zn3 _)
def yd9 (p:List Txt) (k0:Nat) (w:List Int):Prop :=
 ∃ k f l:Nat,w=[(k:Int),(f:Int),(l:Int)]∧1≤k∧k<k0∧1≤l∧f+l≤p.length∧∀ j,f≤j→j<f+l→zhn p k j=true
theorem z99 {p:List Txt} {k:Nat}:zhn p k p.length=false:=by simp [zhn]
theorem z91 {p:List Txt} {k k0:Nat} (hk:1≤k) (hk0:k<k0) {s0:List (List Int)} (h0:∀ w∈s0,yd9 p k0 w):∀ i,i≤p.length+1 →
  (∀ w∈(zfx p k s0 i).2,yd9 p k0 w)∧((zfx p k s0 i).1 = -1∨∃ f:Nat,(zfx p k s0 i).1=f∧f<i∧∀ j,f≤j→j<i→zhn p k j=true)
 | 0,_=>⟨h0,.inl rfl⟩
 | i+1,hi=>by
  obtain ⟨ih1,ih2⟩:=z91 hk hk0 h0 i (by omega)
  unfold zfx zgv
  cases hw:zhn p k i with
  | true =>
   simp only[Bool.true_and,decide_eq_true_eq,Bool.not_true,Bool.false_and,qF,if_false]
   refine ⟨ih1,.inr ?_⟩
   rcases ih2 with h | ⟨f,h,hf,hr⟩
   ·rw [h,if_pos (by omega)]
    exact ⟨i,rfl,by omega,fun j h1 h2=>by rw [show j=i by omega]; exact hw⟩
   rw [h,if_neg (by omega)]
   refine ⟨f,rfl,by omega,fun j h1 h2=>?_⟩
   by_cases hj:j=i
   ·rw [hj]; exact hw
   exact hr j h1 (by omega)
  | false =>
   simp only[Bool.false_and,qF,if_false,Bool.not_false,Bool.true_and,decide_eq_true_eq]
   rcases ih2 with h | ⟨f,h,hf,hr⟩
   ·rw [h,if_neg (by omega)]
    exact ⟨ih1,.inl rfl⟩
   rw [h,if_pos (by omega)]
   refine ⟨fun w hw'=>?_,.inl rfl⟩
   rcases List.mem_append.1 hw' with h1 | h1
   ·exact ih1 w h1
   rw [List.mem_singleton]at h1
   have hip:i≤p.length:=by omega
   refine ⟨k,f,i - f,by rw [h1]; simp; omega,hk,hk0,by omega,by omega,fun j h1 h2=>hr j h1 (by omega)⟩
theorem yd9.up {p:List Txt} {k k':Nat} (h:k≤k') {w:List Int} (hw:yd9 p k w):yd9 p k' w:=by
 obtain ⟨a,f,l,h1,h2,h3,h4⟩:=hw
 exact ⟨a,f,l,h1,h2,by omega,h4⟩
theorem zwb (p:List Txt):∀ k,∀ w∈zd1 p k,yd9 p k w
 | 0,w,h=>by simp [zd1]at h
 | k+1,w,h=>by
  unfold zd1 at h
  split at h
  ·rename_i hk
   exact (z91 hk (Nat.lt_succ_self k) (fun w hw=>(zwb p k w hw).up (by omega)) _ (qR _)).1 w h
  exact (zwb p k w h).up (by omega)
theorem z96 {p:List Txt} {w:List Int} (h:w∈uprights p):yd9 p (zax p).length w:=zwb p _ w h
theorem zzo {p:List Txt} {w:List Int} (h:w∈uprights p):w.length=3:=by
 obtain ⟨_,_,_,rfl,_⟩:=z96 h; rfl
theorem z6x {p:List Txt} {k i:Nat} {row:Txt} (h:p[i]?=some row):(zph p k p.length)[i]?=some (row.getD k 0):=by
 simp [zph,h]
theorem zzk {p:List Txt} {k:Nat} (h:k<(zax p).length):(zdf p)[k]?=some (zph p k p.length):=by
 simp [zdf,zk4,h]
theorem znl {p:List Txt}:(zdf p).length=(zax p).length:=by simp [zdf,zkd]
theorem zp5 {p:List Txt} (h:0<(zax p).length):(zax (zdf p)).length=p.length:=by
 rw [zc4 (zzk h)]; exact zh5 (qR _)
theorem z2f {p:List Txt} (h:zc1 p=true) {i k:Nat} {row:Txt} (hr:p[i]?=some row) (hk:k<(zax p).length):∃ c,row[k]?=some c∧zde c=true:=by
 have hl:=zd5 h hr
 unfold zc1 at h
 simp only[qB,decide_eq_true_eq,List.all_eq_true]at h
 have:=h.1.1 row (List.mem_of_getElem? hr)
 simp only[zsr,qB,decide_eq_true_eq,List.all_eq_true]at this
 obtain ⟨c,hc,hm⟩:=zaf (show k<row.length by omega)
 exact ⟨c,hc,this.2 c hm⟩
theorem zuo {p:List Txt} (h:zc1 p=true):zc1 (zdf p)=true:=by
 have hsm:=zcr h
 obtain ⟨row0,hrow0,hrm0⟩:=zaf hsm.1
 have hhd:=zc4 hrow0
 have hw1:=zhf h hrow0
 have hw6:=hsm.2.2 row0 hrm0
 have hlen:=znl (p:=p)
 have hhd2:=zp5 (p:=p) (by rw [hhd]; omega)
 rw [hhd]at hlen
 unfold zc1
 simp only[qB,decide_eq_true_eq,List.all_eq_true]
 refine ⟨⟨fun r hr=>?_,by omega⟩,by omega⟩
 simp only[zdf,zk4,List.mem_map,List.mem_range]at hr
 obtain ⟨k,hk,rfl⟩:=hr
 simp only[zsr,qB,decide_eq_true_eq,List.all_eq_true]
 refine ⟨⟨⟨by rw [hhd2]; exact zh5 (qR _),by rw [zh5 (qR _)]; omega⟩,by rw [zh5 (qR _)]; omega⟩,fun c hc=>?_⟩
 simp only[zph,List.take_length,List.mem_map]at hc
 obtain ⟨row,hrm,rfl⟩:=hc
 obtain ⟨i,hi⟩:=List.mem_iff_getElem?.1 hrm
 obtain ⟨c,hc,hl⟩:=z2f h hi hk
 simpa [List.getD_eq_getElem?_getD,hc] using hl
theorem Sm.grid {p:List Txt} (h:zc1 p=true):Sm p:=by
 have:=zcr h
 exact ⟨by omega,fun r hr=>by have:=this.2.2 r hr; omega⟩
theorem zio {p:List Txt} {i k:Nat} (h:i<p.length) (hk:k<(zax p).length):zcj (zdf p) k i=zcj p i k:=by
 obtain ⟨row,hr,-⟩:=zaf h
 simp [zcj,zzk hk,z6x hr,hr,List.getD_eq_getElem?_getD]
def walls (p:List Txt):List (List Int):=(uprights p).map (0 :: ·)++(uprights (zdf p)).map (1 :: ·)
def z1h (p:List Txt) (w:List Int):Prop :=
 ∃ kind line fr long:Nat,w=[(kind:Int),(line:Int),(fr:Int),(long:Int)]∧1≤line∧1≤long ∧
  ((kind=0∧line<(zax p).length∧fr+long≤p.length∧∀ j,fr≤j→j<fr+long→zcj p j (line - 1)≠zcj p j line) ∨
  (kind=1∧line<p.length∧fr+long≤(zax p).length∧∀ j,fr≤j→j<fr+long→zcj p (line - 1) j≠zcj p line j))
theorem zwd {p:List Txt} (hg:zc1 p=true) {w:List Int} (h:w∈walls p):z1h p w:=by
 have hsm:=zcr hg
 obtain ⟨row0,hrow0,hrm0⟩:=zaf hsm.1
 have hhd:=zc4 hrow0
 have hw1:=zhf hg hrow0
 have hhd2:=zp5 (p:=p) (by rw [hhd]; omega)
 unfold walls at h
 rcases List.mem_append.1 h with h | h
 ·obtain ⟨u,hu,rfl⟩:=List.mem_map.1 h
  obtain ⟨k,f,l,rfl,h1,h2,h3,h4,h5⟩:=z96 hu
  refine ⟨0,k,f,l,rfl,h1,h3,.inl ⟨rfl,h2,h4,fun j a b=>?_⟩⟩
  have:=h5 j a b
  simp only[zhn,qB,decide_eq_true_eq]at this
  exact this.2
 obtain ⟨u,hu,rfl⟩:=List.mem_map.1 h
 obtain ⟨k,f,l,rfl,h1,h2,h3,h4,h5⟩:=z96 hu
 rw [znl]at h4
 rw [hhd2]at h2
 refine ⟨1,k,f,l,rfl,h1,h3,.inr ⟨rfl,h2,h4,fun j a b=>?_⟩⟩
 have:=h5 j a b
 simp only[zhn,qB,decide_eq_true_eq]at this
 rw [zio (by omega) (by omega),zio (by omega) (by omega)]at this
 exact this.2
def zhz (p:List Txt) (i:Nat):List (List Int):=((uprights p).take i).map (0 :: ·)
def zhl (p:List Txt) (j:Nat):List (List Int):=zhz p (uprights p).length++((uprights (zdf p)).take j).map (1 :: ·)
theorem zur {p:List Txt} {i:Nat} (h:i≤(uprights p).length):(zhz p i).length=i:=by simp [zhz]; omega
theorem z55 {p:List Txt} {j:Nat} (h:j≤(uprights (zdf p)).length):(zhl p j).length=(uprights p).length+j:=by simp [zhl,zur]; omega
theorem zsd {p:List Txt} {i:Nat} {u:List Int} (h:(uprights p)[i]?=some u):zhz p (i+1)=zhz p i++[0::u]:=by simp [zhz,tk h]
theorem zse {p:List Txt} {i:Nat} {u:List Int} (h:(uprights (zdf p))[i]?=some u):zhl p (i+1)=zhl p i++[1::u]:=by simp [zhl,tk h]
theorem zsf {p:List Txt}:zhl p 0=zhz p (uprights p).length:=by simp [zhl]
theorem z54 {p:List Txt}:zhl p (uprights (zdf p)).length=walls p:=by simp [zhl,zhz,walls]
theorem zzp {p:List Txt} (hg:zc1 p=true):(walls p).length≤84:=by
 have hsm:=zcr hg
 obtain ⟨row0,hrow0,hrm0⟩:=zaf hsm.1
 have hhd:=zc4 hrow0
 have hw1:=zhf hg hrow0
 have hw6:=hsm.2.2 row0 hrm0
 have hhd2:=zp5 (p:=p) (by rw [hhd]; omega)
 have hl2:=znl (p:=p)
 rw [hhd]at hl2
 have h1:=Nat.le_trans (znm p (zax p).length) (Nat.mul_le_mul (show p.length+1≤7 by omega) (show (zax p).length≤6 by rw [hhd]; omega))
 have h2:=Nat.le_trans (znm (zdf p) (zax (zdf p)).length) (Nat.mul_le_mul (show (zdf p).length+1≤7 by omega) (show (zax (zdf p)).length≤6 by omega))
 simp only[walls,uprights,List.length_append,List.length_map]
 omega
theorem z9c (row:Txt):∀ (n:Int),n≤zgu n row∧∀ (k:Nat) (c:UInt8),row[k]?=some c→(c.toNat:Int) - 97+1≤zgu n row:=by
 induction row with
 | nil=>intro n; exact ⟨Int.le_refl _,by simp⟩
 | cons a row ih =>
  intro n
  have h:=ih (max n ((a.toNat:Int) - 97+1))
  have e:zgu n (a::row)=zgu (max n ((a.toNat:Int) - 97+1)) row:=rfl
  rw [e]
  refine ⟨by omega,?_⟩
  rintro (_ | k) c hc
  ·simp at hc; subst hc; omega
  simp at hc; exact h.2 k c hc
theorem zud (p:List Txt):∀ (n:Int),n≤p.foldl zgu n∧∀ (i k:Nat) (row:Txt) (c:UInt8),p[i]?=some row→row[k]?=some c→(c.toNat:Int) - 97+1≤p.foldl zgu n:=by
 induction p with
 | nil=>intro n; exact ⟨Int.le_refl _,by simp⟩
 | cons r p ih =>
  intro n
  have h:=ih (zgu n r)
  have h2:=z9c r n
  simp only[List.foldl_cons]
  refine ⟨by omega,?_⟩
  rintro (_ | i) k row c hr hc
  ·simp at hr; subst hr
   have:=h2.2 k c hc; omega
  simp at hr; exact h.2 i k row c hr hc
theorem zpm {p:List Txt} (hg:zc1 p=true) {i k:Nat} (hi:i<p.length) (hk:k<(zax p).length):0≤zcj p i k∧zcj p i k<zaw p:=by
 obtain ⟨row,hr,-⟩:=zaf hi
 obtain ⟨c,hc,hl⟩:=z2f hg hr hk
 rw [zc3 hr hc]
 have:=(zud p 0).2 i k row c hr hc
 simp only[zde,qB,decide_eq_true_eq]at hl
 unfold zaw
 omega
def orBit (ms:List Nat) (a b:Nat):List Nat:=ms.set a ((ms[a]?.getD 0) ||| 2 ^ b)
def justB (a:Nat) (ms:List Nat) (bs:List Int):List Nat:=bs.foldl (fun ms b=>orBit ms a b.toNat) ms
def justA (bs:List Int) (ms:List Nat) (la:List Int):List Nat:=la.foldl (fun ms a=>justB a.toNat ms bs) ms
def zcq (p:List Txt) (w:List Int):List Int × List Int :=
 match w with
 | [kind,line,fr,long]=>zdr p kind.toNat line.toNat fr.toNat long.toNat
 | _=>([],[])
def justW (p:List Txt) (kind:Int) (ms:List Nat) (w:List Int):List Nat :=
 if w[0]?.getD 0=kind then justA (zcq p w).2 ms (zcq p w).1 else ms
def just (p:List Txt) (kind:Int):List Nat:=(walls p).foldl (justW p kind) (List.replicate (zaw p).toNat 0)
def allA (c:Nat) (ms:List Nat) (a:Nat):List Nat:=if (ms[a]?.getD 0).testBit c then ms.set a ((ms[a]?.getD 0) ||| (ms[c]?.getD 0)) else ms
def ygt (n:Nat) (ms:List Nat) (c:Nat):List Nat:=(List.range n).foldl (allA c) ms
def zwn (p:List Txt) (kind:Int):List Nat:=(List.range (just p kind).length).foldl (ygt (just p kind).length) (just p kind)
def Msk (n:Nat) (ms:List Nat):Prop:=ms.length=n∧∀ m∈ms,m<512
theorem Msk.get {n:Nat} {ms:List Nat} (h:Msk n ms) (a:Nat):ms[a]?.getD 0<512:=by
 cases e:ms[a]? with
 | none=>simp
 | some m=>simpa using h.2 m (List.mem_of_getElem? e)
theorem z2p {a b:Nat} (ha:a<512) (hb:b<512):a ||| b<512:=Nat.or_lt_two_pow (n:=9) ha hb
theorem Msk.set {n:Nat} {ms:List Nat} (h:Msk n ms) {a m:Nat} (hm:m<512):Msk n (ms.set a m):=by
 refine ⟨by simpa using h.1,fun x hx=>?_⟩
 rcases List.mem_or_eq_of_mem_set hx with h1 | rfl
 ·exact h.2 x h1
 exact hm
theorem Msk.orBit {n:Nat} {ms:List Nat} (h:Msk n ms) {a b:Nat} (hb:b<9):Msk n (orBit ms a b) :=
 h.set (z2p (h.get a) (Nat.pow_lt_pow_right (by omega) hb))
theorem Msk.justB {n:Nat} {a:Nat}:∀ {bs:List Int} {ms:List Nat},Msk n ms→(∀ b∈bs,b.toNat<9)→Msk n (justB a ms bs)
 | [],ms,h,_=>h
 | b::bs,ms,h,hb=>by
  show Msk n (Fw.justB a (Fw.orBit ms a b.toNat) bs)
  exact Msk.justB (h.orBit (hb b (by simp))) fun x hx=>hb x (by simp [hx])
theorem Msk.justA {n:Nat} {bs:List Int} (hb:∀ b∈bs,b.toNat<9):∀ {la:List Int} {ms:List Nat},Msk n ms→Msk n (justA bs ms la)
 | [],ms,h=>h
 | a::la,ms,h=>by
  show Msk n (Fw.justA bs (Fw.justB a.toNat ms bs) la)
  exact Msk.justA hb (h.justB hb)
theorem Msk.allA {n c a:Nat} {ms:List Nat} (h:Msk n ms):Msk n (allA c ms a):=by
 unfold Fw.allA
 split
 ·exact h.set (z2p (h.get a) (h.get c))
 exact h
theorem Msk.foldl {n:Nat} {α:Type} {f:List Nat→α→List Nat}:∀ {l:List α} {ms:List Nat},(∀ ms,Msk n ms→∀ a∈l,Msk n (f ms a))→Msk n ms→Msk n (l.foldl f ms)
 | [],ms,_,h=>h
 | a::l,ms,hf,h=>Msk.foldl (l:=l) (fun ms hm x hx=>hf ms hm x (by simp [hx])) (hf ms h a (by simp))
theorem zm2 {l:List Int} {x y:Int} (h:y∈zjc l x):y∈l∨y=x:=by
 unfold zjc at h
 split at h
 ·exact .inl h
 simpa using h
theorem zsa {p:List Txt} {kind line fr:Nat}:∀ n,
  (∀ x∈(zdr p kind line fr n).1,∃ j,j<n∧x=if kind=0 then zcj p (fr+j) (line - 1) else zcj p (line - 1) (fr+j)) ∧
  (∀ x∈(zdr p kind line fr n).2,∃ j,j<n∧x=if kind=0 then zcj p (fr+j) line else zcj p line (fr+j))
 | 0=>by simp [zdr]
 | n+1=>by
  obtain ⟨h1,h2⟩:=zsa (p:=p) (kind:=kind) (line:=line) (fr:=fr) n
  unfold zdr
  simp only
  split
  ·rename_i hk
   simp only[hk,if_true]at h1 h2 ⊢
   constructor
   ·intro x hx
    rcases zm2 hx with h | h
    ·obtain ⟨j,hj,e⟩:=h1 x h; exact ⟨j,by omega,e⟩
    exact ⟨n,by omega,h⟩
   intro x hx
   rcases zm2 hx with h | h
   ·obtain ⟨j,hj,e⟩:=h2 x h; exact ⟨j,by omega,e⟩
   exact ⟨n,by omega,h⟩
  rename_i hk
  simp only[hk,if_false]at h1 h2 ⊢
  constructor
  ·intro x hx
   rcases zm2 hx with h | h
   ·obtain ⟨j,hj,e⟩:=h1 x h; exact ⟨j,by omega,e⟩
   exact ⟨n,by omega,h⟩
  intro x hx
  rcases zm2 hx with h | h
  ·obtain ⟨j,hj,e⟩:=h2 x h; exact ⟨j,by omega,e⟩
  exact ⟨n,by omega,h⟩
theorem zpb {p:List Txt} (hg:zc1 p=true) {w:List Int} (hw:z1h p w) :
  (∀ x∈(zcq p w).1,0≤x∧x<zaw p)∧(∀ x∈(zcq p w).2,0≤x∧x<zaw p):=by
 obtain ⟨kind,line,fr,long,rfl,h1,h2,h3⟩:=hw
 simp only[zcq,Int.toNat_natCast]
 obtain ⟨m1,m2⟩:=zsa (p:=p) (kind:=kind) (line:=line) (fr:=fr) long
 refine ⟨fun x hx=>?_,fun x hx=>?_⟩
 ·obtain ⟨j,hj,rfl⟩:=m1 x hx
  rcases h3 with ⟨rfl,a,b,_⟩ | ⟨rfl,a,b,_⟩
  ·exact zpm hg (by omega) (by omega)
  exact zpm hg (by omega) (by omega)
 obtain ⟨j,hj,rfl⟩:=m2 x hx
 rcases h3 with ⟨rfl,a,b,_⟩ | ⟨rfl,a,b,_⟩
 ·exact zpm hg (by omega) (by omega)
 exact zpm hg (by omega) (by omega)
theorem Msk.justW {p:List Txt} (hg:zc1 p=true) (h9:zaw p≤9) {n:Nat} {ms:List Nat} (h:Msk n ms) {kind:Int} {w:List Int} (hw:z1h p w):Msk n (justW p kind ms w):=by
 unfold Fw.justW
 split
 ·exact Msk.justA (fun b hb=>by have:=(zpb hg hw).2 b hb; omega) h
 exact h
theorem zpw {p:List Txt} (hg:zc1 p=true) (h9:zaw p≤9) (kind:Int):Msk (zaw p).toNat (just p kind) :=
 Msk.foldl (fun _ hm _ hw=>hm.justW hg h9 (zwd hg hw)) ⟨by simp,fun m hm=>by rw [(List.mem_replicate.1 hm).2]; omega⟩
theorem zu0 {p:List Txt} (hg:zc1 p=true) (h9:zaw p≤9) (kind:Int):Msk (zaw p).toNat (zwn p kind) :=
 Msk.foldl (fun _ hm _ _=>Msk.foldl (fun _ hm _ _=>hm.allA) hm) (zpw hg h9 kind)
theorem w_or {a b:Nat} (ha:a<1048576) (hb:b<1048576):IntKind.i64.wrap ((BitVec.ofInt IntKind.i64.bits (a:Int) ||| BitVec.ofInt IntKind.i64.bits (b:Int)).toNat:Int)=((a ||| b:Nat):Int):=by
 have h1:(BitVec.ofInt 64 (a:Int)).toNat=a:=by simp [BitVec.toNat_ofInt]; omega
 have h2:(BitVec.ofInt 64 (b:Int)).toNat=b:=by simp [BitVec.toNat_ofInt]; omega
 have h3:(BitVec.ofInt IntKind.i64.bits (a:Int) ||| BitVec.ofInt IntKind.i64.bits (b:Int)).toNat=a ||| b:=by
  show (BitVec.ofInt 64 (a:Int) ||| BitVec.ofInt 64 (b:Int)).toNat=_
  rw [BitVec.toNat_or,h1,h2]
 have h4:a ||| b<1048576:=Nat.or_lt_two_pow (n:=20) ha hb
 rw [h3]
 exact w64 (by omega) (by omega)
theorem yja {b:Nat} (hb:b<20):IntKind.i64.wrap (1*2 ^ (min b IntKind.i64.bits))=((2 ^ b:Nat):Int):=by
 have h1:min b IntKind.i64.bits=b:=by simp [IntKind.bits]; omega
 have h2:(2:Nat) ^ b<2 ^ 20:=Nat.pow_lt_pow_right (by omega) hb
 rw [h1,Int.one_mul,show (2:Int) ^ b=((2 ^ b:Nat):Int) by simp]
 generalize (2:Nat) ^ b=x at h2 ⊢
 exact w64 (by omega) (by omega)
theorem z52 {m c:Nat} (hm:m<1048576) (hc:c<64):(IntKind.i64.wrap ((BitVec.ofInt IntKind.i64.bits ((m:Int).fdiv (2 ^ (min c IntKind.i64.bits))) &&& BitVec.ofInt IntKind.i64.bits 1).toNat:Int) == 1)=m.testBit c:=by
 have h1:min c IntKind.i64.bits=c:=by simp [IntKind.bits]; omega
 have h2:(m:Int).fdiv (2 ^ c)=((m / 2 ^ c:Nat):Int):=by
  rw [show (2:Int) ^ c=((2 ^ c:Nat):Int) by simp,Int.fdiv_eq_ediv_of_nonneg _ (Int.natCast_nonneg _)]
  norm_cast
 have h3:m / 2 ^ c≤m:=Nat.div_le_self _ _
 have h4:(BitVec.ofInt 64 ((m / 2 ^ c:Nat):Int)).toNat=m / 2 ^ c:=by
  generalize m / 2 ^ c=x at h3 ⊢
  simp [BitVec.toNat_ofInt]; omega
 have h5:(BitVec.ofInt IntKind.i64.bits ((m / 2 ^ c:Nat):Int) &&& BitVec.ofInt IntKind.i64.bits 1).toNat=(m / 2 ^ c) % 2:=by
  show (BitVec.ofInt 64 ((m / 2 ^ c:Nat):Int) &&& BitVec.ofInt 64 1).toNat=_
  rw [BitVec.toNat_and,h4]
  show m / 2 ^ c &&& 1=_
  exact Nat.and_one_is_mod _
 rw [h1,h2,h5,w64 (by omega) (by omega),Nat.testBit_eq_decide_div_mod_eq]
 by_cases h:m / 2 ^ c % 2=1
 ·simp [h]
 have:m / 2 ^ c % 2=0:=by omega
 simp [this]
abbrev zz6 (l:List Nat):PV := .sl (l.map fun m:Nat=>PV.int .i64 m) l.length
theorem zvu:∀ (n:Nat),repz [PV.int .i64 0] n=(List.replicate n 0).map fun m:Nat=>PV.int .i64 m
 | 0=>rfl
 | n+1=>by rw [zhe,zvu n,List.replicate_succ]; rfl
theorem ybb {S:Store} {im:Bool} {k:Nat} (l:List Nat):(l.map fun m:Nat=>PV.int .i64 m).mapM (reify S im (k+1))=some (l.map fun m:Nat=>PV.int .i64 m) :=
 zbm fun x hx=>by obtain ⟨a,_,rfl⟩:=List.mem_map.1 hx; rfl
theorem yhz {S:Store} {im:Bool} {k:Nat} (l:List Nat):(l.map fun m:Nat=>PV.int .i64 m).mapM (sh S im (k+1))=some (l.map fun m:Nat=>PV.int .i64 m) :=
 zbm fun x hx=>by obtain ⟨a,_,rfl⟩:=List.mem_map.1 hx; rfl
theorem zv3 {S:Store} {im:Bool} {k:Nat} {q:IntKind} (l:List Int):(l.map (PV.int q)).mapM (sh S im (k+1))=some (l.map (PV.int q)) :=
 zbm fun x hx=>by obtain ⟨a,_,rfl⟩:=List.mem_map.1 hx; rfl
theorem z9r {S:Store} {im:Bool} {k:Nat} (l:List (List UInt8)):(l.map PV.str).mapM (sh S im (k+1))=some (l.map PV.str) :=
 zbm fun x hx=>by obtain ⟨a,_,rfl⟩:=List.mem_map.1 hx; rfl
theorem zzb {S:Store} {im:Bool} {v et n:Nat} {cells:List PV} {R:List Ob} (hS:S.obs = .arr v et 1 cells::R) (hc:cells.mapM (sh (S.take 1) im 10)=some cells) :
  ∃ k,sh (S.take k) im 10 (.loc 0 v 0 n)=some (.loc 0 0 0 n)∧zf5 (S.take k) im (S.take k).obs=some [.arr 0 et 1 cells]:=by
 refine ⟨1,?_,?_⟩
 ·simp [sh,Store.take,hS]
 have e:(S.take 1).obs=[.arr v et 1 cells]:=by simp [Store.take,hS]
 rw [e]
 simp [zf5,zy9,hc]
theorem ze4 {α β:Type} {f:β→α→β} {z:β} {l:List α} {i:Nat} {a:α} (h:l[i]?=some a):(l.take (i+1)).foldl f z=f ((l.take i).foldl f z) a:=by
 simp [tk h,List.foldl_append]
theorem Msk.at_ {n:Nat} {ms:List Nat} (h:Msk n ms) {a:Nat} (ha:a<n):∃ m,ms[a]?=some m∧m<512:=by
 obtain ⟨m,hm,h2⟩:=zaf (show a<ms.length by rw [h.1]; exact ha)
 exact ⟨m,hm,h.2 m h2⟩
theorem zdv {a b:Int} (h:a≤b):(a≤b)=True:=eq_true h
theorem z8v {b:Nat} (h:b<9):2 ^ b<512:=Nat.pow_lt_pow_right (a:=2) (n:=9) (by omega) h
theorem pShl {k:IntKind} {a:Int} {b:Nat}:zld .shl k a (b:Int)=some (.int k (k.wrap (a*2 ^ (min b k.bits)))):=by
 simp [zld,show ¬ ((b:Int)<0) by omega]
theorem ygl {k:IntKind} {a:Int} {b:Nat}:zld .shr k a (b:Int)=some (.int k (a.fdiv (2 ^ (min b k.bits)))):=by
 simp [zld,show ¬ ((b:Int)<0) by omega]
theorem z5r {p:List Txt} (hg:zc1 p=true) {w:List Int} (hw:z1h p w):(zcq p w).1.length≤6∧(zcq p w).2.length≤6:=by
 have hsm:=zcr hg
 obtain ⟨row0,hrow0,hrm0⟩:=zaf hsm.1
 have hhd:=zc4 hrow0
 have hw6:=hsm.2.2 row0 hrm0
 obtain ⟨kind,line,fr,long,rfl,h1,h2,h3⟩:=hw
 have h4:=zl2 (p:=p) (kind:=kind) (line:=line) (fr:=fr) long
 simp only[zcq,Int.toNat_natCast]
 rw [hhd]at h3
 omega
theorem z2o {ms:List Nat} {a b m:Nat} (h:ms[a]?=some m):orBit ms a b=ms.set a (m ||| 2 ^ b):=by simp [orBit,h]
theorem zbo {α:Type} {f:α→PV} {l:List α} {a:Nat} {v:PV} (h:a<l.length):(l.map f).take a++[v]++(l.map f).drop (a+1)=(l.map f).set a v:=by
 rw [List.set_eq_take_append_cons_drop,if_pos (by simpa using h)]; simp
theorem z9q {l:List Nat} {a m:Nat}:(l.map fun m:Nat=>PV.int .i64 m).set a (.int .i64 (m:Int))=(l.set a m).map fun m:Nat=>PV.int .i64 m:=by
 rw [List.map_set]
theorem zdq {l:List Int} {q:IntKind} {a:Nat} {m:Int}:(l.map (PV.int q)).set a (.int q m)=(l.set a m).map (PV.int q):=by
 rw [List.map_set]
theorem zco {β:Type} {f:β→Nat→β} {z:β} {i:Nat}:(List.range (i+1)).foldl f z=f ((List.range i).foldl f z) i:=by
 simp [qS,List.foldl_append]
theorem z1j {ms:List Nat} {c a m k:Nat} (h:ms[a]?=some m) (hc:ms[c]?=some k) (hb:m.testBit c=true):allA c ms a=ms.set a (m ||| k):=by simp [allA,h,hc,hb]
theorem z6d {ms:List Nat} {c a m:Nat} (h:ms[a]?=some m) (hb:m.testBit c=false):allA c ms a=ms:=by simp [allA,h,hb]
theorem z4t {p:List Txt} (hs:Sm p) (hg:zc1 p=true):PC Tryz.prog 184 [zan p] (.sl ((walls p).map eInts) (walls p).length) false:=by
 have hp:=hs.rows
 have hsm:=zcr hg
 obtain ⟨row0,hrow0,hrm0⟩:=zaf hsm.1
 have hhd:=zc4 hrow0
 have hw6:=hsm.2.2 row0 hrm0
 have hw1:=zhf hg hrow0
 have hwl:=zzp hg
 simp only[walls,List.length_append,List.length_map]at hwl
 refine PC.of ⟨Tryz.func184,by kernel_rfl,rfl,by kernel_rfl⟩ zao mixed (by show 1≤Tryz.f184.ntmps; decide) ?_
 refine W.r fun K hK=>?_
 simp(disch:=omega)only[↓RU,RV,RH,↓reduceIte,qE,reduceCtorEq,if_pos,↓RS,RG,qA,qM,qL]
 apply hK;clear hK K
 refine W.r fun K hK=>?_
 simp(disch:=omega)only[↓RU,RV,RH,↓reduceIte,qE,reduceCtorEq,if_pos,↓RS,RG,qA,qM,qL,ty1,zab,zaa]
 apply hK;clear hK K
 refine W.r fun K hK=>?_
 simp(disch:=omega)only[↓RU,RV,RH,↓reduceIte,qE,reduceCtorEq,if_pos,qN,↓RS,RG,qA,qM,qL]
 refine zad.pc (zoz hs hg) rfl (.inr rfl) ?_
 simp(disch:=omega)only[↓RU,RV,RH,↓reduceIte,qE,reduceCtorEq,if_pos,qN,↓RS,RG,qA,qM,qL]
 apply hK;clear hK K
 refine W.seq ?_
 refine W.r fun K hK=>?_
 simp(disch:=omega)only[↓RU,RV,RH,↓reduceIte,qE,reduceCtorEq,if_pos,↓RS,RG,qA,qM,qL]
 apply hK;clear hK K
 refine W.block ?_
 refine W.loopZ [0,3,4,5] (fun n vs S=>∃ i v0 tk:Nat,n=(uprights p).length - i∧i≤(uprights p).length∧vs=[zan p,.loc 0 v0 0 (zhz p i).length,.sl ((uprights p).map eInts) (uprights p).length,.int .i64 i]∧S=⟨[.arr v0 34 1 ((zhz p i).map eInts)],tk⟩) ((uprights p).length) ?_ ?_
 ·refine ⟨1,[zan p,.loc 0 0 0 (zhz p 0).length,.sl ((uprights p).map eInts) (uprights p).length,.int .i64 0],⟨[.arr 0 34 1 ((zhz p 0).map eInts)],1⟩,?_,?_,0,0,1,rfl,by omega,rfl,rfl⟩
  ·rfl
  rfl
 rintro n vs S - ⟨i,v0,tk,rfl,h_i,rfl,rfl⟩
 refine W.seq ?_
 refine W.r fun K hK=>?_
 simp(disch:=omega)only[↓RU,RV,RH,↓reduceIte,qE,reduceCtorEq,if_pos,w64,↓RS,RG,qA,qM,qL,ty1,zab,zaa]
 apply hK;clear hK K
 refine W.cond rfl (fun h=>?_) (fun h=>?_)
 ·try simp only[RL]at h
  obtain ⟨u,hu,hum⟩:=zaf (show i<(uprights p).length by omega)
  have hu3:=zzo hum
  have htl:=zur h_i
  refine W.skip ?_
  refine xn ?_
  refine W.seq ?_
  refine W.block ?_
  refine W.k fun K hK=>?_
  simp(disch:=omega)only[↓RU,RV,RH,↓reduceIte,qE,reduceCtorEq,if_pos,↓RS,RG,qA,qM,qL,ty1,zab,zaa,hu,htl,hu3]
  apply hK;clear hK K
  refine XbN ?_
  refine xn ?_
  refine W.k fun K hK=>?_
  simp(disch:=omega)only[↓RU,RV,RH,↓reduceIte,qE,reduceCtorEq,if_pos,w64,↓RS,RG,qA,qM,qL,zaa]
  apply hK;clear hK K
  refine xn ?_
  refine ⟨(uprights p).length - (i+1),by omega,1,[zan p,.loc 0 (tk+3) 0 (zhz p (i+1)).length,.sl ((uprights p).map eInts) (uprights p).length,.int .i64 (i+1)],⟨[.arr (tk+3) 34 1 ((zhz p (i+1)).map eInts)],(tk+4)⟩,?_,?_,(i+1),tk+3,tk+4,rfl,by omega,rfl,rfl⟩
  ·simp [-qU,Store.frz,zcd,zcz,zau,zbi,zbf,zbs,zcm,za8,za5,za9,zat,zav,zbv,zba,zbt,za7,Env.put,Env.of,zae,zbu,qP,qC,hu3,zk2,zsd hu,htl]
  simp [-qU,Store.frz,zcd,zcz,zau,zbi,zbf,zbs,zcm,za8,za5,za9,zat,zav,zbv,zba,zbt,za7,Env.put,Env.of,zae,zbu,qP,qC,hu3,zk2,zsd hu,htl]
 try simp only[RL]at h
 obtain rfl:i=(uprights p).length:=by omega
 refine W.exit ?_
 refine xe ?_
 refine xe ?_
 refine XBlock.hit ?_
 refine xn ?_
 refine W.r fun K hK=>?_
 simp(disch:=omega)only[↓RU,RV,RH,↓reduceIte,qE,reduceCtorEq,if_pos,qN,↓RS,RG,qA,qM,qL]
 refine zad.pc (z4q hs hg) rfl (.inl rfl) ?_
 simp(disch:=omega)only[↓RU,RV,RH,↓reduceIte,qE,reduceCtorEq,if_pos,qN,↓RS,RG,qA,qM,qL]
 refine zad.pc (zoz (Sm.grid (zuo hg)) (zuo hg)) rfl (.inr rfl) ?_
 simp(disch:=omega)only[↓RU,RV,RH,↓reduceIte,qE,reduceCtorEq,if_pos,qN,↓RS,RG,qA,qM,qL]
 apply hK;clear hK K
 refine W.seq ?_
 refine W.r fun K hK=>?_
 simp(disch:=omega)only[↓RU,RV,RH,↓reduceIte,qE,reduceCtorEq,if_pos,↓RS,RG,qA,qM,qL]
 apply hK;clear hK K
 refine W.block ?_
 refine W.loopZ [0,3,6,7] (fun n vs S=>∃ j v0 tk:Nat,n=(uprights (zdf p)).length - j∧j≤(uprights (zdf p)).length∧vs=[zan p,.loc 0 v0 0 (zhl p j).length,.sl ((uprights (zdf p)).map eInts) (uprights (zdf p)).length,.int .i64 j]∧S=⟨[.arr v0 34 1 ((zhl p j).map eInts)],tk⟩) ((uprights (zdf p)).length) ?_ ?_
 ·refine ⟨1,[zan p,.loc 0 v0 0 (zhl p 0).length,.sl ((uprights (zdf p)).map eInts) (uprights (zdf p)).length,.int .i64 0],⟨[.arr v0 34 1 ((zhl p 0).map eInts)],tk⟩,?_,?_,0,v0,tk,rfl,by omega,rfl,rfl⟩
  ·simp [-qU,Store.frz,zcd,zcz,zau,zbi,zbf,zbs,zcm,za8,za5,za9,zat,zav,zbv,zba,zbt,za7,Env.put,Env.of,zae,zbu,qP,qC] <;> simp [zsf]
  simp [-qU,Store.frz,zcd,zcz,zau,zbi,zbf,zbs,zcm,za8,za5,za9,zat,zav,zbv,zba,zbt,za7,Env.put,Env.of,zae,zbu,qP,qC] <;> simp [zsf]
 rintro n vs S - ⟨j,v0,tk,rfl,h_j,rfl,rfl⟩
 refine W.seq ?_
 refine W.r fun K hK=>?_
 simp(disch:=omega)only[↓RU,RV,RH,↓reduceIte,qE,reduceCtorEq,if_pos,w64,↓RS,RG,qA,qM,qL,ty1,zab,zaa]
 apply hK;clear hK K
 refine W.cond rfl (fun h2=>?_) (fun h2=>?_)
 ·try simp only[RL]at h2
  obtain ⟨u,hu,hum⟩:=zaf (show j<(uprights (zdf p)).length by omega)
  have hu3:=zzo hum
  have htl:=z55 h_j
  refine W.skip ?_
  refine xn ?_
  refine W.seq ?_
  refine W.block ?_
  refine W.k fun K hK=>?_
  simp(disch:=omega)only[↓RU,RV,RH,↓reduceIte,qE,reduceCtorEq,if_pos,↓RS,RG,qA,qM,qL,ty1,zab,zaa,hu,htl,hu3]
  apply hK;clear hK K
  refine XbN ?_
  refine xn ?_
  refine W.k fun K hK=>?_
  simp(disch:=omega)only[↓RU,RV,RH,↓reduceIte,qE,reduceCtorEq,if_pos,w64,↓RS,RG,qA,qM,qL,zaa]
  apply hK;clear hK K
  refine xn ?_
  refine ⟨(uprights (zdf p)).length - (j+1),by omega,1,[zan p,.loc 0 (tk+3) 0 (zhl p (j+1)).length,.sl ((uprights (zdf p)).map eInts) (uprights (zdf p)).length,.int .i64 (j+1)],⟨[.arr (tk+3) 34 1 ((zhl p (j+1)).map eInts)],(tk+4)⟩,?_,?_,(j+1),tk+3,tk+4,rfl,by omega,rfl,rfl⟩
  ·simp [-qU,Store.frz,zcd,zcz,zau,zbi,zbf,zbs,zcm,za8,za5,za9,zat,zav,zbv,zba,zbt,za7,Env.put,Env.of,zae,zbu,qP,qC,hu3,zk2,zse hu,htl]
  simp [-qU,Store.frz,zcd,zcz,zau,zbi,zbf,zbs,zcm,za8,za5,za9,zat,zav,zbv,zba,zbt,za7,Env.put,Env.of,zae,zbu,qP,qC,hu3,zk2,zse hu,htl]
 try simp only[RL]at h2
 obtain rfl:j=(uprights (zdf p)).length:=by omega
 refine W.exit ?_
 refine xe ?_
 refine xe ?_
 refine XBlock.hit ?_
 refine xn ?_
 refine W.r fun K hK=>?_
 simp(disch:=omega)only[↓RU,RV,RH,↓reduceIte,qE,reduceCtorEq,if_pos,↓RS,RG,qA,qM,qL]
 apply hK;clear hK K
 refine W.ret ?_
 refine Br rfl ?_
 rw [z54]
 exact zb5 (k:=9) rfl (by simp) (zn3 _)
theorem z7v {p:List Txt} (hs:Sm p) (hg:zc1 p=true) (h9:zaw p≤9) (kind:Int):PN Tryz.prog 164 [zan p,.int .i64 kind] (.loc 0 0 0 (just p kind).length) [.arr 0 3 1 ((just p kind).map fun m:Nat=>PV.int .i64 m)] false:=by
 have hrb:=zdw p
 have hwl:=zzp hg
 obtain ⟨R,hR⟩:∃ R:Nat,zaw p=R:=⟨(zaw p).toNat,by omega⟩
 refine PN.of ⟨Tryz.func164,by kernel_rfl,rfl,by kernel_rfl⟩ zao mixed (by show 2≤Tryz.f164.ntmps; decide) ?_
 refine W.r fun K hK=>?_
 simp(disch:=omega)only[↓RU,RV,RH,↓reduceIte,qE,reduceCtorEq,if_pos,↓RS,RG,qA,qM,qL]
 apply hK;clear hK K
 refine W.r fun K hK=>?_
 simp(disch:=omega)only[↓RU,RV,RH,↓reduceIte,qE,reduceCtorEq,if_pos,qN,↓RS,RG,qA,qM,qL,zab,zaa,hR,zvu,zdv]
 refine zad.pc (zep hs) rfl (.inl rfl) ?_
 simp(disch:=omega)only[↓RU,RV,RH,↓reduceIte,qE,reduceCtorEq,if_pos,qN,↓RS,RG,qA,qM,qL,zab,zaa,hR,zvu,zdv]
 apply hK;clear hK K
 refine W.r fun K hK=>?_
 simp(disch:=omega)only[↓RU,RV,RH,↓reduceIte,qE,reduceCtorEq,if_pos,qN,↓RS,RG,qA,qM,qL]
 refine zad.pc (z4t hs hg) rfl (.inr rfl) ?_
 simp(disch:=omega)only[↓RU,RV,RH,↓reduceIte,qE,reduceCtorEq,if_pos,qN,↓RS,RG,qA,qM,qL]
 apply hK;clear hK K
 refine W.seq ?_
 refine W.r fun K hK=>?_
 simp(disch:=omega)only[↓RU,RV,RH,↓reduceIte,qE,reduceCtorEq,if_pos,↓RS,RG,qA,qM,qL]
 apply hK;clear hK K
 refine W.block ?_
 refine W.loop [0,1,5,6,7] (fun n vs S=>∃ i:Nat,n=(walls p).length - i∧i≤(walls p).length∧vs=[zan p,.int .i64 kind,.loc 0 0 0 (zaw p).toNat,.sl ((walls p).map eInts) (walls p).length,.int .i64 i]∧S=⟨[.arr 0 3 1 ((((walls p).take i).foldl (justW p kind) (List.replicate (zaw p).toNat 0)).map fun m:Nat=>PV.int .i64 m)],1⟩) ((walls p).length) ?_ ?_
 ·refine ⟨1,0,rfl,Nat.zero_le _,?_,by simp [hR,zay,Env.put,Env.of,zae]⟩
  simp [Env.put,Env.of,zae,hR]
 rintro n vs S - ⟨i,rfl,h_i,rfl,rfl⟩
 refine W.seq ?_
 refine W.r fun K hK=>?_
 simp(disch:=omega)only[↓RU,RV,RH,↓reduceIte,qE,reduceCtorEq,if_pos,w64,↓RS,RG,qA,qM,qL,ty1,zab,zaa]
 apply hK;clear hK K
 refine W.cond rfl (fun h=>?_) (fun h=>?_)
 ·try simp only[RL]at h
  obtain ⟨w,hw,hwm⟩:=zaf (show i<(walls p).length by omega)
  have hok:=zwd hg hwm
  have hsr:=zpb hg hok
  have hsl:=z5r hg hok
  obtain ⟨wk,wl,wf,wg,hwe,hw1,hw2,hw3⟩:=hok
  have hM:Msk (zaw p).toNat (((walls p).take i).foldl (justW p kind) (List.replicate (zaw p).toNat 0)):=Msk.foldl (fun _ hm _ hw=>hm.justW hg h9 (zwd hg (List.mem_of_mem_take hw))) ⟨by simp,fun m hm=>by rw [(List.mem_replicate.1 hm).2]; omega⟩
  generalize hMe:((walls p).take i).foldl (justW p kind) (List.replicate (zaw p).toNat 0)=M at hM
  refine W.skip ?_
  refine xn ?_
  refine W.seq ?_
  refine W.block ?_
  refine W.seq ?_
  refine W.r fun K hK=>?_
  simp(disch:=omega)only[↓RU,RV,RH,↓reduceIte,qE,reduceCtorEq,if_pos,w64,↓RS,RG,qA,qM,qL,ty1,zab,zaa,hw,hwe,hMe]
  apply hK;clear hK K
  refine W.cond rfl (fun h1=>?_) (fun h1=>?_)
  ·try simp only[RL]at h1
   have hjs:justW p kind M w=M:=by simp [justW,hwe,h1]
   refine W.exit ?_
   refine xe ?_
   refine XBlock.hit ?_
   refine xn ?_
   refine W.k fun K hK=>?_
   simp(disch:=omega)only[↓RU,RV,RH,↓reduceIte,qE,reduceCtorEq,if_pos,w64,↓RS,RG,qA,qM,qL,zaa]
   apply hK;clear hK K
   refine xn ?_
   refine ⟨(walls p).length - (i+1),by omega,1,i+1,rfl,by omega,?_,?_⟩
   ·simp [Env.put,Env.of]
   simp only[zay,ze4 hw,hMe,hjs]; rfl
  try simp only[RL]at h1
  have hjs:justW p kind M w=justA (zcq p w).2 M (zcq p w).1:=by simp [justW,hwe,h1]
  refine W.skip ?_
  refine xn ?_
  refine W.r fun K hK=>?_
  simp(disch:=omega)only[↓RU,RV,RH,↓reduceIte,qE,reduceCtorEq,if_pos,qN,↓RS,RG,qA,qM,qL,ty1,zab,zaa,hw,hwe]
  refine zad.pc (z4s hs hg (kind:=wk) (line:=wl) (fr:=wf) (long:=wg) hw1 (fun h=>by omega) (fun h=>by omega)) rfl (.inl rfl) ?_
  simp(disch:=omega)only[↓RU,RV,RH,↓reduceIte,qE,reduceCtorEq,if_pos,qN,↓RS,RG,qA,qM,qL,ty1,zab,zaa,hw,hwe]
  apply hK;clear hK K
  have hA:zdr p wk wl wf wg=zcq p w:=by simp [zcq,hwe]
  rw [hA]
  refine W.r fun K hK=>?_
  simp(disch:=omega)only[↓RU,RV,RH,↓reduceIte,qE,reduceCtorEq,if_pos,↓RS,RG,qA,qM,qL]
  apply hK;clear hK K
  refine W.block ?_
  refine W.loop [0,1,5,6,7,8,9,10] (fun n vs S=>∃ x:Nat,n=(zcq p w).1.length - x∧x≤(zcq p w).1.length∧vs=[zan p,.int .i64 kind,.loc 0 0 0 (zaw p).toNat,.sl ((walls p).map eInts) (walls p).length,.int .i64 i,eInts (zcq p w).1,eInts (zcq p w).2,.int .i64 x]∧S=⟨[.arr 0 3 1 ((((zcq p w).1.take x).foldl (fun ms a=>justB a.toNat ms (zcq p w).2) M).map fun m:Nat=>PV.int .i64 m)],1⟩) ((zcq p w).1.length) ?_ ?_
  ·refine ⟨1,0,rfl,Nat.zero_le _,?_,by simp [zay]⟩
   simp [Env.put,Env.of]
  rintro n vs S - ⟨x,rfl,h_x,rfl,rfl⟩
  refine W.seq ?_
  refine W.r fun K hK=>?_
  simp(disch:=omega)only[↓RU,RV,RH,↓reduceIte,qE,reduceCtorEq,if_pos,w64,↓RS,RG,qA,qM,qL,zab,zaa]
  apply hK;clear hK K
  refine W.cond rfl (fun h2=>?_) (fun h2=>?_)
  ·try simp only[RL]at h2
   obtain ⟨a,ha,ham⟩:=zaf (show x<(zcq p w).1.length by omega)
   have hab:=hsr.1 a ham
   obtain ⟨a,rfl⟩:∃ a2:Nat,a=a2:=⟨a.toNat,by omega⟩
   have hX:Msk (zaw p).toNat (((zcq p w).1.take x).foldl (fun ms a=>justB a.toNat ms (zcq p w).2) M):=Msk.foldl (fun _ hm _ _=>hm.justB fun b hb=>by have:=hsr.2 b hb; omega) hM
   generalize hXe:((zcq p w).1.take x).foldl (fun ms a=>justB a.toNat ms (zcq p w).2) M=X at hX
   refine W.skip ?_
   refine xn ?_
   refine W.seq ?_
   refine W.block ?_
   refine W.r fun K hK=>?_
   simp(disch:=omega)only[↓RU,RV,RH,↓reduceIte,qE,reduceCtorEq,if_pos,↓RS,RG,qA,qM,qL]
   apply hK;clear hK K
   refine W.block ?_
   refine W.loop [0,1,5,6,7,8,9,10,11] (fun n vs S=>∃ y:Nat,n=(zcq p w).2.length - y∧y≤(zcq p w).2.length∧vs=[zan p,.int .i64 kind,.loc 0 0 0 (zaw p).toNat,.sl ((walls p).map eInts) (walls p).length,.int .i64 i,eInts (zcq p w).1,eInts (zcq p w).2,.int .i64 x,.int .i64 y]∧S=⟨[.arr 0 3 1 ((((zcq p w).2.take y).foldl (fun ms b=>orBit ms a b.toNat) X).map fun m:Nat=>PV.int .i64 m)],1⟩) ((zcq p w).2.length) ?_ ?_
   ·refine ⟨1,0,rfl,Nat.zero_le _,?_,by simp [zay,hXe]⟩
    simp [Env.put,Env.of]
   rintro n vs S - ⟨y,rfl,h_y,rfl,rfl⟩
   refine W.seq ?_
   refine W.r fun K hK=>?_
   simp(disch:=omega)only[↓RU,RV,RH,↓reduceIte,qE,reduceCtorEq,if_pos,w64,↓RS,RG,qA,qM,qL,zab,zaa]
   apply hK;clear hK K
   refine W.cond rfl (fun h3=>?_) (fun h3=>?_)
   ·try simp only[RL]at h3
    obtain ⟨b,hb,hbm⟩:=zaf (show y<(zcq p w).2.length by omega)
    have hbb:=hsr.2 b hbm
    obtain ⟨b,rfl⟩:∃ b2:Nat,b=b2:=⟨b.toNat,by omega⟩
    have hY:Msk (zaw p).toNat (((zcq p w).2.take y).foldl (fun ms b=>orBit ms a b.toNat) X):=Msk.foldl (fun _ hm b hb=>hm.orBit (by have:=hsr.2 b (List.mem_of_mem_take hb); omega)) hX
    generalize hYe:((zcq p w).2.take y).foldl (fun ms b=>orBit ms a b.toNat) X=Y at hY
    obtain ⟨m,hm,hm5⟩:=hY.at_ (show a<(zaw p).toNat by omega)
    have hYl:=hY.1
    have hp2:=z8v (show b<9 by omega)
    refine W.skip ?_
    refine xn ?_
    refine W.seq ?_
    refine W.block ?_
    refine W.draw_k (by kernel_rfl) fun K hK=>?_
    simp(disch:=omega)only[↓RU,RV,RH,↓reduceIte,qE,reduceCtorEq,if_pos,w64,↓RS,RG,qA,qM,qL,zab,zaa,ha,hb,hm,pShl,yja,w_or,hYl,zbo,z9q]
    apply hK;clear hK K
    refine XbN ?_
    refine xn ?_
    refine W.k fun K hK=>?_
    simp(disch:=omega)only[↓RU,RV,RH,↓reduceIte,qE,reduceCtorEq,if_pos,w64,↓RS,RG,qA,qM,qL,zaa]
    apply hK;clear hK K
    refine xn ?_
    refine ⟨(zcq p w).2.length - (y+1),by omega,1,y+1,rfl,by omega,?_,?_⟩
    ·simp [Env.put,Env.of]
    simp only[zay,ze4 hb,hYe,Int.toNat_natCast,z2o hm]; rfl
   try simp only[RL]at h3
   obtain rfl:y=(zcq p w).2.length:=by omega
   rw [List.take_length]
   refine W.exit ?_
   refine xe ?_
   refine xe ?_
   refine XBlock.hit ?_
   refine XbN ?_
   refine xn ?_
   refine W.k fun K hK=>?_
   simp(disch:=omega)only[↓RU,RV,RH,↓reduceIte,qE,reduceCtorEq,if_pos,w64,↓RS,RG,qA,qM,qL,zaa]
   apply hK;clear hK K
   refine xn ?_
   refine ⟨(zcq p w).1.length - (x+1),by omega,1,x+1,rfl,by omega,?_,?_⟩
   ·simp [Env.put,Env.of]
   simp only[zay,ze4 ha,hXe,Int.toNat_natCast]; rfl
  try simp only[RL]at h2
  obtain rfl:x=(zcq p w).1.length:=by omega
  rw [List.take_length]
  refine W.exit ?_
  refine xe ?_
  refine xe ?_
  refine XBlock.hit ?_
  refine XbN ?_
  refine xn ?_
  refine W.k fun K hK=>?_
  simp(disch:=omega)only[↓RU,RV,RH,↓reduceIte,qE,reduceCtorEq,if_pos,w64,↓RS,RG,qA,qM,qL,zaa]
  apply hK;clear hK K
  refine xn ?_
  refine ⟨(walls p).length - (i+1),by omega,1,i+1,rfl,by omega,?_,?_⟩
  ·simp [Env.put,Env.of]
  simp only[zay,ze4 hw,hMe,hjs]; rfl
 try simp only[RL]at h
 obtain rfl:i=(walls p).length:=by omega
 rw [List.take_length]
 refine W.exit ?_
 refine xe ?_
 refine xe ?_
 refine XBlock.hit ?_
 refine xn ?_
 refine W.r fun K hK=>?_
 simp(disch:=omega)only[↓RU,RV,RH,↓reduceIte,qE,reduceCtorEq,if_pos,↓RS,RG,qA,qM,qL]
 apply hK;clear hK K
 refine W.ret ?_
 refine Br rfl ?_
 have hjl:=(zpw hg h9 kind).1
 rw [just]at hjl ⊢
 rw [hjl]
 exact zzb rfl (yhz _)
theorem z2h {p:List Txt} (hs:Sm p) (hg:zc1 p=true) (h9:zaw p≤9) (kind:Int):PC Tryz.prog 136 [zan p,.int .i64 kind] (zz6 (zwn p kind)) true:=by
 have hrb:=zdw p
 have hJ:=zpw hg h9 kind
 obtain ⟨nr,hn⟩:∃ nr:Nat,(just p kind).length=nr:=⟨_,rfl⟩
 have hn9:nr≤9:=by have:=hJ.1; omega
 rw [← hJ.1,hn]at hJ
 refine PC.of ⟨Tryz.func136,by kernel_rfl,rfl,by kernel_rfl⟩ zao mixed (by show 2≤Tryz.f136.ntmps; decide) ?_
 refine W.r fun K hK=>?_
 simp(disch:=omega)only[↓RU,RV,RH,↓reduceIte,qE,reduceCtorEq,if_pos,↓RS,RG,qA,qM,qL]
 apply hK;clear hK K
 refine W.r fun K hK=>?_
 simp(disch:=omega)only[↓RU,RV,RH,↓reduceIte,qE,reduceCtorEq,if_pos,qN,↓RS,RG,qA,qM,qL]
 refine zad.pn (z7v hs hg h9 kind) rfl (.inl rfl) ?_
 simp(disch:=omega)only[↓RU,RV,RH,↓reduceIte,qE,reduceCtorEq,if_pos,qN,↓RS,RG,qA,qM,qL,RN]
 apply hK;clear hK K
 refine W.seq ?_
 refine W.r fun K hK=>?_
 simp(disch:=omega)only[↓RU,RV,RH,↓reduceIte,qE,reduceCtorEq,if_pos,↓RS,RG,qA,qM,qL]
 apply hK;clear hK K
 refine W.block ?_
 refine W.loop [0,1,5,6] (fun n vs S=>∃ c:Nat,n=nr - c∧c≤nr∧vs=[zan p,.int .i64 kind,.loc 0 0 0 nr,.int .i64 c]∧S=⟨[.arr 0 3 1 (((List.range c).foldl (ygt nr) (just p kind)).map fun m:Nat=>PV.int .i64 m)],1⟩) (nr) ?_ ?_
 ·refine ⟨1,0,rfl,Nat.zero_le _,?_,by simp [zay,Env.put,Env.of,zae,z50,z09]⟩
  simp [Env.put,Env.of,zae,hn]
 rintro n vs S - ⟨c,rfl,h_c,rfl,rfl⟩
 refine W.seq ?_
 refine W.r fun K hK=>?_
 simp(disch:=omega)only[↓RU,RV,RH,↓reduceIte,qE,reduceCtorEq,if_pos,w64,↓RS,RG,qA,qM,qL,zab,zaa]
 apply hK;clear hK K
 refine W.cond rfl (fun h=>?_) (fun h=>?_)
 ·try simp only[RL]at h
  have hX:Msk nr ((List.range c).foldl (ygt nr) (just p kind)):=Msk.foldl (fun _ hm _ _=>Msk.foldl (fun _ hm _ _=>hm.allA) hm) hJ
  generalize hXe:(List.range c).foldl (ygt nr) (just p kind)=X at hX
  refine W.skip ?_
  refine xn ?_
  refine W.seq ?_
  refine W.block ?_
  refine W.r fun K hK=>?_
  simp(disch:=omega)only[↓RU,RV,RH,↓reduceIte,qE,reduceCtorEq,if_pos,↓RS,RG,qA,qM,qL]
  apply hK;clear hK K
  refine W.block ?_
  refine W.loop [0,1,5,6,7] (fun n vs S=>∃ a:Nat,n=nr - a∧a≤nr∧vs=[zan p,.int .i64 kind,.loc 0 0 0 nr,.int .i64 c,.int .i64 a]∧S=⟨[.arr 0 3 1 (((List.range a).foldl (allA c) X).map fun m:Nat=>PV.int .i64 m)],1⟩) (nr) ?_ ?_
  ·refine ⟨1,0,rfl,Nat.zero_le _,?_,by simp [zay,hXe]⟩
   simp [Env.put,Env.of]
  rintro n vs S - ⟨a,rfl,h_a,rfl,rfl⟩
  refine W.seq ?_
  refine W.r fun K hK=>?_
  simp(disch:=omega)only[↓RU,RV,RH,↓reduceIte,qE,reduceCtorEq,if_pos,w64,↓RS,RG,qA,qM,qL,zab,zaa]
  apply hK;clear hK K
  refine W.cond rfl (fun h1=>?_) (fun h1=>?_)
  ·try simp only[RL]at h1
   have hY:Msk nr ((List.range a).foldl (allA c) X):=Msk.foldl (fun _ hm _ _=>hm.allA) hX
   generalize hYe:(List.range a).foldl (allA c) X=Y at hY
   obtain ⟨m,hm,hm5⟩:=hY.at_ (show a<nr by omega)
   obtain ⟨k,hk,hk5⟩:=hY.at_ (show c<nr by omega)
   have hYl:=hY.1
   refine W.skip ?_
   refine xn ?_
   refine W.seq ?_
   refine W.block ?_
   refine W.r fun K hK=>?_
   simp(disch:=omega)only[↓RU,RV,RH,↓reduceIte,qE,reduceCtorEq,if_pos,w64,↓RS,RG,qA,qM,qL,zab,zaa,hYe,hm,ygl,z52]
   apply hK;clear hK K
   refine W.cond rfl (fun h2=>?_) (fun h2=>?_)
   ·try simp only[RL]at h2
    refine W.draw_k (by kernel_rfl) fun K hK=>?_
    simp(disch:=omega)only[↓RU,RV,RH,↓reduceIte,qE,reduceCtorEq,if_pos,w64,↓RS,RG,qA,qM,qL,zab,zaa,hm,hk,w_or,zbo,z9q,hYl]
    apply hK;clear hK K
    refine XbN ?_
    refine xn ?_
    refine W.k fun K hK=>?_
    simp(disch:=omega)only[↓RU,RV,RH,↓reduceIte,qE,reduceCtorEq,if_pos,w64,↓RS,RG,qA,qM,qL,zaa]
    apply hK;clear hK K
    refine xn ?_
    refine ⟨nr - (a+1),by omega,1,a+1,rfl,by omega,?_,?_⟩
    ·simp [Env.put,Env.of]
    simp only[zay,zco,hYe,z1j hm hk h2]; rfl
   try simp only[RL]at h2
   refine W.skip ?_
   refine XbN ?_
   refine xn ?_
   refine W.k fun K hK=>?_
   simp(disch:=omega)only[↓RU,RV,RH,↓reduceIte,qE,reduceCtorEq,if_pos,w64,↓RS,RG,qA,qM,qL,zaa]
   apply hK;clear hK K
   refine xn ?_
   refine ⟨nr - (a+1),by omega,1,a+1,rfl,by omega,?_,?_⟩
   ·simp [Env.put,Env.of]
   simp only[zay,zco,hYe,z6d hm h2]; rfl
  try simp only[RL]at h1
  obtain rfl:a=nr:=by omega
  refine W.exit ?_
  refine xe ?_
  refine xe ?_
  refine XBlock.hit ?_
  refine XbN ?_
  refine xn ?_
  refine W.k fun K hK=>?_
  simp(disch:=omega)only[↓RU,RV,RH,↓reduceIte,qE,reduceCtorEq,if_pos,w64,↓RS,RG,qA,qM,qL,zaa]
  apply hK;clear hK K
  refine xn ?_
  refine ⟨a - (c+1),by omega,1,c+1,rfl,by omega,?_,?_⟩
  ·simp [Env.put,Env.of]
  simp only[zay,zco,hXe]; rfl
 try simp only[RL]at h
 obtain rfl:c=nr:=by omega
 refine W.exit ?_
 refine xe ?_
 refine xe ?_
 refine XBlock.hit ?_
 refine xn ?_
 refine W.r fun K hK=>?_
 simp(disch:=omega)only[↓RU,RV,RH,↓reduceIte,qE,reduceCtorEq,if_pos,↓RS,RG,qA,qM,qL]
 apply hK;clear hK K
 refine W.ret ?_
 refine Br rfl ?_
 have hal:(zwn p kind).length=c:=by have:=(zu0 hg h9 kind).1; have h2:=(zpw hg h9 kind).1; omega
 rw [show (List.range c).foldl (ygt c) (just p kind)=zwn p kind by rw [zwn,hn]]
 rw [← hal]
 exact zb5 (k:=9) rfl (by simp) (ybb _)
def Bnd (n:Nat) (M:Int) (l:List Int):Prop:=l.length=n∧∀ x∈l,0≤x∧x≤M
theorem Bnd.at_ {n:Nat} {M:Int} {l:List Int} (h:Bnd n M l) {a:Nat} (ha:a<n):∃ x,l[a]?=some x∧0≤x∧x≤M:=by
 obtain ⟨x,hx,hm⟩:=zaf (show a<l.length by rw [h.1]; exact ha)
 exact ⟨x,hx,h.2 x hm⟩
theorem Bnd.up {n:Nat} {M M':Int} {l:List Int} (h:Bnd n M l) (hM:M≤M'):Bnd n M' l:=⟨h.1,fun x hx=>by have:=h.2 x hx; omega⟩
theorem Bnd.set {n:Nat} {M:Int} {l:List Int} (h:Bnd n M l) {a:Nat} {x:Int} (h0:0≤x) (hx:x≤M):Bnd n M (l.set a x):=by
 refine ⟨by simpa using h.1,fun y hy=>?_⟩
 rcases List.mem_or_eq_of_mem_set hy with h1 | rfl
 ·exact h.2 y h1
 exact ⟨h0,hx⟩
theorem Bnd.zero {n:Nat}:Bnd n 0 (List.replicate n 0):=⟨by simp,fun x hx=>by rw [(List.mem_replicate.1 hx).2]; omega⟩
def zoy (l:List Int) (a:Nat):Int:=l[a]?.getD 0
theorem z7k {l:List Int} {a:Nat} {x:Int} (h:l[a]?=some x):zoy l a=x:=by simp [zoy,h]
def zqg (ms:List Nat) (a b:Nat):Bool:=(ms[a]?.getD 0).testBit b
theorem zin {ms:List Nat} {a b m:Nat} (h:ms[a]?=some m):zqg ms a b=m.testBit b:=by simp [zqg,h]
def plB (sets:List Nat) (needs:List Int) (a:Nat) (out:List Int) (b:Nat):List Int :=
 if zqg sets a b then out.set b (max (zoy out b) (zoy out a+zoy needs a)) else out
def plA (sets:List Nat) (needs:List Int) (out:List Int) (a:Nat):List Int:=(List.range needs.length).foldl (plB sets needs a) out
def plN (sets:List Nat) (needs:List Int) (out:List Int) (_:Nat):List Int:=(List.range needs.length).foldl (plA sets needs) out
def places (sets:List Nat) (needs:List Int):List Int:=(List.range needs.length).foldl (plN sets needs) (List.replicate needs.length 0)
def least (sets:List Nat) (needs:List Int):Int:=(List.range needs.length).foldl (fun m a=>max m (zoy (places sets needs) a+zoy needs a)) 0
theorem zel:∀ (n:Nat),repz [PV.int .i64 0] n=(List.replicate n 0).map (PV.int .i64)
 | 0=>rfl
 | n+1=>by rw [zhe,zel n,List.replicate_succ]; rfl
theorem zi0:∀ (n:Nat),repz [PV.str []] n=(List.replicate n []).map PV.str
 | 0=>rfl
 | n+1=>by rw [zhe,zi0 n,List.replicate_succ]; rfl
theorem zl0 {l:List Txt} {a:Nat} {m:Txt}:(l.map PV.str).set a (.str m)=(l.set a m).map PV.str:=by
 rw [List.map_set]
theorem zwx {α:Type} {l:List α} {z:α} {i:Nat} {a:α} (h:l[i]?=some a):((l.take i)++List.replicate (l.length - i) z).set i a=(l.take (i+1))++List.replicate (l.length - (i+1)) z:=by
 have hi:=zbd h
 apply List.ext_getElem?
 intro j
 rw [List.getElem?_set]
 by_cases hj:i=j
 ·subst hj
  have e1:i<(l.take i++List.replicate (l.length - i) z).length:=by simp; omega
  rw [if_pos rfl,if_pos e1,tk h,List.append_assoc,List.getElem?_append_right (by simp; omega)]
  simp [Nat.min_eq_left (Nat.le_of_lt hi)]
 rw [if_neg hj]
 by_cases hlt:j<i
 ·rw [List.getElem?_append_left (by simp; omega),List.getElem?_append_left (by simp; omega)]
  simp [List.getElem?_take,hlt,show j<i+1 by omega]
 rw [List.getElem?_append_right (by simp; omega),List.getElem?_append_right (by simp; omega)]
 simp only[List.length_take,Nat.min_eq_left (Nat.le_of_lt hi),Nat.min_eq_left (show i+1≤l.length by omega),List.getElem?_replicate]
 have:(j - i<l.length - i)=(j - (i+1)<l.length - (i+1)):=by apply propext; omega
 simp [this]
def yf7:List Txt→Nat
 | []=>0
 | r::p=>r.length+yf7 p
def sz (p:List Txt) (left:Int):Int:=if (p.length+yf7 p:Nat)≤left then left - (p.length+yf7 p:Nat) else -1
theorem zgh {α:Type} {p q:List α} {i:Nat} {x y:α} (h:p.take i=q.take i) (hx:p[i]?=some x) (hy:q[i]?=some y) (e:x=y):p.take (i+1)=q.take (i+1):=by
 rw [tk hx,tk hy,h,e]
section
abbrev zeu (g:List (List Int)):PV := .sl (g.map eInts) g.length
structure Rect where
 row:Int
 col:Int
 high:Int
 wide:Int
 deriving DecidableEq
def Rect.cells (r:Rect):List PV:=[.int .i64 r.row,.int .i64 r.col,.int .i64 r.high,.int .i64 r.wide]
abbrev zu6 (r:Rect):PV := .agg r.cells
def rcs (rs:List Rect):List PV:=rs.flatMap Rect.cells
abbrev yc3 (rs:List Rect):PV := .sl (rcs rs) rs.length
abbrev zb3 (g:List (List Int)) (rs:List Rect):PV := .ip [zeu g,yc3 rs] 0
theorem zch (rs:List Rect):(rcs rs).length=rs.length*4:=by
 induction rs with
 | nil=>rfl
 | cons r rs ih=>simp only[rcs,List.flatMap_cons,List.length_append,List.length_cons]at ih ⊢; rw [ih]; simp [Rect.cells]; omega
theorem zvr (rs ss:List Rect):rcs (rs++ss)=rcs rs++rcs ss:=by simp [rcs]
theorem zm4 (r:Rect) (rs:List Rect):rcs (r::rs)=r.cells++rcs rs:=rfl
theorem ybu (rs:List Rect) (n:Nat):(rcs rs).take (n*4)=rcs (rs.take n):=by
 induction rs generalizing n with
 | nil=>simp [rcs]
 | cons r rs ih =>
  cases n with
  | zero=>simp [rcs]
  | succ n =>
   rw [zm4,List.take_succ_cons,zm4,← ih n]
   rw [show (n+1)*4=r.cells.length+n*4 by simp [Rect.cells]; omega,List.take_length_add_append]
theorem z3b (rs:List Rect) (n:Nat):(rcs rs).drop (n*4)=rcs (rs.drop n):=by
 induction rs generalizing n with
 | nil=>simp [rcs]
 | cons r rs ih =>
  cases n with
  | zero=>simp
  | succ n =>
   rw [zm4,List.drop_succ_cons,← ih n]
   rw [show (n+1)*4=r.cells.length+n*4 by simp [Rect.cells]; omega,List.drop_length_add_append]
theorem zm3 {rs:List Rect} {n:Nat} {r:Rect} (h:rs[n]?=some r):((rcs rs).drop (n*4)).take 4=r.cells:=by
 rw [z3b]
 have:rs.drop n=r::rs.drop (n+1):=by
  obtain ⟨hn,rfl⟩:=List.getElem?_eq_some_iff.1 h
  exact List.drop_eq_getElem_cons hn
 rw [this,zm4]
 simp [Rect.cells]
theorem yfm {rs:List Rect} {n:Nat} {r:Rect} (h:n<rs.length):(rcs rs).take (n*4)++r.cells++(rcs rs).drop (n*4+4)=rcs (rs.set n r):=by
 rw [ybu,show n*4+4=(n+1)*4 by omega,z3b,show r.cells=rcs [r] by simp [rcs],← zvr,← zvr]
 congr 1
 rw [List.set_eq_take_append_cons_drop,if_pos h]
 simp
def ixf {α:Type} (test:α→Bool) (l:List α):Int :=
 match l.findIdx? test with
 | some i=>i
 | none => -1
theorem ydh {α:Type} {test:α→Bool} {l:List α} {i:Nat} {x:α} (h:l[i]?=some x) (hall:(l.take i).any test=false) (hx:test x=true):ixf test l=i:=by
 have:l.findIdx? test=some i:=by
  obtain ⟨hi,rfl⟩:=List.getElem?_eq_some_iff.1 h
  rw [List.findIdx?_eq_some_iff_getElem]
  refine ⟨hi,hx,fun j hj=>?_⟩
  rw [List.any_eq_false]at hall
  have:=hall l[j] (by rw [List.mem_take_iff_getElem]; exact ⟨j,by omega,rfl⟩)
  simpa using this
 simp [ixf,this]
theorem zvc {α:Type} {test:α→Bool} {l:List α} (hall:l.any test=false):ixf test l = -1:=by
 have:l.findIdx? test=none:=by
  rw [List.findIdx?_eq_none_iff]
  intro x hx
  rw [List.any_eq_false]at hall
  simpa using hall x hx
 simp [ixf,this]
theorem ye1 {α:Type} {test:α→Bool} {l:List α}:decide (0≤ixf test l)=l.any test:=by
 cases h:l.any test with
 | false=>rw [zvc h]; rfl
 | true =>
  unfold ixf
  cases hi:l.findIdx? test with
  | none =>
   rw [List.findIdx?_eq_none_iff]at hi
   rw [List.any_eq_true]at h
   obtain ⟨x,hx,hx2⟩:=h
   rw [hi x hx]at hx2; cases hx2
  | some i=>simp
theorem ycw {α:Type} {f:α→Bool} {l:List α} {i:Nat} {a:α} (h:l[i]?=some a) (h1:(l.take i).any f=false) (h2:f a=false):(l.take (i+1)).any f=false:=by
 rw [tk h,List.any_append,h1]; simp [h2]
def Rect.both (b o:Rect):Rect:=⟨min b.row o.row,min b.col o.col,max (b.row+b.high) (o.row+o.high) - min b.row o.row,max (b.col+b.wide) (o.col+o.wide) - min b.col o.col⟩
def Rect.In (M:Int) (r:Rect):Prop:=0≤r.row∧r.row≤M∧0≤r.col∧r.col≤M∧0≤r.high∧r.high≤M∧0≤r.wide∧r.wide≤M
theorem ybx {S:Store} {im:Bool} {k:Nat} {g:FuncId} {cap:List PV}:reify S im (k+1) (.fn g cap)=(cap.mapM (reify S im k)).map (.fn g):=rfl
section
variable {S:Store} {k f lo:Nat} {sel:List Nat} {fr:Nat→Bool} {im:Bool}
theorem zby {q:IntKind} {n:Int}:rn S k sel (f+1) (.int q n)=some (.int q n):=rfl
theorem za2 {b:Bool}:rn S k sel (f+1) (.bool b)=some (.bool b):=rfl
theorem zb1 {b:Txt}:rn S k sel (f+1) (.str b)=some (.str b):=rfl
theorem zda {cs:List PV} {n:Nat}:rn S k sel (f+1) (.sl cs n)=some (.sl cs n):=rfl
theorem zc8 {cs:List PV} {n:Nat}:rn S k sel (f+1) (.ip cs n)=some (.ip cs n):=rfl
theorem za4:rn S k sel (f+1) .nils=some .nils:=rfl
theorem za3:rn S k sel (f+1) .nilp=some .nilp:=rfl
theorem zas:rn S k sel (f+1) .undef=some .undef:=rfl
theorem zbx {cs:List PV}:rn S k sel (f+1) (.agg cs)=(cs.mapM (rn S k sel f)).map .agg:=rfl
theorem zb2 {cs:List PV}:rn S k sel (f+1) (.tup cs)=(cs.mapM (rn S k sel f)).map .tup:=rfl
theorem zc7 {g:FuncId} {cs:List PV}:rn S k sel (f+1) (.fn g cs)=(cs.mapM (rn S k sel f)).map (.fn g):=rfl
theorem zbz {o ver off n:Nat}:rn S k sel (f+1) (.loc o ver off n)=(if o<k then some (.loc o ver off n) else
   if sel.contains o then (match S.obs[o]? with | some (.arr v _ _ _)=>if v=ver then some (.loc (k+sel.idxOf o) S.tick off n) else none | _=>none)
   else rfq S (ze9 k sel) 10 (.loc o ver off n)):=rfl
theorem zb0 {o ver off:Nat}:rn S k sel (f+1) (.ref o ver off)=(if o<k then some (.ref o ver off) else
   if sel.contains o then (match S.obs[o]? with | some (.arr v _ _ _)=>if v=ver then some (.ref (k+sel.idxOf o) S.tick off) else none | _=>none)
   else rfq S (ze9 k sel) 10 (.ref o ver off)):=rfl
theorem zc9 {o ver:Nat}:rn S k sel (f+1) (.mp o ver)=(if o<k then some (.mp o ver) else
   if sel.contains o then (match S.obs[o]? with | some (.map v _)=>if v=ver then some (.mp (k+sel.idxOf o) S.tick) else none | _=>none)
   else none):=rfl
theorem za0 {o ver off n:Nat}:rfq S fr (f+1) (.loc o ver off n)=(match S.obs[o]? with
   | some (.arr v _ sz cells)=>if fr o=true∧v=ver∧off+n*sz≤cells.length then (((cells.drop off).take (n*sz)).mapM (rfq S fr f)).map (.sl · n) else none
   | _=>none):=rfl
theorem zaz {q:IntKind} {n:Int}:rfq S fr (f+1) (.int q n)=some (.int q n):=rfl
theorem zaq {b:Bool}:rfq S fr (f+1) (.bool b)=some (.bool b):=rfl
theorem za1 {b:Txt}:rfq S fr (f+1) (.str b)=some (.str b):=rfl
theorem zbw {cs:List PV} {n:Nat}:rfq S fr (f+1) (.sl cs n)=some (.sl cs n):=rfl
theorem zaj {old:Bool}:zpi S k sel old []=some []:=rfl
theorem zag {old:Bool} {o:Nat} {r:List Nat}:zpi S k sel old (o::r)=((S.obs[o]?).bind (z3f S k sel old)).bind fun a=>(zpi S k sel old r).map (a :: ·):=rfl
theorem zap {old:Bool} {ver et sz:Nat} {cells:List PV}:z3f S k sel old (.arr ver et sz cells)=(cells.mapM (rn S k sel 10)).map (.arr (if old then ver else S.tick) et sz ·):=rfl
theorem zar {old:Bool} {ver:Nat} {es:List (PV × PV)}:z3f S k sel old (.map ver es)=(es.mapM fun q=>(rn S k sel 10 q.1).bind fun a=>(rn S k sel 10 q.2).map fun b=>(a,b)).map (.map (if old then ver else S.tick) ·):=rfl
theorem zbq:S.rn k sel=(if sel.all (fun o=>decide (k≤o)) && decide sel.Nodup && decide (k≤S.obs.length) then
  (zpi S k sel true (List.range k)).bind fun a=>(zpi S k sel false sel).map fun b=>⟨a++b,S.tick+1⟩
 else none):=rfl
def scal:PV→Bool
 | .int _ _ | .bool _ | .str _=>true
 | _=>false
theorem zvw {l:List PV} (h:l.all scal=true):l.mapM (rn S k sel (f+1))=some l:=by
 rw [List.all_eq_true]at h
 exact zbm fun x hx=>by have:=h x hx; cases x <;> simp [scal]at this <;> rfl
theorem zoc {l:List PV} (h:l.all scal=true):l.mapM (reify S im (f+1))=some l:=by
 rw [List.all_eq_true]at h
 exact zbm fun x hx=>by have:=h x hx; cases x <;> simp [scal]at this <;> rfl
theorem yfy {l:List PV} (h:l.all scal=true):l.mapM (sh S im (f+1))=some l:=by
 rw [List.all_eq_true]at h
 exact zbm fun x hx=>by have:=h x hx; cases x <;> simp [scal]at this <;> rfl
theorem z3m (rs:List Rect):(rcs rs).all scal=true:=by
 induction rs with
 | nil=>rfl
 | cons r rs ih=>rw [zm4,List.all_append,ih]; rfl
end
end
theorem zqx (g:List (List Int)) (rs:List Rect):PC Tryz.prog 48 [zb3 g rs] (.int .i64 g.length) true:=by
 refine PC.of ⟨Tryz.func48,by kernel_rfl,rfl,by kernel_rfl⟩ zao mixed (by show 1≤Tryz.f48.ntmps; decide) ?_
 refine W.r fun K hK=>?_
 simp(disch:=omega)only[↓RU,RV,RH,↓reduceIte,qE,reduceCtorEq,if_pos,↓RS,RG,qA,qM,qL]
 apply hK;clear hK K
 refine W.r fun K hK=>?_
 simp(disch:=omega)only[↓RU,RV,RH,↓reduceIte,qE,reduceCtorEq,if_pos,↓RS,RG,qA,qM,qL,ty1,ty4,zab,zdz,zb7,zc5,zaa,zd0,zc6]
 apply hK;clear hK K
 refine W.ret ?_
 refine Br rfl ?_
 rfl
theorem z1e {g:List (List Int)} {row:List Int} (h:g[0]?=some row) (rs:List Rect):PC Tryz.prog 49 [zb3 g rs] (.int .i64 row.length) true:=by
 have hl:=zbd h
 refine PC.of ⟨Tryz.func49,by kernel_rfl,rfl,by kernel_rfl⟩ zao mixed (by show 1≤Tryz.f49.ntmps; decide) ?_
 refine W.r fun K hK=>?_
 simp(disch:=omega)only[↓RU,RV,RH,↓reduceIte,qE,reduceCtorEq,if_pos,↓RS,RG,qA,qM,qL]
 apply hK;clear hK K
 refine W.r fun K hK=>?_
 simp(disch:=omega)only[↓RU,RV,RH,↓reduceIte,qE,reduceCtorEq,if_pos,↓RS,RG,qA,qM,qL,ty1,ty4,zab,zdz,zb7,zc5,zaa,zd0,zc6,h,Int.toNat_zero,Nat.zero_mul,qZ]
 apply hK;clear hK K
 refine W.ret ?_
 refine Br rfl ?_
 rfl
theorem yeb {r:Rect} (h1:0≤r.high*r.wide) (h2:r.high*r.wide≤1048576):PC Tryz.prog 145 [zu6 r] (.int .i64 (r.high*r.wide)) true:=by
 simp only[zu6,Rect.cells]
 refine PC.of ⟨Tryz.func145,by kernel_rfl,rfl,by kernel_rfl⟩ zao mixed (by show 1≤Tryz.f145.ntmps; decide) ?_
 refine W.r fun K hK=>?_
 simp(disch:=omega)only[↓RU,RV,RH,↓reduceIte,qE,reduceCtorEq,if_pos,↓RS,RG,qA,qM,qL,zc5,zaa,zc6]
 apply hK;clear hK K
 refine W.r fun K hK=>?_
 simp(disch:=omega)only[↓RU,RV,RH,↓reduceIte,qE,reduceCtorEq,if_pos,w64,↓RS,RG,qA,qM,qL,zc5,zaa,zc6]
 apply hK;clear hK K
 refine W.ret ?_
 refine Br rfl ?_
 rfl
theorem zzv {b o:Rect} (hb:b.In 1000) (ho:o.In 1000):PC Tryz.prog 128 [zu6 b,zu6 o] (zu6 (b.both o)) true:=by
 unfold Rect.In at hb ho
 simp only[zu6,Rect.cells,Rect.both]
 refine PC.of ⟨Tryz.func128,by kernel_rfl,rfl,by kernel_rfl⟩ zao mixed (by show 2≤Tryz.f128.ntmps; decide) ?_
 refine W.r fun K hK=>?_
 simp(disch:=omega)only[↓RU,RV,RH,↓reduceIte,qE,reduceCtorEq,if_pos,↓RS,RG,qA,qM,qL,zc5,zaa,zc6]
 apply hK;clear hK K
 refine W.seq_draw (by kernel_rfl) fun K hK=>?_
 simp(disch:=omega)only[↓RU,RV,RH,↓reduceIte,qE,reduceCtorEq,if_pos,zvb,↓RS,RG,qA,qM,qL,zc5,zaa,zc6]
 apply hK;clear hK K
 refine W.r fun K hK=>?_
 simp(disch:=omega)only[↓RU,RV,RH,↓reduceIte,qE,reduceCtorEq,if_pos,w64,zn2,↓RS,RG,qA,qM,qL,zc5,zaa,zc6]
 apply hK;clear hK K
 refine W.ret ?_
 refine Br rfl ?_
 rfl
theorem z01 (row:List Int) (w:Int) (hr:row.length<2147483648):PC Tryz.prog 143 [eInts row,.ip [.int .i64 w] 0] (.bool (decide ((row.length:Int)≠w))) true:=by
 refine PC.of ⟨Tryz.func143,by kernel_rfl,rfl,by kernel_rfl⟩ zao mixed (by show 2≤Tryz.f143.ntmps; decide) ?_
 refine W.r fun K hK=>?_
 simp(disch:=omega)only[↓RU,RV,RH,↓reduceIte,qE,reduceCtorEq,if_pos,↓RS,RG,qA,qM,qL]
 apply hK;clear hK K
 refine W.r fun K hK=>?_
 simp(disch:=omega)only[↓RU,RV,RH,↓reduceIte,qE,reduceCtorEq,if_pos,w64,↓RS,RG,qA,qM,qL,zab,zaa]
 apply hK;clear hK K
 refine W.ret ?_
 refine Br rfl ?_
 rw [show decide ((row.length:Int)≠w)=((row.length:Int) != w) by rw [zu2]; simp]
 rfl
theorem ye0 {l:List Int} (hl:l.length<2147483648) {g:FuncId} {cap:List PV} (hc:cap.mapM (reify ⟨[],0⟩ true 10)=some cap) {test:Int→Bool} (hg:∀ x∈l,PC Tryz.prog g (.int .i64 x::cap) (.bool (test x)) true):PC Tryz.prog 183 [eInts l,.fn g cap] (.int .i64 (ixf test l)) true:=by
 refine PC.of ⟨Tryz.func183,by kernel_rfl,rfl,by kernel_rfl⟩ zao mixed (by show 2≤Tryz.f183.ntmps; decide) ?_
 refine W.r fun K hK=>?_
 simp(disch:=omega)only[↓RU,RV,RH,↓reduceIte,qE,reduceCtorEq,if_pos]
 apply hK;clear hK K
 refine W.seq ?_
 refine W.r fun K hK=>?_
 simp(disch:=omega)only[↓RU,RV,RH,↓reduceIte,qE,reduceCtorEq,if_pos,zab,zaa]
 apply hK;clear hK K
 refine W.block ?_
 refine W.loop [0,1,6,7,8] (fun n vs S=>∃ i:Nat,n=l.length - i∧i≤l.length∧((l.take i).any test=false)∧vs=[eInts l,.fn g cap,eInts l,.int .i64 l.length,.int .i64 i]∧S=⟨[],0⟩) (l.length) ?_ ?_
 ·refine ⟨0,0,rfl,Nat.zero_le _,rfl,?_,rfl⟩
  simp [Env.put,Env.of,zae]
 rintro n vs S - ⟨i,rfl,h_i,hall,rfl,rfl⟩
 refine W.r fun K hK=>?_
 simp(disch:=omega)only[↓RU,RV,RH,↓reduceIte,qE,reduceCtorEq,if_pos,w64,zaa]
 apply hK;clear hK K
 refine W.seq ?_
 refine W.cond rfl (fun h=>?_) (fun h=>?_)
 ·try simp only[RL]at h
  obtain ⟨x,hx,hxm⟩:=zaf (show i<l.length by omega)
  refine W.skip ?_
  refine xn ?_
  refine W.seq ?_
  refine W.block ?_
  refine W.r fun K hK=>?_
  simp(disch:=omega)only[↓RU,RV,RH,↓reduceIte,qE,reduceCtorEq,if_pos]
  apply hK;clear hK K
  refine W.r fun K hK=>?_
  simp(disch:=omega)only[↓RU,RV,RH,↓reduceIte,qE,reduceCtorEq,if_pos,qN,zab,zaa,hx]
  refine zad.pc (hg x hxm) (zcw rfl hc) (.inl rfl) ?_
  simp(disch:=omega)only[↓RU,RV,RH,↓reduceIte,qE,reduceCtorEq,if_pos,qN,zab,zaa,hx]
  apply hK;clear hK K
  refine W.cond rfl (fun h1=>?_) (fun h1=>?_)
  ·try simp only[RL]at h1
   refine W.r fun K hK=>?_
   simp(disch:=omega)only[↓RU,RV,RH,↓reduceIte,qE,reduceCtorEq,if_pos]
   apply hK;clear hK K
   refine W.ret ?_
   refine XBlock.ret ?_
   refine XThen.ret ?_
   refine XThen.ret ?_
   refine XBlock.ret ?_
   refine XThen.ret ?_
   refine Br rfl ?_
   rw [ydh hx hall h1]
   rfl
  try simp only[RL]at h1
  refine W.skip ?_
  refine XbN ?_
  refine xn ?_
  refine W.k fun K hK=>?_
  simp(disch:=omega)only[↓RU,RV,RH,↓reduceIte,qE,reduceCtorEq,if_pos,w64,zaa]
  apply hK;clear hK K
  refine xn ?_
  refine ⟨l.length - (i+1),by omega,0,i+1,rfl,by omega,ycw hx (by assumption) h1,?_,rfl⟩
  simp [Env.put,Env.of]
 try simp only[RL]at h
 refine W.exit ?_
 refine xe ?_
 refine xe ?_
 refine XBlock.hit ?_
 refine xn ?_
 refine W.r fun K hK=>?_
 simp(disch:=omega)only[↓RU,RV,RH,↓reduceIte,qE,reduceCtorEq,if_pos]
 apply hK;clear hK K
 refine W.ret ?_
 refine Br rfl ?_
 have hip:l.take i=l:=qT (by omega)
 rw [hip]at hall
 rw [zvc hall]
 rfl
theorem zlq {l:List (List Int)} (hl:l.length<2147483648) {g:FuncId} {cap:List PV} (hc:cap.mapM (reify ⟨[],0⟩ true 10)=some cap) {test:(List Int)→Bool} (hg:∀ x∈l,PC Tryz.prog g (eInts x::cap) (.bool (test x)) true):PC Tryz.prog 106 [zeu l,.fn g cap] (.int .i64 (ixf test l)) true:=by
 refine PC.of ⟨Tryz.func106,by kernel_rfl,rfl,by kernel_rfl⟩ zao mixed (by show 2≤Tryz.f106.ntmps; decide) ?_
 refine W.r fun K hK=>?_
 simp(disch:=omega)only[↓RU,RV,RH,↓reduceIte,qE,reduceCtorEq,if_pos]
 apply hK;clear hK K
 refine W.seq ?_
 refine W.r fun K hK=>?_
 simp(disch:=omega)only[↓RU,RV,RH,↓reduceIte,qE,reduceCtorEq,if_pos,ty1,zab,zb7,zaa]
 apply hK;clear hK K
 refine W.block ?_
 refine W.loop [0,1,6,7,8] (fun n vs S=>∃ i:Nat,n=l.length - i∧i≤l.length∧((l.take i).any test=false)∧vs=[zeu l,.fn g cap,zeu l,.int .i64 l.length,.int .i64 i]∧S=⟨[],0⟩) (l.length) ?_ ?_
 ·refine ⟨0,0,rfl,Nat.zero_le _,rfl,?_,rfl⟩
  simp [Env.put,Env.of,zae]
 rintro n vs S - ⟨i,rfl,h_i,hall,rfl,rfl⟩
 refine W.r fun K hK=>?_
 simp(disch:=omega)only[↓RU,RV,RH,↓reduceIte,qE,reduceCtorEq,if_pos,w64,zaa]
 apply hK;clear hK K
 refine W.seq ?_
 refine W.cond rfl (fun h=>?_) (fun h=>?_)
 ·try simp only[RL]at h
  obtain ⟨x,hx,hxm⟩:=zaf (show i<l.length by omega)
  refine W.skip ?_
  refine xn ?_
  refine W.seq ?_
  refine W.block ?_
  refine W.r fun K hK=>?_
  simp(disch:=omega)only[↓RU,RV,RH,↓reduceIte,qE,reduceCtorEq,if_pos]
  apply hK;clear hK K
  refine W.r fun K hK=>?_
  simp(disch:=omega)only[↓RU,RV,RH,↓reduceIte,qE,reduceCtorEq,if_pos,qN,ty1,zab,zb7,zaa,hx]
  refine zad.pc (hg x hxm) (zcw rfl hc) (.inl rfl) ?_
  simp(disch:=omega)only[↓RU,RV,RH,↓reduceIte,qE,reduceCtorEq,if_pos,qN,ty1,zab,zb7,zaa,hx]
  apply hK;clear hK K
  refine W.cond rfl (fun h1=>?_) (fun h1=>?_)
  ·try simp only[RL]at h1
   refine W.r fun K hK=>?_
   simp(disch:=omega)only[↓RU,RV,RH,↓reduceIte,qE,reduceCtorEq,if_pos]
   apply hK;clear hK K
   refine W.ret ?_
   refine XBlock.ret ?_
   refine XThen.ret ?_
   refine XThen.ret ?_
   refine XBlock.ret ?_
   refine XThen.ret ?_
   refine Br rfl ?_
   rw [ydh hx hall h1]
   rfl
  try simp only[RL]at h1
  refine W.skip ?_
  refine XbN ?_
  refine xn ?_
  refine W.k fun K hK=>?_
  simp(disch:=omega)only[↓RU,RV,RH,↓reduceIte,qE,reduceCtorEq,if_pos,w64,zaa]
  apply hK;clear hK K
  refine xn ?_
  refine ⟨l.length - (i+1),by omega,0,i+1,rfl,by omega,ycw hx (by assumption) h1,?_,rfl⟩
  simp [Env.put,Env.of]
 try simp only[RL]at h
 refine W.exit ?_
 refine xe ?_
 refine xe ?_
 refine XBlock.hit ?_
 refine xn ?_
 refine W.r fun K hK=>?_
 simp(disch:=omega)only[↓RU,RV,RH,↓reduceIte,qE,reduceCtorEq,if_pos]
 apply hK;clear hK K
 refine W.ret ?_
 refine Br rfl ?_
 have hip:l.take i=l:=qT (by omega)
 rw [hip]at hall
 rw [zvc hall]
 rfl
theorem zsj {l:List (List Int)} (hl:l.length<2147483648) {g:FuncId} {cap:List PV} (hc9:cap.mapM (reify ⟨[],0⟩ true 9)=some cap) (hc:cap.mapM (reify ⟨[],0⟩ true 10)=some cap) {test:(List Int)→Bool} (hg:∀ x∈l,PC Tryz.prog g (eInts x::cap) (.bool (test x)) true):PC Tryz.prog 142 [zeu l,.fn g cap] (.bool (l.any test)) true:=by
 have hcr:[zeu l,.fn g cap].mapM (reify ⟨[],0⟩ true 10)=some [zeu l,.fn g cap]:=zcw rfl (zcw (by rw [ybx,hc9]; rfl) rfl)
 refine PC.of ⟨Tryz.func142,by kernel_rfl,rfl,by kernel_rfl⟩ zao mixed (by show 2≤Tryz.f142.ntmps; decide) ?_
 refine W.r fun K hK=>?_
 simp(disch:=omega)only[↓RU,RV,RH,↓reduceIte,qE,reduceCtorEq,if_pos]
 apply hK;clear hK K
 refine W.r fun K hK=>?_
 simp(disch:=omega)only[↓RU,RV,RH,↓reduceIte,qE,reduceCtorEq,if_pos,qN,w64,zaa]
 refine zad.pc (zlq hl hc hg) hcr (.inl rfl) ?_
 simp(disch:=omega)only[↓RU,RV,RH,↓reduceIte,qE,reduceCtorEq,if_pos,qN,w64,zaa]
 apply hK;clear hK K
 refine W.ret ?_
 refine Br rfl ?_
 rw [← ye1]
 rfl
theorem zxc {p q:List Txt} (hp:p.length<2147483648) (hq:q.length<2147483648):PC Tryz.prog 117 [zan p,zan q] (.bool (decide (p=q))) true:=by
 refine PC.of ⟨Tryz.func117,by kernel_rfl,rfl,by kernel_rfl⟩ zao mixed (by show 2≤Tryz.f117.ntmps; decide) ?_
 refine W.r fun K hK=>?_
 simp(disch:=omega)only[↓RU,RV,RH,↓reduceIte,qE,reduceCtorEq,if_pos]
 apply hK;clear hK K
 refine W.seq ?_
 refine W.r fun K hK=>?_
 simp(disch:=omega)only[↓RU,RV,RH,↓reduceIte,qE,reduceCtorEq,if_pos,w64,ty6,zaa,zac]
 apply hK;clear hK K
 refine W.cond rfl (fun h=>?_) (fun h=>?_)
 ·try simp only[RL]at h
  refine W.r fun K hK=>?_
  simp(disch:=omega)only[↓RU,RV,RH,↓reduceIte,qE,reduceCtorEq,if_pos]
  apply hK;clear hK K
  refine W.ret ?_
  refine XThen.ret ?_
  refine Br rfl ?_
  rw [show decide (p=q)=false by simp; rintro rfl; exact h rfl]
  rfl
 try simp only[RL]at h
 refine W.skip ?_
 refine xn ?_
 refine W.seq ?_
 refine W.r fun K hK=>?_
 simp(disch:=omega)only[↓RU,RV,RH,↓reduceIte,qE,reduceCtorEq,if_pos,ty6,zac]
 apply hK;clear hK K
 refine W.block ?_
 refine W.loop [0,1,11,12,13] (fun n vs S=>∃ i:Nat,n=p.length - i∧i≤p.length∧(p.take i=q.take i)∧vs=[zan p,zan q,zan p,.int .i64 p.length,.int .i64 i]∧S=⟨[],0⟩) (p.length) ?_ ?_
 ·refine ⟨0,0,rfl,Nat.zero_le _,rfl,?_,rfl⟩
  simp [Env.put,Env.of,zae]
 rintro n vs S - ⟨i,rfl,h_i,htk,rfl,rfl⟩
 refine W.r fun K hK=>?_
 simp(disch:=omega)only[↓RU,RV,RH,↓reduceIte,qE,reduceCtorEq,if_pos,w64,zaa]
 apply hK;clear hK K
 refine W.seq ?_
 refine W.cond rfl (fun h1=>?_) (fun h1=>?_)
 ·try simp only[RL]at h1
  obtain ⟨x,hx,-⟩:=zaf (show i<p.length by omega)
  obtain ⟨y,hy,-⟩:=zaf (show i<q.length by omega)
  refine W.skip ?_
  refine xn ?_
  refine W.seq ?_
  refine W.block ?_
  refine W.r fun K hK=>?_
  simp(disch:=omega)only[↓RU,RV,RH,↓reduceIte,qE,reduceCtorEq,if_pos]
  apply hK;clear hK K
  refine W.seq_draw (by kernel_rfl) fun K hK=>?_
  simp(disch:=omega)only[↓RU,RV,RH,↓reduceIte,qE,reduceCtorEq,if_pos,w64,ty6,zac,hx,hy]
  apply hK;clear hK K
  refine W.cond rfl (fun h2=>?_) (fun h2=>?_)
  ·try simp only[RL]at h2
   refine W.r fun K hK=>?_
   simp(disch:=omega)only[↓RU,RV,RH,↓reduceIte,qE,reduceCtorEq,if_pos]
   apply hK;clear hK K
   refine W.ret ?_
   refine XBlock.ret ?_
   refine XThen.ret ?_
   refine XThen.ret ?_
   refine XBlock.ret ?_
   refine XThen.ret ?_
   refine Br rfl ?_
   rw [show decide (p=q)=false by simp; rintro rfl; rw [hx]at hy; simp_all]
   rfl
  try simp only[RL]at h2
  refine W.skip ?_
  refine XbN ?_
  refine xn ?_
  refine W.k fun K hK=>?_
  simp(disch:=omega)only[↓RU,RV,RH,↓reduceIte,qE,reduceCtorEq,if_pos,w64,zaa]
  apply hK;clear hK K
  refine xn ?_
  refine ⟨p.length - (i+1),by omega,0,i+1,rfl,by omega,zgh htk hx hy h2,?_,rfl⟩
  simp [Env.put,Env.of]
 try simp only[RL]at h1
 refine W.exit ?_
 refine xe ?_
 refine xe ?_
 refine XBlock.hit ?_
 refine xn ?_
 refine W.r fun K hK=>?_
 simp(disch:=omega)only[↓RU,RV,RH,↓reduceIte,qE,reduceCtorEq,if_pos]
 apply hK;clear hK K
 refine W.ret ?_
 refine Br rfl ?_
 have h1:p.take i=p:=qT (by omega)
 have h2:q.take i=q:=qT (by omega)
 rw [show decide (p=q)=true by simp; rw [← h1,← h2]; exact htk]
 rfl
def GW (g:List (List Int)) (H W:Nat):Prop:=g.length=H∧(∀ r∈g,r.length=W)∧1≤H∧H≤6∧1≤W∧W≤6
def gz (g:List (List Int)) (i j:Nat):Int:=(g[i]?.getD [])[j]?.getD 0
theorem GW.at_ {g:List (List Int)} {H W:Nat} (h:GW g H W) {i j:Nat} (hi:i<H) (hj:j<W):∃ row,g[i]?=some row∧row.length=W∧row[j]?=some (gz g i j):=by
 obtain ⟨row,hr,hm⟩:=zaf (show i<g.length by rw [h.1]; exact hi)
 have hl:=h.2.1 row hm
 obtain ⟨x,hx,-⟩:=zaf (show j<row.length by omega)
 exact ⟨row,hr,hl,by simp [gz,hr,hx]⟩
def zcn (g:List (List Int)) (level:Bool) (line at_:Nat):Int × Int:=if level then (gz g (line - 1) at_,gz g line at_) else (gz g at_ (line - 1),gz g at_ line)
def InL (H W:Nat) (level:Bool) (line at_:Nat):Prop:=1≤line∧if level then line<H∧at_<W else line<W∧at_<H
structure Wall where
 level:Bool
 line:Int
 fr:Int
 long:Int
def Wall.cells (w:Wall):List PV:=[.bool w.level,.int .i64 w.line,.int .i64 w.fr,.int .i64 w.long]
abbrev yhd (w:Wall):PV := .agg w.cells
def wcs (ws:List Wall):List PV:=ws.flatMap Wall.cells
abbrev ztc (ws:List Wall):PV := .sl (wcs ws) ws.length
theorem zp6 (r:Wall) (rs:List Wall):wcs (r::rs)=r.cells++wcs rs:=rfl
theorem zwe (rs ss:List Wall):wcs (rs++ss)=wcs rs++wcs ss:=by simp [wcs]
theorem zi3 (rs:List Wall):(wcs rs).length=rs.length*4:=by
 induction rs with
 | nil=>rfl
 | cons r rs ih=>rw [zp6,List.length_append,ih,List.length_cons]; simp [Wall.cells]; omega
theorem yid {ws:List Wall} {n:Nat} {w:Wall} (h:ws[n]?=some w):((wcs ws).drop (n*4)).take 4=w.cells:=by
 induction ws generalizing n with
 | nil=>simp at h
 | cons a ws ih =>
  cases n with
  | zero=>simp at h; subst h; rw [zp6]; simp [Wall.cells]
  | succ n =>
   simp at h
   rw [zp6,show (n+1)*4=a.cells.length+n*4 by simp [Wall.cells]; omega,List.drop_length_add_append]
   exact ih h
def ze0 (d:Bool) (level:Bool) (line at_:Nat) (s:List Wall × Bool):List Wall × Bool :=
 if d && s.2 then (s.1.dropLast++(s.1.getLast?.map fun w=>{ w with long:=w.long+1 }).toList,d)
 else if d then (s.1++[⟨level,line,at_,1⟩],d) else (s.1,d)
def zll (g:List (List Int)) (level:Bool) (line at_:Nat):Bool:=decide ((zcn g level line at_).1≠(zcn g level line at_).2)
def zb6 (g:List (List Int)) (level:Bool) (line:Nat) (ws:List Wall) (n:Nat):List Wall × Bool :=
 (List.range n).foldl (fun s at_=>ze0 (zll g level line at_) level line at_ s) (ws,false)
def zcc (g:List (List Int)) (level:Bool) (places:Nat) (ws:List Wall) (line:Nat):List Wall :=
 (List.range line).foldl (fun ws l=>if 1≤l then (zb6 g level l ws places).1 else ws) ws
def zct (g:List (List Int)) (H W:Nat):List Wall:=zcc g true W (zcc g false H [] W) H
theorem zem {g:List (List Int)} {level:Bool} {line:Nat} {ws:List Wall} {n:Nat}:zb6 g level line ws (n+1)=ze0 (zll g level line n) level line n (zb6 g level line ws n):=by
 unfold zb6; rw [zco]
theorem zez {g:List (List Int)} {level:Bool} {places:Nat} {ws:List Wall} {line:Nat} (h:1≤line):zcc g level places ws (line+1)=(zb6 g level line (zcc g level places ws line) places).1:=by
 unfold zcc; rw [zco,if_pos h]
theorem z1f {d level:Bool} {line at_:Nat} {s:List Wall × Bool} (h:s.2=true→s.1≠[]):(ze0 d level line at_ s).2=d∧(d=true→(ze0 d level line at_ s).1≠[])∧(ze0 d level line at_ s).1.length≤s.1.length+1∧s.1.length≤(ze0 d level line at_ s).1.length:=by
 unfold ze0
 cases d with
 | false=>simp
 | true =>
  cases ho:s.2 with
  | false=>simp
  | true =>
   have:=h ho
   cases hl:s.1.getLast? with
   | none=>rw [List.getLast?_eq_none_iff]at hl; exact absurd hl this
   | some w =>
    have:0<s.1.length:=List.length_pos_iff.2 this
    simp; omega
theorem zl7 (g:List (List Int)) (level:Bool) (line:Nat) (ws:List Wall):∀ n,((zb6 g level line ws n).2=true→(zb6 g level line ws n).1≠[])∧(zb6 g level line ws n).1.length≤ws.length+n∧ws.length≤(zb6 g level line ws n).1.length
 | 0=>by simp [zb6]
 | n+1=>by
  have ih:=zl7 g level line ws n
  have:=z1f (d:=zll g level line n) (level:=level) (line:=line) (at_:=n) ih.1
  rw [zem]
  refine ⟨fun h=>this.2.1 (this.1 ▸ h),by omega,by omega⟩
theorem zi4 (g:List (List Int)) (level:Bool) {places:Nat} (hp:places≤6) (ws:List Wall):∀ line,(zcc g level places ws line).length≤ws.length+6*line
 | 0=>by simp [zcc]
 | line+1=>by
  have ih:=zi4 g level hp ws line
  by_cases h:1≤line
  ·rw [zez h]
   have:=(zl7 g level line (zcc g level places ws line) places).2.1
   omega
  have:line=0:=by omega
  subst this
  simp [zcc]at ih ⊢
theorem zl6 (g:List (List Int)) (level:Bool) (line:Nat) {ws:List Wall} {M:Int} (hM:1≤M) (hws:∀ w∈ws,0≤w.long∧w.long≤M):∀ n:Nat,∀ w∈(zb6 g level line ws n).1,0≤w.long∧w.long≤M+n
 | 0,w,h=>by simp [zb6]at h; have:=hws w h; omega
 | n+1,w,h=>by
  have ih:=zl6 g level line hM hws n
  rw [zem]at h
  unfold ze0 at h
  split at h
  ·simp only[List.mem_append,Option.mem_toList,Option.mem_def,qI]at h
   rcases h with h | ⟨u,hu,rfl⟩
   ·have:=ih w ((List.dropLast_sublist _).subset h); omega
   have:=ih u (List.mem_of_getLast? hu); simp only; omega
  split at h
  ·simp only[List.mem_append,List.mem_singleton]at h
   rcases h with h | rfl
   ·have:=ih w h; omega
   simp only; omega
  have:=ih w h; omega
theorem zh0 (g:List (List Int)) (level:Bool) {places:Nat} (hp:places≤6) {ws:List Wall} {M:Int} (hM:1≤M) (hws:∀ w∈ws,0≤w.long∧w.long≤M):∀ line:Nat,∀ w∈zcc g level places ws line,0≤w.long∧w.long≤M+6*line
 | 0,w,h=>by simp [zcc]at h; have:=hws w h; omega
 | line+1,w,h=>by
  have ih:=zh0 g level hp hM hws line
  by_cases hl:1≤line
  ·rw [zez hl]at h
   have:=zl6 g level line (M:=M+6*line) (by omega) ih places w h
   omega
  have:line=0:=by omega
  subst this
  simp [zcc]at h
  have:=hws w h; omega
theorem z3n (ws:List Wall):(wcs ws).all scal=true:=by
 induction ws with
 | nil=>rfl
 | cons r rs ih=>rw [zp6,List.all_append,ih]; rfl
def slW (ws:List Wall) (v:Nat):PV:=match ws with | [] => .nils | _ => .loc 0 v 0 ws.length
def stW (ws:List Wall) (v t:Nat):Store:=match ws with | []=>⟨[],t⟩ | _=>⟨[.arr v 105 4 (wcs ws)],t⟩
theorem yf1 {v:Nat}:slW [] v = .nils:=rfl
theorem yf4 {v t:Nat}:stW [] v t=⟨[],t⟩:=rfl
theorem zuj {ws:List Wall} {v:Nat} (h:ws≠[]):slW ws v = .loc 0 v 0 ws.length:=by cases ws with | nil=>exact absurd rfl h | cons a l=>rfl
theorem zpc {ws:List Wall} {v t:Nat} (h:ws≠[]):stW ws v t=⟨[.arr v 105 4 (wcs ws)],t⟩:=by cases ws with | nil=>exact absurd rfl h | cons a l=>rfl
theorem z89 {S:Store} {k f:Nat} {sel:List Nat} (ws:List Wall):(wcs ws).mapM (rn S k sel (f+1))=some (wcs ws):=zvw (z3n ws)
theorem z84 {S:Store} {im:Bool} {f:Nat} (ws:List Wall):(wcs ws).mapM (reify S im (f+1))=some (wcs ws):=zoc (z3n ws)
theorem ycl {d op:Bool} {ws:List Wall} (h:op=true→ws≠[]):d=false∨(d=true∧op=false∧ws=[])∨(d=true∧op=false∧ws≠[])∨(d=true∧op=true∧ws≠[]):=by
 cases d <;> cases op <;> simp_all
 by_cases hw:ws=[] <;> simp [hw]
theorem z7y {α:Type} {l:List α} (h:l≠[]):∃ l0 a,l=l0++[a]:=⟨l.dropLast,l.getLast h,(List.dropLast_concat_getLast h).symm⟩
theorem ycj {ws:List Wall} {w:Wall}:(wcs (ws++[w]))[ws.length*4+3]?=some (.int .i64 w.long):=by
 rw [zwe,List.getElem?_append_right (by rw [zi3]; omega),zi3]
 simp [wcs,Wall.cells]
theorem ygg {ws:List Wall} {w:Wall} {x:Int}:(wcs (ws++[w])).take (ws.length*4+3)++[.int .i64 x]++(wcs (ws++[w])).drop (ws.length*4+4)=wcs (ws++[{ w with long:=x }]):=by
 rw [zwe,zwe,← zi3,List.take_length_add_append,List.drop_length_add_append]
 simp [wcs,Wall.cells]
def wsI (g:List (List Int)) (nh nw:Nat) (i:Nat):List Wall:=if i=0 then [] else if i=1 then zcc g false nh [] nw else zct g nh nw
theorem zl5 {g:List (List Int)} {level:Bool} {places:Nat} {ws:List Wall}:zcc g level places ws 1=ws:=by simp [zcc]
theorem zl8 {g:List (List Int)} {level:Bool} {line:Nat} {ws:List Wall}:zb6 g level line ws 0=(ws,false):=rfl
theorem ycn {g:List (List Int)} {nh nw i:Nat} (h:i<2):wsI g nh nw (i+1)=zcc g (decide (i=1)) (if i=1 then nw else nh) (wsI g nh nw i) (if i=1 then nh else nw):=by
 rcases (show i=0∨i=1 by omega) with rfl | rfl <;> simp [wsI,zct]
theorem yaa {g:List (List Int)} {nh nw i:Nat} (hh:nh≤6) (hw:nw≤6):(wsI g nh nw i).length≤72:=by
 have h1:=zi4 g false (places:=nh) hh [] nw
 have h2:=zi4 g true (places:=nw) hw (zcc g false nh [] nw) nh
 unfold wsI
 split
 ·simp
 split
 ·simp at h1; omega
 simp at h1; simp only[zct]; omega
theorem ycm {g:List (List Int)} {nh nw i:Nat} (hh:nh≤6) (hw:nw≤6):∀ w∈wsI g nh nw i,0≤w.long∧w.long≤100:=by
 have h1:=zh0 g false (places:=nh) hh (ws:=[]) (M:=1) (by omega) (by simp) nw
 have h2:=zh0 g true (places:=nw) hw (M:=1+6*nw) (by omega) h1 nh
 unfold wsI
 split
 ·simp
 split
 ·intro w hw; have:=h1 w hw; omega
 intro w hw; have:=h2 w hw; omega
theorem zy0 {ws:List Wall} {v t f:Nat}:rn (stW ws v t) (stW ws v t).obs.length [] (f+1) (slW ws v)=some (slW ws v):=by
 cases ws <;> rfl
theorem zy1 {ws:List Wall} {v t:Nat}:(stW ws v t).rn (stW ws v t).obs.length []=some (stW ws v (t+1)):=by
 cases ws with
 | nil=>rfl
 | cons w ws =>
  rw [zpc (by simp),zpc (by simp)]
  simp [zbq,zag,zaj,zap,z89,qS]
theorem zah {S:Store}:S.take S.obs.length=S:=by simp [Store.take]
theorem yd5 {ws:List Wall}:(wcs ws).take (ws.length*4)=wcs ws:=by rw [← zi3,List.take_length]
theorem yck {ws:List Wall} {w:Wall}:wcs (ws++[w])=wcs ws++w.cells:=by rw [zwe]; simp [wcs]
theorem z83 {ws:List Wall} {v t:Nat} {im:Bool} {k:Nat}:reify (stW ws v t) im (k+2) (slW ws v)=some (ztc ws):=by
 cases ws with
 | nil=>rfl
 | cons w ws =>
  rw [zuj (by simp),zpc (by simp)]
  exact zb5 rfl (zi3 _) (z84 _)
theorem z5y {n:Nat}:(((n+1:Nat):Int) - 1).toNat=n:=by omega
theorem z3v {g:List (List Int)} {nh nw:Nat} (hg:GW g nh nw) (rs:List Rect) {level:Bool} {line at_:Nat} (hi:InL nh nw level line at_):PC Tryz.prog 139 [zb3 g rs,.bool level,.int .i64 line,.int .i64 at_] (.tup [.int .i64 (zcn g level line at_).1,.int .i64 (zcn g level line at_).2]) true:=by
 have hl:=hg.1
 obtain ⟨hi1,hi2⟩:=hi
 have hb:line≤6∧at_≤6:=by have:=hg.2.2; cases level <;> simp at hi2 <;> omega
 refine PC.of ⟨Tryz.func139,by kernel_rfl,rfl,by kernel_rfl⟩ zao mixed (by show 4≤Tryz.f139.ntmps; decide) ?_
 refine W.r fun K hK=>?_
 simp(disch:=omega)only[↓RU,RV,RH,↓reduceIte,qE,reduceCtorEq,if_pos,↓RS,RG,qA,qM,qL]
 apply hK;clear hK K
 refine W.seq ?_
 refine W.r fun K hK=>?_
 simp(disch:=omega)only[↓RU,RV,RH,↓reduceIte,qE,reduceCtorEq,if_pos,↓RS,RG,qA,qM,qL]
 apply hK;clear hK K
 refine W.cond rfl (fun h0=>?_) (fun h0=>?_)
 ·try simp only[RL]at h0
  subst h0
  simp only[if_true]at hi2
  obtain ⟨r1,hr1,hl1,hx1⟩:=hg.at_ (i:=line - 1) (j:=at_) (by omega) hi2.2
  obtain ⟨r2,hr2,hl2,hx2⟩:=hg.at_ (i:=line) (j:=at_) hi2.1 hi2.2
  refine W.seq_draw (by kernel_rfl) fun K hK=>?_
  simp(disch:=omega)only[↓RU,RV,RH,↓reduceIte,qE,reduceCtorEq,if_pos,w64,↓RS,RG,qA,qM,qL,ty1,ty4,zab,zdz,zb7,zc5,zaa,zd0,zc6,hr1,hx1,hr2,hx2,zbb]
  apply hK;clear hK K
  refine W.ret ?_
  refine XThen.ret ?_
  refine Br rfl ?_
  rfl
 try simp only[RL]at h0
 subst h0
 simp only[qF,if_false]at hi2
 obtain ⟨r1,hr1,hl1,hx1⟩:=hg.at_ (i:=at_) (j:=line - 1) hi2.2 (by omega)
 obtain ⟨r2,hr2,hl2,hx2⟩:=hg.at_ (i:=at_) (j:=line) hi2.2 hi2.1
 obtain rfl:r1=r2:=by rw [hr1]at hr2; exact Option.some.inj hr2
 refine W.skip ?_
 refine xn ?_
 refine W.seq_draw (by kernel_rfl) fun K hK=>?_
 simp(disch:=omega)only[↓RU,RV,RH,↓reduceIte,qE,reduceCtorEq,if_pos,w64,↓RS,RG,qA,qM,qL,ty1,ty4,zab,zdz,zb7,zc5,zaa,zd0,zc6,hr1,hx1,hr2,hx2,zbb]
 apply hK;clear hK K
 refine W.ret ?_
 refine Br rfl ?_
 rfl
theorem z63 {g:List (List Int)} {nh nw:Nat} (hg:GW g nh nw) (rs:List Rect) {level:Bool} {line at_:Nat} (hi:InL nh nw level line at_):PC Tryz.prog 138 [zb3 g rs,.bool level,.int .i64 line,.int .i64 at_] (.bool (zll g level line at_)) true:=by
 refine PC.of ⟨Tryz.func138,by kernel_rfl,rfl,by kernel_rfl⟩ zao mixed (by show 4≤Tryz.f138.ntmps; decide) ?_
 refine W.r fun K hK=>?_
 simp(disch:=omega)only[↓RU,RV,RH,↓reduceIte,qE,reduceCtorEq,if_pos]
 apply hK;clear hK K
 refine W.r fun K hK=>?_
 simp(disch:=omega)only[↓RU,RV,RH,↓reduceIte,qE,reduceCtorEq,if_pos,qN]
 refine zad.pc (z3v hg rs hi) rfl (.inl rfl) ?_
 simp(disch:=omega)only[↓RU,RV,RH,↓reduceIte,qE,reduceCtorEq,if_pos,qN]
 apply hK;clear hK K
 refine W.r fun K hK=>?_
 simp(disch:=omega)only[↓RU,RV,RH,↓reduceIte,qE,reduceCtorEq,if_pos,w64,zaa]
 apply hK;clear hK K
 refine W.ret ?_
 refine Br rfl ?_
 rw [show zll g level line at_=((zcn g level line at_).1 != (zcn g level line at_).2) by rw [zu2,zll]; simp]
 rfl
theorem yci {g:List (List Int)} {nh nw:Nat} (hg:GW g nh nw) (rs:List Rect):PC Tryz.prog 95 [zb3 g rs] (ztc (zct g nh nw)) true:=by
 have hl:=hg.1
 obtain ⟨hg1,hg2,hg3,hg4⟩:=hg.2.2
 obtain ⟨row0,hrow0,hrl0,-⟩:=hg.at_ (i:=0) (j:=0) (by omega) (by omega)
 refine PC.of ⟨Tryz.func95,by kernel_rfl,rfl,by kernel_rfl⟩ zao mixed (by show 1≤Tryz.f95.ntmps; decide) ?_
 refine W.r fun K hK=>?_
 simp(disch:=omega)only[↓RU,RV,RH,↓reduceIte,qE,reduceCtorEq,if_pos,↓RS,RG,qA,qM,qL]
 apply hK;clear hK K
 refine W.r fun K hK=>?_
 simp(disch:=omega)only[↓RU,RV,RH,↓reduceIte,qE,reduceCtorEq,if_pos,↓RS,RG,qA,qM,qL]
 apply hK;clear hK K
 refine W.seq ?_
 refine W.r fun K hK=>?_
 simp(disch:=omega)only[↓RU,RV,RH,↓reduceIte,qE,reduceCtorEq,if_pos,↓RS,RG,qA,qM,qL,ty3,zam]
 apply hK;clear hK K
 refine W.block ?_
 refine W.loopS [0,12,13,14,3] (fun n vs S=>∃ i v t:Nat,n=2 - i∧(i≤2)∧vs=[zb3 g rs,.sl [.bool false,.bool true] 2,.int .i64 2,.int .i64 i,slW (wsI g nh nw i) v]∧S=stW (wsI g nh nw i) v t) 2 ?_ ?_
 ·refine ⟨0,[],[zb3 g rs,.sl [.bool false,.bool true] 2,.int .i64 2,.int .i64 (0:Nat),.nils],⟨[],2⟩,?_,?_,0,0,2,rfl,by omega,rfl,rfl⟩
  ·simp [-qU,Env.put,Env.of,zae,zbq,zag,zaj,zap,zar,zbz,zb0,zc9,zby,za2,zb1,zc8,zda,za4,za3,zas,zbx,zb2,zc7,za0,zaz,zaq,za1,zbw,ze9,qS,qP,qC]
  simp [-qU,Env.put,Env.of,zae,zbq,zag,zaj,zap,zar,zbz,zb0,zc9,zby,za2,zb1,zc8,zda,za4,za3,zas,zbx,zb2,zc7,za0,zaz,zaq,za1,zbw,ze9,qS,qP,qC]
 rintro n vs S - ⟨i,v,t,rfl,h_i,rfl,rfl⟩
 refine W.r fun K hK=>?_
 simp(disch:=omega)only[↓RU,RV,RH,↓reduceIte,qE,reduceCtorEq,if_pos,w64,↓RS,RG,qA,qM,qL,zaa]
 apply hK;clear hK K
 refine W.seq ?_
 refine W.cond rfl (fun h=>?_) (fun h=>?_)
 ·try simp only[RL]at h
  have hi2:i<2:=by omega
  obtain ⟨ls,hls⟩:∃ ls:Nat,(if i=1 then nh else nw)=ls:=⟨_,rfl⟩
  obtain ⟨ps,hps⟩:∃ ps:Nat,(if i=1 then nw else nh)=ps:=⟨_,rfl⟩
  have hlp:1≤ls∧ls≤6∧1≤ps∧ps≤6:=by subst hls hps; split <;> omega
  have hwl:=yaa (g:=g) (nh:=nh) (nw:=nw) (i:=i) hg2 hg4
  have hlong:=ycm (g:=g) (nh:=nh) (nw:=nw) (i:=i) hg2 hg4
  have hlev:[PV.bool false,PV.bool true][i]?=some (.bool (decide (i=1))):=by rcases (show i=0∨i=1 by omega) with rfl | rfl <;> rfl
  refine W.skip ?_
  refine xn ?_
  refine W.seq ?_
  refine W.block ?_
  refine W.r fun K hK=>?_
  simp(disch:=omega)only[↓RU,RV,RH,↓reduceIte,qE,reduceCtorEq,if_pos,↓RS,RG,qA,qM,qL,ty3,zam,hlev]
  apply hK;clear hK K
  refine W.r fun K hK=>?_
  simp(disch:=omega)only[↓RU,RV,RH,↓reduceIte,qE,reduceCtorEq,if_pos,qN,↓RS,RG,qA,qM,qL,hl,hrl0]
  refine zad.pc (z1e hrow0 rs) rfl (.inl rfl) ?_
  simp(disch:=omega)only[↓RU,RV,RH,↓reduceIte,qE,reduceCtorEq,if_pos,qN,↓RS,RG,qA,qM,qL,hl,hrl0]
  refine zad.pc (zqx g rs) rfl (.inl rfl) ?_
  simp(disch:=omega)only[↓RU,RV,RH,↓reduceIte,qE,reduceCtorEq,if_pos,qN,↓RS,RG,qA,qM,qL,hl,hrl0]
  apply hK;clear hK K
  refine W.join [0,12,13,14,3,5,6,7] (fun vs S=>vs=[zb3 g rs,.sl [.bool false,.bool true] 2,.int .i64 2,.int .i64 i,slW (wsI g nh nw i) v,.bool (decide (i=1)),.int .i64 ls,.int .i64 ps]∧S=stW (wsI g nh nw i) v t) ?_ ?_
  ·
   refine W.r fun K hK=>?_
   simp(disch:=omega)only[↓RU,RV,RH,↓reduceIte,qE,reduceCtorEq,if_pos,↓RS,RG,qA,qM,qL]
   apply hK;clear hK K
   refine W.cond rfl (fun h1=>?_) (fun h1=>?_)
   ·try simp only[RL]at h1
    refine W.k fun K hK=>?_
    simp(disch:=omega)only[↓RU,RV,RH,↓reduceIte,qE,reduceCtorEq,if_pos,↓RS,RG,qA,qM,qL]
    apply hK;clear hK K
    refine xn ?_
    refine ⟨_,?_,zah⟩
    subst hls hps
    simp [Env.put,Env.of,h1]
   try simp only[RL]at h1
   refine W.skip ?_
   refine xn ?_
   refine ⟨_,?_,zah⟩
   subst hls hps
   simp [Env.put,Env.of,h1]
  rintro vs S - ⟨rfl,rfl⟩
  refine W.r fun K hK=>?_
  simp(disch:=omega)only[↓RU,RV,RH,↓reduceIte,qE,reduceCtorEq,if_pos,↓RS,RG,qA,qM,qL]
  apply hK;clear hK K
  refine W.block ?_
  refine W.loopS [0,12,13,14,3,5,6,7,8] (fun n vs S=>∃ line v t:Nat,n=ls - line∧(1≤line)∧(line≤ls)∧vs=[zb3 g rs,.sl [.bool false,.bool true] 2,.int .i64 2,.int .i64 i,slW (zcc g (decide (i=1)) ps (wsI g nh nw i) line) v,.bool (decide (i=1)),.int .i64 ls,.int .i64 ps,.int .i64 line]∧S=stW (zcc g (decide (i=1)) ps (wsI g nh nw i) line) v t) (ls - 1) ?_ ?_
  ·refine ⟨_,[],[zb3 g rs,.sl [.bool false,.bool true] 2,.int .i64 2,.int .i64 i,slW (wsI g nh nw i) v,.bool (decide (i=1)),.int .i64 ls,.int .i64 ps,.int .i64 (1:Nat)],stW (wsI g nh nw i) v (t+1),?_,zy1,1,v,t+1,rfl,by omega,by omega,by rw [zl5],by rw [zl5]⟩
   simp [-qU,Env.put,Env.of,zae,zbq,zag,zaj,zap,zar,zbz,zb0,zc9,zby,za2,zb1,zc8,zda,za4,za3,zas,zbx,zb2,zc7,za0,zaz,zaq,za1,zbw,ze9,qS,qP,qC,zy0]
  rintro n vs S - ⟨line,v,t,rfl,h1l,h_l,rfl,rfl⟩
  refine W.seq ?_
  refine W.r fun K hK=>?_
  simp(disch:=omega)only[↓RU,RV,RH,↓reduceIte,qE,reduceCtorEq,if_pos,w64,↓RS,RG,qA,qM,qL,zaa]
  apply hK;clear hK K
  refine W.cond rfl (fun h2=>?_) (fun h2=>?_)
  ·try simp only[RL]at h2
   have hwl2:=zi4 g (decide (i=1)) hlp.2.2.2 (wsI g nh nw i) line
   have hlong2:=zh0 g (decide (i=1)) hlp.2.2.2 (M:=100) (by omega) hlong line
   generalize hWs:(zcc g (decide (i=1)) ps (wsI g nh nw i) line)=Ws at hwl2 hlong2
   refine W.skip ?_
   refine xn ?_
   refine W.seq ?_
   refine W.block ?_
   refine W.r fun K hK=>?_
   simp(disch:=omega)only[↓RU,RV,RH,↓reduceIte,qE,reduceCtorEq,if_pos,↓RS,RG,qA,qM,qL]
   apply hK;clear hK K
   refine W.r fun K hK=>?_
   simp(disch:=omega)only[↓RU,RV,RH,↓reduceIte,qE,reduceCtorEq,if_pos,↓RS,RG,qA,qM,qL]
   apply hK;clear hK K
   refine W.block ?_
   refine W.loopS [0,12,13,14,3,5,6,7,8,9,30,31] (fun n vs S=>∃ at_ v t:Nat,n=ps - at_∧(at_≤ps)∧vs=[zb3 g rs,.sl [.bool false,.bool true] 2,.int .i64 2,.int .i64 i,slW (zb6 g (decide (i=1)) line Ws at_).1 v,.bool (decide (i=1)),.int .i64 ls,.int .i64 ps,.int .i64 line,.bool (zb6 g (decide (i=1)) line Ws at_).2,.int .i64 ps,.int .i64 at_]∧S=stW (zb6 g (decide (i=1)) line Ws at_).1 v t) ps ?_ ?_
   ·refine ⟨_,[],[zb3 g rs,.sl [.bool false,.bool true] 2,.int .i64 2,.int .i64 i,slW Ws v,.bool (decide (i=1)),.int .i64 ls,.int .i64 ps,.int .i64 line,.bool false,.int .i64 ps,.int .i64 (0:Nat)],stW Ws v (t+1),?_,zy1,0,v,t+1,rfl,by omega,rfl,rfl⟩
    simp [-qU,Env.put,Env.of,zae,zbq,zag,zaj,zap,zar,zbz,zb0,zc9,zby,za2,zb1,zc8,zda,za4,za3,zas,zbx,zb2,zc7,za0,zaz,zaq,za1,zbw,ze9,qS,qP,qC,zy0]
   rintro n vs S - ⟨at_,v,t,rfl,h_a,rfl,rfl⟩
   refine W.r fun K hK=>?_
   simp(disch:=omega)only[↓RU,RV,RH,↓reduceIte,qE,reduceCtorEq,if_pos,w64,↓RS,RG,qA,qM,qL,zaa]
   apply hK;clear hK K
   refine W.seq ?_
   refine W.cond rfl (fun h3=>?_) (fun h3=>?_)
   ·try simp only[RL]at h3
    have hop:=(zl7 g (decide (i=1)) line Ws at_)
    have hlong3:=zl6 g (decide (i=1)) line (M:=100+6*line) (by omega) hlong2 at_
    have hin:InL nh nw (decide (i=1)) line at_:=by refine ⟨h1l,?_⟩; rcases (show i=0∨i=1 by omega) with rfl | rfl <;> simp at hls hps ⊢ <;> omega
    generalize hs:zb6 g (decide (i=1)) line Ws at_=s at hop hlong3
    obtain ⟨ws,op⟩:=s
    simp only at hop hlong3
    refine W.skip ?_
    refine xn ?_
    refine W.seq ?_
    refine W.block ?_
    refine W.r fun K hK=>?_
    simp(disch:=omega)only[↓RU,RV,RH,↓reduceIte,qE,reduceCtorEq,if_pos,↓RS,RG,qA,qM,qL]
    apply hK;clear hK K
    refine W.r fun K hK=>?_
    simp(disch:=omega)only[↓RU,RV,RH,↓reduceIte,qE,reduceCtorEq,if_pos,qN,↓RS,RG,qA,qM,qL]
    refine zad.pc (z63 hg rs hin) rfl (.inl rfl) ?_
    simp(disch:=omega)only[↓RU,RV,RH,↓reduceIte,qE,reduceCtorEq,if_pos,qN,↓RS,RG,qA,qM,qL]
    apply hK;clear hK K
    refine W.seq ?_
    refine W.block ?_
    refine W.r fun K hK=>?_
    obtain hd | ⟨hd,rfl,rfl⟩ | ⟨hd,rfl,hw⟩ | ⟨hd,rfl,hw⟩:=ycl (d:=zll g (decide (i=1)) line at_) hop.1
    ·skip
     simp(disch:=omega)only[↓RU,RV,RH,↓reduceIte,qE,reduceCtorEq,if_pos,↓RS,RG,qA,qM,qL,hd]
     apply hK;clear hK K
     refine W.cond rfl (fun h4=>?_) (fun h4=>?_)
     ·try simp only[RL]at h4
      exact absurd h4 (by simp)
     try simp only[RL]at h4
     refine W.r fun K hK=>?_
     simp(disch:=omega)only[↓RU,RV,RH,↓reduceIte,qE,reduceCtorEq,if_pos,↓RS,RG,qA,qM,qL]
     apply hK;clear hK K
     refine W.cond rfl (fun h5=>?_) (fun h5=>?_)
     ·try simp only[RL]at h5
      exact absurd h5 (by simp)
     try simp only[RL]at h5
     refine W.skip ?_
     refine XbN ?_
     refine xn ?_
     refine W.k fun K hK=>?_
     simp(disch:=omega)only[↓RU,RV,RH,↓reduceIte,qE,reduceCtorEq,if_pos,↓RS,RG,qA,qM,qL]
     apply hK;clear hK K
     refine XbN ?_
     refine xn ?_
     refine W.k fun K hK=>?_
     simp(disch:=omega)only[↓RU,RV,RH,↓reduceIte,qE,reduceCtorEq,if_pos,w64,↓RS,RG,qA,qM,qL,zaa]
     apply hK;clear hK K
     refine xn ?_
     have hnx:zb6 g (decide (i=1)) line Ws (at_+1)=(ws,false):=by rw [zem,hs,hd]; simp [ze0]
     refine ⟨ps - (at_+1),by omega,(stW ws v t).obs.length,[],[zb3 g rs,.sl [.bool false,.bool true] 2,.int .i64 2,.int .i64 i,slW (zb6 g (decide (i=1)) line Ws (at_+1)).1 v,.bool (decide (i=1)),.int .i64 ls,.int .i64 ps,.int .i64 line,.bool (zb6 g (decide (i=1)) line Ws (at_+1)).2,.int .i64 ps,.int .i64 ((at_+1:Nat):Int)],stW (zb6 g (decide (i=1)) line Ws (at_+1)).1 v (t+1),?_,?_,at_+1,v,(t+1),rfl,by omega,rfl,rfl⟩
     ·rw [hnx]; simp [-qU,Env.put,Env.of,zae,zbq,zag,zaj,zap,zar,zbz,zb0,zc9,zby,za2,zb1,zc8,zda,za4,za3,zas,zbx,zb2,zc7,za0,zaz,zaq,za1,zbw,ze9,qS,qP,qC,zy0]
     rw [hnx]; exact zy1
    ·skip
     rw [yf1,yf4]
     simp(disch:=omega)only[↓RU,RV,RH,↓reduceIte,qE,reduceCtorEq,if_pos,↓RS,RG,qA,qM,qL,hd]
     apply hK;clear hK K
     refine W.cond rfl (fun h4=>?_) (fun h4=>?_)
     ·try simp only[RL]at h4
      exact absurd h4 (by simp)
     try simp only[RL]at h4
     refine W.r fun K hK=>?_
     simp(disch:=omega)only[↓RU,RV,RH,↓reduceIte,qE,reduceCtorEq,if_pos,↓RS,RG,qA,qM,qL]
     apply hK;clear hK K
     refine W.cond rfl (fun h5=>?_) (fun h5=>?_)
     ·try simp only[RL]at h5
      refine W.k fun K hK=>?_
      simp(disch:=omega)only[↓RU,RV,RH,↓reduceIte,qE,reduceCtorEq,if_pos,↓RS,RG,qA,qM,qL,ty5,zam,z3y,zaa,z3z,zi3,yd5]
      apply hK;clear hK K
      refine XbN ?_
      refine xn ?_
      refine W.k fun K hK=>?_
      simp(disch:=omega)only[↓RU,RV,RH,↓reduceIte,qE,reduceCtorEq,if_pos,↓RS,RG,qA,qM,qL]
      apply hK;clear hK K
      refine XbN ?_
      refine xn ?_
      refine W.k fun K hK=>?_
      simp(disch:=omega)only[↓RU,RV,RH,↓reduceIte,qE,reduceCtorEq,if_pos,w64,↓RS,RG,qA,qM,qL,zaa]
      apply hK;clear hK K
      refine xn ?_
      have hnx:zb6 g (decide (i=1)) line Ws (at_+1)=([⟨decide (i=1),line,at_,1⟩],true):=by rw [zem,hs,hd]; simp [ze0]
      refine ⟨ps - (at_+1),by omega,0,[1],[zb3 g rs,.sl [.bool false,.bool true] 2,.int .i64 2,.int .i64 i,slW (zb6 g (decide (i=1)) line Ws (at_+1)).1 (t+2),.bool (decide (i=1)),.int .i64 ls,.int .i64 ps,.int .i64 line,.bool (zb6 g (decide (i=1)) line Ws (at_+1)).2,.int .i64 ps,.int .i64 ((at_+1:Nat):Int)],stW (zb6 g (decide (i=1)) line Ws (at_+1)).1 (t+2) (t+3),?_,?_,at_+1,(t+2),(t+3),rfl,by omega,rfl,rfl⟩
      ·rw [hnx]; simp [-qU,Env.put,Env.of,zae,zbq,zag,zaj,zap,zar,zbz,zb0,zc9,zby,za2,zb1,zc8,zda,za4,za3,zas,zbx,zb2,zc7,za0,zaz,zaq,za1,zbw,ze9,qS,qP,qC,zuj]
      rw [hnx]; simp [-qU,Env.put,Env.of,zae,zbq,zag,zaj,zap,zar,zbz,zb0,zc9,zby,za2,zb1,zc8,zda,za4,za3,zas,zbx,zb2,zc7,za0,zaz,zaq,za1,zbw,ze9,qS,qP,qC,zpc,wcs,Wall.cells]
     try simp only[RL]at h5
     exact absurd h5 (by simp)
    ·skip
     rw [zuj hw,zpc hw]
     simp(disch:=omega)only[↓RU,RV,RH,↓reduceIte,qE,reduceCtorEq,if_pos,↓RS,RG,qA,qM,qL,hd]
     apply hK;clear hK K
     refine W.cond rfl (fun h4=>?_) (fun h4=>?_)
     ·try simp only[RL]at h4
      exact absurd h4 (by simp)
     try simp only[RL]at h4
     refine W.r fun K hK=>?_
     simp(disch:=omega)only[↓RU,RV,RH,↓reduceIte,qE,reduceCtorEq,if_pos,↓RS,RG,qA,qM,qL]
     apply hK;clear hK K
     refine W.cond rfl (fun h5=>?_) (fun h5=>?_)
     ·try simp only[RL]at h5
      refine W.k fun K hK=>?_
      simp(disch:=omega)only[↓RU,RV,RH,↓reduceIte,qE,reduceCtorEq,if_pos,↓RS,RG,qA,qM,qL,ty5,zam,z3y,zaa,z3z,zi3,yd5]
      apply hK;clear hK K
      refine XbN ?_
      refine xn ?_
      refine W.k fun K hK=>?_
      simp(disch:=omega)only[↓RU,RV,RH,↓reduceIte,qE,reduceCtorEq,if_pos,↓RS,RG,qA,qM,qL]
      apply hK;clear hK K
      refine XbN ?_
      refine xn ?_
      refine W.k fun K hK=>?_
      simp(disch:=omega)only[↓RU,RV,RH,↓reduceIte,qE,reduceCtorEq,if_pos,w64,↓RS,RG,qA,qM,qL,zaa]
      apply hK;clear hK K
      refine xn ?_
      have hnx:zb6 g (decide (i=1)) line Ws (at_+1)=(ws++[⟨decide (i=1),line,at_,1⟩],true):=by rw [zem,hs,hd]; simp [ze0]
      refine ⟨ps - (at_+1),by omega,1,[],[zb3 g rs,.sl [.bool false,.bool true] 2,.int .i64 2,.int .i64 i,slW (zb6 g (decide (i=1)) line Ws (at_+1)).1 (t+1),.bool (decide (i=1)),.int .i64 ls,.int .i64 ps,.int .i64 line,.bool (zb6 g (decide (i=1)) line Ws (at_+1)).2,.int .i64 ps,.int .i64 ((at_+1:Nat):Int)],stW (zb6 g (decide (i=1)) line Ws (at_+1)).1 (t+1) (t+3),?_,?_,at_+1,(t+1),(t+3),rfl,by omega,rfl,rfl⟩
      ·rw [hnx]; simp [-qU,Env.put,Env.of,zae,zbq,zag,zaj,zap,zar,zbz,zb0,zc9,zby,za2,zb1,zc8,zda,za4,za3,zas,zbx,zb2,zc7,za0,zaz,zaq,za1,zbw,ze9,qS,qP,qC,zuj]
      rw [hnx]; simp [-qU,Env.put,Env.of,zae,zbq,zag,zaj,zap,zar,zbz,zb0,zc9,zby,za2,zb1,zc8,zda,za4,za3,zas,zbx,zb2,zc7,za0,zaz,zaq,za1,zbw,ze9,qS,qP,qC,zpc,z89,yck,Wall.cells]
     try simp only[RL]at h5
     exact absurd h5 (by simp)
    skip
    obtain ⟨ws,w,rfl⟩:=z7y hw
    rw [zuj hw,zpc hw]
    have hwlg:=hlong3 w (by simp)
    have hwl3:ws.length+1≤200:=by have:=hop.2.1; simp at this; omega
    simp(disch:=omega)only[↓RU,RV,RH,↓reduceIte,qE,reduceCtorEq,if_pos,↓RS,RG,qA,qM,qL,hd]
    apply hK;clear hK K
    refine W.cond rfl (fun h4=>?_) (fun h4=>?_)
    ·try simp only[RL]at h4
     refine W.k fun K hK=>?_
     simp(disch:=omega)only[↓RU,RV,RH,↓reduceIte,qE,reduceCtorEq,if_pos,w64,↓RS,RG,qA,qM,qL,ty5,zam,z3y,zaa,z3z,List.length_append,zi3,ycj,ygg,z5y]
     apply hK;clear hK K
     refine XbN ?_
     refine xn ?_
     refine W.k fun K hK=>?_
     simp(disch:=omega)only[↓RU,RV,RH,↓reduceIte,qE,reduceCtorEq,if_pos,↓RS,RG,qA,qM,qL]
     apply hK;clear hK K
     refine XbN ?_
     refine xn ?_
     refine W.k fun K hK=>?_
     simp(disch:=omega)only[↓RU,RV,RH,↓reduceIte,qE,reduceCtorEq,if_pos,w64,↓RS,RG,qA,qM,qL,zaa]
     apply hK;clear hK K
     refine xn ?_
     have hnx:zb6 g (decide (i=1)) line Ws (at_+1)=(ws++[{ w with long:=w.long+1 }],true):=by rw [zem,hs,hd]; simp [ze0]
     refine ⟨ps - (at_+1),by omega,1,[],[zb3 g rs,.sl [.bool false,.bool true] 2,.int .i64 2,.int .i64 i,slW (zb6 g (decide (i=1)) line Ws (at_+1)).1 v,.bool (decide (i=1)),.int .i64 ls,.int .i64 ps,.int .i64 line,.bool (zb6 g (decide (i=1)) line Ws (at_+1)).2,.int .i64 ps,.int .i64 ((at_+1:Nat):Int)],stW (zb6 g (decide (i=1)) line Ws (at_+1)).1 v (t+1),?_,?_,at_+1,v,(t+1),rfl,by omega,rfl,rfl⟩
     ·rw [hnx]; simp [-qU,Env.put,Env.of,zae,zbq,zag,zaj,zap,zar,zbz,zb0,zc9,zby,za2,zb1,zc8,zda,za4,za3,zas,zbx,zb2,zc7,za0,zaz,zaq,za1,zbw,ze9,qS,qP,qC,zuj]
     rw [hnx]; simp [-qU,Env.put,Env.of,zae,zbq,zag,zaj,zap,zar,zbz,zb0,zc9,zby,za2,zb1,zc8,zda,za4,za3,zas,zbx,zb2,zc7,za0,zaz,zaq,za1,zbw,ze9,qS,qP,qC,zpc,z89]
    try simp only[RL]at h4
    exact absurd h4 (by simp)
   ·try simp only[RL]at h3
    obtain rfl:ps=at_:=by omega
    refine W.exit ?_
    refine xe ?_
    refine xe ?_
    refine XBlock.hit ?_
    refine XbN ?_
    refine xn ?_
    refine W.k fun K hK=>?_
    simp(disch:=omega)only[↓RU,RV,RH,↓reduceIte,qE,reduceCtorEq,if_pos,w64,↓RS,RG,qA,qM,qL,zaa]
    apply hK;clear hK K
    refine xn ?_
    refine ⟨ls - (line+1),by omega,(stW (zb6 g (decide (i=1)) line Ws ps).1 v t).obs.length,[],[zb3 g rs,.sl [.bool false,.bool true] 2,.int .i64 2,.int .i64 i,slW (zcc g (decide (i=1)) ps (wsI g nh nw i) (line+1)) v,.bool (decide (i=1)),.int .i64 ls,.int .i64 ps,.int .i64 ((line+1:Nat):Int)],stW (zcc g (decide (i=1)) ps (wsI g nh nw i) (line+1)) v (t+1),?_,?_,line+1,v,t+1,rfl,by omega,by omega,rfl,rfl⟩
    rotate_left
    ·rw [zez h1l,hWs]; exact zy1
    rw [zez h1l,hWs]; simp [-qU,Env.put,Env.of,zae,zbq,zag,zaj,zap,zar,zbz,zb0,zc9,zby,za2,zb1,zc8,zda,za4,za3,zas,zbx,zb2,zc7,za0,zaz,zaq,za1,zbw,ze9,qS,qP,qC,zy0]
  ·try simp only[RL]at h2
   obtain rfl:ls=line:=by omega
   refine W.exit ?_
   refine xe ?_
   refine xe ?_
   refine XBlock.hit ?_
   refine XbN ?_
   refine xn ?_
   refine W.k fun K hK=>?_
   simp(disch:=omega)only[↓RU,RV,RH,↓reduceIte,qE,reduceCtorEq,if_pos,w64,↓RS,RG,qA,qM,qL,zaa]
   apply hK;clear hK K
   refine xn ?_
   have hwn:=ycn (g:=g) (nh:=nh) (nw:=nw) hi2
   rw [hps,hls]at hwn
   refine ⟨2 - (i+1),by omega,(stW (zcc g (decide (i=1)) ps (wsI g nh nw i) ls) v t).obs.length,[],[zb3 g rs,.sl [.bool false,.bool true] 2,.int .i64 2,.int .i64 ((i+1:Nat):Int),slW (wsI g nh nw (i+1)) v],stW (wsI g nh nw (i+1)) v (t+1),?_,?_,i+1,v,t+1,rfl,by omega,rfl,rfl⟩
   rotate_left
   ·rw [hwn]; exact zy1
   rw [hwn]; simp [-qU,Env.put,Env.of,zae,zbq,zag,zaj,zap,zar,zbz,zb0,zc9,zby,za2,zb1,zc8,zda,za4,za3,zas,zbx,zb2,zc7,za0,zaz,zaq,za1,zbw,ze9,qS,qP,qC,zy0]
 try simp only[RL]at h
 refine W.exit ?_
 refine xe ?_
 refine xe ?_
 refine XBlock.hit ?_
 refine xn ?_
 refine W.r fun K hK=>?_
 simp(disch:=omega)only[↓RU,RV,RH,↓reduceIte,qE,reduceCtorEq,if_pos,↓RS,RG,qA,qM,qL]
 apply hK;clear hK K
 refine W.ret ?_
 refine Br rfl ?_
 obtain rfl:i=2:=by omega
 rw [show wsI g nh nw 2=zct g nh nw from rfl]
 exact z83
theorem gF {F R:List Ob} {a:Ob}:(F++a::R)[F.length]?=some a:=by simp
theorem zee {F R:List Ob} {a b:Ob}:(F++a::R).set F.length b=F++b::R:=by simp
theorem yb5 {α:Type} {f:α→PV} {l:List α} {x:α} {a n:Nat}:(l.map f).take a++(List.replicate n x).map f++(l.map f).drop (a+n)=(l.take a++List.replicate n x++l.drop (a+n)).map f:=by simp
theorem yak {q:IntKind} {l:List Int}:zcb (l.map (PV.int q))=True:=eq_true (zwm (fun _=>rfl) l)
def ddp (l:List Int):List Int:=l.foldl zjc []
theorem zpp {l:List Int} {p:Nat} {x:Int} (h:l[p]?=some x):ddp (l.take (p+1))=zjc (ddp (l.take p)) x:=ze4 h
theorem z8y (l:List Int) (x:Int):(zjc l x).getLast?=some x:=by
 unfold zjc; split
 ·assumption
 simp
theorem zu5 {l:List Int} {p:Nat} {y:Int} (h:l[p]?=some y):(ddp (l.take (p+1))).getLast?=some y:=by rw [zpp h]; exact z8y _ _
theorem zpo {l:List Int} {p:Nat} {x y:Int} (hp:1≤p) (h0:l[p - 1]?=some y) (h:l[p]?=some x) (e:x=y):ddp (l.take (p+1))=ddp (l.take p):=by
 have:=zu5 h0
 rw [show p - 1+1=p by omega]at this
 rw [zpp h,zjc,this,e]; simp
theorem zz3 {l:List Int} {p:Nat} {x y:Int} (hp:1≤p) (h0:l[p - 1]?=some y) (h:l[p]?=some x) (e:¬ x=y):ddp (l.take (p+1))=ddp (l.take p)++[x]:=by
 have:=zu5 h0
 rw [show p - 1+1=p by omega]at this
 rw [zpp h,zjc,this,if_neg (by simpa using Ne.symm e)]
theorem yek {l:List Int} (h:1≤l.length):ddp (l.take 1)=l.take 1:=by
 cases l with
 | nil=>simp at h
 | cons a l=>rfl
theorem zw0 {l:List Int} (h:l.length<2):ddp l=l:=by
 match l,h with
 | [],_=>rfl
 | [a],_=>rfl
theorem z60 (l:List Int):(ddp l).length≤l.length:=by
 unfold ddp
 have:∀ (l m:List Int),(l.foldl zjc m).length≤m.length+l.length:=by
  intro l
  induction l with
  | nil=>intro m; simp
  | cons a l ih=>intro m; have:=ih (zjc m a); have:=zm1 (l:=m) (x:=a); simp only[List.foldl_cons,List.length_cons]; omega
 have:=this l []
 simpa using this
structure DC (l c:List Int) (k p:Nat):Prop where
 len:c.length=l.length
 dk:(ddp (l.take p)).length=k
 hd:c.take k=ddp (l.take p)
 dr:c.drop (p - 1)=l.drop (p - 1)
 kp:k+1≤p
theorem DC.get {l c:List Int} {k p j:Nat} (h:DC l c k p) (hj:p - 1≤j):c[j]?=l[j]?:=by
 have:=congrArg (fun x=>x[j - (p - 1)]?) h.dr
 simp only[List.getElem?_drop]at this
 rwa [show p - 1+(j - (p - 1))=j by omega]at this
theorem DC.first {l:List Int} {k:Nat} {x y:Int} (h1:1≤k) (hd:ddp (l.take k)=l.take k) (hy:l[k - 1]?=some y) (hx:l[k]?=some x) (e:x=y):DC l l k (k+1):=by
 have hk:=zbd hx
 refine ⟨rfl,?_,?_,rfl,qR _⟩
 ·rw [zpo h1 hy hx e,hd,List.length_take]; omega
 rw [zpo h1 hy hx e,hd]
theorem DC.same {l c:List Int} {k p:Nat} {x y:Int} (h:DC l c k p) (h1:1≤p) (hy:l[p - 1]?=some y) (hx:l[p]?=some x) (e:x=y):DC l c k (p+1):=by
 refine ⟨h.len,?_,?_,?_,by have:=h.kp; omega⟩
 ·rw [zpo h1 hy hx e]; exact h.dk
 ·rw [zpo h1 hy hx e]; exact h.hd
 have:=congrArg (List.drop 1) h.dr
 rw [List.drop_drop,List.drop_drop]at this
 rwa [show p - 1+1=p by omega]at this
theorem DC.new {l c:List Int} {k p:Nat} {x y:Int} (h:DC l c k p) (h1:1≤p) (hy:l[p - 1]?=some y) (hx:l[p]?=some x) (e:¬ x=y):DC l (c.set k x) (k+1) (p+1):=by
 have hp:=zbd hx
 have hk:=h.kp
 have hl:=h.len
 refine ⟨by simpa using hl,?_,?_,?_,by omega⟩
 ·rw [zz3 h1 hy hx e,List.length_append,h.dk]; rfl
 ·rw [zz3 h1 hy hx e,← h.hd]
  have:(c.set k x)[k]?=some x:=by rw [List.getElem?_set]; simp; omega
  rw [tk this,List.take_set_of_le (qR _)]
 rw [Nat.add_sub_cancel,List.drop_set_of_lt (by omega)]
 have:=congrArg (List.drop 1) h.dr
 rw [List.drop_drop,List.drop_drop]at this
 rwa [show p - 1+1=p by omega]at this
def zbk (g:List (List Int)) (level:Bool) (line fr:Nat) (n:Nat):List Int × List Int :=
 ((List.range n).map fun j=>(zcn g level line (fr+j)).1,(List.range n).map fun j=>(zcn g level line (fr+j)).2)
theorem zf9 {g:List (List Int)} {level:Bool} {line fr n:Nat}:(zbk g level line fr (n+1)).1=(zbk g level line fr n).1++[(zcn g level line (fr+n)).1]:=by simp [zbk,qS]
theorem zga {g:List (List Int)} {level:Bool} {line fr n:Nat}:(zbk g level line fr (n+1)).2=(zbk g level line fr n).2++[(zcn g level line (fr+n)).2]:=by simp [zbk,qS]
theorem znp {g:List (List Int)} {level:Bool} {line fr n:Nat}:(zbk g level line fr n).1.length=n∧(zbk g level line fr n).2.length=n:=by simp [zbk]
def slL (l:List Int) (k v:Nat):PV:=match l with | [] => .nils | _ => .loc k v 0 l.length
def tlL (l m:List Int) (v0 v1:Nat):List Ob:=match l with | []=>[] | _=>[.arr v0 3 1 (l.map (.int .i64)),.arr v1 3 1 (m.map (.int .i64))]
theorem zui {l:List Int} {k v:Nat} (h:l≠[]):slL l k v = .loc k v 0 l.length:=by cases l with | nil=>exact absurd rfl h | cons a l=>rfl
theorem z3x {l m:List Int} {v0 v1:Nat} (h:l≠[]):tlL l m v0 v1=[.arr v0 3 1 (l.map (.int .i64)),.arr v1 3 1 (m.map (.int .i64))]:=by cases l with | nil=>exact absurd rfl h | cons a l=>rfl
theorem zfr {S:Store} {k f:Nat} {sel:List Nat} {q:IntKind} (l:List Int):(l.map (PV.int q)).mapM (rn S k sel (f+1))=some (l.map (PV.int q)) :=
 zbm fun x hx=>by obtain ⟨a,_,rfl⟩:=List.mem_map.1 hx; rfl
theorem zys {S:Store} {im:Bool} {k o ver et:Nat} {l z:List Int} (h:S.obs[o]?=some (.arr ver et 1 ((l++z).map (.int .i64)))):reify S im (k+2) (.loc o ver 0 l.length)=some (eInts l):=by
 simp only[reify,h,Nat.zero_add,Nat.mul_one,List.length_map,List.length_append,Nat.le_add_right,and_self,if_true,List.drop_zero,List.map_append]
 rw [List.take_append_of_le_length (by simp),qT (by simp)]
 have:=zmn (S:=S) (im:=im) (k:=k) (q := .i64) l
 simp only[eInts]
 exact congrArg (Option.map fun x=>PV.sl x l.length) this
theorem znr {F R:List Ob} {ver t:Nat} {l:List Int} (hl:l.length<2147483648):Ev Tryz.prog 125 [.loc F.length ver 0 l.length] ⟨F ++ .arr ver 3 1 (l.map (.int .i64))::R,t⟩ fun v S=>∃ z:List Int,v = .loc F.length ver 0 (ddp l).length∧S=⟨F ++ .arr ver 3 1 ((ddp l++z).map (.int .i64))::R,t⟩:=by
 refine Ev.of ⟨Tryz.func125,by kernel_rfl,rfl,by kernel_rfl⟩ zao mixed (by show 1≤Tryz.f125.ntmps; decide) ?_
 refine W.r fun K hK=>?_
 simp(disch:=omega)only[↓RU,RV,RH,↓reduceIte,qE,reduceCtorEq,if_pos,↓RS,RG,qA,qM,qL,gF,zee]
 apply hK;clear hK K
 refine W.seq ?_
 refine W.r fun K hK=>?_
 simp(disch:=omega)only[↓RU,RV,RH,↓reduceIte,qE,reduceCtorEq,if_pos,w64,↓RS,RG,qA,qM,qL,zab,zaa,gF,zee]
 apply hK;clear hK K
 refine W.cond rfl (fun h=>?_) (fun h=>?_)
 ·try simp only[RL]at h
  refine W.r fun K hK=>?_
  simp(disch:=omega)only[↓RU,RV,RH,↓reduceIte,qE,reduceCtorEq,if_pos,↓RS,RG,qA,qM,qL,gF,zee]
  apply hK;clear hK K
  refine W.ret ?_
  refine XThen.ret ?_
  refine Br rfl ?_
  refine ⟨(F++Ob.arr ver 3 1 (l.map (.int .i64))::R).length,[],?_,?_⟩
  ·rw [zw0 (by omega)]; rfl
  rw [qN,zw0 (by omega)]; exact zah
 try simp only[RL]at h
 refine W.skip ?_
 refine xn ?_
 refine W.seq ?_
 refine W.r fun K hK=>?_
 simp(disch:=omega)only[↓RU,RV,RH,↓reduceIte,qE,reduceCtorEq,if_pos,↓RS,RG,qA,qM,qL,gF,zee]
 apply hK;clear hK K
 refine W.block ?_
 refine W.loop [0,3] (fun n vs S=>∃ k0:Nat,n=l.length - k0∧k0≤l.length∧(1≤k0)∧(ddp (l.take k0)=l.take k0)∧vs=[.loc F.length ver 0 l.length,.int .i64 k0]∧S=⟨F ++ .arr ver 3 1 (l.map (.int .i64))::R,t⟩) (l.length - 1) ?_ ?_
 ·refine ⟨_,1,rfl,by omega,qR _,yek (by omega),?_,zah⟩
  simp [Env.put,Env.of,zae]
 rintro n vs S - ⟨k0,rfl,h_k0,h1k,hd,rfl,rfl⟩
 refine W.seq ?_
 refine W.r fun K hK=>?_
 simp(disch:=omega)only[↓RU,RV,RH,↓reduceIte,qE,reduceCtorEq,if_pos,w64,↓RS,RG,qA,qM,qL,zab,zaa,gF,zee]
 apply hK;clear hK K
 refine W.cond rfl (fun h1=>?_) (fun h1=>?_)
 ·try simp only[RL]at h1
  obtain ⟨x,hx,-⟩:=zaf (show k0<l.length by omega)
  obtain ⟨y,hy,-⟩:=zaf (show k0 - 1<l.length by omega)
  refine W.skip ?_
  refine xn ?_
  refine W.seq ?_
  refine W.block ?_
  refine W.seq_draw (by kernel_rfl) fun K hK=>?_
  simp(disch:=omega)only[↓RU,RV,RH,↓reduceIte,qE,reduceCtorEq,if_pos,w64,↓RS,RG,qA,qM,qL,zab,zaa,gF,zee,hx,hy,zbb]
  apply hK;clear hK K
  refine W.cond rfl (fun h2=>?_) (fun h2=>?_)
  ·try simp only[RL]at h2
   refine W.r fun K hK=>?_
   simp(disch:=omega)only[↓RU,RV,RH,↓reduceIte,qE,reduceCtorEq,if_pos,Option.map_none,↓RS,RG,qA,qM,qL,zab,zaa,gF,zee]
   apply hK;clear hK K
   refine W.seq ?_
   refine W.r fun K hK=>?_
   simp(disch:=omega)only[↓RU,RV,RH,↓reduceIte,qE,reduceCtorEq,if_pos,↓RS,RG,qA,qM,qL,gF,zee]
   apply hK;clear hK K
   refine W.block ?_
   refine W.loop [0,3,4,5] (fun n vs S=>∃ k p:Nat,∃ c:List Int,n=l.length - p∧DC l c k p∧k0+1≤p∧p≤l.length∧vs=[.loc F.length ver 0 l.length,.int .i64 k,.loc F.length ver k0 (l.length - k0),.int .i64 ((p - k0:Nat):Int)]∧S=⟨F ++ .arr ver 3 1 (c.map (.int .i64))::R,t⟩) (l.length - (k0+1)) ?_ ?_
   ·refine ⟨_,k0,k0+1,l,rfl,DC.first h1k hd hy hx h2,qR _,by omega,?_,zah⟩
    simp [Env.put,Env.of]
   rintro n vs S - ⟨k,p,c,rfl,hdc,hk0,h_p,rfl,rfl⟩
   refine W.seq ?_
   refine W.r fun K hK=>?_
   simp(disch:=omega)only[↓RU,RV,RH,↓reduceIte,qE,reduceCtorEq,if_pos,w64,↓RS,RG,qA,qM,qL,zab,zaa,gF,zee]
   apply hK;clear hK K
   refine W.cond rfl (fun h3=>?_) (fun h3=>?_)
   ·try simp only[RL]at h3
    have hkp:=hdc.kp
    obtain ⟨x2,hx2,-⟩:=zaf (show p<l.length by omega)
    obtain ⟨y2,hy2,-⟩:=zaf (show p - 1<l.length by omega)
    have hcx:=hdc.get (j:=p) (by omega)
    have hcy:=hdc.get (j:=p - 1) (by omega)
    rw [hx2]at hcx
    rw [hy2]at hcy
    have hcl:=hdc.len
    have e1:k0+(p - k0)=p:=by omega
    have e2:k0+(p - k0 - 1)=p - 1:=by omega
    refine W.skip ?_
    refine xn ?_
    refine W.seq ?_
    refine W.block ?_
    refine W.seq_draw (by kernel_rfl) fun K hK=>?_
    simp(disch:=omega)only[↓RU,RV,RH,↓reduceIte,qE,reduceCtorEq,if_pos,w64,↓RS,RG,qA,qM,qL,zab,zaa,gF,zee,hcx,hcy,zbb,e1,e2]
    apply hK;clear hK K
    refine W.cond rfl (fun h4=>?_) (fun h4=>?_)
    ·try simp only[RL]at h4
     refine W.r fun K hK=>?_
     simp(disch:=omega)only[↓RU,RV,RH,↓reduceIte,qE,reduceCtorEq,if_pos,↓RS,RG,qA,qM,qL,zab,zaa,gF,zee,hcx,e1,hcl,zbo,zdq]
     apply hK;clear hK K
     refine W.k fun K hK=>?_
     simp(disch:=omega)only[↓RU,RV,RH,↓reduceIte,qE,reduceCtorEq,if_pos,w64,↓RS,RG,qA,qM,qL,zaa,gF,zee]
     apply hK;clear hK K
     refine XbN ?_
     refine xn ?_
     refine W.k fun K hK=>?_
     simp(disch:=omega)only[↓RU,RV,RH,↓reduceIte,qE,reduceCtorEq,if_pos,w64,↓RS,RG,qA,qM,qL,zaa,gF,zee]
     apply hK;clear hK K
     refine xn ?_
     refine ⟨l.length - (p+1),by omega,_,k+1,p+1,c.set k x2,rfl,hdc.new (by omega) hy2 hx2 h4,by omega,by omega,?_,zah⟩
     simp [Env.put,Env.of,show p+1 - k0=p - k0+1 by omega]
    try simp only[RL]at h4
    refine W.skip ?_
    refine XbN ?_
    refine xn ?_
    refine W.k fun K hK=>?_
    simp(disch:=omega)only[↓RU,RV,RH,↓reduceIte,qE,reduceCtorEq,if_pos,w64,↓RS,RG,qA,qM,qL,zaa,gF,zee]
    apply hK;clear hK K
    refine xn ?_
    refine ⟨l.length - (p+1),by omega,_,k,p+1,c,rfl,hdc.same (by omega) hy2 hx2 h4,by omega,by omega,?_,zah⟩
    simp [Env.put,Env.of,show p+1 - k0=p - k0+1 by omega]
   try simp only[RL]at h3
   have hkp:=hdc.kp
   have hcl:=hdc.len
   obtain rfl:p=l.length:=by omega
   refine W.exit ?_
   refine xe ?_
   refine xe ?_
   refine XBlock.hit ?_
   refine xn ?_
   refine W.r fun K hK=>?_
   simp(disch:=omega)only[↓RU,RV,RH,↓reduceIte,qE,reduceCtorEq,if_pos,Option.map_none,zhd,zel,↓RS,RG,qA,qM,qL,zab,zaa,gF,zee,hcl,zel,yb5,yak,List.length_replicate]
   apply hK;clear hK K
   refine W.r fun K hK=>?_
   simp(disch:=omega)only[↓RU,RV,RH,↓reduceIte,qE,reduceCtorEq,if_pos,Option.map_none,↓RS,RG,qA,qM,qL,zab,zaa,gF,zee]
   apply hK;clear hK K
   refine W.ret ?_
   refine XBlock.ret ?_
   refine XThen.ret ?_
   refine XThen.ret ?_
   refine XBlock.ret ?_
   refine XThen.ret ?_
   refine Br rfl ?_
   have hdk:=hdc.dk
   rw [List.take_length]at hdk
   have htk:=hdc.hd
   rw [List.take_length]at htk
   have hdrop:c.drop (k+(l.length - k))=[]:=List.drop_of_length_le (by omega)
   rw [hdrop,qN,htk]
   refine ⟨(F++Ob.arr ver 3 1 ((ddp l++List.replicate (l.length - k) 0).map (.int .i64))::R).length,_,?_,zah⟩
   rw [hdk]; rfl
  try simp only[RL]at h2
  refine W.skip ?_
  refine XbN ?_
  refine xn ?_
  refine W.k fun K hK=>?_
  simp(disch:=omega)only[↓RU,RV,RH,↓reduceIte,qE,reduceCtorEq,if_pos,w64,↓RS,RG,qA,qM,qL,zaa,gF,zee]
  apply hK;clear hK K
  refine xn ?_
  refine ⟨l.length - (k0+1),by omega,_,k0+1,rfl,by omega,by omega,by rw [zz3 h1k hy hx h2,hd,← tk hx],?_,zah⟩
  simp [Env.put,Env.of]
 try simp only[RL]at h1
 refine W.exit ?_
 refine xe ?_
 refine xe ?_
 refine XBlock.hit ?_
 refine xn ?_
 refine W.r fun K hK=>?_
 simp(disch:=omega)only[↓RU,RV,RH,↓reduceIte,qE,reduceCtorEq,if_pos,↓RS,RG,qA,qM,qL,gF,zee]
 apply hK;clear hK K
 refine W.ret ?_
 refine Br rfl ?_
 obtain rfl:k0=l.length:=by omega
 refine ⟨(F++Ob.arr ver 3 1 (l.map (.int .i64))::R).length,[],?_,?_⟩
 ·rw [show ddp l=l by simpa using hd]; rfl
 rw [qN,show ddp l=l by simpa using hd]; exact zah
theorem yal {g:List (List Int)} {nh nw:Nat} (hg:GW g nh nw) (rs:List Rect) {level:Bool} {line fr long:Nat} (h1:1≤long) (hin:∀ j,fr≤j→j<fr+long→InL nh nw level line j):PC Tryz.prog 96 [zb3 g rs,yhd ⟨level,line,fr,long⟩] (.tup [eInts (ddp (zbk g level line fr long).1),eInts (ddp (zbk g level line fr long).2)]) true:=by
 have hgg:=hg.2.2
 have hb:fr+long≤6:=by have h:=hin (fr+long - 1) (by omega) (by omega); unfold InL at h; cases level <;> simp at h <;> omega
 simp only[yhd,Wall.cells]
 refine PC.of ⟨Tryz.func96,by kernel_rfl,rfl,by kernel_rfl⟩ zao mixed (by show 2≤Tryz.f96.ntmps; decide) ?_
 refine W.r fun K hK=>?_
 simp(disch:=omega)only[↓RU,RV,RH,↓reduceIte,qE,reduceCtorEq,if_pos,↓RS,RG,qA,qM,qL,zam,z3y,zaa,z3z]
 apply hK;clear hK K
 refine W.r fun K hK=>?_
 simp(disch:=omega)only[↓RU,RV,RH,↓reduceIte,qE,reduceCtorEq,if_pos,↓RS,RG,qA,qM,qL]
 apply hK;clear hK K
 refine W.seq ?_
 refine W.r fun K hK=>?_
 simp(disch:=omega)only[↓RU,RV,RH,↓reduceIte,qE,reduceCtorEq,if_pos,↓RS,RG,qA,qM,qL,zam,z3y,zaa,z3z]
 apply hK;clear hK K
 refine W.block ?_
 refine W.loopS [0,3,6,7,8] (fun n vs S=>∃ j v0 v1 t:Nat,n=long - j∧j≤long∧vs=[zb3 g rs,.ref 0 0 0,slL (zbk g level line fr j).1 1 v0,slL (zbk g level line fr j).2 2 v1,.int .i64 (((fr+j:Nat):Int))]∧S=⟨(.arr 0 105 4 [.bool level,.int .i64 line,.int .i64 fr,.int .i64 long])::tlL (zbk g level line fr j).1 (zbk g level line fr j).2 v0 v1,t⟩) long ?_ ?_
 ·refine ⟨1,[],[zb3 g rs,.ref 0 0 0,slL (zbk g level line fr 0).1 1 0,slL (zbk g level line fr 0).2 2 0,.int .i64 (((fr+0:Nat):Int))],⟨(.arr 0 105 4 [.bool level,.int .i64 line,.int .i64 fr,.int .i64 long])::tlL (zbk g level line fr 0).1 (zbk g level line fr 0).2 0 0,2⟩,?_,?_,0,0,0,2,rfl,by omega,rfl,rfl⟩
  ·simp [-qU,Env.put,Env.of,zae,zbq,zag,zaj,zap,zar,zbz,zb0,zc9,zby,za2,zb1,zc8,zda,za4,za3,zas,zbx,zb2,zc7,za0,zaz,zaq,za1,zbw,ze9,qS,qP,qC,zbk,slL]
  simp [-qU,Env.put,Env.of,zae,zbq,zag,zaj,zap,zar,zbz,zb0,zc9,zby,za2,zb1,zc8,zda,za4,za3,zas,zbx,zb2,zc7,za0,zaz,zaq,za1,zbw,ze9,qS,qP,qC,zbk,tlL]
 rintro n vs S - ⟨j,v0,v1,t,rfl,h_j,rfl,rfl⟩
 refine W.seq ?_
 refine W.r fun K hK=>?_
 simp(disch:=omega)only[↓RU,RV,RH,↓reduceIte,qE,reduceCtorEq,if_pos,w64,↓RS,RG,qA,qM,qL,zam,z3y,zaa,z3z]
 apply hK;clear hK K
 refine W.cond rfl (fun h=>?_) (fun h=>?_)
 ·try simp only[RL]at h
  have hjl:j<long:=by omega
  have hij:=hin (fr+j) (by omega) (by omega)
  have hal:=znp (g:=g) (level:=level) (line:=line) (fr:=fr) (n:=j)
  refine W.skip ?_
  refine xn ?_
  refine W.seq ?_
  refine W.block ?_
  refine W.r fun K hK=>?_
  simp(disch:=omega)only[↓RU,RV,RH,↓reduceIte,qE,reduceCtorEq,if_pos,qN,↓RS,RG,qA,qM,qL,zam,z3y,zaa,z3z]
  refine zad.pc (z3v hg rs hij) rfl (.inl rfl) ?_
  simp(disch:=omega)only[↓RU,RV,RH,↓reduceIte,qE,reduceCtorEq,if_pos,qN,↓RS,RG,qA,qM,qL,zam,z3y,zaa,z3z]
  apply hK;clear hK K
  refine W.k fun K hK=>?_
  by_cases hj0:j=0
  ·skip
   subst hj0
   rw [show (zbk g level line fr 0)=([],[]) from rfl]
   rw [show slL ([],[]).1 1 v0 = .nils from rfl,show slL ([],[]).2 2 v1 = .nils from rfl,show tlL ([],[]).1 ([],[]).2 v0 v1=[] from rfl]
   simp(disch:=omega)only[↓RU,RV,RH,↓reduceIte,qE,reduceCtorEq,if_pos,↓RS,RG,qA,qM,qL,zab,zaa]
   apply hK;clear hK K
   refine XbN ?_
   refine xn ?_
   refine W.k fun K hK=>?_
   simp(disch:=omega)only[↓RU,RV,RH,↓reduceIte,qE,reduceCtorEq,if_pos,w64,↓RS,RG,qA,qM,qL,zaa]
   apply hK;clear hK K
   refine xn ?_
   refine ⟨long - ((0+1)),by omega,1,[2,4],[zb3 g rs,.ref 0 0 0,slL (zbk g level line fr (0+1)).1 1 (t+4),slL (zbk g level line fr (0+1)).2 2 (t+4),.int .i64 (((fr+(0+1):Nat):Int))],⟨(.arr 0 105 4 [.bool level,.int .i64 line,.int .i64 fr,.int .i64 long])::tlL (zbk g level line fr (0+1)).1 (zbk g level line fr (0+1)).2 (t+4) (t+4),(t+5)⟩,?_,?_,(0+1),(t+4),(t+4),(t+5),rfl,by omega,rfl,rfl⟩
   ·simp [-qU,Env.put,Env.of,zae,zbq,zag,zaj,zap,zar,zbz,zb0,zc9,zby,za2,zb1,zc8,zda,za4,za3,zas,zbx,zb2,zc7,za0,zaz,zaq,za1,zbw,ze9,qS,qP,qC,show zbk g level line fr 0=([],[]) from rfl,show List.idxOf 4 [2,4]=1 from rfl,Int.add_assoc,zf9,zga,zui,hal.1,hal.2]
   simp [-qU,Env.put,Env.of,zae,zbq,zag,zaj,zap,zar,zbz,zb0,zc9,zby,za2,zb1,zc8,zda,za4,za3,zas,zbx,zb2,zc7,za0,zaz,zaq,za1,zbw,ze9,qS,qP,qC,show zbk g level line fr 0=([],[]) from rfl,show List.idxOf 4 [2,4]=1 from rfl,zf9,zga,z3x,zfr,zk2,hal.1,hal.2]
  skip
  have hne1:(zbk g level line fr j).1≠[]:=by intro h; have:=hal.1; rw [h]at this; simp at this; omega
  have hne2:(zbk g level line fr j).2≠[]:=by intro h; have:=hal.2; rw [h]at this; simp at this; omega
  rw [zui hne1,zui hne2,z3x hne1]
  simp(disch:=omega)only[↓RU,RV,RH,↓reduceIte,qE,reduceCtorEq,if_pos,↓RS,RG,qA,qM,qL,zab,zaa,hal.1,hal.2]
  apply hK;clear hK K
  refine XbN ?_
  refine xn ?_
  refine W.k fun K hK=>?_
  simp(disch:=omega)only[↓RU,RV,RH,↓reduceIte,qE,reduceCtorEq,if_pos,w64,↓RS,RG,qA,qM,qL,zaa]
  apply hK;clear hK K
  refine xn ?_
  refine ⟨long - ((j+1)),by omega,3,[],[zb3 g rs,.ref 0 0 0,slL (zbk g level line fr (j+1)).1 1 (t+1),slL (zbk g level line fr (j+1)).2 2 (t+3),.int .i64 (((fr+(j+1):Nat):Int))],⟨(.arr 0 105 4 [.bool level,.int .i64 line,.int .i64 fr,.int .i64 long])::tlL (zbk g level line fr (j+1)).1 (zbk g level line fr (j+1)).2 (t+1) (t+3),(t+5)⟩,?_,?_,(j+1),(t+1),(t+3),(t+5),rfl,by omega,rfl,rfl⟩
  ·simp [-qU,Env.put,Env.of,zae,zbq,zag,zaj,zap,zar,zbz,zb0,zc9,zby,za2,zb1,zc8,zda,za4,za3,zas,zbx,zb2,zc7,za0,zaz,zaq,za1,zbw,ze9,qS,qP,qC,Int.add_assoc,zf9,zga,zui,hal.1,hal.2]
  simp [-qU,Env.put,Env.of,zae,zbq,zag,zaj,zap,zar,zbz,zb0,zc9,zby,za2,zb1,zc8,zda,za4,za3,zas,zbx,zb2,zc7,za0,zaz,zaq,za1,zbw,ze9,qS,qP,qC,zf9,zga,z3x,zfr,zk2,hal.1,hal.2]
 try simp only[RL]at h
 obtain rfl:long=j:=by omega
 refine W.exit ?_
 refine xe ?_
 refine xe ?_
 refine XBlock.hit ?_
 refine xn ?_
 refine W.r fun K hK=>?_
 have hal:=znp (g:=g) (level:=level) (line:=line) (fr:=fr) (n:=long)
 have hne1:(zbk g level line fr long).1≠[]:=by intro h; have:=hal.1; rw [h]at this; simp at this; omega
 have hne2:(zbk g level line fr long).2≠[]:=by intro h; have:=hal.2; rw [h]at this; simp at this; omega
 rw [zui hne1,zui hne2,z3x hne1]
 simp(disch:=omega)only[↓RU,RV,RH,↓reduceIte,qE,reduceCtorEq,if_pos,qN,↓RS,RG,qA,qM,qL]
 refine zad.ev (znr (F:=[(.arr 0 105 4 [.bool level,.int .i64 line,.int .i64 fr,.int .i64 long])]) (R:=[.arr v1 3 1 ((zbk g level line fr long).2.map (.int .i64))]) (l:=(zbk g level line fr long).1) (by omega)) ?_
 rintro _ _ ⟨z1,rfl,rfl⟩
 simp(disch:=omega)only[↓RU,RV,RH,↓reduceIte,qE,reduceCtorEq,if_pos,qN,↓RS,RG,qA,qM,qL]
 refine zad.ev (znr (F:=[(.arr 0 105 4 [.bool level,.int .i64 line,.int .i64 fr,.int .i64 long]),.arr v0 3 1 ((ddp (zbk g level line fr long).1++z1).map (.int .i64))]) (R:=[]) (l:=(zbk g level line fr long).2) (by omega)) ?_
 rintro _ _ ⟨z2,rfl,rfl⟩
 simp(disch:=omega)only[↓RU,RV,RH,↓reduceIte,qE,reduceCtorEq,if_pos,qN,↓RS,RG,qA,qM,qL]
 apply hK;clear hK K
 refine W.ret ?_
 refine Br rfl ?_
 exact zik (zys (k:=7) rfl) (zys (k:=7) rfl)
abbrev eBools (l:List Bool):PV := .sl (l.map .bool) l.length
abbrev zhp (M:List (List Bool)):PV := .sl (M.map eBools) M.length
theorem zak {S S':Store} (h:S=S'):S.take S.obs.length=S':=by rw [zah,h]
def Sq (n:Nat) (M:List (List Bool)):Prop:=M.length=n∧∀ r∈M,r.length=n
def zdc (M:List (List Bool)) (a b:Nat):Bool:=(M[a]?.getD [])[b]?.getD false
def z5o (M:List (List Bool)) (a b:Nat) (x:Bool):List (List Bool):=M.set a ((M[a]?.getD []).set b x)
theorem Sq.at_ {n:Nat} {M:List (List Bool)} (h:Sq n M) {a b:Nat} (ha:a<n) (hb:b<n):∃ row,M[a]?=some row∧row.length=n∧row[b]?=some (zdc M a b):=by
 obtain ⟨row,hr,hm⟩:=zaf (show a<M.length by rw [h.1]; exact ha)
 have hl:=h.2 row hm
 obtain ⟨x,hx,-⟩:=zaf (show b<row.length by omega)
 exact ⟨row,hr,hl,by simp [zdc,hr,hx]⟩
theorem Sq.set {n:Nat} {M:List (List Bool)} (h:Sq n M) {a b:Nat} {x:Bool} (ha:a<n):Sq n (z5o M a b x):=by
 obtain ⟨row,hr,hm⟩:=zaf (show a<M.length by rw [h.1]; exact ha)
 refine ⟨by simp [z5o,h.1],fun r hr'=>?_⟩
 rcases List.mem_or_eq_of_mem_set hr' with h1 | rfl
 ·exact h.2 r h1
 simp [hr,h.2 row hm]
theorem zhk {M:List (List Bool)} {a b:Nat} {x:Bool} {row:List Bool} (h:M[a]?=some row):z5o M a b x=M.set a (row.set b x):=by simp [z5o,h]
def zb8 (n:Nat):List (List Bool):=List.replicate n (List.replicate n false)
theorem ze8 (n:Nat):Sq n (zb8 n):=⟨by simp [zb8],fun r hr=>by rw [(List.mem_replicate.1 hr).2]; simp⟩
def zbn (k t:Nat) (M:List (List Bool)):List Ob :=
 .arr t 108 1 ((List.range M.length).map fun i => .loc (k+1+i) t 0 M.length)::M.map fun r => .arr t 4 1 (r.map .bool)
theorem zai {k t:Nat} {M:List (List Bool)}:(zbn k t M).length=M.length+1:=by simp [zbn]
theorem z6a {F R:List Ob} {t:Nat} {M:List (List Bool)} {n:Nat} (h:M.length=n):(F++(zbn F.length t M++R))[F.length]?=some (.arr t 108 1 ((List.range n).map fun i => .loc (F.length+1+i) t 0 n)):=by
 subst h; simp [zbn]
theorem zyu {F R:List Ob} {t a:Nat} {M:List (List Bool)} {row:List Bool} (h:M[a]?=some row):(F++(zbn F.length t M++R))[F.length+1+a]?=some (.arr t 4 1 (row.map .bool)):=by
 have ha:=zbd h
 rw [List.getElem?_append_right (by omega),List.getElem?_append_left (by rw [zai]; omega),show F.length+1+a - F.length=a+1 by omega]
 simp [zbn,h]
theorem zm6 {F R:List Ob} {t a:Nat} {M:List (List Bool)} {row:List Bool} {n:Nat} (hn:M.length=n) (h:a<n):(F++(zbn F.length t M++R)).set (F.length+1+a) (.arr t 4 1 (row.map .bool))=F++(zbn F.length t (M.set a row)++R):=by
 subst hn
 rw [List.set_append_right _ _ (by omega),List.set_append_left _ _ (by rw [zai]; omega),show F.length+1+a - F.length=a+1 by omega]
 simp [zbn,List.map_set]
theorem zle {n a:Nat} (h:a<n):(List.range n)[a]?=some a:=List.getElem?_range h
theorem zf8 {l:List Bool} {a:Nat} {x:Bool}:(l.map PV.bool).set a (.bool x)=(l.set a x).map PV.bool:=by rw [List.map_set]
theorem zyv:∀ (n:Nat),repz [PV.bool false] n=(List.replicate n false).map PV.bool
 | 0=>rfl
 | n+1=>by rw [zhe,zyv n,List.replicate_succ]; rfl
theorem zm7:∀ (n:Nat),repz [PV.nils] n=List.replicate n PV.nils
 | 0=>rfl
 | n+1=>by rw [zhe,zm7 n,List.replicate_succ]; rfl
theorem z0l {α:Type} {f:α→PV} {g:PV→Option PV} {h:α→PV}:∀ {l:List α},(∀ a∈l,g (f a)=some (h a))→(l.map f).mapM g=some (l.map h)
 | [],_=>rfl
 | a::l,H=>by
  rw [List.map_cons,qC,H a (by simp),z0l (l:=l) fun x hx=>H x (by simp [hx])]; rfl
theorem z3r {α:Type} {f h:α→Ob} {S:Store} {im:Bool}:∀ {l:List α},(∀ a∈l,zy9 S im (f a)=some (h a))→zf5 S im (l.map f)=some (l.map h)
 | [],_=>rfl
 | a::l,H=>by
  rw [List.map_cons,zf5,H a (by simp),Option.bind_some,z3r (l:=l) fun x hx=>H x (by simp [hx])]; rfl
def grX (n i:Nat):List PV:=((List.range i).map fun j=>PV.loc (j+1) (j+1) 0 n)++List.replicate (n - i) .nils
def grY (n i:Nat):List Ob:=(List.range i).map fun j => .arr (j+1) 4 1 ((List.replicate n false).map .bool)
theorem yew {n i:Nat} (h:i≤n):(grX n i).length=n:=by simp [grX]; omega
theorem yex {n i:Nat}:(grY n i).length=i:=by simp [grY]
theorem ya6 {n i:Nat}:grY n (i+1)=grY n i++[.arr (i+1) 4 1 ((List.replicate n false).map .bool)]:=by simp [grY,qS]
theorem ya5 {n i:Nat} (h:i<n):(grX n i).take i++[.loc (i+1) (i+1) 0 n]++(grX n i).drop (i+1)=grX n (i+1):=by
 unfold grX
 have e:((List.range i).map fun j=>PV.loc (j+1) (j+1) 0 n).length=i:=by simp
 rw [List.take_append_of_le_length (by omega),qT (by omega)]
 have:(((List.range i).map fun j=>PV.loc (j+1) (j+1) 0 n)++List.replicate (n - i) PV.nils).drop (i+1)=List.replicate (n - (i+1)) PV.nils:=by
  rw [List.drop_append,List.drop_of_length_le (by omega),e,List.nil_append,List.drop_replicate]; congr 1; omega
 rw [this,qS]; simp
def zfn (n i:Nat):List Ob := .arr 0 108 1 (grX n i)::grY n i
theorem yey {n t:Nat} {im:Bool}:∃ k,sh (Store.take ⟨zfn n n,t⟩ k) im 10 (.loc 0 0 0 n)=some (.loc 0 0 0 n)∧zf5 (Store.take ⟨zfn n n,t⟩ k) im (Store.take ⟨zfn n n,t⟩ k).obs=some (zbn 0 0 (zb8 n)):=by
 refine ⟨(zfn n n).length,?_⟩
 have e:Store.take ⟨zfn n n,t⟩ (zfn n n).length=⟨zfn n n,t⟩:=zah
 rw [e]
 refine ⟨rfl,?_⟩
 have hrow:∀ j,j<n→(zfn n n)[j+1]?=some (.arr (j+1) 4 1 ((List.replicate n false).map .bool)):=by
  intro j hj; simp [zfn,grY,hj]
 have h1:((List.range n).map fun j=>PV.loc (j+1) (j+1) 0 n).mapM (sh ⟨zfn n n,t⟩ im 10)=some ((List.range n).map fun j=>PV.loc (0+1+j) 0 0 n):=by
  refine z0l fun j hj=>?_
  have hj:=List.mem_range.1 hj
  simp only[sh,hrow j hj,if_true]
  congr 2; omega
 have h2:zf5 ⟨zfn n n,t⟩ im ((List.range n).map fun j => .arr (j+1) 4 1 ((List.replicate n false).map .bool))=some ((List.range n).map fun _ => .arr 0 4 1 ((List.replicate n false).map .bool)):=by
  refine z3r fun j _=>?_
  simp only[zy9]
  rw [yfy (by simp [List.all_replicate,scal])]; rfl
 have h3:(zb8 n).length=n:=by simp [zb8]
 show zf5 ⟨zfn n n,t⟩ im (zfn n n)=_
 conv=>lhs; arg 3; unfold zfn grX grY
 rw [zf5,Nat.sub_self,List.replicate_zero,qN]
 simp only[zy9]
 rw [h1]
 simp only[qO,Option.bind_some]
 rw [h2]
 simp only[qO,zbn,h3]
 congr 2
 simp [zb8,List.map_const']
theorem zgi {k t:Nat} {M:List (List Bool)}:(zbn 0 0 M).map (z50 k t)=zbn k t M:=by
 simp only[zbn,List.map_cons,zkx,List.map_map]
 congr 1
 ·congr 1
  apply List.map_congr_left
  intro i _
  simp only[Function.comp,zzn]
  congr 1; omega
 apply List.map_congr_left
 intro r _
 simp only[Function.comp,zkx,zv9]
theorem zyt {S:Store} {im:Bool} {f k t:Nat} {M:List (List Bool)} {n:Nat} (hM:Sq n M) (h0:S.obs[k]?=some (.arr t 108 1 ((List.range n).map fun i => .loc (k+1+i) t 0 n)))
  (h1:∀ a row,M[a]?=some row→S.obs[k+1+a]?=some (.arr t 4 1 (row.map .bool))):reify S im (f+3) (.loc k t 0 n)=some (zhp M):=by
 have hm:((List.range n).map fun i=>PV.loc (k+1+i) t 0 n).mapM (reify S im (f+2))=some ((List.range n).map fun i=>eBools (M[i]?.getD [])):=by
  refine z0l fun i hi=>?_
  have hi:=List.mem_range.1 hi
  obtain ⟨row,hr,hm⟩:=zaf (show i<M.length by rw [hM.1]; exact hi)
  have hl:=hM.2 row hm
  rw [hr]
  have:=zb5 (n:=n) (k:=f+1) (im:=im) (h1 i row hr) (by simp [hl]) (z71 row)
  rw [this]
  simp [eBools,hl]
 have:=zb5 (n:=n) (k:=f+2) (im:=im) h0 (by simp) hm
 rw [this]
 have e:((List.range n).map fun i=>eBools (M[i]?.getD []))=M.map eBools:=by
  apply List.ext_getElem
  ·simp [hM.1]
  intro i a b
  have:i<M.length:=by rw [hM.1]; simpa using a
  simp [this]
 rw [e]
 simp [zhp,hM.1]
def clB (k a:Nat) (M:List (List Bool)) (b:Nat):List (List Bool):=z5o M a b (zdc M a b || (zdc M a k && zdc M k b))
def clA (n k:Nat) (M:List (List Bool)) (a:Nat):List (List Bool):=(List.range n).foldl (clB k a) M
def clK (n:Nat) (M:List (List Bool)) (k:Nat):List (List Bool):=(List.range n).foldl (clA n k) M
def zgb (M:List (List Bool)):List (List Bool):=(List.range M.length).foldl (clK M.length) M
theorem Sq.foldl {n:Nat} {f:List (List Bool)→Nat→List (List Bool)}:∀ (i:Nat) {M:List (List Bool)},(∀ M j,j<i→Sq n M→Sq n (f M j))→Sq n M→Sq n ((List.range i).foldl f M)
 | 0,M,_,h=>by simpa using h
 | i+1,M,hf,h=>by
  rw [zco]
  exact hf _ i (Nat.lt_succ_self i) (Sq.foldl i (fun M j hj=>hf M j (by omega)) h)
theorem Sq.clB {n:Nat} {M:List (List Bool)} {k a b:Nat} (h:Sq n M) (ha:a<n):Sq n (clB k a M b):=h.set ha
theorem Sq.clA {n:Nat} {M:List (List Bool)} {k a:Nat} (h:Sq n M) (ha:a<n):Sq n (clA n k M a):=Sq.foldl n (fun _ _ _ h=>h.clB ha) h
theorem Sq.clK {n:Nat} {M:List (List Bool)} {k:Nat} (h:Sq n M):Sq n (clK n M k):=Sq.foldl n (fun _ _ hj h=>h.clA hj) h
theorem Sq.close {n:Nat} {M:List (List Bool)} (h:Sq n M):Sq n (zgb M):=by
 unfold zgb; rw [h.1]; exact Sq.foldl n (fun _ _ _ h=>h.clK) h
theorem zg8 {nr:Nat} (hn:nr≤9):PN Tryz.prog 94 [.int .i64 nr] (.loc 0 0 0 nr) (zbn 0 0 (zb8 nr)) false:=by
 refine PN.of ⟨Tryz.func94,by kernel_rfl,rfl,by kernel_rfl⟩ zao mixed (by show 1≤Tryz.f94.ntmps; decide) ?_
 refine W.r fun K hK=>?_
 simp(disch:=omega)only[↓RU,RV,RH,↓reduceIte,qE,reduceCtorEq,if_pos,↓RS,RG,qA,qM,qL]
 apply hK;clear hK K
 refine W.r fun K hK=>?_
 simp(disch:=omega)only[↓RU,RV,RH,↓reduceIte,qE,reduceCtorEq,if_pos,↓RS,RG,qA,qM,qL,ty0,ty3,zam,zfb,zm7,zdv]
 apply hK;clear hK K
 refine W.seq ?_
 refine W.r fun K hK=>?_
 simp(disch:=omega)only[↓RU,RV,RH,↓reduceIte,qE,reduceCtorEq,if_pos,↓RS,RG,qA,qM,qL,ty0,ty3,zam,zfb]
 apply hK;clear hK K
 refine W.block ?_
 refine W.loop [0,3,8,9] (fun n vs S=>∃ i:Nat,n=nr - i∧i≤nr∧vs=[.int .i64 nr,.loc 0 0 0 nr,.int .i64 nr,.int .i64 i]∧S=⟨.arr 0 108 1 (grX nr i)::grY nr i,i+1⟩) (nr) ?_ ?_
 ·refine ⟨_,0,rfl,Nat.zero_le _,?_,zak (by simp [grX,grY])⟩
  simp [Env.put,Env.of,zae]
 rintro n vs S - ⟨i,rfl,h_i,rfl,rfl⟩
 refine W.r fun K hK=>?_
 simp(disch:=omega)only[↓RU,RV,RH,↓reduceIte,qE,reduceCtorEq,if_pos,w64,↓RS,RG,qA,qM,qL,zaa]
 apply hK;clear hK K
 refine W.seq ?_
 refine W.cond rfl (fun h=>?_) (fun h=>?_)
 ·try simp only[RL]at h
  have hx:=yew (show i≤nr by omega)
  refine W.skip ?_
  refine xn ?_
  refine W.seq ?_
  refine W.block ?_
  refine W.r fun K hK=>?_
  simp(disch:=omega)only[↓RU,RV,RH,↓reduceIte,qE,reduceCtorEq,if_pos,↓RS,RG,qA,qM,qL]
  apply hK;clear hK K
  refine W.k fun K hK=>?_
  simp(disch:=omega)only[↓RU,RV,RH,↓reduceIte,qE,reduceCtorEq,if_pos,↓RS,RG,qA,qM,qL,ty0,ty3,zam,zfb,zyv,zdv,yex,hx,ya5]
  apply hK;clear hK K
  refine XbN ?_
  refine xn ?_
  refine W.k fun K hK=>?_
  simp(disch:=omega)only[↓RU,RV,RH,↓reduceIte,qE,reduceCtorEq,if_pos,w64,↓RS,RG,qA,qM,qL,zaa]
  apply hK;clear hK K
  refine xn ?_
  refine ⟨nr - (i+1),by omega,_,i+1,rfl,by omega,?_,zak (by simp [ya6])⟩
  simp [Env.put,Env.of]
 try simp only[RL]at h
 refine W.exit ?_
 refine xe ?_
 refine xe ?_
 refine XBlock.hit ?_
 refine xn ?_
 refine W.r fun K hK=>?_
 simp(disch:=omega)only[↓RU,RV,RH,↓reduceIte,qE,reduceCtorEq,if_pos,↓RS,RG,qA,qM,qL]
 apply hK;clear hK K
 refine W.ret ?_
 refine Br rfl ?_
 obtain rfl:nr=i:=by omega
 exact yey
theorem z1p {F R:List Ob} {t tk nr:Nat} {M:List (List Bool)} (hM:Sq nr M) (hn:nr≤9):Ev Tryz.prog 97 [.loc F.length t 0 nr] ⟨F++(zbn F.length t (M)++R),tk⟩ fun v S=>v = .tup []∧S=⟨F++(zbn F.length t (zgb M)++R),tk⟩:=by
 refine Ev.of ⟨Tryz.func97,by kernel_rfl,rfl,by kernel_rfl⟩ zao mixed (by show 1≤Tryz.f97.ntmps; decide) ?_
 refine W.r fun K hK=>?_
 simp(disch:=omega)only[↓RU,RV,RH,↓reduceIte,qE,reduceCtorEq,if_pos,↓RS,RG,qA,qM,qL,ty0,ty3,zam,zfb,z6a hM.1]
 apply hK;clear hK K
 refine W.block ?_
 refine W.loop [0,6,7] (fun n vs S=>∃ k:Nat,n=nr - k∧k≤nr∧vs=[.loc F.length t 0 nr,.int .i64 nr,.int .i64 k]∧S=⟨F++(zbn F.length t ((List.range k).foldl (clK nr) M)++R),tk⟩) (nr) ?_ ?_
 ·refine ⟨_,0,rfl,Nat.zero_le _,?_,zak rfl⟩
  simp [Env.put,Env.of,zae]
 rintro n vs S - ⟨k,rfl,h_k,rfl,rfl⟩
 refine W.r fun K hK=>?_
 simp(disch:=omega)only[↓RU,RV,RH,↓reduceIte,qE,reduceCtorEq,if_pos,w64,↓RS,RG,qA,qM,qL,zaa]
 apply hK;clear hK K
 refine W.seq ?_
 refine W.cond rfl (fun h=>?_) (fun h=>?_)
 ·try simp only[RL]at h
  have hX:=Sq.foldl (f:=clK nr) k (fun _ _ _ h=>h.clK) hM
  generalize hXe:(List.range k).foldl (clK nr) M=X at hX
  refine W.skip ?_
  refine xn ?_
  refine W.seq ?_
  refine W.block ?_
  refine W.r fun K hK=>?_
  simp(disch:=omega)only[↓RU,RV,RH,↓reduceIte,qE,reduceCtorEq,if_pos,↓RS,RG,qA,qM,qL]
  apply hK;clear hK K
  refine W.r fun K hK=>?_
  simp(disch:=omega)only[↓RU,RV,RH,↓reduceIte,qE,reduceCtorEq,if_pos,↓RS,RG,qA,qM,qL,ty0,ty3,zam,zfb,hXe,z6a hX.1]
  apply hK;clear hK K
  refine W.block ?_
  refine W.loop [0,2,6,7,11,12] (fun n vs S=>∃ a:Nat,n=nr - a∧a≤nr∧vs=[.loc F.length t 0 nr,.int .i64 k,.int .i64 nr,.int .i64 k,.int .i64 nr,.int .i64 a]∧S=⟨F++(zbn F.length t ((List.range a).foldl (clA nr k) X)++R),tk⟩) (nr) ?_ ?_
  ·refine ⟨_,0,rfl,Nat.zero_le _,?_,zak rfl⟩
   simp [Env.put,Env.of,zae]
  rintro n vs S - ⟨a,rfl,h_a,rfl,rfl⟩
  refine W.r fun K hK=>?_
  simp(disch:=omega)only[↓RU,RV,RH,↓reduceIte,qE,reduceCtorEq,if_pos,w64,↓RS,RG,qA,qM,qL,zaa]
  apply hK;clear hK K
  refine W.seq ?_
  refine W.cond rfl (fun h1=>?_) (fun h1=>?_)
  ·try simp only[RL]at h1
   have hY:=Sq.foldl (f:=clA nr k) a (fun _ _ hj h=>h.clA (by omega)) hX
   generalize hYe:(List.range a).foldl (clA nr k) X=Y at hY
   refine W.skip ?_
   refine xn ?_
   refine W.seq ?_
   refine W.block ?_
   refine W.r fun K hK=>?_
   simp(disch:=omega)only[↓RU,RV,RH,↓reduceIte,qE,reduceCtorEq,if_pos,↓RS,RG,qA,qM,qL]
   apply hK;clear hK K
   refine W.r fun K hK=>?_
   simp(disch:=omega)only[↓RU,RV,RH,↓reduceIte,qE,reduceCtorEq,if_pos,↓RS,RG,qA,qM,qL,ty0,ty3,zam,zfb,hYe,z6a hY.1]
   apply hK;clear hK K
   refine W.block ?_
   refine W.loop [0,2,3,6,7,11,12,16,17] (fun n vs S=>∃ b:Nat,n=nr - b∧b≤nr∧vs=[.loc F.length t 0 nr,.int .i64 k,.int .i64 a,.int .i64 nr,.int .i64 k,.int .i64 nr,.int .i64 a,.int .i64 nr,.int .i64 b]∧S=⟨F++(zbn F.length t ((List.range b).foldl (clB k a) Y)++R),tk⟩) (nr) ?_ ?_
   ·refine ⟨_,0,rfl,Nat.zero_le _,?_,zak rfl⟩
    simp [Env.put,Env.of,zae]
   rintro n vs S - ⟨b,rfl,h_b,rfl,rfl⟩
   refine W.r fun K hK=>?_
   simp(disch:=omega)only[↓RU,RV,RH,↓reduceIte,qE,reduceCtorEq,if_pos,w64,↓RS,RG,qA,qM,qL,zaa]
   apply hK;clear hK K
   refine W.seq ?_
   refine W.cond rfl (fun h2=>?_) (fun h2=>?_)
   ·try simp only[RL]at h2
    have hZ:=Sq.foldl (f:=clB k a) b (fun _ _ _ h=>h.clB (show a<nr by omega)) hY
    generalize hZe:(List.range b).foldl (clB k a) Y=Z at hZ
    have hZl:=hZ.1
    obtain ⟨ra,hra,hral,hrab⟩:=hZ.at_ (show a<nr by omega) (show b<nr by omega)
    obtain ⟨ra2,hra2,-,hrak⟩:=hZ.at_ (show a<nr by omega) (show k<nr by omega)
    obtain ⟨rk,hrk,hrkl,hrkb⟩:=hZ.at_ (show k<nr by omega) (show b<nr by omega)
    obtain rfl:ra=ra2:=by rw [hra]at hra2; exact Option.some.inj hra2
    refine W.skip ?_
    refine xn ?_
    refine W.seq ?_
    refine W.block ?_
    refine W.r fun K hK=>?_
    simp(disch:=omega)only[↓RU,RV,RH,↓reduceIte,qE,reduceCtorEq,if_pos,↓RS,RG,qA,qM,qL]
    apply hK;clear hK K
    refine W.draw_k (by kernel_rfl) fun K hK=>?_
    rcases hv:(zdc Z a b,zdc Z a k,zdc Z k b) with ⟨_ | _,_ | _,_ | _⟩
    ·skip
     simp only[Prod.mk.injEq]at hv
     obtain ⟨hv1,hv2,hv3⟩:=hv
     rw [hv1]at hrab
     rw [hv2]at hrak
     rw [hv3]at hrkb
     simp(disch:=omega)only[↓RU,RV,RH,↓reduceIte,qE,reduceCtorEq,if_pos,↓RS,RG,qA,qM,qL,ty0,ty3,zam,zfb,hZe,z6a hZl,zle,zyu hra,zyu hrk,hrab,hrak,hrkb,zbo,zf8,hral,zm6 hZl]
     apply hK;clear hK K
     refine XbN ?_
     refine xn ?_
     refine W.k fun K hK=>?_
     simp(disch:=omega)only[↓RU,RV,RH,↓reduceIte,qE,reduceCtorEq,if_pos,w64,↓RS,RG,qA,qM,qL,zaa]
     apply hK;clear hK K
     refine xn ?_
     refine ⟨nr - (b+1),by omega,_,b+1,rfl,by omega,?_,zak (by rw [zco,hZe,clB,zhk hra]; simp [hv1,hv2,hv3])⟩
     simp [Env.put,Env.of]
    ·skip
     simp only[Prod.mk.injEq]at hv
     obtain ⟨hv1,hv2,hv3⟩:=hv
     rw [hv1]at hrab
     rw [hv2]at hrak
     rw [hv3]at hrkb
     simp(disch:=omega)only[↓RU,RV,RH,↓reduceIte,qE,reduceCtorEq,if_pos,↓RS,RG,qA,qM,qL,ty0,ty3,zam,zfb,hZe,z6a hZl,zle,zyu hra,zyu hrk,hrab,hrak,hrkb,zbo,zf8,hral,zm6 hZl]
     apply hK;clear hK K
     refine XbN ?_
     refine xn ?_
     refine W.k fun K hK=>?_
     simp(disch:=omega)only[↓RU,RV,RH,↓reduceIte,qE,reduceCtorEq,if_pos,w64,↓RS,RG,qA,qM,qL,zaa]
     apply hK;clear hK K
     refine xn ?_
     refine ⟨nr - (b+1),by omega,_,b+1,rfl,by omega,?_,zak (by rw [zco,hZe,clB,zhk hra]; simp [hv1,hv2,hv3])⟩
     simp [Env.put,Env.of]
    ·skip
     simp only[Prod.mk.injEq]at hv
     obtain ⟨hv1,hv2,hv3⟩:=hv
     rw [hv1]at hrab
     rw [hv2]at hrak
     rw [hv3]at hrkb
     simp(disch:=omega)only[↓RU,RV,RH,↓reduceIte,qE,reduceCtorEq,if_pos,↓RS,RG,qA,qM,qL,ty0,ty3,zam,zfb,hZe,z6a hZl,zle,zyu hra,zyu hrk,hrab,hrak,hrkb,zbo,zf8,hral,zm6 hZl]
     apply hK;clear hK K
     refine XbN ?_
     refine xn ?_
     refine W.k fun K hK=>?_
     simp(disch:=omega)only[↓RU,RV,RH,↓reduceIte,qE,reduceCtorEq,if_pos,w64,↓RS,RG,qA,qM,qL,zaa]
     apply hK;clear hK K
     refine xn ?_
     refine ⟨nr - (b+1),by omega,_,b+1,rfl,by omega,?_,zak (by rw [zco,hZe,clB,zhk hra]; simp [hv1,hv2,hv3])⟩
     simp [Env.put,Env.of]
    ·skip
     simp only[Prod.mk.injEq]at hv
     obtain ⟨hv1,hv2,hv3⟩:=hv
     rw [hv1]at hrab
     rw [hv2]at hrak
     rw [hv3]at hrkb
     simp(disch:=omega)only[↓RU,RV,RH,↓reduceIte,qE,reduceCtorEq,if_pos,↓RS,RG,qA,qM,qL,ty0,ty3,zam,zfb,hZe,z6a hZl,zle,zyu hra,zyu hrk,hrab,hrak,hrkb,zbo,zf8,hral,zm6 hZl]
     apply hK;clear hK K
     refine XbN ?_
     refine xn ?_
     refine W.k fun K hK=>?_
     simp(disch:=omega)only[↓RU,RV,RH,↓reduceIte,qE,reduceCtorEq,if_pos,w64,↓RS,RG,qA,qM,qL,zaa]
     apply hK;clear hK K
     refine xn ?_
     refine ⟨nr - (b+1),by omega,_,b+1,rfl,by omega,?_,zak (by rw [zco,hZe,clB,zhk hra]; simp [hv1,hv2,hv3])⟩
     simp [Env.put,Env.of]
    ·skip
     simp only[Prod.mk.injEq]at hv
     obtain ⟨hv1,hv2,hv3⟩:=hv
     rw [hv1]at hrab
     rw [hv2]at hrak
     rw [hv3]at hrkb
     simp(disch:=omega)only[↓RU,RV,RH,↓reduceIte,qE,reduceCtorEq,if_pos,↓RS,RG,qA,qM,qL,ty0,ty3,zam,zfb,hZe,z6a hZl,zle,zyu hra,zyu hrk,hrab,hrak,hrkb,zbo,zf8,hral,zm6 hZl]
     apply hK;clear hK K
     refine XbN ?_
     refine xn ?_
     refine W.k fun K hK=>?_
     simp(disch:=omega)only[↓RU,RV,RH,↓reduceIte,qE,reduceCtorEq,if_pos,w64,↓RS,RG,qA,qM,qL,zaa]
     apply hK;clear hK K
     refine xn ?_
     refine ⟨nr - (b+1),by omega,_,b+1,rfl,by omega,?_,zak (by rw [zco,hZe,clB,zhk hra]; simp [hv1,hv2,hv3])⟩
     simp [Env.put,Env.of]
    ·skip
     simp only[Prod.mk.injEq]at hv
     obtain ⟨hv1,hv2,hv3⟩:=hv
     rw [hv1]at hrab
     rw [hv2]at hrak
     rw [hv3]at hrkb
     simp(disch:=omega)only[↓RU,RV,RH,↓reduceIte,qE,reduceCtorEq,if_pos,↓RS,RG,qA,qM,qL,ty0,ty3,zam,zfb,hZe,z6a hZl,zle,zyu hra,zyu hrk,hrab,hrak,hrkb,zbo,zf8,hral,zm6 hZl]
     apply hK;clear hK K
     refine XbN ?_
     refine xn ?_
     refine W.k fun K hK=>?_
     simp(disch:=omega)only[↓RU,RV,RH,↓reduceIte,qE,reduceCtorEq,if_pos,w64,↓RS,RG,qA,qM,qL,zaa]
     apply hK;clear hK K
     refine xn ?_
     refine ⟨nr - (b+1),by omega,_,b+1,rfl,by omega,?_,zak (by rw [zco,hZe,clB,zhk hra]; simp [hv1,hv2,hv3])⟩
     simp [Env.put,Env.of]
    ·skip
     simp only[Prod.mk.injEq]at hv
     obtain ⟨hv1,hv2,hv3⟩:=hv
     rw [hv1]at hrab
     rw [hv2]at hrak
     rw [hv3]at hrkb
     simp(disch:=omega)only[↓RU,RV,RH,↓reduceIte,qE,reduceCtorEq,if_pos,↓RS,RG,qA,qM,qL,ty0,ty3,zam,zfb,hZe,z6a hZl,zle,zyu hra,zyu hrk,hrab,hrak,hrkb,zbo,zf8,hral,zm6 hZl]
     apply hK;clear hK K
     refine XbN ?_
     refine xn ?_
     refine W.k fun K hK=>?_
     simp(disch:=omega)only[↓RU,RV,RH,↓reduceIte,qE,reduceCtorEq,if_pos,w64,↓RS,RG,qA,qM,qL,zaa]
     apply hK;clear hK K
     refine xn ?_
     refine ⟨nr - (b+1),by omega,_,b+1,rfl,by omega,?_,zak (by rw [zco,hZe,clB,zhk hra]; simp [hv1,hv2,hv3])⟩
     simp [Env.put,Env.of]
    skip
    simp only[Prod.mk.injEq]at hv
    obtain ⟨hv1,hv2,hv3⟩:=hv
    rw [hv1]at hrab
    rw [hv2]at hrak
    rw [hv3]at hrkb
    simp(disch:=omega)only[↓RU,RV,RH,↓reduceIte,qE,reduceCtorEq,if_pos,↓RS,RG,qA,qM,qL,ty0,ty3,zam,zfb,hZe,z6a hZl,zle,zyu hra,zyu hrk,hrab,hrak,hrkb,zbo,zf8,hral,zm6 hZl]
    apply hK;clear hK K
    refine XbN ?_
    refine xn ?_
    refine W.k fun K hK=>?_
    simp(disch:=omega)only[↓RU,RV,RH,↓reduceIte,qE,reduceCtorEq,if_pos,w64,↓RS,RG,qA,qM,qL,zaa]
    apply hK;clear hK K
    refine xn ?_
    refine ⟨nr - (b+1),by omega,_,b+1,rfl,by omega,?_,zak (by rw [zco,hZe,clB,zhk hra]; simp [hv1,hv2,hv3])⟩
    simp [Env.put,Env.of]
   try simp only[RL]at h2
   obtain rfl:nr=b:=by omega
   refine W.exit ?_
   refine xe ?_
   refine xe ?_
   refine XBlock.hit ?_
   refine XbN ?_
   refine xn ?_
   refine W.k fun K hK=>?_
   simp(disch:=omega)only[↓RU,RV,RH,↓reduceIte,qE,reduceCtorEq,if_pos,w64,↓RS,RG,qA,qM,qL,zaa]
   apply hK;clear hK K
   refine xn ?_
   refine ⟨nr - (a+1),by omega,_,a+1,rfl,by omega,?_,zak (by rw [zco,hYe]; rfl)⟩
   simp [Env.put,Env.of]
  try simp only[RL]at h1
  obtain rfl:nr=a:=by omega
  refine W.exit ?_
  refine xe ?_
  refine xe ?_
  refine XBlock.hit ?_
  refine XbN ?_
  refine xn ?_
  refine W.k fun K hK=>?_
  simp(disch:=omega)only[↓RU,RV,RH,↓reduceIte,qE,reduceCtorEq,if_pos,w64,↓RS,RG,qA,qM,qL,zaa]
  apply hK;clear hK K
  refine xn ?_
  refine ⟨nr - (k+1),by omega,_,k+1,rfl,by omega,?_,zak (by rw [zco,hXe]; rfl)⟩
  simp [Env.put,Env.of]
 try simp only[RL]at h
 obtain rfl:nr=k:=by omega
 refine W.exit ?_
 refine xe ?_
 refine xe ?_
 refine XBlock.hit ?_
 refine zfe.norm rfl ?_
 refine ⟨_,rfl,zak ?_⟩
 rw [zgb,hM.1]
section
def relB (a:Int) (bs:List Int) (M:List (List Bool)):List (List Bool):=bs.foldl (fun M b=>z5o M a.toNat b.toNat true) M
def relW (M:List (List Bool)) (la bs:List Int):List (List Bool):=la.foldl (fun M a=>relB a bs M) M
def za6 (g:List (List Int)) (w:Wall):List Int × List Int :=
 (ddp (zbk g w.level w.line.toNat w.fr.toNat w.long.toNat).1,ddp (zbk g w.level w.line.toNat w.fr.toNat w.long.toNat).2)
def znn (g:List (List Int)) (M:List (List Bool) × List (List Bool)) (w:Wall):List (List Bool) × List (List Bool) :=
 if w.level then (M.1,relW M.2 (za6 g w).1 (za6 g w).2) else (relW M.1 (za6 g w).1 (za6 g w).2,M.2)
def ybg (g:List (List Int)) (nh nw n:Nat):List (List Bool) × List (List Bool):=(zct g nh nw).foldl (znn g) (zb8 n,zb8 n)
def zxq (g:List (List Int)) (nh nw n:Nat):List (List Bool):=zgb (ybg g nh nw n).1
def zol (g:List (List Int)) (nh nw n:Nat):List (List Bool):=zgb (ybg g nh nw n).2
def zuy (g:List (List Int)) (nh nw:Nat) (w:Wall):Prop :=
 ∃ line fr long:Nat,w=⟨w.level,line,fr,long⟩∧1≤long∧∀ j,fr≤j→j<fr+long→InL nh nw w.level line j∧zll g w.level line j=true
theorem zzq {g:List (List Int)} {nh nw:Nat} {level:Bool} {line places:Nat} (hin:∀ j,j<places→InL nh nw level line j) {ws:List Wall} (hws:∀ w∈ws,zuy g nh nw w):∀ n,n≤places →
  (∀ w∈(zb6 g level line ws n).1,zuy g nh nw w)∧((zb6 g level line ws n).2=true→∃ ws0,∃ fr long:Nat,(zb6 g level line ws n).1=ws0++[⟨level,line,fr,long⟩]∧fr+long=n∧1≤long∧∀ j,fr≤j→j<fr+long→InL nh nw level line j∧zll g level line j=true)
 | 0,_=>⟨hws,by simp [zb6]⟩
 | n+1,hn=>by
  obtain ⟨ih1,ih2⟩:=zzq hin hws n (by omega)
  rw [zem]
  generalize zb6 g level line ws n=s at ih1 ih2
  obtain ⟨ws',op⟩:=s
  simp only at ih1 ih2
  cases hd:zll g level line n with
  | false=>simp only[ze0,Bool.false_and,qF,if_false]; exact ⟨ih1,by simp⟩
  | true =>
   cases op with
   | false =>
    simp only[ze0,Bool.and_false,qF,if_false,if_true]
    have hnew:∀ j,n≤j→j<n+1→InL nh nw level line j∧zll g level line j=true:=by
     intro j h1 h2
     obtain rfl:j=n:=by omega
     exact ⟨hin _ (by omega),hd⟩
    refine ⟨fun w hw=>?_,fun _=>⟨ws',n,1,rfl,rfl,qR _,hnew⟩⟩
    rcases List.mem_append.1 hw with h | h
    ·exact ih1 w h
    rw [List.mem_singleton]at h; subst h
    exact ⟨line,n,1,rfl,qR _,hnew⟩
   | true =>
    obtain ⟨ws0,fr,long,e,h1,h2,h3⟩:=ih2 rfl
    subst e
    have hnew:∀ j,fr≤j→j<fr+(long+1)→InL nh nw level line j∧zll g level line j=true:=by
     intro j a b
     by_cases hj:j=n
     ·subst hj; exact ⟨hin _ (by omega),hd⟩
     exact h3 j a (by omega)
    simp only[ze0,Bool.and_self,if_true,List.dropLast_concat,List.getLast?_concat,qO,Option.toList_some]
    refine ⟨fun w hw=>?_,fun _=>⟨ws0,fr,long+1,rfl,by omega,by omega,hnew⟩⟩
    rcases List.mem_append.1 hw with h | h
    ·exact ih1 w (List.mem_append_left _ h)
    rw [List.mem_singleton]at h; subst h
    exact ⟨line,fr,long+1,rfl,by omega,hnew⟩
theorem zoi {g:List (List Int)} {nh nw:Nat} {level:Bool} {lines places:Nat} (hin:∀ l j,1≤l→l<lines→j<places→InL nh nw level l j) {ws:List Wall} (hws:∀ w∈ws,zuy g nh nw w):∀ line,line≤lines →
  ∀ w∈zcc g level places ws line,zuy g nh nw w
 | 0,_=>by simpa [zcc] using hws
 | line+1,hl=>by
  have ih:=zoi hin hws line (by omega)
  by_cases h:1≤line
  ·rw [zez h]
   exact (zzq (fun j hj=>hin line j h (by omega) hj) ih places (qR _)).1
  have:line=0:=by omega
  subst this
  simpa [zcc] using hws
theorem zec {g:List (List Int)} {nh nw:Nat}:∀ w∈zct g nh nw,zuy g nh nw w :=
 zoi (lines:=nh) (fun l j h1 h2 h3=>⟨h1,by simp; omega⟩) (zoi (lines:=nw) (fun l j h1 h2 h3=>⟨h1,by simp; omega⟩) (by simp) nw (qR _)) nh (qR _)
def zwh (g:List (List Int)) (nh nw n:Nat):Prop:=∀ i j,i<nh→j<nw→0≤gz g i j∧gz g i j<n
theorem zsb {g:List (List Int)} {nh nw n:Nat} (h:zwh g nh nw n) {level:Bool} {line j:Nat} (hi:InL nh nw level line j) :
  0≤(zcn g level line j).1∧(zcn g level line j).1<n∧0≤(zcn g level line j).2∧(zcn g level line j).2<n:=by
 obtain ⟨h1,h2⟩:=hi
 cases level with
 | true=>simp only[if_true]at h2; have a:=h (line - 1) j (by omega) h2.2; have b:=h line j h2.1 h2.2; simp only[zcn,if_true]; omega
 | false=>simp only[qF,if_false]at h2; have a:=h j (line - 1) h2.2 (by omega); have b:=h j line h2.2 h2.1; simp only[zcn,qF,if_false]; omega
theorem z61 {l:List Int} {x:Int} (h:x∈ddp l):x∈l:=by
 unfold ddp at h
 have:∀ (l m:List Int),x∈l.foldl zjc m→x∈m∨x∈l:=by
  intro l
  induction l with
  | nil=>intro m h; exact .inl h
  | cons a l ih =>
   intro m h
   rcases ih _ h with h | h
   ·rcases zm2 h with h | h
    ·exact .inl h
    exact .inr (by simp [h])
   exact .inr (by simp [h])
 rcases this l [] h with h | h
 ·simp at h
 exact h
theorem zft {g:List (List Int)} {nh nw n:Nat} (h:zwh g nh nw n) {w:Wall} (hw:zuy g nh nw w):(∀ x∈(za6 g w).1,0≤x∧x<n)∧(∀ x∈(za6 g w).2,0≤x∧x<n):=by
 obtain ⟨line,fr,long,e,h1,h2⟩:=hw
 have e1:w.line.toNat=line:=by rw [e]; simp
 have e2:w.fr.toNat=fr:=by rw [e]; simp
 have e3:w.long.toNat=long:=by rw [e]; simp
 simp only[za6,e1,e2,e3]
 refine ⟨fun x hx=>?_,fun x hx=>?_⟩
 ·have:=z61 hx
  simp only[zbk,List.mem_map,List.mem_range]at this
  obtain ⟨j,hj,rfl⟩:=this
  have:=zsb h (h2 (fr+j) (by omega) (by omega)).1
  omega
 have:=z61 hx
 simp only[zbk,List.mem_map,List.mem_range]at this
 obtain ⟨j,hj,rfl⟩:=this
 have:=zsb h (h2 (fr+j) (by omega) (by omega)).1
 omega
theorem z04 {g:List (List Int)} {nh nw:Nat} (hg:GW g nh nw) {w:Wall} (hw:zuy g nh nw w):(za6 g w).1.length≤6∧(za6 g w).2.length≤6:=by
 obtain ⟨line,fr,long,e,h1,h2⟩:=hw
 have hgg:=hg.2.2
 have hb:fr+long≤6:=by
  have h:=(h2 (fr+long - 1) (by omega) (by omega)).1.2
  cases hl:w.level <;> rw [hl]at h <;> simp at h <;> omega
 have e3:w.long.toNat=long:=by rw [e]; simp
 have h3:=znp (g:=g) (level:=w.level) (line:=w.line.toNat) (fr:=w.fr.toNat) (n:=long)
 simp only[za6,e3]
 exact ⟨Nat.le_trans (z60 _) (by omega),Nat.le_trans (z60 _) (by omega)⟩
theorem Sq.relB {n:Nat} {a:Int} (ha:a.toNat<n):∀ {bs:List Int} {M:List (List Bool)},Sq n M→Sq n (relB a bs M)
 | [],M,h=>h
 | b::bs,M,h=>by
  show Sq n (Fw.relB a bs (z5o M a.toNat b.toNat true))
  exact Sq.relB ha (h.set ha)
theorem Sq.relW {n:Nat} {bs:List Int}:∀ {la:List Int} {M:List (List Bool)},(∀ a∈la,a.toNat<n)→Sq n M→Sq n (relW M la bs)
 | [],M,_,h=>h
 | a::la,M,ha,h=>by
  show Sq n (Fw.relW (Fw.relB a bs M) la bs)
  exact Sq.relW (fun x hx=>ha x (by simp [hx])) (h.relB (ha a (by simp)))
theorem yfi {g:List (List Int)} {nh nw n:Nat} (h:zwh g nh nw n) {w:Wall} (hw:zuy g nh nw w) {M:List (List Bool) × List (List Bool)} (h1:Sq n M.1) (h2:Sq n M.2):Sq n (znn g M w).1∧Sq n (znn g M w).2:=by
 have hs:=(zft h hw).1
 unfold znn
 split
 ·exact ⟨h1,h2.relW fun a ha=>by have:=hs a ha; omega⟩
 exact ⟨h1.relW fun a ha=>by have:=hs a ha; omega,h2⟩
theorem zvj {g:List (List Int)} {nh nw n:Nat} (h:zwh g nh nw n):∀ {ws:List Wall},(∀ w∈ws,zuy g nh nw w)→∀ {M:List (List Bool) × List (List Bool)},Sq n M.1→Sq n M.2→Sq n (ws.foldl (znn g) M).1∧Sq n (ws.foldl (znn g) M).2
 | [],_,M,h1,h2=>⟨h1,h2⟩
 | w::ws,hw,M,h1,h2=>by
  obtain ⟨k1,k2⟩:=yfi h (hw w (by simp)) h1 h2
  exact zvj h (ws:=ws) (fun x hx=>hw x (by simp [hx])) k1 k2
theorem z5i {F R:List Ob} {k t:Nat} {M:List (List Bool)} {n:Nat} (hk:F.length=k) (h:M.length=n):(F++(zbn k t M++R))[k]?=some (.arr t 108 1 ((List.range n).map fun i => .loc (k+1+i) t 0 n)):=by subst hk; exact z6a h
theorem z5j {F R:List Ob} {k t a:Nat} {M:List (List Bool)} {row:List Bool} (hk:F.length=k) (h:M[a]?=some row):(F++(zbn k t M++R))[k+1+a]?=some (.arr t 4 1 (row.map .bool)):=by subst hk; exact zyu h
theorem zod {F R:List Ob} {k t a:Nat} {M:List (List Bool)} {row:List Bool} {n:Nat} (hk:F.length=k) (hn:M.length=n) (h:a<n):(F++(zbn k t M++R)).set (k+1+a) (.arr t 4 1 (row.map .bool))=F++(zbn k t (M.set a row)++R):=by subst hk; exact zm6 hn h
structure Lay (n:Nat) where
 f:Ob→Ob→List Ob→List (List Bool)→List (List Bool)→List Ob
 pL:Nat
 vL:Nat
 pA:Nat
 vA:Nat
 p3:Nat
 v3:Nat
 appR:∀ {o2:Ob} {o3:Ob} {R:List Ob} {L:List (List Bool)} {A:List (List Bool)},f o2 o3 R L A=f o2 o3 [] L A++R
 len0:∀ {o2:Ob} {o3:Ob} {L:List (List Bool)} {A:List (List Bool)},L.length=n→A.length=n→(f o2 o3 [] L A).length=2*n+4
 get0:∀ {o2:Ob} {o3:Ob} {R:List Ob} {L:List (List Bool)} {A:List (List Bool)},(f o2 o3 R L A)[0]?=some o2
 set0:∀ {o2:Ob} {o3:Ob} {R:List Ob} {L:List (List Bool)} {A:List (List Bool)} {o:Ob},(f o2 o3 R L A).set 0 o=f o o3 R L A
 get3:∀ {o2:Ob} {o3:Ob} {R:List Ob} {L:List (List Bool)} {A:List (List Bool)},L.length=n→A.length=n→(f o2 o3 R L A)[p3]?=some o3
 getL:∀ {o2:Ob} {o3:Ob} {R:List Ob} {L:List (List Bool)} {A:List (List Bool)},L.length=n→(f o2 o3 R L A)[pL]?=some (.arr vL 108 1 ((List.range n).map fun i => .loc (pL+1+i) vL 0 n))
 getLr:∀ {o2:Ob} {o3:Ob} {R:List Ob} {L:List (List Bool)} {A:List (List Bool)} {a:Nat} {row:List Bool},L[a]?=some row→(f o2 o3 R L A)[pL+1+a]?=some (.arr vL 4 1 (row.map .bool))
 setL:∀ {o2:Ob} {o3:Ob} {R:List Ob} {L:List (List Bool)} {A:List (List Bool)} {a:Nat} {row:List Bool},L.length=n→a<n→(f o2 o3 R L A).set (pL+1+a) (.arr vL 4 1 (row.map .bool))=f o2 o3 R (L.set a row) A
 getA:∀ {o2:Ob} {o3:Ob} {R:List Ob} {L:List (List Bool)} {A:List (List Bool)},L.length=n→A.length=n→(f o2 o3 R L A)[pA]?=some (.arr vA 108 1 ((List.range n).map fun i => .loc (pA+1+i) vA 0 n))
 getAr:∀ {o2:Ob} {o3:Ob} {R:List Ob} {L:List (List Bool)} {A:List (List Bool)} {a:Nat} {row:List Bool},L.length=n→A[a]?=some row→(f o2 o3 R L A)[pA+1+a]?=some (.arr vA 4 1 (row.map .bool))
 setA:∀ {o2:Ob} {o3:Ob} {R:List Ob} {L:List (List Bool)} {A:List (List Bool)} {a:Nat} {row:List Bool},L.length=n→A.length=n→a<n→(f o2 o3 R L A).set (pA+1+a) (.arr vA 4 1 (row.map .bool))=f o2 o3 R L (A.set a row)
 splL:∀ {o2:Ob} {o3:Ob} {R:List Ob} {L:List (List Bool)} {A:List (List Bool)},∃ F R',pL=F.length∧∀ L':List (List Bool),L'.length=L.length→f o2 o3 R L' A=F++(zbn F.length vL L'++R')
 splA:∀ {o2:Ob} {o3:Ob} {R:List Ob} {L:List (List Bool)} {A:List (List Bool)},L.length=n→∃ F R',pA=F.length∧∀ A':List (List Bool),A'.length=A.length→f o2 o3 R L A'=F++(zbn F.length vA A'++R')
section
variable {n:Nat} (Y:Lay n) {o2 o3:Ob} {R:List Ob} {a t:Nat} {L A:List (List Bool)} {w w':Ob}
theorem Lay.app:Y.f o2 o3 R L A++[w]=Y.f o2 o3 (R++[w]) L A:=by rw [Y.appR,Y.appR (R:=R++[w])]; simp
theorem Lay.len (hl:L.length=n) (h:A.length=n):(Y.f o2 o3 R L A).length=2*n+4+R.length:=by rw [Y.appR,List.length_append,Y.len0 hl h]
theorem Lay.get4 (hl:L.length=n) (h:A.length=n):(Y.f o2 o3 (w::R) L A)[2*n+4]?=some w:=by
 rw [Y.appR,List.getElem?_append_right (by rw [Y.len0 hl h]; exact qR _),Y.len0 hl h]; simp
theorem Lay.set4 (hl:L.length=n) (h:A.length=n):(Y.f o2 o3 (w::R) L A).set (2*n+4) w'=Y.f o2 o3 (w'::R) L A:=by
 rw [Y.appR,List.set_append_right _ _ (by rw [Y.len0 hl h]; exact qR _),Y.len0 hl h,Y.appR (R:=w'::R)]; simp
theorem Lay.take (hl:L.length=n) (h:A.length=n):Store.take ⟨Y.f o2 o3 R L A,t⟩ (2*n+4)=⟨Y.f o2 o3 [] L A,t⟩:=by
 simp only[Store.take]
 rw [Y.appR,List.take_append_of_le_length (by rw [Y.len0 hl h]; exact qR _),qT (by rw [Y.len0 hl h]; exact qR _)]
end
def yiw (n:Nat):Lay n where
 f o2 o3 R L A:=[o2]++(zbn 1 1 L++(zbn (n+2) 2 A++o3::R))
 pL:=1
 vL:=1
 pA:=n+2
 vA:=2
 p3:=2*n+3
 v3:=3
 appR:=by intros; simp
 len0:=by intros o2 o3 L A h1 h2; simp [zai]; omega
 get0:=rfl
 set0:=rfl
 get3:=by
  intros o2 o3 R L A h1 h2
  rw [List.getElem?_append_right (by simp),List.getElem?_append_right (by simp [zai]; omega),List.getElem?_append_right (by simp [zai]; omega)]
  rw [zai,zai,show 2*n+3 - [o2].length - (L.length+1) - (A.length+1)=0 by simp; omega]; rfl
 getL:=fun h=>z5i rfl h
 getLr:=fun h=>z5j rfl h
 setL:=fun h1 h2=>zod rfl h1 h2
 getA:=by intros o2 o3 R L A h1 h2; rw [← List.append_assoc]; exact z5i (by simp [zai]; omega) h2
 getAr:=by intros o2 o3 R L A a row h1 h2; rw [← List.append_assoc]; exact z5j (by simp [zai]; omega) h2
 setA:=by intros o2 o3 R L A a row h1 h2 h3; rw [← List.append_assoc,zod (by simp [zai]; omega) h2 h3,List.append_assoc]
 splL:=by intros o2 o3 R L A; exact ⟨[o2],_,rfl,fun _ _=>rfl⟩
 splA:=by intros o2 o3 R L A h; exact ⟨[o2]++zbn 1 1 L,o3::R,by simp [zai]; omega,fun A' _=>by rw [show ([o2]++zbn 1 1 L).length=n+2 by simp [zai]; omega,List.append_assoc]⟩
def yiv (n:Nat):Lay n where
 f o2 o3 R L A:=[o2]++(zbn 1 1 L++(o3::(zbn (n+3) 3 A++R)))
 pL:=1
 vL:=1
 pA:=n+3
 vA:=3
 p3:=n+2
 v3:=2
 appR:=by intros; simp
 len0:=by intros o2 o3 L A h1 h2; simp [zai]; omega
 get0:=rfl
 set0:=rfl
 get3:=by
  intros o2 o3 R L A h1 h2
  rw [List.getElem?_append_right (by simp),List.getElem?_append_right (by simp [zai]; omega)]
  rw [zai,show n+2 - [o2].length - (L.length+1)=0 by simp; omega]; rfl
 getL:=fun h=>z5i rfl h
 getLr:=fun h=>z5j rfl h
 setL:=fun h1 h2=>zod rfl h1 h2
 getA:=by intros o2 o3 R L A h1 h2; rw [show [o2]++(zbn 1 1 L++(o3::(zbn (n+3) 3 A++R)))=([o2]++zbn 1 1 L++[o3])++(zbn (n+3) 3 A++R) by simp]; exact z5i (by simp [zai]; omega) h2
 getAr:=by intros o2 o3 R L A a row h1 h2; rw [show [o2]++(zbn 1 1 L++(o3::(zbn (n+3) 3 A++R)))=([o2]++zbn 1 1 L++[o3])++(zbn (n+3) 3 A++R) by simp]; exact z5j (by simp [zai]; omega) h2
 setA:=by intros o2 o3 R L A a row h1 h2 h3; rw [show [o2]++(zbn 1 1 L++(o3::(zbn (n+3) 3 A++R)))=([o2]++zbn 1 1 L++[o3])++(zbn (n+3) 3 A++R) by simp,zod (by simp [zai]; omega) h2 h3]; simp
 splL:=by intros o2 o3 R L A; exact ⟨[o2],_,rfl,fun _ _=>rfl⟩
 splA:=by intros o2 o3 R L A h; exact ⟨[o2]++zbn 1 1 L++[o3],R,by simp [zai]; omega,fun A' _=>by rw [show ([o2]++zbn 1 1 L++[o3]).length=n+3 by simp [zai]; omega]; simp⟩
def yiu (n:Nat):Lay n where
 f o2 o3 R L A:=[o2,o3]++(zbn 2 2 L++(zbn (n+3) 3 A++R))
 pL:=2
 vL:=2
 pA:=n+3
 vA:=3
 p3:=1
 v3:=1
 appR:=by intros; simp
 len0:=by intros o2 o3 L A h1 h2; simp [zai]; omega
 get0:=rfl
 set0:=rfl
 get3:=fun _ _=>rfl
 getL:=fun h=>z5i rfl h
 getLr:=fun h=>z5j rfl h
 setL:=fun h1 h2=>zod rfl h1 h2
 getA:=by intros o2 o3 R L A h1 h2; rw [← List.append_assoc]; exact z5i (by simp [zai]; omega) h2
 getAr:=by intros o2 o3 R L A a row h1 h2; rw [← List.append_assoc]; exact z5j (by simp [zai]; omega) h2
 setA:=by intros o2 o3 R L A a row h1 h2 h3; rw [← List.append_assoc,zod (by simp [zai]; omega) h2 h3,List.append_assoc]
 splL:=by intros o2 o3 R L A; exact ⟨[o2,o3],_,rfl,fun _ _=>rfl⟩
 splA:=by intros o2 o3 R L A h; exact ⟨[o2,o3]++zbn 2 2 L,R,by simp [zai]; omega,fun A' _=>by rw [show ([o2,o3]++zbn 2 2 L).length=n+3 by simp [zai]; omega,List.append_assoc]⟩
def yb3 (lv:Bool) (M:List (List Bool) × List (List Bool)) (X:List (List Bool)):List (List Bool) × List (List Bool):=if lv then (M.1,X) else (X,M.2)
def zqe (lv:Bool) (M:List (List Bool) × List (List Bool)):List (List Bool):=if lv then M.2 else M.1
theorem z9p {lv:Bool} {M:List (List Bool) × List (List Bool)}:yb3 lv M (zqe lv M)=M:=by cases lv <;> rfl
theorem yam {n:Nat} {lv:Bool} {M:List (List Bool) × List (List Bool)} (h1:Sq n M.1) (h2:Sq n M.2):Sq n (zqe lv M):=by cases lv <;> simp [zqe,h1,h2]
theorem ybh {g:List (List Int)} {M:List (List Bool) × List (List Bool)} {w:Wall}:znn g M w=yb3 w.level M (relW (zqe w.level M) (za6 g w).1 (za6 g w).2):=by
 unfold znn yb3 zqe; cases w.level <;> rfl
theorem yfo {M:List (List Bool)} {la bs:List Int} {x:Nat} {a:Int} (h:la[x]?=some a):relW M (la.take (x+1)) bs=relB a bs (relW M (la.take x) bs):=ze4 h
theorem z85 {M:List (List Bool)} {bs:List Int} {y:Nat} {a b:Int} (h:bs[y]?=some b):relB a (bs.take (y+1)) M=z5o (relB a (bs.take y) M) a.toNat b.toNat true:=ze4 h
theorem z5c {S:Store} {im:Bool} {k:Nat} {a b a2 b2:PV} (h1:reify S im k a=some a2) (h2:reify S im k b=some b2):reify S im (k+1) (.agg [a,b])=some (.agg [a2,b2]):=by
 simp [reify,h1,h2]
theorem zjo {nr:Nat} {x:Ob} {B:List Ob}:(zbn 1 1 (zb8 nr)++[x]++B)[nr+1]?=some x:=by
 have:(zbn 1 1 (zb8 nr)).length=nr+1:=by simp [zai,zb8]
 rw [List.append_assoc,List.getElem?_append_right (by omega),this]; simp
theorem zj6 {nr:Nat} {x y:Ob} {B:List Ob}:(zbn 1 1 (zb8 nr)++[x]++B).set (nr+1) y=zbn 1 1 (zb8 nr)++[y]++B:=by
 have:(zbn 1 1 (zb8 nr)).length=nr+1:=by simp [zai,zb8]
 rw [List.append_assoc,List.set_append_right _ _ (by omega),this]; simp
theorem zlm {P:Program} {T:Tab} {e:Env} {S:Store} {ds pd:List (Option Tmp)} {t d:Nat} {o:Oper} {r l2:List Oper} {K:Env→Store→Prop} (hp:pd.contains o.dst=false) (h:zdk o.op=true)
  (k:zbg false P T ds [o] e S fun e S=>zkz P T ds pd t d l2 r e S K):zkz P T ds pd t d l2 (o::r) e S K:=(z4c hp h).symm ▸ k
theorem zva {l:List Ob} {a:Ob}:(l++[a])[l.length]?=some a:=by simp
theorem zfs {l:List Ob} {a b:Ob}:(l++[a]).set l.length b=l++[b]:=by simp
theorem zbl {n:Nat}:(zb8 n).length=n:=by simp [zb8]
end
theorem z6u {nr tk:Nat} (Y:Lay nr) {o2 o3:Ob} {R:List Ob} {L A:List (List Bool)} (hL:Sq nr L) (hn:nr≤9) :
  Ev Tryz.prog 97 [.loc Y.pL Y.vL 0 nr] ⟨Y.f o2 o3 R L A,tk⟩ fun v S=>v = .tup []∧S=⟨Y.f o2 o3 R (zgb L) A,tk⟩:=by
 obtain ⟨F,R',hp,hF⟩:=Y.splL (o2:=o2) (o3:=o3) (R:=R) (L:=L) (A:=A)
 rw [hp,hF L rfl,hF (zgb L) (by rw [hL.1,hL.close.1])]
 exact z1p hL hn
theorem z6t {nr tk:Nat} (Y:Lay nr) {o2 o3:Ob} {R:List Ob} {L A:List (List Bool)} (hL:L.length=nr) (hA:Sq nr A) (hn:nr≤9) :
  Ev Tryz.prog 97 [.loc Y.pA Y.vA 0 nr] ⟨Y.f o2 o3 R L A,tk⟩ fun v S=>v = .tup []∧S=⟨Y.f o2 o3 R L (zgb A),tk⟩:=by
 obtain ⟨F,R',hp,hF⟩:=Y.splA (o2:=o2) (o3:=o3) (R:=R) (L:=L) (A:=A) hL
 rw [hp,hF A rfl,hF (zgb A) (by rw [hA.1,hA.close.1])]
 exact z1p hA hn
theorem zjx {g:List (List Int)} {nh nw nr:Nat} (hg:GW g nh nw) {rs:List Rect} (hr:rs.length=nr) (hn:nr≤9) (hrm:zwh g nh nw nr):PC Tryz.prog 50 [zb3 g rs] (.agg [zhp (zxq g nh nw nr),zhp (zol g nh nw nr)]) true:=by
 have hwsl:=yaa (g:=g) (nh:=nh) (nw:=nw) (i:=2) hg.2.2.2.1 hg.2.2.2.2.2
 rw [show wsI g nh nw 2=zct g nh nw from rfl]at hwsl
 refine PC.of ⟨Tryz.func50,by kernel_rfl,rfl,by kernel_rfl⟩ zao mixed (by show 1≤Tryz.f50.ntmps; decide) ?_
 refine W.r fun K hK=>?_
 simp(disch:=omega)only[↓RU,RV,RH,↓reduceIte,qE,reduceCtorEq,if_pos,↓RS,RG,qA,qM,qL,ty0,ty3,zam,zg1,zfb,zg2]
 apply hK;clear hK K
 refine W.join [0,2,3] (fun vs S=>∃ (Y:Lay nr) (tk:Nat),vs=[zb3 g rs,.ref 0 0 0,.ref Y.p3 Y.v3 0]∧S=⟨Y.f (.arr 0 57 2 [.nils,.nils]) (.arr Y.v3 57 2 [.loc Y.pL Y.vL 0 nr,.loc Y.pA Y.vA 0 nr]) [] (zb8 nr) (zb8 nr),tk⟩) ?_ ?_
 ·
  refine W.region_mk (r1:=[_,_,_,_,_,_,_,_,_,_,_,_,_]) (r2:=[_]) 13 57 3 [0,1,2,3,4,6,7,8,9,10,5,11,12] [14] [7,8,9,10] [some 20,some 21,some 22,some 23] (by kernel_rfl) (by kernel_rfl) (by kernel_rfl) rfl rfl fun K hK=>?_
  refine zlm rfl rfl ?_
  simp(disch:=omega)only[↓RU,RV,RH,↓reduceIte,qE,reduceCtorEq,if_pos,qN,↓RS,RG,qA,qM,qL,ty0,ty1,ty3,ty4,zab,zam,zdz,zb7,zg1,zc5,zfb,zaa,zd0,zg2,zc6,hr,zgi,zai,zbl,zva,zfs,zjo,zj6]
  refine zlm rfl rfl ?_
  simp(disch:=omega)only[↓RU,RV,RH,↓reduceIte,qE,reduceCtorEq,if_pos,qN,↓RS,RG,qA,qM,qL,ty0,ty1,ty3,ty4,zab,zam,zdz,zb7,zg1,zc5,zfb,zaa,zd0,zg2,zc6,hr,zgi,zai,zbl,zva,zfs,zjo,zj6]
  refine zlm rfl rfl ?_
  simp(disch:=omega)only[↓RU,RV,RH,↓reduceIte,qE,reduceCtorEq,if_pos,qN,↓RS,RG,qA,qM,qL,ty0,ty1,ty3,ty4,zab,zam,zdz,zb7,zg1,zc5,zfb,zaa,zd0,zg2,zc6,hr,zgi,zai,zbl,zva,zfs,zjo,zj6]
  refine zlm rfl rfl ?_
  simp(disch:=omega)only[↓RU,RV,RH,↓reduceIte,qE,reduceCtorEq,if_pos,qN,↓RS,RG,qA,qM,qL,ty0,ty1,ty3,ty4,zab,zam,zdz,zb7,zg1,zc5,zfb,zaa,zd0,zg2,zc6,hr,zgi,zai,zbl,zva,zfs,zjo,zj6]
  refine zlm rfl rfl ?_
  simp(disch:=omega)only[↓RU,RV,RH,↓reduceIte,qE,reduceCtorEq,if_pos,qN,↓RS,RG,qA,qM,qL,ty0,ty1,ty3,ty4,zab,zam,zdz,zb7,zg1,zc5,zfb,zaa,zd0,zg2,zc6,hr,zgi,zai,zbl,zva,zfs,zjo,zj6]
  refine zlm rfl rfl ?_
  simp(disch:=omega)only[↓RU,RV,RH,↓reduceIte,qE,reduceCtorEq,if_pos,qN,↓RS,RG,qA,qM,qL,ty0,ty1,ty3,ty4,zab,zam,zdz,zb7,zg1,zc5,zfb,zaa,zd0,zg2,zc6,hr,zgi,zai,zbl,zva,zfs,zjo,zj6]
  refine zke rfl rfl rfl (fun S'=>rfl) ?_
  refine zke rfl rfl rfl (fun S'=>rfl) ?_
  refine zke rfl rfl rfl (fun S'=>rfl) ?_
  refine zke rfl rfl rfl (fun S'=>rfl) ?_
  refine zw2 rfl (by decide) ?_ ?_
  ·simp(disch:=omega)only[↓RU,RV,RH,↓reduceIte,qE,reduceCtorEq,if_pos,qN,↓RS,RG,qA,qM,qL,ty0,ty1,ty3,ty4,zab,zam,zdz,zb7,zg1,zc5,zfb,zaa,zd0,zg2,zc6,hr,zgi,zai,zbl,zva,zfs,zjo,zj6]
   refine zad.pn (zg8 hn) rfl (.inl rfl) ?_
   simp(disch:=omega)only[↓RU,RV,RH,↓reduceIte,qE,reduceCtorEq,if_pos,qN,↓RS,RG,qA,qM,qL,ty0,ty1,ty3,ty4,zab,zam,zdz,zb7,zg1,zc5,zfb,zaa,zd0,zg2,zc6,hr,zgi,zai,zbl,zva,zfs,zjo,zj6,RN]
   refine zad.pn (zg8 hn) rfl (.inl rfl) ?_
   simp(disch:=omega)only[↓RU,RV,RH,↓reduceIte,qE,reduceCtorEq,if_pos,qN,↓RS,RG,qA,qM,qL,ty0,ty1,ty3,ty4,zab,zam,zdz,zb7,zg1,zc5,zfb,zaa,zd0,zg2,zc6,hr,zgi,zai,zbl,zva,zfs,zjo,zj6,RN]
   apply hK;clear hK K
   refine xn ?_
   refine ⟨_,yiu nr,4,?_,zak ?_⟩
   ·simp [Env.put,Env.of,zae,yiu,zai,zbl]; try omega
   simp [yiu,zai,zbl]
  simp(disch:=omega)only[↓RU,RV,RH,↓reduceIte,qE,reduceCtorEq,if_pos,qN,↓RS,RG,qA,qM,qL,ty0,ty1,ty3,ty4,zab,zam,zdz,zb7,zg1,zc5,zfb,zaa,zd0,zg2,zc6,hr,zgi,zai,zbl,zva,zfs,zjo,zj6]
  refine zad.pn (zg8 hn) rfl (.inl rfl) ?_
  simp(disch:=omega)only[↓RU,RV,RH,↓reduceIte,qE,reduceCtorEq,if_pos,qN,↓RS,RG,qA,qM,qL,ty0,ty1,ty3,ty4,zab,zam,zdz,zb7,zg1,zc5,zfb,zaa,zd0,zg2,zc6,hr,zgi,zai,zbl,zva,zfs,zjo,zj6,RN]
  refine zw2 rfl (by decide) ?_ ?_
  ·simp(disch:=omega)only[↓RU,RV,RH,↓reduceIte,qE,reduceCtorEq,if_pos,qN,↓RS,RG,qA,qM,qL,ty0,ty1,ty3,ty4,zab,zam,zdz,zb7,zg1,zc5,zfb,zaa,zd0,zg2,zc6,hr,zgi,zai,zbl,zva,zfs,zjo,zj6]
   refine zad.pn (zg8 hn) rfl (.inl rfl) ?_
   simp(disch:=omega)only[↓RU,RV,RH,↓reduceIte,qE,reduceCtorEq,if_pos,qN,↓RS,RG,qA,qM,qL,ty0,ty1,ty3,ty4,zab,zam,zdz,zb7,zg1,zc5,zfb,zaa,zd0,zg2,zc6,hr,zgi,zai,zbl,zva,zfs,zjo,zj6,RN]
   apply hK;clear hK K
   refine xn ?_
   refine ⟨_,yiv nr,4,?_,zak ?_⟩
   ·simp [Env.put,Env.of,zae,yiv,zai,zbl]; try omega
   simp [yiv,zai,zbl]
  simp(disch:=omega)only[↓RU,RV,RH,↓reduceIte,qE,reduceCtorEq,if_pos,qN,↓RS,RG,qA,qM,qL,ty0,ty1,ty3,ty4,zab,zam,zdz,zb7,zg1,zc5,zfb,zaa,zd0,zg2,zc6,hr,zgi,zai,zbl,zva,zfs,zjo,zj6]
  refine zad.pn (zg8 hn) rfl (.inl rfl) ?_
  simp(disch:=omega)only[↓RU,RV,RH,↓reduceIte,qE,reduceCtorEq,if_pos,qN,↓RS,RG,qA,qM,qL,ty0,ty1,ty3,ty4,zab,zam,zdz,zb7,zg1,zc5,zfb,zaa,zd0,zg2,zc6,hr,zgi,zai,zbl,zva,zfs,zjo,zj6,RN]
  refine zlm rfl rfl ?_
  simp(disch:=omega)only[↓RU,RV,RH,↓reduceIte,qE,reduceCtorEq,if_pos,qN,↓RS,RG,qA,qM,qL,ty0,ty1,ty3,ty4,zab,zam,zdz,zb7,zg1,zc5,zfb,zaa,zd0,zg2,zc6,hr,zgi,zai,zbl,zva,zfs,zjo,zj6,RN]
  refine ⟨by decide,?_⟩
  simp(disch:=omega)only[↓RU,RV,RH,↓reduceIte,qE,reduceCtorEq,if_pos,qN,↓RS,RG,qA,qM,qL,ty0,ty1,ty3,ty4,zab,zam,zdz,zb7,zg1,zc5,zfb,zaa,zd0,zg2,zc6,hr,zgi,zai,zbl,zva,zfs,zjo,zj6,RN]
  apply hK;clear hK K
  refine xn ?_
  refine ⟨_,yiw nr,4,?_,zak ?_⟩
  ·simp [Env.put,Env.of,zae,yiw,zai,zbl]; try omega
  simp [yiw,zai,zbl]
 rintro vs S - ⟨Y,tk,rfl,rfl⟩
 refine W.seq ?_
 refine W.r fun K hK=>?_
 simp(disch:=omega)only[↓RU,RV,RH,↓reduceIte,qE,reduceCtorEq,if_pos,qN,↓RS,RG,qA,qM,qL,ty5,zam,z3y,zaa,z3z,zva,zfs]
 refine zad.pc (yci hg rs) rfl (.inl rfl) ?_
 simp(disch:=omega)only[↓RU,RV,RH,↓reduceIte,qE,reduceCtorEq,if_pos,qN,↓RS,RG,qA,qM,qL,ty5,zam,z3y,zaa,z3z,zva,zfs]
 apply hK;clear hK K
 refine W.block ?_
 refine W.loop [0,2,3,27,28,29] (fun n vs S=>∃ i tk:Nat,n=(zct g nh nw).length - i∧i≤(zct g nh nw).length∧vs=[zb3 g rs,.ref 0 0 0,.ref Y.p3 Y.v3 0,ztc (zct g nh nw),.int .i64 (zct g nh nw).length,.int .i64 i]∧S=⟨Y.f (.arr 0 57 2 [.nils,.nils]) (.arr Y.v3 57 2 [.loc Y.pL Y.vL 0 nr,.loc Y.pA Y.vA 0 nr]) [] (((zct g nh nw).take i).foldl (znn g) (zb8 nr,zb8 nr)).1 (((zct g nh nw).take i).foldl (znn g) (zb8 nr,zb8 nr)).2,tk⟩) (zct g nh nw).length ?_ ?_
 ·refine ⟨_,0,tk,rfl,by omega,?_,zak rfl⟩
  simp [Env.put,Env.of,zae]
 rintro n vs S - ⟨i,tk,rfl,h_i,rfl,rfl⟩
 refine W.r fun K hK=>?_
 simp(disch:=omega)only[↓RU,RV,RH,↓reduceIte,qE,reduceCtorEq,if_pos,w64,↓RS,RG,qA,qM,qL,zaa]
 apply hK;clear hK K
 refine W.seq ?_
 refine W.cond rfl (fun h=>?_) (fun h=>?_)
 ·try simp only[RL]at h
  obtain ⟨w,hw,hwm⟩:=zaf (show i<(zct g nh nw).length by omega)
  obtain ⟨hL,hA⟩:=zvj hrm (ws:=(zct g nh nw).take i) (fun w hw=>zec w (List.mem_of_mem_take hw)) (M:=(zb8 nr,zb8 nr)) (ze8 nr) (ze8 nr)
  generalize hMe:(((zct g nh nw).take i).foldl (znn g) (zb8 nr,zb8 nr))=M at hL hA
  obtain ⟨ln,fr,lg,hwe,hlg,hin⟩:=zec w hwm
  obtain ⟨lv,wl,wf,wg⟩:=w
  simp only[Wall.mk.injEq,true_and]at hwe hin
  obtain ⟨rfl,rfl,rfl⟩:=hwe
  have hsr:=zft hrm (zec _ hwm)
  obtain ⟨hLl,-⟩:=id hL
  obtain ⟨hAl,-⟩:=id hA
  refine W.skip ?_
  refine xn ?_
  refine W.seq ?_
  refine W.block ?_
  refine W.r fun K hK=>?_
  simp(disch:=omega)only[↓RU,RV,RH,↓reduceIte,qE,reduceCtorEq,if_pos,↓RS,RG,qA,qM,qL,ty5,zam,z3y,zaa,z3z,hMe,hw,yid hw,zi3,Y.app,Y.len hLl hAl,Y.get4 hLl hAl,Y.set4 hLl hAl,Wall.cells]
  apply hK;clear hK K
  refine W.r fun K hK=>?_
  simp(disch:=omega)only[↓RU,RV,RH,↓reduceIte,qE,reduceCtorEq,if_pos,↓RS,RG,qA,qM,qL,ty0,ty3,zam,zg1,zfb,zg2,Y.get3 hLl hAl]
  apply hK;clear hK K
  refine W.join [0,2,3,27,28,29,5,6] (fun vs S=>vs=[zb3 g rs,.ref 0 0 0,.ref Y.p3 Y.v3 0,ztc (zct g nh nw),.int .i64 (zct g nh nw).length,.int .i64 i,.ref (2*nr+4) tk 0,(if lv then .loc Y.pA Y.vA 0 nr else .loc Y.pL Y.vL 0 nr)]∧S=⟨Y.f (.arr 0 57 2 [.nils,.nils]) (.arr Y.v3 57 2 [.loc Y.pL Y.vL 0 nr,.loc Y.pA Y.vA 0 nr]) [.arr tk 105 4 [.bool lv,.int .i64 ln,.int .i64 fr,.int .i64 lg]] M.1 M.2,tk+1⟩) ?_ ?_
  ·
   refine W.r fun K hK=>?_
   simp(disch:=omega)only[↓RU,RV,RH,↓reduceIte,qE,reduceCtorEq,if_pos,↓RS,RG,qA,qM,qL,zam,z3y,zaa,z3z,Y.get4 hLl hAl]
   apply hK;clear hK K
   refine W.cond rfl (fun h1=>?_) (fun h1=>?_)
   ·try simp only[RL]at h1
    refine W.k fun K hK=>?_
    simp(disch:=omega)only[↓RU,RV,RH,↓reduceIte,qE,reduceCtorEq,if_pos,↓RS,RG,qA,qM,qL,ty0,ty3,zam,zg1,zfb,zg2,Y.get3 hLl hAl]
    apply hK;clear hK K
    refine xn ?_
    refine ⟨_,?_,zah⟩
    simp [Env.put,Env.of,h1]
   try simp only[RL]at h1
   refine W.skip ?_
   refine xn ?_
   refine ⟨_,?_,zah⟩
   simp [Env.put,Env.of,h1]
  rintro vs S - ⟨rfl,rfl⟩
  refine W.r fun K hK=>?_
  simp(disch:=omega)only[↓RU,RV,RH,↓reduceIte,qE,reduceCtorEq,if_pos,qN,↓RS,RG,qA,qM,qL,zam,z3y,zaa,z3z,Y.get4 hLl hAl]
  refine zad.pc (yal hg rs hlg fun j a b=>(hin j a b).1) rfl (.inl rfl) ?_
  simp(disch:=omega)only[↓RU,RV,RH,↓reduceIte,qE,reduceCtorEq,if_pos,qN,↓RS,RG,qA,qM,qL,zam,z3y,zaa,z3z,Y.get4 hLl hAl]
  apply hK;clear hK K
  have hs1:ddp (zbk g lv ln fr lg).1=(za6 g ⟨lv,ln,fr,lg⟩).1:=by simp [za6]
  have hs2:ddp (zbk g lv ln fr lg).2=(za6 g ⟨lv,ln,fr,lg⟩).2:=by simp [za6]
  rw [hs1,hs2]
  obtain ⟨hsr1,hsr2⟩:=hsr
  have hsl:=z04 hg (zec _ hwm)
  generalize hasE:(za6 g ⟨lv,ln,fr,lg⟩).1=av at hsr1 hsl
  generalize hbsE:(za6 g ⟨lv,ln,fr,lg⟩).2=bv at hsr2 hsl
  refine W.r fun K hK=>?_
  simp(disch:=omega)only[↓RU,RV,RH,↓reduceIte,qE,reduceCtorEq,if_pos,↓RS,RG,qA,qM,qL,zab,zaa]
  apply hK;clear hK K
  refine W.block ?_
  refine W.loop [0,2,3,27,28,29,6,8,45,46,47] (fun n vs S=>∃ x tk:Nat,n=av.length - x∧x≤av.length∧vs=[zb3 g rs,.ref 0 0 0,.ref Y.p3 Y.v3 0,ztc (zct g nh nw),.int .i64 (zct g nh nw).length,.int .i64 i,(if lv then .loc Y.pA Y.vA 0 nr else .loc Y.pL Y.vL 0 nr),eInts bv,eInts av,.int .i64 av.length,.int .i64 x]∧S=⟨Y.f (.arr 0 57 2 [.nils,.nils]) (.arr Y.v3 57 2 [.loc Y.pL Y.vL 0 nr,.loc Y.pA Y.vA 0 nr]) [] (yb3 lv M (relW (zqe lv M) (av.take x) bv)).1 (yb3 lv M (relW (zqe lv M) (av.take x) bv)).2,tk⟩) av.length ?_ ?_
  ·refine ⟨2*nr+4,0,tk+1,rfl,by omega,?_,?_⟩
   ·simp [Env.put,Env.of]
   rw [Y.take hLl hAl,List.take_zero]; rw [show relW (zqe lv M) [] bv=zqe lv M from rfl,z9p]
  rintro n vs S - ⟨x,tk,rfl,h_x,rfl,rfl⟩
  refine W.r fun K hK=>?_
  simp(disch:=omega)only[↓RU,RV,RH,↓reduceIte,qE,reduceCtorEq,if_pos,w64,↓RS,RG,qA,qM,qL,zaa]
  apply hK;clear hK K
  refine W.seq ?_
  refine W.cond rfl (fun h2=>?_) (fun h2=>?_)
  ·try simp only[RL]at h2
   obtain ⟨a,ha,ham⟩:=zaf (show x<av.length by omega)
   have hab:=hsr1 a ham
   have hX:Sq nr (relW (zqe lv M) (av.take x) bv):=Sq.relW (fun a ha=>by have:=hsr1 a (List.mem_of_mem_take ha); omega) (yam hL hA)
   generalize hXe:relW (zqe lv M) (av.take x) bv=X at hX
   have hasl2:=hsl.1
   have hbsl2:=hsl.2
   refine W.skip ?_
   refine xn ?_
   refine W.seq ?_
   refine W.block ?_
   refine W.r fun K hK=>?_
   simp(disch:=omega)only[↓RU,RV,RH,↓reduceIte,qE,reduceCtorEq,if_pos,↓RS,RG,qA,qM,qL,zab,zaa,ha]
   apply hK;clear hK K
   refine W.r fun K hK=>?_
   simp(disch:=omega)only[↓RU,RV,RH,↓reduceIte,qE,reduceCtorEq,if_pos,↓RS,RG,qA,qM,qL,zab,zaa]
   apply hK;clear hK K
   refine W.block ?_
   refine W.loop [0,2,3,27,28,29,6,8,45,46,47,10,51,52,53] (fun n vs S=>∃ y tk:Nat,n=bv.length - y∧y≤bv.length∧vs=[zb3 g rs,.ref 0 0 0,.ref Y.p3 Y.v3 0,ztc (zct g nh nw),.int .i64 (zct g nh nw).length,.int .i64 i,(if lv then .loc Y.pA Y.vA 0 nr else .loc Y.pL Y.vL 0 nr),eInts bv,eInts av,.int .i64 av.length,.int .i64 x,.int .i64 a,eInts bv,.int .i64 bv.length,.int .i64 y]∧S=⟨Y.f (.arr 0 57 2 [.nils,.nils]) (.arr Y.v3 57 2 [.loc Y.pL Y.vL 0 nr,.loc Y.pA Y.vA 0 nr]) [] (yb3 lv M (relB a (bv.take y) X)).1 (yb3 lv M (relB a (bv.take y) X)).2,tk⟩) bv.length ?_ ?_
   ·refine ⟨_,0,tk,rfl,by omega,?_,zak ?_⟩
    ·simp [Env.put,Env.of]
    rfl
   rintro n vs S - ⟨y,tk,rfl,h_y,rfl,rfl⟩
   refine W.r fun K hK=>?_
   simp(disch:=omega)only[↓RU,RV,RH,↓reduceIte,qE,reduceCtorEq,if_pos,w64,↓RS,RG,qA,qM,qL,zaa]
   apply hK;clear hK K
   refine W.seq ?_
   refine W.cond rfl (fun h3=>?_) (fun h3=>?_)
   ·try simp only[RL]at h3
    obtain ⟨b,hb,hbm⟩:=zaf (show y<bv.length by omega)
    have hbb:=hsr2 b hbm
    have hZ:Sq nr (relB a (bv.take y) X):=hX.relB (by omega)
    generalize hZe:relB a (bv.take y) X=Z at hZ
    obtain ⟨a,rfl⟩:∃ a2:Nat,a=a2:=⟨a.toNat,by omega⟩
    obtain ⟨b,rfl⟩:∃ b2:Nat,b=b2:=⟨b.toNat,by omega⟩
    obtain ⟨row,hrow,hrl,-⟩:=hZ.at_ (show a<nr by omega) (show b<nr by omega)
    have hZl:=hZ.1
    refine W.skip ?_
    refine xn ?_
    refine W.seq ?_
    refine W.block ?_
    refine W.r fun K hK=>?_
    simp(disch:=omega)only[↓RU,RV,RH,↓reduceIte,qE,reduceCtorEq,if_pos,↓RS,RG,qA,qM,qL,zab,zaa,hb]
    apply hK;clear hK K
    refine W.k fun K hK=>?_
    cases lv
    ·skip
     simp only[yb3,qF,if_false]
     try rw [hZe]
     simp(disch:=omega)only[↓RU,RV,RH,↓reduceIte,qE,reduceCtorEq,if_pos,↓RS,RG,qA,qM,qL,ty0,ty3,zam,zfb,Y.getL hZl,Y.getLr hrow,zle,hrl,zbo,zf8,Y.setL hZl]
     apply hK;clear hK K
     refine XbN ?_
     refine xn ?_
     refine W.k fun K hK=>?_
     simp(disch:=omega)only[↓RU,RV,RH,↓reduceIte,qE,reduceCtorEq,if_pos,w64,↓RS,RG,qA,qM,qL,zaa]
     apply hK;clear hK K
     refine xn ?_
     refine ⟨bv.length - (y+1),by omega,_,y+1,tk,rfl,by omega,?_,zak ?_⟩
     ·simp [Env.put,Env.of]
     rw [z85 hb,hZe,Int.toNat_natCast,Int.toNat_natCast,zhk hrow]; rfl
    skip
    simp only[yb3,if_true]
    try rw [hZe]
    simp(disch:=omega)only[↓RU,RV,RH,↓reduceIte,qE,reduceCtorEq,if_pos,↓RS,RG,qA,qM,qL,ty0,ty3,zam,zfb,Y.getA hLl hZl,Y.getAr hLl hrow,zle,hrl,zbo,zf8,Y.setA hLl hZl]
    apply hK;clear hK K
    refine XbN ?_
    refine xn ?_
    refine W.k fun K hK=>?_
    simp(disch:=omega)only[↓RU,RV,RH,↓reduceIte,qE,reduceCtorEq,if_pos,w64,↓RS,RG,qA,qM,qL,zaa]
    apply hK;clear hK K
    refine xn ?_
    refine ⟨bv.length - (y+1),by omega,_,y+1,tk,rfl,by omega,?_,zak ?_⟩
    ·simp [Env.put,Env.of]
    rw [z85 hb,hZe,Int.toNat_natCast,Int.toNat_natCast,zhk hrow]; rfl
   try simp only[RL]at h3
   obtain rfl:y=bv.length:=by omega
   rw [List.take_length]
   refine W.exit ?_
   refine xe ?_
   refine xe ?_
   refine XBlock.hit ?_
   refine XbN ?_
   refine xn ?_
   refine W.k fun K hK=>?_
   simp(disch:=omega)only[↓RU,RV,RH,↓reduceIte,qE,reduceCtorEq,if_pos,w64,↓RS,RG,qA,qM,qL,zaa]
   apply hK;clear hK K
   refine xn ?_
   refine ⟨av.length - (x+1),by omega,_,x+1,tk,rfl,by omega,?_,zak ?_⟩
   ·simp [Env.put,Env.of]
   rw [yfo ha,hXe]
  try simp only[RL]at h2
  obtain rfl:x=av.length:=by omega
  refine W.exit ?_
  refine xe ?_
  refine xe ?_
  refine XBlock.hit ?_
  refine XbN ?_
  refine xn ?_
  refine W.k fun K hK=>?_
  simp(disch:=omega)only[↓RU,RV,RH,↓reduceIte,qE,reduceCtorEq,if_pos,w64,↓RS,RG,qA,qM,qL,zaa]
  apply hK;clear hK K
  refine xn ?_
  refine ⟨(zct g nh nw).length - (i+1),by omega,_,i+1,tk,rfl,by omega,?_,zak ?_⟩
  ·simp [Env.put,Env.of]
  rw [ze4 hw,hMe,ybh,List.take_length,hasE,hbsE]
 try simp only[RL]at h
 obtain rfl:i=(zct g nh nw).length:=by omega
 rw [List.take_length]
 have hLA:=zvj hrm (ws:=zct g nh nw) zec (M:=(zb8 nr,zb8 nr)) (ze8 nr) (ze8 nr)
 rw [show (zct g nh nw).foldl (znn g) (zb8 nr,zb8 nr)=ybg g nh nw nr from rfl]at hLA ⊢
 obtain ⟨hL,hA⟩:=hLA
 have hLl:=hL.1
 have hAl:=hA.1
 have hLc:=hL.close
 have hAc:=hA.close
 have hLcl:=hLc.1
 have hAcl:=hAc.1
 refine W.exit ?_
 refine xe ?_
 refine xe ?_
 refine XBlock.hit ?_
 refine xn ?_
 refine W.r fun K hK=>?_
 simp(disch:=omega)only[↓RU,RV,RH,↓reduceIte,qE,reduceCtorEq,if_pos,qN,↓RS,RG,qA,qM,qL,ty0,ty3,zam,zg1,zfb,zg2,Y.get3 hLl hAl]
 refine zad.ev (z6u Y hL hn) ?_
 rintro _ _ ⟨rfl,rfl⟩
 simp(disch:=omega)only[↓RU,RV,RH,↓reduceIte,qE,reduceCtorEq,if_pos,qN,↓RS,RG,qA,qM,qL,ty0,ty3,zam,zg1,zfb,zg2,Y.get3 hLl hAl]
 apply hK;clear hK K
 refine W.r fun K hK=>?_
 simp(disch:=omega)only[↓RU,RV,RH,↓reduceIte,qE,reduceCtorEq,if_pos,qN,↓RS,RG,qA,qM,qL,ty0,ty3,zam,zg1,zfb,zg2,Y.get3 hLcl hAl]
 refine zad.ev (z6t Y hLcl hA hn) ?_
 rintro _ _ ⟨rfl,rfl⟩
 simp(disch:=omega)only[↓RU,RV,RH,↓reduceIte,qE,reduceCtorEq,if_pos,qN,↓RS,RG,qA,qM,qL,ty0,ty3,zam,zg1,zfb,zg2,Y.get3 hLcl hAl]
 apply hK;clear hK K
 refine W.r fun K hK=>?_
 simp(disch:=omega)only[↓RU,RV,RH,↓reduceIte,qE,reduceCtorEq,if_pos,↓RS,RG,qA,qM,qL,ty0,ty3,zam,zg1,zfb,zg2,Y.get3 hLcl hAcl,Y.get0,Y.set0]
 apply hK;clear hK K
 refine W.ret ?_
 refine Br (v := .agg [.loc Y.pL Y.vL 0 nr,.loc Y.pA Y.vA 0 nr]) (by simp only[zrt,zj1,show Tryz.f50.results.toList=[.cell 2 57] from rfl,zub,Env.put,Env.of,qE,↓reduceIte,zrh,yej,Y.get0]; rfl) ?_
 exact z5c (zyt (f:=6) hLc (Y.getL hLcl) fun a row h=>Y.getLr h) (zyt (f:=6) hAc (Y.getA hLcl hAcl) fun a row h=>Y.getAr hLcl h)
end Fw
end Go.Proofs.YtddhgiafpmghpaaGreat
