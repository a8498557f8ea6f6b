/- Parts of the framework and of the proof: The specification of plans, gone through; What a plan is, gone through; Points where rooms meet, gone through; Walls, gone through; Walls and their sides, gone through; The sides of a wall, gone through; Upright walls, gone through; Walls and orders of plans in plain words; All walls; sets of rooms, gone through; Sizes of plans in plain words; The program's own data in plain words; Small functions of the program and of the library, gone through; The program's walls in plain words; Walls of the program, gone through; Lists without neighbours that are the same; the program's relations in plain words; Compact and the sides of walls of the program, gone through; Relations of rooms in plain words, and in the store; Relations, gone through; The program's orders in plain words; Orders of the program, gone through; Heaviest sums in plain words; Numbers put in order by putting one after the other in; Sort, gone through; How many rooms meet at the points of a grid of the program; Points of the program, gone through; The text of a grid; strings.Builder: copyCheck and String, in the model's own words; The text of a plan of the program, gone through; How the program numbers rooms and finds the rectangles around them. -/
import Derived.Test.YtbbphnladjdllaaGreatJ1
import Derived.Lib.Builder
import Derived.Lib.UnsafeStr
import Derived.Lib.Walk
import Derived.WalkKit
import Derived.Laws.Externs
set_option linter.all false
namespace Go.Proofs.YtbbphnladjdllaaGreat
namespace Fw
open Go
open Nat renaming reduceEqDiff → qE, reduceLeDiff → qL, reduceAdd → qA, reduceMul → qM, le_refl → qR
open List renaming append_nil → qN, mapM_append → qP, mapM_cons → qC, mapM_map → qU, range_succ → qS, take_of_length_le → qT
open Bool renaming and_eq_true → qB, false_eq_true → qF
open Option renaming map_some → qO, map_eq_some_iff → qI
open Int renaming reduceToNat → qZ
theorem zl8 {p:List Txt} (hs:Sm p):PC Tryz.prog 25 [zbi p] (.bool (zcx p)) true:=by
 have hp:=hs.rows
 have hr:=hs.cols
 refine PC.of ⟨Tryz.func25,by kernel_rfl,rfl,by kernel_rfl⟩ zav mixed (by show 1≤Tryz.f25.ntmps; decide) ?_
 refine W.r fun K hK=>?_
 simp(disch:=omega)only[↓RU,RW,↓reduceIte,qE,reduceCtorEq,iP]
 apply hK;clear hK K
 refine W.seq ?_
 refine W.r fun K hK=>?_
 simp(disch:=omega)only[↓RU,RW,↓reduceIte,qE,reduceCtorEq,iP]
 apply hK;clear hK K
 refine W.block ?_
 refine W.loop [0,3] (fun n vs S=>∃ i:Nat,n=p.length - i∧i≤p.length∧((p.take i).all (zsn (zag p).length)=true)∧vs=[zbi p,.int .i64 i]∧S=⟨[],0⟩) (p.length) ?_ ?_
 ·refine ⟨0,0,rfl,Nat.zero_le _,rfl,?_,rfl⟩
  simp [Env.put,Env.of,zai]
 rintro n vs S - ⟨i,rfl,h_i,hg,rfl,rfl⟩
 refine W.seq ?_
 refine W.r fun K hK=>?_
 simp(disch:=omega)only[↓RU,RW,↓reduceIte,qE,reduceCtorEq,iP,w64,ty5,zaa,zal]
 apply hK;clear hK K
 refine W.cond rfl (fun h=>?_) (fun h=>?_)
 ·try simp only[RL]at h
  obtain ⟨row,hrow,hrm⟩:=zaj (show i<p.length by omega)
  have hrl:=hr row hrm
  obtain ⟨row0,hrow0,hrm0⟩:=zaj (show 0<p.length by omega)
  have hhd:=zcf hrow0
  refine W.skip ?_
  refine xn ?_
  refine W.seq ?_
  refine W.block ?_
  refine W.seq ?_
  refine W.seq_draw (by kernel_rfl) fun K hK=>?_
  cases hw:((row.length:Int) != (row0.length:Int))
  ·skip
   simp(disch:=omega)only[↓RU,RW,↓reduceIte,qE,reduceCtorEq,iP,w64,qN,ty5,zaa,zal,hrow,hrow0,Int.toNat_zero,Nat.zero_mul,qZ,hw]
   refine zac.pc (z89 _ _ _) rfl (.inl rfl) ?_
   simp(disch:=omega)only[↓RU,RW,↓reduceIte,qE,reduceCtorEq,iP,w64,qN,ty5,zaa,zal,hrow,hrow0,Int.toNat_zero,Nat.zero_mul,qZ,hw]
   apply hK;clear hK K
   simp only[bne_eq_false_iff_eq]at hw
   refine W.cond rfl (fun h2=>?_) (fun h2=>?_)
   ·skip
    simp only[Bool.not_eq_true',Bool.and_eq_false_iff,decide_eq_false_iff_not]at h2
    refine W.r fun K hK=>?_
    simp(disch:=omega)only[↓RU,RW,↓reduceIte,qE,reduceCtorEq,iP]
    apply hK;clear hK K
    refine W.ret ?_
    refine XThen.ret ?_
    refine XBlock.ret ?_
    refine XThen.ret ?_
    refine XThen.ret ?_
    refine XBlock.ret ?_
    refine XThen.ret ?_
    refine Br rfl ?_
    rw [zpi hrow (by cases hb:zsn (zag p).length row with | false=>rfl | true=>exfalso; simp only[zsn,qB,decide_eq_true_eq]at hb; rw [hhd]at hb; omega)]
    rfl
   skip
   simp only[Bool.not_eq_false',qB,decide_eq_true_eq]at h2
   refine W.skip ?_
   refine xn ?_
   refine W.r fun K hK=>?_
   simp(disch:=omega)only[↓RU,RW,↓reduceIte,qE,reduceCtorEq,iP]
   apply hK;clear hK K
   refine W.block ?_
   refine W.loop [0,3,4] (fun n vs S=>∃ k:Nat,n=row.length - k∧k≤row.length∧((row.take k).all zda=true)∧vs=[zbi p,.int .i64 i,.int .i64 k]∧S=⟨[],0⟩) (row.length) ?_ ?_
   ·refine ⟨0,0,rfl,Nat.zero_le _,rfl,?_,rfl⟩
    simp [Env.put,Env.of,zai]
   rintro n vs S - ⟨k,rfl,h_k,hl,rfl,rfl⟩
   refine W.seq ?_
   refine W.r fun K hK=>?_
   simp(disch:=omega)only[↓RU,RW,↓reduceIte,qE,reduceCtorEq,iP,w64,ty5,zaa,zal,hrow]
   apply hK;clear hK K
   refine W.cond rfl (fun h3=>?_) (fun h3=>?_)
   ·try simp only[RL]at h3
    obtain ⟨c,hc,-⟩:=zaj (show k<row.length by omega)
    have hcl:=c.toNat_lt
    refine W.skip ?_
    refine xn ?_
    refine W.seq ?_
    refine W.block ?_
    refine W.r fun K hK=>?_
    cases hlo:decide ((c.toNat:Int)<97)
    ·skip
     simp(disch:=omega)only[↓RU,RW,↓reduceIte,qE,reduceCtorEq,iP,w64,ty5,zal,zhv,hrow,hc,hlo]
     apply hK;clear hK K
     refine W.cond rfl (fun h4=>?_) (fun h4=>?_)
     ·try simp only[RL]at h4
      refine W.r fun K hK=>?_
      simp(disch:=omega)only[↓RU,RW,↓reduceIte,qE,reduceCtorEq,iP]
      apply hK;clear hK K
      refine W.ret ?_
      refine XBlock.ret ?_
      refine XThen.ret ?_
      refine XThen.ret ?_
      refine XBlock.ret ?_
      refine XBlock.ret ?_
      refine XThen.ret ?_
      refine XThen.ret ?_
      refine XBlock.ret ?_
      refine XThen.ret ?_
      refine Br rfl ?_
      rw [zpi hrow (zm0 hc (by cases hb:zda c with | false=>rfl | true=>exfalso; simp only[zda,qB,decide_eq_true_eq]at hb; omega))]
      rfl
     try simp only[RL]at h4
     refine W.skip ?_
     refine XbN ?_
     refine xn ?_
     refine W.k fun K hK=>?_
     simp(disch:=omega)only[↓RU,RW,↓reduceIte,qE,reduceCtorEq,iP,w64,zaa]
     apply hK;clear hK K
     refine xn ?_
     refine ⟨row.length - (k+1),by omega,0,k+1,rfl,by omega,zsr hc hl (by simp only[decide_eq_false_iff_not]at hlo; simp only[zda,qB,decide_eq_true_eq]; omega),?_,rfl⟩
     simp [Env.put,Env.of]
    skip
    simp(disch:=omega)only[↓RU,RW,↓reduceIte,qE,reduceCtorEq,iP,w64,ty5,zal,zhv,hrow,hc,hlo]
    apply hK;clear hK K
    refine W.cond rfl (fun h4=>?_) (fun h4=>?_)
    ·try simp only[RL]at h4
     refine W.r fun K hK=>?_
     simp(disch:=omega)only[↓RU,RW,↓reduceIte,qE,reduceCtorEq,iP]
     apply hK;clear hK K
     refine W.ret ?_
     refine XBlock.ret ?_
     refine XThen.ret ?_
     refine XThen.ret ?_
     refine XBlock.ret ?_
     refine XBlock.ret ?_
     refine XThen.ret ?_
     refine XThen.ret ?_
     refine XBlock.ret ?_
     refine XThen.ret ?_
     refine Br rfl ?_
     simp only[decide_eq_true_eq]at hlo
     rw [zpi hrow (zm0 hc (by cases hb:zda c with | false=>rfl | true=>exfalso; simp only[zda,qB,decide_eq_true_eq]at hb; omega))]
     rfl
    try simp only[RL]at h4
    exact absurd h4 (by simp)
   try simp only[RL]at h3
   have hl2:row.all zda=true:=by rw [show k=row.length by omega,List.take_length]at hl; exact hl
   refine W.exit ?_
   refine xe ?_
   refine xe ?_
   refine XBlock.hit ?_
   refine XbN ?_
   refine xn ?_
   refine W.k fun K hK=>?_
   simp(disch:=omega)only[↓RU,RW,↓reduceIte,qE,reduceCtorEq,iP,w64,zaa]
   apply hK;clear hK K
   refine xn ?_
   refine ⟨p.length - (i+1),by omega,0,i+1,rfl,by omega,zsr hrow hg (by rw [hhd]; simp only[zsn,hl2,Bool.and_true,qB,decide_eq_true_eq]; omega),?_,rfl⟩
   simp [Env.put,Env.of]
  skip
  simp(disch:=omega)only[↓RU,RW,↓reduceIte,qE,reduceCtorEq,iP,w64,qN,ty5,zaa,zal,hrow,hrow0,Int.toNat_zero,Nat.zero_mul,qZ,hw]
  apply hK;clear hK K
  simp only[bne_iff_ne,ne_eq]at hw
  refine W.cond rfl (fun h2=>?_) (fun h2=>?_)
  ·try simp only[RL]at h2
   refine W.r fun K hK=>?_
   simp(disch:=omega)only[↓RU,RW,↓reduceIte,qE,reduceCtorEq,iP]
   apply hK;clear hK K
   refine W.ret ?_
   refine XThen.ret ?_
   refine XBlock.ret ?_
   refine XThen.ret ?_
   refine XThen.ret ?_
   refine XBlock.ret ?_
   refine XThen.ret ?_
   refine Br rfl ?_
   rw [zpi hrow (by cases hb:zsn (zag p).length row with | false=>rfl | true=>exfalso; simp only[zsn,qB,decide_eq_true_eq]at hb; rw [hhd]at hb; omega)]
   rfl
  try simp only[RL]at h2
  exact absurd h2 (by simp)
 try simp only[RL]at h
 refine W.exit ?_
 refine xe ?_
 refine xe ?_
 refine XBlock.hit ?_
 refine xn ?_
 refine W.r fun K hK=>?_
 simp(disch:=omega)only[↓RU,RW,↓reduceIte,qE,reduceCtorEq,iP,qN,ty5,zal]
 refine zac.pc (z89 _ _ _) rfl (.inl rfl) ?_
 simp(disch:=omega)only[↓RU,RW,↓reduceIte,qE,reduceCtorEq,iP,qN,ty5,zal]
 apply hK;clear hK K
 refine W.ret ?_
 refine Br rfl ?_
 have hip:i=p.length:=by omega
 rw [hip,List.take_length]at hg
 rw [z8u hg,← yj6]
 rfl
theorem zth {p:List Txt} (hs:Sm p):PC Tryz.prog 27 [zbi p] (zbi (names p)) true:=by
 have hp:=hs.rows
 have hr:=hs.cols
 refine PC.of ⟨Tryz.func27,by kernel_rfl,rfl,by kernel_rfl⟩ zav mixed (by show 1≤Tryz.f27.ntmps; decide) ?_
 refine W.r fun K hK=>?_
 simp(disch:=omega)only[↓RU,RW,↓reduceIte,qE,reduceCtorEq,iP,↓RS,RG,qA,qM,qL]
 apply hK;clear hK K
 refine W.r fun K hK=>?_
 simp(disch:=omega)only[↓RU,RW,↓reduceIte,qE,reduceCtorEq,iP,↓RS,RG,qA,qM,qL,ty6,zhv]
 apply hK;clear hK K
 refine W.r fun K hK=>?_
 simp(disch:=omega)only[↓RU,RW,↓reduceIte,qE,reduceCtorEq,iP,↓RS,RG,qA,qM,qL,ty5,zal]
 apply hK;clear hK K
 refine W.seq ?_
 refine W.r fun K hK=>?_
 simp(disch:=omega)only[↓RU,RW,↓reduceIte,qE,reduceCtorEq,iP,↓RS,RG,qA,qM,qL]
 apply hK;clear hK K
 refine W.block ?_
 refine W.loop [0,3,4,5] (fun n vs S=>∃ i v0 v1 tk:Nat,n=p.length - i∧i≤p.length∧vs=[zbi p,.loc 0 v0 0 (zfh p i).1.length,.loc 1 v1 0 (zfh p i).2.length,.int .i64 i]∧S=⟨[.arr v0 5 1 ((zfh p i).1.map eB),.arr v1 9 1 ((zfh p i).2.map .str)],tk⟩) (p.length) ?_ ?_
 ·refine ⟨2,0,0,1,2,rfl,Nat.zero_le _,?_,rfl⟩
  simp [Env.put,Env.of,zai,zfh]
 rintro n vs S - ⟨i,v0,v1,tk,rfl,h_i,rfl,rfl⟩
 refine W.seq ?_
 refine W.r fun K hK=>?_
 simp(disch:=omega)only[↓RU,RW,↓reduceIte,qE,reduceCtorEq,iP,w64,↓RS,RG,qA,qM,qL,ty5,zaa,zal]
 apply hK;clear hK K
 refine W.cond rfl (fun h=>?_) (fun h=>?_)
 ·try simp only[RL]at h
  obtain ⟨row,hrow,hrm⟩:=zaj (show i<p.length by omega)
  have hrl:=hr row hrm
  have hal:=zp3 h_i
  have hs1:=hs.1
  refine W.skip ?_
  refine xn ?_
  refine W.seq ?_
  refine W.block ?_
  refine W.r fun K hK=>?_
  simp(disch:=omega)only[↓RU,RW,↓reduceIte,qE,reduceCtorEq,iP,↓RS,RG,qA,qM,qL,ty6,zhv]
  apply hK;clear hK K
  refine W.seq ?_
  refine W.r fun K hK=>?_
  simp(disch:=omega)only[↓RU,RW,↓reduceIte,qE,reduceCtorEq,iP,↓RS,RG,qA,qM,qL]
  apply hK;clear hK K
  refine W.block ?_
  refine W.loop [0,3,4,5,6,7] (fun n vs S=>∃ k v0 v2 tk:Nat,n=row.length - k∧k≤row.length∧vs=[zbi p,.loc 0 v0 0 (zlb (zfh p i).1 row k).1.length,.loc 1 v1 0 (zfh p i).2.length,.int .i64 i,.loc 2 v2 0 (zlb (zfh p i).1 row k).2.length,.int .i64 k]∧S=⟨[.arr v0 5 1 ((zlb (zfh p i).1 row k).1.map eB),.arr v1 9 1 ((zfh p i).2.map .str),.arr v2 5 1 ((zlb (zfh p i).1 row k).2.map eB)],tk⟩) (row.length) ?_ ?_
  ·refine ⟨3,0,v0,tk,tk+1,rfl,Nat.zero_le _,?_,rfl⟩
   simp [Env.put,Env.of,zai,zlb]
  rintro n vs S - ⟨k,v0,v2,tk,rfl,h_k,rfl,rfl⟩
  refine W.seq ?_
  refine W.r fun K hK=>?_
  simp(disch:=omega)only[↓RU,RW,↓reduceIte,qE,reduceCtorEq,iP,w64,↓RS,RG,qA,qM,qL,ty5,zaa,zal,hrow]
  apply hK;clear hK K
  refine W.cond rfl (fun h1=>?_) (fun h1=>?_)
  ·try simp only[RL]at h1
   obtain ⟨c,hc,-⟩:=zaj (show k<row.length by omega)
   have hcl:=c.toNat_lt
   have hrs:=zrt (o:=(zfh p i).1) h_k
   generalize hst:zlb (zfh p i).1 row k=st at hrs ⊢
   refine W.skip ?_
   refine xn ?_
   refine W.seq ?_
   refine W.block ?_
   refine W.r fun K hK=>?_
   simp(disch:=omega)only[↓RU,RW,↓reduceIte,qE,reduceCtorEq,iP,↓RS,RG,qA,qM,qL]
   apply hK;clear hK K
   refine W.seq ?_
   refine W.block ?_
   refine W.loop [0,3,4,5,6,7,8] (fun n vs S=>∃ a:Nat,n=st.1.length - a∧a≤st.1.length∧(∀ j,j<a→st.1[j]?≠some c)∧vs=[zbi p,.loc 0 v0 0 st.1.length,.loc 1 v1 0 (zfh p i).2.length,.int .i64 i,.loc 2 v2 0 st.2.length,.int .i64 k,.int .i64 a]∧S=⟨[.arr v0 5 1 (st.1.map eB),.arr v1 9 1 ((zfh p i).2.map .str),.arr v2 5 1 (st.2.map eB)],tk⟩) (st.1.length) ?_ ?_
   ·refine ⟨3,0,rfl,Nat.zero_le _,fun j hj=>absurd hj (Nat.not_lt_zero _),?_,rfl⟩
    simp [Env.put,Env.of,zai]
   rintro n vs S - ⟨a,rfl,h_a,ha,rfl,rfl⟩
   refine W.seq ?_
   refine W.seq_draw (by kernel_rfl) fun K hK=>?_
   cases ho:decide ((a:Int)<(st.1.length:Int))
   ·skip
    simp(disch:=omega)only[↓RU,RW,↓reduceIte,qE,reduceCtorEq,iP,w64,↓RS,RG,qA,qM,qL,ty5,ty6,zaa,zal,zhv,hrow,hc,ho]
    apply hK;clear hK K
    refine W.cond rfl (fun h2=>?_) (fun h2=>?_)
    ·try simp only[RL]at h2
     exact absurd h2 (by simp)
    ·try simp only[RL]at h2
     have hal2:a=st.1.length:=by simp at ho; omega
     have hix:st.1.idxOf c=a:=zu3 ha (.inl hal2)
     refine W.exit ?_
     refine xe ?_
     refine xe ?_
     refine XBlock.hit ?_
     refine xn ?_
     refine W.seq ?_
     refine W.r fun K hK=>?_
     simp(disch:=omega)only[↓RU,RW,↓reduceIte,qE,reduceCtorEq,iP,w64,↓RS,RG,qA,qM,qL,ty6,zaa,zhv]
     apply hK;clear hK K
     refine W.cond rfl (fun h3=>?_) (fun h3=>?_)
     ·try simp only[RL]at h3
      refine W.k fun K hK=>?_
      simp(disch:=omega)only[↓RU,RW,↓reduceIte,qE,reduceCtorEq,iP,↓RS,RG,qA,qM,qL,ty5,ty6,zal,zhv,hrow,hc]
      apply hK;clear hK K
      refine xn ?_
      refine W.k fun K hK=>?_
      simp(disch:=omega)only[↓RU,RW,↓reduceIte,qE,reduceCtorEq,iP,w64,w64,↓RS,RG,qA,qM,qL,ty6,zaa,zhv,yi8]
      apply hK;clear hK K
      refine XbN ?_
      refine xn ?_
      refine W.k fun K hK=>?_
      simp(disch:=omega)only[↓RU,RW,↓reduceIte,qE,reduceCtorEq,iP,w64,↓RS,RG,qA,qM,qL,zaa]
      apply hK;clear hK K
      refine xn ?_
      refine ⟨row.length - (k+1),by omega,3,k+1,tk+1,tk+3,tk+4,rfl,by omega,?_,?_⟩
      all_goals rw [zj8 hc,hst,ydx hix hal2]
      all_goals simp [Env.put,Env.of,zcs]
     try simp only[RL]at h3
     simp at ho; omega
   ·skip
    obtain ⟨x,hx,-⟩:=zaj (show a<st.1.length by simpa using ho)
    have ho2:a<st.1.length:=by simpa using ho
    simp(disch:=omega)only[↓RU,RW,↓reduceIte,qE,reduceCtorEq,iP,w64,↓RS,RG,qA,qM,qL,ty5,ty6,zaa,zal,zhv,hrow,hc,ho,hx]
    apply hK;clear hK K
    refine W.cond rfl (fun h2=>?_) (fun h2=>?_)
    ·try simp only[RL]at h2
     refine W.skip ?_
     refine xn ?_
     refine W.block ?_
     refine W.k fun K hK=>?_
     simp(disch:=omega)only[↓RU,RW,↓reduceIte,qE,reduceCtorEq,iP,w64,↓RS,RG,qA,qM,qL,zaa]
     apply hK;clear hK K
     refine XbN ?_
     refine xn ?_
     refine ⟨st.1.length - (a+1),by omega,3,a+1,rfl,by omega,fun j hj=>(Nat.lt_succ_iff_lt_or_eq.1 hj).elim (ha j) fun e=>by rw [e,hx]; intro e2; exact h2 (by rw [Option.some.inj e2]),?_,rfl⟩
     simp [Env.put,Env.of]
    ·try simp only[RL]at h2
     have hal2:a<st.1.length:=by simpa using ho
     have hix:st.1.idxOf c=a:=zu3 ha (.inr (by rw [hx,UInt8.toNat_inj.1 (show x.toNat=c.toNat by omega)]))
     refine W.exit ?_
     refine xe ?_
     refine xe ?_
     refine XBlock.hit ?_
     refine xn ?_
     refine W.seq ?_
     refine W.r fun K hK=>?_
     simp(disch:=omega)only[↓RU,RW,↓reduceIte,qE,reduceCtorEq,iP,w64,↓RS,RG,qA,qM,qL,ty6,zaa,zhv]
     apply hK;clear hK K
     refine W.cond rfl (fun h3=>?_) (fun h3=>?_)
     ·try simp only[RL]at h3
      simp at ho; omega
     ·try simp only[RL]at h3
      refine W.skip ?_
      refine xn ?_
      refine W.k fun K hK=>?_
      simp(disch:=omega)only[↓RU,RW,↓reduceIte,qE,reduceCtorEq,iP,w64,w64,↓RS,RG,qA,qM,qL,ty6,zaa,zhv,yi8]
      apply hK;clear hK K
      refine XbN ?_
      refine xn ?_
      refine W.k fun K hK=>?_
      simp(disch:=omega)only[↓RU,RW,↓reduceIte,qE,reduceCtorEq,iP,w64,↓RS,RG,qA,qM,qL,zaa]
      apply hK;clear hK K
      refine xn ?_
      refine ⟨row.length - (k+1),by omega,3,k+1,v0,tk+1,tk+2,rfl,by omega,?_,?_⟩
      all_goals rw [zj8 hc,hst,ydy hix hal2]
      all_goals simp [Env.put,Env.of,zcs]
  ·try simp only[RL]at h1
   have hkr:k=row.length:=by omega
   subst hkr
   refine W.exit ?_
   refine xe ?_
   refine xe ?_
   refine XBlock.hit ?_
   refine xn ?_
   refine W.k fun K hK=>?_
   simp(disch:=omega)only[↓RU,RW,↓reduceIte,qE,reduceCtorEq,iP,w64,↓RS,RG,qA,qM,qL,ty5,ty6,zal,zhv]
   apply hK;clear hK K
   refine XbN ?_
   refine xn ?_
   refine W.k fun K hK=>?_
   simp(disch:=omega)only[↓RU,RW,↓reduceIte,qE,reduceCtorEq,iP,w64,↓RS,RG,qA,qM,qL,zaa]
   apply hK;clear hK K
   refine xn ?_
   refine ⟨p.length - (i+1),by omega,2,i+1,v0,tk+1,tk+2,rfl,by omega,?_,?_⟩
   all_goals rw [zjv hrow]
   all_goals simp [Env.put,Env.of,zcs]
 try simp only[RL]at h
 refine W.exit ?_
 refine xe ?_
 refine xe ?_
 refine XBlock.hit ?_
 refine xn ?_
 refine W.r fun K hK=>?_
 simp(disch:=omega)only[↓RU,RW,↓reduceIte,qE,reduceCtorEq,iP,↓RS,RG,qA,qM,qL]
 apply hK;clear hK K
 refine W.ret ?_
 refine Br rfl ?_
 have hip:i=p.length:=by omega
 subst hip
 rw [zwr]
 exact zce (k:=9) rfl (by simp) (zii _)
theorem zn4 {p:List Txt} (hs:Sm p):PC Tryz.prog 7 [zbi p] (.bool (zbk p)) true:=by
 have hp:=hs.rows
 have hrb:=zl9 p
 obtain ⟨R,hR⟩:∃ R:Nat,zdt p=R:=⟨_,(Int.toNat_of_nonneg hrb.1).symm⟩
 refine PC.of ⟨Tryz.func7,by kernel_rfl,rfl,by kernel_rfl⟩ zav mixed (by show 1≤Tryz.f7.ntmps; decide) ?_
 refine W.r fun K hK=>?_
 simp(disch:=omega)only[↓RU,RW,↓reduceIte,qE,reduceCtorEq,iP]
 apply hK;clear hK K
 refine W.seq ?_
 refine W.r fun K hK=>?_
 rcases hx:(zcx p,decide (names p=p)) with ⟨_ | _,_ | _⟩
 ·skip
  simp only[Prod.mk.injEq]at hx
  obtain ⟨hg,hn⟩:=hx
  simp(disch:=omega)only[↓RU,RW,↓reduceIte,qE,reduceCtorEq,iP,qN,w64,zaa,hg]
  refine zac.pc (zl8 hs) rfl (.inl rfl) ?_
  simp(disch:=omega)only[↓RU,RW,↓reduceIte,qE,reduceCtorEq,iP,qN,w64,zaa,hg]
  apply hK;clear hK K
  refine W.cond rfl (fun h0=>?_) (fun h0=>?_)
  ·try simp only[RL]at h0
   refine W.r fun K hK=>?_
   simp(disch:=omega)only[↓RU,RW,↓reduceIte,qE,reduceCtorEq,iP]
   apply hK;clear hK K
   refine W.ret ?_
   refine XThen.ret ?_
   refine Br rfl ?_
   rw [zpo (.inl hg)]
   rfl
  try simp only[RL]at h0
  exact absurd h0 (by simp)
 ·skip
  simp only[Prod.mk.injEq]at hx
  obtain ⟨hg,hn⟩:=hx
  simp(disch:=omega)only[↓RU,RW,↓reduceIte,qE,reduceCtorEq,iP,qN,w64,zaa,hg]
  refine zac.pc (zl8 hs) rfl (.inl rfl) ?_
  simp(disch:=omega)only[↓RU,RW,↓reduceIte,qE,reduceCtorEq,iP,qN,w64,zaa,hg]
  apply hK;clear hK K
  refine W.cond rfl (fun h0=>?_) (fun h0=>?_)
  ·try simp only[RL]at h0
   refine W.r fun K hK=>?_
   simp(disch:=omega)only[↓RU,RW,↓reduceIte,qE,reduceCtorEq,iP]
   apply hK;clear hK K
   refine W.ret ?_
   refine XThen.ret ?_
   refine Br rfl ?_
   rw [zpo (.inl hg)]
   rfl
  try simp only[RL]at h0
  exact absurd h0 (by simp)
 ·skip
  simp only[Prod.mk.injEq]at hx
  obtain ⟨hg,hn⟩:=hx
  simp(disch:=omega)only[↓RU,RW,↓reduceIte,qE,reduceCtorEq,iP,qN,w64,zaa,hg,hn]
  refine zac.pc (zl8 hs) rfl (.inl rfl) ?_
  simp(disch:=omega)only[↓RU,RW,↓reduceIte,qE,reduceCtorEq,iP,qN,w64,zaa,hg,hn]
  refine zac.pc (zth hs) rfl (.inl rfl) ?_
  simp(disch:=omega)only[↓RU,RW,↓reduceIte,qE,reduceCtorEq,iP,qN,w64,zaa,hg,hn]
  refine zac.pc (zxv hs.names) rfl (.inl rfl) ?_
  simp(disch:=omega)only[↓RU,RW,↓reduceIte,qE,reduceCtorEq,iP,qN,w64,zaa,hg,hn]
  apply hK;clear hK K
  refine W.cond rfl (fun h0=>?_) (fun h0=>?_)
  ·try simp only[RL]at h0
   refine W.r fun K hK=>?_
   simp(disch:=omega)only[↓RU,RW,↓reduceIte,qE,reduceCtorEq,iP]
   apply hK;clear hK K
   refine W.ret ?_
   refine XThen.ret ?_
   refine Br rfl ?_
   rw [zpo (.inr (.inl hn))]
   rfl
  try simp only[RL]at h0
  exact absurd h0 (by simp)
 skip
 simp only[Prod.mk.injEq]at hx
 obtain ⟨hg,hn⟩:=hx
 simp(disch:=omega)only[↓RU,RW,↓reduceIte,qE,reduceCtorEq,iP,qN,w64,zaa,hg,hn]
 refine zac.pc (zl8 hs) rfl (.inl rfl) ?_
 simp(disch:=omega)only[↓RU,RW,↓reduceIte,qE,reduceCtorEq,iP,qN,w64,zaa,hg,hn]
 refine zac.pc (zth hs) rfl (.inl rfl) ?_
 simp(disch:=omega)only[↓RU,RW,↓reduceIte,qE,reduceCtorEq,iP,qN,w64,zaa,hg,hn]
 refine zac.pc (zxv hs.names) rfl (.inl rfl) ?_
 simp(disch:=omega)only[↓RU,RW,↓reduceIte,qE,reduceCtorEq,iP,qN,w64,zaa,hg,hn]
 refine zac.pc (zti hs) rfl (.inl rfl) ?_
 simp(disch:=omega)only[↓RU,RW,↓reduceIte,qE,reduceCtorEq,iP,qN,w64,zaa,hg,hn]
 apply hK;clear hK K
 refine W.cond rfl (fun h0=>?_) (fun h0=>?_)
 ·try simp only[RL]at h0
  refine W.r fun K hK=>?_
  simp(disch:=omega)only[↓RU,RW,↓reduceIte,qE,reduceCtorEq,iP]
  apply hK;clear hK K
  refine W.ret ?_
  refine XThen.ret ?_
  refine Br rfl ?_
  rw [zpo (.inr (.inr h0))]
  rfl
 try simp only[RL]at h0
 have hsm:=zbo hg
 refine W.skip ?_
 refine xn ?_
 refine W.seq ?_
 refine W.r fun K hK=>?_
 simp(disch:=omega)only[↓RU,RW,↓reduceIte,qE,reduceCtorEq,iP]
 apply hK;clear hK K
 refine W.block ?_
 refine W.loop [0,3] (fun n vs S=>∃ i:Nat,n=R - i∧i≤R∧((List.range i).all (ya2 p)=true)∧vs=[zbi p,.int .i64 i]∧S=⟨[],0⟩) (R) ?_ ?_
 ·refine ⟨0,0,rfl,Nat.zero_le _,rfl,?_,rfl⟩
  simp [Env.put,Env.of,zai]
 rintro n vs S - ⟨i,rfl,h_i,hi,rfl,rfl⟩
 refine W.seq ?_
 refine W.r fun K hK=>?_
 simp(disch:=omega)only[↓RU,RW,↓reduceIte,qE,reduceCtorEq,iP,qN,w64,zaa,hR]
 refine zac.pc (zti hs) rfl (.inl rfl) ?_
 simp(disch:=omega)only[↓RU,RW,↓reduceIte,qE,reduceCtorEq,iP,qN,w64,zaa,hR]
 apply hK;clear hK K
 refine W.cond rfl (fun h1=>?_) (fun h1=>?_)
 ·try simp only[RL]at h1
  have hbs:=z7l (i:Int) hsm.2.1 hsm.2.2
  refine W.skip ?_
  refine xn ?_
  refine W.seq ?_
  refine W.block ?_
  refine W.r fun K hK=>?_
  simp(disch:=omega)only[↓RU,RW,↓reduceIte,qE,reduceCtorEq,iP,qN]
  refine zac.pc (z87 hs hsm.1 (i:Int)) rfl (.inl rfl) ?_
  simp(disch:=omega)only[↓RU,RW,↓reduceIte,qE,reduceCtorEq,iP,qN]
  apply hK;clear hK K
  refine W.r fun K hK=>?_
  simp(disch:=omega)only[↓RU,RW,↓reduceIte,qE,reduceCtorEq,iP,qN,w64,zaa]
  refine zac.pc (z5t hs (by omega) (fun r hr=>by have:=hsm.2.2 r hr; omega) (i:Int)) rfl (.inl rfl) ?_
  simp(disch:=omega)only[↓RU,RW,↓reduceIte,qE,reduceCtorEq,iP,qN,w64,zaa]
  apply hK;clear hK K
  refine W.cond rfl (fun h2=>?_) (fun h2=>?_)
  ·try simp only[RL]at h2
   refine W.r fun K hK=>?_
   simp(disch:=omega)only[↓RU,RW,↓reduceIte,qE,reduceCtorEq,iP]
   apply hK;clear hK K
   refine W.ret ?_
   refine XBlock.ret ?_
   refine XThen.ret ?_
   refine XThen.ret ?_
   refine XBlock.ret ?_
   refine XThen.ret ?_
   refine Br rfl ?_
   have:(List.range R).all (ya2 p)=false:=by
    rw [List.all_eq_false]
    exact ⟨i,by simp; omega,by simpa [ya2] using h2⟩
   rw [z36 hg hn (by omega) hR,this]
   rfl
  try simp only[RL]at h2
  refine W.skip ?_
  refine XbN ?_
  refine xn ?_
  refine W.k fun K hK=>?_
  simp(disch:=omega)only[↓RU,RW,↓reduceIte,qE,reduceCtorEq,iP,w64,zaa]
  apply hK;clear hK K
  refine xn ?_
  refine ⟨R - (i+1),by omega,0,i+1,rfl,by omega,by rw [qS,List.all_append,hi]; simpa [ya2] using h2,?_,rfl⟩
  simp [Env.put,Env.of]
 try simp only[RL]at h1
 refine W.exit ?_
 refine xe ?_
 refine xe ?_
 refine XBlock.hit ?_
 refine xn ?_
 refine W.r fun K hK=>?_
 simp(disch:=omega)only[↓RU,RW,↓reduceIte,qE,reduceCtorEq,iP]
 apply hK;clear hK K
 refine W.ret ?_
 refine Br rfl ?_
 have hip:i=R:=by omega
 rw [hip]at hi
 rw [z36 hg hn (by omega) hR,hi]
 rfl

theorem z5u {p:List Txt} (hs:Sm p) (hg:zcx p=true):PC Tryz.prog 91 [zbi p] (zbi (zcq p)) true:=by
 have hp:=hs.rows
 have hsm:=zbo hg
 obtain ⟨row0,hrow0,hrm0⟩:=zaj hsm.1
 have hhd:=zcf hrow0
 have hw6:=hsm.2.2 row0 hrm0
 refine PC.of ⟨Tryz.func91,by kernel_rfl,rfl,by kernel_rfl⟩ zav mixed (by show 1≤Tryz.f91.ntmps; decide) ?_
 refine W.r fun K hK=>?_
 simp(disch:=omega)only[↓RU,RW,↓reduceIte,qE,reduceCtorEq,iP,↓RS,RG,qA,qM,qL]
 apply hK;clear hK K
 refine W.r fun K hK=>?_
 simp(disch:=omega)only[↓RU,RW,↓reduceIte,qE,reduceCtorEq,iP,↓RS,RG,qA,qM,qL,ty5,zal]
 apply hK;clear hK K
 refine W.seq ?_
 refine W.r fun K hK=>?_
 simp(disch:=omega)only[↓RU,RW,↓reduceIte,qE,reduceCtorEq,iP,↓RS,RG,qA,qM,qL]
 apply hK;clear hK K
 refine W.block ?_
 refine W.loop [0,3,4] (fun n vs S=>∃ k v0 tk:Nat,n=row0.length - k∧k≤row0.length∧vs=[zbi p,.loc 0 v0 0 k,.int .i64 k]∧S=⟨[.arr v0 9 1 ((zkj p k).map .str)],tk⟩) (row0.length) ?_ ?_
 ·refine ⟨1,0,0,1,rfl,Nat.zero_le _,?_,rfl⟩
  simp [Env.put,Env.of,zai]
 rintro n vs S - ⟨k,v0,tk,rfl,h_k,rfl,rfl⟩
 refine W.seq ?_
 refine W.r fun K hK=>?_
 simp(disch:=omega)only[↓RU,RW,↓reduceIte,qE,reduceCtorEq,iP,w64,↓RS,RG,qA,qM,qL,ty5,zaa,zal,hrow0,Int.toNat_zero,Nat.zero_mul,qZ]
 apply hK;clear hK K
 refine W.cond rfl (fun h=>?_) (fun h=>?_)
 ·try simp only[RL]at h
  have hcl0:=zjw (p:=p) (k:=k)
  refine W.skip ?_
  refine xn ?_
  refine W.seq ?_
  refine W.block ?_
  refine W.r fun K hK=>?_
  simp(disch:=omega)only[↓RU,RW,↓reduceIte,qE,reduceCtorEq,iP,↓RS,RG,qA,qM,qL,ty6,zhv]
  apply hK;clear hK K
  refine W.seq ?_
  refine W.r fun K hK=>?_
  simp(disch:=omega)only[↓RU,RW,↓reduceIte,qE,reduceCtorEq,iP,↓RS,RG,qA,qM,qL]
  apply hK;clear hK K
  refine W.block ?_
  refine W.loop [0,3,4,5,6] (fun n vs S=>∃ i v1 tk:Nat,n=p.length - i∧i≤p.length∧vs=[zbi p,.loc 0 v0 0 k,.int .i64 k,.loc 1 v1 0 i,.int .i64 i]∧S=⟨[.arr v0 9 1 ((zkj p k).map .str),.arr v1 5 1 ((zo6 p k i).map eB)],tk⟩) (p.length) ?_ ?_
  ·refine ⟨2,0,tk,tk+1,rfl,Nat.zero_le _,?_,rfl⟩
   simp [Env.put,Env.of,zai]
  rintro n vs S - ⟨i,v1,tk,rfl,h_i,rfl,rfl⟩
  refine W.seq ?_
  refine W.r fun K hK=>?_
  simp(disch:=omega)only[↓RU,RW,↓reduceIte,qE,reduceCtorEq,iP,w64,↓RS,RG,qA,qM,qL,ty5,zaa,zal]
  apply hK;clear hK K
  refine W.cond rfl (fun h1=>?_) (fun h1=>?_)
  ·try simp only[RL]at h1
   obtain ⟨row,hrow,hrm⟩:=zaj (show i<p.length by omega)
   have hrl:=zew hg hrow
   rw [hhd]at hrl
   obtain ⟨c,hc,-⟩:=zaj (show k<row.length by omega)
   have hctl:=zh3 (p:=p) (k:=k) h_i
   refine W.skip ?_
   refine xn ?_
   refine W.seq ?_
   refine W.block ?_
   refine W.k fun K hK=>?_
   simp(disch:=omega)only[↓RU,RW,↓reduceIte,qE,reduceCtorEq,iP,↓RS,RG,qA,qM,qL,ty5,ty6,zal,zhv,hrow,hc]
   apply hK;clear hK K
   refine XbN ?_
   refine xn ?_
   refine W.k fun K hK=>?_
   simp(disch:=omega)only[↓RU,RW,↓reduceIte,qE,reduceCtorEq,iP,w64,↓RS,RG,qA,qM,qL,zaa]
   apply hK;clear hK K
   refine xn ?_
   refine ⟨p.length - (i+1),by omega,2,i+1,tk+1,tk+2,rfl,by omega,?_,?_⟩
   all_goals simp [Env.put,Env.of,zcs,z5e hrow hc,hcl0,hctl,z6u]
  ·try simp only[RL]at h1
   have hip:i=p.length:=by omega
   subst hip
   have hctl:=zh3 (p:=p) (k:=k) (qR _)
   refine W.exit ?_
   refine xe ?_
   refine xe ?_
   refine XBlock.hit ?_
   refine xn ?_
   refine W.k fun K hK=>?_
   simp(disch:=omega)only[↓RU,RW,↓reduceIte,qE,reduceCtorEq,iP,w64,↓RS,RG,qA,qM,qL,ty5,ty6,zal,zhv]
   apply hK;clear hK K
   refine XbN ?_
   refine xn ?_
   refine W.k fun K hK=>?_
   simp(disch:=omega)only[↓RU,RW,↓reduceIte,qE,reduceCtorEq,iP,w64,↓RS,RG,qA,qM,qL,zaa]
   apply hK;clear hK K
   refine xn ?_
   refine ⟨row0.length - (k+1),by omega,1,k+1,tk+1,tk+2,rfl,by omega,?_,?_⟩
   all_goals simp [Env.put,Env.of,zcs,z0m,hctl,z6u,hcl0]
 try simp only[RL]at h
 refine W.exit ?_
 refine xe ?_
 refine xe ?_
 refine XBlock.hit ?_
 refine xn ?_
 refine W.r fun K hK=>?_
 simp(disch:=omega)only[↓RU,RW,↓reduceIte,qE,reduceCtorEq,iP,↓RS,RG,qA,qM,qL]
 apply hK;clear hK K
 refine W.ret ?_
 refine Br rfl ?_
 have hkp:k=row0.length:=by omega
 subst hkp
 rw [zcq,hhd]
 exact zce (k:=9) rfl (by simp [zjw]) (zii _) |>.trans (by simp [zjw])

theorem zn2 {S:Store} {im:Bool} {k:Nat} {a b a2 b2:PV} (h1:reify S im k a=some a2) (h2:reify S im k b=some b2):reify S im (k+1) (.tup [a,b])=some (.tup [a2,b2]):=by
 simp [reify,h1,h2]
theorem zou {p:List Txt} (hs:Sm p) (hg:zcx p=true):PC Tryz.prog 90 [zbi p] (.sl ((uprights p).map eInts) (uprights p).length) false:=by
 have hp:=hs.rows
 have hsm:=zbo hg
 obtain ⟨row0,hrow0,hrm0⟩:=zaj hsm.1
 have hhd:=zcf hrow0
 have hw6:=hsm.2.2 row0 hrm0
 have hw1:=zfr hg hrow0
 refine PC.of ⟨Tryz.func90,by kernel_rfl,rfl,by kernel_rfl⟩ zav mixed (by show 1≤Tryz.f90.ntmps; decide) ?_
 refine W.r fun K hK=>?_
 simp(disch:=omega)only[↓RU,RW,↓reduceIte,qE,reduceCtorEq,iP,↓RS,RG,qA,qM,qL]
 apply hK;clear hK K
 refine W.r fun K hK=>?_
 simp(disch:=omega)only[↓RU,RW,↓reduceIte,qE,reduceCtorEq,iP,↓RS,RG,qA,qM,qL,ty1,zab,zaa]
 apply hK;clear hK K
 refine W.seq ?_
 refine W.r fun K hK=>?_
 simp(disch:=omega)only[↓RU,RW,↓reduceIte,qE,reduceCtorEq,iP,↓RS,RG,qA,qM,qL]
 apply hK;clear hK K
 refine W.block ?_
 refine W.loopZ [0,3,4] (fun n vs S=>∃ k v0 tk:Nat,n=row0.length - k∧k≤row0.length∧(1≤k)∧vs=[zbi p,.loc 0 v0 0 (zc5 p k).length,.int .i64 k]∧S=⟨[.arr v0 28 1 ((zc5 p k).map eInts)],tk⟩) (row0.length - 1) ?_ ?_
 ·refine ⟨1,[zbi p,.loc 0 0 0 (zc5 p 1).length,.int .i64 1],⟨[.arr 0 28 1 ((zc5 p 1).map eInts)],1⟩,?_,?_,1,0,1,rfl,by omega,qR _,rfl,rfl⟩
  ·rfl
  rfl
 rintro n vs S - ⟨k,v0,tk,rfl,h_k,h1k,rfl,rfl⟩
 refine W.seq ?_
 refine W.r fun K hK=>?_
 simp(disch:=omega)only[↓RU,RW,↓reduceIte,qE,reduceCtorEq,iP,w64,↓RS,RG,qA,qM,qL,ty5,zaa,zal,hrow0,Int.toNat_zero,Nat.zero_mul,qZ]
 apply hK;clear hK K
 refine W.cond rfl (fun h=>?_) (fun h=>?_)
 ·try simp only[RL]at h
  have hul:=Nat.le_trans (znc p k) (Nat.mul_le_mul (show p.length+1≤7 by omega) (show k≤6 by omega))
  refine W.skip ?_
  refine xn ?_
  refine W.seq ?_
  refine W.block ?_
  refine W.r fun K hK=>?_
  simp(disch:=omega)only[↓RU,RW,↓reduceIte,qE,reduceCtorEq,iP,↓RS,RG,qA,qM,qL]
  apply hK;clear hK K
  refine W.r fun K hK=>?_
  simp(disch:=omega)only[↓RU,RW,↓reduceIte,qE,reduceCtorEq,iP,↓RS,RG,qA,qM,qL]
  apply hK;clear hK K
  refine W.block ?_
  refine W.loopZ [0,3,4,5,6] (fun n vs S=>∃ i v0 tk:Nat,n=(p.length+1) - i∧i≤(p.length+1)∧vs=[zbi p,.loc 0 v0 0 (zeh p k (zc5 p k) i).2.length,.int .i64 k,.int .i64 (zeh p k (zc5 p k) i).1,.int .i64 i]∧S=⟨[.arr v0 28 1 ((zeh p k (zc5 p k) i).2.map eInts)],tk⟩) ((p.length+1)) ?_ ?_
  ·refine ⟨1,[zbi p,.loc 0 v0 0 (zeh p k (zc5 p k) 0).2.length,.int .i64 k,.int .i64 (zeh p k (zc5 p k) 0).1,.int .i64 0],⟨[.arr v0 28 1 ((zeh p k (zc5 p k) 0).2.map eInts)],tk⟩,?_,?_,0,v0,tk,rfl,by omega,rfl,rfl⟩
   ·simp [-qU,Store.frz,zec,zej,zcn,zds,zdj,zd4,zfl,zc8,zcu,zc9,zcm,zcp,zd9,zdb,zd5,zc7,Env.put,Env.of,zai,zd8,qP,qC] <;> simp [zeh]
   simp [-qU,Store.frz,zec,zej,zcn,zds,zdj,zd4,zfl,zc8,zcu,zc9,zcm,zcp,zd9,zdb,zd5,zc7,Env.put,Env.of,zai,zd8,qP,qC] <;> simp [zeh]
  rintro n vs S - ⟨i,v0,tk,rfl,h_i,rfl,rfl⟩
  refine W.seq ?_
  refine W.r fun K hK=>?_
  simp(disch:=omega)only[↓RU,RW,↓reduceIte,qE,reduceCtorEq,iP,w64,↓RS,RG,qA,qM,qL,ty5,zaa,zal]
  apply hK;clear hK K
  refine W.cond rfl (fun h1=>?_) (fun h1=>?_)
  ·try simp only[RL]at h1
   have hutl:=zwc p k (zc5 p k) i
   have hutb:=zuc p k (zc5 p k) i
   refine W.skip ?_
   refine xn ?_
   refine W.seq ?_
   refine W.block ?_
   refine W.join [0,3,4,5,6,7] (fun vs S=>vs=[zbi p,.loc 0 v0 0 (zeh p k (zc5 p k) i).2.length,.int .i64 k,.int .i64 (zeh p k (zc5 p k) i).1,.int .i64 i,.bool (zgb p k i)]∧S=⟨[.arr v0 28 1 ((zeh p k (zc5 p k) i).2.map eInts)],tk⟩) ?_ ?_
   ·
    refine W.draw_k (by kernel_rfl) fun K hK=>?_
    by_cases hip:i<p.length
    ·skip
     obtain ⟨r1,hr1,-⟩:=zaj hip
     have hrl:=zew hg hr1
     rw [hhd]at hrl
     obtain ⟨c1,hc1,-⟩:=zaj (show k - 1<r1.length by omega)
     obtain ⟨c2,hc2,-⟩:=zaj (show k<r1.length by omega)
     have hid:((i:Int)<(p.length:Int)):=by omega
     simp(disch:=omega)only[↓RU,RW,↓reduceIte,qE,reduceCtorEq,iP,w64,↓RS,RG,qA,qM,qL,ty5,zaa,zal,zhv,hid,decide_true,hr1,hc1,hc2,zdk]
     apply hK;clear hK K
     refine xn ?_
     refine ⟨1,?_,?_⟩
     all_goals simp [Env.put,Env.of,zcs,zgb,hip]
     try simp [zcy hr1 hc1,zcy hr1 hc2,ye0,zuo]
    ·skip
     have hid:¬ ((i:Int)<(p.length:Int)):=by omega
     simp(disch:=omega)only[↓RU,RW,↓reduceIte,qE,reduceCtorEq,iP,w64,↓RS,RG,qA,qM,qL,ty5,zaa,zal,zhv,hid,decide_false]
     apply hK;clear hK K
     refine xn ?_
     refine ⟨1,?_,?_⟩
     all_goals simp [Env.put,Env.of,zcs,zgb,hip]
     try simp [zcy hr1 hc1,zcy hr1 hc2,ye0,zuo]
   rintro vs S - ⟨rfl,rfl⟩
   refine W.seq ?_
   refine W.r fun K hK=>?_
   cases hw:zgb p k i
   ·skip
    simp(disch:=omega)only[↓RU,RW,↓reduceIte,qE,reduceCtorEq,iP,w64,↓RS,RG,qA,qM,qL,zaa,hw]
    apply hK;clear hK K
    refine W.cond rfl (fun h2=>?_) (fun h2=>?_)
    ·try simp only[RL]at h2
     exact absurd h2 (by simp)
    try simp only[RL]at h2
    refine W.skip ?_
    refine xn ?_
    refine W.r fun K hK=>?_
    simp(disch:=omega)only[↓RU,RW,↓reduceIte,qE,reduceCtorEq,iP,w64,↓RS,RG,qA,qM,qL,zaa]
    apply hK;clear hK K
    refine W.cond rfl (fun h3=>?_) (fun h3=>?_)
    ·try simp only[RL]at h3
     refine W.r fun K hK=>?_
     simp(disch:=omega)only[↓RU,RW,↓reduceIte,qE,reduceCtorEq,iP,w64,↓RS,RG,qA,qM,qL,ty1,zab,zaa]
     apply hK;clear hK K
     refine W.k fun K hK=>?_
     simp(disch:=omega)only[↓RU,RW,↓reduceIte,qE,reduceCtorEq,iP,↓RS,RG,qA,qM,qL]
     apply hK;clear hK K
     refine XbN ?_
     refine xn ?_
     refine W.k fun K hK=>?_
     simp(disch:=omega)only[↓RU,RW,↓reduceIte,qE,reduceCtorEq,iP,w64,↓RS,RG,qA,qM,qL,zaa]
     apply hK;clear hK K
     refine xn ?_
     refine ⟨(p.length+1) - (i+1),by omega,1,[zbi p,.loc 0 (tk+2) 0 (zeh p k (zc5 p k) (i+1)).2.length,.int .i64 k,.int .i64 (zeh p k (zc5 p k) (i+1)).1,.int .i64 (i+1)],⟨[.arr (tk+2) 28 1 ((zeh p k (zc5 p k) (i+1)).2.map eInts)],(tk+3)⟩,?_,?_,(i+1),tk+2,tk+3,rfl,by omega,rfl,rfl⟩
     ·simp [-qU,Store.frz,zec,zej,zcn,zds,zdj,zd4,zfl,zc8,zcu,zc9,zcm,zcp,zd9,zdb,zd5,zc7,Env.put,Env.of,zai,zd8,qP,qC,zeh,zeq,hw,h2,h3]
     simp [-qU,Store.frz,zec,zej,zcn,zds,zdj,zd4,zfl,zc8,zcu,zc9,zcm,zcp,zd9,zdb,zd5,zc7,Env.put,Env.of,zai,zd8,qP,qC,zeh,zeq,hw,h2,h3]
    try simp only[RL]at h3
    refine W.skip ?_
    refine XbN ?_
    refine xn ?_
    refine W.k fun K hK=>?_
    simp(disch:=omega)only[↓RU,RW,↓reduceIte,qE,reduceCtorEq,iP,w64,↓RS,RG,qA,qM,qL,zaa]
    apply hK;clear hK K
    refine xn ?_
    refine ⟨(p.length+1) - (i+1),by omega,1,[zbi p,.loc 0 v0 0 (zeh p k (zc5 p k) (i+1)).2.length,.int .i64 k,.int .i64 (zeh p k (zc5 p k) (i+1)).1,.int .i64 (i+1)],⟨[.arr v0 28 1 ((zeh p k (zc5 p k) (i+1)).2.map eInts)],tk⟩,?_,?_,(i+1),v0,tk,rfl,by omega,rfl,rfl⟩
    ·simp [-qU,Store.frz,zec,zej,zcn,zds,zdj,zd4,zfl,zc8,zcu,zc9,zcm,zcp,zd9,zdb,zd5,zc7,Env.put,Env.of,zai,zd8,qP,qC,zeh,zeq,hw,h2,h3]
    simp [-qU,Store.frz,zec,zej,zcn,zds,zdj,zd4,zfl,zc8,zcu,zc9,zcm,zcp,zd9,zdb,zd5,zc7,Env.put,Env.of,zai,zd8,qP,qC,zeh,zeq,hw,h2,h3]
   skip
   simp(disch:=omega)only[↓RU,RW,↓reduceIte,qE,reduceCtorEq,iP,w64,↓RS,RG,qA,qM,qL,zaa,hw]
   apply hK;clear hK K
   refine W.cond rfl (fun h2=>?_) (fun h2=>?_)
   ·try simp only[RL]at h2
    refine W.k fun K hK=>?_
    simp(disch:=omega)only[↓RU,RW,↓reduceIte,qE,reduceCtorEq,iP,↓RS,RG,qA,qM,qL]
    apply hK;clear hK K
    refine xn ?_
    refine W.r fun K hK=>?_
    simp(disch:=omega)only[↓RU,RW,↓reduceIte,qE,reduceCtorEq,iP,w64,↓RS,RG,qA,qM,qL,zaa]
    apply hK;clear hK K
    refine W.cond rfl (fun h3=>?_) (fun h3=>?_)
    ·try simp only[RL]at h3
     exact absurd h3 (by simp)
    try simp only[RL]at h3
    refine W.skip ?_
    refine XbN ?_
    refine xn ?_
    refine W.k fun K hK=>?_
    simp(disch:=omega)only[↓RU,RW,↓reduceIte,qE,reduceCtorEq,iP,w64,↓RS,RG,qA,qM,qL,zaa]
    apply hK;clear hK K
    refine xn ?_
    refine ⟨(p.length+1) - (i+1),by omega,1,[zbi p,.loc 0 v0 0 (zeh p k (zc5 p k) (i+1)).2.length,.int .i64 k,.int .i64 (zeh p k (zc5 p k) (i+1)).1,.int .i64 (i+1)],⟨[.arr v0 28 1 ((zeh p k (zc5 p k) (i+1)).2.map eInts)],tk⟩,?_,?_,(i+1),v0,tk,rfl,by omega,rfl,rfl⟩
    ·simp [-qU,Store.frz,zec,zej,zcn,zds,zdj,zd4,zfl,zc8,zcu,zc9,zcm,zcp,zd9,zdb,zd5,zc7,Env.put,Env.of,zai,zd8,qP,qC,zeh,zeq,hw,h2,h3]
    simp [-qU,Store.frz,zec,zej,zcn,zds,zdj,zd4,zfl,zc8,zcu,zc9,zcm,zcp,zd9,zdb,zd5,zc7,Env.put,Env.of,zai,zd8,qP,qC,zeh,zeq,hw,h2,h3]
   try simp only[RL]at h2
   refine W.skip ?_
   refine xn ?_
   refine W.r fun K hK=>?_
   simp(disch:=omega)only[↓RU,RW,↓reduceIte,qE,reduceCtorEq,iP,w64,↓RS,RG,qA,qM,qL,zaa]
   apply hK;clear hK K
   refine W.cond rfl (fun h3=>?_) (fun h3=>?_)
   ·try simp only[RL]at h3
    exact absurd h3 (by simp)
   try simp only[RL]at h3
   refine W.skip ?_
   refine XbN ?_
   refine xn ?_
   refine W.k fun K hK=>?_
   simp(disch:=omega)only[↓RU,RW,↓reduceIte,qE,reduceCtorEq,iP,w64,↓RS,RG,qA,qM,qL,zaa]
   apply hK;clear hK K
   refine xn ?_
   refine ⟨(p.length+1) - (i+1),by omega,1,[zbi p,.loc 0 v0 0 (zeh p k (zc5 p k) (i+1)).2.length,.int .i64 k,.int .i64 (zeh p k (zc5 p k) (i+1)).1,.int .i64 (i+1)],⟨[.arr v0 28 1 ((zeh p k (zc5 p k) (i+1)).2.map eInts)],tk⟩,?_,?_,(i+1),v0,tk,rfl,by omega,rfl,rfl⟩
   ·simp [-qU,Store.frz,zec,zej,zcn,zds,zdj,zd4,zfl,zc8,zcu,zc9,zcm,zcp,zd9,zdb,zd5,zc7,Env.put,Env.of,zai,zd8,qP,qC,zeh,zeq,hw,h2,h3]
   simp [-qU,Store.frz,zec,zej,zcn,zds,zdj,zd4,zfl,zc8,zcu,zc9,zcm,zcp,zd9,zdb,zd5,zc7,Env.put,Env.of,zai,zd8,qP,qC,zeh,zeq,hw,h2,h3]
  try simp only[RL]at h1
  refine W.exit ?_
  refine xe ?_
  refine xe ?_
  refine XBlock.hit ?_
  refine XbN ?_
  refine xn ?_
  refine W.k fun K hK=>?_
  simp(disch:=omega)only[↓RU,RW,↓reduceIte,qE,reduceCtorEq,iP,w64,↓RS,RG,qA,qM,qL,zaa]
  apply hK;clear hK K
  refine xn ?_
  refine ⟨row0.length - (k+1),by omega,1,[zbi p,.loc 0 v0 0 (zc5 p (k+1)).length,.int .i64 (k+1)],⟨[.arr v0 28 1 ((zc5 p (k+1)).map eInts)],tk⟩,?_,?_,(k+1),v0,tk,rfl,by omega,by omega,rfl,rfl⟩
  ·simp [-qU,Store.frz,zec,zej,zcn,zds,zdj,zd4,zfl,zc8,zcu,zc9,zcm,zcp,zd9,zdb,zd5,zc7,Env.put,Env.of,zai,zd8,qP,qC] <;> (rw [zke h1k]; obtain rfl:i=p.length+1:=(by omega); simp)
  simp [-qU,Store.frz,zec,zej,zcn,zds,zdj,zd4,zfl,zc8,zcu,zc9,zcm,zcp,zd9,zdb,zd5,zc7,Env.put,Env.of,zai,zd8,qP,qC] <;> (rw [zke h1k]; obtain rfl:i=p.length+1:=(by omega); simp)
 try simp only[RL]at h
 refine W.exit ?_
 refine xe ?_
 refine xe ?_
 refine XBlock.hit ?_
 refine xn ?_
 refine W.r fun K hK=>?_
 simp(disch:=omega)only[↓RU,RW,↓reduceIte,qE,reduceCtorEq,iP,↓RS,RG,qA,qM,qL]
 apply hK;clear hK K
 refine W.ret ?_
 refine Br rfl ?_
 have hkp:k=row0.length:=by omega
 subst hkp
 rw [uprights,hhd]
 exact zce (k:=9) rfl (by simp) (znt _)
def ygt (p:List Txt) (k0:Nat) (w:List Int):Prop :=
 ∃ k f l:Nat,w=[(k:Int),(f:Int),(l:Int)]∧1≤k∧k<k0∧1≤l∧f+l≤p.length∧∀ j,f≤j→j<f+l→zgb p k j=true
theorem zjs {p:List Txt} {k:Nat}:zgb p k p.length=false:=by simp [zgb]
theorem yb7 {p:List Txt} {k k0:Nat} (hk:1≤k) (hk0:k<k0) {s0:List (List Int)} (h0:∀ w∈s0,ygt p k0 w):∀ i,i≤p.length+1 →
  (∀ w∈(zeh p k s0 i).2,ygt p k0 w)∧((zeh p k s0 i).1 = -1∨∃ f:Nat,(zeh p k s0 i).1=f∧f<i∧∀ j,f≤j→j<i→zgb p k j=true)
 | 0,_=>⟨h0,.inl rfl⟩
 | i+1,hi=>by
  obtain ⟨ih1,ih2⟩:=yb7 hk hk0 h0 i (by omega)
  unfold zeh zeq
  cases hw:zgb p k i with
  | true =>
   simp only[Bool.true_and,decide_eq_true_eq,Bool.not_true,Bool.false_and,qF,if_false]
   refine ⟨ih1,.inr ?_⟩
   rcases ih2 with h | ⟨f,h,hf,hr⟩
   ·rw [h,if_pos (by omega)]
    exact ⟨i,rfl,by omega,fun j h1 h2=>by rw [show j=i by omega]; exact hw⟩
   rw [h,if_neg (by omega)]
   refine ⟨f,rfl,by omega,fun j h1 h2=>?_⟩
   by_cases hj:j=i
   ·rw [hj]; exact hw
   exact hr j h1 (by omega)
  | false =>
   simp only[Bool.false_and,qF,if_false,Bool.not_false,Bool.true_and,decide_eq_true_eq]
   rcases ih2 with h | ⟨f,h,hf,hr⟩
   ·rw [h,if_neg (by omega)]
    exact ⟨ih1,.inl rfl⟩
   rw [h,if_pos (by omega)]
   refine ⟨fun w hw'=>?_,.inl rfl⟩
   rcases List.mem_append.1 hw' with h1 | h1
   ·exact ih1 w h1
   rw [List.mem_singleton]at h1
   have hip:i≤p.length:=by omega
   refine ⟨k,f,i - f,by rw [h1]; simp; omega,hk,hk0,by omega,by omega,fun j h1 h2=>hr j h1 (by omega)⟩
theorem ygt.up {p:List Txt} {k k':Nat} (h:k≤k') {w:List Int} (hw:ygt p k w):ygt p k' w:=by
 obtain ⟨a,f,l,h1,h2,h3,h4⟩:=hw
 exact ⟨a,f,l,h1,h2,by omega,h4⟩
theorem zwf (p:List Txt):∀ k,∀ w∈zc5 p k,ygt p k w
 | 0,w,h=>by simp [zc5]at h
 | k+1,w,h=>by
  unfold zc5 at h
  split at h
  ·rename_i hk
   exact (yb7 hk (Nat.lt_succ_self k) (fun w hw=>(zwf p k w hw).up (by omega)) _ (qR _)).1 w h
  exact (zwf p k w h).up (by omega)
theorem ygo {p:List Txt} {w:List Int} (h:w∈uprights p):ygt p (zag p).length w:=zwf p _ w h
theorem z8t {p:List Txt} {i:Nat} (h:i<p.length):∃ row,p[i]?=some row∧row∈p:=by
 obtain ⟨r,h1,h2⟩:=zaj h; exact ⟨r,h1,h2⟩
theorem z7t {p:List Txt} {k i:Nat} {row:Txt} (h:p[i]?=some row):(zo6 p k p.length)[i]?=some (row.getD k 0):=by
 simp [zo6,h]
theorem zzz {p:List Txt} {k:Nat} (h:k<(zag p).length):(zcq p)[k]?=some (zo6 p k p.length):=by
 simp [zcq,zkj,h]
theorem zfu {p:List Txt}:(zcq p).length=(zag p).length:=by simp [zcq,zjw]
theorem zkd {p:List Txt} (h:0<(zag p).length):(zag (zcq p)).length=p.length:=by
 rw [zcf (zzz h)]; exact zh3 (qR _)
theorem zl4 {p:List Txt} (h:zcx p=true) {i k:Nat} {row:Txt} (hr:p[i]?=some row) (hk:k<(zag p).length):∃ c,row[k]?=some c∧zda c=true:=by
 have hl:=zew h hr
 unfold zcx at h
 simp only[qB,decide_eq_true_eq,List.all_eq_true]at h
 have:=h.1.1 row (List.mem_of_getElem? hr)
 simp only[zsn,qB,decide_eq_true_eq,List.all_eq_true]at this
 obtain ⟨c,hc,hm⟩:=zaj (show k<row.length by omega)
 exact ⟨c,hc,this.2 c hm⟩
theorem z6w {p:List Txt} (h:zcx p=true):zcx (zcq p)=true:=by
 have hsm:=zbo h
 obtain ⟨row0,hrow0,hrm0⟩:=zaj hsm.1
 have hhd:=zcf hrow0
 have hw1:=zfr h hrow0
 have hw6:=hsm.2.2 row0 hrm0
 have hlen:=zfu (p:=p)
 have hhd2:=zkd (p:=p) (by rw [hhd]; omega)
 rw [hhd]at hlen
 unfold zcx
 simp only[qB,decide_eq_true_eq,List.all_eq_true]
 refine ⟨⟨fun r hr=>?_,by omega⟩,by omega⟩
 simp only[zcq,zkj,List.mem_map,List.mem_range]at hr
 obtain ⟨k,hk,rfl⟩:=hr
 simp only[zsn,qB,decide_eq_true_eq,List.all_eq_true]
 refine ⟨⟨⟨by rw [hhd2]; exact zh3 (qR _),by rw [zh3 (qR _)]; omega⟩,by rw [zh3 (qR _)]; omega⟩,fun c hc=>?_⟩
 simp only[zo6,List.take_length,List.mem_map]at hc
 obtain ⟨row,hrm,rfl⟩:=hc
 obtain ⟨i,hi⟩:=List.mem_iff_getElem?.1 hrm
 obtain ⟨c,hc,hl⟩:=zl4 h hi hk
 simpa [List.getD_eq_getElem?_getD,hc] using hl
theorem Sm.grid {p:List Txt} (h:zcx p=true):Sm p:=by
 have:=zbo h
 exact ⟨by omega,fun r hr=>by have:=this.2.2 r hr; omega⟩
theorem zfa {p:List Txt} {i k:Nat} (h:i<p.length) (hk:k<(zag p).length):zaf (zcq p) k i=zaf p i k:=by
 obtain ⟨row,hr,-⟩:=zaj h
 simp [zaf,zzz hk,z7t hr,hr,List.getD_eq_getElem?_getD]
def walls (p:List Txt):List (List Int):=(uprights p).map (0 :: ·)++(uprights (zcq p)).map (1 :: ·)
theorem ya4 (row:Txt):∀ (n:Int),n≤zgt n row∧∀ (k:Nat) (c:UInt8),row[k]?=some c→(c.toNat:Int) - 97+1≤zgt n row:=by
 induction row with
 | nil=>intro n; exact ⟨Int.le_refl _,by simp⟩
 | cons a row ih =>
  intro n
  have h:=ih (max n ((a.toNat:Int) - 97+1))
  have e:zgt n (a::row)=zgt (max n ((a.toNat:Int) - 97+1)) row:=rfl
  rw [e]
  refine ⟨by omega,?_⟩
  rintro (_ | k) c hc
  ·simp at hc; subst hc; omega
  simp at hc; exact h.2 k c hc
theorem z6j (p:List Txt):∀ (n:Int),n≤p.foldl zgt n∧∀ (i k:Nat) (row:Txt) (c:UInt8),p[i]?=some row→row[k]?=some c→(c.toNat:Int) - 97+1≤p.foldl zgt n:=by
 induction p with
 | nil=>intro n; exact ⟨Int.le_refl _,by simp⟩
 | cons r p ih =>
  intro n
  have h:=ih (zgt n r)
  have h2:=ya4 r n
  simp only[List.foldl_cons]
  refine ⟨by omega,?_⟩
  rintro (_ | i) k row c hr hc
  ·simp at hr; subst hr
   have:=h2.2 k c hc; omega
  simp at hr; exact h.2 i k row c hr hc
def orBit (ms:List Nat) (a b:Nat):List Nat:=ms.set a ((ms[a]?.getD 0) ||| 2 ^ b)
def yj8 (a:Nat) (ms:List Nat) (bs:List Int):List Nat:=bs.foldl (fun ms b=>orBit ms a b.toNat) ms
def yj7 (bs:List Int) (ms:List Nat) (la:List Int):List Nat:=la.foldl (fun ms a=>yj8 a.toNat ms bs) ms
def ygf (p:List Txt) (w:List Int):List Int × List Int :=
 match w with
 | [kind,line,fr,long]=>ybh p kind.toNat line.toNat fr.toNat long.toNat
 | _=>([],[])
def ylb (p:List Txt) (kind:Int) (ms:List Nat) (w:List Int):List Nat :=
 if w[0]?.getD 0=kind then yj7 (ygf p w).2 ms (ygf p w).1 else ms
def just (p:List Txt) (kind:Int):List Nat:=(walls p).foldl (ylb p kind) (List.replicate (zdt p).toNat 0)
def yfg (c:Nat) (ms:List Nat) (a:Nat):List Nat:=if (ms[a]?.getD 0).testBit c then ms.set a ((ms[a]?.getD 0) ||| (ms[c]?.getD 0)) else ms
def allC (n:Nat) (ms:List Nat) (c:Nat):List Nat:=(List.range n).foldl (yfg c) ms
def allS (p:List Txt) (kind:Int):List Nat:=(List.range (just p kind).length).foldl (allC (just p kind).length) (just p kind)
def Msk (n:Nat) (ms:List Nat):Prop:=ms.length=n∧∀ m∈ms,m<512
theorem Msk.get {n:Nat} {ms:List Nat} (h:Msk n ms) (a:Nat):ms[a]?.getD 0<512:=by
 cases e:ms[a]? with
 | none=>simp
 | some m=>simpa using h.2 m (List.mem_of_getElem? e)
theorem yd4 {a b:Nat} (ha:a<512) (hb:b<512):a ||| b<512:=Nat.or_lt_two_pow (n:=9) ha hb
theorem Msk.set {n:Nat} {ms:List Nat} (h:Msk n ms) {a m:Nat} (hm:m<512):Msk n (ms.set a m):=by
 refine ⟨by simpa using h.1,fun x hx=>?_⟩
 rcases List.mem_or_eq_of_mem_set hx with h1 | rfl
 ·exact h.2 x h1
 exact hm
theorem Msk.orBit {n:Nat} {ms:List Nat} (h:Msk n ms) {a b:Nat} (hb:b<9):Msk n (orBit ms a b) :=
 h.set (yd4 (h.get a) (Nat.pow_lt_pow_right (by omega) hb))
theorem Msk.foldl {n:Nat} {α:Type} {f:List Nat→α→List Nat}:∀ {l:List α} {ms:List Nat},(∀ ms,Msk n ms→∀ a∈l,Msk n (f ms a))→Msk n ms→Msk n (l.foldl f ms)
 | [],ms,_,h=>h
 | a::l,ms,hf,h=>Msk.foldl (l:=l) (fun ms hm x hx=>hf ms hm x (by simp [hx])) (hf ms h a (by simp))
theorem yee {l:List Int} {x y:Int} (h:y∈zsm l x):y∈l∨y=x:=by
 unfold zsm at h
 split at h
 ·exact .inl h
 simpa using h
theorem zr1 {S:Store} {im:Bool} {k:Nat} {q:IntKind} (l:List Int):(l.map (PV.int q)).mapM (sh S im (k+1))=some (l.map (PV.int q)) :=
 zb7 fun x hx=>by obtain ⟨a,_,rfl⟩:=List.mem_map.1 hx; rfl
theorem ybf {S:Store} {im:Bool} {v et n:Nat} {cells:List PV} {R:List Ob} (hS:S.obs = .arr v et 1 cells::R) (hc:cells.mapM (sh (S.take 1) im 10)=some cells) :
  ∃ k,sh (S.take k) im 10 (.loc 0 v 0 n)=some (.loc 0 0 0 n)∧zgq (S.take k) im (S.take k).obs=some [.arr 0 et 1 cells]:=by
 refine ⟨1,?_,?_⟩
 ·simp [sh,Store.take,hS]
 have e:(S.take 1).obs=[.arr v et 1 cells]:=by simp [Store.take,hS]
 rw [e]
 simp [zgq,z4o,hc]
theorem zgc {α β:Type} {f:β→α→β} {z:β} {l:List α} {i:Nat} {a:α} (h:l[i]?=some a):(l.take (i+1)).foldl f z=f ((l.take i).foldl f z) a:=by
 simp [tk h,List.foldl_append]
theorem Msk.at_ {n:Nat} {ms:List Nat} (h:Msk n ms) {a:Nat} (ha:a<n):∃ m,ms[a]?=some m∧m<512:=by
 obtain ⟨m,hm,h2⟩:=zaj (show a<ms.length by rw [h.1]; exact ha)
 exact ⟨m,hm,h.2 m h2⟩
theorem zex {a b:Int} (h:a≤b):(a≤b)=True:=eq_true h
theorem yd3 {ms:List Nat} {a b m:Nat} (h:ms[a]?=some m):orBit ms a b=ms.set a (m ||| 2 ^ b):=by simp [orBit,h]
theorem zb8 {α:Type} {f:α→PV} {l:List α} {a:Nat} {v:PV} (h:a<l.length):(l.map f).take a++[v]++(l.map f).drop (a+1)=(l.map f).set a v:=by
 rw [List.set_eq_take_append_cons_drop,if_pos (by simpa using h)]; simp
theorem zdh {l:List Int} {q:IntKind} {a:Nat} {m:Int}:(l.map (PV.int q)).set a (.int q m)=(l.set a m).map (PV.int q):=by
 rw [List.map_set]
theorem zcz {β:Type} {f:β→Nat→β} {z:β} {i:Nat}:(List.range (i+1)).foldl f z=f ((List.range i).foldl f z) i:=by
 simp [qS,List.foldl_append]
theorem ycr {ms:List Nat} {c a m k:Nat} (h:ms[a]?=some m) (hc:ms[c]?=some k) (hb:m.testBit c=true):yfg c ms a=ms.set a (m ||| k):=by simp [yfg,h,hc,hb]
theorem ygu {ms:List Nat} {c a m:Nat} (h:ms[a]?=some m) (hb:m.testBit c=false):yfg c ms a=ms:=by simp [yfg,h,hb]

def Bnd (n:Nat) (M:Int) (l:List Int):Prop:=l.length=n∧∀ x∈l,0≤x∧x≤M
theorem Bnd.at_ {n:Nat} {M:Int} {l:List Int} (h:Bnd n M l) {a:Nat} (ha:a<n):∃ x,l[a]?=some x∧0≤x∧x≤M:=by
 obtain ⟨x,hx,hm⟩:=zaj (show a<l.length by rw [h.1]; exact ha)
 exact ⟨x,hx,h.2 x hm⟩
theorem Bnd.up {n:Nat} {M M':Int} {l:List Int} (h:Bnd n M l) (hM:M≤M'):Bnd n M' l:=⟨h.1,fun x hx=>by have:=h.2 x hx; omega⟩
theorem Bnd.set {n:Nat} {M:Int} {l:List Int} (h:Bnd n M l) {a:Nat} {x:Int} (h0:0≤x) (hx:x≤M):Bnd n M (l.set a x):=by
 refine ⟨by simpa using h.1,fun y hy=>?_⟩
 rcases List.mem_or_eq_of_mem_set hy with h1 | rfl
 ·exact h.2 y h1
 exact ⟨h0,hx⟩
theorem Bnd.zero {n:Nat}:Bnd n 0 (List.replicate n 0):=⟨by simp,fun x hx=>by rw [(List.mem_replicate.1 hx).2]; omega⟩
def zcw (l:List Int) (a:Nat):Int:=l[a]?.getD 0
theorem zf5 {l:List Int} {a:Nat} {x:Int} (h:l[a]?=some x):zcw l a=x:=by simp [zcw,h]
def zum (ms:List Nat) (a b:Nat):Bool:=(ms[a]?.getD 0).testBit b
theorem zpa {ms:List Nat} {a b m:Nat} (h:ms[a]?=some m):zum ms a b=m.testBit b:=by simp [zum,h]
def plB (sets:List Nat) (needs:List Int) (a:Nat) (out:List Int) (b:Nat):List Int :=
 if zum sets a b then out.set b (max (zcw out b) (zcw out a+zcw needs a)) else out
def plA (sets:List Nat) (needs:List Int) (out:List Int) (a:Nat):List Int:=(List.range needs.length).foldl (plB sets needs a) out
def plN (sets:List Nat) (needs:List Int) (out:List Int) (_:Nat):List Int:=(List.range needs.length).foldl (plA sets needs) out
def places (sets:List Nat) (needs:List Int):List Int:=(List.range needs.length).foldl (plN sets needs) (List.replicate needs.length 0)
def least (sets:List Nat) (needs:List Int):Int:=(List.range needs.length).foldl (fun m a=>max m (zcw (places sets needs) a+zcw needs a)) 0
theorem ze8:∀ (n:Nat),repz [PV.int .i64 0] n=(List.replicate n 0).map (PV.int .i64)
 | 0=>rfl
 | n+1=>by rw [zib,ze8 n,List.replicate_succ]; rfl
theorem zpp:∀ (n:Nat),repz [PV.str []] n=(List.replicate n []).map PV.str
 | 0=>rfl
 | n+1=>by rw [zib,zpp n,List.replicate_succ]; rfl
theorem ybe {l:List Txt} {a:Nat} {m:Txt}:(l.map PV.str).set a (.str m)=(l.set a m).map PV.str:=by
 rw [List.map_set]
theorem zw3 {α:Type} {l:List α} {z:α} {i:Nat} {a:α} (h:l[i]?=some a):((l.take i)++List.replicate (l.length - i) z).set i a=(l.take (i+1))++List.replicate (l.length - (i+1)) z:=by
 have hi:=zb5 h
 apply List.ext_getElem?
 intro j
 rw [List.getElem?_set]
 by_cases hj:i=j
 ·subst hj
  have e1:i<(l.take i++List.replicate (l.length - i) z).length:=by simp; omega
  rw [if_pos rfl,if_pos e1,tk h,List.append_assoc,List.getElem?_append_right (by simp; omega)]
  simp [Nat.min_eq_left (Nat.le_of_lt hi)]
 rw [if_neg hj]
 by_cases hlt:j<i
 ·rw [List.getElem?_append_left (by simp; omega),List.getElem?_append_left (by simp; omega)]
  simp [List.getElem?_take,hlt,show j<i+1 by omega]
 rw [List.getElem?_append_right (by simp; omega),List.getElem?_append_right (by simp; omega)]
 simp only[List.length_take,Nat.min_eq_left (Nat.le_of_lt hi),Nat.min_eq_left (show i+1≤l.length by omega),List.getElem?_replicate]
 have:(j - i<l.length - i)=(j - (i+1)<l.length - (i+1)):=by apply propext; omega
 simp [this]
def yi2:List Txt→Nat
 | []=>0
 | r::p=>r.length+yi2 p
def sz (p:List Txt) (left:Int):Int:=if (p.length+yi2 p:Nat)≤left then left - (p.length+yi2 p:Nat) else -1
theorem zzv {α:Type} {p q:List α} {i:Nat} {x y:α} (h:p.take i=q.take i) (hx:p[i]?=some x) (hy:q[i]?=some y) (e:x=y):p.take (i+1)=q.take (i+1):=by
 rw [tk hx,tk hy,h,e]
section
abbrev zct (g:List (List Int)):PV := .sl (g.map eInts) g.length
structure Rect where
 row:Int
 col:Int
 high:Int
 wide:Int
 deriving DecidableEq
def Rect.cells (r:Rect):List PV:=[.int .i64 r.row,.int .i64 r.col,.int .i64 r.high,.int .i64 r.wide]
abbrev zsd (r:Rect):PV := .agg r.cells
def rcs (rs:List Rect):List PV:=rs.flatMap Rect.cells
abbrev zoj (rs:List Rect):PV := .sl (rcs rs) rs.length
abbrev zar (g:List (List Int)) (rs:List Rect):PV := .ip [zct g,zoj rs] 0
theorem zbw (rs:List Rect):(rcs rs).length=rs.length*4:=by
 induction rs with
 | nil=>rfl
 | cons r rs ih=>simp only[rcs,List.flatMap_cons,List.length_append,List.length_cons]at ih ⊢; rw [ih]; simp [Rect.cells]; omega
theorem zvu (rs ss:List Rect):rcs (rs++ss)=rcs rs++rcs ss:=by simp [rcs]
theorem zmt (r:Rect) (rs:List Rect):rcs (r::rs)=r.cells++rcs rs:=rfl
theorem yef (rs:List Rect) (n:Nat):(rcs rs).take (n*4)=rcs (rs.take n):=by
 induction rs generalizing n with
 | nil=>simp [rcs]
 | cons r rs ih =>
  cases n with
  | zero=>simp [rcs]
  | succ n =>
   rw [zmt,List.take_succ_cons,zmt,← ih n]
   rw [show (n+1)*4=r.cells.length+n*4 by simp [Rect.cells]; omega,List.take_length_add_append]
theorem z4a (rs:List Rect) (n:Nat):(rcs rs).drop (n*4)=rcs (rs.drop n):=by
 induction rs generalizing n with
 | nil=>simp [rcs]
 | cons r rs ih =>
  cases n with
  | zero=>simp
  | succ n =>
   rw [zmt,List.drop_succ_cons,← ih n]
   rw [show (n+1)*4=r.cells.length+n*4 by simp [Rect.cells]; omega,List.drop_length_add_append]
theorem zks {rs:List Rect} {n:Nat} {r:Rect} (h:rs[n]?=some r):((rcs rs).drop (n*4)).take 4=r.cells:=by
 rw [z4a]
 have:rs.drop n=r::rs.drop (n+1):=by
  obtain ⟨hn,rfl⟩:=List.getElem?_eq_some_iff.1 h
  exact List.drop_eq_getElem_cons hn
 rw [this,zmt]
 simp [Rect.cells]
theorem yij {rs:List Rect} {n:Nat} {r:Rect} (h:n<rs.length):(rcs rs).take (n*4)++r.cells++(rcs rs).drop (n*4+4)=rcs (rs.set n r):=by
 rw [yef,show n*4+4=(n+1)*4 by omega,z4a,show r.cells=rcs [r] by simp [rcs],← zvu,← zvu]
 congr 1
 rw [List.set_eq_take_append_cons_drop,if_pos h]
 simp
def ixf {α:Type} (test:α→Bool) (l:List α):Int :=
 match l.findIdx? test with
 | some i=>i
 | none => -1
theorem yf1 {α:Type} {test:α→Bool} {l:List α} {i:Nat} {x:α} (h:l[i]?=some x) (hall:(l.take i).any test=false) (hx:test x=true):ixf test l=i:=by
 have:l.findIdx? test=some i:=by
  obtain ⟨hi,rfl⟩:=List.getElem?_eq_some_iff.1 h
  rw [List.findIdx?_eq_some_iff_getElem]
  refine ⟨hi,hx,fun j hj=>?_⟩
  rw [List.any_eq_false]at hall
  have:=hall l[j] (by rw [List.mem_take_iff_getElem]; exact ⟨j,by omega,rfl⟩)
  simpa using this
 simp [ixf,this]
theorem zu5 {α:Type} {test:α→Bool} {l:List α} (hall:l.any test=false):ixf test l = -1:=by
 have:l.findIdx? test=none:=by
  rw [List.findIdx?_eq_none_iff]
  intro x hx
  rw [List.any_eq_false]at hall
  simpa using hall x hx
 simp [ixf,this]
theorem z86 {α:Type} {test:α→Bool} {l:List α}:decide (0≤ixf test l)=l.any test:=by
 cases h:l.any test with
 | false=>rw [zu5 h]; rfl
 | true =>
  unfold ixf
  cases hi:l.findIdx? test with
  | none =>
   rw [List.findIdx?_eq_none_iff]at hi
   rw [List.any_eq_true]at h
   obtain ⟨x,hx,hx2⟩:=h
   rw [hi x hx]at hx2; cases hx2
  | some i=>simp
theorem yfi {α:Type} {f:α→Bool} {l:List α} {i:Nat} {a:α} (h:l[i]?=some a) (h1:(l.take i).any f=false) (h2:f a=false):(l.take (i+1)).any f=false:=by
 rw [tk h,List.any_append,h1]; simp [h2]
def Rect.both (b o:Rect):Rect:=⟨min b.row o.row,min b.col o.col,max (b.row+b.high) (o.row+o.high) - min b.row o.row,max (b.col+b.wide) (o.col+o.wide) - min b.col o.col⟩
def Rect.In (M:Int) (r:Rect):Prop:=0≤r.row∧r.row≤M∧0≤r.col∧r.col≤M∧0≤r.high∧r.high≤M∧0≤r.wide∧r.wide≤M
theorem zd7 {S:Store} {im:Bool} {k:Nat} {g:FuncId} {cap:List PV}:reify S im (k+1) (.fn g cap)=(cap.mapM (reify S im k)).map (.fn g):=rfl
section
variable {S:Store} {k f lo:Nat} {sel:List Nat} {fr:Nat→Bool} {im:Bool}
theorem zbc {q:IntKind} {n:Int}:rn S k sel (f+1) (.int q n)=some (.int q n):=rfl
theorem zaz {b:Bool}:rn S k sel (f+1) (.bool b)=some (.bool b):=rfl
theorem zbf {b:Txt}:rn S k sel (f+1) (.str b)=some (.str b):=rfl
theorem zb3 {cs:List PV} {n:Nat}:rn S k sel (f+1) (.sl cs n)=some (.sl cs n):=rfl
theorem zb1 {cs:List PV} {n:Nat}:rn S k sel (f+1) (.ip cs n)=some (.ip cs n):=rfl
theorem za1:rn S k sel (f+1) .nils=some .nils:=rfl
theorem za0:rn S k sel (f+1) .nilp=some .nilp:=rfl
theorem zap:rn S k sel (f+1) .undef=some .undef:=rfl
theorem zbb {cs:List PV}:rn S k sel (f+1) (.agg cs)=(cs.mapM (rn S k sel f)).map .agg:=rfl
theorem zbg {cs:List PV}:rn S k sel (f+1) (.tup cs)=(cs.mapM (rn S k sel f)).map .tup:=rfl
theorem zb0 {g:FuncId} {cs:List PV}:rn S k sel (f+1) (.fn g cs)=(cs.mapM (rn S k sel f)).map (.fn g):=rfl
theorem zbd {o ver off n:Nat}:rn S k sel (f+1) (.loc o ver off n)=(if o<k then some (.loc o ver off n) else
   if sel.contains o then (match S.obs[o]? with | some (.arr v _ _ _)=>if v=ver then some (.loc (k+sel.idxOf o) S.tick off n) else none | _=>none)
   else rfq S (zdr k sel) 10 (.loc o ver off n)):=rfl
theorem zbe {o ver off:Nat}:rn S k sel (f+1) (.ref o ver off)=(if o<k then some (.ref o ver off) else
   if sel.contains o then (match S.obs[o]? with | some (.arr v _ _ _)=>if v=ver then some (.ref (k+sel.idxOf o) S.tick off) else none | _=>none)
   else rfq S (zdr k sel) 10 (.ref o ver off)):=rfl
theorem zb2 {o ver:Nat}:rn S k sel (f+1) (.mp o ver)=(if o<k then some (.mp o ver) else
   if sel.contains o then (match S.obs[o]? with | some (.map v _)=>if v=ver then some (.mp (k+sel.idxOf o) S.tick) else none | _=>none)
   else none):=rfl
theorem zax {o ver off n:Nat}:rfq S fr (f+1) (.loc o ver off n)=(match S.obs[o]? with
   | some (.arr v _ sz cells)=>if fr o=true∧v=ver∧off+n*sz≤cells.length then (((cells.drop off).take (n*sz)).mapM (rfq S fr f)).map (.sl · n) else none
   | _=>none):=rfl
theorem zaw {q:IntKind} {n:Int}:rfq S fr (f+1) (.int q n)=some (.int q n):=rfl
theorem zan {b:Bool}:rfq S fr (f+1) (.bool b)=some (.bool b):=rfl
theorem zay {b:Txt}:rfq S fr (f+1) (.str b)=some (.str b):=rfl
theorem zba {cs:List PV} {n:Nat}:rfq S fr (f+1) (.sl cs n)=some (.sl cs n):=rfl
theorem zak {old:Bool}:zrp S k sel old []=some []:=rfl
theorem zae {old:Bool} {o:Nat} {r:List Nat}:zrp S k sel old (o::r)=((S.obs[o]?).bind (z6i S k sel old)).bind fun a=>(zrp S k sel old r).map (a :: ·):=rfl
theorem zam {old:Bool} {ver et sz:Nat} {cells:List PV}:z6i S k sel old (.arr ver et sz cells)=(cells.mapM (rn S k sel 10)).map (.arr (if old then ver else S.tick) et sz ·):=rfl
theorem zao {old:Bool} {ver:Nat} {es:List (PV × PV)}:z6i S k sel old (.map ver es)=(es.mapM fun q=>(rn S k sel 10 q.1).bind fun a=>(rn S k sel 10 q.2).map fun b=>(a,b)).map (.map (if old then ver else S.tick) ·):=rfl
theorem za9:S.rn k sel=(if sel.all (fun o=>decide (k≤o)) && decide sel.Nodup && decide (k≤S.obs.length) then
  (zrp S k sel true (List.range k)).bind fun a=>(zrp S k sel false sel).map fun b=>⟨a++b,S.tick+1⟩
 else none):=rfl
def scal:PV→Bool
 | .int _ _ | .bool _ | .str _=>true
 | _=>false
theorem zvz {l:List PV} (h:l.all scal=true):l.mapM (rn S k sel (f+1))=some l:=by
 rw [List.all_eq_true]at h
 exact zb7 fun x hx=>by have:=h x hx; cases x <;> simp [scal]at this <;> rfl
theorem zn1 {l:List PV} (h:l.all scal=true):l.mapM (reify S im (f+1))=some l:=by
 rw [List.all_eq_true]at h
 exact zb7 fun x hx=>by have:=h x hx; cases x <;> simp [scal]at this <;> rfl
theorem yit {l:List PV} (h:l.all scal=true):l.mapM (sh S im (f+1))=some l:=by
 rw [List.all_eq_true]at h
 exact zb7 fun x hx=>by have:=h x hx; cases x <;> simp [scal]at this <;> rfl
theorem z4k (rs:List Rect):(rcs rs).all scal=true:=by
 induction rs with
 | nil=>rfl
 | cons r rs ih=>rw [zmt,List.all_append,ih]; rfl
end
end
theorem zh1 (g:List (List Int)) (rs:List Rect):PC Tryz.prog 59 [zar g rs] (.int .i64 g.length) true:=by
 refine PC.of ⟨Tryz.func59,by kernel_rfl,rfl,by kernel_rfl⟩ zav mixed (by show 1≤Tryz.f59.ntmps; decide) ?_
 refine W.r fun K hK=>?_
 simp(disch:=omega)only[↓RU,RW,↓reduceIte,qE,reduceCtorEq,iP,↓RS,RG,qA,qM,qL]
 apply hK;clear hK K
 refine W.r fun K hK=>?_
 simp(disch:=omega)only[↓RU,RW,↓reduceIte,qE,reduceCtorEq,iP,↓RS,RG,qA,qM,qL,ty1,ty3,zab,zeo,zcl,za7,zaa,zep,za8]
 apply hK;clear hK K
 refine W.ret ?_
 refine Br rfl ?_
 rfl
theorem zir {g:List (List Int)} {row:List Int} (h:g[0]?=some row) (rs:List Rect):PC Tryz.prog 58 [zar g rs] (.int .i64 row.length) true:=by
 have hl:=zb5 h
 refine PC.of ⟨Tryz.func58,by kernel_rfl,rfl,by kernel_rfl⟩ zav mixed (by show 1≤Tryz.f58.ntmps; decide) ?_
 refine W.r fun K hK=>?_
 simp(disch:=omega)only[↓RU,RW,↓reduceIte,qE,reduceCtorEq,iP,↓RS,RG,qA,qM,qL]
 apply hK;clear hK K
 refine W.r fun K hK=>?_
 simp(disch:=omega)only[↓RU,RW,↓reduceIte,qE,reduceCtorEq,iP,↓RS,RG,qA,qM,qL,ty1,ty3,zab,zeo,zcl,za7,zaa,zep,za8,h,Int.toNat_zero,Nat.zero_mul,qZ]
 apply hK;clear hK K
 refine W.ret ?_
 refine Br rfl ?_
 rfl
theorem ygv {r:Rect} (h1:0≤r.high*r.wide) (h2:r.high*r.wide≤1048576):PC Tryz.prog 111 [zsd r] (.int .i64 (r.high*r.wide)) true:=by
 simp only[zsd,Rect.cells]
 refine PC.of ⟨Tryz.func111,by kernel_rfl,rfl,by kernel_rfl⟩ zav mixed (by show 1≤Tryz.f111.ntmps; decide) ?_
 refine W.r fun K hK=>?_
 simp(disch:=omega)only[↓RU,RW,↓reduceIte,qE,reduceCtorEq,iP,↓RS,RG,qA,qM,qL,za7,zaa,za8]
 apply hK;clear hK K
 refine W.r fun K hK=>?_
 simp(disch:=omega)only[↓RU,RW,↓reduceIte,qE,reduceCtorEq,iP,w64,↓RS,RG,qA,qM,qL,za7,zaa,za8]
 apply hK;clear hK K
 refine W.ret ?_
 refine Br rfl ?_
 rfl
theorem zkx {b o:Rect} (hb:b.In 1000) (ho:o.In 1000):PC Tryz.prog 71 [zsd b,zsd o] (zsd (b.both o)) true:=by
 unfold Rect.In at hb ho
 simp only[zsd,Rect.cells,Rect.both]
 refine PC.of ⟨Tryz.func71,by kernel_rfl,rfl,by kernel_rfl⟩ zav mixed (by show 2≤Tryz.f71.ntmps; decide) ?_
 refine W.r fun K hK=>?_
 simp(disch:=omega)only[↓RU,RW,↓reduceIte,qE,reduceCtorEq,iP,↓RS,RG,qA,qM,qL,za7,zaa,za8]
 apply hK;clear hK K
 refine W.seq_draw (by kernel_rfl) fun K hK=>?_
 simp(disch:=omega)only[↓RU,RW,↓reduceIte,qE,reduceCtorEq,iP,zu4,↓RS,RG,qA,qM,qL,za7,zaa,za8]
 apply hK;clear hK K
 refine W.r fun K hK=>?_
 simp(disch:=omega)only[↓RU,RW,↓reduceIte,qE,reduceCtorEq,iP,w64,zk3,↓RS,RG,qA,qM,qL,za7,zaa,za8]
 apply hK;clear hK K
 refine W.ret ?_
 refine Br rfl ?_
 rfl
theorem z1w (row:List Int) (w:Int) (hr:row.length<2147483648):PC Tryz.prog 109 [eInts row,.ip [.int .i64 w] 0] (.bool (decide ((row.length:Int)≠w))) true:=by
 refine PC.of ⟨Tryz.func109,by kernel_rfl,rfl,by kernel_rfl⟩ zav mixed (by show 2≤Tryz.f109.ntmps; decide) ?_
 refine W.r fun K hK=>?_
 simp(disch:=omega)only[↓RU,RW,↓reduceIte,qE,reduceCtorEq,iP,↓RS,RG,qA,qM,qL]
 apply hK;clear hK K
 refine W.r fun K hK=>?_
 simp(disch:=omega)only[↓RU,RW,↓reduceIte,qE,reduceCtorEq,iP,w64,↓RS,RG,qA,qM,qL,zab,zaa]
 apply hK;clear hK K
 refine W.ret ?_
 refine Br rfl ?_
 rw [show decide ((row.length:Int)≠w)=((row.length:Int) != w) by rw [zuo]; simp]
 rfl
theorem z08 {l:List Int} (hl:l.length<2147483648) {g:FuncId} {cap:List PV} (hc:cap.mapM (reify ⟨[],0⟩ true 10)=some cap) {test:Int→Bool} (hg:∀ x∈l,PC Tryz.prog g (.int .i64 x::cap) (.bool (test x)) true):PC Tryz.prog 126 [eInts l,.fn g cap] (.int .i64 (ixf test l)) true:=by
 refine PC.of ⟨Tryz.func126,by kernel_rfl,rfl,by kernel_rfl⟩ zav mixed (by show 2≤Tryz.f126.ntmps; decide) ?_
 refine W.r fun K hK=>?_
 simp(disch:=omega)only[↓RU,RW,↓reduceIte,qE,reduceCtorEq,iP]
 apply hK;clear hK K
 refine W.seq ?_
 refine W.r fun K hK=>?_
 simp(disch:=omega)only[↓RU,RW,↓reduceIte,qE,reduceCtorEq,iP,zab,zaa]
 apply hK;clear hK K
 refine W.block ?_
 refine W.loop [0,1,6,7,8] (fun n vs S=>∃ i:Nat,n=l.length - i∧i≤l.length∧((l.take i).any test=false)∧vs=[eInts l,.fn g cap,eInts l,.int .i64 l.length,.int .i64 i]∧S=⟨[],0⟩) (l.length) ?_ ?_
 ·refine ⟨0,0,rfl,Nat.zero_le _,rfl,?_,rfl⟩
  simp [Env.put,Env.of,zai]
 rintro n vs S - ⟨i,rfl,h_i,hall,rfl,rfl⟩
 refine W.r fun K hK=>?_
 simp(disch:=omega)only[↓RU,RW,↓reduceIte,qE,reduceCtorEq,iP,w64,zaa]
 apply hK;clear hK K
 refine W.seq ?_
 refine W.cond rfl (fun h=>?_) (fun h=>?_)
 ·try simp only[RL]at h
  obtain ⟨x,hx,hxm⟩:=zaj (show i<l.length by omega)
  refine W.skip ?_
  refine xn ?_
  refine W.seq ?_
  refine W.block ?_
  refine W.r fun K hK=>?_
  simp(disch:=omega)only[↓RU,RW,↓reduceIte,qE,reduceCtorEq,iP]
  apply hK;clear hK K
  refine W.r fun K hK=>?_
  simp(disch:=omega)only[↓RU,RW,↓reduceIte,qE,reduceCtorEq,iP,qN,zab,zaa,hx]
  refine zac.pc (hg x hxm) (za5 rfl hc) (.inl rfl) ?_
  simp(disch:=omega)only[↓RU,RW,↓reduceIte,qE,reduceCtorEq,iP,qN,zab,zaa,hx]
  apply hK;clear hK K
  refine W.cond rfl (fun h1=>?_) (fun h1=>?_)
  ·try simp only[RL]at h1
   refine W.r fun K hK=>?_
   simp(disch:=omega)only[↓RU,RW,↓reduceIte,qE,reduceCtorEq,iP]
   apply hK;clear hK K
   refine W.ret ?_
   refine XBlock.ret ?_
   refine XThen.ret ?_
   refine XThen.ret ?_
   refine XBlock.ret ?_
   refine XThen.ret ?_
   refine Br rfl ?_
   rw [yf1 hx hall h1]
   rfl
  try simp only[RL]at h1
  refine W.skip ?_
  refine XbN ?_
  refine xn ?_
  refine W.k fun K hK=>?_
  simp(disch:=omega)only[↓RU,RW,↓reduceIte,qE,reduceCtorEq,iP,w64,zaa]
  apply hK;clear hK K
  refine xn ?_
  refine ⟨l.length - (i+1),by omega,0,i+1,rfl,by omega,yfi hx (by assumption) h1,?_,rfl⟩
  simp [Env.put,Env.of]
 try simp only[RL]at h
 refine W.exit ?_
 refine xe ?_
 refine xe ?_
 refine XBlock.hit ?_
 refine xn ?_
 refine W.r fun K hK=>?_
 simp(disch:=omega)only[↓RU,RW,↓reduceIte,qE,reduceCtorEq,iP]
 apply hK;clear hK K
 refine W.ret ?_
 refine Br rfl ?_
 have hip:l.take i=l:=qT (by omega)
 rw [hip]at hall
 rw [zu5 hall]
 rfl
theorem z09 {l:List (List Int)} (hl:l.length<2147483648) {g:FuncId} {cap:List PV} (hc:cap.mapM (reify ⟨[],0⟩ true 10)=some cap) {test:(List Int)→Bool} (hg:∀ x∈l,PC Tryz.prog g (eInts x::cap) (.bool (test x)) true):PC Tryz.prog 128 [zct l,.fn g cap] (.int .i64 (ixf test l)) true:=by
 refine PC.of ⟨Tryz.func128,by kernel_rfl,rfl,by kernel_rfl⟩ zav mixed (by show 2≤Tryz.f128.ntmps; decide) ?_
 refine W.r fun K hK=>?_
 simp(disch:=omega)only[↓RU,RW,↓reduceIte,qE,reduceCtorEq,iP]
 apply hK;clear hK K
 refine W.seq ?_
 refine W.r fun K hK=>?_
 simp(disch:=omega)only[↓RU,RW,↓reduceIte,qE,reduceCtorEq,iP,ty1,zab,zcl,zaa]
 apply hK;clear hK K
 refine W.block ?_
 refine W.loop [0,1,6,7,8] (fun n vs S=>∃ i:Nat,n=l.length - i∧i≤l.length∧((l.take i).any test=false)∧vs=[zct l,.fn g cap,zct l,.int .i64 l.length,.int .i64 i]∧S=⟨[],0⟩) (l.length) ?_ ?_
 ·refine ⟨0,0,rfl,Nat.zero_le _,rfl,?_,rfl⟩
  simp [Env.put,Env.of,zai]
 rintro n vs S - ⟨i,rfl,h_i,hall,rfl,rfl⟩
 refine W.r fun K hK=>?_
 simp(disch:=omega)only[↓RU,RW,↓reduceIte,qE,reduceCtorEq,iP,w64,zaa]
 apply hK;clear hK K
 refine W.seq ?_
 refine W.cond rfl (fun h=>?_) (fun h=>?_)
 ·try simp only[RL]at h
  obtain ⟨x,hx,hxm⟩:=zaj (show i<l.length by omega)
  refine W.skip ?_
  refine xn ?_
  refine W.seq ?_
  refine W.block ?_
  refine W.r fun K hK=>?_
  simp(disch:=omega)only[↓RU,RW,↓reduceIte,qE,reduceCtorEq,iP]
  apply hK;clear hK K
  refine W.r fun K hK=>?_
  simp(disch:=omega)only[↓RU,RW,↓reduceIte,qE,reduceCtorEq,iP,qN,ty1,zab,zcl,zaa,hx]
  refine zac.pc (hg x hxm) (za5 rfl hc) (.inl rfl) ?_
  simp(disch:=omega)only[↓RU,RW,↓reduceIte,qE,reduceCtorEq,iP,qN,ty1,zab,zcl,zaa,hx]
  apply hK;clear hK K
  refine W.cond rfl (fun h1=>?_) (fun h1=>?_)
  ·try simp only[RL]at h1
   refine W.r fun K hK=>?_
   simp(disch:=omega)only[↓RU,RW,↓reduceIte,qE,reduceCtorEq,iP]
   apply hK;clear hK K
   refine W.ret ?_
   refine XBlock.ret ?_
   refine XThen.ret ?_
   refine XThen.ret ?_
   refine XBlock.ret ?_
   refine XThen.ret ?_
   refine Br rfl ?_
   rw [yf1 hx hall h1]
   rfl
  try simp only[RL]at h1
  refine W.skip ?_
  refine XbN ?_
  refine xn ?_
  refine W.k fun K hK=>?_
  simp(disch:=omega)only[↓RU,RW,↓reduceIte,qE,reduceCtorEq,iP,w64,zaa]
  apply hK;clear hK K
  refine xn ?_
  refine ⟨l.length - (i+1),by omega,0,i+1,rfl,by omega,yfi hx (by assumption) h1,?_,rfl⟩
  simp [Env.put,Env.of]
 try simp only[RL]at h
 refine W.exit ?_
 refine xe ?_
 refine xe ?_
 refine XBlock.hit ?_
 refine xn ?_
 refine W.r fun K hK=>?_
 simp(disch:=omega)only[↓RU,RW,↓reduceIte,qE,reduceCtorEq,iP]
 apply hK;clear hK K
 refine W.ret ?_
 refine Br rfl ?_
 have hip:l.take i=l:=qT (by omega)
 rw [hip]at hall
 rw [zu5 hall]
 rfl
theorem zsa {l:List Int} (hl:l.length<2147483648) {g:FuncId} {cap:List PV} (hc9:cap.mapM (reify ⟨[],0⟩ true 9)=some cap) (hc:cap.mapM (reify ⟨[],0⟩ true 10)=some cap) {test:Int→Bool} (hg:∀ x∈l,PC Tryz.prog g (.int .i64 x::cap) (.bool (test x)) true):PC Tryz.prog 100 [eInts l,.fn g cap] (.bool (l.any test)) true:=by
 have hcr:[eInts l,.fn g cap].mapM (reify ⟨[],0⟩ true 10)=some [eInts l,.fn g cap]:=za5 rfl (za5 (by rw [zd7,hc9]; rfl) rfl)
 refine PC.of ⟨Tryz.func100,by kernel_rfl,rfl,by kernel_rfl⟩ zav mixed (by show 2≤Tryz.f100.ntmps; decide) ?_
 refine W.r fun K hK=>?_
 simp(disch:=omega)only[↓RU,RW,↓reduceIte,qE,reduceCtorEq,iP]
 apply hK;clear hK K
 refine W.r fun K hK=>?_
 simp(disch:=omega)only[↓RU,RW,↓reduceIte,qE,reduceCtorEq,iP,qN,w64,zaa]
 refine zac.pc (z08 hl hc hg) hcr (.inl rfl) ?_
 simp(disch:=omega)only[↓RU,RW,↓reduceIte,qE,reduceCtorEq,iP,qN,w64,zaa]
 apply hK;clear hK K
 refine W.ret ?_
 refine Br rfl ?_
 rw [← z86]
 rfl
theorem zsb {l:List (List Int)} (hl:l.length<2147483648) {g:FuncId} {cap:List PV} (hc9:cap.mapM (reify ⟨[],0⟩ true 9)=some cap) (hc:cap.mapM (reify ⟨[],0⟩ true 10)=some cap) {test:(List Int)→Bool} (hg:∀ x∈l,PC Tryz.prog g (eInts x::cap) (.bool (test x)) true):PC Tryz.prog 108 [zct l,.fn g cap] (.bool (l.any test)) true:=by
 have hcr:[zct l,.fn g cap].mapM (reify ⟨[],0⟩ true 10)=some [zct l,.fn g cap]:=za5 rfl (za5 (by rw [zd7,hc9]; rfl) rfl)
 refine PC.of ⟨Tryz.func108,by kernel_rfl,rfl,by kernel_rfl⟩ zav mixed (by show 2≤Tryz.f108.ntmps; decide) ?_
 refine W.r fun K hK=>?_
 simp(disch:=omega)only[↓RU,RW,↓reduceIte,qE,reduceCtorEq,iP]
 apply hK;clear hK K
 refine W.r fun K hK=>?_
 simp(disch:=omega)only[↓RU,RW,↓reduceIte,qE,reduceCtorEq,iP,qN,w64,zaa]
 refine zac.pc (z09 hl hc hg) hcr (.inl rfl) ?_
 simp(disch:=omega)only[↓RU,RW,↓reduceIte,qE,reduceCtorEq,iP,qN,w64,zaa]
 apply hK;clear hK K
 refine W.ret ?_
 refine Br rfl ?_
 rw [← z86]
 rfl
theorem zxj {p q:List Txt} (hp:p.length<2147483648) (hq:q.length<2147483648):PC Tryz.prog 51 [zbi p,zbi q] (.bool (decide (p=q))) true:=by
 refine PC.of ⟨Tryz.func51,by kernel_rfl,rfl,by kernel_rfl⟩ zav mixed (by show 2≤Tryz.f51.ntmps; decide) ?_
 refine W.r fun K hK=>?_
 simp(disch:=omega)only[↓RU,RW,↓reduceIte,qE,reduceCtorEq,iP]
 apply hK;clear hK K
 refine W.seq ?_
 refine W.r fun K hK=>?_
 simp(disch:=omega)only[↓RU,RW,↓reduceIte,qE,reduceCtorEq,iP,w64,ty5,zaa,zal]
 apply hK;clear hK K
 refine W.cond rfl (fun h=>?_) (fun h=>?_)
 ·try simp only[RL]at h
  refine W.r fun K hK=>?_
  simp(disch:=omega)only[↓RU,RW,↓reduceIte,qE,reduceCtorEq,iP]
  apply hK;clear hK K
  refine W.ret ?_
  refine XThen.ret ?_
  refine Br rfl ?_
  rw [show decide (p=q)=false by simp; rintro rfl; exact h rfl]
  rfl
 try simp only[RL]at h
 refine W.skip ?_
 refine xn ?_
 refine W.seq ?_
 refine W.r fun K hK=>?_
 simp(disch:=omega)only[↓RU,RW,↓reduceIte,qE,reduceCtorEq,iP,ty5,zal]
 apply hK;clear hK K
 refine W.block ?_
 refine W.loop [0,1,11,12,13] (fun n vs S=>∃ i:Nat,n=p.length - i∧i≤p.length∧(p.take i=q.take i)∧vs=[zbi p,zbi q,zbi p,.int .i64 p.length,.int .i64 i]∧S=⟨[],0⟩) (p.length) ?_ ?_
 ·refine ⟨0,0,rfl,Nat.zero_le _,rfl,?_,rfl⟩
  simp [Env.put,Env.of,zai]
 rintro n vs S - ⟨i,rfl,h_i,htk,rfl,rfl⟩
 refine W.r fun K hK=>?_
 simp(disch:=omega)only[↓RU,RW,↓reduceIte,qE,reduceCtorEq,iP,w64,zaa]
 apply hK;clear hK K
 refine W.seq ?_
 refine W.cond rfl (fun h1=>?_) (fun h1=>?_)
 ·try simp only[RL]at h1
  obtain ⟨x,hx,-⟩:=zaj (show i<p.length by omega)
  obtain ⟨y,hy,-⟩:=zaj (show i<q.length by omega)
  refine W.skip ?_
  refine xn ?_
  refine W.seq ?_
  refine W.block ?_
  refine W.r fun K hK=>?_
  simp(disch:=omega)only[↓RU,RW,↓reduceIte,qE,reduceCtorEq,iP]
  apply hK;clear hK K
  refine W.seq_draw (by kernel_rfl) fun K hK=>?_
  simp(disch:=omega)only[↓RU,RW,↓reduceIte,qE,reduceCtorEq,iP,w64,ty5,zal,hx,hy]
  apply hK;clear hK K
  refine W.cond rfl (fun h2=>?_) (fun h2=>?_)
  ·try simp only[RL]at h2
   refine W.r fun K hK=>?_
   simp(disch:=omega)only[↓RU,RW,↓reduceIte,qE,reduceCtorEq,iP]
   apply hK;clear hK K
   refine W.ret ?_
   refine XBlock.ret ?_
   refine XThen.ret ?_
   refine XThen.ret ?_
   refine XBlock.ret ?_
   refine XThen.ret ?_
   refine Br rfl ?_
   rw [show decide (p=q)=false by simp; rintro rfl; rw [hx]at hy; simp_all]
   rfl
  try simp only[RL]at h2
  refine W.skip ?_
  refine XbN ?_
  refine xn ?_
  refine W.k fun K hK=>?_
  simp(disch:=omega)only[↓RU,RW,↓reduceIte,qE,reduceCtorEq,iP,w64,zaa]
  apply hK;clear hK K
  refine xn ?_
  refine ⟨p.length - (i+1),by omega,0,i+1,rfl,by omega,zzv htk hx hy h2,?_,rfl⟩
  simp [Env.put,Env.of]
 try simp only[RL]at h1
 refine W.exit ?_
 refine xe ?_
 refine xe ?_
 refine XBlock.hit ?_
 refine xn ?_
 refine W.r fun K hK=>?_
 simp(disch:=omega)only[↓RU,RW,↓reduceIte,qE,reduceCtorEq,iP]
 apply hK;clear hK K
 refine W.ret ?_
 refine Br rfl ?_
 have h1:p.take i=p:=qT (by omega)
 have h2:q.take i=q:=qT (by omega)
 rw [show decide (p=q)=true by simp; rw [← h1,← h2]; exact htk]
 rfl
def GW (g:List (List Int)) (H W:Nat):Prop:=g.length=H∧(∀ r∈g,r.length=W)∧1≤H∧H≤6∧1≤W∧W≤6
def gz (g:List (List Int)) (i j:Nat):Int:=(g[i]?.getD [])[j]?.getD 0
theorem GW.at_ {g:List (List Int)} {H W:Nat} (h:GW g H W) {i j:Nat} (hi:i<H) (hj:j<W):∃ row,g[i]?=some row∧row.length=W∧row[j]?=some (gz g i j):=by
 obtain ⟨row,hr,hm⟩:=zaj (show i<g.length by rw [h.1]; exact hi)
 have hl:=h.2.1 row hm
 obtain ⟨x,hx,-⟩:=zaj (show j<row.length by omega)
 exact ⟨row,hr,hl,by simp [gz,hr,hx]⟩
def zbx (g:List (List Int)) (level:Bool) (line at_:Nat):Int × Int:=if level then (gz g (line - 1) at_,gz g line at_) else (gz g at_ (line - 1),gz g at_ line)
def InL (H W:Nat) (level:Bool) (line at_:Nat):Prop:=1≤line∧if level then line<H∧at_<W else line<W∧at_<H
structure Wall where
 level:Bool
 line:Int
 fr:Int
 long:Int
def Wall.cells (w:Wall):List PV:=[.bool w.level,.int .i64 w.line,.int .i64 w.fr,.int .i64 w.long]
abbrev z8a (w:Wall):PV := .agg w.cells
def wcs (ws:List Wall):List PV:=ws.flatMap Wall.cells
abbrev zho (ws:List Wall):PV := .sl (wcs ws) ws.length
theorem zpy (r:Wall) (rs:List Wall):wcs (r::rs)=r.cells++wcs rs:=rfl
theorem zwi (rs ss:List Wall):wcs (rs++ss)=wcs rs++wcs ss:=by simp [wcs]
theorem zfz (rs:List Wall):(wcs rs).length=rs.length*4:=by
 induction rs with
 | nil=>rfl
 | cons r rs ih=>rw [zpy,List.length_append,ih,List.length_cons]; simp [Wall.cells]; omega
theorem yce {ws:List Wall} {n:Nat} {w:Wall} (h:ws[n]?=some w):((wcs ws).drop (n*4)).take 4=w.cells:=by
 induction ws generalizing n with
 | nil=>simp at h
 | cons a ws ih =>
  cases n with
  | zero=>simp at h; subst h; rw [zpy]; simp [Wall.cells]
  | succ n =>
   simp at h
   rw [zpy,show (n+1)*4=a.cells.length+n*4 by simp [Wall.cells]; omega,List.drop_length_add_append]
   exact ih h
def zes (d:Bool) (level:Bool) (line at_:Nat) (s:List Wall × Bool):List Wall × Bool :=
 if d && s.2 then (s.1.dropLast++(s.1.getLast?.map fun w=>{ w with long:=w.long+1 }).toList,d)
 else if d then (s.1++[⟨level,line,at_,1⟩],d) else (s.1,d)
def zh0 (g:List (List Int)) (level:Bool) (line at_:Nat):Bool:=decide ((zbx g level line at_).1≠(zbx g level line at_).2)
def zb4 (g:List (List Int)) (level:Bool) (line:Nat) (ws:List Wall) (n:Nat):List Wall × Bool :=
 (List.range n).foldl (fun s at_=>zes (zh0 g level line at_) level line at_ s) (ws,false)
def zca (g:List (List Int)) (level:Bool) (places:Nat) (ws:List Wall) (line:Nat):List Wall :=
 (List.range line).foldl (fun ws l=>if 1≤l then (zb4 g level l ws places).1 else ws) ws
def zau (g:List (List Int)) (H W:Nat):List Wall:=zca g true W (zca g false H [] W) H
theorem zea {g:List (List Int)} {level:Bool} {line:Nat} {ws:List Wall} {n:Nat}:zb4 g level line ws (n+1)=zes (zh0 g level line n) level line n (zb4 g level line ws n):=by
 unfold zb4; rw [zcz]
theorem zer {g:List (List Int)} {level:Bool} {places:Nat} {ws:List Wall} {line:Nat} (h:1≤line):zca g level places ws (line+1)=(zb4 g level line (zca g level places ws line) places).1:=by
 unfold zca; rw [zcz,if_pos h]
theorem z2d {d level:Bool} {line at_:Nat} {s:List Wall × Bool} (h:s.2=true→s.1≠[]):(zes d level line at_ s).2=d∧(d=true→(zes d level line at_ s).1≠[])∧(zes d level line at_ s).1.length≤s.1.length+1∧s.1.length≤(zes d level line at_ s).1.length:=by
 unfold zes
 cases d with
 | false=>simp
 | true =>
  cases ho:s.2 with
  | false=>simp
  | true =>
   have:=h ho
   cases hl:s.1.getLast? with
   | none=>rw [List.getLast?_eq_none_iff]at hl; exact absurd hl this
   | some w =>
    have:0<s.1.length:=List.length_pos_iff.2 this
    simp; omega
theorem zln (g:List (List Int)) (level:Bool) (line:Nat) (ws:List Wall):∀ n,((zb4 g level line ws n).2=true→(zb4 g level line ws n).1≠[])∧(zb4 g level line ws n).1.length≤ws.length+n∧ws.length≤(zb4 g level line ws n).1.length
 | 0=>by simp [zb4]
 | n+1=>by
  have ih:=zln g level line ws n
  have:=z2d (d:=zh0 g level line n) (level:=level) (line:=line) (at_:=n) ih.1
  rw [zea]
  refine ⟨fun h=>this.2.1 (this.1 ▸ h),by omega,by omega⟩
theorem zis (g:List (List Int)) (level:Bool) {places:Nat} (hp:places≤6) (ws:List Wall):∀ line,(zca g level places ws line).length≤ws.length+6*line
 | 0=>by simp [zca]
 | line+1=>by
  have ih:=zis g level hp ws line
  by_cases h:1≤line
  ·rw [zer h]
   have:=(zln g level line (zca g level places ws line) places).2.1
   omega
  have:line=0:=by omega
  subst this
  simp [zca]at ih ⊢
theorem zlm (g:List (List Int)) (level:Bool) (line:Nat) {ws:List Wall} {M:Int} (hM:1≤M) (hws:∀ w∈ws,0≤w.long∧w.long≤M):∀ n:Nat,∀ w∈(zb4 g level line ws n).1,0≤w.long∧w.long≤M+n
 | 0,w,h=>by simp [zb4]at h; have:=hws w h; omega
 | n+1,w,h=>by
  have ih:=zlm g level line hM hws n
  rw [zea]at h
  unfold zes at h
  split at h
  ·simp only[List.mem_append,Option.mem_toList,Option.mem_def,qI]at h
   rcases h with h | ⟨u,hu,rfl⟩
   ·have:=ih w ((List.dropLast_sublist _).subset h); omega
   have:=ih u (List.mem_of_getLast? hu); simp only; omega
  split at h
  ·simp only[List.mem_append,List.mem_singleton]at h
   rcases h with h | rfl
   ·have:=ih w h; omega
   simp only; omega
  have:=ih w h; omega
theorem zhw (g:List (List Int)) (level:Bool) {places:Nat} (hp:places≤6) {ws:List Wall} {M:Int} (hM:1≤M) (hws:∀ w∈ws,0≤w.long∧w.long≤M):∀ line:Nat,∀ w∈zca g level places ws line,0≤w.long∧w.long≤M+6*line
 | 0,w,h=>by simp [zca]at h; have:=hws w h; omega
 | line+1,w,h=>by
  have ih:=zhw g level hp hM hws line
  by_cases hl:1≤line
  ·rw [zer hl]at h
   have:=zlm g level line (M:=M+6*line) (by omega) ih places w h
   omega
  have:line=0:=by omega
  subst this
  simp [zca]at h
  have:=hws w h; omega
theorem z4l (ws:List Wall):(wcs ws).all scal=true:=by
 induction ws with
 | nil=>rfl
 | cons r rs ih=>rw [zpy,List.all_append,ih]; rfl
def slW (ws:List Wall) (v:Nat):PV:=match ws with | [] => .nils | _ => .loc 0 v 0 ws.length
def stW (ws:List Wall) (v t:Nat):Store:=match ws with | []=>⟨[],t⟩ | _=>⟨[.arr v 94 4 (wcs ws)],t⟩
theorem yiu {v:Nat}:slW [] v = .nils:=rfl
theorem yix {v t:Nat}:stW [] v t=⟨[],t⟩:=rfl
theorem zt7 {ws:List Wall} {v:Nat} (h:ws≠[]):slW ws v = .loc 0 v 0 ws.length:=by cases ws with | nil=>exact absurd rfl h | cons a l=>rfl
theorem zo3 {ws:List Wall} {v t:Nat} (h:ws≠[]):stW ws v t=⟨[.arr v 94 4 (wcs ws)],t⟩:=by cases ws with | nil=>exact absurd rfl h | cons a l=>rfl
theorem ya1 {S:Store} {k f:Nat} {sel:List Nat} (ws:List Wall):(wcs ws).mapM (rn S k sel (f+1))=some (wcs ws):=zvz (z4l ws)
theorem yat {S:Store} {im:Bool} {f:Nat} (ws:List Wall):(wcs ws).mapM (reify S im (f+1))=some (wcs ws):=zn1 (z4l ws)
theorem ye8 {d op:Bool} {ws:List Wall} (h:op=true→ws≠[]):d=false∨(d=true∧op=false∧ws=[])∨(d=true∧op=false∧ws≠[])∨(d=true∧op=true∧ws≠[]):=by
 cases d <;> cases op <;> simp_all
 by_cases hw:ws=[] <;> simp [hw]
theorem z9a {α:Type} {l:List α} (h:l≠[]):∃ l0 a,l=l0++[a]:=⟨l.dropLast,l.getLast h,(List.dropLast_concat_getLast h).symm⟩
theorem ye5 {ws:List Wall} {w:Wall}:(wcs (ws++[w]))[ws.length*4+3]?=some (.int .i64 w.long):=by
 rw [zwi,List.getElem?_append_right (by rw [zfz]; omega),zfz]
 simp [wcs,Wall.cells]
theorem yja {ws:List Wall} {w:Wall} {x:Int}:(wcs (ws++[w])).take (ws.length*4+3)++[.int .i64 x]++(wcs (ws++[w])).drop (ws.length*4+4)=wcs (ws++[{ w with long:=x }]):=by
 rw [zwi,zwi,← zfz,List.take_length_add_append,List.drop_length_add_append]
 simp [wcs,Wall.cells]
def wsI (g:List (List Int)) (nh nw:Nat) (i:Nat):List Wall:=if i=0 then [] else if i=1 then zca g false nh [] nw else zau g nh nw
theorem zll {g:List (List Int)} {level:Bool} {places:Nat} {ws:List Wall}:zca g level places ws 1=ws:=by simp [zca]
theorem zlo {g:List (List Int)} {level:Bool} {line:Nat} {ws:List Wall}:zb4 g level line ws 0=(ws,false):=rfl
theorem ye9 {g:List (List Int)} {nh nw i:Nat} (h:i<2):wsI g nh nw (i+1)=zca g (decide (i=1)) (if i=1 then nw else nh) (wsI g nh nw i) (if i=1 then nh else nw):=by
 rcases (show i=0∨i=1 by omega) with rfl | rfl <;> simp [wsI,zau]
theorem zwl {g:List (List Int)} {nh nw i:Nat} (hh:nh≤6) (hw:nw≤6):(wsI g nh nw i).length≤72:=by
 have h1:=zis g false (places:=nh) hh [] nw
 have h2:=zis g true (places:=nw) hw (zca g false nh [] nw) nh
 unfold wsI
 split
 ·simp
 split
 ·simp at h1; omega
 simp at h1; simp only[zau]; omega
theorem zwm {g:List (List Int)} {nh nw i:Nat} (hh:nh≤6) (hw:nw≤6):∀ w∈wsI g nh nw i,0≤w.long∧w.long≤100:=by
 have h1:=zhw g false (places:=nh) hh (ws:=[]) (M:=1) (by omega) (by simp) nw
 have h2:=zhw g true (places:=nw) hw (M:=1+6*nw) (by omega) h1 nh
 unfold wsI
 split
 ·simp
 split
 ·intro w hw; have:=h1 w hw; omega
 intro w hw; have:=h2 w hw; omega
theorem zzf {ws:List Wall} {v t f:Nat}:rn (stW ws v t) (stW ws v t).obs.length [] (f+1) (slW ws v)=some (slW ws v):=by
 cases ws <;> rfl
theorem zzg {ws:List Wall} {v t:Nat}:(stW ws v t).rn (stW ws v t).obs.length []=some (stW ws v (t+1)):=by
 cases ws with
 | nil=>rfl
 | cons w ws =>
  rw [zo3 (by simp),zo3 (by simp)]
  simp [za9,zae,zak,zam,ya1,qS]
theorem zbh {S:Store}:S.take S.obs.length=S:=by simp [Store.take]
theorem ygp {ws:List Wall}:(wcs ws).take (ws.length*4)=wcs ws:=by rw [← zfz,List.take_length]
theorem ye6 {ws:List Wall} {w:Wall}:wcs (ws++[w])=wcs ws++w.cells:=by rw [zwi]; simp [wcs]
theorem yas {ws:List Wall} {v t:Nat} {im:Bool} {k:Nat}:reify (stW ws v t) im (k+2) (slW ws v)=some (zho ws):=by
 cases ws with
 | nil=>rfl
 | cons w ws =>
  rw [zt7 (by simp),zo3 (by simp)]
  exact zce rfl (zfz _) (yat _)
theorem z6v {n:Nat}:(((n+1:Nat):Int) - 1).toNat=n:=by omega
theorem zv5 {g:List (List Int)} {nh nw:Nat} (hg:GW g nh nw) (rs:List Rect) {level:Bool} {line at_:Nat} (hi:InL nh nw level line at_):PC Tryz.prog 97 [zar g rs,.bool level,.int .i64 line,.int .i64 at_] (.tup [.int .i64 (zbx g level line at_).1,.int .i64 (zbx g level line at_).2]) true:=by
 have hl:=hg.1
 obtain ⟨hi1,hi2⟩:=hi
 have hb:line≤6∧at_≤6:=by have:=hg.2.2; cases level <;> simp at hi2 <;> omega
 refine PC.of ⟨Tryz.func97,by kernel_rfl,rfl,by kernel_rfl⟩ zav mixed (by show 4≤Tryz.f97.ntmps; decide) ?_
 refine W.r fun K hK=>?_
 simp(disch:=omega)only[↓RU,RW,↓reduceIte,qE,reduceCtorEq,iP,↓RS,RG,qA,qM,qL]
 apply hK;clear hK K
 refine W.seq ?_
 refine W.r fun K hK=>?_
 simp(disch:=omega)only[↓RU,RW,↓reduceIte,qE,reduceCtorEq,iP,↓RS,RG,qA,qM,qL]
 apply hK;clear hK K
 refine W.cond rfl (fun h0=>?_) (fun h0=>?_)
 ·try simp only[RL]at h0
  subst h0
  simp only[if_true]at hi2
  obtain ⟨r1,hr1,hl1,hx1⟩:=hg.at_ (i:=line - 1) (j:=at_) (by omega) hi2.2
  obtain ⟨r2,hr2,hl2,hx2⟩:=hg.at_ (i:=line) (j:=at_) hi2.1 hi2.2
  refine W.seq_draw (by kernel_rfl) fun K hK=>?_
  simp(disch:=omega)only[↓RU,RW,↓reduceIte,qE,reduceCtorEq,iP,w64,↓RS,RG,qA,qM,qL,ty1,ty3,zab,zeo,zcl,za7,zaa,zep,za8,hr1,hx1,hr2,hx2,zdk]
  apply hK;clear hK K
  refine W.ret ?_
  refine XThen.ret ?_
  refine Br rfl ?_
  rfl
 try simp only[RL]at h0
 subst h0
 simp only[qF,if_false]at hi2
 obtain ⟨r1,hr1,hl1,hx1⟩:=hg.at_ (i:=at_) (j:=line - 1) hi2.2 (by omega)
 obtain ⟨r2,hr2,hl2,hx2⟩:=hg.at_ (i:=at_) (j:=line) hi2.2 hi2.1
 obtain rfl:r1=r2:=by rw [hr1]at hr2; exact Option.some.inj hr2
 refine W.skip ?_
 refine xn ?_
 refine W.seq_draw (by kernel_rfl) fun K hK=>?_
 simp(disch:=omega)only[↓RU,RW,↓reduceIte,qE,reduceCtorEq,iP,w64,↓RS,RG,qA,qM,qL,ty1,ty3,zab,zeo,zcl,za7,zaa,zep,za8,hr1,hx1,hr2,hx2,zdk]
 apply hK;clear hK K
 refine W.ret ?_
 refine Br rfl ?_
 rfl
theorem zw6 {g:List (List Int)} {nh nw:Nat} (hg:GW g nh nw) (rs:List Rect) {level:Bool} {line at_:Nat} (hi:InL nh nw level line at_):PC Tryz.prog 95 [zar g rs,.bool level,.int .i64 line,.int .i64 at_] (.bool (zh0 g level line at_)) true:=by
 refine PC.of ⟨Tryz.func95,by kernel_rfl,rfl,by kernel_rfl⟩ zav mixed (by show 4≤Tryz.f95.ntmps; decide) ?_
 refine W.r fun K hK=>?_
 simp(disch:=omega)only[↓RU,RW,↓reduceIte,qE,reduceCtorEq,iP]
 apply hK;clear hK K
 refine W.r fun K hK=>?_
 simp(disch:=omega)only[↓RU,RW,↓reduceIte,qE,reduceCtorEq,iP,qN]
 refine zac.pc (zv5 hg rs hi) rfl (.inl rfl) ?_
 simp(disch:=omega)only[↓RU,RW,↓reduceIte,qE,reduceCtorEq,iP,qN]
 apply hK;clear hK K
 refine W.r fun K hK=>?_
 simp(disch:=omega)only[↓RU,RW,↓reduceIte,qE,reduceCtorEq,iP,w64,zaa]
 apply hK;clear hK K
 refine W.ret ?_
 refine Br rfl ?_
 rw [show zh0 g level line at_=((zbx g level line at_).1 != (zbx g level line at_).2) by rw [zuo,zh0]; simp]
 rfl
theorem zwh {g:List (List Int)} {nh nw:Nat} (hg:GW g nh nw) (rs:List Rect):PC Tryz.prog 72 [zar g rs] (zho (zau g nh nw)) true:=by
 have hl:=hg.1
 obtain ⟨hg1,hg2,hg3,hg4⟩:=hg.2.2
 obtain ⟨row0,hrow0,hrl0,-⟩:=hg.at_ (i:=0) (j:=0) (by omega) (by omega)
 refine PC.of ⟨Tryz.func72,by kernel_rfl,rfl,by kernel_rfl⟩ zav mixed (by show 1≤Tryz.f72.ntmps; decide) ?_
 refine W.r fun K hK=>?_
 simp(disch:=omega)only[↓RU,RW,↓reduceIte,qE,reduceCtorEq,iP,↓RS,RG,qA,qM,qL]
 apply hK;clear hK K
 refine W.r fun K hK=>?_
 simp(disch:=omega)only[↓RU,RW,↓reduceIte,qE,reduceCtorEq,iP,↓RS,RG,qA,qM,qL]
 apply hK;clear hK K
 refine W.seq ?_
 refine W.r fun K hK=>?_
 simp(disch:=omega)only[↓RU,RW,↓reduceIte,qE,reduceCtorEq,iP,↓RS,RG,qA,qM,qL,ty2,zad]
 apply hK;clear hK K
 refine W.block ?_
 refine W.loopS [0,12,13,14,3] (fun n vs S=>∃ i v t:Nat,n=2 - i∧(i≤2)∧vs=[zar g rs,.sl [.bool false,.bool true] 2,.int .i64 2,.int .i64 i,slW (wsI g nh nw i) v]∧S=stW (wsI g nh nw i) v t) 2 ?_ ?_
 ·refine ⟨0,[],[zar g rs,.sl [.bool false,.bool true] 2,.int .i64 2,.int .i64 (0:Nat),.nils],⟨[],2⟩,?_,?_,0,0,2,rfl,by omega,rfl,rfl⟩
  ·simp [-qU,Env.put,Env.of,zai,za9,zae,zak,zam,zao,zbd,zbe,zb2,zbc,zaz,zbf,zb1,zb3,za1,za0,zap,zbb,zbg,zb0,zax,zaw,zan,zay,zba,zdr,qS,qP,qC]
  simp [-qU,Env.put,Env.of,zai,za9,zae,zak,zam,zao,zbd,zbe,zb2,zbc,zaz,zbf,zb1,zb3,za1,za0,zap,zbb,zbg,zb0,zax,zaw,zan,zay,zba,zdr,qS,qP,qC]
 rintro n vs S - ⟨i,v,t,rfl,h_i,rfl,rfl⟩
 refine W.r fun K hK=>?_
 simp(disch:=omega)only[↓RU,RW,↓reduceIte,qE,reduceCtorEq,iP,w64,↓RS,RG,qA,qM,qL,zaa]
 apply hK;clear hK K
 refine W.seq ?_
 refine W.cond rfl (fun h=>?_) (fun h=>?_)
 ·try simp only[RL]at h
  have hi2:i<2:=by omega
  obtain ⟨ls,hls⟩:∃ ls:Nat,(if i=1 then nh else nw)=ls:=⟨_,rfl⟩
  obtain ⟨ps,hps⟩:∃ ps:Nat,(if i=1 then nw else nh)=ps:=⟨_,rfl⟩
  have hlp:1≤ls∧ls≤6∧1≤ps∧ps≤6:=by subst hls hps; split <;> omega
  have hwl:=zwl (g:=g) (nh:=nh) (nw:=nw) (i:=i) hg2 hg4
  have hlong:=zwm (g:=g) (nh:=nh) (nw:=nw) (i:=i) hg2 hg4
  have hlev:[PV.bool false,PV.bool true][i]?=some (.bool (decide (i=1))):=by rcases (show i=0∨i=1 by omega) with rfl | rfl <;> rfl
  refine W.skip ?_
  refine xn ?_
  refine W.seq ?_
  refine W.block ?_
  refine W.r fun K hK=>?_
  simp(disch:=omega)only[↓RU,RW,↓reduceIte,qE,reduceCtorEq,iP,↓RS,RG,qA,qM,qL,ty2,zad,hlev]
  apply hK;clear hK K
  refine W.r fun K hK=>?_
  simp(disch:=omega)only[↓RU,RW,↓reduceIte,qE,reduceCtorEq,iP,qN,↓RS,RG,qA,qM,qL,hl,hrl0]
  refine zac.pc (zir hrow0 rs) rfl (.inl rfl) ?_
  simp(disch:=omega)only[↓RU,RW,↓reduceIte,qE,reduceCtorEq,iP,qN,↓RS,RG,qA,qM,qL,hl,hrl0]
  refine zac.pc (zh1 g rs) rfl (.inl rfl) ?_
  simp(disch:=omega)only[↓RU,RW,↓reduceIte,qE,reduceCtorEq,iP,qN,↓RS,RG,qA,qM,qL,hl,hrl0]
  apply hK;clear hK K
  refine W.join [0,12,13,14,3,5,6,7] (fun vs S=>vs=[zar g rs,.sl [.bool false,.bool true] 2,.int .i64 2,.int .i64 i,slW (wsI g nh nw i) v,.bool (decide (i=1)),.int .i64 ls,.int .i64 ps]∧S=stW (wsI g nh nw i) v t) ?_ ?_
  ·
   refine W.r fun K hK=>?_
   simp(disch:=omega)only[↓RU,RW,↓reduceIte,qE,reduceCtorEq,iP,↓RS,RG,qA,qM,qL]
   apply hK;clear hK K
   refine W.cond rfl (fun h1=>?_) (fun h1=>?_)
   ·try simp only[RL]at h1
    refine W.k fun K hK=>?_
    simp(disch:=omega)only[↓RU,RW,↓reduceIte,qE,reduceCtorEq,iP,↓RS,RG,qA,qM,qL]
    apply hK;clear hK K
    refine xn ?_
    refine ⟨_,?_,zbh⟩
    subst hls hps
    simp [Env.put,Env.of,h1]
   try simp only[RL]at h1
   refine W.skip ?_
   refine xn ?_
   refine ⟨_,?_,zbh⟩
   subst hls hps
   simp [Env.put,Env.of,h1]
  rintro vs S - ⟨rfl,rfl⟩
  refine W.r fun K hK=>?_
  simp(disch:=omega)only[↓RU,RW,↓reduceIte,qE,reduceCtorEq,iP,↓RS,RG,qA,qM,qL]
  apply hK;clear hK K
  refine W.block ?_
  refine W.loopS [0,12,13,14,3,5,6,7,8] (fun n vs S=>∃ line v t:Nat,n=ls - line∧(1≤line)∧(line≤ls)∧vs=[zar g rs,.sl [.bool false,.bool true] 2,.int .i64 2,.int .i64 i,slW (zca g (decide (i=1)) ps (wsI g nh nw i) line) v,.bool (decide (i=1)),.int .i64 ls,.int .i64 ps,.int .i64 line]∧S=stW (zca g (decide (i=1)) ps (wsI g nh nw i) line) v t) (ls - 1) ?_ ?_
  ·refine ⟨_,[],[zar g rs,.sl [.bool false,.bool true] 2,.int .i64 2,.int .i64 i,slW (wsI g nh nw i) v,.bool (decide (i=1)),.int .i64 ls,.int .i64 ps,.int .i64 (1:Nat)],stW (wsI g nh nw i) v (t+1),?_,zzg,1,v,t+1,rfl,by omega,by omega,by rw [zll],by rw [zll]⟩
   simp [-qU,Env.put,Env.of,zai,za9,zae,zak,zam,zao,zbd,zbe,zb2,zbc,zaz,zbf,zb1,zb3,za1,za0,zap,zbb,zbg,zb0,zax,zaw,zan,zay,zba,zdr,qS,qP,qC,zzf]
  rintro n vs S - ⟨line,v,t,rfl,h1l,h_l,rfl,rfl⟩
  refine W.seq ?_
  refine W.r fun K hK=>?_
  simp(disch:=omega)only[↓RU,RW,↓reduceIte,qE,reduceCtorEq,iP,w64,↓RS,RG,qA,qM,qL,zaa]
  apply hK;clear hK K
  refine W.cond rfl (fun h2=>?_) (fun h2=>?_)
  ·try simp only[RL]at h2
   have hwl2:=zis g (decide (i=1)) hlp.2.2.2 (wsI g nh nw i) line
   have hlong2:=zhw g (decide (i=1)) hlp.2.2.2 (M:=100) (by omega) hlong line
   generalize hWs:(zca g (decide (i=1)) ps (wsI g nh nw i) line)=Ws at hwl2 hlong2
   refine W.skip ?_
   refine xn ?_
   refine W.seq ?_
   refine W.block ?_
   refine W.r fun K hK=>?_
   simp(disch:=omega)only[↓RU,RW,↓reduceIte,qE,reduceCtorEq,iP,↓RS,RG,qA,qM,qL]
   apply hK;clear hK K
   refine W.r fun K hK=>?_
   simp(disch:=omega)only[↓RU,RW,↓reduceIte,qE,reduceCtorEq,iP,↓RS,RG,qA,qM,qL]
   apply hK;clear hK K
   refine W.block ?_
   refine W.loopS [0,12,13,14,3,5,6,7,8,9,30,31] (fun n vs S=>∃ at_ v t:Nat,n=ps - at_∧(at_≤ps)∧vs=[zar g rs,.sl [.bool false,.bool true] 2,.int .i64 2,.int .i64 i,slW (zb4 g (decide (i=1)) line Ws at_).1 v,.bool (decide (i=1)),.int .i64 ls,.int .i64 ps,.int .i64 line,.bool (zb4 g (decide (i=1)) line Ws at_).2,.int .i64 ps,.int .i64 at_]∧S=stW (zb4 g (decide (i=1)) line Ws at_).1 v t) ps ?_ ?_
   ·refine ⟨_,[],[zar g rs,.sl [.bool false,.bool true] 2,.int .i64 2,.int .i64 i,slW Ws v,.bool (decide (i=1)),.int .i64 ls,.int .i64 ps,.int .i64 line,.bool false,.int .i64 ps,.int .i64 (0:Nat)],stW Ws v (t+1),?_,zzg,0,v,t+1,rfl,by omega,rfl,rfl⟩
    simp [-qU,Env.put,Env.of,zai,za9,zae,zak,zam,zao,zbd,zbe,zb2,zbc,zaz,zbf,zb1,zb3,za1,za0,zap,zbb,zbg,zb0,zax,zaw,zan,zay,zba,zdr,qS,qP,qC,zzf]
   rintro n vs S - ⟨at_,v,t,rfl,h_a,rfl,rfl⟩
   refine W.r fun K hK=>?_
   simp(disch:=omega)only[↓RU,RW,↓reduceIte,qE,reduceCtorEq,iP,w64,↓RS,RG,qA,qM,qL,zaa]
   apply hK;clear hK K
   refine W.seq ?_
   refine W.cond rfl (fun h3=>?_) (fun h3=>?_)
   ·try simp only[RL]at h3
    have hop:=(zln g (decide (i=1)) line Ws at_)
    have hlong3:=zlm g (decide (i=1)) line (M:=100+6*line) (by omega) hlong2 at_
    have hin:InL nh nw (decide (i=1)) line at_:=by refine ⟨h1l,?_⟩; rcases (show i=0∨i=1 by omega) with rfl | rfl <;> simp at hls hps ⊢ <;> omega
    generalize hs:zb4 g (decide (i=1)) line Ws at_=s at hop hlong3
    obtain ⟨ws,op⟩:=s
    simp only at hop hlong3
    refine W.skip ?_
    refine xn ?_
    refine W.seq ?_
    refine W.block ?_
    refine W.r fun K hK=>?_
    simp(disch:=omega)only[↓RU,RW,↓reduceIte,qE,reduceCtorEq,iP,↓RS,RG,qA,qM,qL]
    apply hK;clear hK K
    refine W.r fun K hK=>?_
    simp(disch:=omega)only[↓RU,RW,↓reduceIte,qE,reduceCtorEq,iP,qN,↓RS,RG,qA,qM,qL]
    refine zac.pc (zw6 hg rs hin) rfl (.inl rfl) ?_
    simp(disch:=omega)only[↓RU,RW,↓reduceIte,qE,reduceCtorEq,iP,qN,↓RS,RG,qA,qM,qL]
    apply hK;clear hK K
    refine W.seq ?_
    refine W.block ?_
    refine W.r fun K hK=>?_
    obtain hd | ⟨hd,rfl,rfl⟩ | ⟨hd,rfl,hw⟩ | ⟨hd,rfl,hw⟩:=ye8 (d:=zh0 g (decide (i=1)) line at_) hop.1
    ·skip
     simp(disch:=omega)only[↓RU,RW,↓reduceIte,qE,reduceCtorEq,iP,↓RS,RG,qA,qM,qL,hd]
     apply hK;clear hK K
     refine W.cond rfl (fun h4=>?_) (fun h4=>?_)
     ·try simp only[RL]at h4
      exact absurd h4 (by simp)
     try simp only[RL]at h4
     refine W.r fun K hK=>?_
     simp(disch:=omega)only[↓RU,RW,↓reduceIte,qE,reduceCtorEq,iP,↓RS,RG,qA,qM,qL]
     apply hK;clear hK K
     refine W.cond rfl (fun h5=>?_) (fun h5=>?_)
     ·try simp only[RL]at h5
      exact absurd h5 (by simp)
     try simp only[RL]at h5
     refine W.skip ?_
     refine XbN ?_
     refine xn ?_
     refine W.k fun K hK=>?_
     simp(disch:=omega)only[↓RU,RW,↓reduceIte,qE,reduceCtorEq,iP,↓RS,RG,qA,qM,qL]
     apply hK;clear hK K
     refine XbN ?_
     refine xn ?_
     refine W.k fun K hK=>?_
     simp(disch:=omega)only[↓RU,RW,↓reduceIte,qE,reduceCtorEq,iP,w64,↓RS,RG,qA,qM,qL,zaa]
     apply hK;clear hK K
     refine xn ?_
     have hnx:zb4 g (decide (i=1)) line Ws (at_+1)=(ws,false):=by rw [zea,hs,hd]; simp [zes]
     refine ⟨ps - (at_+1),by omega,(stW ws v t).obs.length,[],[zar g rs,.sl [.bool false,.bool true] 2,.int .i64 2,.int .i64 i,slW (zb4 g (decide (i=1)) line Ws (at_+1)).1 v,.bool (decide (i=1)),.int .i64 ls,.int .i64 ps,.int .i64 line,.bool (zb4 g (decide (i=1)) line Ws (at_+1)).2,.int .i64 ps,.int .i64 ((at_+1:Nat):Int)],stW (zb4 g (decide (i=1)) line Ws (at_+1)).1 v (t+1),?_,?_,at_+1,v,(t+1),rfl,by omega,rfl,rfl⟩
     ·rw [hnx]; simp [-qU,Env.put,Env.of,zai,za9,zae,zak,zam,zao,zbd,zbe,zb2,zbc,zaz,zbf,zb1,zb3,za1,za0,zap,zbb,zbg,zb0,zax,zaw,zan,zay,zba,zdr,qS,qP,qC,zzf]
     rw [hnx]; exact zzg
    ·skip
     rw [yiu,yix]
     simp(disch:=omega)only[↓RU,RW,↓reduceIte,qE,reduceCtorEq,iP,↓RS,RG,qA,qM,qL,hd]
     apply hK;clear hK K
     refine W.cond rfl (fun h4=>?_) (fun h4=>?_)
     ·try simp only[RL]at h4
      exact absurd h4 (by simp)
     try simp only[RL]at h4
     refine W.r fun K hK=>?_
     simp(disch:=omega)only[↓RU,RW,↓reduceIte,qE,reduceCtorEq,iP,↓RS,RG,qA,qM,qL]
     apply hK;clear hK K
     refine W.cond rfl (fun h5=>?_) (fun h5=>?_)
     ·try simp only[RL]at h5
      refine W.k fun K hK=>?_
      simp(disch:=omega)only[↓RU,RW,↓reduceIte,qE,reduceCtorEq,iP,↓RS,RG,qA,qM,qL,ty4,zad,zi2,zaa,zi3,zfz,ygp]
      apply hK;clear hK K
      refine XbN ?_
      refine xn ?_
      refine W.k fun K hK=>?_
      simp(disch:=omega)only[↓RU,RW,↓reduceIte,qE,reduceCtorEq,iP,↓RS,RG,qA,qM,qL]
      apply hK;clear hK K
      refine XbN ?_
      refine xn ?_
      refine W.k fun K hK=>?_
      simp(disch:=omega)only[↓RU,RW,↓reduceIte,qE,reduceCtorEq,iP,w64,↓RS,RG,qA,qM,qL,zaa]
      apply hK;clear hK K
      refine xn ?_
      have hnx:zb4 g (decide (i=1)) line Ws (at_+1)=([⟨decide (i=1),line,at_,1⟩],true):=by rw [zea,hs,hd]; simp [zes]
      refine ⟨ps - (at_+1),by omega,0,[1],[zar g rs,.sl [.bool false,.bool true] 2,.int .i64 2,.int .i64 i,slW (zb4 g (decide (i=1)) line Ws (at_+1)).1 (t+2),.bool (decide (i=1)),.int .i64 ls,.int .i64 ps,.int .i64 line,.bool (zb4 g (decide (i=1)) line Ws (at_+1)).2,.int .i64 ps,.int .i64 ((at_+1:Nat):Int)],stW (zb4 g (decide (i=1)) line Ws (at_+1)).1 (t+2) (t+3),?_,?_,at_+1,(t+2),(t+3),rfl,by omega,rfl,rfl⟩
      ·rw [hnx]; simp [-qU,Env.put,Env.of,zai,za9,zae,zak,zam,zao,zbd,zbe,zb2,zbc,zaz,zbf,zb1,zb3,za1,za0,zap,zbb,zbg,zb0,zax,zaw,zan,zay,zba,zdr,qS,qP,qC,zt7]
      rw [hnx]; simp [-qU,Env.put,Env.of,zai,za9,zae,zak,zam,zao,zbd,zbe,zb2,zbc,zaz,zbf,zb1,zb3,za1,za0,zap,zbb,zbg,zb0,zax,zaw,zan,zay,zba,zdr,qS,qP,qC,zo3,wcs,Wall.cells]
     try simp only[RL]at h5
     exact absurd h5 (by simp)
    ·skip
     rw [zt7 hw,zo3 hw]
     simp(disch:=omega)only[↓RU,RW,↓reduceIte,qE,reduceCtorEq,iP,↓RS,RG,qA,qM,qL,hd]
     apply hK;clear hK K
     refine W.cond rfl (fun h4=>?_) (fun h4=>?_)
     ·try simp only[RL]at h4
      exact absurd h4 (by simp)
     try simp only[RL]at h4
     refine W.r fun K hK=>?_
     simp(disch:=omega)only[↓RU,RW,↓reduceIte,qE,reduceCtorEq,iP,↓RS,RG,qA,qM,qL]
     apply hK;clear hK K
     refine W.cond rfl (fun h5=>?_) (fun h5=>?_)
     ·try simp only[RL]at h5
      refine W.k fun K hK=>?_
      simp(disch:=omega)only[↓RU,RW,↓reduceIte,qE,reduceCtorEq,iP,↓RS,RG,qA,qM,qL,ty4,zad,zi2,zaa,zi3,zfz,ygp]
      apply hK;clear hK K
      refine XbN ?_
      refine xn ?_
      refine W.k fun K hK=>?_
      simp(disch:=omega)only[↓RU,RW,↓reduceIte,qE,reduceCtorEq,iP,↓RS,RG,qA,qM,qL]
      apply hK;clear hK K
      refine XbN ?_
      refine xn ?_
      refine W.k fun K hK=>?_
      simp(disch:=omega)only[↓RU,RW,↓reduceIte,qE,reduceCtorEq,iP,w64,↓RS,RG,qA,qM,qL,zaa]
      apply hK;clear hK K
      refine xn ?_
      have hnx:zb4 g (decide (i=1)) line Ws (at_+1)=(ws++[⟨decide (i=1),line,at_,1⟩],true):=by rw [zea,hs,hd]; simp [zes]
      refine ⟨ps - (at_+1),by omega,1,[],[zar g rs,.sl [.bool false,.bool true] 2,.int .i64 2,.int .i64 i,slW (zb4 g (decide (i=1)) line Ws (at_+1)).1 (t+1),.bool (decide (i=1)),.int .i64 ls,.int .i64 ps,.int .i64 line,.bool (zb4 g (decide (i=1)) line Ws (at_+1)).2,.int .i64 ps,.int .i64 ((at_+1:Nat):Int)],stW (zb4 g (decide (i=1)) line Ws (at_+1)).1 (t+1) (t+3),?_,?_,at_+1,(t+1),(t+3),rfl,by omega,rfl,rfl⟩
      ·rw [hnx]; simp [-qU,Env.put,Env.of,zai,za9,zae,zak,zam,zao,zbd,zbe,zb2,zbc,zaz,zbf,zb1,zb3,za1,za0,zap,zbb,zbg,zb0,zax,zaw,zan,zay,zba,zdr,qS,qP,qC,zt7]
      rw [hnx]; simp [-qU,Env.put,Env.of,zai,za9,zae,zak,zam,zao,zbd,zbe,zb2,zbc,zaz,zbf,zb1,zb3,za1,za0,zap,zbb,zbg,zb0,zax,zaw,zan,zay,zba,zdr,qS,qP,qC,zo3,ya1,ye6,Wall.cells]
     try simp only[RL]at h5
     exact absurd h5 (by simp)
    skip
    obtain ⟨ws,w,rfl⟩:=z9a hw
    rw [zt7 hw,zo3 hw]
    have hwlg:=hlong3 w (by simp)
    have hwl3:ws.length+1≤200:=by have:=hop.2.1; simp at this; omega
    simp(disch:=omega)only[↓RU,RW,↓reduceIte,qE,reduceCtorEq,iP,↓RS,RG,qA,qM,qL,hd]
    apply hK;clear hK K
    refine W.cond rfl (fun h4=>?_) (fun h4=>?_)
    ·try simp only[RL]at h4
     refine W.k fun K hK=>?_
     simp(disch:=omega)only[↓RU,RW,↓reduceIte,qE,reduceCtorEq,iP,w64,↓RS,RG,qA,qM,qL,ty4,zad,zi2,zaa,zi3,List.length_append,zfz,ye5,yja,z6v]
     apply hK;clear hK K
     refine XbN ?_
     refine xn ?_
     refine W.k fun K hK=>?_
     simp(disch:=omega)only[↓RU,RW,↓reduceIte,qE,reduceCtorEq,iP,↓RS,RG,qA,qM,qL]
     apply hK;clear hK K
     refine XbN ?_
     refine xn ?_
     refine W.k fun K hK=>?_
     simp(disch:=omega)only[↓RU,RW,↓reduceIte,qE,reduceCtorEq,iP,w64,↓RS,RG,qA,qM,qL,zaa]
     apply hK;clear hK K
     refine xn ?_
     have hnx:zb4 g (decide (i=1)) line Ws (at_+1)=(ws++[{ w with long:=w.long+1 }],true):=by rw [zea,hs,hd]; simp [zes]
     refine ⟨ps - (at_+1),by omega,1,[],[zar g rs,.sl [.bool false,.bool true] 2,.int .i64 2,.int .i64 i,slW (zb4 g (decide (i=1)) line Ws (at_+1)).1 v,.bool (decide (i=1)),.int .i64 ls,.int .i64 ps,.int .i64 line,.bool (zb4 g (decide (i=1)) line Ws (at_+1)).2,.int .i64 ps,.int .i64 ((at_+1:Nat):Int)],stW (zb4 g (decide (i=1)) line Ws (at_+1)).1 v (t+1),?_,?_,at_+1,v,(t+1),rfl,by omega,rfl,rfl⟩
     ·rw [hnx]; simp [-qU,Env.put,Env.of,zai,za9,zae,zak,zam,zao,zbd,zbe,zb2,zbc,zaz,zbf,zb1,zb3,za1,za0,zap,zbb,zbg,zb0,zax,zaw,zan,zay,zba,zdr,qS,qP,qC,zt7]
     rw [hnx]; simp [-qU,Env.put,Env.of,zai,za9,zae,zak,zam,zao,zbd,zbe,zb2,zbc,zaz,zbf,zb1,zb3,za1,za0,zap,zbb,zbg,zb0,zax,zaw,zan,zay,zba,zdr,qS,qP,qC,zo3,ya1]
    try simp only[RL]at h4
    exact absurd h4 (by simp)
   ·try simp only[RL]at h3
    obtain rfl:ps=at_:=by omega
    refine W.exit ?_
    refine xe ?_
    refine xe ?_
    refine XBlock.hit ?_
    refine XbN ?_
    refine xn ?_
    refine W.k fun K hK=>?_
    simp(disch:=omega)only[↓RU,RW,↓reduceIte,qE,reduceCtorEq,iP,w64,↓RS,RG,qA,qM,qL,zaa]
    apply hK;clear hK K
    refine xn ?_
    refine ⟨ls - (line+1),by omega,(stW (zb4 g (decide (i=1)) line Ws ps).1 v t).obs.length,[],[zar g rs,.sl [.bool false,.bool true] 2,.int .i64 2,.int .i64 i,slW (zca g (decide (i=1)) ps (wsI g nh nw i) (line+1)) v,.bool (decide (i=1)),.int .i64 ls,.int .i64 ps,.int .i64 ((line+1:Nat):Int)],stW (zca g (decide (i=1)) ps (wsI g nh nw i) (line+1)) v (t+1),?_,?_,line+1,v,t+1,rfl,by omega,by omega,rfl,rfl⟩
    rotate_left
    ·rw [zer h1l,hWs]; exact zzg
    rw [zer h1l,hWs]; simp [-qU,Env.put,Env.of,zai,za9,zae,zak,zam,zao,zbd,zbe,zb2,zbc,zaz,zbf,zb1,zb3,za1,za0,zap,zbb,zbg,zb0,zax,zaw,zan,zay,zba,zdr,qS,qP,qC,zzf]
  ·try simp only[RL]at h2
   obtain rfl:ls=line:=by omega
   refine W.exit ?_
   refine xe ?_
   refine xe ?_
   refine XBlock.hit ?_
   refine XbN ?_
   refine xn ?_
   refine W.k fun K hK=>?_
   simp(disch:=omega)only[↓RU,RW,↓reduceIte,qE,reduceCtorEq,iP,w64,↓RS,RG,qA,qM,qL,zaa]
   apply hK;clear hK K
   refine xn ?_
   have hwn:=ye9 (g:=g) (nh:=nh) (nw:=nw) hi2
   rw [hps,hls]at hwn
   refine ⟨2 - (i+1),by omega,(stW (zca g (decide (i=1)) ps (wsI g nh nw i) ls) v t).obs.length,[],[zar g rs,.sl [.bool false,.bool true] 2,.int .i64 2,.int .i64 ((i+1:Nat):Int),slW (wsI g nh nw (i+1)) v],stW (wsI g nh nw (i+1)) v (t+1),?_,?_,i+1,v,t+1,rfl,by omega,rfl,rfl⟩
   rotate_left
   ·rw [hwn]; exact zzg
   rw [hwn]; simp [-qU,Env.put,Env.of,zai,za9,zae,zak,zam,zao,zbd,zbe,zb2,zbc,zaz,zbf,zb1,zb3,za1,za0,zap,zbb,zbg,zb0,zax,zaw,zan,zay,zba,zdr,qS,qP,qC,zzf]
 try simp only[RL]at h
 refine W.exit ?_
 refine xe ?_
 refine xe ?_
 refine XBlock.hit ?_
 refine xn ?_
 refine W.r fun K hK=>?_
 simp(disch:=omega)only[↓RU,RW,↓reduceIte,qE,reduceCtorEq,iP,↓RS,RG,qA,qM,qL]
 apply hK;clear hK K
 refine W.ret ?_
 refine Br rfl ?_
 obtain rfl:i=2:=by omega
 rw [show wsI g nh nw 2=zau g nh nw from rfl]
 exact yas
theorem gF {F R:List Ob} {a:Ob}:(F++a::R)[F.length]?=some a:=by simp
theorem zd3 {F R:List Ob} {a b:Ob}:(F++a::R).set F.length b=F++b::R:=by simp
theorem yeo {α:Type} {f:α→PV} {l:List α} {x:α} {a n:Nat}:(l.map f).take a++(List.replicate n x).map f++(l.map f).drop (a+n)=(l.take a++List.replicate n x++l.drop (a+n)).map f:=by simp
theorem ycs {q:IntKind} {l:List Int}:zb9 (l.map (PV.int q))=True:=eq_true (zwq (fun _=>rfl) l)
def ddp (l:List Int):List Int:=l.foldl zsm []
theorem zpe {l:List Int} {p:Nat} {x:Int} (h:l[p]?=some x):ddp (l.take (p+1))=zsm (ddp (l.take p)) x:=zgc h
theorem yaj (l:List Int) (x:Int):(zsm l x).getLast?=some x:=by
 unfold zsm; split
 ·assumption
 simp
theorem zuv {l:List Int} {p:Nat} {y:Int} (h:l[p]?=some y):(ddp (l.take (p+1))).getLast?=some y:=by rw [zpe h]; exact yaj _ _
theorem zpd {l:List Int} {p:Nat} {x y:Int} (hp:1≤p) (h0:l[p - 1]?=some y) (h:l[p]?=some x) (e:x=y):ddp (l.take (p+1))=ddp (l.take p):=by
 have:=zuv h0
 rw [show p - 1+1=p by omega]at this
 rw [zpe h,zsm,this,e]; simp
theorem z0u {l:List Int} {p:Nat} {x y:Int} (hp:1≤p) (h0:l[p - 1]?=some y) (h:l[p]?=some x) (e:¬ x=y):ddp (l.take (p+1))=ddp (l.take p)++[x]:=by
 have:=zuv h0
 rw [show p - 1+1=p by omega]at this
 rw [zpe h,zsm,this,if_neg (by simpa using Ne.symm e)]
theorem yg6 {l:List Int} (h:1≤l.length):ddp (l.take 1)=l.take 1:=by
 cases l with
 | nil=>simp at h
 | cons a l=>rfl
theorem zw5 {l:List Int} (h:l.length<2):ddp l=l:=by
 match l,h with
 | [],_=>rfl
 | [a],_=>rfl
theorem z75 (l:List Int):(ddp l).length≤l.length:=by
 unfold ddp
 have:∀ (l m:List Int),(l.foldl zsm m).length≤m.length+l.length:=by
  intro l
  induction l with
  | nil=>intro m; simp
  | cons a l ih=>intro m; have:=ih (zsm m a); have:=yed (l:=m) (x:=a); simp only[List.foldl_cons,List.length_cons]; omega
 have:=this l []
 simpa using this
structure DC (l c:List Int) (k p:Nat):Prop where
 len:c.length=l.length
 dk:(ddp (l.take p)).length=k
 hd:c.take k=ddp (l.take p)
 dr:c.drop (p - 1)=l.drop (p - 1)
 kp:k+1≤p
theorem DC.get {l c:List Int} {k p j:Nat} (h:DC l c k p) (hj:p - 1≤j):c[j]?=l[j]?:=by
 have:=congrArg (fun x=>x[j - (p - 1)]?) h.dr
 simp only[List.getElem?_drop]at this
 rwa [show p - 1+(j - (p - 1))=j by omega]at this
theorem DC.first {l:List Int} {k:Nat} {x y:Int} (h1:1≤k) (hd:ddp (l.take k)=l.take k) (hy:l[k - 1]?=some y) (hx:l[k]?=some x) (e:x=y):DC l l k (k+1):=by
 have hk:=zb5 hx
 refine ⟨rfl,?_,?_,rfl,qR _⟩
 ·rw [zpd h1 hy hx e,hd,List.length_take]; omega
 rw [zpd h1 hy hx e,hd]
theorem DC.same {l c:List Int} {k p:Nat} {x y:Int} (h:DC l c k p) (h1:1≤p) (hy:l[p - 1]?=some y) (hx:l[p]?=some x) (e:x=y):DC l c k (p+1):=by
 refine ⟨h.len,?_,?_,?_,by have:=h.kp; omega⟩
 ·rw [zpd h1 hy hx e]; exact h.dk
 ·rw [zpd h1 hy hx e]; exact h.hd
 have:=congrArg (List.drop 1) h.dr
 rw [List.drop_drop,List.drop_drop]at this
 rwa [show p - 1+1=p by omega]at this
theorem DC.new {l c:List Int} {k p:Nat} {x y:Int} (h:DC l c k p) (h1:1≤p) (hy:l[p - 1]?=some y) (hx:l[p]?=some x) (e:¬ x=y):DC l (c.set k x) (k+1) (p+1):=by
 have hp:=zb5 hx
 have hk:=h.kp
 have hl:=h.len
 refine ⟨by simpa using hl,?_,?_,?_,by omega⟩
 ·rw [z0u h1 hy hx e,List.length_append,h.dk]; rfl
 ·rw [z0u h1 hy hx e,← h.hd]
  have:(c.set k x)[k]?=some x:=by rw [List.getElem?_set]; simp; omega
  rw [tk this,List.take_set_of_le (qR _)]
 rw [Nat.add_sub_cancel,List.drop_set_of_lt (by omega)]
 have:=congrArg (List.drop 1) h.dr
 rw [List.drop_drop,List.drop_drop]at this
 rwa [show p - 1+1=p by omega]at this
def zbv (g:List (List Int)) (level:Bool) (line fr:Nat) (n:Nat):List Int × List Int :=
 ((List.range n).map fun j=>(zbx g level line (fr+j)).1,(List.range n).map fun j=>(zbx g level line (fr+j)).2)
theorem zhk {g:List (List Int)} {level:Bool} {line fr n:Nat}:(zbv g level line fr (n+1)).1=(zbv g level line fr n).1++[(zbx g level line (fr+n)).1]:=by simp [zbv,qS]
theorem zhl {g:List (List Int)} {level:Bool} {line fr n:Nat}:(zbv g level line fr (n+1)).2=(zbv g level line fr n).2++[(zbx g level line (fr+n)).2]:=by simp [zbv,qS]
theorem zng {g:List (List Int)} {level:Bool} {line fr n:Nat}:(zbv g level line fr n).1.length=n∧(zbv g level line fr n).2.length=n:=by simp [zbv]
def slL (l:List Int) (k v:Nat):PV:=match l with | [] => .nils | _ => .loc k v 0 l.length
def tlL (l m:List Int) (v0 v1:Nat):List Ob:=match l with | []=>[] | _=>[.arr v0 3 1 (l.map (.int .i64)),.arr v1 3 1 (m.map (.int .i64))]
theorem zt6 {l:List Int} {k v:Nat} (h:l≠[]):slL l k v = .loc k v 0 l.length:=by cases l with | nil=>exact absurd rfl h | cons a l=>rfl
theorem z40 {l m:List Int} {v0 v1:Nat} (h:l≠[]):tlL l m v0 v1=[.arr v0 3 1 (l.map (.int .i64)),.arr v1 3 1 (m.map (.int .i64))]:=by cases l with | nil=>exact absurd rfl h | cons a l=>rfl
theorem zff {S:Store} {k f:Nat} {sel:List Nat} {q:IntKind} (l:List Int):(l.map (PV.int q)).mapM (rn S k sel (f+1))=some (l.map (PV.int q)) :=
 zb7 fun x hx=>by obtain ⟨a,_,rfl⟩:=List.mem_map.1 hx; rfl
theorem zy6 {S:Store} {im:Bool} {k o ver et:Nat} {l z:List Int} (h:S.obs[o]?=some (.arr ver et 1 ((l++z).map (.int .i64)))):reify S im (k+2) (.loc o ver 0 l.length)=some (eInts l):=by
 simp only[reify,h,Nat.zero_add,Nat.mul_one,List.length_map,List.length_append,Nat.le_add_right,and_self,if_true,List.drop_zero,List.map_append]
 rw [List.take_append_of_le_length (by simp),qT (by simp)]
 have:=zmc (S:=S) (im:=im) (k:=k) (q := .i64) l
 simp only[eInts]
 exact congrArg (Option.map fun x=>PV.sl x l.length) this
theorem znj {F R:List Ob} {ver t:Nat} {l:List Int} (hl:l.length<2147483648):Ev Tryz.prog 68 [.loc F.length ver 0 l.length] ⟨F ++ .arr ver 3 1 (l.map (.int .i64))::R,t⟩ fun v S=>∃ z:List Int,v = .loc F.length ver 0 (ddp l).length∧S=⟨F ++ .arr ver 3 1 ((ddp l++z).map (.int .i64))::R,t⟩:=by
 refine Ev.of ⟨Tryz.func68,by kernel_rfl,rfl,by kernel_rfl⟩ zav mixed (by show 1≤Tryz.f68.ntmps; decide) ?_
 refine W.r fun K hK=>?_
 simp(disch:=omega)only[↓RU,RW,↓reduceIte,qE,reduceCtorEq,iP,↓RS,RG,qA,qM,qL,gF,zd3]
 apply hK;clear hK K
 refine W.seq ?_
 refine W.r fun K hK=>?_
 simp(disch:=omega)only[↓RU,RW,↓reduceIte,qE,reduceCtorEq,iP,w64,↓RS,RG,qA,qM,qL,zab,zaa,gF,zd3]
 apply hK;clear hK K
 refine W.cond rfl (fun h=>?_) (fun h=>?_)
 ·try simp only[RL]at h
  refine W.r fun K hK=>?_
  simp(disch:=omega)only[↓RU,RW,↓reduceIte,qE,reduceCtorEq,iP,↓RS,RG,qA,qM,qL,gF,zd3]
  apply hK;clear hK K
  refine W.ret ?_
  refine XThen.ret ?_
  refine Br rfl ?_
  refine ⟨(F++Ob.arr ver 3 1 (l.map (.int .i64))::R).length,[],?_,?_⟩
  ·rw [zw5 (by omega)]; rfl
  rw [qN,zw5 (by omega)]; exact zbh
 try simp only[RL]at h
 refine W.skip ?_
 refine xn ?_
 refine W.seq ?_
 refine W.r fun K hK=>?_
 simp(disch:=omega)only[↓RU,RW,↓reduceIte,qE,reduceCtorEq,iP,↓RS,RG,qA,qM,qL,gF,zd3]
 apply hK;clear hK K
 refine W.block ?_
 refine W.loop [0,3] (fun n vs S=>∃ k0:Nat,n=l.length - k0∧k0≤l.length∧(1≤k0)∧(ddp (l.take k0)=l.take k0)∧vs=[.loc F.length ver 0 l.length,.int .i64 k0]∧S=⟨F ++ .arr ver 3 1 (l.map (.int .i64))::R,t⟩) (l.length - 1) ?_ ?_
 ·refine ⟨_,1,rfl,by omega,qR _,yg6 (by omega),?_,zbh⟩
  simp [Env.put,Env.of,zai]
 rintro n vs S - ⟨k0,rfl,h_k0,h1k,hd,rfl,rfl⟩
 refine W.seq ?_
 refine W.r fun K hK=>?_
 simp(disch:=omega)only[↓RU,RW,↓reduceIte,qE,reduceCtorEq,iP,w64,↓RS,RG,qA,qM,qL,zab,zaa,gF,zd3]
 apply hK;clear hK K
 refine W.cond rfl (fun h1=>?_) (fun h1=>?_)
 ·try simp only[RL]at h1
  obtain ⟨x,hx,-⟩:=zaj (show k0<l.length by omega)
  obtain ⟨y,hy,-⟩:=zaj (show k0 - 1<l.length by omega)
  refine W.skip ?_
  refine xn ?_
  refine W.seq ?_
  refine W.block ?_
  refine W.seq_draw (by kernel_rfl) fun K hK=>?_
  simp(disch:=omega)only[↓RU,RW,↓reduceIte,qE,reduceCtorEq,iP,w64,↓RS,RG,qA,qM,qL,zab,zaa,gF,zd3,hx,hy,zdk]
  apply hK;clear hK K
  refine W.cond rfl (fun h2=>?_) (fun h2=>?_)
  ·try simp only[RL]at h2
   refine W.r fun K hK=>?_
   simp(disch:=omega)only[↓RU,RW,↓reduceIte,qE,reduceCtorEq,iP,Option.map_none,↓RS,RG,qA,qM,qL,zab,zaa,gF,zd3]
   apply hK;clear hK K
   refine W.seq ?_
   refine W.r fun K hK=>?_
   simp(disch:=omega)only[↓RU,RW,↓reduceIte,qE,reduceCtorEq,iP,↓RS,RG,qA,qM,qL,gF,zd3]
   apply hK;clear hK K
   refine W.block ?_
   refine W.loop [0,3,4,5] (fun n vs S=>∃ k p:Nat,∃ c:List Int,n=l.length - p∧DC l c k p∧k0+1≤p∧p≤l.length∧vs=[.loc F.length ver 0 l.length,.int .i64 k,.loc F.length ver k0 (l.length - k0),.int .i64 ((p - k0:Nat):Int)]∧S=⟨F ++ .arr ver 3 1 (c.map (.int .i64))::R,t⟩) (l.length - (k0+1)) ?_ ?_
   ·refine ⟨_,k0,k0+1,l,rfl,DC.first h1k hd hy hx h2,qR _,by omega,?_,zbh⟩
    simp [Env.put,Env.of]
   rintro n vs S - ⟨k,p,c,rfl,hdc,hk0,h_p,rfl,rfl⟩
   refine W.seq ?_
   refine W.r fun K hK=>?_
   simp(disch:=omega)only[↓RU,RW,↓reduceIte,qE,reduceCtorEq,iP,w64,↓RS,RG,qA,qM,qL,zab,zaa,gF,zd3]
   apply hK;clear hK K
   refine W.cond rfl (fun h3=>?_) (fun h3=>?_)
   ·try simp only[RL]at h3
    have hkp:=hdc.kp
    obtain ⟨x2,hx2,-⟩:=zaj (show p<l.length by omega)
    obtain ⟨y2,hy2,-⟩:=zaj (show p - 1<l.length by omega)
    have hcx:=hdc.get (j:=p) (by omega)
    have hcy:=hdc.get (j:=p - 1) (by omega)
    rw [hx2]at hcx
    rw [hy2]at hcy
    have hcl:=hdc.len
    have e1:k0+(p - k0)=p:=by omega
    have e2:k0+(p - k0 - 1)=p - 1:=by omega
    refine W.skip ?_
    refine xn ?_
    refine W.seq ?_
    refine W.block ?_
    refine W.seq_draw (by kernel_rfl) fun K hK=>?_
    simp(disch:=omega)only[↓RU,RW,↓reduceIte,qE,reduceCtorEq,iP,w64,↓RS,RG,qA,qM,qL,zab,zaa,gF,zd3,hcx,hcy,zdk,e1,e2]
    apply hK;clear hK K
    refine W.cond rfl (fun h4=>?_) (fun h4=>?_)
    ·try simp only[RL]at h4
     refine W.r fun K hK=>?_
     simp(disch:=omega)only[↓RU,RW,↓reduceIte,qE,reduceCtorEq,iP,↓RS,RG,qA,qM,qL,zab,zaa,gF,zd3,hcx,e1,hcl,zb8,zdh]
     apply hK;clear hK K
     refine W.k fun K hK=>?_
     simp(disch:=omega)only[↓RU,RW,↓reduceIte,qE,reduceCtorEq,iP,w64,↓RS,RG,qA,qM,qL,zaa,gF,zd3]
     apply hK;clear hK K
     refine XbN ?_
     refine xn ?_
     refine W.k fun K hK=>?_
     simp(disch:=omega)only[↓RU,RW,↓reduceIte,qE,reduceCtorEq,iP,w64,↓RS,RG,qA,qM,qL,zaa,gF,zd3]
     apply hK;clear hK K
     refine xn ?_
     refine ⟨l.length - (p+1),by omega,_,k+1,p+1,c.set k x2,rfl,hdc.new (by omega) hy2 hx2 h4,by omega,by omega,?_,zbh⟩
     simp [Env.put,Env.of,show p+1 - k0=p - k0+1 by omega]
    try simp only[RL]at h4
    refine W.skip ?_
    refine XbN ?_
    refine xn ?_
    refine W.k fun K hK=>?_
    simp(disch:=omega)only[↓RU,RW,↓reduceIte,qE,reduceCtorEq,iP,w64,↓RS,RG,qA,qM,qL,zaa,gF,zd3]
    apply hK;clear hK K
    refine xn ?_
    refine ⟨l.length - (p+1),by omega,_,k,p+1,c,rfl,hdc.same (by omega) hy2 hx2 h4,by omega,by omega,?_,zbh⟩
    simp [Env.put,Env.of,show p+1 - k0=p - k0+1 by omega]
   try simp only[RL]at h3
   have hkp:=hdc.kp
   have hcl:=hdc.len
   obtain rfl:p=l.length:=by omega
   refine W.exit ?_
   refine xe ?_
   refine xe ?_
   refine XBlock.hit ?_
   refine xn ?_
   refine W.r fun K hK=>?_
   simp(disch:=omega)only[↓RU,RW,↓reduceIte,qE,reduceCtorEq,iP,Option.map_none,zhb,ze8,↓RS,RG,qA,qM,qL,zab,zaa,gF,zd3,hcl,ze8,yeo,ycs,List.length_replicate]
   apply hK;clear hK K
   refine W.r fun K hK=>?_
   simp(disch:=omega)only[↓RU,RW,↓reduceIte,qE,reduceCtorEq,iP,Option.map_none,↓RS,RG,qA,qM,qL,zab,zaa,gF,zd3]
   apply hK;clear hK K
   refine W.ret ?_
   refine XBlock.ret ?_
   refine XThen.ret ?_
   refine XThen.ret ?_
   refine XBlock.ret ?_
   refine XThen.ret ?_
   refine Br rfl ?_
   have hdk:=hdc.dk
   rw [List.take_length]at hdk
   have htk:=hdc.hd
   rw [List.take_length]at htk
   have hdrop:c.drop (k+(l.length - k))=[]:=List.drop_of_length_le (by omega)
   rw [hdrop,qN,htk]
   refine ⟨(F++Ob.arr ver 3 1 ((ddp l++List.replicate (l.length - k) 0).map (.int .i64))::R).length,_,?_,zbh⟩
   rw [hdk]; rfl
  try simp only[RL]at h2
  refine W.skip ?_
  refine XbN ?_
  refine xn ?_
  refine W.k fun K hK=>?_
  simp(disch:=omega)only[↓RU,RW,↓reduceIte,qE,reduceCtorEq,iP,w64,↓RS,RG,qA,qM,qL,zaa,gF,zd3]
  apply hK;clear hK K
  refine xn ?_
  refine ⟨l.length - (k0+1),by omega,_,k0+1,rfl,by omega,by omega,by rw [z0u h1k hy hx h2,hd,← tk hx],?_,zbh⟩
  simp [Env.put,Env.of]
 try simp only[RL]at h1
 refine W.exit ?_
 refine xe ?_
 refine xe ?_
 refine XBlock.hit ?_
 refine xn ?_
 refine W.r fun K hK=>?_
 simp(disch:=omega)only[↓RU,RW,↓reduceIte,qE,reduceCtorEq,iP,↓RS,RG,qA,qM,qL,gF,zd3]
 apply hK;clear hK K
 refine W.ret ?_
 refine Br rfl ?_
 obtain rfl:k0=l.length:=by omega
 refine ⟨(F++Ob.arr ver 3 1 (l.map (.int .i64))::R).length,[],?_,?_⟩
 ·rw [show ddp l=l by simpa using hd]; rfl
 rw [qN,show ddp l=l by simpa using hd]; exact zbh
theorem ycu {g:List (List Int)} {nh nw:Nat} (hg:GW g nh nw) (rs:List Rect) {level:Bool} {line fr long:Nat} (h1:1≤long) (hin:∀ j,fr≤j→j<fr+long→InL nh nw level line j):PC Tryz.prog 103 [zar g rs,z8a ⟨level,line,fr,long⟩] (.tup [eInts (ddp (zbv g level line fr long).1),eInts (ddp (zbv g level line fr long).2)]) true:=by
 have hgg:=hg.2.2
 have hb:fr+long≤6:=by have h:=hin (fr+long - 1) (by omega) (by omega); unfold InL at h; cases level <;> simp at h <;> omega
 simp only[z8a,Wall.cells]
 refine PC.of ⟨Tryz.func103,by kernel_rfl,rfl,by kernel_rfl⟩ zav mixed (by show 2≤Tryz.f103.ntmps; decide) ?_
 refine W.r fun K hK=>?_
 simp(disch:=omega)only[↓RU,RW,↓reduceIte,qE,reduceCtorEq,iP,↓RS,RG,qA,qM,qL,zad,zi2,zaa,zi3]
 apply hK;clear hK K
 refine W.r fun K hK=>?_
 simp(disch:=omega)only[↓RU,RW,↓reduceIte,qE,reduceCtorEq,iP,↓RS,RG,qA,qM,qL]
 apply hK;clear hK K
 refine W.seq ?_
 refine W.r fun K hK=>?_
 simp(disch:=omega)only[↓RU,RW,↓reduceIte,qE,reduceCtorEq,iP,↓RS,RG,qA,qM,qL,zad,zi2,zaa,zi3]
 apply hK;clear hK K
 refine W.block ?_
 refine W.loopS [0,3,6,7,8] (fun n vs S=>∃ j v0 v1 t:Nat,n=long - j∧j≤long∧vs=[zar g rs,.ref 0 0 0,slL (zbv g level line fr j).1 1 v0,slL (zbv g level line fr j).2 2 v1,.int .i64 (((fr+j:Nat):Int))]∧S=⟨(.arr 0 94 4 [.bool level,.int .i64 line,.int .i64 fr,.int .i64 long])::tlL (zbv g level line fr j).1 (zbv g level line fr j).2 v0 v1,t⟩) long ?_ ?_
 ·refine ⟨1,[],[zar g rs,.ref 0 0 0,slL (zbv g level line fr 0).1 1 0,slL (zbv g level line fr 0).2 2 0,.int .i64 (((fr+0:Nat):Int))],⟨(.arr 0 94 4 [.bool level,.int .i64 line,.int .i64 fr,.int .i64 long])::tlL (zbv g level line fr 0).1 (zbv g level line fr 0).2 0 0,2⟩,?_,?_,0,0,0,2,rfl,by omega,rfl,rfl⟩
  ·simp [-qU,Env.put,Env.of,zai,za9,zae,zak,zam,zao,zbd,zbe,zb2,zbc,zaz,zbf,zb1,zb3,za1,za0,zap,zbb,zbg,zb0,zax,zaw,zan,zay,zba,zdr,qS,qP,qC,zbv,slL]
  simp [-qU,Env.put,Env.of,zai,za9,zae,zak,zam,zao,zbd,zbe,zb2,zbc,zaz,zbf,zb1,zb3,za1,za0,zap,zbb,zbg,zb0,zax,zaw,zan,zay,zba,zdr,qS,qP,qC,zbv,tlL]
 rintro n vs S - ⟨j,v0,v1,t,rfl,h_j,rfl,rfl⟩
 refine W.seq ?_
 refine W.r fun K hK=>?_
 simp(disch:=omega)only[↓RU,RW,↓reduceIte,qE,reduceCtorEq,iP,w64,↓RS,RG,qA,qM,qL,zad,zi2,zaa,zi3]
 apply hK;clear hK K
 refine W.cond rfl (fun h=>?_) (fun h=>?_)
 ·try simp only[RL]at h
  have hjl:j<long:=by omega
  have hij:=hin (fr+j) (by omega) (by omega)
  have hal:=zng (g:=g) (level:=level) (line:=line) (fr:=fr) (n:=j)
  refine W.skip ?_
  refine xn ?_
  refine W.seq ?_
  refine W.block ?_
  refine W.r fun K hK=>?_
  simp(disch:=omega)only[↓RU,RW,↓reduceIte,qE,reduceCtorEq,iP,qN,↓RS,RG,qA,qM,qL,zad,zi2,zaa,zi3]
  refine zac.pc (zv5 hg rs hij) rfl (.inl rfl) ?_
  simp(disch:=omega)only[↓RU,RW,↓reduceIte,qE,reduceCtorEq,iP,qN,↓RS,RG,qA,qM,qL,zad,zi2,zaa,zi3]
  apply hK;clear hK K
  refine W.k fun K hK=>?_
  by_cases hj0:j=0
  ·skip
   subst hj0
   rw [show (zbv g level line fr 0)=([],[]) from rfl]
   rw [show slL ([],[]).1 1 v0 = .nils from rfl,show slL ([],[]).2 2 v1 = .nils from rfl,show tlL ([],[]).1 ([],[]).2 v0 v1=[] from rfl]
   simp(disch:=omega)only[↓RU,RW,↓reduceIte,qE,reduceCtorEq,iP,↓RS,RG,qA,qM,qL,zab,zaa]
   apply hK;clear hK K
   refine XbN ?_
   refine xn ?_
   refine W.k fun K hK=>?_
   simp(disch:=omega)only[↓RU,RW,↓reduceIte,qE,reduceCtorEq,iP,w64,↓RS,RG,qA,qM,qL,zaa]
   apply hK;clear hK K
   refine xn ?_
   refine ⟨long - ((0+1)),by omega,1,[2,4],[zar g rs,.ref 0 0 0,slL (zbv g level line fr (0+1)).1 1 (t+4),slL (zbv g level line fr (0+1)).2 2 (t+4),.int .i64 (((fr+(0+1):Nat):Int))],⟨(.arr 0 94 4 [.bool level,.int .i64 line,.int .i64 fr,.int .i64 long])::tlL (zbv g level line fr (0+1)).1 (zbv g level line fr (0+1)).2 (t+4) (t+4),(t+5)⟩,?_,?_,(0+1),(t+4),(t+4),(t+5),rfl,by omega,rfl,rfl⟩
   ·simp [-qU,Env.put,Env.of,zai,za9,zae,zak,zam,zao,zbd,zbe,zb2,zbc,zaz,zbf,zb1,zb3,za1,za0,zap,zbb,zbg,zb0,zax,zaw,zan,zay,zba,zdr,qS,qP,qC,show zbv g level line fr 0=([],[]) from rfl,show List.idxOf 4 [2,4]=1 from rfl,Int.add_assoc,zhk,zhl,zt6,hal.1,hal.2]
   simp [-qU,Env.put,Env.of,zai,za9,zae,zak,zam,zao,zbd,zbe,zb2,zbc,zaz,zbf,zb1,zb3,za1,za0,zap,zbb,zbg,zb0,zax,zaw,zan,zay,zba,zdr,qS,qP,qC,show zbv g level line fr 0=([],[]) from rfl,show List.idxOf 4 [2,4]=1 from rfl,zhk,zhl,z40,zff,z6u,hal.1,hal.2]
  skip
  have hne1:(zbv g level line fr j).1≠[]:=by intro h; have:=hal.1; rw [h]at this; simp at this; omega
  have hne2:(zbv g level line fr j).2≠[]:=by intro h; have:=hal.2; rw [h]at this; simp at this; omega
  rw [zt6 hne1,zt6 hne2,z40 hne1]
  simp(disch:=omega)only[↓RU,RW,↓reduceIte,qE,reduceCtorEq,iP,↓RS,RG,qA,qM,qL,zab,zaa,hal.1,hal.2]
  apply hK;clear hK K
  refine XbN ?_
  refine xn ?_
  refine W.k fun K hK=>?_
  simp(disch:=omega)only[↓RU,RW,↓reduceIte,qE,reduceCtorEq,iP,w64,↓RS,RG,qA,qM,qL,zaa]
  apply hK;clear hK K
  refine xn ?_
  refine ⟨long - ((j+1)),by omega,3,[],[zar g rs,.ref 0 0 0,slL (zbv g level line fr (j+1)).1 1 (t+1),slL (zbv g level line fr (j+1)).2 2 (t+3),.int .i64 (((fr+(j+1):Nat):Int))],⟨(.arr 0 94 4 [.bool level,.int .i64 line,.int .i64 fr,.int .i64 long])::tlL (zbv g level line fr (j+1)).1 (zbv g level line fr (j+1)).2 (t+1) (t+3),(t+5)⟩,?_,?_,(j+1),(t+1),(t+3),(t+5),rfl,by omega,rfl,rfl⟩
  ·simp [-qU,Env.put,Env.of,zai,za9,zae,zak,zam,zao,zbd,zbe,zb2,zbc,zaz,zbf,zb1,zb3,za1,za0,zap,zbb,zbg,zb0,zax,zaw,zan,zay,zba,zdr,qS,qP,qC,Int.add_assoc,zhk,zhl,zt6,hal.1,hal.2]
  simp [-qU,Env.put,Env.of,zai,za9,zae,zak,zam,zao,zbd,zbe,zb2,zbc,zaz,zbf,zb1,zb3,za1,za0,zap,zbb,zbg,zb0,zax,zaw,zan,zay,zba,zdr,qS,qP,qC,zhk,zhl,z40,zff,z6u,hal.1,hal.2]
 try simp only[RL]at h
 obtain rfl:long=j:=by omega
 refine W.exit ?_
 refine xe ?_
 refine xe ?_
 refine XBlock.hit ?_
 refine xn ?_
 refine W.r fun K hK=>?_
 have hal:=zng (g:=g) (level:=level) (line:=line) (fr:=fr) (n:=long)
 have hne1:(zbv g level line fr long).1≠[]:=by intro h; have:=hal.1; rw [h]at this; simp at this; omega
 have hne2:(zbv g level line fr long).2≠[]:=by intro h; have:=hal.2; rw [h]at this; simp at this; omega
 rw [zt6 hne1,zt6 hne2,z40 hne1]
 simp(disch:=omega)only[↓RU,RW,↓reduceIte,qE,reduceCtorEq,iP,qN,↓RS,RG,qA,qM,qL]
 refine zac.ev (znj (F:=[(.arr 0 94 4 [.bool level,.int .i64 line,.int .i64 fr,.int .i64 long])]) (R:=[.arr v1 3 1 ((zbv g level line fr long).2.map (.int .i64))]) (l:=(zbv g level line fr long).1) (by omega)) ?_
 rintro _ _ ⟨z1,rfl,rfl⟩
 simp(disch:=omega)only[↓RU,RW,↓reduceIte,qE,reduceCtorEq,iP,qN,↓RS,RG,qA,qM,qL]
 refine zac.ev (znj (F:=[(.arr 0 94 4 [.bool level,.int .i64 line,.int .i64 fr,.int .i64 long]),.arr v0 3 1 ((ddp (zbv g level line fr long).1++z1).map (.int .i64))]) (R:=[]) (l:=(zbv g level line fr long).2) (by omega)) ?_
 rintro _ _ ⟨z2,rfl,rfl⟩
 simp(disch:=omega)only[↓RU,RW,↓reduceIte,qE,reduceCtorEq,iP,qN,↓RS,RG,qA,qM,qL]
 apply hK;clear hK K
 refine W.ret ?_
 refine Br rfl ?_
 exact zn2 (zy6 (k:=7) rfl) (zy6 (k:=7) rfl)
abbrev eBools (l:List Bool):PV := .sl (l.map .bool) l.length
abbrev zhn (M:List (List Bool)):PV := .sl (M.map eBools) M.length
theorem za2 {S S':Store} (h:S=S'):S.take S.obs.length=S':=by rw [zbh,h]
def Sq (n:Nat) (M:List (List Bool)):Prop:=M.length=n∧∀ r∈M,r.length=n
def zcv (M:List (List Bool)) (a b:Nat):Bool:=(M[a]?.getD [])[b]?.getD false
def z6m (M:List (List Bool)) (a b:Nat) (x:Bool):List (List Bool):=M.set a ((M[a]?.getD []).set b x)
theorem Sq.at_ {n:Nat} {M:List (List Bool)} (h:Sq n M) {a b:Nat} (ha:a<n) (hb:b<n):∃ row,M[a]?=some row∧row.length=n∧row[b]?=some (zcv M a b):=by
 obtain ⟨row,hr,hm⟩:=zaj (show a<M.length by rw [h.1]; exact ha)
 have hl:=h.2 row hm
 obtain ⟨x,hx,-⟩:=zaj (show b<row.length by omega)
 exact ⟨row,hr,hl,by simp [zcv,hr,hx]⟩
theorem Sq.set {n:Nat} {M:List (List Bool)} (h:Sq n M) {a b:Nat} {x:Bool} (ha:a<n):Sq n (z6m M a b x):=by
 obtain ⟨row,hr,hm⟩:=zaj (show a<M.length by rw [h.1]; exact ha)
 refine ⟨by simp [z6m,h.1],fun r hr'=>?_⟩
 rcases List.mem_or_eq_of_mem_set hr' with h1 | rfl
 ·exact h.2 r h1
 simp [hr,h.2 row hm]
theorem zhf {M:List (List Bool)} {a b:Nat} {x:Bool} {row:List Bool} (h:M[a]?=some row):z6m M a b x=M.set a (row.set b x):=by simp [z6m,h]
def zcb (n:Nat):List (List Bool):=List.replicate n (List.replicate n false)
theorem ze4 (n:Nat):Sq n (zcb n):=⟨by simp [zcb],fun r hr=>by rw [(List.mem_replicate.1 hr).2]; simp⟩
def zbu (k t:Nat) (M:List (List Bool)):List Ob :=
 .arr t 124 1 ((List.range M.length).map fun i => .loc (k+1+i) t 0 M.length)::M.map fun r => .arr t 4 1 (r.map .bool)
theorem zaq {k t:Nat} {M:List (List Bool)}:(zbu k t M).length=M.length+1:=by simp [zbu]
theorem z65 {F R:List Ob} {t:Nat} {M:List (List Bool)} {n:Nat} (h:M.length=n):(F++(zbu F.length t M++R))[F.length]?=some (.arr t 124 1 ((List.range n).map fun i => .loc (F.length+1+i) t 0 n)):=by
 subst h; simp [zbu]
theorem zy9 {F R:List Ob} {t a:Nat} {M:List (List Bool)} {row:List Bool} (h:M[a]?=some row):(F++(zbu F.length t M++R))[F.length+1+a]?=some (.arr t 4 1 (row.map .bool)):=by
 have ha:=zb5 h
 rw [List.getElem?_append_right (by omega),List.getElem?_append_left (by rw [zaq]; omega),show F.length+1+a - F.length=a+1 by omega]
 simp [zbu,h]
theorem zmv {F R:List Ob} {t a:Nat} {M:List (List Bool)} {row:List Bool} {n:Nat} (hn:M.length=n) (h:a<n):(F++(zbu F.length t M++R)).set (F.length+1+a) (.arr t 4 1 (row.map .bool))=F++(zbu F.length t (M.set a row)++R):=by
 subst hn
 rw [List.set_append_right _ _ (by omega),List.set_append_left _ _ (by rw [zaq]; omega),show F.length+1+a - F.length=a+1 by omega]
 simp [zbu,List.map_set]
theorem zkt {n a:Nat} (h:a<n):(List.range n)[a]?=some a:=List.getElem?_range h
theorem zge {l:List Bool} {a:Nat} {x:Bool}:(l.map PV.bool).set a (.bool x)=(l.set a x).map PV.bool:=by rw [List.map_set]
theorem zza:∀ (n:Nat),repz [PV.bool false] n=(List.replicate n false).map PV.bool
 | 0=>rfl
 | n+1=>by rw [zib,zza n,List.replicate_succ]; rfl
theorem zji:∀ (n:Nat),repz [PV.nils] n=List.replicate n PV.nils
 | 0=>rfl
 | n+1=>by rw [zib,zji n,List.replicate_succ]; rfl
theorem z1h {α:Type} {f:α→PV} {g:PV→Option PV} {h:α→PV}:∀ {l:List α},(∀ a∈l,g (f a)=some (h a))→(l.map f).mapM g=some (l.map h)
 | [],_=>rfl
 | a::l,H=>by
  rw [List.map_cons,qC,H a (by simp),z1h (l:=l) fun x hx=>H x (by simp [hx])]; rfl
theorem z4p {α:Type} {f h:α→Ob} {S:Store} {im:Bool}:∀ {l:List α},(∀ a∈l,z4o S im (f a)=some (h a))→zgq S im (l.map f)=some (l.map h)
 | [],_=>rfl
 | a::l,H=>by
  rw [List.map_cons,zgq,H a (by simp),Option.bind_some,z4p (l:=l) fun x hx=>H x (by simp [hx])]; rfl
def grX (n i:Nat):List PV:=((List.range i).map fun j=>PV.loc (j+1) (j+1) 0 n)++List.replicate (n - i) .nils
def grY (n i:Nat):List Ob:=(List.range i).map fun j => .arr (j+1) 4 1 ((List.replicate n false).map .bool)
theorem yhh {n i:Nat} (h:i≤n):(grX n i).length=n:=by simp [grX]; omega
theorem yhi {n i:Nat}:(grY n i).length=i:=by simp [grY]
theorem ydm {n i:Nat}:grY n (i+1)=grY n i++[.arr (i+1) 4 1 ((List.replicate n false).map .bool)]:=by simp [grY,qS]
theorem ydl {n i:Nat} (h:i<n):(grX n i).take i++[.loc (i+1) (i+1) 0 n]++(grX n i).drop (i+1)=grX n (i+1):=by
 unfold grX
 have e:((List.range i).map fun j=>PV.loc (j+1) (j+1) 0 n).length=i:=by simp
 rw [List.take_append_of_le_length (by omega),qT (by omega)]
 have:(((List.range i).map fun j=>PV.loc (j+1) (j+1) 0 n)++List.replicate (n - i) PV.nils).drop (i+1)=List.replicate (n - (i+1)) PV.nils:=by
  rw [List.drop_append,List.drop_of_length_le (by omega),e,List.nil_append,List.drop_replicate]; congr 1; omega
 rw [this,qS]; simp
def zfn (n i:Nat):List Ob := .arr 0 124 1 (grX n i)::grY n i
theorem yhj {n t:Nat} {im:Bool}:∃ k,sh (Store.take ⟨zfn n n,t⟩ k) im 10 (.loc 0 0 0 n)=some (.loc 0 0 0 n)∧zgq (Store.take ⟨zfn n n,t⟩ k) im (Store.take ⟨zfn n n,t⟩ k).obs=some (zbu 0 0 (zcb n)):=by
 refine ⟨(zfn n n).length,?_⟩
 have e:Store.take ⟨zfn n n,t⟩ (zfn n n).length=⟨zfn n n,t⟩:=zbh
 rw [e]
 refine ⟨rfl,?_⟩
 have hrow:∀ j,j<n→(zfn n n)[j+1]?=some (.arr (j+1) 4 1 ((List.replicate n false).map .bool)):=by
  intro j hj; simp [zfn,grY,hj]
 have h1:((List.range n).map fun j=>PV.loc (j+1) (j+1) 0 n).mapM (sh ⟨zfn n n,t⟩ im 10)=some ((List.range n).map fun j=>PV.loc (0+1+j) 0 0 n):=by
  refine z1h fun j hj=>?_
  have hj:=List.mem_range.1 hj
  simp only[sh,hrow j hj,if_true]
  congr 2; omega
 have h2:zgq ⟨zfn n n,t⟩ im ((List.range n).map fun j => .arr (j+1) 4 1 ((List.replicate n false).map .bool))=some ((List.range n).map fun _ => .arr 0 4 1 ((List.replicate n false).map .bool)):=by
  refine z4p fun j _=>?_
  simp only[z4o]
  rw [yit (by simp [List.all_replicate,scal])]; rfl
 have h3:(zcb n).length=n:=by simp [zcb]
 show zgq ⟨zfn n n,t⟩ im (zfn n n)=_
 conv=>lhs; arg 3; unfold zfn grX grY
 rw [zgq,Nat.sub_self,List.replicate_zero,qN]
 simp only[z4o]
 rw [h1]
 simp only[qO,Option.bind_some]
 rw [h2]
 simp only[qO,zbu,h3]
 congr 2
 simp [zcb,List.map_const']
theorem zgn {k t:Nat} {M:List (List Bool)}:(zbu 0 0 M).map (z67 k t)=zbu k t M:=by
 simp only[zbu,List.map_cons,znb,List.map_map]
 congr 1
 ·congr 1
  apply List.map_congr_left
  intro i _
  simp only[Function.comp,z46]
  congr 1; omega
 apply List.map_congr_left
 intro r _
 simp only[Function.comp,znb,zwd]
theorem zy7 {S:Store} {im:Bool} {f k t:Nat} {M:List (List Bool)} {n:Nat} (hM:Sq n M) (h0:S.obs[k]?=some (.arr t 124 1 ((List.range n).map fun i => .loc (k+1+i) t 0 n)))
  (h1:∀ a row,M[a]?=some row→S.obs[k+1+a]?=some (.arr t 4 1 (row.map .bool))):reify S im (f+3) (.loc k t 0 n)=some (zhn M):=by
 have hm:((List.range n).map fun i=>PV.loc (k+1+i) t 0 n).mapM (reify S im (f+2))=some ((List.range n).map fun i=>eBools (M[i]?.getD [])):=by
  refine z1h fun i hi=>?_
  have hi:=List.mem_range.1 hi
  obtain ⟨row,hr,hm⟩:=zaj (show i<M.length by rw [hM.1]; exact hi)
  have hl:=hM.2 row hm
  rw [hr]
  have:=zce (n:=n) (k:=f+1) (im:=im) (h1 i row hr) (by simp [hl]) (z9j row)
  rw [this]
  simp [eBools,hl]
 have:=zce (n:=n) (k:=f+2) (im:=im) h0 (by simp) hm
 rw [this]
 have e:((List.range n).map fun i=>eBools (M[i]?.getD []))=M.map eBools:=by
  apply List.ext_getElem
  ·simp [hM.1]
  intro i a b
  have:i<M.length:=by rw [hM.1]; simpa using a
  simp [this]
 rw [e]
 simp [zhn,hM.1]
def clB (k a:Nat) (M:List (List Bool)) (b:Nat):List (List Bool):=z6m M a b (zcv M a b || (zcv M a k && zcv M k b))
def clA (n k:Nat) (M:List (List Bool)) (a:Nat):List (List Bool):=(List.range n).foldl (clB k a) M
def clK (n:Nat) (M:List (List Bool)) (k:Nat):List (List Bool):=(List.range n).foldl (clA n k) M
def zgg (M:List (List Bool)):List (List Bool):=(List.range M.length).foldl (clK M.length) M
theorem Sq.foldl {n:Nat} {f:List (List Bool)→Nat→List (List Bool)}:∀ (i:Nat) {M:List (List Bool)},(∀ M j,j<i→Sq n M→Sq n (f M j))→Sq n M→Sq n ((List.range i).foldl f M)
 | 0,M,_,h=>by simpa using h
 | i+1,M,hf,h=>by
  rw [zcz]
  exact hf _ i (Nat.lt_succ_self i) (Sq.foldl i (fun M j hj=>hf M j (by omega)) h)
theorem Sq.clB {n:Nat} {M:List (List Bool)} {k a b:Nat} (h:Sq n M) (ha:a<n):Sq n (clB k a M b):=h.set ha
theorem Sq.clA {n:Nat} {M:List (List Bool)} {k a:Nat} (h:Sq n M) (ha:a<n):Sq n (clA n k M a):=Sq.foldl n (fun _ _ _ h=>h.clB ha) h
theorem Sq.clK {n:Nat} {M:List (List Bool)} {k:Nat} (h:Sq n M):Sq n (clK n M k):=Sq.foldl n (fun _ _ hj h=>h.clA hj) h
theorem Sq.close {n:Nat} {M:List (List Bool)} (h:Sq n M):Sq n (zgg M):=by
 unfold zgg; rw [h.1]; exact Sq.foldl n (fun _ _ _ h=>h.clK) h
theorem zg8 {nr:Nat} (hn:nr≤9):PN Tryz.prog 102 [.int .i64 nr] (.loc 0 0 0 nr) (zbu 0 0 (zcb nr)) false:=by
 refine PN.of ⟨Tryz.func102,by kernel_rfl,rfl,by kernel_rfl⟩ zav mixed (by show 1≤Tryz.f102.ntmps; decide) ?_
 refine W.r fun K hK=>?_
 simp(disch:=omega)only[↓RU,RW,↓reduceIte,qE,reduceCtorEq,iP,↓RS,RG,qA,qM,qL]
 apply hK;clear hK K
 refine W.r fun K hK=>?_
 simp(disch:=omega)only[↓RU,RW,↓reduceIte,qE,reduceCtorEq,iP,↓RS,RG,qA,qM,qL,ty0,ty2,zad,ze6,zji,zex]
 apply hK;clear hK K
 refine W.seq ?_
 refine W.r fun K hK=>?_
 simp(disch:=omega)only[↓RU,RW,↓reduceIte,qE,reduceCtorEq,iP,↓RS,RG,qA,qM,qL,ty0,ty2,zad,ze6]
 apply hK;clear hK K
 refine W.block ?_
 refine W.loop [0,3,8,9] (fun n vs S=>∃ i:Nat,n=nr - i∧i≤nr∧vs=[.int .i64 nr,.loc 0 0 0 nr,.int .i64 nr,.int .i64 i]∧S=⟨.arr 0 124 1 (grX nr i)::grY nr i,i+1⟩) (nr) ?_ ?_
 ·refine ⟨_,0,rfl,Nat.zero_le _,?_,za2 (by simp [grX,grY])⟩
  simp [Env.put,Env.of,zai]
 rintro n vs S - ⟨i,rfl,h_i,rfl,rfl⟩
 refine W.r fun K hK=>?_
 simp(disch:=omega)only[↓RU,RW,↓reduceIte,qE,reduceCtorEq,iP,w64,↓RS,RG,qA,qM,qL,zaa]
 apply hK;clear hK K
 refine W.seq ?_
 refine W.cond rfl (fun h=>?_) (fun h=>?_)
 ·try simp only[RL]at h
  have hx:=yhh (show i≤nr by omega)
  refine W.skip ?_
  refine xn ?_
  refine W.seq ?_
  refine W.block ?_
  refine W.r fun K hK=>?_
  simp(disch:=omega)only[↓RU,RW,↓reduceIte,qE,reduceCtorEq,iP,↓RS,RG,qA,qM,qL]
  apply hK;clear hK K
  refine W.k fun K hK=>?_
  simp(disch:=omega)only[↓RU,RW,↓reduceIte,qE,reduceCtorEq,iP,↓RS,RG,qA,qM,qL,ty0,ty2,zad,ze6,zza,zex,yhi,hx,ydl]
  apply hK;clear hK K
  refine XbN ?_
  refine xn ?_
  refine W.k fun K hK=>?_
  simp(disch:=omega)only[↓RU,RW,↓reduceIte,qE,reduceCtorEq,iP,w64,↓RS,RG,qA,qM,qL,zaa]
  apply hK;clear hK K
  refine xn ?_
  refine ⟨nr - (i+1),by omega,_,i+1,rfl,by omega,?_,za2 (by simp [ydm])⟩
  simp [Env.put,Env.of]
 try simp only[RL]at h
 refine W.exit ?_
 refine xe ?_
 refine xe ?_
 refine XBlock.hit ?_
 refine xn ?_
 refine W.r fun K hK=>?_
 simp(disch:=omega)only[↓RU,RW,↓reduceIte,qE,reduceCtorEq,iP,↓RS,RG,qA,qM,qL]
 apply hK;clear hK K
 refine W.ret ?_
 refine Br rfl ?_
 obtain rfl:nr=i:=by omega
 exact yhj
theorem z2p {F R:List Ob} {t tk nr:Nat} {M:List (List Bool)} (hM:Sq nr M) (hn:nr≤9):Ev Tryz.prog 104 [.loc F.length t 0 nr] ⟨F++(zbu F.length t (M)++R),tk⟩ fun v S=>v = .tup []∧S=⟨F++(zbu F.length t (zgg M)++R),tk⟩:=by
 refine Ev.of ⟨Tryz.func104,by kernel_rfl,rfl,by kernel_rfl⟩ zav mixed (by show 1≤Tryz.f104.ntmps; decide) ?_
 refine W.r fun K hK=>?_
 simp(disch:=omega)only[↓RU,RW,↓reduceIte,qE,reduceCtorEq,iP,↓RS,RG,qA,qM,qL,ty0,ty2,zad,ze6,z65 hM.1]
 apply hK;clear hK K
 refine W.block ?_
 refine W.loop [0,6,7] (fun n vs S=>∃ k:Nat,n=nr - k∧k≤nr∧vs=[.loc F.length t 0 nr,.int .i64 nr,.int .i64 k]∧S=⟨F++(zbu F.length t ((List.range k).foldl (clK nr) M)++R),tk⟩) (nr) ?_ ?_
 ·refine ⟨_,0,rfl,Nat.zero_le _,?_,za2 rfl⟩
  simp [Env.put,Env.of,zai]
 rintro n vs S - ⟨k,rfl,h_k,rfl,rfl⟩
 refine W.r fun K hK=>?_
 simp(disch:=omega)only[↓RU,RW,↓reduceIte,qE,reduceCtorEq,iP,w64,↓RS,RG,qA,qM,qL,zaa]
 apply hK;clear hK K
 refine W.seq ?_
 refine W.cond rfl (fun h=>?_) (fun h=>?_)
 ·try simp only[RL]at h
  have hX:=Sq.foldl (f:=clK nr) k (fun _ _ _ h=>h.clK) hM
  generalize hXe:(List.range k).foldl (clK nr) M=X at hX
  refine W.skip ?_
  refine xn ?_
  refine W.seq ?_
  refine W.block ?_
  refine W.r fun K hK=>?_
  simp(disch:=omega)only[↓RU,RW,↓reduceIte,qE,reduceCtorEq,iP,↓RS,RG,qA,qM,qL]
  apply hK;clear hK K
  refine W.r fun K hK=>?_
  simp(disch:=omega)only[↓RU,RW,↓reduceIte,qE,reduceCtorEq,iP,↓RS,RG,qA,qM,qL,ty0,ty2,zad,ze6,hXe,z65 hX.1]
  apply hK;clear hK K
  refine W.block ?_
  refine W.loop [0,2,6,7,11,12] (fun n vs S=>∃ a:Nat,n=nr - a∧a≤nr∧vs=[.loc F.length t 0 nr,.int .i64 k,.int .i64 nr,.int .i64 k,.int .i64 nr,.int .i64 a]∧S=⟨F++(zbu F.length t ((List.range a).foldl (clA nr k) X)++R),tk⟩) (nr) ?_ ?_
  ·refine ⟨_,0,rfl,Nat.zero_le _,?_,za2 rfl⟩
   simp [Env.put,Env.of,zai]
  rintro n vs S - ⟨a,rfl,h_a,rfl,rfl⟩
  refine W.r fun K hK=>?_
  simp(disch:=omega)only[↓RU,RW,↓reduceIte,qE,reduceCtorEq,iP,w64,↓RS,RG,qA,qM,qL,zaa]
  apply hK;clear hK K
  refine W.seq ?_
  refine W.cond rfl (fun h1=>?_) (fun h1=>?_)
  ·try simp only[RL]at h1
   have hY:=Sq.foldl (f:=clA nr k) a (fun _ _ hj h=>h.clA (by omega)) hX
   generalize hYe:(List.range a).foldl (clA nr k) X=Y at hY
   refine W.skip ?_
   refine xn ?_
   refine W.seq ?_
   refine W.block ?_
   refine W.r fun K hK=>?_
   simp(disch:=omega)only[↓RU,RW,↓reduceIte,qE,reduceCtorEq,iP,↓RS,RG,qA,qM,qL]
   apply hK;clear hK K
   refine W.r fun K hK=>?_
   simp(disch:=omega)only[↓RU,RW,↓reduceIte,qE,reduceCtorEq,iP,↓RS,RG,qA,qM,qL,ty0,ty2,zad,ze6,hYe,z65 hY.1]
   apply hK;clear hK K
   refine W.block ?_
   refine W.loop [0,2,3,6,7,11,12,16,17] (fun n vs S=>∃ b:Nat,n=nr - b∧b≤nr∧vs=[.loc F.length t 0 nr,.int .i64 k,.int .i64 a,.int .i64 nr,.int .i64 k,.int .i64 nr,.int .i64 a,.int .i64 nr,.int .i64 b]∧S=⟨F++(zbu F.length t ((List.range b).foldl (clB k a) Y)++R),tk⟩) (nr) ?_ ?_
   ·refine ⟨_,0,rfl,Nat.zero_le _,?_,za2 rfl⟩
    simp [Env.put,Env.of,zai]
   rintro n vs S - ⟨b,rfl,h_b,rfl,rfl⟩
   refine W.r fun K hK=>?_
   simp(disch:=omega)only[↓RU,RW,↓reduceIte,qE,reduceCtorEq,iP,w64,↓RS,RG,qA,qM,qL,zaa]
   apply hK;clear hK K
   refine W.seq ?_
   refine W.cond rfl (fun h2=>?_) (fun h2=>?_)
   ·try simp only[RL]at h2
    have hZ:=Sq.foldl (f:=clB k a) b (fun _ _ _ h=>h.clB (show a<nr by omega)) hY
    generalize hZe:(List.range b).foldl (clB k a) Y=Z at hZ
    have hZl:=hZ.1
    obtain ⟨ra,hra,hral,hrab⟩:=hZ.at_ (show a<nr by omega) (show b<nr by omega)
    obtain ⟨ra2,hra2,-,hrak⟩:=hZ.at_ (show a<nr by omega) (show k<nr by omega)
    obtain ⟨rk,hrk,hrkl,hrkb⟩:=hZ.at_ (show k<nr by omega) (show b<nr by omega)
    obtain rfl:ra=ra2:=by rw [hra]at hra2; exact Option.some.inj hra2
    refine W.skip ?_
    refine xn ?_
    refine W.seq ?_
    refine W.block ?_
    refine W.r fun K hK=>?_
    simp(disch:=omega)only[↓RU,RW,↓reduceIte,qE,reduceCtorEq,iP,↓RS,RG,qA,qM,qL]
    apply hK;clear hK K
    refine W.draw_k (by kernel_rfl) fun K hK=>?_
    rcases hv:(zcv Z a b,zcv Z a k,zcv Z k b) with ⟨_ | _,_ | _,_ | _⟩
    ·skip
     simp only[Prod.mk.injEq]at hv
     obtain ⟨hv1,hv2,hv3⟩:=hv
     rw [hv1]at hrab
     rw [hv2]at hrak
     rw [hv3]at hrkb
     simp(disch:=omega)only[↓RU,RW,↓reduceIte,qE,reduceCtorEq,iP,↓RS,RG,qA,qM,qL,ty0,ty2,zad,ze6,hZe,z65 hZl,zkt,zy9 hra,zy9 hrk,hrab,hrak,hrkb,zb8,zge,hral,zmv hZl]
     apply hK;clear hK K
     refine XbN ?_
     refine xn ?_
     refine W.k fun K hK=>?_
     simp(disch:=omega)only[↓RU,RW,↓reduceIte,qE,reduceCtorEq,iP,w64,↓RS,RG,qA,qM,qL,zaa]
     apply hK;clear hK K
     refine xn ?_
     refine ⟨nr - (b+1),by omega,_,b+1,rfl,by omega,?_,za2 (by rw [zcz,hZe,clB,zhf hra]; simp [hv1,hv2,hv3])⟩
     simp [Env.put,Env.of]
    ·skip
     simp only[Prod.mk.injEq]at hv
     obtain ⟨hv1,hv2,hv3⟩:=hv
     rw [hv1]at hrab
     rw [hv2]at hrak
     rw [hv3]at hrkb
     simp(disch:=omega)only[↓RU,RW,↓reduceIte,qE,reduceCtorEq,iP,↓RS,RG,qA,qM,qL,ty0,ty2,zad,ze6,hZe,z65 hZl,zkt,zy9 hra,zy9 hrk,hrab,hrak,hrkb,zb8,zge,hral,zmv hZl]
     apply hK;clear hK K
     refine XbN ?_
     refine xn ?_
     refine W.k fun K hK=>?_
     simp(disch:=omega)only[↓RU,RW,↓reduceIte,qE,reduceCtorEq,iP,w64,↓RS,RG,qA,qM,qL,zaa]
     apply hK;clear hK K
     refine xn ?_
     refine ⟨nr - (b+1),by omega,_,b+1,rfl,by omega,?_,za2 (by rw [zcz,hZe,clB,zhf hra]; simp [hv1,hv2,hv3])⟩
     simp [Env.put,Env.of]
    ·skip
     simp only[Prod.mk.injEq]at hv
     obtain ⟨hv1,hv2,hv3⟩:=hv
     rw [hv1]at hrab
     rw [hv2]at hrak
     rw [hv3]at hrkb
     simp(disch:=omega)only[↓RU,RW,↓reduceIte,qE,reduceCtorEq,iP,↓RS,RG,qA,qM,qL,ty0,ty2,zad,ze6,hZe,z65 hZl,zkt,zy9 hra,zy9 hrk,hrab,hrak,hrkb,zb8,zge,hral,zmv hZl]
     apply hK;clear hK K
     refine XbN ?_
     refine xn ?_
     refine W.k fun K hK=>?_
     simp(disch:=omega)only[↓RU,RW,↓reduceIte,qE,reduceCtorEq,iP,w64,↓RS,RG,qA,qM,qL,zaa]
     apply hK;clear hK K
     refine xn ?_
     refine ⟨nr - (b+1),by omega,_,b+1,rfl,by omega,?_,za2 (by rw [zcz,hZe,clB,zhf hra]; simp [hv1,hv2,hv3])⟩
     simp [Env.put,Env.of]
    ·skip
     simp only[Prod.mk.injEq]at hv
     obtain ⟨hv1,hv2,hv3⟩:=hv
     rw [hv1]at hrab
     rw [hv2]at hrak
     rw [hv3]at hrkb
     simp(disch:=omega)only[↓RU,RW,↓reduceIte,qE,reduceCtorEq,iP,↓RS,RG,qA,qM,qL,ty0,ty2,zad,ze6,hZe,z65 hZl,zkt,zy9 hra,zy9 hrk,hrab,hrak,hrkb,zb8,zge,hral,zmv hZl]
     apply hK;clear hK K
     refine XbN ?_
     refine xn ?_
     refine W.k fun K hK=>?_
     simp(disch:=omega)only[↓RU,RW,↓reduceIte,qE,reduceCtorEq,iP,w64,↓RS,RG,qA,qM,qL,zaa]
     apply hK;clear hK K
     refine xn ?_
     refine ⟨nr - (b+1),by omega,_,b+1,rfl,by omega,?_,za2 (by rw [zcz,hZe,clB,zhf hra]; simp [hv1,hv2,hv3])⟩
     simp [Env.put,Env.of]
    ·skip
     simp only[Prod.mk.injEq]at hv
     obtain ⟨hv1,hv2,hv3⟩:=hv
     rw [hv1]at hrab
     rw [hv2]at hrak
     rw [hv3]at hrkb
     simp(disch:=omega)only[↓RU,RW,↓reduceIte,qE,reduceCtorEq,iP,↓RS,RG,qA,qM,qL,ty0,ty2,zad,ze6,hZe,z65 hZl,zkt,zy9 hra,zy9 hrk,hrab,hrak,hrkb,zb8,zge,hral,zmv hZl]
     apply hK;clear hK K
     refine XbN ?_
     refine xn ?_
     refine W.k fun K hK=>?_
     simp(disch:=omega)only[↓RU,RW,↓reduceIte,qE,reduceCtorEq,iP,w64,↓RS,RG,qA,qM,qL,zaa]
     apply hK;clear hK K
     refine xn ?_
     refine ⟨nr - (b+1),by omega,_,b+1,rfl,by omega,?_,za2 (by rw [zcz,hZe,clB,zhf hra]; simp [hv1,hv2,hv3])⟩
     simp [Env.put,Env.of]
    ·skip
     simp only[Prod.mk.injEq]at hv
     obtain ⟨hv1,hv2,hv3⟩:=hv
     rw [hv1]at hrab
     rw [hv2]at hrak
     rw [hv3]at hrkb
     simp(disch:=omega)only[↓RU,RW,↓reduceIte,qE,reduceCtorEq,iP,↓RS,RG,qA,qM,qL,ty0,ty2,zad,ze6,hZe,z65 hZl,zkt,zy9 hra,zy9 hrk,hrab,hrak,hrkb,zb8,zge,hral,zmv hZl]
     apply hK;clear hK K
     refine XbN ?_
     refine xn ?_
     refine W.k fun K hK=>?_
     simp(disch:=omega)only[↓RU,RW,↓reduceIte,qE,reduceCtorEq,iP,w64,↓RS,RG,qA,qM,qL,zaa]
     apply hK;clear hK K
     refine xn ?_
     refine ⟨nr - (b+1),by omega,_,b+1,rfl,by omega,?_,za2 (by rw [zcz,hZe,clB,zhf hra]; simp [hv1,hv2,hv3])⟩
     simp [Env.put,Env.of]
    ·skip
     simp only[Prod.mk.injEq]at hv
     obtain ⟨hv1,hv2,hv3⟩:=hv
     rw [hv1]at hrab
     rw [hv2]at hrak
     rw [hv3]at hrkb
     simp(disch:=omega)only[↓RU,RW,↓reduceIte,qE,reduceCtorEq,iP,↓RS,RG,qA,qM,qL,ty0,ty2,zad,ze6,hZe,z65 hZl,zkt,zy9 hra,zy9 hrk,hrab,hrak,hrkb,zb8,zge,hral,zmv hZl]
     apply hK;clear hK K
     refine XbN ?_
     refine xn ?_
     refine W.k fun K hK=>?_
     simp(disch:=omega)only[↓RU,RW,↓reduceIte,qE,reduceCtorEq,iP,w64,↓RS,RG,qA,qM,qL,zaa]
     apply hK;clear hK K
     refine xn ?_
     refine ⟨nr - (b+1),by omega,_,b+1,rfl,by omega,?_,za2 (by rw [zcz,hZe,clB,zhf hra]; simp [hv1,hv2,hv3])⟩
     simp [Env.put,Env.of]
    skip
    simp only[Prod.mk.injEq]at hv
    obtain ⟨hv1,hv2,hv3⟩:=hv
    rw [hv1]at hrab
    rw [hv2]at hrak
    rw [hv3]at hrkb
    simp(disch:=omega)only[↓RU,RW,↓reduceIte,qE,reduceCtorEq,iP,↓RS,RG,qA,qM,qL,ty0,ty2,zad,ze6,hZe,z65 hZl,zkt,zy9 hra,zy9 hrk,hrab,hrak,hrkb,zb8,zge,hral,zmv hZl]
    apply hK;clear hK K
    refine XbN ?_
    refine xn ?_
    refine W.k fun K hK=>?_
    simp(disch:=omega)only[↓RU,RW,↓reduceIte,qE,reduceCtorEq,iP,w64,↓RS,RG,qA,qM,qL,zaa]
    apply hK;clear hK K
    refine xn ?_
    refine ⟨nr - (b+1),by omega,_,b+1,rfl,by omega,?_,za2 (by rw [zcz,hZe,clB,zhf hra]; simp [hv1,hv2,hv3])⟩
    simp [Env.put,Env.of]
   try simp only[RL]at h2
   obtain rfl:nr=b:=by omega
   refine W.exit ?_
   refine xe ?_
   refine xe ?_
   refine XBlock.hit ?_
   refine XbN ?_
   refine xn ?_
   refine W.k fun K hK=>?_
   simp(disch:=omega)only[↓RU,RW,↓reduceIte,qE,reduceCtorEq,iP,w64,↓RS,RG,qA,qM,qL,zaa]
   apply hK;clear hK K
   refine xn ?_
   refine ⟨nr - (a+1),by omega,_,a+1,rfl,by omega,?_,za2 (by rw [zcz,hYe]; rfl)⟩
   simp [Env.put,Env.of]
  try simp only[RL]at h1
  obtain rfl:nr=a:=by omega
  refine W.exit ?_
  refine xe ?_
  refine xe ?_
  refine XBlock.hit ?_
  refine XbN ?_
  refine xn ?_
  refine W.k fun K hK=>?_
  simp(disch:=omega)only[↓RU,RW,↓reduceIte,qE,reduceCtorEq,iP,w64,↓RS,RG,qA,qM,qL,zaa]
  apply hK;clear hK K
  refine xn ?_
  refine ⟨nr - (k+1),by omega,_,k+1,rfl,by omega,?_,za2 (by rw [zcz,hXe]; rfl)⟩
  simp [Env.put,Env.of]
 try simp only[RL]at h
 obtain rfl:nr=k:=by omega
 refine W.exit ?_
 refine xe ?_
 refine xe ?_
 refine XBlock.hit ?_
 refine zfj.norm rfl ?_
 refine ⟨_,rfl,za2 ?_⟩
 rw [zgg,hM.1]
section
def relB (a:Int) (bs:List Int) (M:List (List Bool)):List (List Bool):=bs.foldl (fun M b=>z6m M a.toNat b.toNat true) M
def relW (M:List (List Bool)) (la bs:List Int):List (List Bool):=la.foldl (fun M a=>relB a bs M) M
def zbl (g:List (List Int)) (w:Wall):List Int × List Int :=
 (ddp (zbv g w.level w.line.toNat w.fr.toNat w.long.toNat).1,ddp (zbv g w.level w.line.toNat w.fr.toNat w.long.toNat).2)
def zpk (g:List (List Int)) (M:List (List Bool) × List (List Bool)) (w:Wall):List (List Bool) × List (List Bool) :=
 if w.level then (M.1,relW M.2 (zbl g w).1 (zbl g w).2) else (relW M.1 (zbl g w).1 (zbl g w).2,M.2)
def yd5 (g:List (List Int)) (nh nw n:Nat):List (List Bool) × List (List Bool):=(zau g nh nw).foldl (zpk g) (zcb n,zcb n)
def z1f (g:List (List Int)) (nh nw n:Nat):List (List Bool):=zgg (yd5 g nh nw n).1
def zp1 (g:List (List Int)) (nh nw n:Nat):List (List Bool):=zgg (yd5 g nh nw n).2
def zr9 (g:List (List Int)) (nh nw:Nat) (w:Wall):Prop :=
 ∃ line fr long:Nat,w=⟨w.level,line,fr,long⟩∧1≤long∧∀ j,fr≤j→j<fr+long→InL nh nw w.level line j∧zh0 g w.level line j=true
theorem zz7 {g:List (List Int)} {nh nw:Nat} {level:Bool} {line places:Nat} (hin:∀ j,j<places→InL nh nw level line j) {ws:List Wall} (hws:∀ w∈ws,zr9 g nh nw w):∀ n,n≤places →
  (∀ w∈(zb4 g level line ws n).1,zr9 g nh nw w)∧((zb4 g level line ws n).2=true→∃ ws0,∃ fr long:Nat,(zb4 g level line ws n).1=ws0++[⟨level,line,fr,long⟩]∧fr+long=n∧1≤long∧∀ j,fr≤j→j<fr+long→InL nh nw level line j∧zh0 g level line j=true)
 | 0,_=>⟨hws,by simp [zb4]⟩
 | n+1,hn=>by
  obtain ⟨ih1,ih2⟩:=zz7 hin hws n (by omega)
  rw [zea]
  generalize zb4 g level line ws n=s at ih1 ih2
  obtain ⟨ws',op⟩:=s
  simp only at ih1 ih2
  cases hd:zh0 g level line n with
  | false=>simp only[zes,Bool.false_and,qF,if_false]; exact ⟨ih1,by simp⟩
  | true =>
   cases op with
   | false =>
    simp only[zes,Bool.and_false,qF,if_false,if_true]
    have hnew:∀ j,n≤j→j<n+1→InL nh nw level line j∧zh0 g level line j=true:=by
     intro j h1 h2
     obtain rfl:j=n:=by omega
     exact ⟨hin _ (by omega),hd⟩
    refine ⟨fun w hw=>?_,fun _=>⟨ws',n,1,rfl,rfl,qR _,hnew⟩⟩
    rcases List.mem_append.1 hw with h | h
    ·exact ih1 w h
    rw [List.mem_singleton]at h; subst h
    exact ⟨line,n,1,rfl,qR _,hnew⟩
   | true =>
    obtain ⟨ws0,fr,long,e,h1,h2,h3⟩:=ih2 rfl
    subst e
    have hnew:∀ j,fr≤j→j<fr+(long+1)→InL nh nw level line j∧zh0 g level line j=true:=by
     intro j a b
     by_cases hj:j=n
     ·subst hj; exact ⟨hin _ (by omega),hd⟩
     exact h3 j a (by omega)
    simp only[zes,Bool.and_self,if_true,List.dropLast_concat,List.getLast?_concat,qO,Option.toList_some]
    refine ⟨fun w hw=>?_,fun _=>⟨ws0,fr,long+1,rfl,by omega,by omega,hnew⟩⟩
    rcases List.mem_append.1 hw with h | h
    ·exact ih1 w (List.mem_append_left _ h)
    rw [List.mem_singleton]at h; subst h
    exact ⟨line,fr,long+1,rfl,by omega,hnew⟩
theorem zoc {g:List (List Int)} {nh nw:Nat} {level:Bool} {lines places:Nat} (hin:∀ l j,1≤l→l<lines→j<places→InL nh nw level l j) {ws:List Wall} (hws:∀ w∈ws,zr9 g nh nw w):∀ line,line≤lines →
  ∀ w∈zca g level places ws line,zr9 g nh nw w
 | 0,_=>by simpa [zca] using hws
 | line+1,hl=>by
  have ih:=zoc hin hws line (by omega)
  by_cases h:1≤line
  ·rw [zer h]
   exact (zz7 (fun j hj=>hin line j h (by omega) hj) ih places (qR _)).1
  have:line=0:=by omega
  subst this
  simpa [zca] using hws
theorem zdp {g:List (List Int)} {nh nw:Nat}:∀ w∈zau g nh nw,zr9 g nh nw w :=
 zoc (lines:=nh) (fun l j h1 h2 h3=>⟨h1,by simp; omega⟩) (zoc (lines:=nw) (fun l j h1 h2 h3=>⟨h1,by simp; omega⟩) (by simp) nw (qR _)) nh (qR _)
def z0b (g:List (List Int)) (nh nw n:Nat):Prop:=∀ i j,i<nh→j<nw→0≤gz g i j∧gz g i j<n
theorem zr3 {g:List (List Int)} {nh nw n:Nat} (h:z0b g nh nw n) {level:Bool} {line j:Nat} (hi:InL nh nw level line j) :
  0≤(zbx g level line j).1∧(zbx g level line j).1<n∧0≤(zbx g level line j).2∧(zbx g level line j).2<n:=by
 obtain ⟨h1,h2⟩:=hi
 cases level with
 | true=>simp only[if_true]at h2; have a:=h (line - 1) j (by omega) h2.2; have b:=h line j h2.1 h2.2; simp only[zbx,if_true]; omega
 | false=>simp only[qF,if_false]at h2; have a:=h j (line - 1) h2.2 (by omega); have b:=h j line h2.2 h2.1; simp only[zbx,qF,if_false]; omega
theorem z76 {l:List Int} {x:Int} (h:x∈ddp l):x∈l:=by
 unfold ddp at h
 have:∀ (l m:List Int),x∈l.foldl zsm m→x∈m∨x∈l:=by
  intro l
  induction l with
  | nil=>intro m h; exact .inl h
  | cons a l ih =>
   intro m h
   rcases ih _ h with h | h
   ·rcases yee h with h | h
    ·exact .inl h
    exact .inr (by simp [h])
   exact .inr (by simp [h])
 rcases this l [] h with h | h
 ·simp at h
 exact h
theorem zg0 {g:List (List Int)} {nh nw n:Nat} (h:z0b g nh nw n) {w:Wall} (hw:zr9 g nh nw w):(∀ x∈(zbl g w).1,0≤x∧x<n)∧(∀ x∈(zbl g w).2,0≤x∧x<n):=by
 obtain ⟨line,fr,long,e,h1,h2⟩:=hw
 have e1:w.line.toNat=line:=by rw [e]; simp
 have e2:w.fr.toNat=fr:=by rw [e]; simp
 have e3:w.long.toNat=long:=by rw [e]; simp
 simp only[zbl,e1,e2,e3]
 refine ⟨fun x hx=>?_,fun x hx=>?_⟩
 ·have:=z76 hx
  simp only[zbv,List.mem_map,List.mem_range]at this
  obtain ⟨j,hj,rfl⟩:=this
  have:=zr3 h (h2 (fr+j) (by omega) (by omega)).1
  omega
 have:=z76 hx
 simp only[zbv,List.mem_map,List.mem_range]at this
 obtain ⟨j,hj,rfl⟩:=this
 have:=zr3 h (h2 (fr+j) (by omega) (by omega)).1
 omega
theorem z1y {g:List (List Int)} {nh nw:Nat} (hg:GW g nh nw) {w:Wall} (hw:zr9 g nh nw w):(zbl g w).1.length≤6∧(zbl g w).2.length≤6:=by
 obtain ⟨line,fr,long,e,h1,h2⟩:=hw
 have hgg:=hg.2.2
 have hb:fr+long≤6:=by
  have h:=(h2 (fr+long - 1) (by omega) (by omega)).1.2
  cases hl:w.level <;> rw [hl]at h <;> simp at h <;> omega
 have e3:w.long.toNat=long:=by rw [e]; simp
 have h3:=zng (g:=g) (level:=w.level) (line:=w.line.toNat) (fr:=w.fr.toNat) (n:=long)
 simp only[zbl,e3]
 exact ⟨Nat.le_trans (z75 _) (by omega),Nat.le_trans (z75 _) (by omega)⟩
theorem Sq.relB {n:Nat} {a:Int} (ha:a.toNat<n):∀ {bs:List Int} {M:List (List Bool)},Sq n M→Sq n (relB a bs M)
 | [],M,h=>h
 | b::bs,M,h=>by
  show Sq n (Fw.relB a bs (z6m M a.toNat b.toNat true))
  exact Sq.relB ha (h.set ha)
theorem Sq.relW {n:Nat} {bs:List Int}:∀ {la:List Int} {M:List (List Bool)},(∀ a∈la,a.toNat<n)→Sq n M→Sq n (relW M la bs)
 | [],M,_,h=>h
 | a::la,M,ha,h=>by
  show Sq n (Fw.relW (Fw.relB a bs M) la bs)
  exact Sq.relW (fun x hx=>ha x (by simp [hx])) (h.relB (ha a (by simp)))
theorem yh9 {g:List (List Int)} {nh nw n:Nat} (h:z0b g nh nw n) {w:Wall} (hw:zr9 g nh nw w) {M:List (List Bool) × List (List Bool)} (h1:Sq n M.1) (h2:Sq n M.2):Sq n (zpk g M w).1∧Sq n (zpk g M w).2:=by
 have hs:=(zg0 h hw).1
 unfold zpk
 split
 ·exact ⟨h1,h2.relW fun a ha=>by have:=hs a ha; omega⟩
 exact ⟨h1.relW fun a ha=>by have:=hs a ha; omega,h2⟩
theorem zvj {g:List (List Int)} {nh nw n:Nat} (h:z0b g nh nw n):∀ {ws:List Wall},(∀ w∈ws,zr9 g nh nw w)→∀ {M:List (List Bool) × List (List Bool)},Sq n M.1→Sq n M.2→Sq n (ws.foldl (zpk g) M).1∧Sq n (ws.foldl (zpk g) M).2
 | [],_,M,h1,h2=>⟨h1,h2⟩
 | w::ws,hw,M,h1,h2=>by
  obtain ⟨k1,k2⟩:=yh9 h (hw w (by simp)) h1 h2
  exact zvj h (ws:=ws) (fun x hx=>hw x (by simp [hx])) k1 k2
theorem z6e {F R:List Ob} {k t:Nat} {M:List (List Bool)} {n:Nat} (hk:F.length=k) (h:M.length=n):(F++(zbu k t M++R))[k]?=some (.arr t 124 1 ((List.range n).map fun i => .loc (k+1+i) t 0 n)):=by subst hk; exact z65 h
theorem z6f {F R:List Ob} {k t a:Nat} {M:List (List Bool)} {row:List Bool} (hk:F.length=k) (h:M[a]?=some row):(F++(zbu k t M++R))[k+1+a]?=some (.arr t 4 1 (row.map .bool)):=by subst hk; exact zy9 h
theorem zn3 {F R:List Ob} {k t a:Nat} {M:List (List Bool)} {row:List Bool} {n:Nat} (hk:F.length=k) (hn:M.length=n) (h:a<n):(F++(zbu k t M++R)).set (k+1+a) (.arr t 4 1 (row.map .bool))=F++(zbu k t (M.set a row)++R):=by subst hk; exact zmv hn h
structure Lay (n:Nat) where
 f:Ob→Ob→List Ob→List (List Bool)→List (List Bool)→List Ob
 pL:Nat
 vL:Nat
 pA:Nat
 vA:Nat
 p3:Nat
 v3:Nat
 appR:∀ {o2:Ob} {o3:Ob} {R:List Ob} {L:List (List Bool)} {A:List (List Bool)},f o2 o3 R L A=f o2 o3 [] L A++R
 len0:∀ {o2:Ob} {o3:Ob} {L:List (List Bool)} {A:List (List Bool)},L.length=n→A.length=n→(f o2 o3 [] L A).length=2*n+4
 get0:∀ {o2:Ob} {o3:Ob} {R:List Ob} {L:List (List Bool)} {A:List (List Bool)},(f o2 o3 R L A)[0]?=some o2
 set0:∀ {o2:Ob} {o3:Ob} {R:List Ob} {L:List (List Bool)} {A:List (List Bool)} {o:Ob},(f o2 o3 R L A).set 0 o=f o o3 R L A
 get3:∀ {o2:Ob} {o3:Ob} {R:List Ob} {L:List (List Bool)} {A:List (List Bool)},L.length=n→A.length=n→(f o2 o3 R L A)[p3]?=some o3
 getL:∀ {o2:Ob} {o3:Ob} {R:List Ob} {L:List (List Bool)} {A:List (List Bool)},L.length=n→(f o2 o3 R L A)[pL]?=some (.arr vL 124 1 ((List.range n).map fun i => .loc (pL+1+i) vL 0 n))
 getLr:∀ {o2:Ob} {o3:Ob} {R:List Ob} {L:List (List Bool)} {A:List (List Bool)} {a:Nat} {row:List Bool},L[a]?=some row→(f o2 o3 R L A)[pL+1+a]?=some (.arr vL 4 1 (row.map .bool))
 setL:∀ {o2:Ob} {o3:Ob} {R:List Ob} {L:List (List Bool)} {A:List (List Bool)} {a:Nat} {row:List Bool},L.length=n→a<n→(f o2 o3 R L A).set (pL+1+a) (.arr vL 4 1 (row.map .bool))=f o2 o3 R (L.set a row) A
 getA:∀ {o2:Ob} {o3:Ob} {R:List Ob} {L:List (List Bool)} {A:List (List Bool)},L.length=n→A.length=n→(f o2 o3 R L A)[pA]?=some (.arr vA 124 1 ((List.range n).map fun i => .loc (pA+1+i) vA 0 n))
 getAr:∀ {o2:Ob} {o3:Ob} {R:List Ob} {L:List (List Bool)} {A:List (List Bool)} {a:Nat} {row:List Bool},L.length=n→A[a]?=some row→(f o2 o3 R L A)[pA+1+a]?=some (.arr vA 4 1 (row.map .bool))
 setA:∀ {o2:Ob} {o3:Ob} {R:List Ob} {L:List (List Bool)} {A:List (List Bool)} {a:Nat} {row:List Bool},L.length=n→A.length=n→a<n→(f o2 o3 R L A).set (pA+1+a) (.arr vA 4 1 (row.map .bool))=f o2 o3 R L (A.set a row)
 splL:∀ {o2:Ob} {o3:Ob} {R:List Ob} {L:List (List Bool)} {A:List (List Bool)},∃ F R',pL=F.length∧∀ L':List (List Bool),L'.length=L.length→f o2 o3 R L' A=F++(zbu F.length vL L'++R')
 splA:∀ {o2:Ob} {o3:Ob} {R:List Ob} {L:List (List Bool)} {A:List (List Bool)},L.length=n→∃ F R',pA=F.length∧∀ A':List (List Bool),A'.length=A.length→f o2 o3 R L A'=F++(zbu F.length vA A'++R')
section
variable {n:Nat} (Y:Lay n) {o2 o3:Ob} {R:List Ob} {a t:Nat} {L A:List (List Bool)} {w w':Ob}
theorem Lay.app:Y.f o2 o3 R L A++[w]=Y.f o2 o3 (R++[w]) L A:=by rw [Y.appR,Y.appR (R:=R++[w])]; simp
theorem Lay.len (hl:L.length=n) (h:A.length=n):(Y.f o2 o3 R L A).length=2*n+4+R.length:=by rw [Y.appR,List.length_append,Y.len0 hl h]
theorem Lay.get4 (hl:L.length=n) (h:A.length=n):(Y.f o2 o3 (w::R) L A)[2*n+4]?=some w:=by
 rw [Y.appR,List.getElem?_append_right (by rw [Y.len0 hl h]; exact qR _),Y.len0 hl h]; simp
theorem Lay.set4 (hl:L.length=n) (h:A.length=n):(Y.f o2 o3 (w::R) L A).set (2*n+4) w'=Y.f o2 o3 (w'::R) L A:=by
 rw [Y.appR,List.set_append_right _ _ (by rw [Y.len0 hl h]; exact qR _),Y.len0 hl h,Y.appR (R:=w'::R)]; simp
theorem Lay.take (hl:L.length=n) (h:A.length=n):Store.take ⟨Y.f o2 o3 R L A,t⟩ (2*n+4)=⟨Y.f o2 o3 [] L A,t⟩:=by
 simp only[Store.take]
 rw [Y.appR,List.take_append_of_le_length (by rw [Y.len0 hl h]; exact qR _),qT (by rw [Y.len0 hl h]; exact qR _)]
end
def yle (n:Nat):Lay n where
 f o2 o3 R L A:=[o2]++(zbu 1 1 L++(zbu (n+2) 2 A++o3::R))
 pL:=1
 vL:=1
 pA:=n+2
 vA:=2
 p3:=2*n+3
 v3:=3
 appR:=by intros; simp
 len0:=by intros o2 o3 L A h1 h2; simp [zaq]; omega
 get0:=rfl
 set0:=rfl
 get3:=by
  intros o2 o3 R L A h1 h2
  rw [List.getElem?_append_right (by simp),List.getElem?_append_right (by simp [zaq]; omega),List.getElem?_append_right (by simp [zaq]; omega)]
  rw [zaq,zaq,show 2*n+3 - [o2].length - (L.length+1) - (A.length+1)=0 by simp; omega]; rfl
 getL:=fun h=>z6e rfl h
 getLr:=fun h=>z6f rfl h
 setL:=fun h1 h2=>zn3 rfl h1 h2
 getA:=by intros o2 o3 R L A h1 h2; rw [← List.append_assoc]; exact z6e (by simp [zaq]; omega) h2
 getAr:=by intros o2 o3 R L A a row h1 h2; rw [← List.append_assoc]; exact z6f (by simp [zaq]; omega) h2
 setA:=by intros o2 o3 R L A a row h1 h2 h3; rw [← List.append_assoc,zn3 (by simp [zaq]; omega) h2 h3,List.append_assoc]
 splL:=by intros o2 o3 R L A; exact ⟨[o2],_,rfl,fun _ _=>rfl⟩
 splA:=by intros o2 o3 R L A h; exact ⟨[o2]++zbu 1 1 L,o3::R,by simp [zaq]; omega,fun A' _=>by rw [show ([o2]++zbu 1 1 L).length=n+2 by simp [zaq]; omega,List.append_assoc]⟩
def yld (n:Nat):Lay n where
 f o2 o3 R L A:=[o2]++(zbu 1 1 L++(o3::(zbu (n+3) 3 A++R)))
 pL:=1
 vL:=1
 pA:=n+3
 vA:=3
 p3:=n+2
 v3:=2
 appR:=by intros; simp
 len0:=by intros o2 o3 L A h1 h2; simp [zaq]; omega
 get0:=rfl
 set0:=rfl
 get3:=by
  intros o2 o3 R L A h1 h2
  rw [List.getElem?_append_right (by simp),List.getElem?_append_right (by simp [zaq]; omega)]
  rw [zaq,show n+2 - [o2].length - (L.length+1)=0 by simp; omega]; rfl
 getL:=fun h=>z6e rfl h
 getLr:=fun h=>z6f rfl h
 setL:=fun h1 h2=>zn3 rfl h1 h2
 getA:=by intros o2 o3 R L A h1 h2; rw [show [o2]++(zbu 1 1 L++(o3::(zbu (n+3) 3 A++R)))=([o2]++zbu 1 1 L++[o3])++(zbu (n+3) 3 A++R) by simp]; exact z6e (by simp [zaq]; omega) h2
 getAr:=by intros o2 o3 R L A a row h1 h2; rw [show [o2]++(zbu 1 1 L++(o3::(zbu (n+3) 3 A++R)))=([o2]++zbu 1 1 L++[o3])++(zbu (n+3) 3 A++R) by simp]; exact z6f (by simp [zaq]; omega) h2
 setA:=by intros o2 o3 R L A a row h1 h2 h3; rw [show [o2]++(zbu 1 1 L++(o3::(zbu (n+3) 3 A++R)))=([o2]++zbu 1 1 L++[o3])++(zbu (n+3) 3 A++R) by simp,zn3 (by simp [zaq]; omega) h2 h3]; simp
 splL:=by intros o2 o3 R L A; exact ⟨[o2],_,rfl,fun _ _=>rfl⟩
 splA:=by intros o2 o3 R L A h; exact ⟨[o2]++zbu 1 1 L++[o3],R,by simp [zaq]; omega,fun A' _=>by rw [show ([o2]++zbu 1 1 L++[o3]).length=n+3 by simp [zaq]; omega]; simp⟩
def ylc (n:Nat):Lay n where
 f o2 o3 R L A:=[o2,o3]++(zbu 2 2 L++(zbu (n+3) 3 A++R))
 pL:=2
 vL:=2
 pA:=n+3
 vA:=3
 p3:=1
 v3:=1
 appR:=by intros; simp
 len0:=by intros o2 o3 L A h1 h2; simp [zaq]; omega
 get0:=rfl
 set0:=rfl
 get3:=fun _ _=>rfl
 getL:=fun h=>z6e rfl h
 getLr:=fun h=>z6f rfl h
 setL:=fun h1 h2=>zn3 rfl h1 h2
 getA:=by intros o2 o3 R L A h1 h2; rw [← List.append_assoc]; exact z6e (by simp [zaq]; omega) h2
 getAr:=by intros o2 o3 R L A a row h1 h2; rw [← List.append_assoc]; exact z6f (by simp [zaq]; omega) h2
 setA:=by intros o2 o3 R L A a row h1 h2 h3; rw [← List.append_assoc,zn3 (by simp [zaq]; omega) h2 h3,List.append_assoc]
 splL:=by intros o2 o3 R L A; exact ⟨[o2,o3],_,rfl,fun _ _=>rfl⟩
 splA:=by intros o2 o3 R L A h; exact ⟨[o2,o3]++zbu 2 2 L,R,by simp [zaq]; omega,fun A' _=>by rw [show ([o2,o3]++zbu 2 2 L).length=n+3 by simp [zaq]; omega,List.append_assoc]⟩
def yem (lv:Bool) (M:List (List Bool) × List (List Bool)) (X:List (List Bool)):List (List Bool) × List (List Bool):=if lv then (M.1,X) else (X,M.2)
def zp7 (lv:Bool) (M:List (List Bool) × List (List Bool)):List (List Bool):=if lv then M.2 else M.1
theorem ybd {lv:Bool} {M:List (List Bool) × List (List Bool)}:yem lv M (zp7 lv M)=M:=by cases lv <;> rfl
theorem ycv {n:Nat} {lv:Bool} {M:List (List Bool) × List (List Bool)} (h1:Sq n M.1) (h2:Sq n M.2):Sq n (zp7 lv M):=by cases lv <;> simp [zp7,h1,h2]
theorem yd6 {g:List (List Int)} {M:List (List Bool) × List (List Bool)} {w:Wall}:zpk g M w=yem w.level M (relW (zp7 w.level M) (zbl g w).1 (zbl g w).2):=by
 unfold zpk yem zp7; cases w.level <;> rfl
theorem yil {M:List (List Bool)} {la bs:List Int} {x:Nat} {a:Int} (h:la[x]?=some a):relW M (la.take (x+1)) bs=relB a bs (relW M (la.take x) bs):=zgc h
theorem yau {M:List (List Bool)} {bs:List Int} {y:Nat} {a b:Int} (h:bs[y]?=some b):relB a (bs.take (y+1)) M=z6m (relB a (bs.take y) M) a.toNat b.toNat true:=zgc h
theorem z6b {S:Store} {im:Bool} {k:Nat} {a b a2 b2:PV} (h1:reify S im k a=some a2) (h2:reify S im k b=some b2):reify S im (k+1) (.agg [a,b])=some (.agg [a2,b2]):=by
 simp [reify,h1,h2]
theorem zjc {nr:Nat} {x:Ob} {B:List Ob}:(zbu 1 1 (zcb nr)++[x]++B)[nr+1]?=some x:=by
 have:(zbu 1 1 (zcb nr)).length=nr+1:=by simp [zaq,zcb]
 rw [List.append_assoc,List.getElem?_append_right (by omega),this]; simp
theorem zjl {nr:Nat} {x y:Ob} {B:List Ob}:(zbu 1 1 (zcb nr)++[x]++B).set (nr+1) y=zbu 1 1 (zcb nr)++[y]++B:=by
 have:(zbu 1 1 (zcb nr)).length=nr+1:=by simp [zaq,zcb]
 rw [List.append_assoc,List.set_append_right _ _ (by omega),this]; simp
theorem zk0 {P:Program} {T:Tab} {e:Env} {S:Store} {ds pd:List (Option Tmp)} {t d:Nat} {o:Oper} {r l2:List Oper} {K:Env→Store→Prop} (hp:pd.contains o.dst=false) (h:zdz o.op=true)
  (k:zbq false P T ds [o] e S fun e S=>zkg P T ds pd t d l2 r e S K):zkg P T ds pd t d l2 (o::r) e S K:=(z5i hp h).symm ▸ k
theorem zu0 {l:List Ob} {a:Ob}:(l++[a])[l.length]?=some a:=by simp
theorem zfs {l:List Ob} {a b:Ob}:(l++[a]).set l.length b=l++[b]:=by simp
theorem zbt {n:Nat}:(zcb n).length=n:=by simp [zcb]
end
theorem z7s {nr tk:Nat} (Y:Lay nr) {o2 o3:Ob} {R:List Ob} {L A:List (List Bool)} (hL:Sq nr L) (hn:nr≤9) :
  Ev Tryz.prog 104 [.loc Y.pL Y.vL 0 nr] ⟨Y.f o2 o3 R L A,tk⟩ fun v S=>v = .tup []∧S=⟨Y.f o2 o3 R (zgg L) A,tk⟩:=by
 obtain ⟨F,R',hp,hF⟩:=Y.splL (o2:=o2) (o3:=o3) (R:=R) (L:=L) (A:=A)
 rw [hp,hF L rfl,hF (zgg L) (by rw [hL.1,hL.close.1])]
 exact z2p hL hn
theorem z7r {nr tk:Nat} (Y:Lay nr) {o2 o3:Ob} {R:List Ob} {L A:List (List Bool)} (hL:L.length=nr) (hA:Sq nr A) (hn:nr≤9) :
  Ev Tryz.prog 104 [.loc Y.pA Y.vA 0 nr] ⟨Y.f o2 o3 R L A,tk⟩ fun v S=>v = .tup []∧S=⟨Y.f o2 o3 R L (zgg A),tk⟩:=by
 obtain ⟨F,R',hp,hF⟩:=Y.splA (o2:=o2) (o3:=o3) (R:=R) (L:=L) (A:=A) hL
 rw [hp,hF A rfl,hF (zgg A) (by rw [hA.1,hA.close.1])]
 exact z2p hA hn
theorem z91 {g:List (List Int)} {nh nw nr:Nat} (hg:GW g nh nw) {rs:List Rect} (hr:rs.length=nr) (hn:nr≤9) (hrm:z0b g nh nw nr):PC Tryz.prog 76 [zar g rs] (.agg [zhn (z1f g nh nw nr),zhn (zp1 g nh nw nr)]) true:=by
 have hwsl:=zwl (g:=g) (nh:=nh) (nw:=nw) (i:=2) hg.2.2.2.1 hg.2.2.2.2.2
 rw [show wsI g nh nw 2=zau g nh nw from rfl]at hwsl
 refine PC.of ⟨Tryz.func76,by kernel_rfl,rfl,by kernel_rfl⟩ zav mixed (by show 1≤Tryz.f76.ntmps; decide) ?_
 refine W.r fun K hK=>?_
 simp(disch:=omega)only[↓RU,RW,↓reduceIte,qE,reduceCtorEq,iP,↓RS,RG,qA,qM,qL,ty0,ty2,zad,zg1,ze6,zg2]
 apply hK;clear hK K
 refine W.join [0,2,3] (fun vs S=>∃ (Y:Lay nr) (tk:Nat),vs=[zar g rs,.ref 0 0 0,.ref Y.p3 Y.v3 0]∧S=⟨Y.f (.arr 0 67 2 [.nils,.nils]) (.arr Y.v3 67 2 [.loc Y.pL Y.vL 0 nr,.loc Y.pA Y.vA 0 nr]) [] (zcb nr) (zcb nr),tk⟩) ?_ ?_
 ·
  refine W.region_mk (r1:=[_,_,_,_,_,_,_,_,_,_,_,_,_]) (r2:=[_]) 13 67 3 [0,1,2,3,4,6,7,8,9,10,5,11,12] [14] [7,8,9,10] [some 20,some 21,some 22,some 23] (by kernel_rfl) (by kernel_rfl) (by kernel_rfl) rfl rfl fun K hK=>?_
  refine zk0 rfl rfl ?_
  simp(disch:=omega)only[↓RU,RW,↓reduceIte,qE,reduceCtorEq,iP,qN,↓RS,RG,qA,qM,qL,ty0,ty1,ty2,ty3,zab,zad,zeo,zcl,zg1,za7,ze6,zaa,zep,zg2,za8,hr,zgn,zaq,zbt,zu0,zfs,zjc,zjl]
  refine zk0 rfl rfl ?_
  simp(disch:=omega)only[↓RU,RW,↓reduceIte,qE,reduceCtorEq,iP,qN,↓RS,RG,qA,qM,qL,ty0,ty1,ty2,ty3,zab,zad,zeo,zcl,zg1,za7,ze6,zaa,zep,zg2,za8,hr,zgn,zaq,zbt,zu0,zfs,zjc,zjl]
  refine zk0 rfl rfl ?_
  simp(disch:=omega)only[↓RU,RW,↓reduceIte,qE,reduceCtorEq,iP,qN,↓RS,RG,qA,qM,qL,ty0,ty1,ty2,ty3,zab,zad,zeo,zcl,zg1,za7,ze6,zaa,zep,zg2,za8,hr,zgn,zaq,zbt,zu0,zfs,zjc,zjl]
  refine zk0 rfl rfl ?_
  simp(disch:=omega)only[↓RU,RW,↓reduceIte,qE,reduceCtorEq,iP,qN,↓RS,RG,qA,qM,qL,ty0,ty1,ty2,ty3,zab,zad,zeo,zcl,zg1,za7,ze6,zaa,zep,zg2,za8,hr,zgn,zaq,zbt,zu0,zfs,zjc,zjl]
  refine zk0 rfl rfl ?_
  simp(disch:=omega)only[↓RU,RW,↓reduceIte,qE,reduceCtorEq,iP,qN,↓RS,RG,qA,qM,qL,ty0,ty1,ty2,ty3,zab,zad,zeo,zcl,zg1,za7,ze6,zaa,zep,zg2,za8,hr,zgn,zaq,zbt,zu0,zfs,zjc,zjl]
  refine zk0 rfl rfl ?_
  simp(disch:=omega)only[↓RU,RW,↓reduceIte,qE,reduceCtorEq,iP,qN,↓RS,RG,qA,qM,qL,ty0,ty1,ty2,ty3,zab,zad,zeo,zcl,zg1,za7,ze6,zaa,zep,zg2,za8,hr,zgn,zaq,zbt,zu0,zfs,zjc,zjl]
  refine zjx rfl rfl rfl (fun S'=>rfl) ?_
  refine zjx rfl rfl rfl (fun S'=>rfl) ?_
  refine zjx rfl rfl rfl (fun S'=>rfl) ?_
  refine zjx rfl rfl rfl (fun S'=>rfl) ?_
  refine zw9 rfl (by decide) ?_ ?_
  ·simp(disch:=omega)only[↓RU,RW,↓reduceIte,qE,reduceCtorEq,iP,qN,↓RS,RG,qA,qM,qL,ty0,ty1,ty2,ty3,zab,zad,zeo,zcl,zg1,za7,ze6,zaa,zep,zg2,za8,hr,zgn,zaq,zbt,zu0,zfs,zjc,zjl]
   refine zac.pn (zg8 hn) rfl (.inl rfl) ?_
   simp(disch:=omega)only[↓RU,RW,↓reduceIte,qE,reduceCtorEq,iP,qN,↓RS,RG,qA,qM,qL,ty0,ty1,ty2,ty3,zab,zad,zeo,zcl,zg1,za7,ze6,zaa,zep,zg2,za8,hr,zgn,zaq,zbt,zu0,zfs,zjc,zjl,RN]
   refine zac.pn (zg8 hn) rfl (.inl rfl) ?_
   simp(disch:=omega)only[↓RU,RW,↓reduceIte,qE,reduceCtorEq,iP,qN,↓RS,RG,qA,qM,qL,ty0,ty1,ty2,ty3,zab,zad,zeo,zcl,zg1,za7,ze6,zaa,zep,zg2,za8,hr,zgn,zaq,zbt,zu0,zfs,zjc,zjl,RN]
   apply hK;clear hK K
   refine xn ?_
   refine ⟨_,ylc nr,4,?_,za2 ?_⟩
   ·simp [Env.put,Env.of,zai,ylc,zaq,zbt]; try omega
   simp [ylc,zaq,zbt]
  simp(disch:=omega)only[↓RU,RW,↓reduceIte,qE,reduceCtorEq,iP,qN,↓RS,RG,qA,qM,qL,ty0,ty1,ty2,ty3,zab,zad,zeo,zcl,zg1,za7,ze6,zaa,zep,zg2,za8,hr,zgn,zaq,zbt,zu0,zfs,zjc,zjl]
  refine zac.pn (zg8 hn) rfl (.inl rfl) ?_
  simp(disch:=omega)only[↓RU,RW,↓reduceIte,qE,reduceCtorEq,iP,qN,↓RS,RG,qA,qM,qL,ty0,ty1,ty2,ty3,zab,zad,zeo,zcl,zg1,za7,ze6,zaa,zep,zg2,za8,hr,zgn,zaq,zbt,zu0,zfs,zjc,zjl,RN]
  refine zw9 rfl (by decide) ?_ ?_
  ·simp(disch:=omega)only[↓RU,RW,↓reduceIte,qE,reduceCtorEq,iP,qN,↓RS,RG,qA,qM,qL,ty0,ty1,ty2,ty3,zab,zad,zeo,zcl,zg1,za7,ze6,zaa,zep,zg2,za8,hr,zgn,zaq,zbt,zu0,zfs,zjc,zjl]
   refine zac.pn (zg8 hn) rfl (.inl rfl) ?_
   simp(disch:=omega)only[↓RU,RW,↓reduceIte,qE,reduceCtorEq,iP,qN,↓RS,RG,qA,qM,qL,ty0,ty1,ty2,ty3,zab,zad,zeo,zcl,zg1,za7,ze6,zaa,zep,zg2,za8,hr,zgn,zaq,zbt,zu0,zfs,zjc,zjl,RN]
   apply hK;clear hK K
   refine xn ?_
   refine ⟨_,yld nr,4,?_,za2 ?_⟩
   ·simp [Env.put,Env.of,zai,yld,zaq,zbt]; try omega
   simp [yld,zaq,zbt]
  simp(disch:=omega)only[↓RU,RW,↓reduceIte,qE,reduceCtorEq,iP,qN,↓RS,RG,qA,qM,qL,ty0,ty1,ty2,ty3,zab,zad,zeo,zcl,zg1,za7,ze6,zaa,zep,zg2,za8,hr,zgn,zaq,zbt,zu0,zfs,zjc,zjl]
  refine zac.pn (zg8 hn) rfl (.inl rfl) ?_
  simp(disch:=omega)only[↓RU,RW,↓reduceIte,qE,reduceCtorEq,iP,qN,↓RS,RG,qA,qM,qL,ty0,ty1,ty2,ty3,zab,zad,zeo,zcl,zg1,za7,ze6,zaa,zep,zg2,za8,hr,zgn,zaq,zbt,zu0,zfs,zjc,zjl,RN]
  refine zk0 rfl rfl ?_
  simp(disch:=omega)only[↓RU,RW,↓reduceIte,qE,reduceCtorEq,iP,qN,↓RS,RG,qA,qM,qL,ty0,ty1,ty2,ty3,zab,zad,zeo,zcl,zg1,za7,ze6,zaa,zep,zg2,za8,hr,zgn,zaq,zbt,zu0,zfs,zjc,zjl,RN]
  refine ⟨by decide,?_⟩
  simp(disch:=omega)only[↓RU,RW,↓reduceIte,qE,reduceCtorEq,iP,qN,↓RS,RG,qA,qM,qL,ty0,ty1,ty2,ty3,zab,zad,zeo,zcl,zg1,za7,ze6,zaa,zep,zg2,za8,hr,zgn,zaq,zbt,zu0,zfs,zjc,zjl,RN]
  apply hK;clear hK K
  refine xn ?_
  refine ⟨_,yle nr,4,?_,za2 ?_⟩
  ·simp [Env.put,Env.of,zai,yle,zaq,zbt]; try omega
  simp [yle,zaq,zbt]
 rintro vs S - ⟨Y,tk,rfl,rfl⟩
 refine W.seq ?_
 refine W.r fun K hK=>?_
 simp(disch:=omega)only[↓RU,RW,↓reduceIte,qE,reduceCtorEq,iP,qN,↓RS,RG,qA,qM,qL,ty4,zad,zi2,zaa,zi3,zu0,zfs]
 refine zac.pc (zwh hg rs) rfl (.inl rfl) ?_
 simp(disch:=omega)only[↓RU,RW,↓reduceIte,qE,reduceCtorEq,iP,qN,↓RS,RG,qA,qM,qL,ty4,zad,zi2,zaa,zi3,zu0,zfs]
 apply hK;clear hK K
 refine W.block ?_
 refine W.loop [0,2,3,27,28,29] (fun n vs S=>∃ i tk:Nat,n=(zau g nh nw).length - i∧i≤(zau g nh nw).length∧vs=[zar g rs,.ref 0 0 0,.ref Y.p3 Y.v3 0,zho (zau g nh nw),.int .i64 (zau g nh nw).length,.int .i64 i]∧S=⟨Y.f (.arr 0 67 2 [.nils,.nils]) (.arr Y.v3 67 2 [.loc Y.pL Y.vL 0 nr,.loc Y.pA Y.vA 0 nr]) [] (((zau g nh nw).take i).foldl (zpk g) (zcb nr,zcb nr)).1 (((zau g nh nw).take i).foldl (zpk g) (zcb nr,zcb nr)).2,tk⟩) (zau g nh nw).length ?_ ?_
 ·refine ⟨_,0,tk,rfl,by omega,?_,za2 rfl⟩
  simp [Env.put,Env.of,zai]
 rintro n vs S - ⟨i,tk,rfl,h_i,rfl,rfl⟩
 refine W.r fun K hK=>?_
 simp(disch:=omega)only[↓RU,RW,↓reduceIte,qE,reduceCtorEq,iP,w64,↓RS,RG,qA,qM,qL,zaa]
 apply hK;clear hK K
 refine W.seq ?_
 refine W.cond rfl (fun h=>?_) (fun h=>?_)
 ·try simp only[RL]at h
  obtain ⟨w,hw,hwm⟩:=zaj (show i<(zau g nh nw).length by omega)
  obtain ⟨hL,hA⟩:=zvj hrm (ws:=(zau g nh nw).take i) (fun w hw=>zdp w (List.mem_of_mem_take hw)) (M:=(zcb nr,zcb nr)) (ze4 nr) (ze4 nr)
  generalize hMe:(((zau g nh nw).take i).foldl (zpk g) (zcb nr,zcb nr))=M at hL hA
  obtain ⟨ln,fr,lg,hwe,hlg,hin⟩:=zdp w hwm
  obtain ⟨lv,wl,wf,wg⟩:=w
  simp only[Wall.mk.injEq,true_and]at hwe hin
  obtain ⟨rfl,rfl,rfl⟩:=hwe
  have hsr:=zg0 hrm (zdp _ hwm)
  obtain ⟨hLl,-⟩:=id hL
  obtain ⟨hAl,-⟩:=id hA
  refine W.skip ?_
  refine xn ?_
  refine W.seq ?_
  refine W.block ?_
  refine W.r fun K hK=>?_
  simp(disch:=omega)only[↓RU,RW,↓reduceIte,qE,reduceCtorEq,iP,↓RS,RG,qA,qM,qL,ty4,zad,zi2,zaa,zi3,hMe,hw,yce hw,zfz,Y.app,Y.len hLl hAl,Y.get4 hLl hAl,Y.set4 hLl hAl,Wall.cells]
  apply hK;clear hK K
  refine W.r fun K hK=>?_
  simp(disch:=omega)only[↓RU,RW,↓reduceIte,qE,reduceCtorEq,iP,↓RS,RG,qA,qM,qL,ty0,ty2,zad,zg1,ze6,zg2,Y.get3 hLl hAl]
  apply hK;clear hK K
  refine W.join [0,2,3,27,28,29,5,6] (fun vs S=>vs=[zar g rs,.ref 0 0 0,.ref Y.p3 Y.v3 0,zho (zau g nh nw),.int .i64 (zau g nh nw).length,.int .i64 i,.ref (2*nr+4) tk 0,(if lv then .loc Y.pA Y.vA 0 nr else .loc Y.pL Y.vL 0 nr)]∧S=⟨Y.f (.arr 0 67 2 [.nils,.nils]) (.arr Y.v3 67 2 [.loc Y.pL Y.vL 0 nr,.loc Y.pA Y.vA 0 nr]) [.arr tk 94 4 [.bool lv,.int .i64 ln,.int .i64 fr,.int .i64 lg]] M.1 M.2,tk+1⟩) ?_ ?_
  ·
   refine W.r fun K hK=>?_
   simp(disch:=omega)only[↓RU,RW,↓reduceIte,qE,reduceCtorEq,iP,↓RS,RG,qA,qM,qL,zad,zi2,zaa,zi3,Y.get4 hLl hAl]
   apply hK;clear hK K
   refine W.cond rfl (fun h1=>?_) (fun h1=>?_)
   ·try simp only[RL]at h1
    refine W.k fun K hK=>?_
    simp(disch:=omega)only[↓RU,RW,↓reduceIte,qE,reduceCtorEq,iP,↓RS,RG,qA,qM,qL,ty0,ty2,zad,zg1,ze6,zg2,Y.get3 hLl hAl]
    apply hK;clear hK K
    refine xn ?_
    refine ⟨_,?_,zbh⟩
    simp [Env.put,Env.of,h1]
   try simp only[RL]at h1
   refine W.skip ?_
   refine xn ?_
   refine ⟨_,?_,zbh⟩
   simp [Env.put,Env.of,h1]
  rintro vs S - ⟨rfl,rfl⟩
  refine W.r fun K hK=>?_
  simp(disch:=omega)only[↓RU,RW,↓reduceIte,qE,reduceCtorEq,iP,qN,↓RS,RG,qA,qM,qL,zad,zi2,zaa,zi3,Y.get4 hLl hAl]
  refine zac.pc (ycu hg rs hlg fun j a b=>(hin j a b).1) rfl (.inl rfl) ?_
  simp(disch:=omega)only[↓RU,RW,↓reduceIte,qE,reduceCtorEq,iP,qN,↓RS,RG,qA,qM,qL,zad,zi2,zaa,zi3,Y.get4 hLl hAl]
  apply hK;clear hK K
  have hs1:ddp (zbv g lv ln fr lg).1=(zbl g ⟨lv,ln,fr,lg⟩).1:=by simp [zbl]
  have hs2:ddp (zbv g lv ln fr lg).2=(zbl g ⟨lv,ln,fr,lg⟩).2:=by simp [zbl]
  rw [hs1,hs2]
  obtain ⟨hsr1,hsr2⟩:=hsr
  have hsl:=z1y hg (zdp _ hwm)
  generalize hasE:(zbl g ⟨lv,ln,fr,lg⟩).1=av at hsr1 hsl
  generalize hbsE:(zbl g ⟨lv,ln,fr,lg⟩).2=bv at hsr2 hsl
  refine W.r fun K hK=>?_
  simp(disch:=omega)only[↓RU,RW,↓reduceIte,qE,reduceCtorEq,iP,↓RS,RG,qA,qM,qL,zab,zaa]
  apply hK;clear hK K
  refine W.block ?_
  refine W.loop [0,2,3,27,28,29,6,8,45,46,47] (fun n vs S=>∃ x tk:Nat,n=av.length - x∧x≤av.length∧vs=[zar g rs,.ref 0 0 0,.ref Y.p3 Y.v3 0,zho (zau g nh nw),.int .i64 (zau g nh nw).length,.int .i64 i,(if lv then .loc Y.pA Y.vA 0 nr else .loc Y.pL Y.vL 0 nr),eInts bv,eInts av,.int .i64 av.length,.int .i64 x]∧S=⟨Y.f (.arr 0 67 2 [.nils,.nils]) (.arr Y.v3 67 2 [.loc Y.pL Y.vL 0 nr,.loc Y.pA Y.vA 0 nr]) [] (yem lv M (relW (zp7 lv M) (av.take x) bv)).1 (yem lv M (relW (zp7 lv M) (av.take x) bv)).2,tk⟩) av.length ?_ ?_
  ·refine ⟨2*nr+4,0,tk+1,rfl,by omega,?_,?_⟩
   ·simp [Env.put,Env.of]
   rw [Y.take hLl hAl,List.take_zero]; rw [show relW (zp7 lv M) [] bv=zp7 lv M from rfl,ybd]
  rintro n vs S - ⟨x,tk,rfl,h_x,rfl,rfl⟩
  refine W.r fun K hK=>?_
  simp(disch:=omega)only[↓RU,RW,↓reduceIte,qE,reduceCtorEq,iP,w64,↓RS,RG,qA,qM,qL,zaa]
  apply hK;clear hK K
  refine W.seq ?_
  refine W.cond rfl (fun h2=>?_) (fun h2=>?_)
  ·try simp only[RL]at h2
   obtain ⟨a,ha,ham⟩:=zaj (show x<av.length by omega)
   have hab:=hsr1 a ham
   have hX:Sq nr (relW (zp7 lv M) (av.take x) bv):=Sq.relW (fun a ha=>by have:=hsr1 a (List.mem_of_mem_take ha); omega) (ycv hL hA)
   generalize hXe:relW (zp7 lv M) (av.take x) bv=X at hX
   have hasl2:=hsl.1
   have hbsl2:=hsl.2
   refine W.skip ?_
   refine xn ?_
   refine W.seq ?_
   refine W.block ?_
   refine W.r fun K hK=>?_
   simp(disch:=omega)only[↓RU,RW,↓reduceIte,qE,reduceCtorEq,iP,↓RS,RG,qA,qM,qL,zab,zaa,ha]
   apply hK;clear hK K
   refine W.r fun K hK=>?_
   simp(disch:=omega)only[↓RU,RW,↓reduceIte,qE,reduceCtorEq,iP,↓RS,RG,qA,qM,qL,zab,zaa]
   apply hK;clear hK K
   refine W.block ?_
   refine W.loop [0,2,3,27,28,29,6,8,45,46,47,10,51,52,53] (fun n vs S=>∃ y tk:Nat,n=bv.length - y∧y≤bv.length∧vs=[zar g rs,.ref 0 0 0,.ref Y.p3 Y.v3 0,zho (zau g nh nw),.int .i64 (zau g nh nw).length,.int .i64 i,(if lv then .loc Y.pA Y.vA 0 nr else .loc Y.pL Y.vL 0 nr),eInts bv,eInts av,.int .i64 av.length,.int .i64 x,.int .i64 a,eInts bv,.int .i64 bv.length,.int .i64 y]∧S=⟨Y.f (.arr 0 67 2 [.nils,.nils]) (.arr Y.v3 67 2 [.loc Y.pL Y.vL 0 nr,.loc Y.pA Y.vA 0 nr]) [] (yem lv M (relB a (bv.take y) X)).1 (yem lv M (relB a (bv.take y) X)).2,tk⟩) bv.length ?_ ?_
   ·refine ⟨_,0,tk,rfl,by omega,?_,za2 ?_⟩
    ·simp [Env.put,Env.of]
    rfl
   rintro n vs S - ⟨y,tk,rfl,h_y,rfl,rfl⟩
   refine W.r fun K hK=>?_
   simp(disch:=omega)only[↓RU,RW,↓reduceIte,qE,reduceCtorEq,iP,w64,↓RS,RG,qA,qM,qL,zaa]
   apply hK;clear hK K
   refine W.seq ?_
   refine W.cond rfl (fun h3=>?_) (fun h3=>?_)
   ·try simp only[RL]at h3
    obtain ⟨b,hb,hbm⟩:=zaj (show y<bv.length by omega)
    have hbb:=hsr2 b hbm
    have hZ:Sq nr (relB a (bv.take y) X):=hX.relB (by omega)
    generalize hZe:relB a (bv.take y) X=Z at hZ
    obtain ⟨a,rfl⟩:∃ a2:Nat,a=a2:=⟨a.toNat,by omega⟩
    obtain ⟨b,rfl⟩:∃ b2:Nat,b=b2:=⟨b.toNat,by omega⟩
    obtain ⟨row,hrow,hrl,-⟩:=hZ.at_ (show a<nr by omega) (show b<nr by omega)
    have hZl:=hZ.1
    refine W.skip ?_
    refine xn ?_
    refine W.seq ?_
    refine W.block ?_
    refine W.r fun K hK=>?_
    simp(disch:=omega)only[↓RU,RW,↓reduceIte,qE,reduceCtorEq,iP,↓RS,RG,qA,qM,qL,zab,zaa,hb]
    apply hK;clear hK K
    refine W.k fun K hK=>?_
    cases lv
    ·skip
     simp only[yem,qF,if_false]
     try rw [hZe]
     simp(disch:=omega)only[↓RU,RW,↓reduceIte,qE,reduceCtorEq,iP,↓RS,RG,qA,qM,qL,ty0,ty2,zad,ze6,Y.getL hZl,Y.getLr hrow,zkt,hrl,zb8,zge,Y.setL hZl]
     apply hK;clear hK K
     refine XbN ?_
     refine xn ?_
     refine W.k fun K hK=>?_
     simp(disch:=omega)only[↓RU,RW,↓reduceIte,qE,reduceCtorEq,iP,w64,↓RS,RG,qA,qM,qL,zaa]
     apply hK;clear hK K
     refine xn ?_
     refine ⟨bv.length - (y+1),by omega,_,y+1,tk,rfl,by omega,?_,za2 ?_⟩
     ·simp [Env.put,Env.of]
     rw [yau hb,hZe,Int.toNat_natCast,Int.toNat_natCast,zhf hrow]; rfl
    skip
    simp only[yem,if_true]
    try rw [hZe]
    simp(disch:=omega)only[↓RU,RW,↓reduceIte,qE,reduceCtorEq,iP,↓RS,RG,qA,qM,qL,ty0,ty2,zad,ze6,Y.getA hLl hZl,Y.getAr hLl hrow,zkt,hrl,zb8,zge,Y.setA hLl hZl]
    apply hK;clear hK K
    refine XbN ?_
    refine xn ?_
    refine W.k fun K hK=>?_
    simp(disch:=omega)only[↓RU,RW,↓reduceIte,qE,reduceCtorEq,iP,w64,↓RS,RG,qA,qM,qL,zaa]
    apply hK;clear hK K
    refine xn ?_
    refine ⟨bv.length - (y+1),by omega,_,y+1,tk,rfl,by omega,?_,za2 ?_⟩
    ·simp [Env.put,Env.of]
    rw [yau hb,hZe,Int.toNat_natCast,Int.toNat_natCast,zhf hrow]; rfl
   try simp only[RL]at h3
   obtain rfl:y=bv.length:=by omega
   rw [List.take_length]
   refine W.exit ?_
   refine xe ?_
   refine xe ?_
   refine XBlock.hit ?_
   refine XbN ?_
   refine xn ?_
   refine W.k fun K hK=>?_
   simp(disch:=omega)only[↓RU,RW,↓reduceIte,qE,reduceCtorEq,iP,w64,↓RS,RG,qA,qM,qL,zaa]
   apply hK;clear hK K
   refine xn ?_
   refine ⟨av.length - (x+1),by omega,_,x+1,tk,rfl,by omega,?_,za2 ?_⟩
   ·simp [Env.put,Env.of]
   rw [yil ha,hXe]
  try simp only[RL]at h2
  obtain rfl:x=av.length:=by omega
  refine W.exit ?_
  refine xe ?_
  refine xe ?_
  refine XBlock.hit ?_
  refine XbN ?_
  refine xn ?_
  refine W.k fun K hK=>?_
  simp(disch:=omega)only[↓RU,RW,↓reduceIte,qE,reduceCtorEq,iP,w64,↓RS,RG,qA,qM,qL,zaa]
  apply hK;clear hK K
  refine xn ?_
  refine ⟨(zau g nh nw).length - (i+1),by omega,_,i+1,tk,rfl,by omega,?_,za2 ?_⟩
  ·simp [Env.put,Env.of]
  rw [zgc hw,hMe,yd6,List.take_length,hasE,hbsE]
 try simp only[RL]at h
 obtain rfl:i=(zau g nh nw).length:=by omega
 rw [List.take_length]
 have hLA:=zvj hrm (ws:=zau g nh nw) zdp (M:=(zcb nr,zcb nr)) (ze4 nr) (ze4 nr)
 rw [show (zau g nh nw).foldl (zpk g) (zcb nr,zcb nr)=yd5 g nh nw nr from rfl]at hLA ⊢
 obtain ⟨hL,hA⟩:=hLA
 have hLl:=hL.1
 have hAl:=hA.1
 have hLc:=hL.close
 have hAc:=hA.close
 have hLcl:=hLc.1
 have hAcl:=hAc.1
 refine W.exit ?_
 refine xe ?_
 refine xe ?_
 refine XBlock.hit ?_
 refine xn ?_
 refine W.r fun K hK=>?_
 simp(disch:=omega)only[↓RU,RW,↓reduceIte,qE,reduceCtorEq,iP,qN,↓RS,RG,qA,qM,qL,ty0,ty2,zad,zg1,ze6,zg2,Y.get3 hLl hAl]
 refine zac.ev (z7s Y hL hn) ?_
 rintro _ _ ⟨rfl,rfl⟩
 simp(disch:=omega)only[↓RU,RW,↓reduceIte,qE,reduceCtorEq,iP,qN,↓RS,RG,qA,qM,qL,ty0,ty2,zad,zg1,ze6,zg2,Y.get3 hLl hAl]
 apply hK;clear hK K
 refine W.r fun K hK=>?_
 simp(disch:=omega)only[↓RU,RW,↓reduceIte,qE,reduceCtorEq,iP,qN,↓RS,RG,qA,qM,qL,ty0,ty2,zad,zg1,ze6,zg2,Y.get3 hLcl hAl]
 refine zac.ev (z7r Y hLcl hA hn) ?_
 rintro _ _ ⟨rfl,rfl⟩
 simp(disch:=omega)only[↓RU,RW,↓reduceIte,qE,reduceCtorEq,iP,qN,↓RS,RG,qA,qM,qL,ty0,ty2,zad,zg1,ze6,zg2,Y.get3 hLcl hAl]
 apply hK;clear hK K
 refine W.r fun K hK=>?_
 simp(disch:=omega)only[↓RU,RW,↓reduceIte,qE,reduceCtorEq,iP,↓RS,RG,qA,qM,qL,ty0,ty2,zad,zg1,ze6,zg2,Y.get3 hLcl hAcl,Y.get0,Y.set0]
 apply hK;clear hK K
 refine W.ret ?_
 refine Br (v := .agg [.loc Y.pL Y.vL 0 nr,.loc Y.pA Y.vA 0 nr]) (by simp only[zvy,zk9,show Tryz.f76.results.toList=[.cell 2 67] from rfl,zzc,Env.put,Env.of,qE,↓reduceIte,zrc,yg3,Y.get0]; rfl) ?_
 exact z6b (zy7 (f:=6) hLc (Y.getL hLcl) fun a row h=>Y.getLr h) (zy7 (f:=6) hAc (Y.getA hLcl hAcl) fun a row h=>Y.getAr hLcl h)
def hvF (M:List (List Bool)) (g:Nat→Int) (b i:Nat):Int:=(List.range i).foldl (fun m a=>if zcv M a b then max m (g a) else m) 0
def hv (M:List (List Bool)) (ws:List Int) (n:Nat):Nat→Nat→Int
 | 0,_=>0
 | f+1,b=>hvF M (hv M ws n f) b n+zcw ws b
theorem zpj {M:List (List Bool)} {g:Nat→Int} {b i:Nat}:hvF M g b (i+1)=if zcv M i b then max (hvF M g b i) (g i) else hvF M g b i:=by
 unfold hvF; rw [zcz]
theorem zqr {M:List (List Bool)} {g h:Nat→Int} {b:Nat}:∀ {i:Nat},(∀ a,a<i→zcv M a b=true→g a=h a)→hvF M g b i=hvF M h b i
 | 0,_=>rfl
 | i+1,H=>by
  rw [zpj,zpj,zqr (i:=i) fun a ha=>H a (by omega)]
  cases hb:zcv M i b with
  | false=>rfl
  | true=>rw [H i (by omega) hb]
theorem yfr {M:List (List Bool)} {g:Nat→Int} {b:Nat}:∀ {i a:Nat},a<i→zcv M a b=true→g a≤hvF M g b i
 | i+1,a,h,hb=>by
  rw [zpj]
  by_cases e:a=i
  ·subst e; rw [hb]; simp only[if_true]; omega
  have:=yfr (M:=M) (g:=g) (i:=i) (a:=a) (by omega) hb
  split <;> omega
structure Up (M:List (List Bool)) (n:Nat) (rk:Nat→Nat):Prop where
 sq:Sq n M
 up:∀ a b,a<n→b<n→zcv M a b=true→rk a<rk b
 le:∀ b,rk b≤100
theorem yj0 {M:List (List Bool)} {ws:List Int} {n:Nat} {rk:Nat→Nat} (hu:Up M n rk):∀ (f f' b:Nat),b<n→rk b<f→rk b<f'→hv M ws n f b=hv M ws n f' b
 | 0,_,_,_,h,_=>by omega
 | _+1,0,_,_,_,h=>by omega
 | f+1,f'+1,b,hb,h1,h2=>by
  show hvF M (hv M ws n f) b n+zcw ws b=hvF M (hv M ws n f') b n+zcw ws b
  congr 1
  apply zqr
  intro a ha hab
  have h3:=hu.up a b ha hb hab
  exact yj0 hu f f' a ha (by omega) (by omega)
def HB (M:List (List Bool)) (ws:List Int) (n b:Nat):Int:=hv M ws n 101 b
theorem yk6 {M:List (List Bool)} {ws:List Int} {n:Nat} {rk:Nat→Nat} (hu:Up M n rk) {b:Nat} (hb:b<n):HB M ws n b=hvF M (HB M ws n) b n+zcw ws b:=by
 have e:HB M ws n b=hvF M (hv M ws n 100) b n+zcw ws b:=rfl
 rw [e,zqr (h:=HB M ws n)]
 intro a ha hab
 have h3:=hu.up a b ha hb hab
 have h4:=hu.le b
 exact yj0 hu 100 101 a ha (by omega) (by omega)
def Memo (M:List (List Bool)) (ws:List Int) (n:Nat) (out:List Int):Prop:=out.length=n∧∀ (b:Nat) x,out[b]?=some x→x=0∨x=HB M ws n b
def Keep (out out':List Int):Prop:=∀ (b:Nat) x,out[b]?=some x→x≠0→out'[b]?=some x
theorem Keep.refl (out:List Int):Keep out out:=fun _ _ h _=>h
theorem Keep.trans {a b c:List Int} (h:Keep a b) (k:Keep b c):Keep a c:=fun i x h1 h2=>k i x (h i x h1 h2) h2
theorem Memo.at_ {M:List (List Bool)} {ws out:List Int} {n:Nat} (h:Memo M ws n out) {b:Nat} (hb:b<n):∃ x,out[b]?=some x∧(x=0∨x=HB M ws n b):=by
 obtain ⟨x,hx,-⟩:=zaj (show b<out.length by rw [h.1]; exact hb)
 exact ⟨x,hx,h.2 b x hx⟩
theorem Memo.set {M:List (List Bool)} {ws out:List Int} {n:Nat} (h:Memo M ws n out) {b:Nat}:Memo M ws n (out.set b (HB M ws n b)):=by
 refine ⟨by simpa using h.1,fun c x hx=>?_⟩
 rw [List.getElem?_set]at hx
 split at hx
 ·rename_i e; subst e
  split at hx
  ·cases hx; exact .inr rfl
  cases hx
 exact h.2 c x hx
theorem Memo.keep {M:List (List Bool)} {ws out:List Int} {n:Nat} (h:Memo M ws n out) {b:Nat}:Keep out (out.set b (HB M ws n b)):=by
 intro c x hx h0
 rw [List.getElem?_set]
 split
 ·rename_i e; subst e
  have:=(h.2 b x hx).resolve_left h0
  rw [if_pos (zb5 hx),this]
 exact hx
def heaviest (M:List (List Bool)) (ws:List Int) (n:Nat):List Int:=(List.range n).map (HB M ws n)
def yjd:List Int→Int
 | []=>0
 | a::l=>l.foldl max a
theorem z5x {l:List Int} {x0:Int}:((l.take 1).drop 1).foldl max x0=x0:=by
 rw [List.drop_of_length_le (by simp; omega)]; rfl
theorem z9k {l:List Int} {x0 x:Int} {i:Nat} (h1:1≤i) (h:l[i]?=some x):((l.take (i+1)).drop 1).foldl max x0=max (((l.take i).drop 1).foldl max x0) x:=by
 have hi:=zb5 h
 rw [tk h,List.drop_append_of_le_length (by simp; omega),List.foldl_append]; rfl
theorem ydw {l:List Int} {x0:Int} {i:Nat} (h0:l[0]?=some x0) (hi:l.length≤i):((l.take i).drop 1).foldl max x0=yjd l:=by
 rw [qT hi]
 cases l with
 | nil=>simp at h0
 | cons a l=>simp at h0; subst h0; rfl
theorem z2k {f:FuncId} {cs:List PV}:(PV.fn f cs).cells=[.fn f cs]:=rfl
theorem yj1 {f:FuncId} {cs:List PV}:(PV.fn f cs).isCell=true:=rfl
def Ord (c:List Int) (i:Nat):Prop:=∀ p q x y,p<q→q<i→c[p]?=some x→c[q]?=some y→x≤y
def yci (c:List Int) (j i:Nat):Prop:=∀ p q x y,p<q→q≤i→q≠j→c[p]?=some x→c[q]?=some y→x≤y
theorem Ord.one (c:List Int):Ord c 1:=by intro p q x y h1 h2; omega
theorem Ord.ins {c:List Int} {i:Nat} (h:Ord c i):yci c i i:=by
 intro p q x y h1 h2 h3 hx hy
 exact h p q x y h1 (by omega) hx hy
theorem yci.zero {c:List Int} {i:Nat} (h:yci c 0 i):Ord c (i+1):=by
 intro p q x y h1 h2 hx hy
 exact h p q x y h1 (by omega) (by omega) hx hy
theorem yci.stop {c:List Int} {i j:Nat} {a b:Int} (h:yci c j i) (ha:c[j]?=some a) (hb:c[j - 1]?=some b) (hle:¬ a<b):Ord c (i+1):=by
 intro p q x y h1 h2 hx hy
 by_cases e:q=j
 ·subst e
  rw [ha]at hy; cases hy
  by_cases e2:p=q - 1
  ·subst e2; rw [hb]at hx; cases hx; omega
  have:=h p (q - 1) x b (by omega) (by omega) (by omega) hx hb; omega
 exact h p q x y h1 (by omega) e hx hy
theorem yci.swap {c:List Int} {i j:Nat} {a b:Int} (h:yci c j i) (hj:j≠0) (hji:j≤i) (ha:c[j]?=some a) (hb:c[j - 1]?=some b) (hlt:a<b):yci ((c.set j b).set (j - 1) a) (j - 1) i:=by
 have hl:=zb5 ha
 have g:∀ k,((c.set j b).set (j - 1) a)[k]?=if k=j - 1 then some a else if k=j then some b else c[k]?:=by
  intro k
  rw [List.getElem?_set]
  by_cases e:j - 1=k
  ·rw [if_pos e,if_pos e.symm,if_pos (by simp; omega)]
  rw [if_neg e,if_neg (Ne.symm e),List.getElem?_set]
  by_cases e2:j=k
  ·rw [if_pos e2,if_pos e2.symm,if_pos (by omega)]
  rw [if_neg e2,if_neg (Ne.symm e2)]
 intro p q x y h1 h2 h3 hx hy
 rw [g]at hx hy
 rw [if_neg h3]at hy
 by_cases e:q=j
 ·rw [if_pos e]at hy; cases hy
  by_cases e2:p=j - 1
  ·rw [if_pos e2]at hx; cases hx; omega
  rw [if_neg e2,if_neg (by omega)]at hx
  exact h p (j - 1) x b (by omega) (by omega) (by omega) hx hb
 rw [if_neg e]at hy
 by_cases e2:p=j - 1
 ·rw [if_pos e2]at hx; cases hx
  exact h j q a y (by omega) h2 e ha hy
 rw [if_neg e2]at hx
 by_cases e3:p=j
 ·rw [if_pos e3]at hx; cases hx
  exact h (j - 1) q b y (by omega) h2 e hb hy
 rw [if_neg e3]at hx
 exact h p q x y h1 h2 e hx hy
theorem zzu {c l:List Int} {j:Nat} {a b:Int} (h:c.Perm l) (ha:c[j]?=some a) (hb:c[j - 1]?=some b):((c.set j b).set (j - 1) a).Perm l:=by
 obtain ⟨h1,e1⟩:=List.getElem?_eq_some_iff.mp ha
 obtain ⟨h2,e2⟩:=List.getElem?_eq_some_iff.mp hb
 have := @List.set_set_perm _ c _ _ h1 h2
 rw [e1,e2]at this
 exact this.trans h
theorem Ord.pair {c:List Int} (h:Ord c c.length):c.Pairwise (· ≤ ·):=by
 rw [List.pairwise_iff_getElem]
 intro i j hi hj hij
 exact h i j _ _ hij hj (List.getElem?_eq_getElem hi) (List.getElem?_eq_getElem hj)
theorem ydo {x:Int}:PC Tryz.prog 135 [.int .i64 x] (.bool false) true:=by
 refine PC.of ⟨Tryz.func135,by kernel_rfl,rfl,by kernel_rfl⟩ zav mixed (by show 1≤Tryz.f135.ntmps; decide) ?_
 refine W.r fun K hK=>?_
 simp(disch:=omega)only[↓RU,RW,↓reduceIte,qE,reduceCtorEq,iP]
 apply hK;clear hK K
 refine W.r fun K hK=>?_
 simp(disch:=omega)only[↓RU,RW,↓reduceIte,qE,reduceCtorEq,iP,w64,zaa]
 apply hK;clear hK K
 refine W.ret ?_
 refine Br rfl ?_
 rw [show (x != x)=false by simp]
 rfl
theorem yhz {x y:Int}:PC Tryz.prog 119 [.int .i64 x,.int .i64 y] (.bool (decide (x<y))) true:=by
 refine PC.of ⟨Tryz.func119,by kernel_rfl,rfl,by kernel_rfl⟩ zav mixed (by show 2≤Tryz.f119.ntmps; decide) ?_
 refine W.r fun K hK=>?_
 simp(disch:=omega)only[↓RU,RW,↓reduceIte,qE,reduceCtorEq,iP]
 apply hK;clear hK K
 refine W.r fun K hK=>?_
 simp(disch:=omega)only[↓RU,RW,↓reduceIte,qE,reduceCtorEq,iP,qN,w64,zaa]
 refine zac.pc (ydo) rfl (.inl rfl) ?_
 simp(disch:=omega)only[↓RU,RW,↓reduceIte,qE,reduceCtorEq,iP,qN,w64,zaa]
 apply hK;clear hK K
 refine W.ret ?_
 refine Br rfl ?_
 rfl
theorem z85 {F R:List Ob} {ver t:Nat} {l:List Int} (hl:l.length<2147483648) (h1:1≤l.length):Ev Tryz.prog 113 [.loc F.length ver 0 l.length,.int .i64 0,.int .i64 l.length] ⟨F ++ .arr ver 3 1 (l.map (.int .i64))::R,t⟩ fun v S=>v = .tup []∧∃ z:List Int,z.Perm l∧z.Pairwise (· ≤ ·)∧S=⟨F ++ .arr ver 3 1 (z.map (.int .i64))::R,t⟩:=by
 refine Ev.of ⟨Tryz.func113,by kernel_rfl,rfl,by kernel_rfl⟩ zav mixed (by show 3≤Tryz.f113.ntmps; decide) ?_
 refine W.r fun K hK=>?_
 simp(disch:=omega)only[↓RU,RW,↓reduceIte,qE,reduceCtorEq,iP,w64,↓RS,RG,qA,qM,qL,zaa,gF,zd3]
 apply hK;clear hK K
 refine W.block ?_
 refine W.loop [0,1,2,6] (fun n vs S=>∃ (i:Nat) (c:List Int),n=l.length - i∧1≤i∧i≤l.length∧c.Perm l∧Ord c i∧vs=[.loc F.length ver 0 l.length,.int .i64 0,.int .i64 l.length,.int .i64 i]∧S=⟨F ++ .arr ver 3 1 (c.map (.int .i64))::R,t⟩) (l.length - 1) ?_ ?_
 ·refine ⟨_,1,l,rfl,qR _,h1,List.Perm.refl _,Ord.one l,?_,zbh⟩
  simp [Env.put,Env.of,zai]
 rintro n vs S - ⟨i,c,rfl,hi1,h_i,hp,ho,rfl,rfl⟩
 refine W.seq ?_
 refine W.r fun K hK=>?_
 simp(disch:=omega)only[↓RU,RW,↓reduceIte,qE,reduceCtorEq,iP,w64,↓RS,RG,qA,qM,qL,zaa,gF,zd3]
 apply hK;clear hK K
 refine W.cond rfl (fun h=>?_) (fun h=>?_)
 ·try simp only[RL]at h
  refine W.skip ?_
  refine xn ?_
  refine W.seq ?_
  refine W.block ?_
  refine W.r fun K hK=>?_
  simp(disch:=omega)only[↓RU,RW,↓reduceIte,qE,reduceCtorEq,iP,↓RS,RG,qA,qM,qL,gF,zd3]
  apply hK;clear hK K
  refine W.block ?_
  refine W.loop [0,1,2,6,7] (fun n vs S=>∃ (j:Nat) (d:List Int),n=j+1∧j≤i∧d.Perm l∧yci d j i∧vs=[.loc F.length ver 0 l.length,.int .i64 0,.int .i64 l.length,.int .i64 i,.int .i64 j]∧S=⟨F ++ .arr ver 3 1 (d.map (.int .i64))::R,t⟩) (i+1) ?_ ?_
  ·refine ⟨_,i,c,rfl,qR _,hp,ho.ins,?_,zbh⟩
   simp [Env.put,Env.of]
  rintro n vs S - ⟨j,d,rfl,h_j,hq,hO,rfl,rfl⟩
  refine W.seq ?_
  refine W.seq_draw (by kernel_rfl) fun K hK=>?_
  cases hd:decide ((j:Int)>0)
  ·skip
   obtain rfl:j=0:=by simpa using hd
   simp(disch:=omega)only[↓RU,RW,↓reduceIte,qE,reduceCtorEq,iP,w64,qN,↓RS,RG,qA,qM,qL,zab,zaa,gF,zd3,hd]
   apply hK;clear hK K
   refine W.cond rfl (fun h2=>?_) (fun h2=>?_)
   ·try simp only[RL]at h2
    exact absurd h2 (by simp)
   try simp only[RL]at h2
   have hO2:Ord d (i+1):=hO.zero
   refine W.exit ?_
   refine xe ?_
   refine xe ?_
   refine XBlock.hit ?_
   refine XbN ?_
   refine xn ?_
   refine W.k fun K hK=>?_
   simp(disch:=omega)only[↓RU,RW,↓reduceIte,qE,reduceCtorEq,iP,w64,↓RS,RG,qA,qM,qL,zaa,gF,zd3]
   apply hK;clear hK K
   refine xn ?_
   refine ⟨l.length - (i+1),by omega,_,i+1,d,rfl,by omega,by omega,hq,hO2,?_,zbh⟩
   simp [Env.put,Env.of]
  ·skip
   have hj0:j≠0:=by have:=of_decide_eq_true hd; omega
   have hdl:=hq.length_eq
   obtain ⟨x,hx,-⟩:=zaj (show j<d.length by omega)
   obtain ⟨y,hy,-⟩:=zaj (show j - 1<d.length by omega)
   simp(disch:=omega)only[↓RU,RW,↓reduceIte,qE,reduceCtorEq,iP,w64,qN,↓RS,RG,qA,qM,qL,zab,zaa,gF,zd3,hd,hx,hy,zdk]
   refine zac.pc (yhz (x:=x) (y:=y)) rfl (.inl rfl) ?_
   simp(disch:=omega)only[↓RU,RW,↓reduceIte,qE,reduceCtorEq,iP,w64,qN,↓RS,RG,qA,qM,qL,zab,zaa,gF,zd3,hd,hx,hy,zdk]
   apply hK;clear hK K
   refine W.cond rfl (fun h2=>?_) (fun h2=>?_)
   ·try simp only[RL]at h2
    have hjl:=zb5 hx
    have hsl:(d.set j y).length=d.length:=by simp
    refine W.skip ?_
    refine xn ?_
    refine W.seq ?_
    refine W.block ?_
    refine W.draw_k (by kernel_rfl) fun K hK=>?_
    simp(disch:=omega)only[↓RU,RW,↓reduceIte,qE,reduceCtorEq,iP,w64,↓RS,RG,qA,qM,qL,zab,zaa,gF,zd3,hx,hy,zdk,zb8,zdh,List.length_set]
    apply hK;clear hK K
    refine XbN ?_
    refine xn ?_
    refine W.k fun K hK=>?_
    simp(disch:=omega)only[↓RU,RW,↓reduceIte,qE,reduceCtorEq,iP,w64,↓RS,RG,qA,qM,qL,zaa,gF,zd3]
    apply hK;clear hK K
    refine xn ?_
    refine ⟨j - 1+1,by omega,_,j - 1,(d.set j y).set (j - 1) x,rfl,by omega,zzu hq hx hy,hO.swap hj0 h_j hx hy h2,?_,zbh⟩
    simp [Env.put,Env.of]; omega
   try simp only[RL]at h2
   have hO2:Ord d (i+1):=hO.stop hx hy h2
   refine W.exit ?_
   refine xe ?_
   refine xe ?_
   refine XBlock.hit ?_
   refine XbN ?_
   refine xn ?_
   refine W.k fun K hK=>?_
   simp(disch:=omega)only[↓RU,RW,↓reduceIte,qE,reduceCtorEq,iP,w64,↓RS,RG,qA,qM,qL,zaa,gF,zd3]
   apply hK;clear hK K
   refine xn ?_
   refine ⟨l.length - (i+1),by omega,_,i+1,d,rfl,by omega,by omega,hq,hO2,?_,zbh⟩
   simp [Env.put,Env.of]
 try simp only[RL]at h
 obtain rfl:l.length=i:=by omega
 refine W.exit ?_
 refine xe ?_
 refine xe ?_
 refine XBlock.hit ?_
 refine zfj.norm rfl ?_
 exact ⟨_,rfl,c,hp,by rw [← hp.length_eq]at ho; exact ho.pair,zbh⟩
theorem ydq  : PC Tryz.prog 123 [.int .u64 4] (.int .i64 3) true:=by
 refine PC.of ⟨Tryz.func123,by kernel_rfl,rfl,by kernel_rfl⟩ zav mixed (by show 1≤Tryz.f123.ntmps; decide) ?_
 refine W.r fun K hK=>?_
 simp(disch:=omega)only[↓RU,RW,↓reduceIte,qE,reduceCtorEq,iP]
 apply hK;clear hK K
 refine W.seq ?_
 refine W.r fun K hK=>?_
 simp(disch:=omega)only[↓RU,RW,↓reduceIte,qE,reduceCtorEq,iP,w64,zie]
 apply hK;clear hK K
 refine W.cond rfl (fun h=>?_) (fun h=>?_)
 ·try simp only[RL]at h
  exact absurd h (by decide)
 try simp only[RL]at h
 refine W.skip ?_
 refine xn ?_
 refine W.seq ?_
 refine W.r fun K hK=>?_
 simp(disch:=omega)only[↓RU,RW,↓reduceIte,qE,reduceCtorEq,iP,w64,zie]
 apply hK;clear hK K
 refine W.cond rfl (fun h1=>?_) (fun h1=>?_)
 ·try simp only[RL]at h1
  exact absurd h1 (by decide)
 try simp only[RL]at h1
 refine W.skip ?_
 refine xn ?_
 refine W.seq ?_
 refine W.r fun K hK=>?_
 simp(disch:=omega)only[↓RU,RW,↓reduceIte,qE,reduceCtorEq,iP,w64,zie]
 apply hK;clear hK K
 refine W.cond rfl (fun h2=>?_) (fun h2=>?_)
 ·try simp only[RL]at h2
  exact absurd h2 (by decide)
 try simp only[RL]at h2
 refine W.skip ?_
 refine xn ?_
 refine W.r fun K hK=>?_
 simp(disch:=omega)only[↓RU,RW,↓reduceIte,qE,reduceCtorEq,iP,w64,w64,zaa,zal,zie,zhv]
 apply hK;clear hK K
 refine W.ret ?_
 refine Br rfl ?_
 rfl
theorem yka  : PC Tryz.prog 93 [.int .u64 4] (.int .i64 3) true:=by
 refine PC.of ⟨Tryz.func93,by kernel_rfl,rfl,by kernel_rfl⟩ zav mixed (by show 1≤Tryz.f93.ntmps; decide) ?_
 refine W.r fun K hK=>?_
 simp(disch:=omega)only[↓RU,RW,↓reduceIte,qE,reduceCtorEq,iP]
 apply hK;clear hK K
 refine W.seq ?_
 refine W.cond rfl (fun h=>?_) (fun h=>?_)
 ·try simp only[RL]at h
  exact absurd h (by decide)
 try simp only[RL]at h
 refine W.skip ?_
 refine xn ?_
 refine W.r fun K hK=>?_
 simp(disch:=omega)only[↓RU,RW,↓reduceIte,qE,reduceCtorEq,iP,qN]
 refine zac.pc (ydq) rfl (.inl rfl) ?_
 simp(disch:=omega)only[↓RU,RW,↓reduceIte,qE,reduceCtorEq,iP,qN]
 apply hK;clear hK K
 refine W.ret ?_
 refine Br rfl ?_
 rfl
theorem ykj {F R:List Ob} {ver t:Nat} {l:List Int} (hl:l.length≤12) (h1:1≤l.length) (lim:Int):Ev Tryz.prog 92 [.loc F.length ver 0 l.length,.int .i64 0,.int .i64 l.length,.int .i64 lim] ⟨F ++ .arr ver 3 1 (l.map (.int .i64))::R,t⟩ fun v S=>v = .tup []∧∃ z:List Int,z.Perm l∧z.Pairwise (· ≤ ·)∧S=⟨F ++ .arr ver 3 1 (z.map (.int .i64))::R,t⟩:=by
 refine Ev.of ⟨Tryz.func92,by kernel_rfl,rfl,by kernel_rfl⟩ zav mixed (by show 4≤Tryz.f92.ntmps; decide) ?_
 refine W.r fun K hK=>?_
 simp(disch:=omega)only[↓RU,RW,↓reduceIte,qE,reduceCtorEq,iP,↓RS,RG,qA,qM,qL,gF,zd3]
 apply hK;clear hK K
 refine W.r fun K hK=>?_
 simp(disch:=omega)only[↓RU,RW,↓reduceIte,qE,reduceCtorEq,iP,↓RS,RG,qA,qM,qL,gF,zd3]
 apply hK;clear hK K
 refine W.block ?_
 refine W.loop [0,1,2] (fun n vs S=>vs=[.loc F.length ver 0 l.length,.int .i64 0,.int .i64 l.length]∧S=⟨F ++ .arr ver 3 1 (l.map (.int .i64))::R,t⟩) 0 ?_ ?_
 ·refine ⟨_,?_,zbh⟩
  simp [Env.put,Env.of,zai]
 rintro n vs S - ⟨rfl,rfl⟩
 refine W.block ?_
 refine W.r fun K hK=>?_
 simp(disch:=omega)only[↓RU,RW,↓reduceIte,qE,reduceCtorEq,iP,w64,↓RS,RG,qA,qM,qL,zaa,gF,zd3]
 apply hK;clear hK K
 refine W.seq ?_
 refine W.r fun K hK=>?_
 simp(disch:=omega)only[↓RU,RW,↓reduceIte,qE,reduceCtorEq,iP,w64,↓RS,RG,qA,qM,qL,zaa,gF,zd3]
 apply hK;clear hK K
 refine W.cond rfl (fun h=>?_) (fun h=>?_)
 ·try simp only[RL]at h
  refine W.r fun K hK=>?_
  simp(disch:=omega)only[↓RU,RW,↓reduceIte,qE,reduceCtorEq,iP,qN,↓RS,RG,qA,qM,qL,gF,zd3]
  refine zac.ev (z85 (by omega) h1) ?_
  rintro _ _ ⟨rfl,z,hz1,hz2,rfl⟩
  simp(disch:=omega)only[↓RU,RW,↓reduceIte,qE,reduceCtorEq,iP,qN,↓RS,RG,qA,qM,qL,gF,zd3]
  apply hK;clear hK K
  refine W.ret ?_
  refine XThen.ret ?_
  refine XBlock.ret ?_
  refine XThen.ret ?_
  refine XBlock.ret ?_
  refine Br rfl ?_
  exact ⟨_,rfl,z,hz1,hz2,zbh⟩
 try simp only[RL]at h
 exact absurd (show (l.length:Int)≤12 by omega) h
theorem yiv {F R:List Ob} {ver t:Nat} {l:List Int} (hl:l.length=4):Ev Tryz.prog 67 [.loc F.length ver 0 l.length] ⟨F ++ .arr ver 3 1 (l.map (.int .i64))::R,t⟩ fun v S=>v = .tup []∧∃ z:List Int,z.Perm l∧z.Pairwise (· ≤ ·)∧S=⟨F ++ .arr ver 3 1 (z.map (.int .i64))::R,t⟩:=by
 have hw4:IntKind.u64.wrap ((l.length:Nat):Int)=4:=by rw [hl]; rfl
 refine Ev.of ⟨Tryz.func67,by kernel_rfl,rfl,by kernel_rfl⟩ zav mixed (by show 1≤Tryz.f67.ntmps; decide) ?_
 refine W.r fun K hK=>?_
 simp(disch:=omega)only[↓RU,RW,↓reduceIte,qE,reduceCtorEq,iP,↓RS,RG,qA,qM,qL,zab,zaa,gF,zd3]
 apply hK;clear hK K
 refine W.k fun K hK=>?_
 simp(disch:=omega)only[↓RU,RW,↓reduceIte,qE,reduceCtorEq,iP,w64,qN,↓RS,RG,qA,qM,qL,zaa,zdi,gF,zd3,hw4]
 refine zac.pc (yka) rfl (.inl rfl) ?_
 simp(disch:=omega)only[↓RU,RW,↓reduceIte,qE,reduceCtorEq,iP,w64,qN,↓RS,RG,qA,qM,qL,zaa,zdi,gF,zd3,hw4]
 refine zac.ev (ykj (by omega) (by omega) 3) ?_
 rintro _ _ ⟨rfl,z,hz1,hz2,rfl⟩
 simp(disch:=omega)only[↓RU,RW,↓reduceIte,qE,reduceCtorEq,iP,w64,qN,↓RS,RG,qA,qM,qL,zaa,zdi,gF,zd3,hw4]
 apply hK;clear hK K
 refine zfj.norm rfl ?_
 exact ⟨_,rfl,z,hz1,hz2,zbh⟩
def dn:List Int→Nat
 | []=>0
 | a::l=>(if a∈l then 0 else 1)+dn l
theorem yha:∀ {m l:List Int},l.Nodup→(∀ x,x∈l↔x∈m)→l.length=dn m
 | [],l,_,h=>by
  cases l with
  | nil=>rfl
  | cons a l=>exact absurd ((h a).1 (by simp)) (by simp)
 | a::m,l,hn,h=>by
  unfold dn
  by_cases ha:a∈m
  ·rw [if_pos ha,yha (m:=m) hn fun x=>?_]; · omega
   rw [h x,List.mem_cons]
   constructor
   ·rintro (rfl | h)
    ·exact ha
    exact h
   exact .inr
  have hal:a∈l:=(h a).2 (by simp)
  have hl:=List.length_erase_of_mem hal
  have h0:=List.length_pos_of_mem hal
  rw [if_neg ha,← yha (m:=m) (l:=l.erase a) (hn.erase a) fun x=>?_]
  ·omega
  rw [hn.mem_erase_iff,h x,List.mem_cons]
  constructor
  ·rintro ⟨h1,h2 | h2⟩
   ·exact absurd h2 h1
   exact h2
  intro hx
  exact ⟨fun e=>ha (e ▸ hx),.inr hx⟩
theorem z3i {l:List Int} {x y:Int}:y∈zsm l x↔y∈l∨y=x:=by
 unfold zsm
 split
 ·rename_i h
  constructor
  ·exact .inl
  rintro (h' | rfl)
  ·exact h'
  exact List.mem_of_getLast? h
 simp
theorem zs0 {z:List Int} (hz:z.Pairwise (· ≤ ·)):∀ p,p≤z.length→(ddp (z.take p)).Pairwise (· < ·)∧∀ x,x∈ddp (z.take p)↔x∈z.take p
 | 0,_=>by simp [ddp]
 | p+1,hp=>by
  obtain ⟨x,hx,-⟩:=zaj (show p<z.length by omega)
  obtain ⟨h1,h2⟩:=zs0 hz p (by omega)
  have hle:∀ a∈z.take p,a≤x:=by
   intro a ha
   obtain ⟨j,hj,rfl⟩:=List.mem_take_iff_getElem.1 ha
   obtain ⟨hp',rfl⟩:=List.getElem?_eq_some_iff.1 hx
   exact (List.pairwise_iff_getElem.1 hz) j p (by omega) hp' (by omega)
  rw [zpe hx]
  constructor
  ·unfold zsm
   split
   ·exact h1
   rename_i hl
   rw [List.pairwise_append]
   refine ⟨h1,by simp,?_⟩
   intro a ha b hb
   rw [List.mem_singleton]at hb
   subst hb
   have ha':=(h2 a).1 ha
   by_cases hp0:p=0
   ·subst hp0; simp at ha'
   obtain ⟨y,hy,-⟩:=zaj (show p - 1<z.length by omega)
   have hlast:=zuv hy
   rw [show p - 1+1=p by omega]at hlast
   have hyb:y≠b:=fun e=>hl (e ▸ hlast)
   have hyl:y≤b:=hle y ((h2 y).1 (List.mem_of_getLast? hlast))
   have:a≤y:=by
    obtain ⟨j,hj,rfl⟩:=List.mem_take_iff_getElem.1 ha'
    obtain ⟨hp',rfl⟩:=List.getElem?_eq_some_iff.1 hy
    by_cases e:j=p - 1
    ·subst e; exact Int.le_refl _
    exact (List.pairwise_iff_getElem.1 hz) j (p - 1) (by omega) hp' (by omega)
   omega
  intro y
  rw [z3i,h2 y,tk hx]
  simp
theorem yjy {l z:List Int} (hp:z.Perm l) (hz:z.Pairwise (· ≤ ·)):(ddp z).length=dn l:=by
 have h:=zs0 hz z.length (qR _)
 rw [List.take_length]at h
 refine yha (h.1.imp fun h=>Int.ne_of_lt h) fun x=>?_
 rw [h.2 x]
 exact hp.mem_iff
def four (g:List (List Int)) (i k:Nat):List Int:=[gz g (i - 1) (k - 1),gz g (i - 1) k,gz g i (k - 1),gz g i k]
def zdu (g:List (List Int)) (many:Int) (i:Nat):Nat→Int
 | 0=>0
 | k+1=>zdu g many i k+if 1≤k∧((dn (four g i k):Nat):Int)=many then 1 else 0
def zsk (g:List (List Int)) (many:Int) (w:Nat):Nat→Int
 | 0=>0
 | i+1=>zsk g many w i+if 1≤i then zdu g many i w else 0
theorem zil (g:List (List Int)) (many:Int) (i:Nat):∀ k,0≤zdu g many i k∧zdu g many i k≤k
 | 0=>by simp [zdu]
 | k+1=>by have:=zil g many i k; unfold zdu; split <;> omega
theorem ztx (g:List (List Int)) (many:Int) {w:Nat} (hw:w≤6):∀ i,0≤zsk g many w i∧zsk g many w i≤6*i
 | 0=>by simp [zsk]
 | i+1=>by have:=ztx g many hw i; have:=zil g many i w; unfold zsk; split <;> omega
theorem yec {g:List (List Int)} {many:Int} {w:Nat}:zsk g many w 1=0:=by simp [zsk]
theorem z1q {g:List (List Int)} {many:Int} {i:Nat}:zdu g many i 1=0:=by simp [zdu]
theorem yag {g:List (List Int)} {many:Int} {w i:Nat} (h:1≤i):zsk g many w (i+1)=zsk g many w i+zdu g many i w:=by simp [zsk,h]
theorem z1p {g:List (List Int)} {many:Int} {i k:Nat} (h:1≤k) (e:((dn (four g i k):Nat):Int)=many):zdu g many i (k+1)=zdu g many i k+1:=by simp [zdu,h,e]
theorem zy1 {g:List (List Int)} {many:Int} {i k:Nat} (e:¬ ((dn (four g i k):Nat):Int)=many):zdu g many i (k+1)=zdu g many i k:=by simp [zdu,e]
theorem z0n {v t:Nat} {z:List Int} (hz:z.length=4):Ev Tryz.prog 68 [.loc 0 v 0 4] ⟨[.arr v 3 1 (z.map (.int .i64))],t⟩ fun r S=>∃ y:List Int,r = .loc 0 v 0 (ddp z).length∧S=⟨[.arr v 3 1 ((ddp z++y).map (.int .i64))],t⟩:=by
 have h:=znj (F:=[]) (R:=[]) (ver:=v) (t:=t) (l:=z) (by omega)
 rw [hz]at h
 exact h
theorem zy0 {g:List (List Int)} {nh nw:Nat} (hg:GW g nh nw) (rs:List Rect) (many:Int):PC Tryz.prog 39 [zar g rs,.int .i64 many] (.int .i64 (zsk g many nw nh)) true:=by
 have hl:=hg.1
 obtain ⟨hg1,hg2,hg3,hg4⟩:=hg.2.2
 obtain ⟨row0,hrow0,hrl0,-⟩:=hg.at_ (i:=0) (j:=0) (by omega) (by omega)
 refine PC.of ⟨Tryz.func39,by kernel_rfl,rfl,by kernel_rfl⟩ zav mixed (by show 2≤Tryz.f39.ntmps; decide) ?_
 refine W.r fun K hK=>?_
 simp(disch:=omega)only[↓RU,RW,↓reduceIte,qE,reduceCtorEq,iP,↓RS,RG,qA,qM,qL]
 apply hK;clear hK K
 refine W.r fun K hK=>?_
 simp(disch:=omega)only[↓RU,RW,↓reduceIte,qE,reduceCtorEq,iP,↓RS,RG,qA,qM,qL]
 apply hK;clear hK K
 refine W.seq ?_
 refine W.r fun K hK=>?_
 simp(disch:=omega)only[↓RU,RW,↓reduceIte,qE,reduceCtorEq,iP,↓RS,RG,qA,qM,qL]
 apply hK;clear hK K
 refine W.block ?_
 refine W.loop [0,1,5,6] (fun n vs S=>∃ i t:Nat,n=nh - i∧i≤nh∧(1≤i)∧vs=[zar g rs,.int .i64 many,.int .i64 (zsk g many nw i),.int .i64 (i:Nat)]∧S=⟨[],t⟩) (nh - 1) ?_ ?_
 ·refine ⟨0,1,_,rfl,by omega,qR _,?_,rfl⟩
  simp [Env.put,Env.of,zai,yec]
 rintro n vs S - ⟨i,t,rfl,h_i,h1i,rfl,rfl⟩
 refine W.seq ?_
 refine W.r fun K hK=>?_
 simp(disch:=omega)only[↓RU,RW,↓reduceIte,qE,reduceCtorEq,iP,qN,w64,↓RS,RG,qA,qM,qL,zaa,hl]
 refine zac.pc (zh1 g rs) rfl (.inl rfl) ?_
 simp(disch:=omega)only[↓RU,RW,↓reduceIte,qE,reduceCtorEq,iP,qN,w64,↓RS,RG,qA,qM,qL,zaa,hl]
 apply hK;clear hK K
 refine W.cond rfl (fun h=>?_) (fun h=>?_)
 ·try simp only[RL]at h
  have hpb:=ztx g many hg4 i
  refine W.skip ?_
  refine xn ?_
  refine W.seq ?_
  refine W.block ?_
  refine W.r fun K hK=>?_
  simp(disch:=omega)only[↓RU,RW,↓reduceIte,qE,reduceCtorEq,iP,↓RS,RG,qA,qM,qL]
  apply hK;clear hK K
  refine W.block ?_
  refine W.loop [0,1,5,6,7] (fun n vs S=>∃ k t:Nat,n=nw - k∧k≤nw∧(1≤k)∧vs=[zar g rs,.int .i64 many,.int .i64 (zsk g many nw i+zdu g many i k),.int .i64 (i:Nat),.int .i64 (k:Nat)]∧S=⟨[],t⟩) (nw - 1) ?_ ?_
  ·refine ⟨0,1,_,rfl,by omega,qR _,?_,rfl⟩
   simp [Env.put,Env.of,z1q]
  rintro n vs S - ⟨k,t,rfl,h_k,h1k,rfl,rfl⟩
  refine W.seq ?_
  refine W.r fun K hK=>?_
  simp(disch:=omega)only[↓RU,RW,↓reduceIte,qE,reduceCtorEq,iP,qN,w64,↓RS,RG,qA,qM,qL,zaa,hrl0]
  refine zac.pc (zir hrow0 rs) rfl (.inl rfl) ?_
  simp(disch:=omega)only[↓RU,RW,↓reduceIte,qE,reduceCtorEq,iP,qN,w64,↓RS,RG,qA,qM,qL,zaa,hrl0]
  apply hK;clear hK K
  refine W.cond rfl (fun h1=>?_) (fun h1=>?_)
  ·try simp only[RL]at h1
   have hrb:=zil g many i k
   obtain ⟨r1,hr1,hl1,hx1⟩:=hg.at_ (i:=i - 1) (j:=k - 1) (by omega) (by omega)
   obtain ⟨r1b,hr1b,-,hx2⟩:=hg.at_ (i:=i - 1) (j:=k) (by omega) (by omega)
   obtain ⟨r2,hr2,hl2,hx3⟩:=hg.at_ (i:=i) (j:=k - 1) (by omega) (by omega)
   obtain ⟨r2b,hr2b,-,hx4⟩:=hg.at_ (i:=i) (j:=k) (by omega) (by omega)
   obtain rfl:r1=r1b:=by rw [hr1]at hr1b; exact Option.some.inj hr1b
   obtain rfl:r2=r2b:=by rw [hr2]at hr2b; exact Option.some.inj hr2b
   refine W.skip ?_
   refine xn ?_
   refine W.seq ?_
   refine W.block ?_
   refine W.seq_draw (by kernel_rfl) fun K hK=>?_
   simp(disch:=omega)only[↓RU,RW,↓reduceIte,qE,reduceCtorEq,iP,w64,↓RS,RG,qA,qM,qL,ty1,ty3,zab,zeo,zcl,za7,zaa,zep,za8,hr1,hx1,hx2,hr2,hx3,hx4,zdk]
   apply hK;clear hK K
   refine W.r fun K hK=>?_
   simp(disch:=omega)only[↓RU,RW,↓reduceIte,qE,reduceCtorEq,iP,qN,↓RS,RG,qA,qM,qL]
   refine zac.ev (yiv (F:=[]) (R:=[]) (l:=four g i k) rfl) ?_
   rintro _ _ ⟨rfl,z,hz1,hz2,rfl⟩
   simp(disch:=omega)only[↓RU,RW,↓reduceIte,qE,reduceCtorEq,iP,qN,↓RS,RG,qA,qM,qL]
   apply hK;clear hK K
   have hz4:z.length=4:=hz1.length_eq
   have hdn:=yjy hz1 hz2
   refine W.r fun K hK=>?_
   simp(disch:=omega)only[↓RU,RW,↓reduceIte,qE,reduceCtorEq,iP,qN,w64,↓RS,RG,qA,qM,qL,zab,zaa,hdn]
   refine zac.ev (z0n hz4) ?_
   rintro _ _ ⟨y,rfl,rfl⟩
   simp(disch:=omega)only[↓RU,RW,↓reduceIte,qE,reduceCtorEq,iP,qN,w64,↓RS,RG,qA,qM,qL,zab,zaa,hdn]
   apply hK;clear hK K
   refine W.cond rfl (fun h2=>?_) (fun h2=>?_)
   ·try simp only[RL]at h2
    refine W.k fun K hK=>?_
    simp(disch:=omega)only[↓RU,RW,↓reduceIte,qE,reduceCtorEq,iP,w64,↓RS,RG,qA,qM,qL,zaa]
    apply hK;clear hK K
    refine XbN ?_
    refine xn ?_
    refine W.k fun K hK=>?_
    simp(disch:=omega)only[↓RU,RW,↓reduceIte,qE,reduceCtorEq,iP,w64,↓RS,RG,qA,qM,qL,zaa]
    apply hK;clear hK K
    refine xn ?_
    refine ⟨nw - (k+1),by omega,0,k+1,_,rfl,by omega,by omega,?_,rfl⟩
    simp [Env.put,Env.of,z1p h1k h2,Int.add_assoc]
   try simp only[RL]at h2
   refine W.skip ?_
   refine XbN ?_
   refine xn ?_
   refine W.k fun K hK=>?_
   simp(disch:=omega)only[↓RU,RW,↓reduceIte,qE,reduceCtorEq,iP,w64,↓RS,RG,qA,qM,qL,zaa]
   apply hK;clear hK K
   refine xn ?_
   refine ⟨nw - (k+1),by omega,0,k+1,_,rfl,by omega,by omega,?_,rfl⟩
   simp [Env.put,Env.of,zy1 h2,Int.add_assoc]
  try simp only[RL]at h1
  obtain rfl:nw=k:=by omega
  refine W.exit ?_
  refine xe ?_
  refine xe ?_
  refine XBlock.hit ?_
  refine XbN ?_
  refine xn ?_
  refine W.k fun K hK=>?_
  simp(disch:=omega)only[↓RU,RW,↓reduceIte,qE,reduceCtorEq,iP,w64,↓RS,RG,qA,qM,qL,zaa]
  apply hK;clear hK K
  refine xn ?_
  refine ⟨nh - (i+1),by omega,0,i+1,_,rfl,by omega,by omega,?_,rfl⟩
  simp [Env.put,Env.of,yag h1i]
 try simp only[RL]at h
 obtain rfl:nh=i:=by omega
 refine W.exit ?_
 refine xe ?_
 refine xe ?_
 refine XBlock.hit ?_
 refine xn ?_
 refine W.r fun K hK=>?_
 simp(disch:=omega)only[↓RU,RW,↓reduceIte,qE,reduceCtorEq,iP,↓RS,RG,qA,qM,qL]
 apply hK;clear hK K
 refine W.ret ?_
 refine Br rfl ?_
 rfl
theorem z8k {g:List (List Int)} {nh nw:Nat} (hg:GW g nh nw) (rs:List Rect):PC Tryz.prog 64 [zar g rs] (.bool (decide (zsk g 4 nw nh=0))) true:=by
 refine PC.of ⟨Tryz.func64,by kernel_rfl,rfl,by kernel_rfl⟩ zav mixed (by show 1≤Tryz.f64.ntmps; decide) ?_
 refine W.r fun K hK=>?_
 simp(disch:=omega)only[↓RU,RW,↓reduceIte,qE,reduceCtorEq,iP]
 apply hK;clear hK K
 refine W.r fun K hK=>?_
 simp(disch:=omega)only[↓RU,RW,↓reduceIte,qE,reduceCtorEq,iP,qN,w64,zaa]
 refine zac.pc (zy0 hg rs 4) rfl (.inl rfl) ?_
 simp(disch:=omega)only[↓RU,RW,↓reduceIte,qE,reduceCtorEq,iP,qN,w64,zaa]
 apply hK;clear hK K
 refine W.ret ?_
 refine Br rfl ?_
 rfl
def z9e (z:Int):UInt8:=UInt8.ofNat (97+z.toNat)
def zru (row:List Int):Txt:=row.map z9e
def zf9 (g:List (List Int)):List Txt:=g.map zru
theorem ykz {z:Int} (h:0≤z):IntKind.u8.wrap (97+z)=((z9e z).toNat:Int):=by
 obtain ⟨n,rfl⟩:=Int.eq_ofNat_of_zero_le h
 exact yi8
def stB (o:List Txt) (vo vb:Nat) (l:Txt) (vq t:Nat):Store :=
 match l with
 | []=>⟨[.arr vo 9 1 (o.map .str),.arr vb 109 2 [.nilp,.nils]],t⟩
 | l=>⟨[.arr vo 9 1 (o.map .str),.arr vb 109 2 [.ref 1 vb 0,.loc 2 vq 0 l.length],.arr vq 5 1 (l.map eB)],t⟩
theorem ykq {o:List Txt} {vo vb:Nat} {l:Txt} {vq t:Nat} (h:l≠[]):stB o vo vb l vq t=⟨[.arr vo 9 1 (o.map .str),.arr vb 109 2 [.ref 1 vb 0,.loc 2 vq 0 l.length],.arr vq 5 1 (l.map eB)],t⟩:=by
 cases l with
 | nil=>exact absurd rfl h
 | cons a l=>rfl
theorem yiq {S:Store} {k f:Nat} {sel:List Nat} (o:List Txt):(o.map PV.str).mapM (rn S k sel (f+1))=some (o.map PV.str):=zvz (by simp [scal])
theorem z6d {S:Store} {im:Bool} {f:Nat} (o:List Txt):(o.map PV.str).mapM (reify S im (f+1))=some (o.map PV.str):=zn1 (by simp [scal])
theorem z4g (row:List Int):(zru row).length=row.length:=by simp [zru]
theorem yir {row:List Int} (h:1≤row.length):zru row≠[]:=by
 intro e
 have:=z4g row
 rw [e]at this
 simp at this; omega
theorem ya5 {row:List Int} {k:Nat} {z:Int} (h:row[k]?=some z):zru (row.take (k+1))=zru (row.take k)++[z9e z]:=by simp [zru,tk h]
theorem ybw {g:List (List Int)} {o:List Txt} (hl:o.length=g.length) (h:∀ j,j<g.length→o[j]?=(zf9 g)[j]?):o=zf9 g:=by
 refine List.ext_getElem? fun j=>?_
 by_cases hj:j<g.length
 ·exact h j hj
 rw [List.getElem?_eq_none (by omega),List.getElem?_eq_none (by simp [zf9]; omega)]
theorem zm7 {g:List (List Int)} {j:Nat} {row:List Int} (h:g[j]?=some row):(zf9 g)[j]?=some (zru row):=by simp [zf9,h]
section
open Go Go.RowKit
set_option maxHeartbeats 1000000 in
set_option maxRecDepth 100000 in
theorem zsc (b:Nat) (w:World) (h0:w.cell? ⟨b,0,none⟩=some (.pointer (some ⟨b,0,none⟩))) :
  Calls Tryz.prog 112 #[.pointer (some ⟨b,0,none⟩)] w fun e w'=>e = .returned (.tuple #[])∧w'=w:=by
 obtain ⟨j,d,z,hj,_⟩:=(zav 109 (by decide)).1
 go_enter Tryz.func112,Tryz.ntmps112
 go_wp2
 rw [Lib.run_neq_ptr_same w _ Tryz.underlying107 hj]
 go_wp2
 go_end0
 exact ⟨rfl,rfl⟩
theorem ylo (count:Nat) (hn:1≤count):liesAt Tryz.prog Tryz.prog.depth 109 count 0 109 1=true:=by
 have hc:Tryz.prog.cellsOf 109=2:=by kernel_rfl
 have hd:Tryz.prog.depth=(2*(Tryz.prog.types.size+Made.depth)+1)+1:=rfl
 rw [hd]
 simp only[liesAt,Bool.or_eq_true]
 left
 rw [hd]
 simp [rowAt,hc,hn,sameLayout]
set_option maxHeartbeats 1000000 in
set_option maxRecDepth 100000 in
theorem zqd (b n:Nat) (hn:2≤n) (w:World) (h0:w.cell? ⟨b,0,none⟩=some (.pointer none)) (hsh:w.shape? b=some (109,n)) (hfz:w.frozen? ⟨b,0,none⟩=false) :
  Calls Tryz.prog 112 #[.pointer (some ⟨b,0,none⟩)] w fun e w'=>e = .returned (.tuple #[])∧w'=w.setCell ⟨b,0,none⟩ (.pointer (some ⟨b,0,none⟩)):=by
 obtain ⟨j,d,z,hj,hd,hf,hsz,hby,hz,_⟩:=(zav 109 (by decide)).1
 have hjs:j.size≠0:=by rw [hsz]; decide
 have hlies:liesAt Tryz.prog Tryz.prog.depth 109 (n / Tryz.prog.cellsOf 109) 0 109 1=true:=by
  rw [show Tryz.prog.cellsOf 109=2 by kernel_rfl]
  exact ylo _ (by omega)
 go_enter Tryz.func112,Tryz.ntmps112
 go_wp2
 rw [Lib.run_to_unsafe w ⟨b,0,none⟩ Tryz.underlying107 Tryz.underlying153 hj hjs hsh (show 0<n by omega)]
 simp only[Result.andThen]
 rw [Oper.upon_value]
 go_wp2
 rw [run_callFunc_extern Tryz.func129 (by kernel_rfl) (by kernel_rfl) (by kernel_rfl) (e:=Extern.AbiNoEscape.same) (by kernel_rfl)]
 rw [Lib.run_noEscape]
 simp only[Result.andThen]
 rw [Oper.upon_value]
 go_wp2
 rw [Lib.run_from_unsafe w ⟨b,0,none⟩ Tryz.underlying153 Tryz.underlying107 hj hsh hlies]
 simp only[Result.andThen]
 rw [Oper.upon_value]
 go_wp2
 go_end0
 exact ⟨rfl,rfl⟩
set_option maxHeartbeats 1000000 in
set_option maxRecDepth 100000 in
theorem zup (b g cap:Nat) (cur:Array Value) (fz:Nat × Nat) (l:List UInt8) (w:World) (hbk:w.cell? ⟨b,1,none⟩=some (.slice (some ⟨g,0,none⟩) l.length cap))
  (hg:w.heap[g]?=some (.cells cur 5 fz)) (hc:l.length≤cur.size) (hcap:cap≠0) (h63:l.length≤9223372036854775807) (h0:l≠[])
  (hl:∀ (j:Nat) x,l[j]?=some x→cur[j]?=some (.int .u8 x.toNat)) :
  Calls Tryz.prog 85 #[.pointer (some ⟨b,0,none⟩)] w fun e w'=>e = .returned (.string ⟨l.toArray⟩)∧w'=w.drew.freeze ⟨g,0,none⟩ l.length:=by
 have c1:w.drew.cell? ⟨b,1,none⟩=some (.slice (some ⟨g,0,none⟩) l.length cap):=hbk
 have hSD:(Builtin.unsafeSliceData_ #[72] 136 #[.slice (some ⟨g,0,none⟩) l.length cap]).run Tryz.prog w.drew = .ok (.pointer (some ⟨g,0,none⟩)) w.drew :=
  Lib.run_unsafeSliceData_row _ _ _ _ _ _ hcap
 have hUS:(Builtin.unsafeString_ #[136,3] 9 #[.pointer (some ⟨g,0,none⟩),.int .i64 l.length]).run Tryz.prog w.drew = .ok (.string ⟨l.toArray⟩) (w.drew.freeze ⟨g,0,none⟩ l.length):=by
  have hg':w.drew.heap[g]?=some (.cells cur 5 fz):=hg
  refine Lib.run_unsafeString_row w.drew 136 3 9 5 Tryz.underlying136 (by kernel_rfl) g cur.size (by simp [World.shape?,hg']) l h0 hc h63 ?_
  intro j x hx
  by_cases hj:j=0
  ·subst hj; simp [World.cell?,Addr.add,hg',hl 0 x hx]
  simp [World.cell?,Addr.add,hj,hg',hl j x hx]
 go_enter Tryz.func85,Tryz.ntmps85
 go_wp2
 go_region
 all_goals (go_wp2; go_ret; exact ⟨rfl,rfl⟩)
variable {F:Nat→Prop} {G:GSt} {w:World}
theorem zoh {S:Store} {o ver:Nat} {c0 c1:PV} (hS:S.obs[o]?=some (.arr ver 109 2 [c0,c1])) (h0:c0 = .nilp∨c0 = .ref o ver 0) :
  Ev Tryz.prog 112 [.ref o ver 0] S fun v S'=>v = .tup []∧S'=⟨S.obs.set o (.arr ver 109 2 [.ref o ver 0,c1]),S.tick⟩:=by
 refine ⟨Fn.ent ⟨Tryz.func112,by kernel_rfl,rfl,by kernel_rfl⟩,fun F G w cargs hE hi hl hv=>?_⟩
 subst hE
 obtain ⟨c,rfl⟩:∃ c,cargs = #[c]:=by
  match cargs,hl with
  | ⟨[c]⟩,_=>exact ⟨c,rfl⟩
 have hco:G.er.cellsOf o ver=some [c0,c1]:=by simp [Store.cellsOf,hS]
 obtain ⟨et,sz,l,hG,rfl,hver⟩:=(hv 0 _ c rfl rfl).ref_at hi hco
 obtain ⟨l2,hG2⟩:=zf3 hS
 rw [hG]at hG2
 cases hG2
 obtain ⟨cs,⟨fz,hb,hz⟩,hcs,hle,hcell⟩:=hi.arr o _ _ _ _ l hG
 obtain ⟨-,v0,hv0,hr0⟩:=hcell 0 c0 rfl
 obtain ⟨hc1,v1,hv1,hr1⟩:=hcell 1 c1 rfl
 have hle2:2≤cs.size:=by simp only[List.length_cons,List.length_nil]at hle; omega
 have hself:∀ (G':GSt),G.tick≤G'.tick→(∀ ob l',G'.obs[o]?=some (ob,l')→ob.ver=ver→∃ et sz cells,ob = .arr ver et sz cells∧l'=l)→VR w.heap F G' (.ref o ver 0) (.pointer (some ⟨l.blk,0,none⟩)):=by
  intro G' ht h
  refine .ref _ _ _ _ (Nat.lt_of_lt_of_le hver ht) fun ob l' h1 h2=>?_
  obtain ⟨a,b,c,d,rfl⟩:=h ob l' h1 h2
  exact ⟨a,b,c,d,rfl⟩
 have hcell0:w.cell? ⟨l.blk,0,none⟩=some v0:=by simp [World.cell?,hb,hv0]
 have put:∀ w':World,w'.os=w.os→w'.tape=w.tape→w'.output=w.output→w.drawn≤w'.drawn→w'.heap.size=w.heap.size→(∀ b,b≠l.blk→w'.heap[b]?=w.heap[b]?) →
   (∃ cs':Array Value,w'.heap[l.blk]?=some (.cells cs' 109 fz)∧cs'.size=cs.size∧cs'[0]?=some (.pointer (some ⟨l.blk,0,none⟩))∧cs'[1]?=some v1) →
   Inv F ⟨G.obs.set o (.arr ver 109 2 [.ref o ver 0,c1],l),G.tick⟩ w'∧Next F G w F ⟨G.obs.set o (.arr ver 109 2 [.ref o ver 0,c1],l),G.tick⟩ w':=by
  rintro w' h1 h2 h3 hd h4 h5 ⟨cs',k1,k2,k3,k4⟩
  refine zh2 hi hG _ l G.tick w' h1 h2 h3 hd (by omega) (.inl rfl) (fun b _ hb=>h5 b hb) (qR _) (show ver<G.tick from hver) (.inl ⟨rfl,by simp [Ob.like],rfl⟩) ?_
  refine ⟨cs',⟨fz,k1,hz.of k2⟩,by omega,by simp; omega,?_⟩
  rintro (_ | _ | i) p hp
  ·simp at hp; subst hp
   exact ⟨rfl,_,k3,hself G (qR _) fun ob l' h1 h2=>by rw [hG]at h1; cases h1; exact ⟨_,_,_,rfl,rfl⟩⟩
  ·simp at hp; subst hp
   exact ⟨hc1,v1,k4,hr1⟩
  simp at hp
 have er:∀ ob,(⟨G.obs.set o (ob,l),G.tick⟩:GSt).er=⟨G.er.obs.set o ob,G.er.tick⟩:=by intro ob; simp [GSt.er,List.map_set]
 rcases h0 with rfl | rfl
 ·have hv0':v0 = .pointer none:=by cases hr0 with | imm _ _ h=>cases h; rfl
  subst hv0'
  refine (zqd l.blk cs.size hle2 w hcell0 (by simp [World.shape?,hb]) (by obtain ⟨lo,hi'⟩:=fz; simp only[World.frozen?,hb,Bool.and_eq_false_iff,decide_eq_false_iff_not]; rcases hz with h | h <;> simp only at h <;> omega)).mono ?_
  rintro e w' ⟨rfl,rfl⟩
  obtain ⟨i1,n1⟩:=put (w.setCell ⟨l.blk,0,none⟩ (.pointer (some ⟨l.blk,0,none⟩))) rfl rfl rfl (qR _) (by simp) (fun b hb=>by simp [World.setCell,Array.getElem?_modify,Ne.symm hb])
   ⟨cs.setIfInBounds 0 (.pointer (some ⟨l.blk,0,none⟩)),by simp [World.setCell,Array.getElem?_modify,hb],by simp,by rw [Array.getElem?_setIfInBounds,if_pos rfl,if_pos (by omega)],by simp [Array.getElem?_setIfInBounds,hv1]⟩
  exact ⟨_,_,F,_,rfl,⟨rfl,er _⟩,i1,n1,.tup [] #[] rfl (by simp)⟩
 have hv0':v0 = .pointer (some ⟨l.blk,0,none⟩):=by
  obtain ⟨_,_,l3,h1,h2,_⟩:=hr0.ref_at hi hco
  rw [hG]at h1; cases h1; exact h2
 subst hv0'
 refine (zsc l.blk w hcell0).mono ?_
 rintro e w' ⟨rfl,rfl⟩
 obtain ⟨i1,n1⟩:=put w' rfl rfl rfl (qR _) rfl (fun _ _=>rfl) ⟨cs,hb,rfl,hv0,hv1⟩
 exact ⟨_,_,F,_,rfl,⟨rfl,er _⟩,i1,n1,.tup [] #[] rfl (by simp)⟩
theorem zo5 {A:List Ob} {t ver vq:Nat} {c0:PV} {l:Txt} (h0:l≠[]) :
  Ev Tryz.prog 85 [.ref A.length ver 0] ⟨A++[.arr ver 109 2 [c0,.loc (A.length+1) vq 0 l.length],.arr vq 5 1 (l.map eB)],t⟩ fun v S'=>v = .str l∧S'=⟨A,t⟩:=by
 refine ⟨Fn.ent ⟨Tryz.func85,by kernel_rfl,rfl,by kernel_rfl⟩,fun F G w cargs hE hi hl hv=>?_⟩
 obtain ⟨c,rfl⟩:∃ c,cargs = #[c]:=by
  match cargs,hl with
  | ⟨[c]⟩,_=>exact ⟨c,rfl⟩
 have hobs:G.er.obs=A++[.arr ver 109 2 [c0,.loc (A.length+1) vq 0 l.length],.arr vq 5 1 (l.map eB)]:=by rw [hE]
 have htk:G.tick=t:=congrArg Store.tick hE
 have hSo:G.er.obs[A.length]?=some (.arr ver 109 2 [c0,.loc (A.length+1) vq 0 l.length]):=by rw [hobs]; simp
 have hSq:G.er.obs[A.length+1]?=some (.arr vq 5 1 (l.map eB)):=by rw [hobs]; simp
 obtain ⟨et,sz,lo,hGo,rfl,hver⟩:=(hv 0 _ c rfl rfl).ref_at hi (cells:=[c0,.loc (A.length+1) vq 0 l.length]) (by simp [Store.cellsOf,hSo])
 obtain ⟨lo2,hGo2⟩:=zf3 hSo
 rw [hGo]at hGo2
 cases hGo2
 obtain ⟨lq,hGq⟩:=zf3 hSq
 obtain ⟨cs,⟨fo,hb,-⟩,hcs,hle,hcell⟩:=hi.arr _ _ _ _ _ lo hGo
 obtain ⟨cq,⟨fq,hbq,-⟩,hcq,hleq,hcellq⟩:=hi.arr _ _ _ _ _ lq hGq
 obtain ⟨-,v0,hv0,hr0⟩:=hcell 0 c0 rfl
 obtain ⟨-,v1,hv1,hr1⟩:=hcell 1 _ rfl
 obtain ⟨_,_,lq2,cap,hGq2,rfl,_,hnc,hcm,hroom⟩:=hr1.loc_at hi (cells:=l.map eB) (by simp [Store.cellsOf,hSq])
 rw [hGq]at hGq2
 cases hGq2
 have hl0:l.length≠0:=by simpa using h0
 have hc1:w.cell? ⟨lo.blk,1,none⟩=some (.slice (some ⟨lq.blk,0,none⟩) l.length cap):=by simp [World.cell?,hb,hv1]
 refine (zup lo.blk lq.blk cap cq fq l w hc1 hbq (by simp at hleq; omega) (by omega) (by unfold maxLen at hcm; omega) h0 ?_).mono ?_
 ·intro j x hx
  obtain ⟨-,v,k1,k2⟩:=hcellq j (eB x) (by simp [hx])
  rw [k1,k2.int]
 ·rintro e w' ⟨rfl,rfl⟩
  have hoth:∀ b,b≠lq.blk→(w.drew.freeze ⟨lq.blk,0,none⟩ l.length).heap[b]?=w.heap[b]?:=by
   intro b hb'
   show _=w.drew.heap[b]?
   simp only[World.freeze,if_neg hl0,Array.getElem?_modify,Ne.symm hb',if_false]
  have hsz:(w.drew.freeze ⟨lq.blk,0,none⟩ l.length).heap.size=w.heap.size:=by
   show (w.drew.freeze ⟨lq.blk,0,none⟩ l.length).heap.size=w.drew.heap.size
   simp only[World.freeze,if_neg hl0,Array.size_modify]
  have hos:∀ w2:World,(w2.freeze ⟨lq.blk,0,none⟩ l.length).os=w2.os∧(w2.freeze ⟨lq.blk,0,none⟩ l.length).tape=w2.tape∧(w2.freeze ⟨lq.blk,0,none⟩ l.length).output=w2.output:=by
   intro w2; simp [World.freeze,hl0]
  have nx:Next F G w F (G.take A.length) (w.drew.freeze ⟨lq.blk,0,none⟩ l.length) :=
   ⟨(hos _).1,(hos _).2.1,(hos _).2.2,by omega,fun _ h=>h,fun _ h => .inl h,fun o x h => .inr ⟨o,x,zc2 h,rfl⟩,qR _,
    fun b _ hG=>hoth b fun e=>hG _ _ hGq e.symm,fun _ ob' _ h _=>⟨ob',zc2 h,rfl,Ob.like.refl _⟩,by simp [World.freeze,hl0]⟩
  have tlt:∀ (o:Nat) x,(G.take A.length).obs[o]?=some x→o<A.length:=by
   intro o x hx
   have:=(List.getElem?_eq_some_iff.1 hx).1
   simp only[GSt.take,List.length_take]at this; omega
  refine ⟨.str l,_,F,G.take A.length,rfl,⟨rfl,?_⟩,zje (fun b hb=>by rw [hsz]; exact hi.fr b hb) (fun o ob l' h=>hi.ver o ob l' (zc2 h)) (fun o ob l' h=>hi.nF o ob l' (zc2 h))
   (fun o ob l' h=>(hi.holds (zc2 h)).next hi nx (hoth _ fun e=>?_)) (fun o o' x x' h h'=>hi.inj o o' x x' (zc2 h) (zc2 h')),nx,.imm _ _ (.str _ _ rfl)⟩
  ·rw [zjr,hE]; simp [Store.take]
  have:=hi.inj o _ _ _ (zc2 h) hGq e
  have:=tlt o _ h
  omega
end
theorem zwj {o:List Txt} {vo vb t:Nat} (x:UInt8):Ev Tryz.prog 84 [.ref 1 vb 0,eB x] ⟨[.arr vo 9 1 (o.map .str),.arr vb 109 2 [.nilp,.nils]],t⟩ fun v S=>v = .undef∧∃ vq t2:Nat,S=⟨[.arr vo 9 1 (o.map .str),.arr vb 109 2 [.ref 1 vb 0,.loc 2 vq 0 ([x]).length],.arr vq 5 1 (([x]).map eB)],t2⟩:=by
 refine Ev.of ⟨Tryz.func84,by kernel_rfl,rfl,by kernel_rfl⟩ zav mixed (by show 2≤Tryz.f84.ntmps; decide) ?_
 refine W.r fun K hK=>?_
 simp(disch:=omega)only[↓RU,RW,↓reduceIte,qE,reduceCtorEq,iP,↓RS,RG,qA,qM,qL]
 apply hK;clear hK K
 refine W.r fun K hK=>?_
 simp(disch:=omega)only[↓RU,RW,↓reduceIte,qE,reduceCtorEq,iP,qN,↓RS,RG,qA,qM,qL,List.set_cons_succ,List.set_cons_zero]
 refine zac.ev (zoh (S:=⟨[.arr vo 9 1 (o.map .str),.arr vb 109 2 [.nilp,.nils]],t⟩) (o:=1) rfl (.inl rfl)) ?_
 rintro _ _ ⟨rfl,rfl⟩
 simp(disch:=omega)only[↓RU,RW,↓reduceIte,qE,reduceCtorEq,iP,qN,↓RS,RG,qA,qM,qL,List.set_cons_succ,List.set_cons_zero]
 apply hK;clear hK K
 refine W.joinS [] (fun vs S=>vs=[]∧∃ vq t2:Nat,S=⟨[.arr vo 9 1 (o.map .str),.arr vb 109 2 [.ref 1 vb 0,.loc 2 vq 0 ([x]).length],.arr vq 5 1 (([x]).map eB)],t2⟩) ?_ ?_
 ·
  refine W.k fun K hK=>?_
  simp(disch:=omega)only[↓RU,RW,↓reduceIte,qE,reduceCtorEq,iP,↓RS,RG,qA,qM,qL,ty6,ty8,ylt,ylu,zhv]
  apply hK;clear hK K
  refine xn ?_
  refine ⟨2,[3],[],⟨[.arr vo 9 1 (o.map .str),.arr vb 109 2 [.ref 1 vb 0,.loc 2 (t+2) 0 ([x]).length],.arr (t+2) 5 1 (([x]).map eB)],(t+3)⟩,?_,?_,rfl,t+2,t+3,rfl⟩
  ·simp [-qU,Env.put,Env.of,zai,za9,zae,zak,zam,zao,zbd,zbe,zb2,zbc,zaz,zbf,zb1,zb3,za1,za0,zap,zbb,zbg,zb0,zax,zaw,zan,zay,zba,zdr,qS,qP,qC]
  simp [-qU,Env.put,Env.of,zai,za9,zae,zak,zam,zao,zbd,zbe,zb2,zbc,zaz,zbf,zb1,zb3,za1,za0,zap,zbb,zbg,zb0,zax,zaw,zan,zay,zba,zdr,qS,qP,qC,yiq]
 rintro vs S - ⟨rfl,vq,t2,rfl⟩
 refine W.r fun K hK=>?_
 simp(disch:=omega)only[↓RU,RW,↓reduceIte,qE,reduceCtorEq,iP,↓RS,RG,qA,qM,qL]
 apply hK;clear hK K
 refine W.ret ?_
 refine Br rfl ?_
 exact ⟨_,rfl,vq,t2,zbh⟩
theorem zwk {o:List Txt} {vo vb vq t:Nat} {l:Txt} (hl:l.length<2147483647) (x:UInt8):Ev Tryz.prog 84 [.ref 1 vb 0,eB x] ⟨[.arr vo 9 1 (o.map .str),.arr vb 109 2 [.ref 1 vb 0,.loc 2 vq 0 (l).length],.arr vq 5 1 ((l).map eB)],t⟩ fun v S=>v = .undef∧∃ vq t2:Nat,S=⟨[.arr vo 9 1 (o.map .str),.arr vb 109 2 [.ref 1 vb 0,.loc 2 vq 0 (l++[x]).length],.arr vq 5 1 ((l++[x]).map eB)],t2⟩:=by
 refine Ev.of ⟨Tryz.func84,by kernel_rfl,rfl,by kernel_rfl⟩ zav mixed (by show 2≤Tryz.f84.ntmps; decide) ?_
 refine W.r fun K hK=>?_
 simp(disch:=omega)only[↓RU,RW,↓reduceIte,qE,reduceCtorEq,iP,↓RS,RG,qA,qM,qL]
 apply hK;clear hK K
 refine W.r fun K hK=>?_
 simp(disch:=omega)only[↓RU,RW,↓reduceIte,qE,reduceCtorEq,iP,qN,↓RS,RG,qA,qM,qL,List.set_cons_succ,List.set_cons_zero]
 refine zac.ev (zoh (S:=⟨[.arr vo 9 1 (o.map .str),.arr vb 109 2 [.ref 1 vb 0,.loc 2 vq 0 (l).length],.arr vq 5 1 ((l).map eB)],t⟩) (o:=1) rfl (.inr rfl)) ?_
 rintro _ _ ⟨rfl,rfl⟩
 simp(disch:=omega)only[↓RU,RW,↓reduceIte,qE,reduceCtorEq,iP,qN,↓RS,RG,qA,qM,qL,List.set_cons_succ,List.set_cons_zero]
 apply hK;clear hK K
 refine W.r fun K hK=>?_
 simp(disch:=omega)only[↓RU,RW,↓reduceIte,qE,reduceCtorEq,iP,↓RS,RG,qA,qM,qL,ty6,ty8,ylt,ylu,zhv]
 apply hK;clear hK K
 refine W.r fun K hK=>?_
 simp(disch:=omega)only[↓RU,RW,↓reduceIte,qE,reduceCtorEq,iP,↓RS,RG,qA,qM,qL]
 apply hK;clear hK K
 refine W.ret ?_
 refine Br rfl ?_
 exact ⟨3,rfl,t+1,t+2,by simp [zcs]⟩
theorem zz8 {o:List Txt} {vo vb vq t:Nat} {l:Txt} (hl:l.length<2147483647) (x:UInt8):Ev Tryz.prog 84 [.ref 1 vb 0,eB x] (stB o vo vb l vq t) fun v S=>v = .undef∧∃ vq2 t2:Nat,S=stB o vo vb (l++[x]) vq2 t2:=by
 cases l with
 | nil=>exact zwj x
 | cons a l=>exact zwk hl x
theorem z5b {o:List Txt} {vo vb vq t:Nat} {l:Txt} (h0:l≠[]):Ev Tryz.prog 85 [.ref 1 vb 0] (stB o vo vb l vq t) fun v S=>v = .str l∧S=⟨[.arr vo 9 1 (o.map .str)],t⟩:=by
 rw [ykq h0]
 exact zo5 (A:=[.arr vo 9 1 (o.map .str)]) h0
theorem ybz {g:List (List Int)} {nh nw:Nat} (hg:GW g nh nw) (rs:List Rect) (hz:∀ r∈g,∀ z∈r,0≤z∧z≤100):PC Tryz.prog 52 [zar g rs] (zbi (zf9 g)) true:=by
 have hl:=hg.1
 obtain ⟨hg1,hg2,hg3,hg4⟩:=hg.2.2
 refine PC.of ⟨Tryz.func52,by kernel_rfl,rfl,by kernel_rfl⟩ zav mixed (by show 1≤Tryz.f52.ntmps; decide) ?_
 refine W.r fun K hK=>?_
 simp(disch:=omega)only[↓RU,RW,↓reduceIte,qE,reduceCtorEq,iP,↓RS,RG,qA,qM,qL]
 apply hK;clear hK K
 refine W.r fun K hK=>?_
 simp(disch:=omega)only[↓RU,RW,↓reduceIte,qE,reduceCtorEq,iP,qN,↓RS,RG,qA,qM,qL,ty5,zal,hl,ze8,zpp,zex]
 refine zac.pc (zh1 g rs) rfl (.inl rfl) ?_
 simp(disch:=omega)only[↓RU,RW,↓reduceIte,qE,reduceCtorEq,iP,qN,↓RS,RG,qA,qM,qL,ty5,zal,hl,ze8,zpp,zex]
 apply hK;clear hK K
 refine W.seq ?_
 refine W.r fun K hK=>?_
 simp(disch:=omega)only[↓RU,RW,↓reduceIte,qE,reduceCtorEq,iP,↓RS,RG,qA,qM,qL,ty1,ty3,zab,zeo,zcl,za7,zaa,zep,za8,hl]
 apply hK;clear hK K
 refine W.block ?_
 refine W.loop [0,3,15,16,17] (fun n vs S=>∃ (i vo t:Nat) (o:List Txt),n=nh - i∧i≤nh∧o.length=nh∧(∀ j,j<i→o[j]?=(zf9 g)[j]?)∧vs=[zar g rs,.loc 0 vo 0 nh,zct g,.int .i64 nh,.int .i64 (i:Nat)]∧S=⟨[.arr vo 9 1 (o.map .str)],t⟩) nh ?_ ?_
 ·refine ⟨1,0,0,1,List.replicate nh [],rfl,Nat.zero_le _,by simp,fun j h=>absurd h (by omega),?_,?_⟩
  ·simp [Env.put,Env.of,zai,hl]
  simp [zcs,zpp]
 rintro n vs S - ⟨i,vo,t,o,rfl,h_i,hol,hdone,rfl,rfl⟩
 refine W.r fun K hK=>?_
 simp(disch:=omega)only[↓RU,RW,↓reduceIte,qE,reduceCtorEq,iP,w64,↓RS,RG,qA,qM,qL,zaa]
 apply hK;clear hK K
 refine W.seq ?_
 refine W.cond rfl (fun h=>?_) (fun h=>?_)
 ·try simp only[RL]at h
  obtain ⟨row,hrow,hrm⟩:=zaj (show i<g.length by omega)
  have hrl:=hg.2.1 row hrm
  have hrz:=hz row hrm
  refine W.skip ?_
  refine xn ?_
  refine W.seq ?_
  refine W.block ?_
  refine W.r fun K hK=>?_
  simp(disch:=omega)only[↓RU,RW,↓reduceIte,qE,reduceCtorEq,iP,↓RS,RG,qA,qM,qL,ty1,zab,zcl,zaa,hrow]
  apply hK;clear hK K
  refine W.r fun K hK=>?_
  simp(disch:=omega)only[↓RU,RW,↓reduceIte,qE,reduceCtorEq,iP,↓RS,RG,qA,qM,qL,ty6,ty8,ylt,ylu,zhv]
  apply hK;clear hK K
  refine W.seq ?_
  refine W.r fun K hK=>?_
  simp(disch:=omega)only[↓RU,RW,↓reduceIte,qE,reduceCtorEq,iP,↓RS,RG,qA,qM,qL,zab,zaa,hrl]
  apply hK;clear hK K
  refine W.block ?_
  refine W.loop [0,3,15,16,17,4,6,22,23,24] (fun n vs S=>∃ (k vb vq t:Nat),n=nw - k∧k≤nw∧vs=[zar g rs,.loc 0 vo 0 nh,zct g,.int .i64 nh,.int .i64 (i:Nat),.int .i64 (i:Nat),.ref 1 vb 0,eInts row,.int .i64 nw,.int .i64 (k:Nat)]∧S=stB o vo vb (zru (row.take k)) vq t) nw ?_ ?_
  ·refine ⟨2,0,_,0,_,rfl,Nat.zero_le _,?_,rfl⟩
   simp [Env.put,Env.of,hrl]
  rintro n vs S - ⟨k,vb,vq,t,rfl,h_k,rfl,rfl⟩
  refine W.r fun K hK=>?_
  simp(disch:=omega)only[↓RU,RW,↓reduceIte,qE,reduceCtorEq,iP,w64,↓RS,RG,qA,qM,qL,zaa]
  apply hK;clear hK K
  refine W.seq ?_
  refine W.cond rfl (fun h1=>?_) (fun h1=>?_)
  ·try simp only[RL]at h1
   obtain ⟨z,hzk,hzm⟩:=zaj (show k<row.length by omega)
   have hzb:=hrz z hzm
   have hul:=ykz hzb.1
   refine W.skip ?_
   refine xn ?_
   refine W.seq ?_
   refine W.block ?_
   refine W.r fun K hK=>?_
   simp(disch:=omega)only[↓RU,RW,↓reduceIte,qE,reduceCtorEq,iP,↓RS,RG,qA,qM,qL,zab,zaa,hzk]
   apply hK;clear hK K
   refine W.k fun K hK=>?_
   simp(disch:=omega)only[↓RU,RW,↓reduceIte,qE,reduceCtorEq,iP,w64,w64,qN,↓RS,RG,qA,qM,qL,zaa,zhv,hul]
   refine zac.ev (zz8 (by rw [z4g,List.length_take]; omega) (z9e z)) ?_
   rintro _ _ ⟨rfl,vq2,t2,rfl⟩
   simp(disch:=omega)only[↓RU,RW,↓reduceIte,qE,reduceCtorEq,iP,w64,w64,qN,↓RS,RG,qA,qM,qL,zaa,zhv,hul]
   apply hK;clear hK K
   refine XbN ?_
   refine xn ?_
   refine W.k fun K hK=>?_
   simp(disch:=omega)only[↓RU,RW,↓reduceIte,qE,reduceCtorEq,iP,w64,↓RS,RG,qA,qM,qL,zaa]
   apply hK;clear hK K
   refine xn ?_
   refine ⟨nw - (k+1),by omega,_,k+1,vb,vq2,t2,rfl,by omega,?_,by rw [ya5 hzk]; exact zbh⟩
   simp [Env.put,Env.of]
  try simp only[RL]at h1
  obtain rfl:nw=k:=by omega
  refine W.exit ?_
  refine xe ?_
  refine xe ?_
  refine XBlock.hit ?_
  refine xn ?_
  refine W.k fun K hK=>?_
  have htk:row.take nw=row:=qT (by omega)
  rw [htk]
  have hne:=yir (row:=row) (by omega)
  simp(disch:=omega)only[↓RU,RW,↓reduceIte,qE,reduceCtorEq,iP,qN,↓RS,RG,qA,qM,qL,ty5,zal,hol,zb8,ybe]
  refine zac.ev (z5b hne) ?_
  rintro _ _ ⟨rfl,rfl⟩
  simp(disch:=omega)only[↓RU,RW,↓reduceIte,qE,reduceCtorEq,iP,qN,↓RS,RG,qA,qM,qL,ty5,zal,hol,zb8,ybe]
  apply hK;clear hK K
  refine XbN ?_
  refine xn ?_
  refine W.k fun K hK=>?_
  simp(disch:=omega)only[↓RU,RW,↓reduceIte,qE,reduceCtorEq,iP,w64,↓RS,RG,qA,qM,qL,zaa]
  apply hK;clear hK K
  refine xn ?_
  refine ⟨nh - (i+1),by omega,1,i+1,vo,t,o.set i (zru row),rfl,by omega,by simp [hol],?_,?_,?_⟩
  ·intro j hj
   by_cases e:j=i
   ·subst e; rw [zm7 hrow,List.getElem?_set,if_pos rfl,if_pos (by omega)]
   rw [List.getElem?_set,if_neg (Ne.symm e)]; exact hdone j (by omega)
  ·simp [Env.put,Env.of]
  simp [zcs]
 try simp only[RL]at h
 obtain rfl:nh=i:=by omega
 refine W.exit ?_
 refine xe ?_
 refine xe ?_
 refine XBlock.hit ?_
 refine xn ?_
 refine W.r fun K hK=>?_
 simp(disch:=omega)only[↓RU,RW,↓reduceIte,qE,reduceCtorEq,iP,↓RS,RG,qA,qM,qL]
 apply hK;clear hK K
 refine W.ret ?_
 refine Br rfl ?_
 have hdo:=ybw (by omega) (fun j hj=>hdone j (by omega))
 subst hdo
 obtain rfl:nh=(zf9 g).length:=hol.symm
 exact zce (k:=9) rfl (by simp) (z6d _)
def mE (ks:List Int):List (PV × PV):=ks.zipIdx.map fun q=>(.int .i64 q.1,.int .i64 ((q.2:Nat):Int))
theorem zxz (ks:List Int):(mE ks).length=ks.length:=by simp [mE]
theorem yf4 (ks:List Int) (z:Int):mE (ks++[z])=mE ks++[(.int .i64 z,.int .i64 ((ks.length:Nat):Int))]:=by simp [mE,List.zipIdx_append]
theorem z1u {q:IntKind} {a b:Int}:zhd (.int q a) (.int q b)=some (decide (a=b)):=by
 simp only[zhd]
 by_cases h:a=b <;> simp [h]
theorem zno {z:Int}:∀ (ks:List Int) (i:Nat),findKey (.int .i64 z) ((ks.zipIdx i).map fun q=>(PV.int .i64 q.1,PV.int .i64 ((q.2:Nat):Int))) i=some (if ks.idxOf z=ks.length then none else some (i+ks.idxOf z,.int .i64 ((i+ks.idxOf z:Nat):Int)))
 | [],i=>by simp [findKey]
 | a::ks,i=>by
  simp only[List.zipIdx_cons,List.map_cons,findKey,z1u]
  by_cases h:z=a
  ·subst h
   simp [List.idxOf_cons]
  have h':(a == z)=false:=by simpa using Ne.symm h
  have:=zno (z:=z) ks (i+1)
  simp only[h,decide_false]
  rw [this,List.idxOf_cons,h']
  simp only[cond_false,List.length_cons,Nat.add_right_cancel_iff]
  have e:i+1+ks.idxOf z=i+(ks.idxOf z+1):=by omega
  rw [e]
theorem zoo {ks:List Int} {z:Int} (h:ks.idxOf z=ks.length):findKey (.int .i64 z) (mE ks) 0=some none:=by
 rw [mE,zno,if_pos h]
theorem zxl {ks:List Int} {z:Int} (h:¬ ks.idxOf z=ks.length):findKey (.int .i64 z) (mE ks) 0=some (some (ks.idxOf z,.int .i64 ((ks.idxOf z:Nat):Int))):=by
 rw [mE,zno,if_neg h]; simp
def Rect.Fit (b:Rect):Prop:=0≤b.row∧0≤b.col∧1≤b.high∧1≤b.wide∧b.row+b.high≤6∧b.col+b.wide≤6
theorem Rect.Fit.in_ {b:Rect} (h:b.Fit):b.In 1000:=by unfold Rect.Fit at h; unfold Rect.In; omega
theorem Rect.Fit.both {b o:Rect} (h:b.Fit) (k:o.Fit):(b.both o).Fit:=by
 unfold Rect.Fit at *
 simp only[Rect.both]
 omega
def zg3 (r c:Nat):Rect:=⟨r,c,1,1⟩
theorem zfo {r c:Nat} (hr:r<6) (hc:c<6):(zg3 r c).Fit:=by unfold Rect.Fit zg3; simp only; omega
theorem zd1 {r c:Nat}:(zg3 r c).cells=[.int .i64 r,.int .i64 c,.int .i64 1,.int .i64 1]:=rfl
def zhj (ks:List Int) (z:Int):List Int:=if ks.idxOf z=ks.length then ks++[z] else ks
def zi4 (ks:List Int) (rs:List Rect) (z:Int) (q:Rect):List Rect:=if ks.idxOf z=ks.length then rs++[q] else rs
def zps (ks:List Int) (rs:List Rect) (z:Int) (q:Rect):List Rect:=(zi4 ks rs z q).set (ks.idxOf z) (((zi4 ks rs z q).getD (ks.idxOf z) q).both q)
def zso (ks:List Int) (rs:List Rect):Prop:=rs.length=ks.length∧∀ b∈rs,b.Fit
theorem zso.nil:zso [] []:=⟨rfl,by simp⟩
theorem zhq {ks:List Int} {z:Int}:ks.idxOf z≤ks.length:=List.idxOf_le_length
theorem zso.in_ {ks:List Int} {rs:List Rect} (h:zso ks rs) {z:Int} {q:Rect} (hq:q.Fit):(zi4 ks rs z q).length=(zhj ks z).length∧(∀ b∈zi4 ks rs z q,b.Fit)∧∃ b,(zi4 ks rs z q)[ks.idxOf z]?=some b∧b.Fit:=by
 have h1:=h.1
 have h2:=zhq (ks:=ks) (z:=z)
 have hf:∀ b∈zi4 ks rs z q,b.Fit:=by
  unfold zi4
  split
  ·intro b hb
   rcases List.mem_append.1 hb with hb | hb
   ·exact h.2 b hb
   rw [List.mem_singleton]at hb; subst hb; exact hq
  exact h.2
 have hl:(zi4 ks rs z q).length=(zhj ks z).length:=by
  unfold zi4 zhj; split <;> simp [h1]
 refine ⟨hl,hf,?_⟩
 obtain ⟨b,hb,hm⟩:=zaj (show ks.idxOf z<(zi4 ks rs z q).length by rw [hl]; unfold zhj; split <;> (try rw [List.length_append,List.length_singleton]) <;> omega)
 exact ⟨b,hb,hf b hm⟩
theorem zso.step {ks:List Int} {rs:List Rect} (h:zso ks rs) {z:Int} {q:Rect} (hq:q.Fit):zso (zhj ks z) (zps ks rs z q):=by
 obtain ⟨h1,h2,b,hb,hbf⟩:=h.in_ (z:=z) hq
 refine ⟨by rw [zps,List.length_set,h1],fun c hc=>?_⟩
 unfold zps at hc
 rcases List.mem_or_eq_of_mem_set hc with hc | rfl
 ·exact h2 c hc
 rw [List.getD_eq_getElem?_getD,hb]; exact hbf.both hq
theorem z1v {ks:List Int} {rs:List Rect} {z:Int} {q b:Rect} (hb:(zi4 ks rs z q)[ks.idxOf z]?=some b):zps ks rs z q=(zi4 ks rs z q).set (ks.idxOf z) (b.both q):=by
 rw [zps,List.getD_eq_getElem?_getD,hb]; rfl
theorem zj6 {rs:List Rect} {n:Nat} {r:Rect} (h:n<rs.length):(rcs rs).take (n*4)++r.cells++(rcs rs).drop (n*4+4)=rcs (rs.set n r):=yij h
theorem z1s {S:Store} {k f:Nat} {sel:List Nat} (ks:List Int):((mE ks).mapM fun q=>(rn S k sel (f+1) q.1).bind fun a=>(rn S k sel (f+1) q.2).map fun b=>(a,b))=some (mE ks):=by
 have:∀ l:List (PV × PV),(∀ q∈l,∃ a b:Int,q=(.int .i64 a,.int .i64 b))→(l.mapM fun q=>(rn S k sel (f+1) q.1).bind fun a=>(rn S k sel (f+1) q.2).map fun b=>(a,b))=some l:=by
  intro l
  induction l with
  | nil=>intro _; rfl
  | cons q l ih =>
   intro h
   obtain ⟨a,b,rfl⟩:=h q (by simp)
   rw [qC,ih fun x hx=>h x (by simp [hx])]
   rfl
 refine this _ fun q hq=>?_
 obtain ⟨a,_,rfl⟩:=List.mem_map.1 hq
 exact ⟨_,_,rfl⟩
theorem zo2 {S:Store} {k f:Nat} {sel:List Nat} (rs:List Rect):(rcs rs).mapM (rn S k sel (f+1))=some (rcs rs):=zvz (z4k rs)
theorem zbz {T:Tab} {S:Store} {e:Env} {t:TypeId} {x:Operand}:zd2 T S e (.load t x)=zsj (T t) S (e.ev x):=rfl
theorem zcr {T:Tab} {S:Store} {e:Env} {x:Operand}:zd2 T S e (.nilCheck x)=zha S (e.ev x):=rfl
theorem zef {T:Tab} {S:Store} {e:Env} {t:TypeId} {x:Operand} {f:Nat}:zd2 T S e (.fieldAddr t x f)=zf7 T S t (e.ev x) f:=rfl
theorem zeg {T:Tab} {S:Store} {e:Env} {t:TypeId} {x i:Operand}:zd2 T S e (.indexAddr t x i)=zf8 T S t (e.ev x) (e.ev i):=rfl
theorem yam {r:Rect}:rcs [r]=r.cells:=by simp [rcs]
theorem ygb {rs:List Rect}:(rcs rs).take (rs.length*4)=rcs rs:=by rw [← zbw,List.take_length]
theorem zbn {r:Rect}:r.cells.length=4:=rfl
theorem zbp {r:Rect}:zb9 r.cells=True:=eq_true (by intro p hp; simp [Rect.cells]at hp; rcases hp with rfl | rfl | rfl | rfl <;> rfl)
def gcs (d:List (List Int)) (cur:PV) (m:Nat):List PV:=d.map eInts++cur::List.replicate m .nils
theorem zze {S:Store} {k f:Nat} {sel:List Nat} {d:List (List Int)} {cur cur2:PV} {m:Nat} (h:rn S k sel (f+1) cur=some cur2):(gcs d cur m).mapM (rn S k sel (f+1))=some (gcs d cur2 m):=by
 unfold gcs
 rw [qP,zb7 (l:=d.map eInts) (fun x hx=>by obtain ⟨a,_,rfl⟩:=List.mem_map.1 hx; rfl),qC,h,zb7 (l:=List.replicate m PV.nils) (fun x hx=>by obtain rfl:=List.eq_of_mem_replicate hx; rfl)]
 rfl
end Fw
end Go.Proofs.YtbbphnladjdllaaGreat
