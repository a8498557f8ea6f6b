/- The program's OrderSlide answers as the specification's, for all arguments: the statement FnExactOrderSlide. No condition. -/
import Derived.Test.YtddhgiafpmghpaaGreatJ4
import Derived.Test.YtddhgiafpmghpaaGreatJ3
set_option linter.all false
namespace Go.Proofs.YtddhgiafpmghpaaGreat
namespace Fw
open Go
open Nat renaming reduceEqDiff → qE, reduceLeDiff → qL, reduceAdd → qA, reduceMul → qM, le_refl → qR
open List renaming append_nil → qN, mapM_append → qP, mapM_cons → qC, mapM_map → qU, range_succ → qS, take_of_length_le → qT
open Bool renaming and_eq_true → qB, false_eq_true → qF
open Option renaming map_some → qO, map_eq_some_iff → qI
open Int renaming reduceToNat → qZ
theorem yd5 (p q r:Bool):p=false∨(p=true∧q=false)∨(p=true∧q=true∧r=false)∨(p=true∧q=true∧r=true):=by cases p <;> cases q <;> cases r <;> simp
theorem yfi (a b c d:Int):PC Tryz.prog 133 [(.agg [.int .i64 a,.int .i64 b,.int .i64 c,.int .i64 d])] (.bool (zxn a b c d)) true:=by
 refine PC.of ⟨Tryz.func133,by kernel_rfl,rfl,by kernel_rfl⟩ zam mixed (by show 1≤Tryz.f133.ntmps; decide) ?_
 refine W.r fun K hK=>?_
 simp(disch:=omega)only[↓RU,RV,RH,↓reduceIte,qE,reduceCtorEq,if_pos,↓RS,RG,qA,qM,qL,zcj,zaa]
 apply hK;clear hK K
 refine W.seq_draw (by kernel_rfl) fun K hK=>?_
 simp(disch:=omega)only[↓RU,RV,RH,↓reduceIte,qE,reduceCtorEq,if_pos,ztl,zmn,↓RS,RG,qA,qM,qL,zcj,zaa,Int.toNat_zero,Nat.zero_mul,qZ,qM,Nat.zero_add,Nat.mul_one,List.getElem?_cons_zero,List.getElem?_cons_succ]
 apply hK;clear hK K
 refine W.r fun K hK=>?_
 rcases yd5 (decide (b>max a d)) (decide (c<min a d)) (decide (a<d)) with g1 | ⟨g1,g2⟩ | ⟨g1,g2,g3⟩ | ⟨g1,g2,g3⟩
 ·skip
  simp(disch:=omega)only[↓RU,RV,RH,↓reduceIte,qE,reduceCtorEq,if_pos,w64,↓RS,RG,qA,qM,qL,zcj,zaa,Int.toNat_zero,Nat.zero_mul,qZ,qM,Nat.zero_add,Nat.mul_one,List.getElem?_cons_zero,List.getElem?_cons_succ,g1]
  apply hK;clear hK K
  refine W.r fun K hK=>?_
  rcases yd5 (decide (b<min a d)) (decide (c>max a d)) (decide (a>d)) with f1 | ⟨f1,f2⟩ | ⟨f1,f2,f3⟩ | ⟨f1,f2,f3⟩
  ·skip
   simp(disch:=omega)only[↓RU,RV,RH,↓reduceIte,qE,reduceCtorEq,if_pos,w64,↓RS,RG,qA,qM,qL,zcj,zaa,Int.toNat_zero,Nat.zero_mul,qZ,qM,Nat.zero_add,Nat.mul_one,List.getElem?_cons_zero,List.getElem?_cons_succ,f1]
   apply hK;clear hK K
   refine W.r fun K hK=>?_
   simp(disch:=omega)only[↓RU,RV,RH,↓reduceIte,qE,reduceCtorEq,if_pos,↓RS,RG,qA,qM,qL,Int.toNat_zero,Nat.zero_mul,qZ,qM,Nat.zero_add,Nat.mul_one,List.getElem?_cons_zero,List.getElem?_cons_succ]
   apply hK;clear hK K
   refine W.ret ?_
   refine Br rfl ?_
   simp only[zxn, *,Bool.and_true,Bool.and_false,Bool.false_and,Bool.true_and,Bool.or_false,Bool.false_or,Bool.true_or]
   rfl
  ·skip
   simp(disch:=omega)only[↓RU,RV,RH,↓reduceIte,qE,reduceCtorEq,if_pos,w64,↓RS,RG,qA,qM,qL,zcj,zaa,Int.toNat_zero,Nat.zero_mul,qZ,qM,Nat.zero_add,Nat.mul_one,List.getElem?_cons_zero,List.getElem?_cons_succ,f1,f2]
   apply hK;clear hK K
   refine W.r fun K hK=>?_
   simp(disch:=omega)only[↓RU,RV,RH,↓reduceIte,qE,reduceCtorEq,if_pos,↓RS,RG,qA,qM,qL,Int.toNat_zero,Nat.zero_mul,qZ,qM,Nat.zero_add,Nat.mul_one,List.getElem?_cons_zero,List.getElem?_cons_succ]
   apply hK;clear hK K
   refine W.ret ?_
   refine Br rfl ?_
   simp only[zxn, *,Bool.and_true,Bool.and_false,Bool.false_and,Bool.true_and,Bool.or_false,Bool.false_or,Bool.true_or]
   rfl
  ·skip
   simp(disch:=omega)only[↓RU,RV,RH,↓reduceIte,qE,reduceCtorEq,if_pos,w64,↓RS,RG,qA,qM,qL,zcj,zaa,Int.toNat_zero,Nat.zero_mul,qZ,qM,Nat.zero_add,Nat.mul_one,List.getElem?_cons_zero,List.getElem?_cons_succ,f1,f2,f3]
   apply hK;clear hK K
   refine W.r fun K hK=>?_
   simp(disch:=omega)only[↓RU,RV,RH,↓reduceIte,qE,reduceCtorEq,if_pos,↓RS,RG,qA,qM,qL,Int.toNat_zero,Nat.zero_mul,qZ,qM,Nat.zero_add,Nat.mul_one,List.getElem?_cons_zero,List.getElem?_cons_succ]
   apply hK;clear hK K
   refine W.ret ?_
   refine Br rfl ?_
   simp only[zxn, *,Bool.and_true,Bool.and_false,Bool.false_and,Bool.true_and,Bool.or_false,Bool.false_or,Bool.true_or]
   rfl
  skip
  simp(disch:=omega)only[↓RU,RV,RH,↓reduceIte,qE,reduceCtorEq,if_pos,w64,↓RS,RG,qA,qM,qL,zcj,zaa,Int.toNat_zero,Nat.zero_mul,qZ,qM,Nat.zero_add,Nat.mul_one,List.getElem?_cons_zero,List.getElem?_cons_succ,f1,f2,f3]
  apply hK;clear hK K
  refine W.r fun K hK=>?_
  simp(disch:=omega)only[↓RU,RV,RH,↓reduceIte,qE,reduceCtorEq,if_pos,↓RS,RG,qA,qM,qL,Int.toNat_zero,Nat.zero_mul,qZ,qM,Nat.zero_add,Nat.mul_one,List.getElem?_cons_zero,List.getElem?_cons_succ]
  apply hK;clear hK K
  refine W.ret ?_
  refine Br rfl ?_
  simp only[zxn, *,Bool.and_true,Bool.and_false,Bool.false_and,Bool.true_and,Bool.or_false,Bool.false_or,Bool.true_or]
  rfl
 ·skip
  simp(disch:=omega)only[↓RU,RV,RH,↓reduceIte,qE,reduceCtorEq,if_pos,w64,↓RS,RG,qA,qM,qL,zcj,zaa,Int.toNat_zero,Nat.zero_mul,qZ,qM,Nat.zero_add,Nat.mul_one,List.getElem?_cons_zero,List.getElem?_cons_succ,g1,g2]
  apply hK;clear hK K
  refine W.r fun K hK=>?_
  rcases yd5 (decide (b<min a d)) (decide (c>max a d)) (decide (a>d)) with f1 | ⟨f1,f2⟩ | ⟨f1,f2,f3⟩ | ⟨f1,f2,f3⟩
  ·skip
   simp(disch:=omega)only[↓RU,RV,RH,↓reduceIte,qE,reduceCtorEq,if_pos,w64,↓RS,RG,qA,qM,qL,zcj,zaa,Int.toNat_zero,Nat.zero_mul,qZ,qM,Nat.zero_add,Nat.mul_one,List.getElem?_cons_zero,List.getElem?_cons_succ,f1]
   apply hK;clear hK K
   refine W.r fun K hK=>?_
   simp(disch:=omega)only[↓RU,RV,RH,↓reduceIte,qE,reduceCtorEq,if_pos,↓RS,RG,qA,qM,qL,Int.toNat_zero,Nat.zero_mul,qZ,qM,Nat.zero_add,Nat.mul_one,List.getElem?_cons_zero,List.getElem?_cons_succ]
   apply hK;clear hK K
   refine W.ret ?_
   refine Br rfl ?_
   simp only[zxn, *,Bool.and_true,Bool.and_false,Bool.false_and,Bool.true_and,Bool.or_false,Bool.false_or,Bool.true_or]
   rfl
  ·skip
   simp(disch:=omega)only[↓RU,RV,RH,↓reduceIte,qE,reduceCtorEq,if_pos,w64,↓RS,RG,qA,qM,qL,zcj,zaa,Int.toNat_zero,Nat.zero_mul,qZ,qM,Nat.zero_add,Nat.mul_one,List.getElem?_cons_zero,List.getElem?_cons_succ,f1,f2]
   apply hK;clear hK K
   refine W.r fun K hK=>?_
   simp(disch:=omega)only[↓RU,RV,RH,↓reduceIte,qE,reduceCtorEq,if_pos,↓RS,RG,qA,qM,qL,Int.toNat_zero,Nat.zero_mul,qZ,qM,Nat.zero_add,Nat.mul_one,List.getElem?_cons_zero,List.getElem?_cons_succ]
   apply hK;clear hK K
   refine W.ret ?_
   refine Br rfl ?_
   simp only[zxn, *,Bool.and_true,Bool.and_false,Bool.false_and,Bool.true_and,Bool.or_false,Bool.false_or,Bool.true_or]
   rfl
  ·skip
   simp(disch:=omega)only[↓RU,RV,RH,↓reduceIte,qE,reduceCtorEq,if_pos,w64,↓RS,RG,qA,qM,qL,zcj,zaa,Int.toNat_zero,Nat.zero_mul,qZ,qM,Nat.zero_add,Nat.mul_one,List.getElem?_cons_zero,List.getElem?_cons_succ,f1,f2,f3]
   apply hK;clear hK K
   refine W.r fun K hK=>?_
   simp(disch:=omega)only[↓RU,RV,RH,↓reduceIte,qE,reduceCtorEq,if_pos,↓RS,RG,qA,qM,qL,Int.toNat_zero,Nat.zero_mul,qZ,qM,Nat.zero_add,Nat.mul_one,List.getElem?_cons_zero,List.getElem?_cons_succ]
   apply hK;clear hK K
   refine W.ret ?_
   refine Br rfl ?_
   simp only[zxn, *,Bool.and_true,Bool.and_false,Bool.false_and,Bool.true_and,Bool.or_false,Bool.false_or,Bool.true_or]
   rfl
  skip
  simp(disch:=omega)only[↓RU,RV,RH,↓reduceIte,qE,reduceCtorEq,if_pos,w64,↓RS,RG,qA,qM,qL,zcj,zaa,Int.toNat_zero,Nat.zero_mul,qZ,qM,Nat.zero_add,Nat.mul_one,List.getElem?_cons_zero,List.getElem?_cons_succ,f1,f2,f3]
  apply hK;clear hK K
  refine W.r fun K hK=>?_
  simp(disch:=omega)only[↓RU,RV,RH,↓reduceIte,qE,reduceCtorEq,if_pos,↓RS,RG,qA,qM,qL,Int.toNat_zero,Nat.zero_mul,qZ,qM,Nat.zero_add,Nat.mul_one,List.getElem?_cons_zero,List.getElem?_cons_succ]
  apply hK;clear hK K
  refine W.ret ?_
  refine Br rfl ?_
  simp only[zxn, *,Bool.and_true,Bool.and_false,Bool.false_and,Bool.true_and,Bool.or_false,Bool.false_or,Bool.true_or]
  rfl
 ·skip
  simp(disch:=omega)only[↓RU,RV,RH,↓reduceIte,qE,reduceCtorEq,if_pos,w64,↓RS,RG,qA,qM,qL,zcj,zaa,Int.toNat_zero,Nat.zero_mul,qZ,qM,Nat.zero_add,Nat.mul_one,List.getElem?_cons_zero,List.getElem?_cons_succ,g1,g2,g3]
  apply hK;clear hK K
  refine W.r fun K hK=>?_
  rcases yd5 (decide (b<min a d)) (decide (c>max a d)) (decide (a>d)) with f1 | ⟨f1,f2⟩ | ⟨f1,f2,f3⟩ | ⟨f1,f2,f3⟩
  ·skip
   simp(disch:=omega)only[↓RU,RV,RH,↓reduceIte,qE,reduceCtorEq,if_pos,w64,↓RS,RG,qA,qM,qL,zcj,zaa,Int.toNat_zero,Nat.zero_mul,qZ,qM,Nat.zero_add,Nat.mul_one,List.getElem?_cons_zero,List.getElem?_cons_succ,f1]
   apply hK;clear hK K
   refine W.r fun K hK=>?_
   simp(disch:=omega)only[↓RU,RV,RH,↓reduceIte,qE,reduceCtorEq,if_pos,↓RS,RG,qA,qM,qL,Int.toNat_zero,Nat.zero_mul,qZ,qM,Nat.zero_add,Nat.mul_one,List.getElem?_cons_zero,List.getElem?_cons_succ]
   apply hK;clear hK K
   refine W.ret ?_
   refine Br rfl ?_
   simp only[zxn, *,Bool.and_true,Bool.and_false,Bool.false_and,Bool.true_and,Bool.or_false,Bool.false_or,Bool.true_or]
   rfl
  ·skip
   simp(disch:=omega)only[↓RU,RV,RH,↓reduceIte,qE,reduceCtorEq,if_pos,w64,↓RS,RG,qA,qM,qL,zcj,zaa,Int.toNat_zero,Nat.zero_mul,qZ,qM,Nat.zero_add,Nat.mul_one,List.getElem?_cons_zero,List.getElem?_cons_succ,f1,f2]
   apply hK;clear hK K
   refine W.r fun K hK=>?_
   simp(disch:=omega)only[↓RU,RV,RH,↓reduceIte,qE,reduceCtorEq,if_pos,↓RS,RG,qA,qM,qL,Int.toNat_zero,Nat.zero_mul,qZ,qM,Nat.zero_add,Nat.mul_one,List.getElem?_cons_zero,List.getElem?_cons_succ]
   apply hK;clear hK K
   refine W.ret ?_
   refine Br rfl ?_
   simp only[zxn, *,Bool.and_true,Bool.and_false,Bool.false_and,Bool.true_and,Bool.or_false,Bool.false_or,Bool.true_or]
   rfl
  ·skip
   simp(disch:=omega)only[↓RU,RV,RH,↓reduceIte,qE,reduceCtorEq,if_pos,w64,↓RS,RG,qA,qM,qL,zcj,zaa,Int.toNat_zero,Nat.zero_mul,qZ,qM,Nat.zero_add,Nat.mul_one,List.getElem?_cons_zero,List.getElem?_cons_succ,f1,f2,f3]
   apply hK;clear hK K
   refine W.r fun K hK=>?_
   simp(disch:=omega)only[↓RU,RV,RH,↓reduceIte,qE,reduceCtorEq,if_pos,↓RS,RG,qA,qM,qL,Int.toNat_zero,Nat.zero_mul,qZ,qM,Nat.zero_add,Nat.mul_one,List.getElem?_cons_zero,List.getElem?_cons_succ]
   apply hK;clear hK K
   refine W.ret ?_
   refine Br rfl ?_
   simp only[zxn, *,Bool.and_true,Bool.and_false,Bool.false_and,Bool.true_and,Bool.or_false,Bool.false_or,Bool.true_or]
   rfl
  skip
  simp(disch:=omega)only[↓RU,RV,RH,↓reduceIte,qE,reduceCtorEq,if_pos,w64,↓RS,RG,qA,qM,qL,zcj,zaa,Int.toNat_zero,Nat.zero_mul,qZ,qM,Nat.zero_add,Nat.mul_one,List.getElem?_cons_zero,List.getElem?_cons_succ,f1,f2,f3]
  apply hK;clear hK K
  refine W.r fun K hK=>?_
  simp(disch:=omega)only[↓RU,RV,RH,↓reduceIte,qE,reduceCtorEq,if_pos,↓RS,RG,qA,qM,qL,Int.toNat_zero,Nat.zero_mul,qZ,qM,Nat.zero_add,Nat.mul_one,List.getElem?_cons_zero,List.getElem?_cons_succ]
  apply hK;clear hK K
  refine W.ret ?_
  refine Br rfl ?_
  simp only[zxn, *,Bool.and_true,Bool.and_false,Bool.false_and,Bool.true_and,Bool.or_false,Bool.false_or,Bool.true_or]
  rfl
 skip
 simp(disch:=omega)only[↓RU,RV,RH,↓reduceIte,qE,reduceCtorEq,if_pos,w64,↓RS,RG,qA,qM,qL,zcj,zaa,Int.toNat_zero,Nat.zero_mul,qZ,qM,Nat.zero_add,Nat.mul_one,List.getElem?_cons_zero,List.getElem?_cons_succ,g1,g2,g3]
 apply hK;clear hK K
 refine W.r fun K hK=>?_
 rcases yd5 (decide (b<min a d)) (decide (c>max a d)) (decide (a>d)) with f1 | ⟨f1,f2⟩ | ⟨f1,f2,f3⟩ | ⟨f1,f2,f3⟩
 ·skip
  simp(disch:=omega)only[↓RU,RV,RH,↓reduceIte,qE,reduceCtorEq,if_pos,w64,↓RS,RG,qA,qM,qL,zcj,zaa,Int.toNat_zero,Nat.zero_mul,qZ,qM,Nat.zero_add,Nat.mul_one,List.getElem?_cons_zero,List.getElem?_cons_succ,f1]
  apply hK;clear hK K
  refine W.r fun K hK=>?_
  simp(disch:=omega)only[↓RU,RV,RH,↓reduceIte,qE,reduceCtorEq,if_pos,↓RS,RG,qA,qM,qL,Int.toNat_zero,Nat.zero_mul,qZ,qM,Nat.zero_add,Nat.mul_one,List.getElem?_cons_zero,List.getElem?_cons_succ]
  apply hK;clear hK K
  refine W.ret ?_
  refine Br rfl ?_
  simp only[zxn, *,Bool.and_true,Bool.and_false,Bool.false_and,Bool.true_and,Bool.or_false,Bool.false_or,Bool.true_or]
  rfl
 ·skip
  simp(disch:=omega)only[↓RU,RV,RH,↓reduceIte,qE,reduceCtorEq,if_pos,w64,↓RS,RG,qA,qM,qL,zcj,zaa,Int.toNat_zero,Nat.zero_mul,qZ,qM,Nat.zero_add,Nat.mul_one,List.getElem?_cons_zero,List.getElem?_cons_succ,f1,f2]
  apply hK;clear hK K
  refine W.r fun K hK=>?_
  simp(disch:=omega)only[↓RU,RV,RH,↓reduceIte,qE,reduceCtorEq,if_pos,↓RS,RG,qA,qM,qL,Int.toNat_zero,Nat.zero_mul,qZ,qM,Nat.zero_add,Nat.mul_one,List.getElem?_cons_zero,List.getElem?_cons_succ]
  apply hK;clear hK K
  refine W.ret ?_
  refine Br rfl ?_
  simp only[zxn, *,Bool.and_true,Bool.and_false,Bool.false_and,Bool.true_and,Bool.or_false,Bool.false_or,Bool.true_or]
  rfl
 ·skip
  simp(disch:=omega)only[↓RU,RV,RH,↓reduceIte,qE,reduceCtorEq,if_pos,w64,↓RS,RG,qA,qM,qL,zcj,zaa,Int.toNat_zero,Nat.zero_mul,qZ,qM,Nat.zero_add,Nat.mul_one,List.getElem?_cons_zero,List.getElem?_cons_succ,f1,f2,f3]
  apply hK;clear hK K
  refine W.r fun K hK=>?_
  simp(disch:=omega)only[↓RU,RV,RH,↓reduceIte,qE,reduceCtorEq,if_pos,↓RS,RG,qA,qM,qL,Int.toNat_zero,Nat.zero_mul,qZ,qM,Nat.zero_add,Nat.mul_one,List.getElem?_cons_zero,List.getElem?_cons_succ]
  apply hK;clear hK K
  refine W.ret ?_
  refine Br rfl ?_
  simp only[zxn, *,Bool.and_true,Bool.and_false,Bool.false_and,Bool.true_and,Bool.or_false,Bool.false_or,Bool.true_or]
  rfl
 skip
 simp(disch:=omega)only[↓RU,RV,RH,↓reduceIte,qE,reduceCtorEq,if_pos,w64,↓RS,RG,qA,qM,qL,zcj,zaa,Int.toNat_zero,Nat.zero_mul,qZ,qM,Nat.zero_add,Nat.mul_one,List.getElem?_cons_zero,List.getElem?_cons_succ,f1,f2,f3]
 apply hK;clear hK K
 refine W.r fun K hK=>?_
 simp(disch:=omega)only[↓RU,RV,RH,↓reduceIte,qE,reduceCtorEq,if_pos,↓RS,RG,qA,qM,qL,Int.toNat_zero,Nat.zero_mul,qZ,qM,Nat.zero_add,Nat.mul_one,List.getElem?_cons_zero,List.getElem?_cons_succ]
 apply hK;clear hK K
 refine W.ret ?_
 refine Br rfl ?_
 simp only[zxn, *,Bool.and_true,Bool.and_false,Bool.false_and,Bool.true_and,Bool.or_false,Bool.false_or,Bool.true_or]
 rfl
theorem zx4 {q:List Int} (hl:q.length<2147483648) {x:Int} {i:Nat} (hx:q[i]?=some x) (hi:∀ (j:Nat),j<i→q[j]?≠some x):PC Tryz.prog 77 [eInts q,.int .i64 x] (.bool true) true:=by
 have hd:decide ((i:Int) ≥ 0)=true:=decide_eq_true (by omega)
 refine PC.of ⟨Tryz.func77,by kernel_rfl,rfl,by kernel_rfl⟩ zam mixed (by show 2≤Tryz.f77.ntmps; decide) ?_
 refine W.r fun K hK=>?_
 simp(disch:=omega)only[↓RU,RV,RH,↓reduceIte,qE,reduceCtorEq,if_pos]
 apply hK;clear hK K
 refine W.r fun K hK=>?_
 simp(disch:=omega)only[↓RU,RV,RH,↓reduceIte,qE,reduceCtorEq,if_pos,qN,w64,zaa,hd]
 refine zaf.pc (zml hl hx hi) rfl (.inl rfl) ?_
 simp(disch:=omega)only[↓RU,RV,RH,↓reduceIte,qE,reduceCtorEq,if_pos,qN,w64,zaa,hd]
 apply hK;clear hK K
 refine W.ret ?_
 refine Br rfl ?_
 rfl
section
def zei (k u H W:Nat):PV := .fn 105 [.ref (k+2+H) (u+2) 0,.ref k u 0,.ip [.int .i64 W] 0,.ip [.int .i64 H] 0,.ref (k+3+H) (u+3) 0]
def zg4 (k u lb H W:Nat) (g:List (List Int)):List Ob :=
 .arr u 110 1 [.yl lb] :: .arr (u+1) 34 1 (lcW (k+2) (u+1) H W)::(rwO (u+1) g++[.arr (u+2) 75 1 [.loc (k+1) (u+1) 0 H],.arr (u+3) 113 1 [zei k u H W]])
section
variable {A tl:List Ob} {k u lb H W:Nat} {g:List (List Int)}
theorem z16 (hA:A.length=k) {j:Nat} {n:Nat} (hn:n=k+j):(A++(zg4 k u lb H W g++tl))[n]?=(zg4 k u lb H W g++tl)[j]?:=by
 subst hn; rw [List.getElem?_append_right (by omega)]; congr 1; omega
theorem zbs (hg:g.length=H):(zg4 k u lb H W g).length=H+4:=by simp [zg4,ziw,hg]
theorem gO_y (hA:A.length=k):(A++(zg4 k u lb H W g++tl))[k]?=some (.arr u 110 1 [.yl lb]):=z16 hA (j:=0) rfl
theorem zi6 (hA:A.length=k):(A++(zg4 k u lb H W g++tl))[k+1]?=some (.arr (u+1) 34 1 (lcW (k+2) (u+1) H W)):=z16 hA (j:=1) rfl
theorem ydv (hA:A.length=k) (hg:g.length=H) {r:Nat} {row:List Int} (hr:g[r]?=some row):(A++(zg4 k u lb H W g++tl))[k+2+r]?=some (.arr (u+1) 3 1 (row.map (.int .i64))):=by
 have hl:=zay hr
 rw [z16 hA (j:=r+2) (by omega)]
 unfold zg4
 rw [List.cons_append,List.cons_append,List.getElem?_cons_succ,List.getElem?_cons_succ,List.append_assoc,List.getElem?_append_left (by rw [ziw]; exact hl)]
 unfold rwO
 rw [List.getElem?_map,hr]; rfl
theorem zjl (hA:A.length=k) (hg:g.length=H):(A++(zg4 k u lb H W g++tl))[k+2+H]?=some (.arr (u+2) 75 1 [.loc (k+1) (u+1) 0 H]):=by
 rw [z16 hA (j:=H+2) (by omega)]
 unfold zg4
 rw [List.cons_append,List.cons_append,List.getElem?_cons_succ,List.getElem?_cons_succ,List.append_assoc,List.getElem?_append_right (by rw [ziw]; omega),ziw,hg,Nat.sub_self]; rfl
theorem zj7 (hA:A.length=k) (hg:g.length=H):(A++(zg4 k u lb H W g++tl))[k+3+H]?=some (.arr (u+3) 113 1 [zei k u H W]):=by
 rw [z16 hA (j:=H+3) (by omega)]
 unfold zg4
 rw [List.cons_append,List.cons_append,List.getElem?_cons_succ,List.getElem?_cons_succ,List.append_assoc,List.getElem?_append_right (by rw [ziw]; omega),ziw,hg,Nat.add_sub_cancel_left]; rfl
theorem zhu (hA:A.length=k) (hg:g.length=H) {j:Nat}:(A++(zg4 k u lb H W g++tl))[k+(H+4+j)]?=tl[j]?:=by
 rw [z16 hA (j:=H+4+j) (by omega),List.getElem?_append_right (by rw [zbs hg]; omega),zbs hg,Nat.add_sub_cancel_left]
theorem zdr (hA:A.length=k) (hg:g.length=H) {j:Nat} {ob:Ob}:(A++(zg4 k u lb H W g++tl)).set (k+(H+4+j)) ob=A++(zg4 k u lb H W g++tl.set j ob):=by
 rw [List.set_append_right _ _ (by omega),hA,List.set_append_right _ _ (by rw [zbs hg]; omega),zbs hg]
 congr 3; omega
theorem yfx (hA:A.length=k) (hg:g.length=H) {r:Nat} (hr:r<H) {row:List Int}:(A++(zg4 k u lb H W g++tl)).set (k+2+r) (.arr (u+1) 3 1 (row.map (.int .i64)))=A++(zg4 k u lb H W (g.set r row)++tl):=by
 rw [List.set_append_right _ _ (by omega),hA,show k+2+r - k=r+1+1 by omega]
 unfold zg4
 rw [List.cons_append,List.cons_append,List.set_cons_succ,List.set_cons_succ,List.append_assoc,List.set_append_left _ _ (by rw [ziw]; omega)]
 unfold rwO
 rw [← List.map_set]
 simp
theorem zdt {x:Ob}:(tl++[x])[tl.length]?=some x:=List.getElem?_concat_length
theorem zdu {x y:Ob}:(tl++[x]).set tl.length y=tl++[y]:=by simp
end
theorem zg8 {p:List Txt} {H W:Nat} (h:Shp2 p H W):(gI p).length=H:=by simp [gI,h.h]
theorem zzz {p:List Txt} {r:Nat} {row:Txt} (h:p[r]?=some row):(gI p)[r]?=some (row.map cI):=by simp [gI,h]
theorem yen {p:List Txt} {r:Nat} {row:Txt}:(gI p).set r (row.map cI)=gI (p.set r row):=by simp [gI]
theorem yef {row:Txt} {j:Nat} {c:UInt8}:(row.map cI).set j (cI c)=(row.set j c).map cI:=by simp
theorem z8g (c:UInt8) : -1000≤cI c∧cI c≤1000:=by
 have:=c.toNat_lt
 unfold cI
 split <;> omega
theorem Shp2.set {p:List Txt} {H W i:Nat} {r:Txt} (h:Shp2 p H W) (hr:r.length=W):Shp2 (p.set i r) H W:=by
 refine ⟨by rw [List.length_set]; exact h.h,fun x hx=>?_⟩
 rcases List.mem_or_eq_of_mem_set hx with hx | rfl
 ·exact h.w x hx
 exact hr
theorem ygd {α:Type} {l:List α} {i:Nat} {x:α} (h:i<l.length):l.take i++x::l.drop (i+1)=l.set i x:=(List.set_eq_take_append_cons_drop).symm ▸ by rw [if_pos h]
theorem zsv {A B tl:List Ob} {x:Ob} {t:Nat}:Store.take ⟨A++(B++(tl++[x])),t⟩ (A.length+(B.length+tl.length))=⟨A++(B++tl),t⟩:=by
 show (⟨List.take _ _,t⟩:Store)=_
 rw [← List.append_assoc,← List.append_assoc,List.take_left' (by simp [Nat.add_assoc]),List.append_assoc]
theorem z9s {α:Type} {l:List α} {i:Nat} {x:α} (h:l[i]?=some x):l.set i x=l:=by
 apply List.ext_getElem?
 intro j
 rw [List.getElem?_set]
 split
 ·rename_i e; subst e; rw [if_pos (zay h),h]
 rfl
theorem zkm {A tl:List Ob} {k u lb t nh nw:Nat} (hA:A.length=k) {p:List Txt} (hp:Shp2 p nh nw) {i kk d w:Nat} {c:UInt8} (hi:i+d≤nh) (hk:kk+w≤nw) (hH:nh≤6) (hW:nw≤6):Ev Tryz.prog 109 [.agg [.int .i64 i,.int .i64 kk,.int .i64 d,.int .i64 w],.int .i64 (cI c),.ref (k+2+nh) (u+2) 0] ⟨A++(zg4 k u lb nh nw (gI p)++tl),t⟩ fun v S=>v = .tup []∧∃ t2,t≤t2∧S=⟨A++(zg4 k u lb nh nw (gI (zeb p i kk w c (i+d)))++tl),t2⟩:=by
 have hgl:=zg8 hp
 have hcb:=z8g c
 refine Ev.of ⟨Tryz.func109,by kernel_rfl,rfl,by kernel_rfl⟩ zam mixed (by show 3≤Tryz.f109.ntmps; decide) ?_
 refine W.r fun K hK=>?_
 simp(disch:=omega)only[↓RU,RV,RH,↓reduceIte,qE,reduceCtorEq,if_pos,↓RS,RG,qA,qM,qL,zdo,zaa,zdp,List.append_assoc,List.length_append,hA,zbs hgl,zhu hA hgl,zdt,zdu,zdr hA hgl]
 apply hK;clear hK K
 refine W.r fun K hK=>?_
 simp(disch:=omega)only[↓RU,RV,RH,↓reduceIte,qE,reduceCtorEq,if_pos,↓RS,RG,qA,qM,qL,zdo,zaa,zdp,List.append_assoc,List.length_append,hA,zbs hgl,zhu hA hgl,zdt,zdu,zdr hA hgl]
 apply hK;clear hK K
 refine W.block ?_
 refine W.loop [1,2,3,5] (fun n vs S=>∃ r:Nat,n=d - r∧r≤d∧vs=[.int .i64 (cI c),.ref (k+2+nh) (u+2) 0,.ref (k+(nh+4+tl.length)) t 0,.int .i64 ((i+r:Nat):Int)]∧S=⟨A++(zg4 k u lb nh nw (gI (zeb p i kk w c (i+r)))++(tl++[.arr t 92 4 [.int .i64 i,.int .i64 kk,.int .i64 d,.int .i64 w]])),t+1⟩) d ?_ ?_
 ·refine ⟨_,0,rfl,Nat.zero_le _,?_,zai ?_⟩
  rotate_left
  ·simp only[Nat.add_zero,zsg]
  simp [Env.put,Env.of,zae]
 rintro n vs S - ⟨r,rfl,h_r,rfl,rfl⟩
 have hps:Shp2 (zeb p i kk w c (i+r)) nh nw:=zkg hp
 have hgl:=zg8 hps
 refine W.seq ?_
 refine W.r fun K hK=>?_
 simp(disch:=omega)only[↓RU,RV,RH,↓reduceIte,qE,reduceCtorEq,if_pos,w64,↓RS,RG,qA,qM,qL,zdo,zaa,zdp,List.append_assoc,List.length_append,hA,zbs hgl,zhu hA hgl,zdt,zdu,zdr hA hgl]
 apply hK;clear hK K
 refine W.cond rfl (fun h=>?_) (fun h=>?_)
 ·try simp only[RL]at h
  obtain ⟨row,hrow0,hrl,-⟩:=hp.row (show i+r<nh by omega)
  have hrow:(zeb p i kk w c (i+r))[i+r]?=some row:=z0x hrow0
  refine W.skip ?_
  refine xn ?_
  refine W.seq ?_
  refine W.block ?_
  refine W.r fun K hK=>?_
  simp(disch:=omega)only[↓RU,RV,RH,↓reduceIte,qE,reduceCtorEq,if_pos,↓RS,RG,qA,qM,qL,zdo,zaa,zdp,List.append_assoc,List.length_append,hA,zbs hgl,zhu hA hgl,zdt,zdu,zdr hA hgl]
  apply hK;clear hK K
  refine W.block ?_
  refine W.loop [1,2,3,5,6] (fun n vs S=>∃ j:Nat,n=w - j∧j≤w∧vs=[.int .i64 (cI c),.ref (k+2+nh) (u+2) 0,.ref (k+(nh+4+tl.length)) t 0,.int .i64 ((i+r:Nat):Int),.int .i64 ((kk+j:Nat):Int)]∧S=⟨A++(zg4 k u lb nh nw (gI ((zeb p i kk w c (i+r)).set (i+r) (zed row kk c (kk+j))))++(tl++[.arr t 92 4 [.int .i64 i,.int .i64 kk,.int .i64 d,.int .i64 w]])),t+1⟩) w ?_ ?_
  ·refine ⟨_,0,rfl,Nat.zero_le _,?_,zai ?_⟩
   rotate_left
   ·simp only[Nat.add_zero,zqf,z9s hrow]
   simp [Env.put,Env.of]
  rintro n vs S - ⟨j,rfl,h_j,rfl,rfl⟩
  have hps2:Shp2 ((zeb p i kk w c (i+r)).set (i+r) (zed row kk c (kk+j))) nh nw:=hps.set (by rw [zgc]; exact hrl)
  have hgl:=zg8 hps2
  have hrj:((zeb p i kk w c (i+r)).set (i+r) (zed row kk c (kk+j)))[i+r]?=some (zed row kk c (kk+j)):=by rw [List.getElem?_set,if_pos rfl,if_pos (zay hrow)]
  have hgr:=zzz hrj
  have hrl2:(zed row kk c (kk+j)).length=nw:=by rw [zgc]; exact hrl
  have hirH:i+r<nh:=by omega
  refine W.seq ?_
  refine W.r fun K hK=>?_
  simp(disch:=omega)only[↓RU,RV,RH,↓reduceIte,qE,reduceCtorEq,if_pos,w64,↓RS,RG,qA,qM,qL,zdo,zaa,zdp,List.append_assoc,List.length_append,hA,zbs hgl,zhu hA hgl,zdt,zdu,zdr hA hgl]
  apply hK;clear hK K
  refine W.cond rfl (fun h1=>?_) (fun h1=>?_)
  ·try simp only[RL]at h1
   have hspl:(List.map (PV.int .i64) (List.map cI (zed row kk c (kk+j)))).take (kk+j)++PV.int .i64 (cI c)::(List.map (PV.int .i64) (List.map cI (zed row kk c (kk+j)))).drop (kk+j+1)=(List.map cI (zed row kk c (kk+j+1))).map (PV.int .i64):=by rw [← zqe (by omega) (by omega),← yef,← zc9,ygd (by simp only[List.length_map]; omega)]
   refine W.skip ?_
   refine xn ?_
   refine W.seq ?_
   refine W.block ?_
   refine W.k fun K hK=>?_
   simp(disch:=omega)only[↓RU,RV,RH,↓reduceIte,qE,reduceCtorEq,if_pos,↓RS,RG,qA,qM,qL,ty1,zab,zcb,zaa,List.append_assoc,List.length_append,hA,zbs hgl,zhu hA hgl,zdt,zdu,zdr hA hgl,zjl hA hgl,zi6 hA,zcx hirH,zbm,ydv hA hgl hgr,hrl2,hspl,yfx hA hgl hirH,yen,List.set_set]
   apply hK;clear hK K
   refine XbN ?_
   refine xn ?_
   refine W.k fun K hK=>?_
   simp(disch:=omega)only[↓RU,RV,RH,↓reduceIte,qE,reduceCtorEq,if_pos,w64,↓RS,RG,qA,qM,qL,zaa,List.append_assoc,List.length_append,hA,zbs hgl,zhu hA hgl,zdt,zdu,zdr hA hgl]
   apply hK;clear hK K
   refine xn ?_
   refine ⟨w - (j+1),by omega,_,j+1,rfl,by omega,?_,zai ?_⟩
   rotate_left
   ·rfl
   simp [Env.put,Env.of]; omega
  ·try simp only[RL]at h1
   obtain rfl:j=w:=by omega
   refine W.exit ?_
   refine xe ?_
   refine xe ?_
   refine XBlock.hit ?_
   refine XbN ?_
   refine xn ?_
   refine W.k fun K hK=>?_
   simp(disch:=omega)only[↓RU,RV,RH,↓reduceIte,qE,reduceCtorEq,if_pos,w64,↓RS,RG,qA,qM,qL,zaa,List.append_assoc,List.length_append,hA,zbs hgl,zhu hA hgl,zdt,zdu,zdr hA hgl]
   apply hK;clear hK K
   refine xn ?_
   refine ⟨d - (r+1),by omega,_,r+1,rfl,by omega,?_,zai ?_⟩
   rotate_left
   ·rw [← Nat.add_assoc,← zsf (p:=p) (by omega) hrow0]
   simp [Env.put,Env.of]; omega
 try simp only[RL]at h
 obtain rfl:r=d:=by omega
 refine W.exit ?_
 refine xe ?_
 refine xe ?_
 refine XBlock.hit ?_
 refine ze1.norm rfl ?_
 exact ⟨_,rfl,_,Nat.le_succ _,zsv⟩
end
section
theorem yde {p q:List Txt} {H W:Nat} (hp:Shp2 p H W) (hq:Shp2 q H W) (h:∀ i j,i<H→j<W→ch p i j=ch q i j):p=q:=by
 apply List.ext_getElem?
 intro i
 by_cases hi:i<H
 ·obtain ⟨r,hr,hl,hx⟩:=hp.row hi
  obtain ⟨s,hs,hl2,hy⟩:=hq.row hi
  rw [hr,hs]
  congr 1
  apply List.ext_getElem?
  intro j
  by_cases hj:j<W
  ·rw [hx j hj,hy j hj,h i j hi hj]
  rw [List.getElem?_eq_none (by omega),List.getElem?_eq_none (by omega)]
 rw [List.getElem?_eq_none (by rw [hp.h]; omega),List.getElem?_eq_none (by rw [hq.h]; omega)]
theorem z9c {p:List Txt} {H W i k w e:Nat} {c:UInt8} (hp:Shp2 p H W) (h:∀ a b,a<H→b<W→(i≤a∧a<e)→(k≤b∧b<k+w)→ch p a b=46):zeb (zeb p i k w c e) i k w 46 e=p:=by
 have h1:Shp2 (zeb p i k w c e) H W:=zkg hp
 refine yde (zkg h1) hp fun a b ha hb=>?_
 rw [z4d h1 ha hb]
 split
 ·rename_i q; exact (h a b ha hb q.1 q.2).symm
 rename_i q; rw [z4d hp ha hb,if_neg q]
theorem zro {α β:Type} {f:α→List β} {l:List α} {w:Nat} {a:α} (h:l[w]?=some a):∃ r,l.flatMap f=(l.take w).flatMap f++f a++r:=by
 obtain ⟨hl,e⟩:=List.getElem?_eq_some_iff.1 h
 refine ⟨(l.drop (w+1)).flatMap f,?_⟩
 conv=>lhs; rw [← List.take_append_drop w l,List.drop_eq_getElem_cons hl,e]
 rw [List.flatMap_append,List.flatMap_cons,List.append_assoc]
theorem yam {c:UInt8} (h:c=46∨97≤c.toNat):cI c = -1↔c=46:=by
 unfold cI
 by_cases e:c=46
 ·simp [e]
 rw [if_neg e]
 have:=h.resolve_left e
 constructor
 ·intro q; omega
 intro q; exact absurd q e
theorem St.letter {H W:Nat} {p:List Txt} {R:List RmB} (h:St H W p R) (hn:R.length≤9) {i j:Nat} (hi:i<H) (hj:j<W):ch p i j=46∨97≤(ch p i j).toNat:=by
 rcases h.val i j hi hj with e | ⟨v,hv,e⟩
 ·exact .inl e
 exact .inr (by rw [e,zis (by omega)]; omega)
theorem St.rows {H W:Nat} {p:List Txt} {R:List RmB} (h:St H W p R) (hn:R.length≤9):∀ r∈p,∀ c∈r,c=46∨97≤c.toNat:=by
 intro r hr c hc
 obtain ⟨i,hi⟩:=List.getElem?_of_mem hr
 have hil:=zay hi
 rw [h.sh.h]at hil
 obtain ⟨r',hr',hl,hx⟩:=h.sh.row hil
 rw [hi]at hr'
 cases hr'
 obtain ⟨j,hj⟩:=List.getElem?_of_mem hc
 have hjl:=zay hj
 have:=hx j (by omega)
 rw [hj]at this
 cases this
 exact h.letter hn hil (by omega)
def tst (r:List Int):Bool:=r.contains (-1)
theorem ydn {r:Txt} (h:∀ c∈r,c=46∨97≤c.toNat):tst (r.map cI)=r.contains 46:=by
 unfold tst
 rw [Bool.eq_iff_iff]
 simp only[List.contains_eq_mem,decide_eq_true_eq,List.mem_map]
 constructor
 ·rintro ⟨c,hc,e⟩; rw [← (yam (h c hc)).1 e]; exact hc
 intro hc; exact ⟨46,hc,rfl⟩
theorem ya1 {p:List Txt} (h:∀ r∈p,∀ c∈r,c=46∨97≤c.toNat):ixf tst (gI p)=if fi p<p.length then ((fi p:Nat):Int) else -1:=by
 have e:(gI p).findIdx? tst=p.findIdx? fun r=>r.contains 46:=by
  unfold gI
  rw [List.findIdx?_map]
  have:∀ l:List Txt,(∀ r∈l,r∈p)→l.findIdx? (tst ∘ fun r=>r.map cI)=l.findIdx? fun r=>r.contains 46:=by
   intro l
   induction l with
   | nil=>intro _; rfl
   | cons a l ih =>
    intro hl
    rw [List.findIdx?_cons,List.findIdx?_cons,ih fun r hr=>hl r (by simp [hr])]
    show (if tst (a.map cI) then _ else _)=_
    rw [ydn (h a (hl a (by simp)))]
  exact this p fun _ h=>h
 unfold ixf
 rw [e]
 unfold fi
 cases hq:p.findIdx? fun r=>r.contains 46 with
 | none =>
  rw [List.findIdx?_eq_none_iff_findIdx_eq]at hq
  rw [hq,if_neg (by omega)]
 | some i =>
  have:=List.findIdx?_eq_some_iff_findIdx_eq.1 hq
  rw [this.2,if_pos this.1]
section
variable {A tl:List Ob} {k u lb H W t:Nat} {p:List Txt}
theorem z2x {S:Store} {k2 b v w:Nat} {g:List (List Int)} (hw:∀ r∈g,r.length=w) (hg:∀ (j:Nat) r,g[j]?=some r→S.obs[b+j]?=some (.arr v 3 1 (r.map (.int .i64)))) :
  (lcW b v g.length w).mapM (reify S true (k2+2))=some (g.map eInts):=by
 induction g generalizing b with
 | nil=>rfl
 | cons a g ih =>
  have e:lcW b v (a::g).length w = .loc b v 0 w::lcW (b+1) v g.length w:=by
   unfold lcW
   rw [List.length_cons,List.range_succ_eq_map,List.map_cons,List.map_map]
   congr 1
   refine List.map_congr_left fun j _=>?_
   show PV.loc (b+(j+1)) v 0 w=PV.loc (b+1+j) v 0 w
   rw [show b+1+j=b+(j+1) by omega]
  rw [e,List.map_cons]
  refine zcn ?_ (ih (b:=b+1) (fun r hr=>hw r (by simp [hr])) fun j r hr=>by have:=hg (j+1) r (by simpa using hr); rwa [show b+(j+1)=b+1+j by omega]at this)
  have h0:=hg 0 a rfl
  have hal:a.length=w:=hw a (by simp)
  subst hal
  exact zbh (S:=S) (k:=k2+1) (n:=a.length) (o:=b) (ver:=v) (sz:=1) h0 (by simp) (za5 fun x hx=>by obtain ⟨z,_,rfl⟩:=List.mem_map.1 hx; rfl)
theorem z2v (hA:A.length=k) (hp:Shp2 p H W) {k2:Nat}:reify ⟨A++(zg4 k u lb H W (gI p)++tl),t⟩ true (k2+3) (.loc (k+1) (u+1) 0 H)=some (zeh (gI p)):=by
 have hgl:=zg8 hp
 have h1:=zbh (S:=⟨A++(zg4 k u lb H W (gI p)++tl),t⟩) (im:=true) (k:=k2+2) (n:=H) (ts:=(gI p).map eInts) (zi6 (u:=u) (lb:=lb) (H:=H) (W:=W) (g:=gI p) (tl:=tl) hA) (by rw [zbm]; omega) (by
  have:=z2x (S:=⟨A++(zg4 k u lb H W (gI p)++tl),t⟩) (k2:=k2) (b:=k+2) (v:=u+1) (w:=W) (g:=gI p) (fun r hr=>by obtain ⟨x,hx,rfl⟩:=List.mem_map.1 hr; rw [List.length_map]; exact hp.w x hx) (fun j r hr=>ydv hA hgl hr)
  rw [hgl]at this; exact this)
 rw [h1]
 show _=some (PV.sl _ (gI p).length)
 rw [hgl]
theorem z9k {S:Store} {k2 lo b v w:Nat} {g:List (List Int)} (hb:lo≤b) (hw:∀ r∈g,r.length=w) (hg:∀ (j:Nat) r,g[j]?=some r→S.obs[b+j]?=some (.arr v 3 1 (r.map (.int .i64)))) :
  (lcW b v g.length w).mapM (rfz S lo (k2+2))=some (g.map eInts):=by
 induction g generalizing b with
 | nil=>rfl
 | cons a g ih =>
  have e:lcW b v (a::g).length w = .loc b v 0 w::lcW (b+1) v g.length w:=by
   unfold lcW
   rw [List.length_cons,List.range_succ_eq_map,List.map_cons,List.map_map]
   congr 1
   refine List.map_congr_left fun j _=>?_
   show PV.loc (b+(j+1)) v 0 w=PV.loc (b+1+j) v 0 w
   rw [show b+1+j=b+(j+1) by omega]
  rw [e,List.map_cons]
  refine zcn ?_ (ih (b:=b+1) (by omega) (fun r hr=>hw r (by simp [hr])) fun j r hr=>by have:=hg (j+1) r (by simpa using hr); rwa [show b+(j+1)=b+1+j by omega]at this)
  have h0:=hg 0 a rfl
  have hal:a.length=w:=hw a (by simp)
  subst hal
  rw [Nat.add_zero]at h0
  have ht:(a.map (PV.int .i64)).take a.length=a.map (PV.int .i64):=qT (by simp)
  rw [zcu,h0]
  simp only[Nat.zero_add,Nat.mul_one,List.length_map,qR,and_true,hb,if_true,List.drop_zero,ht,zb3,qO]
theorem z9j (hA:A.length=k) (hp:Shp2 p H W):frz ⟨A++(zg4 k u lb H W (gI p)++tl),t⟩ k 10 (.ref (k+2+H) (u+2) 0)=some (.ip [zeh (gI p)] 0):=by
 have hgl:=zg8 hp
 rw [z4y,if_neg (by omega)]
 obtain ⟨S,hS⟩:∃ S:Store,(⟨A++(zg4 k u lb H W (gI p)++tl),t⟩:Store)=S:=⟨_,rfl⟩
 have e1:S.obs[k+2+H]?=some (.arr (u+2) 75 1 [.loc (k+1) (u+1) 0 H]):=by rw [← hS]; exact zjl hA hgl
 have e2:S.obs[k+1]?=some (.arr (u+1) 34 1 (lcW (k+2) (u+1) H W)):=by rw [← hS]; exact zi6 hA
 have e3:(lcW (k+2) (u+1) H W).mapM (rfz S k 8)=some ((gI p).map eInts):=by
  have:=z9k (S:=S) (k2:=6) (lo:=k) (b:=k+2) (v:=u+1) (w:=W) (g:=gI p) (by omega) (fun r hr=>by obtain ⟨x,hx,rfl⟩:=List.mem_map.1 hr; rw [List.length_map]; exact hp.w x hx) (fun j r hr=>by rw [← hS]; exact ydv hA hgl hr)
  rw [hgl]at this; exact this
 have ht:(lcW (k+2) (u+1) H W).take H=lcW (k+2) (u+1) H W:=qT (by rw [zbm]; omega)
 have e4:rfz S k 9 (.loc (k+1) (u+1) 0 H)=some (zeh (gI p)):=by
  rw [zcu,e2]
  simp only[Nat.zero_add,Nat.mul_one,zbm,qR,and_true,show k≤k+1 by omega,if_true,List.drop_zero,ht,e3,qO]
  show _=some (PV.sl _ (gI p).length)
  rw [hgl]
 rw [hS]
 show (if k≤k+2+H then (S.cellsOf (k+2+H) (u+2)).bind fun cells=>(cells.mapM (rfz S k 9)).map (PV.ip · 0) else none)=_
 rw [if_pos (by omega)]
 have e5:S.cellsOf (k+2+H) (u+2)=some [.loc (k+1) (u+1) 0 H]:=by simp [Store.cellsOf,e1]
 rw [e5,Option.bind_some,zcn e4 rfl]; rfl
end
structure YC {σ:Type} (lb k H W:Nat) (pre:σ→List Ob) (fin:Nat→List Txt→Nat→List Ob × List Ob) (stop:List Txt→Bool) (nxt:σ→List Txt→σ):Prop where
 len:∀ s,(pre s).length=k
 finl:∀ r q x,(fin r q x).1.length=k
 ey:∀ s q t,zes q=true→Shp2 q H W→Ey Tryz.prog lb [zbj (gP q) (rP q)] ⟨pre s,t⟩ fun v S=>v = .bool (!stop q)∧∃ t2,if stop q=true then ∃ x,S=⟨(fin 0 q x).1++(fin 0 q x).2,t2⟩ else S=⟨pre (nxt s q),t2⟩
 sp:∀ r s,zue k r (pre s)=some (pre s)
 sfin:∀ r q x,zue k r ((fin 0 q x).1++(fin 0 q x).2)=some ((fin r q x).1++(fin r q x).2)
def znx {σ:Type} (k u lb H W:Nat) (pre:σ→List Ob) (fin:Nat→List Txt→Nat→List Ob × List Ob) (stop:List Txt→Bool) (nxt:σ→List Txt→σ) (L:List (List Txt)) (s:σ) (p:List Txt) (tl:List Ob) (v:PV) (S:Store):Prop :=
 match L.find? stop with
 | none=>v = .bool true∧∃ t,S=⟨pre (L.foldl nxt s)++(zg4 k u lb H W (gI p)++tl),t⟩
 | some q=>v = .bool false∧∃ t x J,S=⟨(fin (H+4+tl.length+J.length) q x).1++(zg4 k u lb H W (gI p)++(tl++(J++(fin (H+4+tl.length+J.length) q x).2))),t⟩
theorem z81 (a b:Int):PC Tryz.prog 104 [.int .i64 a,.int .i64 b] (.int .i64 (-1)) true:=by
 refine PC.of ⟨Tryz.func104,by kernel_rfl,rfl,by kernel_rfl⟩ zam mixed (by show 2≤Tryz.f104.ntmps; decide) ?_
 refine W.r fun K hK=>?_
 simp(disch:=omega)only[↓RU,RV,RH,↓reduceIte,qE,reduceCtorEq,if_pos]
 apply hK;clear hK K
 refine W.r fun K hK=>?_
 simp(disch:=omega)only[↓RU,RV,RH,↓reduceIte,qE,reduceCtorEq,if_pos]
 apply hK;clear hK K
 refine W.ret ?_
 refine Br rfl ?_
 rfl
theorem zye {l:List Int} (hl:l.length<2147483648) {x:Int} (hx:∀ (j:Nat),l[j]?≠some x):PC Tryz.prog 101 [eInts l,.int .i64 x] (.int .i64 (-1)) true:=by
 refine PC.of ⟨Tryz.func101,by kernel_rfl,rfl,by kernel_rfl⟩ zam mixed (by show 2≤Tryz.f101.ntmps; decide) ?_
 refine W.r fun K hK=>?_
 simp(disch:=omega)only[↓RU,RV,RH,↓reduceIte,qE,reduceCtorEq,if_pos]
 apply hK;clear hK K
 refine W.seq ?_
 refine W.r fun K hK=>?_
 simp(disch:=omega)only[↓RU,RV,RH,↓reduceIte,qE,reduceCtorEq,if_pos,zab,zaa]
 apply hK;clear hK K
 refine W.block ?_
 refine W.loop [0,1,7,8] (fun n vs S=>∃ i:Nat,n=l.length - i∧i≤l.length∧vs=[eInts l,.int .i64 x,.int .i64 l.length,.int .i64 i]∧S=⟨[],0⟩) (l.length) ?_ ?_
 ·refine ⟨0,0,rfl,Nat.zero_le _,?_,rfl⟩
  simp [Env.put,Env.of,zae]
 rintro n vs S - ⟨i,rfl,h_i,rfl,rfl⟩
 refine W.r fun K hK=>?_
 simp(disch:=omega)only[↓RU,RV,RH,↓reduceIte,qE,reduceCtorEq,if_pos,w64,zaa]
 apply hK;clear hK K
 refine W.seq ?_
 refine W.cond rfl (fun h0=>?_) (fun h0=>?_)
 ·try simp only[RL]at h0
  obtain ⟨y,hy,-⟩:=zad (show i<l.length by omega)
  have hne:(x == y)=false:=by simpa using fun e=>hx i (by rw [hy,e])
  refine W.skip ?_
  refine xn ?_
  refine W.seq ?_
  refine W.block ?_
  refine W.r fun K hK=>?_
  simp(disch:=omega)only[↓RU,RV,RH,↓reduceIte,qE,reduceCtorEq,if_pos]
  apply hK;clear hK K
  refine W.r fun K hK=>?_
  simp(disch:=omega)only[↓RU,RV,RH,↓reduceIte,qE,reduceCtorEq,if_pos,w64,zab,zaa,hy,hne]
  apply hK;clear hK K
  refine W.cond rfl (fun h1=>?_) (fun h1=>?_)
  ·try simp only[RL]at h1
   exact absurd h1 (by simp)
  try simp only[RL]at h1
  refine W.skip ?_
  refine XbN ?_
  refine xn ?_
  refine W.k fun K hK=>?_
  simp(disch:=omega)only[↓RU,RV,RH,↓reduceIte,qE,reduceCtorEq,if_pos,w64,zaa]
  apply hK;clear hK K
  refine xn ?_
  refine ⟨l.length - (i+1),by omega,0,i+1,rfl,by omega,?_,rfl⟩
  simp [Env.put,Env.of]
 try simp only[RL]at h0
 obtain rfl:i=l.length:=by omega
 refine W.exit ?_
 refine xe ?_
 refine xe ?_
 refine XBlock.hit ?_
 refine xn ?_
 refine W.r fun K hK=>?_
 simp(disch:=omega)only[↓RU,RV,RH,↓reduceIte,qE,reduceCtorEq,if_pos]
 apply hK;clear hK K
 refine W.ret ?_
 refine Br rfl ?_
 rfl
theorem zqy {l:List Int} (hl:l.length<2147483648) {x:Int} (hx:∀ (j:Nat),l[j]?≠some x):PC Tryz.prog 77 [eInts l,.int .i64 x] (.bool false) true:=by
 have hd:decide ((-1:Int) ≥ 0)=false:=by decide
 refine PC.of ⟨Tryz.func77,by kernel_rfl,rfl,by kernel_rfl⟩ zam mixed (by show 2≤Tryz.f77.ntmps; decide) ?_
 refine W.r fun K hK=>?_
 simp(disch:=omega)only[↓RU,RV,RH,↓reduceIte,qE,reduceCtorEq,if_pos]
 apply hK;clear hK K
 refine W.r fun K hK=>?_
 simp(disch:=omega)only[↓RU,RV,RH,↓reduceIte,qE,reduceCtorEq,if_pos,qN,w64,zaa,hd]
 refine zaf.pc (zye hl hx) rfl (.inl rfl) ?_
 simp(disch:=omega)only[↓RU,RV,RH,↓reduceIte,qE,reduceCtorEq,if_pos,qN,w64,zaa,hd]
 apply hK;clear hK K
 refine W.ret ?_
 refine Br rfl ?_
 rfl
theorem zu6 {l:List Int} (hl:l.length<2147483648) {x:Int}:PC Tryz.prog 77 [eInts l,.int .i64 x] (.bool (l.contains x)) true:=by
 by_cases h:x∈l
 ·have hk:l.idxOf x<l.length:=List.idxOf_lt_length_of_mem h
  have e:l.contains x=true:=by simpa using h
  rw [e]
  exact zx4 hl (i:=l.idxOf x) (by rw [List.getElem?_eq_getElem hk]; exact congrArg some (List.getElem_idxOf hk)) fun j hj hq=>by
   have:=List.not_of_lt_findIdx (p:=(· == x)) (xs:=l) (i:=j) (show j<l.findIdx (· == x) from hj)
   rw [List.getElem?_eq_getElem (by omega)]at hq
   rw [Option.some.inj hq]at this
   simp at this
 have e:l.contains x=false:=by simpa using h
 rw [e]
 exact zqy hl fun j hj=>h (List.mem_of_getElem? hj)
theorem yap {l:List Int} (hl:l.length<2147483648):PC Tryz.prog 107 [eInts l] (.bool (tst l)) true:=by
 refine PC.of ⟨Tryz.func107,by kernel_rfl,rfl,by kernel_rfl⟩ zam mixed (by show 1≤Tryz.f107.ntmps; decide) ?_
 refine W.r fun K hK=>?_
 simp(disch:=omega)only[↓RU,RV,RH,↓reduceIte,qE,reduceCtorEq,if_pos]
 apply hK;clear hK K
 refine W.r fun K hK=>?_
 simp(disch:=omega)only[↓RU,RV,RH,↓reduceIte,qE,reduceCtorEq,if_pos,qN]
 refine zaf.pc (zu6 hl) rfl (.inl rfl) ?_
 simp(disch:=omega)only[↓RU,RV,RH,↓reduceIte,qE,reduceCtorEq,if_pos,qN]
 apply hK;clear hK K
 refine W.ret ?_
 refine Br rfl ?_
 rfl
theorem yck {σ:Type} {lb k nh nw:Nat} {pre:σ→List Ob} {fin:Nat→List Txt→Nat→List Ob × List Ob} {stop:List Txt→Bool} {nxt:σ→List Txt→σ} (Y:YC lb k nh nw pre fin stop nxt) {p:List Txt} {R:List RmB} (hs:St nh nw p R) (hn:R.length≤9) (h1:1≤nh) (h2:nh≤6) (h3:1≤nw) (h4:nw≤6) (hf:¬ fi p<nh) (s:σ) (t:Nat) (n:Int):Ev Tryz.prog 105 [.int .i64 n,.ip [zeh (gI p)] 0,.ip [.yl lb] 0,.ip [.int .i64 nw] 0,.ip [.int .i64 nh] 0,.undef] ⟨pre s,t⟩ fun v S=>v = .bool (!stop p)∧∃ t2,if stop p=true then ∃ x,S=⟨(fin 0 p x).1++(fin 0 p x).2,t2⟩ else S=⟨pre (nxt s p),t2⟩:=by
 obtain ⟨q1,⟨q2,q3⟩,q4,q5⟩:=hs.plan hn hf h1 h2 h3 h4
 have hgl:=zg8 hs.sh
 have hrw:∀ r∈gI p,r.length=nw:=fun r hr=>by obtain ⟨x,hx,rfl⟩:=List.mem_map.1 hr; rw [List.length_map]; exact hs.sh.w x hx
 have hix:=ya1 (hs.rows hn)
 rw [hs.sh.h,if_neg hf]at hix
 have hI:=zkc (l:=gI p) (by omega) (cap:=[]) (g:=107) rfl (test:=tst) fun x hx=>yap (by rw [hrw x hx]; omega)
 rw [hix]at hI
 have hS:=zqm (g:=gI p) (by omega) (fun r hr=>by rw [hrw r hr]; omega) q2
 rw [q3,q4,q5]at hS
 have hY:=Y.ey s p t q1 hs.sh
 refine Ev.of ⟨Tryz.func105,by kernel_rfl,rfl,by kernel_rfl⟩ zam mixed (by show 6≤Tryz.f105.ntmps; decide) ?_
 refine W.r fun K hK=>?_
 simp(disch:=omega)only[↓RU,RV,RH,↓reduceIte,qE,reduceCtorEq,if_pos,↓RS,RG,qA,qM,qL]
 apply hK;clear hK K
 refine W.r fun K hK=>?_
 simp(disch:=omega)only[↓RU,RV,RH,↓reduceIte,qE,reduceCtorEq,if_pos,qN,↓RS,RG,qA,qM,qL,ty1,zab,zcb,zaa,Int.toNat_zero,List.getElem?_cons_zero]
 refine zaf.pc (hI) rfl (.inl rfl) ?_
 simp(disch:=omega)only[↓RU,RV,RH,↓reduceIte,qE,reduceCtorEq,if_pos,qN,↓RS,RG,qA,qM,qL,ty1,zab,zcb,zaa,Int.toNat_zero,List.getElem?_cons_zero]
 apply hK;clear hK K
 refine W.seq ?_
 refine W.r fun K hK=>?_
 simp(disch:=omega)only[↓RU,RV,RH,↓reduceIte,qE,reduceCtorEq,if_pos,w64,↓RS,RG,qA,qM,qL,zaa]
 apply hK;clear hK K
 refine W.cond rfl (fun h0=>?_) (fun h0=>?_)
 ·try simp only[RL]at h0
  refine W.r fun K hK=>?_
  simp(disch:=omega)only[↓RU,RV,RH,↓reduceIte,qE,reduceCtorEq,if_pos,qN,↓RS,RG,qA,qM,qL,ty1,zab,zcb,zaa,Int.toNat_zero,List.getElem?_cons_zero]
  refine zaf.pc (hS) rfl (.inr rfl) ?_
  simp(disch:=omega)only[↓RU,RV,RH,↓reduceIte,qE,reduceCtorEq,if_pos,qN,↓RS,RG,qA,qM,qL,ty1,zab,zcb,zaa,Int.toNat_zero,List.getElem?_cons_zero]
  apply hK;clear hK K
  refine W.r fun K hK=>?_
  simp(disch:=omega)only[↓RU,RV,RH,↓reduceIte,qE,reduceCtorEq,if_pos,qN,↓RS,RG,qA,qM,qL,ygf,Int.toNat_zero,List.getElem?_cons_zero]
  refine z73.ey (hY) ?_
  rintro _ S2 ⟨rfl,t2,hS2⟩
  simp(disch:=omega)only[↓RU,RV,RH,↓reduceIte,qE,reduceCtorEq,if_pos,qN,↓RS,RG,qA,qM,qL,ygf,Int.toNat_zero,List.getElem?_cons_zero]
  apply hK;clear hK K
  refine W.ret ?_
  refine XThen.ret ?_
  refine Br rfl ?_
  exact ⟨_,rfl,t2,by rw [zao]; exact hS2⟩
 try simp only[RL]at h0
 exact absurd h0 (by simp)
theorem zvo {σ:Type} {lb k nh nw:Nat} {pre:σ→List Ob} {fin:Nat→List Txt→Nat→List Ob × List Ob} {stop:List Txt→Bool} {nxt:σ→List Txt→σ} (Y:YC lb k nh nw pre fin stop nxt) {p:List Txt} {R:List RmB} (hs:St nh nw p R) (hn:R.length≤9) (h1:1≤nh) (h2:nh≤6) (h3:1≤nw) (h4:nw≤6) (hf:¬ fi p<nh) {u:Nat} (s:σ) (tl:List Ob) (t:Nat) (n:Int) :
  Ev Tryz.prog 105 [.int .i64 n,.ref (k+2+nh) (u+2) 0,.ref k u 0,.ip [.int .i64 nw] 0,.ip [.int .i64 nh] 0,.ref (k+3+nh) (u+3) 0] ⟨pre s++(zg4 k u lb nh nw (gI p)++tl),t⟩ (znx k u lb nh nw pre fin stop nxt [p] s p tl):=by
 have hk:=Y.len s
 have hgl:=zg8 hs.sh
 have e0:=gO_y (u:=u) (lb:=lb) (H:=nh) (W:=nw) (g:=gI p) (tl:=tl) hk
 refine Ev.lend (yck Y hs hn h1 h2 h3 h4 hf s t n) ?_ ?_
 ·rw [hk]
  refine ⟨.inr rfl,.inr (z9j hk hs.sh),.inr ?_,.inr rfl,.inr rfl,.inl rfl,trivial⟩
  rw [z4y,if_neg (by omega)]
  obtain ⟨S,hS⟩:∃ S:Store,(⟨pre s++(zg4 k u lb nh nw (gI p)++tl),t⟩:Store)=S:=⟨_,rfl⟩
  rw [hS]
  have e1:S.cellsOf k u=some [.yl lb]:=by rw [← hS]; simp only[Store.cellsOf,e0,if_true]
  show (if k≤k then (S.cellsOf k u).bind fun cells=>(cells.mapM (rfz S k 9)).map (PV.ip · 0) else none)=_
  rw [if_pos (qR _),e1]; rfl
 rintro v S ⟨rfl,t2,hS⟩
 have hR:(zg4 k u lb nh nw (gI p)++tl).length=nh+4+tl.length:=by rw [List.length_append,zbs hgl]
 rw [hk,hR]
 unfold znx
 cases hst:stop p with
 | false =>
  rw [hst]at hS
  simp only[qF,if_false]at hS
  subst hS
  have hl:=Y.len (nxt s p)
  refine ⟨.bool true,_,rfl,Y.sp _ _,by omega,?_⟩
  simp only[List.find?_cons,hst,List.find?_nil]
  refine ⟨trivial,t2,?_⟩
  rw [qT (by omega),List.drop_of_length_le (by omega),qN]; rfl
 | true =>
  rw [hst]at hS
  simp only[if_true]at hS
  obtain ⟨x,rfl⟩:=hS
  have hl:=Y.finl (nh+4+tl.length) p x
  refine ⟨.bool false,_,rfl,Y.sfin _ _ _,by rw [List.length_append]; omega,?_⟩
  simp only[List.find?_cons,hst]
  refine ⟨trivial,t2,x,[],?_⟩
  rw [List.take_left' hl,List.drop_left' hl]
  simp
def Cd (m:Nat) (p:List Txt) (n w d:Nat):List (List Txt):=En m (zeb p (fi p) (fk p) (w+1) (rl n) (fi p+(d+1))) (n+1)
def Ld (m:Nat) (p:List Txt) (n w d:Nat):List (List Txt):=(List.range d).flatMap (Cd m p n w)
def Lw (m:Nat) (p:List Txt) (n H w:Nat):List (List Txt):=(List.range w).flatMap fun w=>Ld m p n w (H - fi p)
theorem zs4 {m n w d:Nat} {p:List Txt}:Ld m p n w (d+1)=Ld m p n w d++Cd m p n w d:=by simp [Ld,qS]
theorem zs5 {m n H w:Nat} {p:List Txt}:Lw m p n H (w+1)=Lw m p n H w++Ld m p n w (H - fi p):=by simp [Lw,qS]
theorem z74 {m n H w d W2:Nat} {p:List Txt} (hw:w<W2) (hd:d<H - fi p):∃ r,Lw m p n H W2=Lw m p n H w++Ld m p n w d++Cd m p n w d++r:=by
 obtain ⟨r1,h1⟩:=zro (f:=fun w=>Ld m p n w (H - fi p)) (l:=List.range W2) (w:=w) (a:=w) (List.getElem?_range hw)
 obtain ⟨r2,h2⟩:=zro (f:=Cd m p n w) (l:=List.range (H - fi p)) (w:=d) (a:=d) (List.getElem?_range hd)
 refine ⟨r2++r1,?_⟩
 rw [List.take_range,Nat.min_eq_left (by omega)]at h1 h2
 have e1:Lw m p n H W2=(List.range w).flatMap (fun w=>Ld m p n w (H - fi p))++Ld m p n w (H - fi p)++r1:=h1
 have e2:Ld m p n w (H - fi p)=Ld m p n w d++Cd m p n w d++r2:=h2
 rw [e1,e2]
 simp [Lw,List.append_assoc]
theorem ybs {m n H:Nat} {p:List Txt} (h:p.length=H) (hf:fi p<H):En (m+1) p n=Lw m p n H (fw p):=by
 unfold En
 rw [h,if_pos hf]; rfl
theorem z2w {A tl:List Ob} {k u lb H W t:Nat} {p:List Txt} (hA:A.length=k) (hp:Shp2 p H W) {r:Nat} {row:Txt} (hr:p[r]?=some row):reify ⟨A++(zg4 k u lb H W (gI p)++tl),t⟩ true 10 (.loc (k+2+r) (u+1) 0 W)=some (eInts (row.map cI)):=by
 have hl:row.length=W:=hp.w row (List.mem_of_getElem? hr)
 have h1:=zbh (S:=⟨A++(zg4 k u lb H W (gI p)++tl),t⟩) (im:=true) (k:=9) (n:=W) (ts:=(row.map cI).map (.int .i64)) (ydv (u:=u) (lb:=lb) (W:=W) (tl:=tl) hA (zg8 hp) (zzz hr)) (by simp [hl]) (za5 fun x hx=>by obtain ⟨z,_,rfl⟩:=List.mem_map.1 hx; rfl)
 rw [h1]
 show _=some (PV.sl _ (row.map cI).length)
 rw [List.length_map,hl]
theorem yfv {A B tl:List Ob} {x:Ob} {t:Nat} {S:Store} (h:(⟨A++(B++tl),t⟩:Store)=S):Store.take ⟨A++(B++(tl++[x])),t⟩ (A.length+(B.length+tl.length))=S:=zsv.trans h
theorem zc1 {tl R:List Ob} {x:Ob}:(tl++x::R)[tl.length]?=some x:=by rw [List.getElem?_append_right (qR _),Nat.sub_self]; rfl
theorem zc2 {tl R:List Ob} {x y:Ob}:(tl++x::R).set tl.length y=tl++y::R:=by rw [List.set_append_right _ _ (qR _),Nat.sub_self]; rfl
theorem z8r {p:List Txt} {H W:Nat} (hp:Shp2 p H W) (hf:fi p<H):fk p+fw p≤W:=by
 rcases Nat.eq_zero_or_pos (fw p) with h | h
 ·have:=(zii hp hf).1; omega
 have:=((zrs hp hf).1 (show fw p - 1<fw p by omega)).1; omega
theorem zzy {p:List Txt} {H W w:Nat} (hp:Shp2 p H W) (hf:fi p<H) (h:w≤fw p):w<fw p∨(w=fw p∧fk p+w<W∧ch p (fi p) (fk p+w)≠46)∨(w=fw p∧¬ fk p+w<W):=by
 rcases Nat.lt_or_eq_of_le h with h | h
 ·exact .inl h
 by_cases q:fk p+w<W
 ·refine .inr (.inl ⟨h,q,fun e=>?_⟩)
  have:¬ w<fw p:=by omega
  refine this ((zrs hp hf).2 ⟨q,fun b b1 b2=>?_⟩)
  by_cases e2:b=fk p+w
  ·rw [e2]; exact e
  have h3:b - fk p<fw p:=by omega
  exact ((zrs hp hf).1 h3).2 b b1 (by omega)
 exact .inr (.inr ⟨h,q⟩)
set_option maxHeartbeats 1000000 in
theorem z4u {σ:Type} {lb k nh nw:Nat} {pre:σ→List Ob} {fin:Nat→List Txt→Nat→List Ob × List Ob} {stop:List Txt→Bool} {nxt:σ→List Txt→σ} (Y:YC lb k nh nw pre fin stop nxt) {p:List Txt} {R:List RmB} (hs:St nh nw p R) (hn:R.length≤9) (h1:1≤nh) (h2:nh≤6) (h3:1≤nw) (h4:nw≤6) {m:Nat} (hm:R.length+(m+1)=9) (h9:nh*nw≤9) (hf:fi p<nh) {u:Nat} (s:σ) (tl:List Ob) (t:Nat)
  (ih:∀ w d,w<fw p→d<nh - fi p→∀ (s:σ) (tl:List Ob) (t:Nat),Ev Tryz.prog 105 [.int .i64 (((R.length:Nat):Int)+1),.ref (k+2+nh) (u+2) 0,.ref k u 0,.ip [.int .i64 nw] 0,.ip [.int .i64 nh] 0,.ref (k+3+nh) (u+3) 0] ⟨pre s++(zg4 k u lb nh nw (gI (zeb p (fi p) (fk p) (w+1) (rl R.length) (fi p+(d+1))))++tl),t⟩ (znx k u lb nh nw pre fin stop nxt (Cd m p R.length w d) s (zeb p (fi p) (fk p) (w+1) (rl R.length) (fi p+(d+1))) tl)):Ev Tryz.prog 105 [.int .i64 (R.length:Nat),.ref (k+2+nh) (u+2) 0,.ref k u 0,.ip [.int .i64 nw] 0,.ip [.int .i64 nh] 0,.ref (k+3+nh) (u+3) 0] ⟨pre s++(zg4 k u lb nh nw (gI p)++tl),t⟩ fun v S=>znx k u lb nh nw pre fin stop nxt (Lw m p R.length nh (fw p)) s p tl v S:=by
 have hfw:=z8r hs.sh hf
 have hcr:cI (rl R.length)=((R.length:Nat):Int):=by rw [cI,if_neg (znt (by omega)),zis (by omega)]; omega
 have hk:=Y.len s
 have hgl:=zg8 hs.sh
 obtain ⟨f1,f2,f3⟩:=zii hs.sh hf
 obtain ⟨hrr,hrl,-,hrx⟩:=zzw hs.sh hf
 have hlt:=hs.rows hn
 have hrw:∀ r∈gI p,r.length=nw:=fun r hr=>by obtain ⟨x,hx,rfl⟩:=List.mem_map.1 hr; rw [List.length_map]; exact hs.sh.w x hx
 have hix:=ya1 hlt
 rw [hs.sh.h,if_pos hf]at hix
 have hI:=zkc (l:=gI p) (by omega) (cap:=[]) (g:=107) rfl (test:=tst) fun x hx=>yap (by rw [hrw x hx]; omega)
 rw [hix]at hI
 have hX:=zml (l:=(zzv p).map cI) (by rw [List.length_map]; omega) (x := -1) (i:=fk p) (by rw [List.getElem?_map,hrx _ f1,f2]; rfl) fun j hj e=>by
  rw [List.getElem?_map,hrx j (by omega)]at e
  exact f3 (fi p) j hf (by omega) (.inr ⟨rfl,hj⟩) ((yam (hs.letter hn hf (by omega))).1 (Option.some.inj e))
 refine Ev.of ⟨Tryz.func105,by kernel_rfl,rfl,by kernel_rfl⟩ zam mixed (by show 6≤Tryz.f105.ntmps; decide) ?_
 refine W.r fun K hK=>?_
 simp(disch:=omega)only[↓RU,RV,RH,↓reduceIte,qE,reduceCtorEq,if_pos,↓RS,RG,qA,qM,qL,List.append_assoc,List.length_append,List.cons_append,List.nil_append,hk,zbs hgl,zhu hk hgl,zdr hk hgl,zc1,zc2,zdt,zdu,zjl hk hgl,zj7 hk hgl,zi6 hk,zcx hf,zbm,zei]
 apply hK;clear hK K
 refine W.r fun K hK=>?_
 simp(disch:=omega)only[↓RU,RV,RH,↓reduceIte,qE,reduceCtorEq,if_pos,qN,↓RS,RG,qA,qM,qL,ty1,zab,zcb,zaa,List.append_assoc,List.length_append,List.cons_append,List.nil_append,hk,zbs hgl,zhu hk hgl,zdr hk hgl,zc1,zc2,zdt,zdu,zjl hk hgl,zj7 hk hgl,zi6 hk,zcx hf,zbm,zei]
 refine zaf.pc (hI) (zcn (z2v hk hs.sh (k2:=7)) (zcn rfl rfl)) (.inl rfl) ?_
 simp(disch:=omega)only[↓RU,RV,RH,↓reduceIte,qE,reduceCtorEq,if_pos,qN,↓RS,RG,qA,qM,qL,ty1,zab,zcb,zaa,List.append_assoc,List.length_append,List.cons_append,List.nil_append,hk,zbs hgl,zhu hk hgl,zdr hk hgl,zc1,zc2,zdt,zdu,zjl hk hgl,zj7 hk hgl,zi6 hk,zcx hf,zbm,zei]
 apply hK;clear hK K
 refine W.seq ?_
 refine W.r fun K hK=>?_
 simp(disch:=omega)only[↓RU,RV,RH,↓reduceIte,qE,reduceCtorEq,if_pos,w64,↓RS,RG,qA,qM,qL,zaa,List.append_assoc,List.length_append,List.cons_append,List.nil_append,hk,zbs hgl,zhu hk hgl,zdr hk hgl,zc1,zc2,zdt,zdu,zjl hk hgl,zj7 hk hgl,zi6 hk,zcx hf,zbm,zei]
 apply hK;clear hK K
 refine W.cond rfl (fun h0=>?_) (fun h0=>?_)
 ·try simp only[RL]at h0
  exfalso; omega
 ·try simp only[RL]at h0
  refine W.skip ?_
  refine xn ?_
  refine W.r fun K hK=>?_
  simp(disch:=omega)only[↓RU,RV,RH,↓reduceIte,qE,reduceCtorEq,if_pos,qN,↓RS,RG,qA,qM,qL,ty1,zab,zcb,zaa,List.append_assoc,List.length_append,List.cons_append,List.nil_append,hk,zbs hgl,zhu hk hgl,zdr hk hgl,zc1,zc2,zdt,zdu,zjl hk hgl,zj7 hk hgl,zi6 hk,zcx hf,zbm,zei]
  refine zaf.pc (hX) (zcn (z2w hk hs.sh hrr) (zcn rfl rfl)) (.inl rfl) ?_
  simp(disch:=omega)only[↓RU,RV,RH,↓reduceIte,qE,reduceCtorEq,if_pos,qN,↓RS,RG,qA,qM,qL,ty1,zab,zcb,zaa,List.append_assoc,List.length_append,List.cons_append,List.nil_append,hk,zbs hgl,zhu hk hgl,zdr hk hgl,zc1,zc2,zdt,zdu,zjl hk hgl,zj7 hk hgl,zi6 hk,zcx hf,zbm,zei]
  apply hK;clear hK K
  refine W.r fun K hK=>?_
  simp(disch:=omega)only[↓RU,RV,RH,↓reduceIte,qE,reduceCtorEq,if_pos,↓RS,RG,qA,qM,qL,List.append_assoc,List.length_append,List.cons_append,List.nil_append,hk,zbs hgl,zhu hk hgl,zdr hk hgl,zc1,zc2,zdt,zdu,zjl hk hgl,zj7 hk hgl,zi6 hk,zcx hf,zbm,zei]
  apply hK;clear hK K
  refine W.seq ?_
  refine W.r fun K hK=>?_
  simp(disch:=omega)only[↓RU,RV,RH,↓reduceIte,qE,reduceCtorEq,if_pos,↓RS,RG,qA,qM,qL,List.append_assoc,List.length_append,List.cons_append,List.nil_append,hk,zbs hgl,zhu hk hgl,zdr hk hgl,zc1,zc2,zdt,zdu,zjl hk hgl,zj7 hk hgl,zi6 hk,zcx hf,zbm,zei]
  apply hK;clear hK K
  refine W.block ?_
  refine W.loop [0,1,2,3,4,5,8,11,12,13] (fun n vs S=>∃ w t:Nat,n=fw p - w∧w≤fw p∧((Lw m p R.length nh w).find? stop=none)∧vs=[.int .i64 (R.length:Nat),.ref (k+2+nh) (u+2) 0,.ref k u 0,.ip [.int .i64 nw] 0,.ip [.int .i64 nh] 0,.ref (k+3+nh) (u+3) 0,.int .i64 (fi p:Nat),.int .i64 (fk p:Nat),.fn 109 [.ref (k+2+nh) (u+2) 0],.int .i64 ((w+1:Nat):Int)]∧S=⟨pre ((Lw m p R.length nh w).foldl nxt s)++(zg4 k u lb nh nw (gI p)++tl),t⟩) (fw p) ?_ ?_
  ·refine ⟨_,0,t,rfl,Nat.zero_le _,rfl,?_,zai ?_⟩
   rotate_left
   ·rfl
   simp [Env.put,Env.of,zae]
  rintro n vs S - ⟨w,t,rfl,h_w,hno,rfl,rfl⟩
  have hk:=Y.len ((Lw m p R.length nh w).foldl nxt s)
  refine W.seq ?_
  refine W.r fun K hK=>?_
  rcases (show w<fw p∨(w=fw p∧fk p+w<nw∧ch p (fi p) (fk p+w)≠46)∨(w=fw p∧¬ fk p+w<nw) from zzy hs.sh hf h_w) with hw | ⟨hw,hw2,hw3⟩ | ⟨hw,hw2⟩
  ·skip
   obtain ⟨hw1,hw2⟩:=(zrs hs.sh hf).1 hw
   have hc:=hrx _ hw1
   rw [hw2 _ (by omega) (by omega)]at hc
   have e1:decide (((fk p:Nat):Int)+((w+1:Nat):Int)≤(nw:Int))=true:=decide_eq_true (by omega)
   have e2:decide (cI 46<0)=true:=rfl
   have tn:(((fk p:Nat):Int)+((w+1:Nat):Int) - 1).toNat=fk p+w:=by omega
   have gr:=ydv (u:=u) (lb:=lb) (W:=nw) (tl:=tl) hk hgl (zzz hrr)
   simp(disch:=omega)only[↓RU,RV,RH,↓reduceIte,qE,reduceCtorEq,if_pos,w64,↓RS,RG,qA,qM,qL,ty1,zab,zcb,zaa,List.append_assoc,List.length_append,List.cons_append,List.nil_append,hk,zbs hgl,zhu hk hgl,zdr hk hgl,zc1,zc2,zdt,zdu,zjl hk hgl,zj7 hk hgl,zi6 hk,zcx hf,zbm,zei,e1,e2,tn,hc,gr,hrl]
   apply hK;clear hK K
   refine W.cond rfl (fun h8=>?_) (fun h8=>?_)
   ·try simp only[RL]at h8
    refine W.skip ?_
    refine xn ?_
    refine W.seq ?_
    refine W.block ?_
    refine W.r fun K hK=>?_
    simp(disch:=omega)only[↓RU,RV,RH,↓reduceIte,qE,reduceCtorEq,if_pos,↓RS,RG,qA,qM,qL,List.append_assoc,List.length_append,List.cons_append,List.nil_append,hk,zbs hgl,zhu hk hgl,zdr hk hgl,zc1,zc2,zdt,zdu,zjl hk hgl,zj7 hk hgl,zi6 hk,zcx hf,zbm,zei]
    apply hK;clear hK K
    refine W.block ?_
    refine W.loop [0,1,2,3,4,5,8,11,12,13,14] (fun n vs S=>∃ d t:Nat,n=nh - fi p - d∧d≤nh - fi p∧((Lw m p R.length nh w++Ld m p R.length w d).find? stop=none)∧vs=[.int .i64 (R.length:Nat),.ref (k+2+nh) (u+2) 0,.ref k u 0,.ip [.int .i64 nw] 0,.ip [.int .i64 nh] 0,.ref (k+3+nh) (u+3) 0,.int .i64 (fi p:Nat),.int .i64 (fk p:Nat),.fn 109 [.ref (k+2+nh) (u+2) 0],.int .i64 ((w+1:Nat):Int),.int .i64 ((d+1:Nat):Int)]∧S=⟨pre ((Lw m p R.length nh w++Ld m p R.length w d).foldl nxt s)++(zg4 k u lb nh nw (gI p)++tl),t⟩) (nh - fi p) ?_ ?_
    ·have hl0:(Lw m p R.length nh w++Ld m p R.length w 0)=(Lw m p R.length nh w):=by rw [show Ld m p R.length w 0=[] from rfl,qN]
     refine ⟨_,0,t,rfl,Nat.zero_le _,by rw [hl0]; exact hno,?_,zai ?_⟩
     rotate_left
     ·rw [hl0]
     simp [Env.put,Env.of]
    rintro n vs S - ⟨d,t,rfl,h_d,hno2,rfl,rfl⟩
    have hk:=Y.len ((Lw m p R.length nh w++Ld m p R.length w d).foldl nxt s)
    refine W.seq ?_
    refine W.r fun K hK=>?_
    simp(disch:=omega)only[↓RU,RV,RH,↓reduceIte,qE,reduceCtorEq,if_pos,w64,↓RS,RG,qA,qM,qL,zaa,List.append_assoc,List.length_append,List.cons_append,List.nil_append,hk,zbs hgl,zhu hk hgl,zdr hk hgl,zc1,zc2,zdt,zdu,zjl hk hgl,zj7 hk hgl,zi6 hk,zcx hf,zbm,zei]
    apply hK;clear hK K
    refine W.cond rfl (fun h2c=>?_) (fun h2c=>?_)
    ·try simp only[RL]at h2c
     have hd:d<nh - fi p:=by omega
     have hps:Shp2 (zeb p (fi p) (fk p) (w+1) (rl R.length) (fi p+(d+1))) nh nw:=zkg hs.sh
     have hbk:=z9c (c:=rl R.length) (i:=fi p) (k:=fk p) (w:=w+1) (e:=fi p+(d+1)) hs.sh fun a b ha hb q1 q2=>hs.col (fi p) b a hf hb (hw2 b q2.1 (by omega)) q1.1 ha
     refine W.skip ?_
     refine xn ?_
     refine W.seq ?_
     refine W.block ?_
     refine W.r fun K hK=>?_
     simp(disch:=omega)only[↓RU,RV,RH,↓reduceIte,qE,reduceCtorEq,if_pos,↓RS,RG,qA,qM,qL,zdo,zaa,zdp,List.append_assoc,List.length_append,List.cons_append,List.nil_append,hk,zbs hgl,zhu hk hgl,zdr hk hgl,zc1,zc2,zdt,zdu,zjl hk hgl,zj7 hk hgl,zi6 hk,zcx hf,zbm,zei]
     apply hK;clear hK K
     refine W.r fun K hK=>?_
     simp(disch:=omega)only[↓RU,RV,RH,↓reduceIte,qE,reduceCtorEq,if_pos,qN,↓RS,RG,qA,qM,qL,zdo,zaa,zdp,List.append_assoc,List.length_append,List.cons_append,List.nil_append,hk,zbs hgl,zhu hk hgl,zdr hk hgl,zc1,zc2,zdt,zdu,zjl hk hgl,zj7 hk hgl,zi6 hk,zcx hf,zbm,zei]
     have hE:=zkm (u:=u) (lb:=lb) (tl:=tl++[Ob.arr t 92 4 [.int .i64 (fi p:Nat),.int .i64 (fk p:Nat),.int .i64 ((d+1:Nat):Int),.int .i64 ((w+1:Nat):Int)]]) (t:=t+1) (c:=rl R.length) hk hs.sh (i:=fi p) (kk:=fk p) (d:=d+1) (w:=w+1) (by omega) (by omega) h2 h4
     rw [hcr]at hE
     refine zaf.ev (hE) ?_
     rintro _ _ ⟨rfl,t2,-,rfl⟩
     simp(disch:=omega)only[↓RU,RV,RH,↓reduceIte,qE,reduceCtorEq,if_pos,qN,↓RS,RG,qA,qM,qL,zdo,zaa,zdp,List.append_assoc,List.length_append,List.cons_append,List.nil_append,hk,zbs hgl,zhu hk hgl,zdr hk hgl,zc1,zc2,zdt,zdu,zjl hk hgl,zj7 hk hgl,zi6 hk,zcx hf,zbm,zei]
     apply hK;clear hK K
     refine W.r fun K hK=>?_
     rcases hF:(Cd m p R.length w d).find? stop with _ | q
     ·skip
      have hgl:=zg8 hps
      simp(disch:=omega)only[↓RU,RV,RH,↓reduceIte,qE,reduceCtorEq,if_pos,w64,qN,↓RS,RG,qA,qM,qL,ybj,zaa,List.append_assoc,List.length_append,List.cons_append,List.nil_append,hk,zbs hgl,zhu hk hgl,zdr hk hgl,zc1,zc2,zdt,zdu,zjl hk hgl,zj7 hk hgl,zi6 hk,zcx hf,zbm,zei]
      refine zaf.ev (ih w d hw hd _ _ _) ?_
      rintro _ _ hR
      simp only[znx,hF]at hR
      obtain ⟨rfl,t3,rfl⟩:=hR
      simp(disch:=omega)only[↓RU,RV,RH,↓reduceIte,qE,reduceCtorEq,if_pos,w64,qN,↓RS,RG,qA,qM,qL,ybj,zaa,List.append_assoc,List.length_append,List.cons_append,List.nil_append,hk,zbs hgl,zhu hk hgl,zdr hk hgl,zc1,zc2,zdt,zdu,zjl hk hgl,zj7 hk hgl,zi6 hk,zcx hf,zbm,zei]
      apply hK;clear hK K
      refine W.r fun K hK=>?_
      have hk:=Y.len ((Cd m p R.length w d).foldl nxt ((Lw m p R.length nh w++Ld m p R.length w d).foldl nxt s))
      simp(disch:=omega)only[↓RU,RV,RH,↓reduceIte,qE,reduceCtorEq,if_pos,qN,↓RS,RG,qA,qM,qL,zdo,zaa,zdp,List.append_assoc,List.length_append,List.cons_append,List.nil_append,hk,zbs hgl,zhu hk hgl,zdr hk hgl,zc1,zc2,zdt,zdu,zjl hk hgl,zj7 hk hgl,zi6 hk,zcx hf,zbm,zei]
      have hE:=zkm (u:=u) (lb:=lb) (tl:=tl++[Ob.arr t 92 4 [.int .i64 (fi p:Nat),.int .i64 (fk p:Nat),.int .i64 ((d+1:Nat):Int),.int .i64 ((w+1:Nat):Int)]]) (t:=t3) (c:=46) hk hps (i:=fi p) (kk:=fk p) (d:=d+1) (w:=w+1) (by omega) (by omega) h2 h4
      rw [hbk,show cI 46 = -1 from rfl]at hE
      refine zaf.ev (hE) ?_
      rintro _ _ ⟨rfl,t4,-,rfl⟩
      simp(disch:=omega)only[↓RU,RV,RH,↓reduceIte,qE,reduceCtorEq,if_pos,qN,↓RS,RG,qA,qM,qL,zdo,zaa,zdp,List.append_assoc,List.length_append,List.cons_append,List.nil_append,hk,zbs hgl,zhu hk hgl,zdr hk hgl,zc1,zc2,zdt,zdu,zjl hk hgl,zj7 hk hgl,zi6 hk,zcx hf,zbm,zei]
      apply hK;clear hK K
      refine W.r fun K hK=>?_
      simp(disch:=omega)only[↓RU,RV,RH,↓reduceIte,qE,reduceCtorEq,if_pos,↓RS,RG,qA,qM,qL,List.append_assoc,List.length_append,List.cons_append,List.nil_append,hk,zbs hgl,zhu hk hgl,zdr hk hgl,zc1,zc2,zdt,zdu,zjl hk hgl,zj7 hk hgl,zi6 hk,zcx hf,zbm,zei]
      apply hK;clear hK K
      refine W.cond rfl (fun h3c=>?_) (fun h3c=>?_)
      ·try simp only[RL]at h3c
       exact absurd h3c (by simp)
      ·try simp only[RL]at h3c
       refine W.skip ?_
       refine XbN ?_
       refine xn ?_
       refine W.k fun K hK=>?_
       simp(disch:=omega)only[↓RU,RV,RH,↓reduceIte,qE,reduceCtorEq,if_pos,w64,↓RS,RG,qA,qM,qL,zaa,List.append_assoc,List.length_append,List.cons_append,List.nil_append,hk,zbs hgl,zhu hk hgl,zdr hk hgl,zc1,zc2,zdt,zdu,zjl hk hgl,zj7 hk hgl,zi6 hk,zcx hf,zbm,zei]
       apply hK;clear hK K
       refine xn ?_
       refine ⟨nh - fi p - (d+1),by omega,_,d+1,t4,rfl,by omega,?_,?_,yfv ?_⟩
       rotate_left 2
       ·simp only[zs4,← List.append_assoc,List.foldl_append]
       ·rw [zs4,← List.append_assoc,List.find?_append,hno2,Option.none_or]; exact hF
       simp [Env.put,Env.of]
     skip
     have hgl:=zg8 hps
     simp(disch:=omega)only[↓RU,RV,RH,↓reduceIte,qE,reduceCtorEq,if_pos,w64,qN,↓RS,RG,qA,qM,qL,ybj,zaa,List.append_assoc,List.length_append,List.cons_append,List.nil_append,hk,zbs hgl,zhu hk hgl,zdr hk hgl,zc1,zc2,zdt,zdu,zjl hk hgl,zj7 hk hgl,zi6 hk,zcx hf,zbm,zei]
     refine zaf.ev (ih w d hw hd _ _ _) ?_
     rintro _ _ hR
     simp only[znx,hF]at hR
     obtain ⟨rfl,t3,x,J,hS3⟩:=hR
     have hz:nh+4+(tl++[Ob.arr t 92 4 [.int .i64 (fi p:Nat),.int .i64 (fk p:Nat),.int .i64 ((d+1:Nat):Int),.int .i64 ((w+1:Nat):Int)]]).length+J.length=nh+4+tl.length+(Ob.arr t 92 4 [.int .i64 (fi p:Nat),.int .i64 (fk p:Nat),.int .i64 ((d+1:Nat):Int),.int .i64 ((w+1:Nat):Int)]::J).length:=by simp only[List.length_append,List.length_cons,List.length_nil]; omega
     rw [hz]at hS3
     generalize hG:fin (nh+4+tl.length+(Ob.arr t 92 4 [.int .i64 (fi p:Nat),.int .i64 (fk p:Nat),.int .i64 ((d+1:Nat):Int),.int .i64 ((w+1:Nat):Int)]::J).length) q x=G at hS3
     subst hS3
     simp(disch:=omega)only[↓RU,RV,RH,↓reduceIte,qE,reduceCtorEq,if_pos,w64,qN,↓RS,RG,qA,qM,qL,ybj,zaa,List.append_assoc,List.length_append,List.cons_append,List.nil_append,hk,zbs hgl,zhu hk hgl,zdr hk hgl,zc1,zc2,zdt,zdu,zjl hk hgl,zj7 hk hgl,zi6 hk,zcx hf,zbm,zei]
     apply hK;clear hK K
     refine W.r fun K hK=>?_
     have hk:G.1.length=k:=by rw [← hG]; exact Y.finl _ q x
     simp(disch:=omega)only[↓RU,RV,RH,↓reduceIte,qE,reduceCtorEq,if_pos,qN,↓RS,RG,qA,qM,qL,zdo,zaa,zdp,List.append_assoc,List.length_append,List.cons_append,List.nil_append,hk,zbs hgl,zhu hk hgl,zdr hk hgl,zc1,zc2,zdt,zdu,zjl hk hgl,zj7 hk hgl,zi6 hk,zcx hf,zbm,zei]
     have hE:=zkm (u:=u) (lb:=lb) (tl:=tl++Ob.arr t 92 4 [.int .i64 (fi p:Nat),.int .i64 (fk p:Nat),.int .i64 ((d+1:Nat):Int),.int .i64 ((w+1:Nat):Int)]::(J++G.2)) (t:=t3) (c:=46) hk hps (i:=fi p) (kk:=fk p) (d:=d+1) (w:=w+1) (by omega) (by omega) h2 h4
     rw [hbk,show cI 46 = -1 from rfl]at hE
     refine zaf.ev (hE) ?_
     rintro _ _ ⟨rfl,t4,-,rfl⟩
     simp(disch:=omega)only[↓RU,RV,RH,↓reduceIte,qE,reduceCtorEq,if_pos,qN,↓RS,RG,qA,qM,qL,zdo,zaa,zdp,List.append_assoc,List.length_append,List.cons_append,List.nil_append,hk,zbs hgl,zhu hk hgl,zdr hk hgl,zc1,zc2,zdt,zdu,zjl hk hgl,zj7 hk hgl,zi6 hk,zcx hf,zbm,zei]
     apply hK;clear hK K
     refine W.r fun K hK=>?_
     simp(disch:=omega)only[↓RU,RV,RH,↓reduceIte,qE,reduceCtorEq,if_pos,↓RS,RG,qA,qM,qL,List.append_assoc,List.length_append,List.cons_append,List.nil_append,hk,zbs hgl,zhu hk hgl,zdr hk hgl,zc1,zc2,zdt,zdu,zjl hk hgl,zj7 hk hgl,zi6 hk,zcx hf,zbm,zei]
     apply hK;clear hK K
     refine W.cond rfl (fun h3c=>?_) (fun h3c=>?_)
     ·try simp only[RL]at h3c
      refine W.r fun K hK=>?_
      simp(disch:=omega)only[↓RU,RV,RH,↓reduceIte,qE,reduceCtorEq,if_pos,↓RS,RG,qA,qM,qL,List.append_assoc,List.length_append,List.cons_append,List.nil_append,hk,zbs hgl,zhu hk hgl,zdr hk hgl,zc1,zc2,zdt,zdu,zjl hk hgl,zj7 hk hgl,zi6 hk,zcx hf,zbm,zei]
      apply hK;clear hK K
      refine W.ret ?_
      refine XBlock.ret ?_
      refine XThen.ret ?_
      refine XThen.ret ?_
      refine XBlock.ret ?_
      refine XBlock.ret ?_
      refine XThen.ret ?_
      refine XThen.ret ?_
      refine XBlock.ret ?_
      refine XThen.ret ?_
      refine Br rfl ?_
      obtain ⟨r,hr⟩:=z74 (m:=m) (p:=p) (n:=R.length) hw hd
      exact ⟨_,by rw [znx,hr,List.find?_append,List.find?_append,hno2,hF]; exact ⟨rfl,t4,x,Ob.arr t 92 4 [.int .i64 (fi p:Nat),.int .i64 (fk p:Nat),.int .i64 ((d+1:Nat):Int),.int .i64 ((w+1:Nat):Int)]::J,by rw [hG]; exact zao⟩⟩
     try simp only[RL]at h3c
     exact absurd h3c (by simp)
    ·try simp only[RL]at h2c
     obtain rfl:d=nh - fi p:=by omega
     refine W.exit ?_
     refine xe ?_
     refine xe ?_
     refine XBlock.hit ?_
     refine XbN ?_
     refine xn ?_
     refine W.k fun K hK=>?_
     simp(disch:=omega)only[↓RU,RV,RH,↓reduceIte,qE,reduceCtorEq,if_pos,w64,↓RS,RG,qA,qM,qL,zaa,List.append_assoc,List.length_append,List.cons_append,List.nil_append,hk,zbs hgl,zhu hk hgl,zdr hk hgl,zc1,zc2,zdt,zdu,zjl hk hgl,zj7 hk hgl,zi6 hk,zcx hf,zbm,zei]
     apply hK;clear hK K
     refine xn ?_
     refine ⟨fw p - (w+1),by omega,_,w+1,t,rfl,by omega,?_,?_,zai ?_⟩
     ·rw [zs5]; exact hno2
     rotate_left
     ·rw [zs5]
     simp [Env.put,Env.of]
   try simp only[RL]at h8
   exact absurd h8 (by simp)
  ·skip
   have hc:=hrx _ hw2
   have hlc:=(hs.letter hn hf hw2).resolve_left hw3
   have e1:decide (((fk p:Nat):Int)+((w+1:Nat):Int)≤(nw:Int))=true:=decide_eq_true (by omega)
   have e2:decide (cI (ch p (fi p) (fk p+w))<0)=false:=decide_eq_false (by unfold cI; rw [if_neg hw3]; omega)
   have tn:(((fk p:Nat):Int)+((w+1:Nat):Int) - 1).toNat=fk p+w:=by omega
   have gr:=ydv (u:=u) (lb:=lb) (W:=nw) (tl:=tl) hk hgl (zzz hrr)
   simp(disch:=omega)only[↓RU,RV,RH,↓reduceIte,qE,reduceCtorEq,if_pos,w64,↓RS,RG,qA,qM,qL,ty1,zab,zcb,zaa,List.append_assoc,List.length_append,List.cons_append,List.nil_append,hk,zbs hgl,zhu hk hgl,zdr hk hgl,zc1,zc2,zdt,zdu,zjl hk hgl,zj7 hk hgl,zi6 hk,zcx hf,zbm,zei,e1,e2,tn,hc,gr,hrl]
   apply hK;clear hK K
   refine W.cond rfl (fun h8=>?_) (fun h8=>?_)
   ·try simp only[RL]at h8
    exact absurd h8 (by simp)
   try simp only[RL]at h8
   subst hw
   refine W.exit ?_
   refine xe ?_
   refine xe ?_
   refine XBlock.hit ?_
   refine xn ?_
   refine W.r fun K hK=>?_
   simp(disch:=omega)only[↓RU,RV,RH,↓reduceIte,qE,reduceCtorEq,if_pos,↓RS,RG,qA,qM,qL,List.append_assoc,List.length_append,List.cons_append,List.nil_append,hk,zbs hgl,zhu hk hgl,zdr hk hgl,zc1,zc2,zdt,zdu,zjl hk hgl,zj7 hk hgl,zi6 hk,zcx hf,zbm,zei]
   apply hK;clear hK K
   refine W.ret ?_
   refine Br rfl ?_
   exact ⟨_,by rw [znx,hno]; exact ⟨rfl,t,zao⟩⟩
  skip
  have e1:decide (((fk p:Nat):Int)+((w+1:Nat):Int)≤(nw:Int))=false:=decide_eq_false (by omega)
  simp(disch:=omega)only[↓RU,RV,RH,↓reduceIte,qE,reduceCtorEq,if_pos,w64,↓RS,RG,qA,qM,qL,ty1,zab,zcb,zaa,List.append_assoc,List.length_append,List.cons_append,List.nil_append,hk,zbs hgl,zhu hk hgl,zdr hk hgl,zc1,zc2,zdt,zdu,zjl hk hgl,zj7 hk hgl,zi6 hk,zcx hf,zbm,zei,e1]
  apply hK;clear hK K
  refine W.cond rfl (fun h8=>?_) (fun h8=>?_)
  ·try simp only[RL]at h8
   exact absurd h8 (by simp)
  try simp only[RL]at h8
  subst hw
  refine W.exit ?_
  refine xe ?_
  refine xe ?_
  refine XBlock.hit ?_
  refine xn ?_
  refine W.r fun K hK=>?_
  simp(disch:=omega)only[↓RU,RV,RH,↓reduceIte,qE,reduceCtorEq,if_pos,↓RS,RG,qA,qM,qL,List.append_assoc,List.length_append,List.cons_append,List.nil_append,hk,zbs hgl,zhu hk hgl,zdr hk hgl,zc1,zc2,zdt,zdu,zjl hk hgl,zj7 hk hgl,zi6 hk,zcx hf,zbm,zei]
  apply hK;clear hK K
  refine W.ret ?_
  refine Br rfl ?_
  exact ⟨_,by rw [znx,hno]; exact ⟨rfl,t,zao⟩⟩
theorem zhr {l:Nat}:(PV.yl l).cells=[.yl l]:=rfl
theorem zyd {l:Nat}:(PV.yl l).isCell=true:=rfl
theorem z4t {σ:Type} {lb k nh nw:Nat} {pre:σ→List Ob} {fin:Nat→List Txt→Nat→List Ob × List Ob} {stop:List Txt→Bool} {nxt:σ→List Txt→σ} (Y:YC lb k nh nw pre fin stop nxt) (h1:1≤nh) (h2:nh≤6) (h3:1≤nw) (h4:nw≤6) (h9:nh*nw≤9):∀ (m:Nat) {p:List Txt} {R:List RmB},St nh nw p R→R.length+m=9→∀ (u:Nat) (s:σ) (tl:List Ob) (t:Nat) (n:Int),n=(R.length:Nat) →
  Ev Tryz.prog 105 [.int .i64 n,.ref (k+2+nh) (u+2) 0,.ref k u 0,.ip [.int .i64 nw] 0,.ip [.int .i64 nh] 0,.ref (k+3+nh) (u+3) 0] ⟨pre s++(zg4 k u lb nh nw (gI p)++tl),t⟩ (znx k u lb nh nw pre fin stop nxt (En m p R.length) s p tl)
 | 0,p,R,hs,hm,u,s,tl,t,n,hn=>by
  have hf:¬ fi p<nh:=fun hf=>by
   obtain ⟨f1,f2,-⟩:=zii hs.sh hf
   have:=hs.lim hf f1 f2
   omega
  exact zvo Y hs (by omega) h1 h2 h3 h4 hf s tl t n
 | m+1,p,R,hs,hm,u,s,tl,t,n,hn=>by
  subst hn
  by_cases hf:fi p<nh
  ·rw [ybs hs.sh.h hf]
   refine z4u Y hs (by omega) h1 h2 h3 h4 hm h9 hf s tl t fun w d hw hd s tl t=>?_
   have hl:(R++[(⟨fi p,fk p,d+1,w+1⟩:RmB)]).length=R.length+1:=by simp
   have:=z4t Y h1 h2 h3 h4 h9 m (hs.next h9 hf hw hd) (by omega) u s tl t (((R.length:Nat):Int)+1) (by rw [hl]; rfl)
   rw [hl]at this
   exact this
  have e:En (m+1) p R.length=[p]:=by
   unfold En
   rw [hs.sh.h,if_neg hf]
  rw [e]
  exact zvo Y hs (by omega) h1 h2 h3 h4 hf s tl t _
theorem z8b {nh nw:Nat}:bgT (fun _ _ => -1) nw nh=gI (dots nh nw):=by
 unfold bgT gI dots
 rw [List.map_replicate,List.map_replicate,List.map_const',List.map_const',List.length_range,List.length_range]
 rfl
theorem ye2 {A Rw tl:List Ob} {y o:Ob} {k nh n:Nat} (hA:A.length=k) (hR:Rw.length=nh) (j:Nat) (hn:n=k+(nh+2+j)):(A++y::o::(Rw++tl))[n]?=tl[j]?:=by
 subst hn
 rw [List.getElem?_append_right (by omega),show k+(nh+2+j) - A.length=nh+j+1+1 by omega,List.getElem?_cons_succ,List.getElem?_cons_succ,List.getElem?_append_right (by omega)]
 congr 1; omega
theorem ye3 {A Rw tl:List Ob} {y o b:Ob} {k nh n:Nat} (hA:A.length=k) (hR:Rw.length=nh) (j:Nat) (hn:n=k+(nh+2+j)):(A++y::o::(Rw++tl)).set n b=A++y::o::(Rw++tl.set j b):=by
 subst hn
 rw [List.set_append_right _ _ (by omega),show k+(nh+2+j) - A.length=nh+j+1+1 by omega,List.set_cons_succ,List.set_cons_succ,List.set_append_right _ _ (by omega)]
 congr 5; omega
def yfo {σ:Type} (pre:σ→List Ob) (fin:Nat→List Txt→Nat→List Ob × List Ob) (stop:List Txt→Bool) (nxt:σ→List Txt→σ) (L:List (List Txt)) (s:σ) (S:Store):Prop :=
 match L.find? stop with
 | none=>∃ t,S=⟨pre (L.foldl nxt s),t⟩
 | some q=>∃ t x J,S=⟨(fin (List.length J) q x).1++(J++(fin (List.length J) q x).2),t⟩
theorem z8n {σ:Type} {lb k nh nw:Nat} {pre:σ→List Ob} {fin:Nat→List Txt→Nat→List Ob × List Ob} {stop:List Txt→Bool} {nxt:σ→List Txt→σ} (Y:YC lb k nh nw pre fin stop nxt) {v:PV} {S:Store} {p:List Txt} (hp:Shp2 p nh nw) {u:Nat} {L:List (List Txt)} {s:σ} (h:znx k u lb nh nw pre fin stop nxt L s p [] v S):∃ j,yfo pre fin stop nxt L s (S.take j):=by
 unfold znx at h
 unfold yfo
 cases hF:L.find? stop with
 | none =>
  rw [hF]at h
  obtain ⟨-,t,rfl⟩:=h
  exact ⟨(pre (L.foldl nxt s)).length,t,by show (⟨List.take _ _,t⟩:Store)=_; rw [List.take_left]⟩
 | some q =>
  rw [hF]at h
  obtain ⟨-,t,x,J,rfl⟩:=h
  have e:nh+4+([]:List Ob).length+J.length=(zg4 k u lb nh nw (gI p)++J).length:=by rw [List.length_append,zbs (zg8 hp)]; rfl
  rw [e]
  exact ⟨_,t,x,zg4 k u lb nh nw (gI p)++J,zai (by rw [List.nil_append,List.append_assoc])⟩
theorem z4s {σ:Type} {lb k nh nw:Nat} {pre:σ→List Ob} {fin:Nat→List Txt→Nat→List Ob × List Ob} {stop:List Txt→Bool} {nxt:σ→List Txt→σ} (Y:YC lb k nh nw pre fin stop nxt) (h1:1≤nh) (h2:nh≤6) (h3:1≤nw) (h4:nw≤6) (h9:nh*nw≤9) (s:σ) (t:Nat):Ev Tryz.prog 102 [.yl lb,.ip [.int .i64 nh] 0,.ip [.int .i64 nw] 0] ⟨pre s,t⟩ fun v S=>yfo pre fin stop nxt (zet nh nw) s S:=by
 have hk:=Y.len s
 have hB:=z1u (c:=fun _ _ => -1) (nh:=nh) (nw:=nw) (by omega) (by omega) (g:=104) (cap:=[]) (fun _ _=>rfl) fun r w _ _=>z81 r w
 rw [z8b]at hB
 have hR:∀ v,(rwO v (gI (dots nh nw))).length=nh:=fun v=>by rw [ziw,zg8 zn6]
 refine Ev.of ⟨Tryz.func102,by kernel_rfl,rfl,by kernel_rfl⟩ zam mixed (by show 3≤Tryz.f102.ntmps; decide) ?_
 refine W.r fun K hK=>?_
 simp(disch:=omega)only[↓RU,RV,RH,↓reduceIte,qE,reduceCtorEq,if_pos,↓RS,RG,qA,qM,qL,ygf,hk,List.append_assoc,List.length_append,List.cons_append,List.nil_append,Int.toNat_zero,List.getElem?_cons_zero,zhr,zyd,zhq,zyc]
 apply hK;clear hK K
 refine W.r fun K hK=>?_
 simp(disch:=omega)only[↓RU,RV,RH,↓reduceIte,qE,reduceCtorEq,if_pos,qN,↓RS,RG,qA,qM,qL,ty1,zab,zcb,zaa,hk,List.append_assoc,List.length_append,List.cons_append,List.nil_append,Int.toNat_zero,List.getElem?_cons_zero,zhr,zyd,zhq,zyc,ybl,ybn,hR,ye2 hk (hR (t+1)) 0 (show k+(nh+1+1)=k+(nh+2+0) by omega),ye3 hk (hR (t+1)) 0 (show k+(nh+1+1)=k+(nh+2+0) by omega)]
 refine zaf.pn (hB) rfl (.inl rfl) ?_
 simp(disch:=omega)only[↓RU,RV,RH,↓reduceIte,qE,reduceCtorEq,if_pos,qN,↓RS,RG,qA,qM,qL,ty1,zab,zcb,zaa,hk,List.append_assoc,List.length_append,List.cons_append,List.nil_append,Int.toNat_zero,List.getElem?_cons_zero,zhr,zyd,zhq,zyc,ybl,ybn,hR,ye2 hk (hR (t+1)) 0 (show k+(nh+1+1)=k+(nh+2+0) by omega),ye3 hk (hR (t+1)) 0 (show k+(nh+1+1)=k+(nh+2+0) by omega),RN]
 apply hK;clear hK K
 refine W.r fun K hK=>?_
 simp(disch:=omega)only[↓RU,RV,RH,↓reduceIte,qE,reduceCtorEq,if_pos,↓RS,RG,qA,qM,qL,ybj,hk,List.append_assoc,List.length_append,List.cons_append,List.nil_append,Int.toNat_zero,List.getElem?_cons_zero,zhr,zyd,zhq,zyc,hR]
 apply hK;clear hK K
 refine W.r fun K hK=>?_
 simp(disch:=omega)only[↓RU,RV,RH,↓reduceIte,qE,reduceCtorEq,if_pos,↓RS,RG,qA,qM,qL,ybj,hk,List.append_assoc,List.length_append,List.cons_append,List.nil_append,Int.toNat_zero,List.getElem?_cons_zero,zhr,zyd,zhq,zyc,hR,ye2 hk (hR (t+1)) 1 (show k+(nh+1+1+1)=k+(nh+2+1) by omega),ye3 hk (hR (t+1)) 1 (show k+(nh+1+1+1)=k+(nh+2+1) by omega)]
 apply hK;clear hK K
 refine W.k fun K hK=>?_
 simp(disch:=omega)only[↓RU,RV,RH,↓reduceIte,qE,reduceCtorEq,if_pos,qN,↓RS,RG,qA,qM,qL,ybj,hk,List.append_assoc,List.length_append,List.cons_append,List.nil_append,Int.toNat_zero,List.getElem?_cons_zero,zhr,zyd,zhq,zyc,hR,ye2 hk (hR (t+1)) 1 (show k+(nh+1+1+1)=k+(nh+2+1) by omega),ye3 hk (hR (t+1)) 1 (show k+(nh+1+1+1)=k+(nh+2+1) by omega)]
 rw [show k+(nh+1+1)=k+2+nh by omega,show k+(nh+1+1+1)=k+3+nh by omega,show 1+(k+1)=k+2 by omega]
 have hF:=z4t Y h1 h2 h3 h4 h9 9 (zx6 (H:=nh) (W:=nw)) rfl t s [] (t+1+1+1+1) 0 rfl
 simp only[qN,zg4,zei]at hF
 refine zaf.ev (hF) ?_
 rintro _ S2 hR2
 simp(disch:=omega)only[↓RU,RV,RH,↓reduceIte,qE,reduceCtorEq,if_pos,qN,↓RS,RG,qA,qM,qL,ybj,hk,List.append_assoc,List.length_append,List.cons_append,List.nil_append,Int.toNat_zero,List.getElem?_cons_zero,zhr,zyd,zhq,zyc,hR,ye2 hk (hR (t+1)) 1 (show k+(nh+1+1+1)=k+(nh+2+1) by omega),ye3 hk (hR (t+1)) 1 (show k+(nh+1+1+1)=k+(nh+2+1) by omega)]
 apply hK;clear hK K
 refine ze1.norm rfl ?_
 exact z8n Y zn6 hR2
end
theorem z6d {p:List Txt} (hv:zco p=true):PC Tryz.prog 51 [.agg [zg3 (lfM p),zg3 (abM p)]] (eInts (zcq p)) true:=PN.ints0 (z6e hv) rfl zer
def ifL (b:Bool) (l:List Int):List Int:=if b then l else []
theorem zpl {p:List Txt} (hs:Sm p) (hp:zbk p=true) (below:Bool):PC Tryz.prog 92 [zal p,.bool below] (eInts (srt p below)) true:=PN.ints0 (zyj hs hp below) rfl zhz
theorem ya8 {p:List Txt} (hs:Sm p) (hv:zco p=false):PC Tryz.prog 24 [zal p] (.tup [eInts [],.bool false]) false:=by
 refine PC.of ⟨Tryz.func24,by kernel_rfl,rfl,by kernel_rfl⟩ zam mixed (by show 1≤Tryz.f24.ntmps; decide) ?_
 refine W.r fun K hK=>?_
 simp(disch:=omega)only[↓RU,RV,RH,↓reduceIte,qE,reduceCtorEq,if_pos,↓RS,RG,qA,qM,qL]
 apply hK;clear hK K
 refine W.r fun K hK=>?_
 simp(disch:=omega)only[↓RU,RV,RH,↓reduceIte,qE,reduceCtorEq,if_pos,qN,↓RS,RG,qA,qM,qL,ty0,ty3,zap,zg5,zfc,zg6]
 refine zaf.pc (zyl hs hv) rfl (.inr rfl) ?_
 simp(disch:=omega)only[↓RU,RV,RH,↓reduceIte,qE,reduceCtorEq,if_pos,qN,↓RS,RG,qA,qM,qL,ty0,ty3,zap,zg5,zfc,zg6]
 apply hK;clear hK K
 refine W.seq ?_
 refine W.r fun K hK=>?_
 simp(disch:=omega)only[↓RU,RV,RH,↓reduceIte,qE,reduceCtorEq,if_pos,↓RS,RG,qA,qM,qL]
 apply hK;clear hK K
 refine W.cond rfl (fun h=>?_) (fun h=>?_)
 ·try simp only[RL]at h
  refine W.r fun K hK=>?_
  simp(disch:=omega)only[↓RU,RV,RH,↓reduceIte,qE,reduceCtorEq,if_pos,↓RS,RG,qA,qM,qL]
  apply hK;clear hK K
  refine W.ret ?_
  refine XThen.ret ?_
  refine Br rfl ?_
  rfl
 try simp only[RL]at h
 exact absurd h (by simp)
theorem zlb {p:List Txt} (hs:Sm p) (hp:zbk p=true):PC Tryz.prog 44 [zal p] (eInts (zcq p)) true:=by
 obtain ⟨hg,hr,hn9,hn1,-,-⟩:=zms hp
 have hl1:=zhz (p:=p) (below:=false)
 have hl2:=zhz (p:=p) (below:=true)
 have hpl:=zer (p:=p)
 refine PC.of ⟨Tryz.func44,by kernel_rfl,rfl,by kernel_rfl⟩ zam mixed (by show 1≤Tryz.f44.ntmps; decide) ?_
 refine W.r fun K hK=>?_
 simp(disch:=omega)only[↓RU,RV,RH,↓reduceIte,qE,reduceCtorEq,if_pos,↓RS,RG,qA,qM,qL]
 apply hK;clear hK K
 refine W.r fun K hK=>?_
 simp(disch:=omega)only[↓RU,RV,RH,↓reduceIte,qE,reduceCtorEq,if_pos,qN,↓RS,RG,qA,qM,qL]
 refine zaf.pc (zpl hs hp false) rfl (.inl rfl) ?_
 simp(disch:=omega)only[↓RU,RV,RH,↓reduceIte,qE,reduceCtorEq,if_pos,qN,↓RS,RG,qA,qM,qL]
 apply hK;clear hK K
 refine W.r fun K hK=>?_
 simp(disch:=omega)only[↓RU,RV,RH,↓reduceIte,qE,reduceCtorEq,if_pos,qN,↓RS,RG,qA,qM,qL]
 refine zaf.pc (zpl hs hp true) rfl (.inl rfl) ?_
 simp(disch:=omega)only[↓RU,RV,RH,↓reduceIte,qE,reduceCtorEq,if_pos,qN,↓RS,RG,qA,qM,qL]
 apply hK;clear hK K
 refine W.r fun K hK=>?_
 simp(disch:=omega)only[↓RU,RV,RH,↓reduceIte,qE,reduceCtorEq,if_pos,↓RS,RG,qA,qM,qL,zab,zaa,hl1,zel,zdg]
 apply hK;clear hK K
 refine W.seq ?_
 refine W.r fun K hK=>?_
 simp(disch:=omega)only[↓RU,RV,RH,↓reduceIte,qE,reduceCtorEq,if_pos,↓RS,RG,qA,qM,qL]
 apply hK;clear hK K
 refine W.block ?_
 refine W.loop [3,4,5,6] (fun n vs S=>∃ i t tv:Nat,n=(rP p).length - i∧i≤(rP p).length∧vs=[eInts (srt p false),eInts (srt p true),.loc 0 t 0 (rP p).length,.int .i64 i]∧S=⟨[.arr t 3 1 ((z9a p i).map (.int .i64))],tv⟩) (rP p).length ?_ ?_
 ·refine ⟨1,0,0,1,rfl,by omega,?_,rfl⟩
  simp [Env.put,Env.of,zae]
 rintro n vs S - ⟨i,t,tv,rfl,h_i,rfl,rfl⟩
 refine W.seq ?_
 refine W.r fun K hK=>?_
 simp(disch:=omega)only[↓RU,RV,RH,↓reduceIte,qE,reduceCtorEq,if_pos,w64,↓RS,RG,qA,qM,qL,zab,zaa]
 apply hK;clear hK K
 refine W.cond rfl (fun h=>?_) (fun h=>?_)
 ·try simp only[RL]at h
  obtain ⟨a,ha,ha2,hsa⟩:=zug (below:=false) hp (show i<(rP p).length by omega)
  have hpl2:=zog (p:=p) i
  refine W.skip ?_
  refine xn ?_
  refine W.seq ?_
  refine W.block ?_
  refine W.k fun K hK=>?_
  simp(disch:=omega)only[↓RU,RV,RH,↓reduceIte,qE,reduceCtorEq,if_pos,↓RS,RG,qA,qM,qL,zab,zaa,hsa,hpl2,zbe,zc9,Int.toNat_natCast]
  apply hK;clear hK K
  refine XbN ?_
  refine xn ?_
  refine W.k fun K hK=>?_
  simp(disch:=omega)only[↓RU,RV,RH,↓reduceIte,qE,reduceCtorEq,if_pos,w64,↓RS,RG,qA,qM,qL,zaa]
  apply hK;clear hK K
  refine xn ?_
  refine ⟨(rP p).length - (i+1),by omega,1,i+1,t,tv,rfl,by omega,?_,?_⟩
  ·simp [Env.put,Env.of]
  simp only[zaq,z9a,z45 hsa,Int.toNat_natCast]; rfl
 try simp only[RL]at h
 obtain rfl:i=(rP p).length:=by omega
 have hpl2:=zog (p:=p) (rP p).length
 refine W.exit ?_
 refine xe ?_
 refine xe ?_
 refine XBlock.hit ?_
 refine xn ?_
 refine W.r fun K hK=>?_
 simp(disch:=omega)only[↓RU,RV,RH,↓reduceIte,qE,reduceCtorEq,if_pos,↓RS,RG,qA,qM,qL,zab,zaa]
 apply hK;clear hK K
 refine W.seq ?_
 refine W.r fun K hK=>?_
 simp(disch:=omega)only[↓RU,RV,RH,↓reduceIte,qE,reduceCtorEq,if_pos,↓RS,RG,qA,qM,qL]
 apply hK;clear hK K
 refine W.block ?_
 refine W.loop [4,5,7,8] (fun n vs S=>∃ k vo tk2:Nat,n=(rP p).length - k∧k≤(rP p).length∧vs=[eInts (srt p true),.loc 0 t 0 (rP p).length,.loc 1 vo 0 k,.int .i64 k]∧S=⟨[.arr t 3 1 ((z9a p (rP p).length).map (.int .i64)),.arr vo 3 1 (((zcq p).take k).map (.int .i64))],tk2⟩) (rP p).length ?_ ?_
 ·refine ⟨2,0,tv,tv+1,rfl,by omega,?_,by simp [zaq]⟩
  simp [Env.put,Env.of]
 rintro n vs S - ⟨k,vo,tk2,rfl,h_k,rfl,rfl⟩
 refine W.seq ?_
 refine W.r fun K hK=>?_
 simp(disch:=omega)only[↓RU,RV,RH,↓reduceIte,qE,reduceCtorEq,if_pos,w64,↓RS,RG,qA,qM,qL,zab,zaa]
 apply hK;clear hK K
 refine W.cond rfl (fun h1=>?_) (fun h1=>?_)
 ·try simp only[RL]at h1
  obtain ⟨b,hb,hb2,hsb⟩:=zug (below:=true) hp (show k<(rP p).length by omega)
  have hpa:=z0s hp hsb
  have hpc:=z6h hp (rP p).length (qR _) b hb (yag hp hb)
  have hol:(((zcq p).take k)).length=k:=by rw [List.length_take]; omega
  refine W.skip ?_
  refine xn ?_
  refine W.seq ?_
  refine W.block ?_
  refine W.k fun K hK=>?_
  simp(disch:=omega)only[↓RU,RV,RH,↓reduceIte,qE,reduceCtorEq,if_pos,↓RS,RG,qA,qM,qL,zab,zaa,hsb,hpc,hpl2,tk_i hol,Int.toNat_natCast]
  apply hK;clear hK K
  refine XbN ?_
  refine xn ?_
  refine W.k fun K hK=>?_
  simp(disch:=omega)only[↓RU,RV,RH,↓reduceIte,qE,reduceCtorEq,if_pos,w64,↓RS,RG,qA,qM,qL,zaa]
  apply hK;clear hK K
  refine xn ?_
  refine ⟨(rP p).length - (k+1),by omega,2,k+1,tk2+1,tk2+2,rfl,by omega,?_,?_⟩
  ·simp [Env.put,Env.of,zl9]
  simp only[zaq,tk hpa,List.map_append,← List.map_take]; simp [zl9]
 try simp only[RL]at h1
 obtain rfl:k=(rP p).length:=by omega
 refine W.exit ?_
 refine xe ?_
 refine xe ?_
 refine XBlock.hit ?_
 refine xn ?_
 refine W.r fun K hK=>?_
 simp(disch:=omega)only[↓RU,RV,RH,↓reduceIte,qE,reduceCtorEq,if_pos,↓RS,RG,qA,qM,qL]
 apply hK;clear hK K
 refine W.ret ?_
 refine Br rfl ?_
 rw [qT (by omega)]
 exact ((zbh (k:=9) rfl (by simp [hpl]) (zlc _)).trans (by rw [← hpl]))
theorem z9n {p:List Txt} (hs:Sm p):PC Tryz.prog 69 [zal p] (.tup [eInts (ifL (zbk p) (zcq p)),.bool (zbk p)]) false:=by
 refine PC.of ⟨Tryz.func69,by kernel_rfl,rfl,by kernel_rfl⟩ zam mixed (by show 1≤Tryz.f69.ntmps; decide) ?_
 refine W.r fun K hK=>?_
 simp(disch:=omega)only[↓RU,RV,RH,↓reduceIte,qE,reduceCtorEq,if_pos,↓RS,RG,qA,qM,qL]
 apply hK;clear hK K
 refine W.seq ?_
 refine W.r fun K hK=>?_
 simp(disch:=omega)only[↓RU,RV,RH,↓reduceIte,qE,reduceCtorEq,if_pos,qN,↓RS,RG,qA,qM,qL]
 refine zaf.pc (zfh hs) rfl (.inl rfl) ?_
 simp(disch:=omega)only[↓RU,RV,RH,↓reduceIte,qE,reduceCtorEq,if_pos,qN,↓RS,RG,qA,qM,qL]
 apply hK;clear hK K
 refine W.cond rfl (fun h0=>?_) (fun h0=>?_)
 ·try simp only[RL]at h0
  have h:zbk p=false:=by simpa using h0
  refine W.r fun K hK=>?_
  simp(disch:=omega)only[↓RU,RV,RH,↓reduceIte,qE,reduceCtorEq,if_pos,↓RS,RG,qA,qM,qL,zab,zaa]
  apply hK;clear hK K
  refine W.ret ?_
  refine XThen.ret ?_
  refine Br rfl ?_
  rw [h]
  rfl
 try simp only[RL]at h0
 have h:zbk p=true:=by simpa using h0
 refine W.skip ?_
 refine xn ?_
 refine W.r fun K hK=>?_
 simp(disch:=omega)only[↓RU,RV,RH,↓reduceIte,qE,reduceCtorEq,if_pos,qN,↓RS,RG,qA,qM,qL]
 refine zaf.pc (zlb hs h) rfl (.inl rfl) ?_
 simp(disch:=omega)only[↓RU,RV,RH,↓reduceIte,qE,reduceCtorEq,if_pos,qN,↓RS,RG,qA,qM,qL]
 apply hK;clear hK K
 refine W.ret ?_
 refine Br rfl ?_
 rw [h]
 rfl
theorem zry {p q:List Int} (hp:p.length<2147483648) (hq:q.length<2147483648):PC Tryz.prog 46 [eInts p,eInts q] (.bool (decide (p=q))) true:=by
 refine PC.of ⟨Tryz.func46,by kernel_rfl,rfl,by kernel_rfl⟩ zam mixed (by show 2≤Tryz.f46.ntmps; decide) ?_
 refine W.r fun K hK=>?_
 simp(disch:=omega)only[↓RU,RV,RH,↓reduceIte,qE,reduceCtorEq,if_pos]
 apply hK;clear hK K
 refine W.seq ?_
 refine W.r fun K hK=>?_
 simp(disch:=omega)only[↓RU,RV,RH,↓reduceIte,qE,reduceCtorEq,if_pos,w64,zab,zaa]
 apply hK;clear hK K
 refine W.cond rfl (fun h=>?_) (fun h=>?_)
 ·try simp only[RL]at h
  refine W.r fun K hK=>?_
  simp(disch:=omega)only[↓RU,RV,RH,↓reduceIte,qE,reduceCtorEq,if_pos]
  apply hK;clear hK K
  refine W.ret ?_
  refine XThen.ret ?_
  refine Br rfl ?_
  rw [show decide (p=q)=false by simp; rintro rfl; exact h rfl]
  rfl
 try simp only[RL]at h
 refine W.skip ?_
 refine xn ?_
 refine W.seq ?_
 refine W.r fun K hK=>?_
 simp(disch:=omega)only[↓RU,RV,RH,↓reduceIte,qE,reduceCtorEq,if_pos]
 apply hK;clear hK K
 refine W.block ?_
 refine W.loop [0,1,5] (fun n vs S=>∃ i:Nat,n=p.length - i∧i≤p.length∧(p.take i=q.take i)∧vs=[eInts p,eInts q,.int .i64 i]∧S=⟨[],0⟩) (p.length) ?_ ?_
 ·refine ⟨0,0,rfl,Nat.zero_le _,rfl,?_,rfl⟩
  simp [Env.put,Env.of,zae]
 rintro n vs S - ⟨i,rfl,h_i,htk,rfl,rfl⟩
 refine W.seq ?_
 refine W.r fun K hK=>?_
 simp(disch:=omega)only[↓RU,RV,RH,↓reduceIte,qE,reduceCtorEq,if_pos,w64,zab,zaa]
 apply hK;clear hK K
 refine W.cond rfl (fun h1=>?_) (fun h1=>?_)
 ·try simp only[RL]at h1
  obtain ⟨x,hx,-⟩:=zad (show i<p.length by omega)
  obtain ⟨y,hy,-⟩:=zad (show i<q.length by omega)
  refine W.skip ?_
  refine xn ?_
  refine W.seq ?_
  refine W.block ?_
  refine W.seq_draw (by kernel_rfl) fun K hK=>?_
  simp(disch:=omega)only[↓RU,RV,RH,↓reduceIte,qE,reduceCtorEq,if_pos,w64,zab,zaa,hx,hy]
  apply hK;clear hK K
  refine W.cond rfl (fun h2=>?_) (fun h2=>?_)
  ·try simp only[RL]at h2
   refine W.r fun K hK=>?_
   simp(disch:=omega)only[↓RU,RV,RH,↓reduceIte,qE,reduceCtorEq,if_pos]
   apply hK;clear hK K
   refine W.ret ?_
   refine XBlock.ret ?_
   refine XThen.ret ?_
   refine XThen.ret ?_
   refine XBlock.ret ?_
   refine XThen.ret ?_
   refine Br rfl ?_
   rw [show decide (p=q)=false by simp; rintro rfl; rw [hx]at hy; simp_all]
   rfl
  try simp only[RL]at h2
  have h2:x=y:=by simpa using h2
  refine W.skip ?_
  refine XbN ?_
  refine xn ?_
  refine W.k fun K hK=>?_
  simp(disch:=omega)only[↓RU,RV,RH,↓reduceIte,qE,reduceCtorEq,if_pos,w64,zaa]
  apply hK;clear hK K
  refine xn ?_
  refine ⟨p.length - (i+1),by omega,0,i+1,rfl,by omega,zgw htk hx hy h2,?_,rfl⟩
  simp [Env.put,Env.of]
 try simp only[RL]at h1
 refine W.exit ?_
 refine xe ?_
 refine xe ?_
 refine XBlock.hit ?_
 refine xn ?_
 refine W.r fun K hK=>?_
 simp(disch:=omega)only[↓RU,RV,RH,↓reduceIte,qE,reduceCtorEq,if_pos]
 apply hK;clear hK K
 refine W.ret ?_
 refine Br rfl ?_
 have h1:p.take i=p:=qT (by omega)
 have h2:q.take i=q:=qT (by omega)
 rw [show decide (p=q)=true by simp; rw [← h1,← h2]; exact htk]
 rfl
theorem znf {p q:List Int} (hp:p.length<2147483648) (hq:q.length<2147483648):PC Tryz.prog 54 [eInts p,eInts q] (.bool (decide (p=q))) true:=by
 refine PC.of ⟨Tryz.func54,by kernel_rfl,rfl,by kernel_rfl⟩ zam mixed (by show 2≤Tryz.f54.ntmps; decide) ?_
 refine W.r fun K hK=>?_
 simp(disch:=omega)only[↓RU,RV,RH,↓reduceIte,qE,reduceCtorEq,if_pos]
 apply hK;clear hK K
 refine W.seq ?_
 refine W.r fun K hK=>?_
 simp(disch:=omega)only[↓RU,RV,RH,↓reduceIte,qE,reduceCtorEq,if_pos,w64,zab,zaa]
 apply hK;clear hK K
 refine W.cond rfl (fun h=>?_) (fun h=>?_)
 ·try simp only[RL]at h
  refine W.r fun K hK=>?_
  simp(disch:=omega)only[↓RU,RV,RH,↓reduceIte,qE,reduceCtorEq,if_pos]
  apply hK;clear hK K
  refine W.ret ?_
  refine XThen.ret ?_
  refine Br rfl ?_
  rw [show decide (p=q)=false by simp; rintro rfl; exact h rfl]
  rfl
 try simp only[RL]at h
 refine W.skip ?_
 refine xn ?_
 refine W.seq ?_
 refine W.r fun K hK=>?_
 simp(disch:=omega)only[↓RU,RV,RH,↓reduceIte,qE,reduceCtorEq,if_pos,zab,zaa]
 apply hK;clear hK K
 refine W.block ?_
 refine W.loop [0,1,11,12,13] (fun n vs S=>∃ i:Nat,n=p.length - i∧i≤p.length∧(p.take i=q.take i)∧vs=[eInts p,eInts q,eInts p,.int .i64 p.length,.int .i64 i]∧S=⟨[],0⟩) (p.length) ?_ ?_
 ·refine ⟨0,0,rfl,Nat.zero_le _,rfl,?_,rfl⟩
  simp [Env.put,Env.of,zae]
 rintro n vs S - ⟨i,rfl,h_i,htk,rfl,rfl⟩
 refine W.r fun K hK=>?_
 simp(disch:=omega)only[↓RU,RV,RH,↓reduceIte,qE,reduceCtorEq,if_pos,w64,zaa]
 apply hK;clear hK K
 refine W.seq ?_
 refine W.cond rfl (fun h1=>?_) (fun h1=>?_)
 ·try simp only[RL]at h1
  obtain ⟨x,hx,-⟩:=zad (show i<p.length by omega)
  obtain ⟨y,hy,-⟩:=zad (show i<q.length by omega)
  refine W.skip ?_
  refine xn ?_
  refine W.seq ?_
  refine W.block ?_
  refine W.r fun K hK=>?_
  simp(disch:=omega)only[↓RU,RV,RH,↓reduceIte,qE,reduceCtorEq,if_pos]
  apply hK;clear hK K
  refine W.seq_draw (by kernel_rfl) fun K hK=>?_
  simp(disch:=omega)only[↓RU,RV,RH,↓reduceIte,qE,reduceCtorEq,if_pos,w64,zab,zaa,hx,hy]
  apply hK;clear hK K
  refine W.cond rfl (fun h2=>?_) (fun h2=>?_)
  ·try simp only[RL]at h2
   refine W.r fun K hK=>?_
   simp(disch:=omega)only[↓RU,RV,RH,↓reduceIte,qE,reduceCtorEq,if_pos]
   apply hK;clear hK K
   refine W.ret ?_
   refine XBlock.ret ?_
   refine XThen.ret ?_
   refine XThen.ret ?_
   refine XBlock.ret ?_
   refine XThen.ret ?_
   refine Br rfl ?_
   rw [show decide (p=q)=false by simp; rintro rfl; rw [hx]at hy; simp_all]
   rfl
  try simp only[RL]at h2
  have h2:x=y:=by simpa using h2
  refine W.skip ?_
  refine XbN ?_
  refine xn ?_
  refine W.k fun K hK=>?_
  simp(disch:=omega)only[↓RU,RV,RH,↓reduceIte,qE,reduceCtorEq,if_pos,w64,zaa]
  apply hK;clear hK K
  refine xn ?_
  refine ⟨p.length - (i+1),by omega,0,i+1,rfl,by omega,zgw htk hx hy h2,?_,rfl⟩
  simp [Env.put,Env.of]
 try simp only[RL]at h1
 refine W.exit ?_
 refine xe ?_
 refine xe ?_
 refine XBlock.hit ?_
 refine xn ?_
 refine W.r fun K hK=>?_
 simp(disch:=omega)only[↓RU,RV,RH,↓reduceIte,qE,reduceCtorEq,if_pos]
 apply hK;clear hK K
 refine W.ret ?_
 refine Br rfl ?_
 have h1:p.take i=p:=qT (by omega)
 have h2:q.take i=q:=qT (by omega)
 rw [show decide (p=q)=true by simp; rw [← h1,← h2]; exact htk]
 rfl
theorem ztx {p:List Txt} (hp:zbk p=true):(zcq p).length≤9:=by rw [zer]; exact (zms hp).2.2.1
def zpd (w:List Int) (q:List Txt):Bool:=zco q && decide (zcq q=w)
def slN (p:List Txt) (n:Int) (q:List Txt):Int:=if zpd (zcq p) q then IntKind.i64.wrap (n+1) else n
def zqq (p:List Txt):Bool:=zco p && decide (p.length*(zah p).length≤9)
def zss (p:List Txt):Int:=if zqq p then (zet p.length (zah p).length).foldl (slN p) 0 else 0
theorem yb4 {α:Type} {l:List α}:l.find? (fun _=>false)=none:=by simp
theorem zp6 {q:List Txt} (h:zes q=true):decide (zuu (gP q) 4 (zah q).length q.length=0)=zco q:=by
 unfold zco
 rw [zff,h,zf2,Bool.true_and]
theorem zhw {q:List Txt} (h:zes q=true):GW (gP q) q.length (zah q).length:=by
 have h2:zfr q=true:=by rw [zff]; exact h
 unfold zfr at h2
 rw [qB]at h2
 have:=zps h2.1
 rwa [zf2]at this
theorem z47 {g:List (List Int)} {H W:Nat} (h:GW g H W):∃ row,g[0]?=some row∧row.length=W:=by
 obtain ⟨row,h1,h2,-⟩:=h.at_ (i:=0) (j:=0) (by have:=h.2.2.1; omega) (by have:=h.2.2.2.2.1; omega)
 exact ⟨row,h1,h2⟩
theorem zvn (a b:Int):PC Tryz.prog 52 [.int .i64 a,.int .i64 b] (.fn 102 [.ip [.int .i64 a] 0,.ip [.int .i64 b] 0]) false:=by
 refine PC.of ⟨Tryz.func52,by kernel_rfl,rfl,by kernel_rfl⟩ zam mixed (by show 2≤Tryz.f52.ntmps; decide) ?_
 refine W.r fun K hK=>?_
 simp(disch:=omega)only[↓RU,RV,RH,↓reduceIte,qE,reduceCtorEq,if_pos,↓RS,RG,qA,qM,qL,zaa]
 apply hK;clear hK K
 refine W.r fun K hK=>?_
 simp(disch:=omega)only[↓RU,RV,RH,↓reduceIte,qE,reduceCtorEq,if_pos,↓RS,RG,qA,qM,qL]
 apply hK;clear hK K
 refine W.ret ?_
 refine Br rfl ?_
 rfl
theorem z9v {p:List Txt} (hs:Sm p) (hv:zco p=false):PC Tryz.prog 11 [zal p] (.tup [.int .i64 0,.bool false]) true:=by
 obtain ⟨x,hx,hxy,hxr⟩:=zja hs
 refine PC.ofV ⟨Tryz.func11,by kernel_rfl,rfl,by kernel_rfl⟩ zam mixed (by show 1≤Tryz.f11.ntmps; decide) ?_
 refine V.seq_region fun K hK=>?_
 simp(disch:=omega)only[↓RU,RV,RH,↓reduceIte,qE,reduceCtorEq,if_pos,↓RS,RG,qA,qM,qL]
 apply hK;clear hK K
 refine V.seq_region fun K hK=>?_
 simp(disch:=omega)only[↓RU,RV,RH,↓reduceIte,qE,reduceCtorEq,if_pos,qN,↓RS,RG,qA,qM,qL,hv]
 refine zaf.pc (hx) rfl (.inr rfl) ?_
 simp(disch:=omega)only[↓RU,RV,RH,↓reduceIte,qE,reduceCtorEq,if_pos,qN,↓RS,RG,qA,qM,qL,hv]
 apply hK;clear hK K
 refine V.seq ?_
 refine W.v ?_
 refine W.r fun K hK=>?_
 simp(disch:=omega)only[↓RU,RV,RH,↓reduceIte,qE,reduceCtorEq,if_pos,qN,w64,↓RS,RG,qA,qM,qL,zaa]
 apply hK;clear hK K
 refine W.cond rfl (fun h0=>?_) (fun h0=>?_)
 ·try simp only[RL]at h0
  refine W.r fun K hK=>?_
  simp(disch:=omega)only[↓RU,RV,RH,↓reduceIte,qE,reduceCtorEq,if_pos,↓RS,RG,qA,qM,qL]
  apply hK;clear hK K
  refine W.ret ?_
  refine XThen.ret ?_
  refine Br rfl ?_
  rfl
 try simp only[RL]at h0
 exact absurd h0 (by simp)
theorem z7i {p:List Txt} (hs:Sm p) (hv:zco p=true) (hbig:¬ p.length*(zah p).length≤9):PC Tryz.prog 11 [zal p] (.tup [.int .i64 0,.bool false]) true:=by
 obtain ⟨x,hx,hxy,hxr⟩:=zja hs
 obtain rfl:=hxy hv
 obtain ⟨hrm,-,-⟩:=zjb hv
 have hok:=(zhg hv).1
 have hpl:zes p=true:=zfk (by rw [← zcy]; exact hv)
 have hg:=zhw hpl
 have hn9:=zgf hok
 have hn1:=zhe hok
 obtain ⟨row0,hrow0,hrl0⟩:=z47 hg
 have hgl:=hg.1
 obtain ⟨-,-,g1,g2,g3,g4⟩:=hg
 have hO:=zlg (g:=gP p) (zps hok) (rs:=rP p) rfl hn9 hrm
 rw [z5o,z3y]at hO
 have hmu:p.length*(zah p).length≤36:=Nat.mul_le_mul g2 g4
 have hmc:((p.length:Nat):Int)*(((zah p).length:Nat):Int)=((p.length*(zah p).length:Nat):Int):=by simp
 have hd:decide (((p.length*(zah p).length:Nat):Int)>9)=true:=decide_eq_true (by omega)
 refine PC.ofV ⟨Tryz.func11,by kernel_rfl,rfl,by kernel_rfl⟩ zam mixed (by show 1≤Tryz.f11.ntmps; decide) ?_
 refine V.seq_region fun K hK=>?_
 simp(disch:=omega)only[↓RU,RV,RH,↓reduceIte,qE,reduceCtorEq,if_pos,↓RS,RG,qA,qM,qL]
 apply hK;clear hK K
 refine V.seq_region fun K hK=>?_
 simp(disch:=omega)only[↓RU,RV,RH,↓reduceIte,qE,reduceCtorEq,if_pos,qN,↓RS,RG,qA,qM,qL,hv]
 refine zaf.pc (hx) rfl (.inr rfl) ?_
 simp(disch:=omega)only[↓RU,RV,RH,↓reduceIte,qE,reduceCtorEq,if_pos,qN,↓RS,RG,qA,qM,qL,hv]
 apply hK;clear hK K
 refine V.seq ?_
 refine W.v ?_
 refine W.r fun K hK=>?_
 simp(disch:=omega)only[↓RU,RV,RH,↓reduceIte,qE,reduceCtorEq,if_pos,qN,w64,↓RS,RG,qA,qM,qL,zaa,hgl,hrl0,hmc,hd]
 refine zaf.pc (zkb (gP p) (rP p)) rfl (.inl rfl) ?_
 simp(disch:=omega)only[↓RU,RV,RH,↓reduceIte,qE,reduceCtorEq,if_pos,qN,w64,↓RS,RG,qA,qM,qL,zaa,hgl,hrl0,hmc,hd]
 refine zaf.pc (zm2 hrow0 (rP p)) rfl (.inl rfl) ?_
 simp(disch:=omega)only[↓RU,RV,RH,↓reduceIte,qE,reduceCtorEq,if_pos,qN,w64,↓RS,RG,qA,qM,qL,zaa,hgl,hrl0,hmc,hd]
 apply hK;clear hK K
 refine W.cond rfl (fun h0=>?_) (fun h0=>?_)
 ·try simp only[RL]at h0
  refine W.r fun K hK=>?_
  simp(disch:=omega)only[↓RU,RV,RH,↓reduceIte,qE,reduceCtorEq,if_pos,↓RS,RG,qA,qM,qL]
  apply hK;clear hK K
  refine W.ret ?_
  refine XThen.ret ?_
  refine Br rfl ?_
  rfl
 try simp only[RL]at h0
 exact absurd h0 (by simp)
theorem yda {k r d:Nat} (l:List Int):(l.map (PV.int .i64)).mapM (sf k r (d+1))=some (l.map (PV.int .i64)):=za5 fun x hx=>by obtain ⟨a,_,rfl⟩:=List.mem_map.1 hx; rfl
theorem z1m {p:List Txt} {l r2:Nat} {r:Loop} {n:Int}:zue 4 r2 [.arr 0 3 1 ((zcq p).map (.int .i64)),.arr 1 34 1 [.loc 0 0 0 (rP p).length],.arr 2 3 1 [.int .i64 n],.lp 3 l (r,[6,7]) [.ref 1 1 0,.ref 2 2 0]]=some [.arr 0 3 1 ((zcq p).map (.int .i64)),.arr 1 34 1 [.loc 0 0 0 (rP p).length],.arr 2 3 1 [.int .i64 n],.lp 3 l (r,[6,7]) [.ref 1 1 0,.ref 2 2 0]]:=by
 simp only[zue,z29,yda]
 rfl
theorem zsi {S:Store} {o v et n k:Nat} {l:List Int} (h:S.obs[o]?=some (.arr v et 1 (l.map (.int .i64)))) (hl:l.length=n):reify S true (k+2) (.loc o v 0 n)=some (eInts l):=by
 subst hl
 exact zbh h (by simp) (za5 fun x hx=>by obtain ⟨z,_,rfl⟩:=List.mem_map.1 hx; rfl)
theorem z7j {p:List Txt} (hs:Sm p) (hv:zco p=true) (h9:p.length*(zah p).length≤9):PC Tryz.prog 11 [zal p] (.tup [.int .i64 ((zet p.length (zah p).length).foldl (slN p) 0),.bool true]) true:=by
 obtain ⟨x,hx,hxy,hxr⟩:=zja hs
 obtain rfl:=hxy hv
 obtain ⟨hrm,-,-⟩:=zjb hv
 have hok:=(zhg hv).1
 have hpl:zes p=true:=zfk (by rw [← zcy]; exact hv)
 have hg:=zhw hpl
 have hn9:=zgf hok
 have hn1:=zhe hok
 obtain ⟨row0,hrow0,hrl0⟩:=z47 hg
 have hgl:=hg.1
 obtain ⟨-,-,g1,g2,g3,g4⟩:=hg
 have hO:=zlg (g:=gP p) (zps hok) (rs:=rP p) rfl hn9 hrm
 rw [z5o,z3y]at hO
 have hmu:p.length*(zah p).length≤36:=Nat.mul_le_mul g2 g4
 have hmc:((p.length:Nat):Int)*(((zah p).length:Nat):Int)=((p.length*(zah p).length:Nat):Int):=by simp
 have hd:decide (((p.length*(zah p).length:Nat):Int)>9)=false:=decide_eq_false (by omega)
 refine PC.ofV ⟨Tryz.func11,by kernel_rfl,rfl,by kernel_rfl⟩ zam mixed (by show 1≤Tryz.f11.ntmps; decide) ?_
 refine V.seq_region fun K hK=>?_
 simp(disch:=omega)only[↓RU,RV,RH,↓reduceIte,qE,reduceCtorEq,if_pos,↓RS,RG,qA,qM,qL]
 apply hK;clear hK K
 refine V.seq_region fun K hK=>?_
 simp(disch:=omega)only[↓RU,RV,RH,↓reduceIte,qE,reduceCtorEq,if_pos,qN,↓RS,RG,qA,qM,qL,hv]
 refine zaf.pc (hx) rfl (.inr rfl) ?_
 simp(disch:=omega)only[↓RU,RV,RH,↓reduceIte,qE,reduceCtorEq,if_pos,qN,↓RS,RG,qA,qM,qL,hv]
 apply hK;clear hK K
 refine V.seq ?_
 refine W.v ?_
 refine W.r fun K hK=>?_
 simp(disch:=omega)only[↓RU,RV,RH,↓reduceIte,qE,reduceCtorEq,if_pos,qN,w64,↓RS,RG,qA,qM,qL,zaa,hgl,hrl0,hmc,hd]
 refine zaf.pc (zkb (gP p) (rP p)) rfl (.inl rfl) ?_
 simp(disch:=omega)only[↓RU,RV,RH,↓reduceIte,qE,reduceCtorEq,if_pos,qN,w64,↓RS,RG,qA,qM,qL,zaa,hgl,hrl0,hmc,hd]
 refine zaf.pc (zm2 hrow0 (rP p)) rfl (.inl rfl) ?_
 simp(disch:=omega)only[↓RU,RV,RH,↓reduceIte,qE,reduceCtorEq,if_pos,qN,w64,↓RS,RG,qA,qM,qL,zaa,hgl,hrl0,hmc,hd]
 apply hK;clear hK K
 refine W.cond rfl (fun h0=>?_) (fun h0=>?_)
 ·try simp only[RL]at h0
  exact absurd h0 (by simp)
 try simp only[RL]at h0
 refine W.skip ?_
 refine xn ?_
 refine V.seq_region fun K hK=>?_
 simp(disch:=omega)only[↓RU,RV,RH,↓reduceIte,qE,reduceCtorEq,if_pos,qN,↓RS,RG,qA,qM,qL,zab,zaa]
 refine zaf.pc (hO) rfl (.inl rfl) ?_
 simp(disch:=omega)only[↓RU,RV,RH,↓reduceIte,qE,reduceCtorEq,if_pos,qN,↓RS,RG,qA,qM,qL,zab,zaa]
 refine zaf.pn (z6e hv) rfl (.inl rfl) ?_
 simp(disch:=omega)only[↓RU,RV,RH,↓reduceIte,qE,reduceCtorEq,if_pos,qN,↓RS,RG,qA,qM,qL,zab,zaa,RN]
 apply hK;clear hK K
 refine V.seq_region fun K hK=>?_
 simp(disch:=omega)only[↓RU,RV,RH,↓reduceIte,qE,reduceCtorEq,if_pos,↓RS,RG,qA,qM,qL,zaa,zoz]
 apply hK;clear hK K
 refine V.seq ?_
 refine V.seq_region fun K hK=>?_
 simp(disch:=omega)only[↓RU,RV,RH,↓reduceIte,qE,reduceCtorEq,if_pos,qN,↓RS,RG,qA,qM,qL,hgl,hrl0]
 refine zaf.pc (zkb (gP p) (rP p)) rfl (.inl rfl) ?_
 simp(disch:=omega)only[↓RU,RV,RH,↓reduceIte,qE,reduceCtorEq,if_pos,qN,↓RS,RG,qA,qM,qL,hgl,hrl0]
 refine zaf.pc (zm2 hrow0 (rP p)) rfl (.inl rfl) ?_
 simp(disch:=omega)only[↓RU,RV,RH,↓reduceIte,qE,reduceCtorEq,if_pos,qN,↓RS,RG,qA,qM,qL,hgl,hrl0]
 refine zaf.pc (zvn _ _) rfl (.inr rfl) ?_
 simp(disch:=omega)only[↓RU,RV,RH,↓reduceIte,qE,reduceCtorEq,if_pos,qN,↓RS,RG,qA,qM,qL,hgl,hrl0]
 apply hK;clear hK K
 refine V.block ?_
 refine V.rangeFunc [6,7] rfl fun l r hr hst hpd=>?_
 have hrr:({ r with state := .ready,pending:=none }:Loop)=r:=by cases r; simp only at hst hpd; subst hst; subst hpd; rfl
 refine ⟨_,z4s (σ:=Int) (lb:=l) (k:=4) (pre:=fun n=>[.arr 0 3 1 ((zcq p).map (.int .i64)),.arr 1 34 1 [.loc 0 0 0 (rP p).length],.arr 2 3 1 [.int .i64 n],.lp 3 l (r,[6,7]) [.ref 1 1 0,.ref 2 2 0]]) (fin:=fun _ _ _=>([.arr 0 3 1 ((zcq p).map (.int .i64)),.arr 1 34 1 [.loc 0 0 0 (rP p).length],.arr 2 3 1 [.int .i64 0],.lp 3 l (r,[6,7]) [.ref 1 1 0,.ref 2 2 0]],[])) (stop:=fun _=>false) (nxt:=slN p) ⟨fun _=>rfl,fun _ _ _=>rfl,fun n q t hq hsh=>?_,fun r2 n=>z1m,fun _ _ _=>z1m⟩ g1 g2 g3 g4 h9 0 _,?_⟩
 ·refine Ey.of (o:=3) zam mixed rfl hr hst rfl ?_
  change W _ _ _ _ (Env.put (Env.of [6,7] [.ref 1 1 0,.ref 2 2 0]) (some 32) (zbj (gP q) (rP q))) _
  refine W.k fun K hK=>?_
  simp(disch:=omega)only[↓RU,RV,RH,↓reduceIte,qE,reduceCtorEq,if_pos,↓RS,RG,qA,qM,qL]
  apply hK;clear hK K
  refine xn ⟨_,_,_,_,rfl,hst,?_⟩
  simp only[List.set_cons_succ,List.set_cons_zero]
  refine W.block ?_
  refine W.seq_draw (by kernel_rfl) fun K hK=>?_
  rcases (show zco q=false∨(zco q=true∧zcq q=zcq p)∨(zco q=true∧zcq q≠zcq p) by cases zco q <;> by_cases e:zcq q=zcq p <;> simp [e]) with hq1 | ⟨hq1,hq2⟩ | ⟨hq1,hq2⟩
  ·skip
   have hqp:=zk5 (zhw hq) (rP q)
   rw [zp6 hq,hq1]at hqp
   have hsl:slN p n q=n:=by unfold slN zpd; rw [hq1]; rfl
   simp(disch:=omega)only[↓RU,RV,RH,↓reduceIte,qE,reduceCtorEq,if_pos,qN,↓RS,RG,qA,qM,qL,zab,zaa]
   refine zaf.pc (hqp) rfl (.inl rfl) ?_
   simp(disch:=omega)only[↓RU,RV,RH,↓reduceIte,qE,reduceCtorEq,if_pos,qN,↓RS,RG,qA,qM,qL,zab,zaa]
   apply hK;clear hK K
   refine W.cond rfl (fun h8=>?_) (fun h8=>?_)
   ·try simp only[RL]at h8
    exact absurd h8 (by simp)
   try simp only[RL]at h8
   refine W.skip ?_
   refine XbN ?_
   exact ⟨_,_,_,_,4,rfl,rfl,_,by rw [if_neg (by simp)]; simp only[hsl]; exact congrArg (fun r=>(⟨[_,_,_,.lp 3 l (r,[6,7]) _],_⟩:Store)) hrr⟩
  ·skip
   have hqp:=zk5 (zhw hq) (rP q)
   rw [zp6 hq,hq1]at hqp
   obtain ⟨qrm,-,-⟩:=zjb hq1
   have qok:=(zhg hq1).1
   have q9:=zgf qok
   have hQ:=zlg (g:=gP q) (zps qok) (rs:=rP q) rfl q9 qrm
   rw [z5o,z3y]at hQ
   have ql:=zer (p:=q)
   have pl:=zer (p:=p)
   have hde:decide (zcq q=zcq p)=true:=decide_eq_true hq2
   have hsl:slN p n q=IntKind.i64.wrap (n+1):=by unfold slN zpd; rw [hq1,hde]; rfl
   simp(disch:=omega)only[↓RU,RV,RH,↓reduceIte,qE,reduceCtorEq,if_pos,qN,↓RS,RG,qA,qM,qL,zab,zaa,hde]
   refine zaf.pc (hqp) rfl (.inl rfl) ?_
   simp(disch:=omega)only[↓RU,RV,RH,↓reduceIte,qE,reduceCtorEq,if_pos,qN,↓RS,RG,qA,qM,qL,zab,zaa,hde]
   refine zaf.pc (hQ) rfl (.inl rfl) ?_
   simp(disch:=omega)only[↓RU,RV,RH,↓reduceIte,qE,reduceCtorEq,if_pos,qN,↓RS,RG,qA,qM,qL,zab,zaa,hde]
   refine zaf.pc (z6d hq1) rfl (.inl rfl) ?_
   simp(disch:=omega)only[↓RU,RV,RH,↓reduceIte,qE,reduceCtorEq,if_pos,qN,↓RS,RG,qA,qM,qL,zab,zaa,hde]
   refine zaf.pc (znf (p:=zcq q) (q:=zcq p) (by omega) (by omega)) (zcn rfl (zcn (zsi rfl zer) rfl)) (.inl rfl) ?_
   simp(disch:=omega)only[↓RU,RV,RH,↓reduceIte,qE,reduceCtorEq,if_pos,qN,↓RS,RG,qA,qM,qL,zab,zaa,hde]
   apply hK;clear hK K
   refine W.cond rfl (fun h8=>?_) (fun h8=>?_)
   ·try simp only[RL]at h8
    refine W.k fun K hK=>?_
    simp(disch:=omega)only[↓RU,RV,RH,↓reduceIte,qE,reduceCtorEq,if_pos,w64,↓RS,RG,qA,qM,qL,zaa]
    apply hK;clear hK K
    refine XbN ?_
    exact ⟨_,_,_,_,4,rfl,rfl,_,by rw [if_neg (by simp)]; simp only[hsl]; exact congrArg (fun r=>(⟨[_,_,_,.lp 3 l (r,[6,7]) _],_⟩:Store)) hrr⟩
   try simp only[RL]at h8
   exact absurd h8 (by simp)
  skip
  have hqp:=zk5 (zhw hq) (rP q)
  rw [zp6 hq,hq1]at hqp
  obtain ⟨qrm,-,-⟩:=zjb hq1
  have qok:=(zhg hq1).1
  have q9:=zgf qok
  have hQ:=zlg (g:=gP q) (zps qok) (rs:=rP q) rfl q9 qrm
  rw [z5o,z3y]at hQ
  have ql:=zer (p:=q)
  have pl:=zer (p:=p)
  have hde:decide (zcq q=zcq p)=false:=decide_eq_false hq2
  have hsl:slN p n q=n:=by unfold slN zpd; rw [hq1,hde]; rfl
  simp(disch:=omega)only[↓RU,RV,RH,↓reduceIte,qE,reduceCtorEq,if_pos,qN,↓RS,RG,qA,qM,qL,zab,zaa,hde]
  refine zaf.pc (hqp) rfl (.inl rfl) ?_
  simp(disch:=omega)only[↓RU,RV,RH,↓reduceIte,qE,reduceCtorEq,if_pos,qN,↓RS,RG,qA,qM,qL,zab,zaa,hde]
  refine zaf.pc (hQ) rfl (.inl rfl) ?_
  simp(disch:=omega)only[↓RU,RV,RH,↓reduceIte,qE,reduceCtorEq,if_pos,qN,↓RS,RG,qA,qM,qL,zab,zaa,hde]
  refine zaf.pc (z6d hq1) rfl (.inl rfl) ?_
  simp(disch:=omega)only[↓RU,RV,RH,↓reduceIte,qE,reduceCtorEq,if_pos,qN,↓RS,RG,qA,qM,qL,zab,zaa,hde]
  refine zaf.pc (znf (p:=zcq q) (q:=zcq p) (by omega) (by omega)) (zcn rfl (zcn (zsi rfl zer) rfl)) (.inl rfl) ?_
  simp(disch:=omega)only[↓RU,RV,RH,↓reduceIte,qE,reduceCtorEq,if_pos,qN,↓RS,RG,qA,qM,qL,zab,zaa,hde]
  apply hK;clear hK K
  refine W.cond rfl (fun h8=>?_) (fun h8=>?_)
  ·try simp only[RL]at h8
   exact absurd h8 (by simp)
  try simp only[RL]at h8
  refine W.skip ?_
  refine XbN ?_
  exact ⟨_,_,_,_,4,rfl,rfl,_,by rw [if_neg (by simp)]; simp only[hsl]; exact congrArg (fun r=>(⟨[_,_,_,.lp 3 l (r,[6,7]) _],_⟩:Store)) hrr⟩
 rintro v S2 hA
 skip
 rw [yfo,yb4]at hA
 obtain ⟨t2,rfl⟩:=hA
 refine ⟨_,_,_,_,.normal,rfl,by rw [hst]; simp,by rw [hpd]; rfl,?_⟩
 change XBlock _ _ _ _ ⟨[_,_,_],_⟩
 refine XbN ?_
 refine xn ?_
 refine W.v ?_
 refine W.r fun K hK=>?_
 simp(disch:=omega)only[↓RU,RV,RH,↓reduceIte,qE,reduceCtorEq,if_pos,↓RS,RG,qA,qM,qL,zaa]
 apply hK;clear hK K
 refine W.ret ?_
 refine Br rfl ?_
 rfl
abbrev eLL (L:List (List Txt)):PV := .sl (L.map zal) L.length
theorem ybe {p:List Txt} {H W:Nat} (h:Shp2 p H W) (hH:H≤6) (hW:W≤6):Sm p:=⟨by rw [h.h]; omega,fun r hr=>by rw [h.w r hr]; omega⟩
theorem zth {α β:Type} {f:α→List β} {B:Nat}:∀ {l:List α},(∀ a∈l,(f a).length≤B)→(l.flatMap f).length≤l.length*B
 | [],_=>by simp
 | a::l,h=>by
  have h1:=h a (by simp)
  have h2:=zth (f:=f) (B:=B) (l:=l) fun b hb=>h b (by simp [hb])
  rw [List.flatMap_cons,List.length_append,List.length_cons,Nat.succ_mul]
  omega
theorem yad {m n w d:Nat} {p:List Txt} {B:Nat} (h:∀ d,(Cd m p n w d).length≤B):(Ld m p n w d).length≤d*B:=by
 have:=zth (f:=Cd m p n w) (B:=B) (l:=List.range d) fun a _=>h a
 rwa [List.length_range]at this
theorem yae {m n H w:Nat} {p:List Txt} {B:Nat} (h:∀ w d,(Cd m p n w d).length≤B):(Lw m p n H w).length≤w*((H - fi p)*B):=by
 have:=zth (f:=fun w=>Ld m p n w (H - fi p)) (B:=(H - fi p)*B) (l:=List.range w) fun a _=>yad (h a)
 rwa [List.length_range]at this
theorem z3v {H W:Nat} (h9:H*W≤9):∀ (m:Nat) {p:List Txt} {n:Nat},Shp2 p H W→(En m p n).length≤9 ^ m
 | 0,p,n,_=>by simp [En]
 | m+1,p,n,hp=>by
  by_cases hf:fi p<H
  ·rw [ybs hp.h hf]
   refine Nat.le_trans (yae (B:=9 ^ m) fun w d=>z3v h9 m (zkg hp)) ?_
   have h1:=z8r hp hf
   rw [← Nat.mul_assoc,Nat.pow_succ,Nat.mul_comm (9 ^ m)]
   refine Nat.mul_le_mul_right _ (Nat.le_trans ?_ h9)
   rw [Nat.mul_comm H W]
   exact Nat.mul_le_mul (by omega) (by omega)
  unfold En
  rw [hp.h,if_neg hf]
  exact Nat.one_le_pow _ _ (by omega)
theorem yds {H W m n w d:Nat} {p:List Txt} (h9:H*W≤9) (hm:m≤8) (hp:Shp2 p H W) (hf:fi p<H) (hw:w<fw p) (hd:d<H - fi p):(Lw m p n H w++Ld m p n w d).length+(Cd m p n w d).length≤387420489:=by
 have hc:∀ w d,(Cd m p n w d).length≤9 ^ m:=fun w d=>z3v h9 m (zkg hp)
 have a1:=yae (m:=m) (n:=n) (H:=H) (w:=w) (p:=p) hc
 have a2:=yad (m:=m) (n:=n) (w:=w) (d:=d) (p:=p) (hc w)
 have a3:=hc w d
 have h1:=z8r hp hf
 have b1:(d+1)*9 ^ m≤(H - fi p)*9 ^ m:=Nat.mul_le_mul_right _ (by omega)
 have b2:(w+1)*((H - fi p)*9 ^ m)≤9*9 ^ m:=by
  rw [← Nat.mul_assoc]
  refine Nat.mul_le_mul_right _ (Nat.le_trans ?_ h9)
  rw [Nat.mul_comm H W]
  exact Nat.mul_le_mul (by omega) (by omega)
 have b3:(9:Nat) ^ m≤9 ^ 8:=Nat.pow_le_pow_right (by omega) hm
 rw [Nat.succ_mul]at b1 b2
 rw [List.length_append]
 omega
theorem z01 {S:Store} {o v et k:Nat} {L:List (List Txt)} (h:S.obs[o]?=some (.arr v et 1 (L.map zal))):reify S true (k+2) (.loc o v 0 L.length)=some (eLL L) :=
 zbh h (by simp) (za5 fun x hx=>by obtain ⟨z,_,rfl⟩:=List.mem_map.1 hx; rfl)
theorem zzm {c:UInt8}:((c.toNat:Int) == 46)=decide (c=46):=by
 rw [Bool.eq_iff_iff]
 simp only[beq_iff_eq,decide_eq_true_eq]
 constructor
 ·intro h
  have:c.toNat=46:=by omega
  exact UInt8.toNat_inj.1 this
 intro h; subst h; rfl
theorem z06 {nh nw:Nat} {p:List Txt} {R:List RmB} (hs:St nh nw p R) (hn:R.length≤9) (h1:1≤nh) (h2:nh≤6) (h3:1≤nw) (h4:nw≤6) (hf:¬ fi p<nh) (n0:Int):PC Tryz.prog 93 [zal p,.int .i64 n0] (eLL [p]) false:=by
 have hph:=hs.sh.h
 refine PC.of ⟨Tryz.func93,by kernel_rfl,rfl,by kernel_rfl⟩ zam mixed (by show 2≤Tryz.f93.ntmps; decide) ?_
 refine W.r fun K hK=>?_
 simp(disch:=omega)only[↓RU,RV,RH,↓reduceIte,qE,reduceCtorEq,if_pos,↓RS,RG,qA,qM,qL]
 apply hK;clear hK K
 refine W.seq ?_
 refine W.r fun K hK=>?_
 simp(disch:=omega)only[↓RU,RV,RH,↓reduceIte,qE,reduceCtorEq,if_pos,↓RS,RG,qA,qM,qL]
 apply hK;clear hK K
 refine W.block ?_
 refine W.loop [0,1,5] (fun n vs S=>∃ i:Nat,n=nh - i∧i≤nh∧vs=[zal p,.int .i64 n0,.int .i64 i]∧S=⟨[],0⟩) nh ?_ ?_
 ·refine ⟨0,0,rfl,Nat.zero_le _,?_,rfl⟩
  simp [Env.put,Env.of,zae]
 rintro n vs S - ⟨i,rfl,h_i,rfl,rfl⟩
 refine W.seq ?_
 refine W.r fun K hK=>?_
 simp(disch:=omega)only[↓RU,RV,RH,↓reduceIte,qE,reduceCtorEq,if_pos,w64,↓RS,RG,qA,qM,qL,ty6,zaa,zac,hph]
 apply hK;clear hK K
 refine W.cond rfl (fun h0=>?_) (fun h0=>?_)
 ·try simp only[RL]at h0
  obtain ⟨row,hrow,hrl,hrx⟩:=hs.sh.row (show i<nh by omega)
  refine W.skip ?_
  refine xn ?_
  refine W.seq ?_
  refine W.block ?_
  refine W.r fun K hK=>?_
  simp(disch:=omega)only[↓RU,RV,RH,↓reduceIte,qE,reduceCtorEq,if_pos,↓RS,RG,qA,qM,qL]
  apply hK;clear hK K
  refine W.block ?_
  refine W.loop [0,1,5,6] (fun n vs S=>∃ k:Nat,n=nw - k∧(i<nh∧k≤nw)∧vs=[zal p,.int .i64 n0,.int .i64 i,.int .i64 k]∧S=⟨[],0⟩) nw ?_ ?_
  ·refine ⟨0,0,rfl,by omega,?_,rfl⟩
   simp [Env.put,Env.of,zae]
  rintro n vs S - ⟨k,rfl,h_k,rfl,rfl⟩
  refine W.seq ?_
  refine W.r fun K hK=>?_
  simp(disch:=omega)only[↓RU,RV,RH,↓reduceIte,qE,reduceCtorEq,if_pos,w64,↓RS,RG,qA,qM,qL,ty6,zaa,zac,hrow,hrl]
  apply hK;clear hK K
  refine W.cond rfl (fun h1c=>?_) (fun h1c=>?_)
  ·try simp only[RL]at h1c
   have hkw:k<nw:=by omega
   have hc:=hrx k hkw
   refine W.skip ?_
   refine xn ?_
   refine W.seq ?_
   refine W.block ?_
   refine W.r fun K hK=>?_
   simp(disch:=omega)only[↓RU,RV,RH,↓reduceIte,qE,reduceCtorEq,if_pos,w64,↓RS,RG,qA,qM,qL,ty6,zac,zep,hrow,hrl,hc,zzm]
   apply hK;clear hK K
   refine W.cond rfl (fun h2c=>?_) (fun h2c=>?_)
   ·try simp only[RL]at h2c
    exact absurd h2c (zx8 hs.sh hf (by omega) hkw)
   try simp only[RL]at h2c
   refine W.skip ?_
   refine XbN ?_
   refine xn ?_
   refine W.k fun K hK=>?_
   simp(disch:=omega)only[↓RU,RV,RH,↓reduceIte,qE,reduceCtorEq,if_pos,w64,↓RS,RG,qA,qM,qL,zaa]
   apply hK;clear hK K
   refine xn ?_
   refine ⟨nw - (k+1),by omega,0,k+1,rfl,by omega,?_,rfl⟩
   simp [Env.put,Env.of]
  try simp only[RL]at h1c
  obtain rfl:k=nw:=by omega
  refine W.exit ?_
  refine xe ?_
  refine xe ?_
  refine XBlock.hit ?_
  refine XbN ?_
  refine xn ?_
  refine W.k fun K hK=>?_
  simp(disch:=omega)only[↓RU,RV,RH,↓reduceIte,qE,reduceCtorEq,if_pos,w64,↓RS,RG,qA,qM,qL,zaa]
  apply hK;clear hK K
  refine xn ?_
  refine ⟨nh - (i+1),by omega,0,i+1,rfl,by omega,?_,rfl⟩
  simp [Env.put,Env.of]
 try simp only[RL]at h0
 obtain rfl:i=nh:=by omega
 refine W.exit ?_
 refine xe ?_
 refine xe ?_
 refine XBlock.hit ?_
 refine xn ?_
 refine W.r fun K hK=>?_
 simp(disch:=omega)only[↓RU,RV,RH,↓reduceIte,qE,reduceCtorEq,if_pos,↓RS,RG,qA,qM,qL,ty2,ty6,zac]
 apply hK;clear hK K
 refine W.ret ?_
 refine Br rfl ?_
 exact zbh (n:=1) rfl rfl (zcn rfl rfl)
theorem z65 {nh nw:Nat} {p:List Txt} {R:List RmB} (hs:St nh nw p R) (hn:R.length≤9) (h1:1≤nh) (h2:nh≤6) (h3:1≤nw) (h4:nw≤6) (hf:fi p<nh) (n0:Int) {X:List (List Txt)} (hB:PC Tryz.prog 137 [zal p,.int .i64 n0,.int .i64 (fi p:Nat),.int .i64 (fk p:Nat)] (eLL X) false):PC Tryz.prog 93 [zal p,.int .i64 n0] (eLL X) false:=by
 have hph:=hs.sh.h
 obtain ⟨f1,f2,f3⟩:=zii hs.sh hf
 refine PC.of ⟨Tryz.func93,by kernel_rfl,rfl,by kernel_rfl⟩ zam mixed (by show 2≤Tryz.f93.ntmps; decide) ?_
 refine W.r fun K hK=>?_
 simp(disch:=omega)only[↓RU,RV,RH,↓reduceIte,qE,reduceCtorEq,if_pos]
 apply hK;clear hK K
 refine W.seq ?_
 refine W.r fun K hK=>?_
 simp(disch:=omega)only[↓RU,RV,RH,↓reduceIte,qE,reduceCtorEq,if_pos]
 apply hK;clear hK K
 refine W.block ?_
 refine W.loop [0,1,5] (fun n vs S=>∃ i:Nat,n=nh - i∧i≤fi p∧vs=[zal p,.int .i64 n0,.int .i64 i]∧S=⟨[],0⟩) nh ?_ ?_
 ·refine ⟨0,0,rfl,Nat.zero_le _,?_,rfl⟩
  simp [Env.put,Env.of,zae]
 rintro n vs S - ⟨i,rfl,h_i,rfl,rfl⟩
 refine W.seq ?_
 refine W.r fun K hK=>?_
 simp(disch:=omega)only[↓RU,RV,RH,↓reduceIte,qE,reduceCtorEq,if_pos,w64,ty6,zaa,zac,hph]
 apply hK;clear hK K
 refine W.cond rfl (fun h0=>?_) (fun h0=>?_)
 ·try simp only[RL]at h0
  obtain ⟨row,hrow,hrl,hrx⟩:=hs.sh.row (show i<nh by omega)
  refine W.skip ?_
  refine xn ?_
  refine W.seq ?_
  refine W.block ?_
  refine W.r fun K hK=>?_
  simp(disch:=omega)only[↓RU,RV,RH,↓reduceIte,qE,reduceCtorEq,if_pos]
  apply hK;clear hK K
  refine W.block ?_
  refine W.loop [0,1,5,6] (fun n vs S=>∃ k:Nat,n=nw - k∧((i<fi p∨(i=fi p∧k≤fk p))∧k≤nw)∧vs=[zal p,.int .i64 n0,.int .i64 i,.int .i64 k]∧S=⟨[],0⟩) nw ?_ ?_
  ·refine ⟨0,0,rfl,by omega,?_,rfl⟩
   simp [Env.put,Env.of,zae]
  rintro n vs S - ⟨k,rfl,h_k,rfl,rfl⟩
  refine W.seq ?_
  refine W.r fun K hK=>?_
  simp(disch:=omega)only[↓RU,RV,RH,↓reduceIte,qE,reduceCtorEq,if_pos,w64,ty6,zaa,zac,hrow,hrl]
  apply hK;clear hK K
  refine W.cond rfl (fun h1c=>?_) (fun h1c=>?_)
  ·try simp only[RL]at h1c
   have hkw:k<nw:=by omega
   have hc:=hrx k hkw
   refine W.skip ?_
   refine xn ?_
   refine W.seq ?_
   refine W.block ?_
   refine W.r fun K hK=>?_
   simp(disch:=omega)only[↓RU,RV,RH,↓reduceIte,qE,reduceCtorEq,if_pos,w64,ty6,zac,zep,hrow,hrl,hc,zzm]
   apply hK;clear hK K
   refine W.cond rfl (fun h2c=>?_) (fun h2c=>?_)
   ·try simp only[RL]at h2c
    obtain ⟨rfl,rfl⟩:i=fi p∧k=fk p:=by
               rcases h_k.1 with q | ⟨q,q2⟩
               ·exact absurd h2c (f3 i k (by omega) hkw (.inl q))
               subst q; exact ⟨rfl,Classical.byContradiction fun e=>f3 (fi p) k hf hkw (.inr ⟨rfl,by omega⟩) h2c⟩
    refine W.r fun K hK=>?_
    simp(disch:=omega)only[↓RU,RV,RH,↓reduceIte,qE,reduceCtorEq,if_pos,qN]
    refine zaf.pc (hB) rfl (.inr rfl) ?_
    simp(disch:=omega)only[↓RU,RV,RH,↓reduceIte,qE,reduceCtorEq,if_pos,qN]
    apply hK;clear hK K
    refine W.ret ?_
    refine XBlock.ret ?_
    refine XThen.ret ?_
    refine XThen.ret ?_
    refine XBlock.ret ?_
    refine XBlock.ret ?_
    refine XThen.ret ?_
    refine XThen.ret ?_
    refine XBlock.ret ?_
    refine XThen.ret ?_
    refine Br rfl ?_
    rfl
   try simp only[RL]at h2c
   have hne:¬ (i=fi p∧k=fk p):=fun e=>h2c (by rw [e.1,e.2]; exact f2)
   refine W.skip ?_
   refine XbN ?_
   refine xn ?_
   refine W.k fun K hK=>?_
   simp(disch:=omega)only[↓RU,RV,RH,↓reduceIte,qE,reduceCtorEq,if_pos,w64,zaa]
   apply hK;clear hK K
   refine xn ?_
   refine ⟨nw - (k+1),by omega,0,k+1,rfl,by omega,?_,rfl⟩
   simp [Env.put,Env.of]
  try simp only[RL]at h1c
  obtain rfl:k=nw:=by omega
  refine W.exit ?_
  refine xe ?_
  refine xe ?_
  refine XBlock.hit ?_
  refine XbN ?_
  refine xn ?_
  refine W.k fun K hK=>?_
  simp(disch:=omega)only[↓RU,RV,RH,↓reduceIte,qE,reduceCtorEq,if_pos,w64,zaa]
  apply hK;clear hK K
  refine xn ?_
  refine ⟨nh - (i+1),by omega,0,i+1,rfl,by omega,?_,rfl⟩
  simp [Env.put,Env.of]
 try simp only[RL]at h0
 exfalso; omega
set_option maxHeartbeats 1000000 in
theorem z64 {nh nw:Nat} {p:List Txt} {R:List RmB} (hs:St nh nw p R) (hn:R.length≤8) (h1:1≤nh) (h2:nh≤6) (h3:1≤nw) (h4:nw≤6) (hf:fi p<nh) (h9:nh*nw≤9) {m:Nat} (hm8:m≤8) (ih:∀ w d,w<fw p→d<nh - fi p→PC Tryz.prog 93 [zal (zeb p (fi p) (fk p) (w+1) (rl R.length) (fi p+(d+1))),.int .i64 (((R.length:Nat):Int)+1)] (eLL (Cd m p R.length w d)) false):PC Tryz.prog 137 [zal p,.int .i64 (R.length:Nat),.int .i64 (fi p:Nat),.int .i64 (fk p:Nat)] (eLL (Lw m p R.length nh (fw p))) false:=by
 have hph:=hs.sh.h
 obtain ⟨f1,f2,f3⟩:=zii hs.sh hf
 obtain ⟨hrr,hrl,-,hrx⟩:=zzw hs.sh hf
 have hfw:=z8r hs.sh hf
 refine PC.of ⟨Tryz.func137,by kernel_rfl,rfl,by kernel_rfl⟩ zam mixed (by show 4≤Tryz.f137.ntmps; decide) ?_
 refine W.r fun K hK=>?_
 simp(disch:=omega)only[↓RU,RV,RH,↓reduceIte,qE,reduceCtorEq,if_pos,↓RS,RG,qA,qM,qL]
 apply hK;clear hK K
 refine W.r fun K hK=>?_
 simp(disch:=omega)only[↓RU,RV,RH,↓reduceIte,qE,reduceCtorEq,if_pos,↓RS,RG,qA,qM,qL,ty2,ty6,zac]
 apply hK;clear hK K
 refine W.seq ?_
 refine W.r fun K hK=>?_
 simp(disch:=omega)only[↓RU,RV,RH,↓reduceIte,qE,reduceCtorEq,if_pos,w64,↓RS,RG,qA,qM,qL,zaa]
 apply hK;clear hK K
 refine W.cond rfl (fun h0=>?_) (fun h0=>?_)
 ·try simp only[RL]at h0
  exfalso; omega
 try simp only[RL]at h0
 refine W.skip ?_
 refine xn ?_
 refine W.seq ?_
 refine W.r fun K hK=>?_
 simp(disch:=omega)only[↓RU,RV,RH,↓reduceIte,qE,reduceCtorEq,if_pos,↓RS,RG,qA,qM,qL]
 apply hK;clear hK K
 refine W.block ?_
 refine W.loop [0,1,2,3,9,10] (fun n vs S=>∃ w v t:Nat,n=fw p - w∧w≤fw p∧vs=[zal p,.int .i64 (R.length:Nat),.int .i64 (fi p:Nat),.int .i64 (fk p:Nat),.loc 0 v 0 (Lw m p R.length nh w).length,.int .i64 ((w+1:Nat):Int)]∧S=⟨[.arr v 22 1 ((Lw m p R.length nh w).map zal)],t⟩) (fw p) ?_ ?_
 ·refine ⟨1,0,0,1,rfl,Nat.zero_le _,?_,rfl⟩
  simp [Env.put,Env.of,zae,Lw]
 rintro n vs S - ⟨w,v,t,rfl,h_w,rfl,rfl⟩
 refine W.seq ?_
 refine W.r fun K hK=>?_
 rcases (show w<fw p∨(w=fw p∧fk p+w<nw∧ch p (fi p) (fk p+w)≠46)∨(w=fw p∧¬ fk p+w<nw) from zzy hs.sh hf h_w) with hw | ⟨hw,hw2,hw3⟩ | ⟨hw,hw2⟩
 ·skip
  obtain ⟨hw1,hw2⟩:=(zrs hs.sh hf).1 hw
  have hc:=hrx _ hw1
  rw [hw2 _ (by omega) (by omega)]at hc
  have e1:decide (((fk p:Nat):Int)+((w+1:Nat):Int)≤(nw:Int))=true:=decide_eq_true (by omega)
  have tn:(((fk p:Nat):Int)+((w+1:Nat):Int) - 1).toNat=fk p+w:=by omega
  simp(disch:=omega)only[↓RU,RV,RH,↓reduceIte,qE,reduceCtorEq,if_pos,w64,↓RS,RG,qA,qM,qL,ty6,zaa,zac,zep,e1,tn,hc,hrr,hrl,zzm]
  apply hK;clear hK K
  refine W.cond rfl (fun h8=>?_) (fun h8=>?_)
  ·try simp only[RL]at h8
   refine W.skip ?_
   refine xn ?_
   refine W.seq ?_
   refine W.block ?_
   refine W.r fun K hK=>?_
   simp(disch:=omega)only[↓RU,RV,RH,↓reduceIte,qE,reduceCtorEq,if_pos,↓RS,RG,qA,qM,qL]
   apply hK;clear hK K
   refine W.block ?_
   refine W.loop [0,1,2,3,9,10,11] (fun n vs S=>∃ d v t:Nat,n=nh - fi p - d∧d≤nh - fi p∧vs=[zal p,.int .i64 (R.length:Nat),.int .i64 (fi p:Nat),.int .i64 (fk p:Nat),.loc 0 v 0 (Lw m p R.length nh w++Ld m p R.length w d).length,.int .i64 ((w+1:Nat):Int),.int .i64 ((d+1:Nat):Int)]∧S=⟨[.arr v 22 1 ((Lw m p R.length nh w++Ld m p R.length w d).map zal)],t⟩) (nh - fi p) ?_ ?_
   ·have hl0:(Lw m p R.length nh w++Ld m p R.length w 0)=(Lw m p R.length nh w):=by rw [show Ld m p R.length w 0=[] from rfl,qN]
    refine ⟨1,0,v,t,rfl,Nat.zero_le _,?_,by rw [hl0]; rfl⟩
    rw [hl0]
    simp [Env.put,Env.of]
   rintro n vs S - ⟨d,v,t,rfl,h_d,rfl,rfl⟩
   refine W.seq ?_
   refine W.r fun K hK=>?_
   simp(disch:=omega)only[↓RU,RV,RH,↓reduceIte,qE,reduceCtorEq,if_pos,w64,↓RS,RG,qA,qM,qL,ty6,zaa,zac,hph]
   apply hK;clear hK K
   refine W.cond rfl (fun h2c=>?_) (fun h2c=>?_)
   ·try simp only[RL]at h2c
    have hd:d<nh - fi p:=by omega
    have hwl:=yds (n:=R.length) h9 hm8 hs.sh hf hw hd
    refine W.skip ?_
    refine xn ?_
    refine W.seq ?_
    refine W.block ?_
    refine W.k fun K hK=>?_
    simp(disch:=omega)only[↓RU,RV,RH,↓reduceIte,qE,reduceCtorEq,if_pos,w64,w64,qN,↓RS,RG,qA,qM,qL,ty2,ty6,zaa,zac,zep]
    refine zaf.pc (z8x (ybe hs.sh h2 h4) (tp:=fi p) (lf:=fk p) (hg:=d+1) (wd:=w+1) (c:=rl R.length) (by omega) (fun r hr=>by rw [hs.sh.w r hr]; omega)) rfl (.inl rfl) ?_
    simp(disch:=omega)only[↓RU,RV,RH,↓reduceIte,qE,reduceCtorEq,if_pos,w64,w64,qN,↓RS,RG,qA,qM,qL,ty2,ty6,zaa,zac,zep]
    refine zaf.pc (ih w d hw hd) rfl (.inr rfl) ?_
    simp(disch:=omega)only[↓RU,RV,RH,↓reduceIte,qE,reduceCtorEq,if_pos,w64,w64,qN,↓RS,RG,qA,qM,qL,ty2,ty6,zaa,zac,zep]
    apply hK;clear hK K
    refine XbN ?_
    refine xn ?_
    refine W.k fun K hK=>?_
    simp(disch:=omega)only[↓RU,RV,RH,↓reduceIte,qE,reduceCtorEq,if_pos,w64,↓RS,RG,qA,qM,qL,zaa]
    apply hK;clear hK K
    refine xn ?_
    refine ⟨nh - fi p - (d+1),by omega,1,d+1,t,t+1,rfl,by omega,?_,?_⟩
    ·rw [zs4,← List.append_assoc,List.length_append (bs:=Cd m p R.length w d)]; simp [Env.put,Env.of]
    rw [zs4,← List.append_assoc,List.map_append (l₂:=Cd m p R.length w d)]; rfl
   try simp only[RL]at h2c
   obtain rfl:d=nh - fi p:=by omega
   refine W.exit ?_
   refine xe ?_
   refine xe ?_
   refine XBlock.hit ?_
   refine XbN ?_
   refine xn ?_
   refine W.k fun K hK=>?_
   simp(disch:=omega)only[↓RU,RV,RH,↓reduceIte,qE,reduceCtorEq,if_pos,w64,↓RS,RG,qA,qM,qL,zaa]
   apply hK;clear hK K
   refine xn ?_
   refine ⟨fw p - (w+1),by omega,1,w+1,v,t,rfl,by omega,?_,by rw [zs5]; rfl⟩
   simp [Env.put,Env.of,zs5]
  try simp only[RL]at h8
  exact absurd h8 (by simp)
 ·skip
  have hc:=hrx _ hw2
  have e1:decide (((fk p:Nat):Int)+((w+1:Nat):Int)≤(nw:Int))=true:=decide_eq_true (by omega)
  have e2:decide (ch p (fi p) (fk p+w)=46)=false:=decide_eq_false hw3
  have tn:(((fk p:Nat):Int)+((w+1:Nat):Int) - 1).toNat=fk p+w:=by omega
  simp(disch:=omega)only[↓RU,RV,RH,↓reduceIte,qE,reduceCtorEq,if_pos,w64,↓RS,RG,qA,qM,qL,ty6,zaa,zac,zep,e1,e2,tn,hc,hrr,hrl,zzm]
  apply hK;clear hK K
  refine W.cond rfl (fun h8=>?_) (fun h8=>?_)
  ·try simp only[RL]at h8
   exact absurd h8 (by simp)
  try simp only[RL]at h8
  subst hw
  refine W.exit ?_
  refine xe ?_
  refine xe ?_
  refine XBlock.hit ?_
  refine xn ?_
  refine W.r fun K hK=>?_
  simp(disch:=omega)only[↓RU,RV,RH,↓reduceIte,qE,reduceCtorEq,if_pos,↓RS,RG,qA,qM,qL]
  apply hK;clear hK K
  refine W.ret ?_
  refine Br rfl ?_
  exact z01 rfl
 skip
 have e1:decide (((fk p:Nat):Int)+((w+1:Nat):Int)≤(nw:Int))=false:=decide_eq_false (by omega)
 simp(disch:=omega)only[↓RU,RV,RH,↓reduceIte,qE,reduceCtorEq,if_pos,w64,↓RS,RG,qA,qM,qL,ty6,zaa,zac,zep,e1,hrr,hrl]
 apply hK;clear hK K
 refine W.cond rfl (fun h8=>?_) (fun h8=>?_)
 ·try simp only[RL]at h8
  exact absurd h8 (by simp)
 try simp only[RL]at h8
 subst hw
 refine W.exit ?_
 refine xe ?_
 refine xe ?_
 refine XBlock.hit ?_
 refine xn ?_
 refine W.r fun K hK=>?_
 simp(disch:=omega)only[↓RU,RV,RH,↓reduceIte,qE,reduceCtorEq,if_pos,↓RS,RG,qA,qM,qL]
 apply hK;clear hK K
 refine W.ret ?_
 refine Br rfl ?_
 exact z01 rfl
theorem z07 {nh nw:Nat} (h1:1≤nh) (h2:nh≤6) (h3:1≤nw) (h4:nw≤6) (h9:nh*nw≤9):∀ (m:Nat) {p:List Txt} {R:List RmB},St nh nw p R→R.length+m=9→∀ n0:Int,n0=(R.length:Nat) →
  PC Tryz.prog 93 [zal p,.int .i64 n0] (eLL (En m p R.length)) false
 | 0,p,R,hs,hm,n0,hn=>by
  have hf:¬ fi p<nh:=fun hf=>by
   obtain ⟨f1,f2,-⟩:=zii hs.sh hf
   have:=hs.lim hf f1 f2
   omega
  exact z06 hs (by omega) h1 h2 h3 h4 hf n0
 | m+1,p,R,hs,hm,n0,hn=>by
  subst hn
  by_cases hf:fi p<nh
  ·rw [ybs hs.sh.h hf]
   refine z65 hs (by omega) h1 h2 h3 h4 hf _ (z64 hs (by omega) h1 h2 h3 h4 hf h9 (by omega) fun w d hw hd=>?_)
   have hl:(R++[(⟨fi p,fk p,d+1,w+1⟩:RmB)]).length=R.length+1:=by simp
   have:=z07 h1 h2 h3 h4 h9 m (hs.next h9 hf hw hd) (by omega) (((R.length:Nat):Int)+1) (by rw [hl]; rfl)
   rw [hl]at this
   exact this
  have e:En (m+1) p R.length=[p]:=by
   unfold En
   rw [hs.sh.h,if_neg hf]
  rw [e]
  exact z06 hs (by omega) h1 h2 h3 h4 hf _
theorem z4p {i w:Nat}:(dots i w).map PV.str++[.str (List.replicate w 46)]=(dots (i+1) w).map PV.str:=by simp [dots,List.replicate_succ']
theorem z8l {k:Nat}:(List.replicate k (46:UInt8)).map eB++[.int .u8 46]=(List.replicate (k+1) (46:UInt8)).map eB:=by simp [List.replicate_succ',eB]
theorem zzj {i w:Nat}:(dots i w).length=i:=by simp [dots]
theorem z6v {k:Nat}:(List.replicate k (46:UInt8)).length=k:=by simp
theorem ydz {H W:Nat} (h9:H*W≤9):(zet H W).length≤387420489:=z3v h9 9 zn6
theorem z2e {nh nw:Nat} (h1:1≤nh) (h2:nh≤6) (h3:1≤nw) (h4:nw≤6) (h9:nh*nw≤9):PC Tryz.prog 45 [.int .i64 nh,.int .i64 nw] (eLL (zet nh nw)) false:=by
 have hF:=z07 h1 h2 h3 h4 h9 9 (zx6 (H:=nh) (W:=nw)) rfl 0 rfl
 change PC _ _ _ (eLL (zet nh nw)) _ at hF
 refine PC.of ⟨Tryz.func45,by kernel_rfl,rfl,by kernel_rfl⟩ zam mixed (by show 2≤Tryz.f45.ntmps; decide) ?_
 refine W.r fun K hK=>?_
 simp(disch:=omega)only[↓RU,RV,RH,↓reduceIte,qE,reduceCtorEq,if_pos,↓RS,RG,qA,qM,qL]
 apply hK;clear hK K
 refine W.r fun K hK=>?_
 simp(disch:=omega)only[↓RU,RV,RH,↓reduceIte,qE,reduceCtorEq,if_pos,↓RS,RG,qA,qM,qL,ty6,zac]
 apply hK;clear hK K
 refine W.joinZ [5] (fun vs S=>∃ tk:Nat,vs=[zal (dots nh nw)]∧S=⟨[],tk⟩) ?_ ?_
 ·
  refine W.r fun K hK=>?_
  simp(disch:=omega)only[↓RU,RV,RH,↓reduceIte,qE,reduceCtorEq,if_pos,↓RS,RG,qA,qM,qL]
  apply hK;clear hK K
  refine W.block ?_
  refine W.loop [0,1,5,6] (fun n vs S=>∃ i v0 tq:Nat,n=nh - i∧i≤nh∧vs=[.int .i64 nh,.int .i64 nw,.loc 0 v0 0 i,.int .i64 i]∧S=⟨[.arr v0 9 1 ((dots i nw).map .str)],tq⟩) nh ?_ ?_
  ·refine ⟨1,0,0,1,rfl,Nat.zero_le _,?_,rfl⟩
   simp [Env.put,Env.of,zae]
  rintro n vs S - ⟨i,v0,tq,rfl,h_i,rfl,rfl⟩
  refine W.seq ?_
  refine W.r fun K hK=>?_
  simp(disch:=omega)only[↓RU,RV,RH,↓reduceIte,qE,reduceCtorEq,if_pos,w64,↓RS,RG,qA,qM,qL,zaa]
  apply hK;clear hK K
  refine W.cond rfl (fun h=>?_) (fun h=>?_)
  ·try simp only[RL]at h
   have hdl:=zzj (i:=i) (w:=nw)
   refine W.skip ?_
   refine xn ?_
   refine W.seq ?_
   refine W.block ?_
   refine W.r fun K hK=>?_
   simp(disch:=omega)only[↓RU,RV,RH,↓reduceIte,qE,reduceCtorEq,if_pos,↓RS,RG,qA,qM,qL,ty7,zep]
   apply hK;clear hK K
   refine W.seq ?_
   refine W.r fun K hK=>?_
   simp(disch:=omega)only[↓RU,RV,RH,↓reduceIte,qE,reduceCtorEq,if_pos,↓RS,RG,qA,qM,qL]
   apply hK;clear hK K
   refine W.block ?_
   refine W.loop [0,1,5,6,7,8] (fun n vs S=>∃ k v1 tq:Nat,n=nw - k∧k≤nw∧vs=[.int .i64 nh,.int .i64 nw,.loc 0 v0 0 i,.int .i64 i,.loc 1 v1 0 k,.int .i64 k]∧S=⟨[.arr v0 9 1 ((dots i nw).map .str),.arr v1 5 1 ((List.replicate k (46:UInt8)).map eB)],tq⟩) nw ?_ ?_
   ·refine ⟨2,0,tq,tq+1,rfl,Nat.zero_le _,?_,rfl⟩
    simp [Env.put,Env.of]
   rintro n vs S - ⟨k,v1,tq,rfl,h_k,rfl,rfl⟩
   refine W.seq ?_
   refine W.r fun K hK=>?_
   simp(disch:=omega)only[↓RU,RV,RH,↓reduceIte,qE,reduceCtorEq,if_pos,w64,↓RS,RG,qA,qM,qL,zaa]
   apply hK;clear hK K
   refine W.cond rfl (fun h1x=>?_) (fun h1x=>?_)
   ·try simp only[RL]at h1x
    have hrl:=z6v (k:=k)
    refine W.skip ?_
    refine xn ?_
    refine W.seq ?_
    refine W.block ?_
    refine W.k fun K hK=>?_
    simp(disch:=omega)only[↓RU,RV,RH,↓reduceIte,qE,reduceCtorEq,if_pos,↓RS,RG,qA,qM,qL,ty7,zep,hrl]
    apply hK;clear hK K
    refine XbN ?_
    refine xn ?_
    refine W.k fun K hK=>?_
    simp(disch:=omega)only[↓RU,RV,RH,↓reduceIte,qE,reduceCtorEq,if_pos,w64,↓RS,RG,qA,qM,qL,zaa]
    apply hK;clear hK K
    refine xn ?_
    refine ⟨nw - (k+1),by omega,2,k+1,tq+1,tq+2,rfl,by omega,?_,?_⟩
    ·simp [Env.put,Env.of]
    rw [← z8l]; simp [zaq,zl9]
   try simp only[RL]at h1x
   obtain rfl:k=nw:=by omega
   have hrl:=z6v (k:=k)
   refine W.exit ?_
   refine xe ?_
   refine xe ?_
   refine XBlock.hit ?_
   refine xn ?_
   refine W.k fun K hK=>?_
   simp(disch:=omega)only[↓RU,RV,RH,↓reduceIte,qE,reduceCtorEq,if_pos,w64,↓RS,RG,qA,qM,qL,ty6,ty7,zac,zep,hrl,hdl]
   apply hK;clear hK K
   refine XbN ?_
   refine xn ?_
   refine W.k fun K hK=>?_
   simp(disch:=omega)only[↓RU,RV,RH,↓reduceIte,qE,reduceCtorEq,if_pos,w64,↓RS,RG,qA,qM,qL,zaa]
   apply hK;clear hK K
   refine xn ?_
   refine ⟨nh - (i+1),by omega,1,i+1,tq+1,tq+2,rfl,by omega,?_,?_⟩
   ·simp [Env.put,Env.of]
   rw [← z4p]; simp [zaq,zl9]
  try simp only[RL]at h
  obtain rfl:i=nh:=by omega
  refine W.exit ?_
  refine xe ?_
  refine xe ?_
  refine XBlock.hit ?_
  refine xn ?_
  have hdl:=zzj (i:=i) (w:=nw)
  refine ⟨0,[zal (dots i nw)],⟨[],tq⟩,?_,?_,tq,rfl,rfl⟩
  ·have ht:((dots i nw).map PV.str).take i=(dots i nw).map PV.str:=qT (by simp [hdl])
   have hm:∀ S:Store,((dots i nw).map PV.str).mapM (rfz S 0 9)=some ((dots i nw).map PV.str):=fun S=>zt6 (fun _=>rfl) _
   simp [-qU,zc0,zcu,hdl,ht,hm,Env.put,Env.of]
  rfl
 rintro vs S - ⟨tk,rfl,rfl⟩
 refine W.r fun K hK=>?_
 simp(disch:=omega)only[↓RU,RV,RH,↓reduceIte,qE,reduceCtorEq,if_pos,qN,↓RS,RG,qA,qM,qL]
 refine zaf.pc (hF) rfl (.inr rfl) ?_
 simp(disch:=omega)only[↓RU,RV,RH,↓reduceIte,qE,reduceCtorEq,if_pos,qN,↓RS,RG,qA,qM,qL]
 apply hK;clear hK K
 refine W.ret ?_
 refine Br rfl ?_
 rfl
theorem zy0 {p:List Txt} (hp:p.length≤1048576):PC Tryz.prog 10 [zal p] (zal p) true :=
 PN.pc (zxl hp) rfl (by simp only[List.map_cons,List.map_nil,zji,zxo,zy3,Nat.add_zero]; exact zbh rfl (by simp) (zod _))
theorem z1l {p q:List Txt} {n:Int} (h0:0≤n) (h1:n≤1000000000):slN p n q=if zpd (zcq p) q then n+1 else n:=by
 unfold slN
 rw [w64 (by omega) (by omega)]
theorem zxf {p:List Txt} {L:List (List Txt)} (hL:L.length≤1000000000):∀ i,i≤L.length→0≤(L.take i).foldl (slN p) 0∧(L.take i).foldl (slN p) 0≤i
 | 0,_=>by simp
 | i+1,h=>by
  obtain ⟨h1,h2⟩:=zxf hL i (by omega)
  obtain ⟨q,hq,-⟩:=zad (show i<L.length by omega)
  rw [tk hq,List.foldl_append,List.foldl_cons,List.foldl_nil,z1l h1 (by omega)]
  split <;> omega
theorem yel {L:List (List Txt)} {i:Nat} {q:List Txt} (h:L[i]?=some q):(L.map zal)[i]?=some (zal q):=by rw [List.getElem?_map,h]; rfl
theorem z68 {p:List Txt} (hs:Sm p) (hv:zbk p=false):PC Tryz.prog 9 [zal p] (.tup [.int .i64 0,.bool false]) true:=by
 refine PC.of ⟨Tryz.func9,by kernel_rfl,rfl,by kernel_rfl⟩ zam mixed (by show 1≤Tryz.f9.ntmps; decide) ?_
 refine W.r fun K hK=>?_
 simp(disch:=omega)only[↓RU,RV,RH,↓reduceIte,qE,reduceCtorEq,if_pos,↓RS,RG,qA,qM,qL]
 apply hK;clear hK K
 refine W.seq ?_
 refine W.r fun K hK=>?_
 simp(disch:=omega)only[↓RU,RV,RH,↓reduceIte,qE,reduceCtorEq,if_pos,qN,w64,↓RS,RG,qA,qM,qL,ty6,zaa,zac,hv]
 refine zaf.pc (zfh hs) rfl (.inl rfl) ?_
 simp(disch:=omega)only[↓RU,RV,RH,↓reduceIte,qE,reduceCtorEq,if_pos,qN,w64,↓RS,RG,qA,qM,qL,ty6,zaa,zac,hv]
 apply hK;clear hK K
 refine W.cond rfl (fun h0=>?_) (fun h0=>?_)
 ·try simp only[RL]at h0
  refine W.r fun K hK=>?_
  simp(disch:=omega)only[↓RU,RV,RH,↓reduceIte,qE,reduceCtorEq,if_pos,↓RS,RG,qA,qM,qL]
  apply hK;clear hK K
  refine W.ret ?_
  refine XThen.ret ?_
  refine Br rfl ?_
  rfl
 try simp only[RL]at h0
 exact absurd h0 (by simp)
theorem z25 {p:List Txt} (hs:Sm p) (hv:zbk p=true) (hbig:¬ p.length*(zah p).length≤9):PC Tryz.prog 9 [zal p] (.tup [.int .i64 0,.bool false]) true:=by
 have hpl:zes p=true:=zfk hv
 have hg:=zhw hpl
 obtain ⟨-,-,g1,g2,g3,g4⟩:=hg
 obtain ⟨row0,hrow0,-⟩:=zad (show 0<p.length by omega)
 have hh:row0.length=(zah p).length:=by rw [zcm hrow0]
 have hmu:p.length*(zah p).length≤36:=Nat.mul_le_mul g2 g4
 have hmc:((p.length:Nat):Int)*(((zah p).length:Nat):Int)=((p.length*(zah p).length:Nat):Int):=by simp
 have hd:decide (((p.length*(zah p).length:Nat):Int)>9)=true:=decide_eq_true (by omega)
 refine PC.of ⟨Tryz.func9,by kernel_rfl,rfl,by kernel_rfl⟩ zam mixed (by show 1≤Tryz.f9.ntmps; decide) ?_
 refine W.r fun K hK=>?_
 simp(disch:=omega)only[↓RU,RV,RH,↓reduceIte,qE,reduceCtorEq,if_pos,↓RS,RG,qA,qM,qL]
 apply hK;clear hK K
 refine W.seq ?_
 refine W.r fun K hK=>?_
 simp(disch:=omega)only[↓RU,RV,RH,↓reduceIte,qE,reduceCtorEq,if_pos,qN,w64,↓RS,RG,qA,qM,qL,ty6,zaa,zac,hv,hrow0,hh,hmc,hd,Int.toNat_zero,Nat.zero_mul,qZ,qM,Nat.zero_add,Nat.mul_one,List.getElem?_cons_zero,List.getElem?_cons_succ]
 refine zaf.pc (zfh hs) rfl (.inl rfl) ?_
 simp(disch:=omega)only[↓RU,RV,RH,↓reduceIte,qE,reduceCtorEq,if_pos,qN,w64,↓RS,RG,qA,qM,qL,ty6,zaa,zac,hv,hrow0,hh,hmc,hd,Int.toNat_zero,Nat.zero_mul,qZ,qM,Nat.zero_add,Nat.mul_one,List.getElem?_cons_zero,List.getElem?_cons_succ]
 apply hK;clear hK K
 refine W.cond rfl (fun h0=>?_) (fun h0=>?_)
 ·try simp only[RL]at h0
  refine W.r fun K hK=>?_
  simp(disch:=omega)only[↓RU,RV,RH,↓reduceIte,qE,reduceCtorEq,if_pos,↓RS,RG,qA,qM,qL]
  apply hK;clear hK K
  refine W.ret ?_
  refine XThen.ret ?_
  refine Br rfl ?_
  rfl
 try simp only[RL]at h0
 exact absurd h0 (by simp)
theorem z26 {p:List Txt} (hs:Sm p) (hv:zbk p=true) (h9:p.length*(zah p).length≤9):PC Tryz.prog 9 [zal p] (.tup [.int .i64 ((zet p.length (zah p).length).foldl (slN p) 0),.bool true]) true:=by
 have hpl:zes p=true:=zfk hv
 have hg:=zhw hpl
 obtain ⟨-,-,g1,g2,g3,g4⟩:=hg
 obtain ⟨row0,hrow0,-⟩:=zad (show 0<p.length by omega)
 have hh:row0.length=(zah p).length:=by rw [zcm hrow0]
 have hmu:p.length*(zah p).length≤36:=Nat.mul_le_mul g2 g4
 have hmc:((p.length:Nat):Int)*(((zah p).length:Nat):Int)=((p.length*(zah p).length:Nat):Int):=by simp
 have hd:decide (((p.length*(zah p).length:Nat):Int)>9)=false:=decide_eq_false (by omega)
 have hfew:=ydz h9
 refine PC.of ⟨Tryz.func9,by kernel_rfl,rfl,by kernel_rfl⟩ zam mixed (by show 1≤Tryz.f9.ntmps; decide) ?_
 refine W.r fun K hK=>?_
 simp(disch:=omega)only[↓RU,RV,RH,↓reduceIte,qE,reduceCtorEq,if_pos,↓RS,RG,qA,qM,qL]
 apply hK;clear hK K
 refine W.seq ?_
 refine W.r fun K hK=>?_
 simp(disch:=omega)only[↓RU,RV,RH,↓reduceIte,qE,reduceCtorEq,if_pos,qN,w64,↓RS,RG,qA,qM,qL,ty6,zaa,zac,hv,hrow0,hh,hmc,hd,Int.toNat_zero,Nat.zero_mul,qZ,qM,Nat.zero_add,Nat.mul_one,List.getElem?_cons_zero,List.getElem?_cons_succ]
 refine zaf.pc (zfh hs) rfl (.inl rfl) ?_
 simp(disch:=omega)only[↓RU,RV,RH,↓reduceIte,qE,reduceCtorEq,if_pos,qN,w64,↓RS,RG,qA,qM,qL,ty6,zaa,zac,hv,hrow0,hh,hmc,hd,Int.toNat_zero,Nat.zero_mul,qZ,qM,Nat.zero_add,Nat.mul_one,List.getElem?_cons_zero,List.getElem?_cons_succ]
 apply hK;clear hK K
 refine W.cond rfl (fun h0=>?_) (fun h0=>?_)
 ·try simp only[RL]at h0
  exact absurd h0 (by simp)
 try simp only[RL]at h0
 refine W.skip ?_
 refine xn ?_
 refine W.r fun K hK=>?_
 simp(disch:=omega)only[↓RU,RV,RH,↓reduceIte,qE,reduceCtorEq,if_pos,qN,↓RS,RG,qA,qM,qL]
 refine zaf.pc (zlb hs hv) rfl (.inl rfl) ?_
 simp(disch:=omega)only[↓RU,RV,RH,↓reduceIte,qE,reduceCtorEq,if_pos,qN,↓RS,RG,qA,qM,qL]
 apply hK;clear hK K
 refine W.r fun K hK=>?_
 simp(disch:=omega)only[↓RU,RV,RH,↓reduceIte,qE,reduceCtorEq,if_pos,↓RS,RG,qA,qM,qL]
 apply hK;clear hK K
 refine W.r fun K hK=>?_
 simp(disch:=omega)only[↓RU,RV,RH,↓reduceIte,qE,reduceCtorEq,if_pos,qN,↓RS,RG,qA,qM,qL,ty6,zac,hrow0,hh,Int.toNat_zero,Nat.zero_mul,qZ,qM,Nat.zero_add,Nat.mul_one,List.getElem?_cons_zero,List.getElem?_cons_succ]
 refine zaf.pc (z2e g1 g2 g3 g4 h9) rfl (.inr rfl) ?_
 simp(disch:=omega)only[↓RU,RV,RH,↓reduceIte,qE,reduceCtorEq,if_pos,qN,↓RS,RG,qA,qM,qL,ty6,zac,hrow0,hh,Int.toNat_zero,Nat.zero_mul,qZ,qM,Nat.zero_add,Nat.mul_one,List.getElem?_cons_zero,List.getElem?_cons_succ]
 apply hK;clear hK K
 refine W.seq ?_
 refine W.r fun K hK=>?_
 simp(disch:=omega)only[↓RU,RV,RH,↓reduceIte,qE,reduceCtorEq,if_pos,↓RS,RG,qA,qM,qL]
 apply hK;clear hK K
 refine W.block ?_
 refine W.loop [4,5,6,7] (fun n vs S=>∃ i:Nat,n=(zet p.length (zah p).length).length - i∧i≤(zet p.length (zah p).length).length∧vs=[eInts (zcq p),.int .i64 (((zet p.length (zah p).length).take i).foldl (slN p) 0),eLL (zet p.length (zah p).length),.int .i64 i]∧S=⟨[],0⟩) (zet p.length (zah p).length).length ?_ ?_
 ·refine ⟨0,0,rfl,Nat.zero_le _,?_,rfl⟩
  simp [Env.put,Env.of,zae]
 rintro n vs S - ⟨i,rfl,h_i,rfl,rfl⟩
 refine W.seq ?_
 refine W.r fun K hK=>?_
 simp(disch:=omega)only[↓RU,RV,RH,↓reduceIte,qE,reduceCtorEq,if_pos,w64,↓RS,RG,qA,qM,qL,ty2,ty6,zaa,zac]
 apply hK;clear hK K
 refine W.cond rfl (fun h1=>?_) (fun h1=>?_)
 ·try simp only[RL]at h1
  obtain ⟨q,hq,hqm⟩:=zad (show i<(zet p.length (zah p).length).length by omega)
  obtain ⟨hqp,hqs⟩:=z2p h9 g1 g2 g3 g4 hqm
  have hqS:=ybe hqs g2 g4
  have hle:=yel hq
  obtain ⟨hb1,hb2⟩:=zxf (p:=p) (L:=(zet p.length (zah p).length)) (by omega) i (by omega)
  have hst:=z1l (p:=p) (q:=q) hb1 (by omega)
  have hnx:((zet p.length (zah p).length).take (i+1)).foldl (slN p) 0=slN p (((zet p.length (zah p).length).take i).foldl (slN p) 0) q:=by rw [tk hq,List.foldl_append]; rfl
  refine W.skip ?_
  refine xn ?_
  refine W.seq ?_
  refine W.block ?_
  refine W.r fun K hK=>?_
  rcases (show zbk q=false∨(zbk q=true∧zcq q=zcq p)∨(zbk q=true∧zcq q≠zcq p) by cases zbk q <;> by_cases e:zcq q=zcq p <;> simp [e]) with hq1 | ⟨hq1,hq2⟩ | ⟨hq1,hq2⟩
  ·skip
   have hqi:zco q=false:=by rw [zcy]; exact hq1
   have hgo:zpd (zcq p) q=false:=by unfold zpd; rw [hqi]; rfl
   rw [hgo]at hst
   simp only[if_true,if_false,qF]at hst
   simp(disch:=omega)only[↓RU,RV,RH,↓reduceIte,qE,reduceCtorEq,if_pos,qN,↓RS,RG,qA,qM,qL,ty2,ty6,zac,hle,hq1]
   refine zaf.pc (zfh hqS) rfl (.inl rfl) ?_
   simp(disch:=omega)only[↓RU,RV,RH,↓reduceIte,qE,reduceCtorEq,if_pos,qN,↓RS,RG,qA,qM,qL,ty2,ty6,zac,hle,hq1]
   apply hK;clear hK K
   refine W.cond rfl (fun h2=>?_) (fun h2=>?_)
   ·try simp only[RL]at h2
    exact absurd h2 (by simp)
   try simp only[RL]at h2
   refine W.skip ?_
   refine XbN ?_
   refine xn ?_
   refine W.k fun K hK=>?_
   simp(disch:=omega)only[↓RU,RV,RH,↓reduceIte,qE,reduceCtorEq,if_pos,w64,↓RS,RG,qA,qM,qL,zaa]
   apply hK;clear hK K
   refine xn ?_
   refine ⟨(zet p.length (zah p).length).length - (i+1),by omega,0,i+1,rfl,by omega,?_,rfl⟩
   rw [hnx,hst]
   simp [Env.put,Env.of]
  ·skip
   have hqi:zco q=true:=by rw [zcy]; exact hq1
   have hde:decide (zcq q=zcq p)=true:=decide_eq_true hq2
   have l1:=ztx hq1
   have l2:=ztx hv
   have hgo:zpd (zcq p) q=true:=by unfold zpd; rw [hqi,hde]; rfl
   rw [hgo]at hst
   simp only[if_true,if_false,qF]at hst
   simp(disch:=omega)only[↓RU,RV,RH,↓reduceIte,qE,reduceCtorEq,if_pos,qN,↓RS,RG,qA,qM,qL,ty2,ty6,zac,hle,hq1,hde]
   refine zaf.pc (zfh hqS) rfl (.inl rfl) ?_
   simp(disch:=omega)only[↓RU,RV,RH,↓reduceIte,qE,reduceCtorEq,if_pos,qN,↓RS,RG,qA,qM,qL,ty2,ty6,zac,hle,hq1,hde]
   refine zaf.pc (zlb hqS hq1) rfl (.inl rfl) ?_
   simp(disch:=omega)only[↓RU,RV,RH,↓reduceIte,qE,reduceCtorEq,if_pos,qN,↓RS,RG,qA,qM,qL,ty2,ty6,zac,hle,hq1,hde]
   refine zaf.pc (zry (p:=zcq q) (q:=zcq p) (by omega) (by omega)) rfl (.inl rfl) ?_
   simp(disch:=omega)only[↓RU,RV,RH,↓reduceIte,qE,reduceCtorEq,if_pos,qN,↓RS,RG,qA,qM,qL,ty2,ty6,zac,hle,hq1,hde]
   apply hK;clear hK K
   refine W.cond rfl (fun h2=>?_) (fun h2=>?_)
   ·try simp only[RL]at h2
    refine W.k fun K hK=>?_
    simp(disch:=omega)only[↓RU,RV,RH,↓reduceIte,qE,reduceCtorEq,if_pos,w64,↓RS,RG,qA,qM,qL,zaa]
    apply hK;clear hK K
    refine XbN ?_
    refine xn ?_
    refine W.k fun K hK=>?_
    simp(disch:=omega)only[↓RU,RV,RH,↓reduceIte,qE,reduceCtorEq,if_pos,w64,↓RS,RG,qA,qM,qL,zaa]
    apply hK;clear hK K
    refine xn ?_
    refine ⟨(zet p.length (zah p).length).length - (i+1),by omega,0,i+1,rfl,by omega,?_,rfl⟩
    rw [hnx,hst]
    simp [Env.put,Env.of]
   try simp only[RL]at h2
   exact absurd h2 (by simp)
  skip
  have hqi:zco q=true:=by rw [zcy]; exact hq1
  have hde:decide (zcq q=zcq p)=false:=decide_eq_false hq2
  have l1:=ztx hq1
  have l2:=ztx hv
  have hgo:zpd (zcq p) q=false:=by unfold zpd; rw [hqi,hde]; rfl
  rw [hgo]at hst
  simp only[if_true,if_false,qF]at hst
  simp(disch:=omega)only[↓RU,RV,RH,↓reduceIte,qE,reduceCtorEq,if_pos,qN,↓RS,RG,qA,qM,qL,ty2,ty6,zac,hle,hq1,hde]
  refine zaf.pc (zfh hqS) rfl (.inl rfl) ?_
  simp(disch:=omega)only[↓RU,RV,RH,↓reduceIte,qE,reduceCtorEq,if_pos,qN,↓RS,RG,qA,qM,qL,ty2,ty6,zac,hle,hq1,hde]
  refine zaf.pc (zlb hqS hq1) rfl (.inl rfl) ?_
  simp(disch:=omega)only[↓RU,RV,RH,↓reduceIte,qE,reduceCtorEq,if_pos,qN,↓RS,RG,qA,qM,qL,ty2,ty6,zac,hle,hq1,hde]
  refine zaf.pc (zry (p:=zcq q) (q:=zcq p) (by omega) (by omega)) rfl (.inl rfl) ?_
  simp(disch:=omega)only[↓RU,RV,RH,↓reduceIte,qE,reduceCtorEq,if_pos,qN,↓RS,RG,qA,qM,qL,ty2,ty6,zac,hle,hq1,hde]
  apply hK;clear hK K
  refine W.cond rfl (fun h2=>?_) (fun h2=>?_)
  ·try simp only[RL]at h2
   exact absurd h2 (by simp)
  try simp only[RL]at h2
  refine W.skip ?_
  refine XbN ?_
  refine xn ?_
  refine W.k fun K hK=>?_
  simp(disch:=omega)only[↓RU,RV,RH,↓reduceIte,qE,reduceCtorEq,if_pos,w64,↓RS,RG,qA,qM,qL,zaa]
  apply hK;clear hK K
  refine xn ?_
  refine ⟨(zet p.length (zah p).length).length - (i+1),by omega,0,i+1,rfl,by omega,?_,rfl⟩
  rw [hnx,hst]
  simp [Env.put,Env.of]
 try simp only[RL]at h1
 obtain rfl:i=(zet p.length (zah p).length).length:=by omega
 refine W.exit ?_
 refine xe ?_
 refine xe ?_
 refine XBlock.hit ?_
 refine xn ?_
 refine W.r fun K hK=>?_
 simp(disch:=omega)only[↓RU,RV,RH,↓reduceIte,qE,reduceCtorEq,if_pos,↓RS,RG,qA,qM,qL]
 apply hK;clear hK K
 refine W.ret ?_
 refine Br rfl ?_
 rw [List.take_length]
 rfl
theorem z9w {p:List Txt} (hs:Sm p):PC Tryz.prog 11 [zal p] (.tup [.int .i64 (zss p),.bool (zqq p)]) true:=by
 unfold zss zqq
 cases hv:zco p with
 | false=>exact z9v hs hv
 | true =>
  by_cases h9:p.length*(zah p).length≤9
  ·simp only[h9,decide_true,Bool.and_self,if_true]; exact z7j hs hv h9
  simp only[h9,decide_false,Bool.and_false,qF,if_false]; exact z7i hs hv h9
theorem z69 {p:List Txt} (hs:Sm p):PC Tryz.prog 9 [zal p] (.tup [.int .i64 (zss p),.bool (zqq p)]) true:=by
 unfold zss zqq
 rw [zcy]
 cases hv:zbk p with
 | false=>exact z68 hs hv
 | true =>
  by_cases h9:p.length*(zah p).length≤9
  ·simp only[h9,decide_true,Bool.and_self,if_true]; exact z26 hs hv h9
  simp only[h9,decide_false,Bool.and_false,qF,if_false]; exact z25 hs hv h9
theorem ztp {p:List Txt} (hl:p.length≤9223372036854775807) (hr:∀ r∈p,r.length≤9223372036854775807):PC Tryz.prog 3 [zal p] (.bool true) true:=by
 refine PC.of ⟨Tryz.func3,by kernel_rfl,rfl,by kernel_rfl⟩ zam mixed (by show 1≤Tryz.f3.ntmps; decide) ?_
 refine W.r fun K hK=>?_
 simp(disch:=omega)only[↓RU,RV,RH,↓reduceIte,qE,reduceCtorEq,if_pos,↓RS,RG,qA,qM,qL]
 apply hK;clear hK K
 refine W.r fun K hK=>?_
 simp(disch:=omega)only[↓RU,RV,RH,↓reduceIte,qE,reduceCtorEq,if_pos,↓RS,RG,qA,qM,qL]
 apply hK;clear hK K
 refine W.r fun K hK=>?_
 simp(disch:=omega)only[↓RU,RV,RH,↓reduceIte,qE,reduceCtorEq,if_pos,qN,↓RS,RG,qA,qM,qL]
 refine zaf.pc (zxj hl hr (left:=1048576) (by omega) (by omega)) rfl (.inl rfl) ?_
 simp(disch:=omega)only[↓RU,RV,RH,↓reduceIte,qE,reduceCtorEq,if_pos,qN,↓RS,RG,qA,qM,qL]
 apply hK;clear hK K
 refine W.seq ?_
 refine W.r fun K hK=>?_
 simp(disch:=omega)only[↓RU,RV,RH,↓reduceIte,qE,reduceCtorEq,if_pos,w64,↓RS,RG,qA,qM,qL,zaa]
 apply hK;clear hK K
 refine W.cond rfl (fun h0=>?_) (fun h0=>?_)
 ·try simp only[RL]at h0
  refine W.r fun K hK=>?_
  simp(disch:=omega)only[↓RU,RV,RH,↓reduceIte,qE,reduceCtorEq,if_pos,↓RS,RG,qA,qM,qL]
  apply hK;clear hK K
  refine W.ret ?_
  refine XThen.ret ?_
  refine Br rfl ?_
  rfl
 try simp only[RL]at h0
 have hs:Sm p:=yge (Int.le_refl _) (by omega)
 have hs1:=hs.1
 refine W.skip ?_
 refine xn ?_
 refine W.r fun K hK=>?_
 simp(disch:=omega)only[↓RU,RV,RH,↓reduceIte,qE,reduceCtorEq,if_pos,qN,↓RS,RG,qA,qM,qL]
 refine zaf.pc (zy0 hs1) rfl (.inl rfl) ?_
 simp(disch:=omega)only[↓RU,RV,RH,↓reduceIte,qE,reduceCtorEq,if_pos,qN,↓RS,RG,qA,qM,qL]
 refine zaf.pc (z69 hs) rfl (.inl rfl) ?_
 simp(disch:=omega)only[↓RU,RV,RH,↓reduceIte,qE,reduceCtorEq,if_pos,qN,↓RS,RG,qA,qM,qL]
 apply hK;clear hK K
 refine W.r fun K hK=>?_
 simp(disch:=omega)only[↓RU,RV,RH,↓reduceIte,qE,reduceCtorEq,if_pos,qN,↓RS,RG,qA,qM,qL]
 refine zaf.pc (zy0 hs1) rfl (.inl rfl) ?_
 simp(disch:=omega)only[↓RU,RV,RH,↓reduceIte,qE,reduceCtorEq,if_pos,qN,↓RS,RG,qA,qM,qL]
 apply hK;clear hK K
 refine W.r fun K hK=>?_
 simp(disch:=omega)only[↓RU,RV,RH,↓reduceIte,qE,reduceCtorEq,if_pos,qN,↓RS,RG,qA,qM,qL]
 refine zaf.pc (z9w hs) rfl (.inl rfl) ?_
 simp(disch:=omega)only[↓RU,RV,RH,↓reduceIte,qE,reduceCtorEq,if_pos,qN,↓RS,RG,qA,qM,qL]
 apply hK;clear hK K
 refine W.seq ?_
 refine W.r fun K hK=>?_
 have hd1:(zss p != zss p)=false:=by simp
 have hd2:(zqq p != zqq p)=false:=by simp
 simp(disch:=omega)only[↓RU,RV,RH,↓reduceIte,qE,reduceCtorEq,if_pos,w64,↓RS,RG,qA,qM,qL,zap,zaa,hd1,hd2]
 apply hK;clear hK K
 refine W.cond rfl (fun h1=>?_) (fun h1=>?_)
 ·try simp only[RL]at h1
  first | (exfalso; omega) | exact absurd h1 (by simp)
 try simp only[RL]at h1
 refine W.skip ?_
 refine xn ?_
 refine W.seq ?_
 refine W.r fun K hK=>?_
 simp(disch:=omega)only[↓RU,RV,RH,↓reduceIte,qE,reduceCtorEq,if_pos,qN,↓RS,RG,qA,qM,qL,decide_true,Bool.not_true]
 refine zaf.pc (zy0 hs1) rfl (.inl rfl) ?_
 simp(disch:=omega)only[↓RU,RV,RH,↓reduceIte,qE,reduceCtorEq,if_pos,qN,↓RS,RG,qA,qM,qL,decide_true,Bool.not_true]
 refine zaf.pc (zvk (p:=p) (q:=p) (by omega) (by omega)) rfl (.inl rfl) ?_
 simp(disch:=omega)only[↓RU,RV,RH,↓reduceIte,qE,reduceCtorEq,if_pos,qN,↓RS,RG,qA,qM,qL,decide_true,Bool.not_true]
 apply hK;clear hK K
 refine W.cond rfl (fun h2=>?_) (fun h2=>?_)
 ·try simp only[RL]at h2
  first | (exfalso; omega) | exact absurd h2 (by simp)
 try simp only[RL]at h2
 refine W.skip ?_
 refine xn ?_
 refine W.r fun K hK=>?_
 simp(disch:=omega)only[↓RU,RV,RH,↓reduceIte,qE,reduceCtorEq,if_pos,↓RS,RG,qA,qM,qL]
 apply hK;clear hK K
 refine W.ret ?_
 refine Br rfl ?_
 rfl
end Fw
end Go.Proofs.YtddhgiafpmghpaaGreat
namespace Go.Proofs.YtddhgiafpmghpaaGreat
open Go Go.ChangeShapes Go.WideShapes Go.ChangeAt Go.RowKit Fw
theorem Tryz.ownRsa:ownKnob Tryz.prog.godebug=none:=by kernel_rfl
theorem Tryz.laidOutRsa:laidOutB Tryz.prog=true:=by kernel_rfl
set_option maxRecDepth 100000 in
theorem rsa_lifted (os:Os) (started:os.Started) (H:Type) (enc:TypeId × Value→H) :
  ReturnsInHanded {} Tryz.checked os 3 .any (Rows.fnExactOrderSlideSpec.pre6 enc Tryz.prog Tryz.f3 Rows.fnExactOrderSlideRow.domain false) (Rows.fnExactOrderSlideSpec.post enc Tryz.prog Tryz.f3 false true false false):=by
 refine returnsInHanded_of_change (C:=Tryz.checked) Tryz.ownRsa started (by kernel_rfl) Tryz.func3
  (ChangeSpec.witness6 (enc:=enc) (C:=Tryz.checked) false ⟨#[],#[.slice none 0 0],[]⟩ 8 (by kernel_rfl) (by kernel_rfl) (by kernel_rfl) (by kernel_rfl)) ?_
 intro W base args ds gs before hval0 hW hcnd _
 have hval:∀ (j:Nat) t v,Tryz.f3.params[j]?=some t→args[j]?=some v→Value.okWide Tryz.prog W .any base t v:=hval0
 have hW':=hW
 obtain ⟨p,q,hA0,hV,rfl,hfz,hnd⟩:=hW
 have hA:DataW.TrodAll enc Tryz.prog W 0 (fun _=>true) true Tryz.f3.params.toList args.toList ds p:=hA0
 rw [Tryz.params3]at hA hval
 obtain ⟨v0,d0,rfl,rfl,h0⟩:=trodAll_one hA
 obtain ⟨rfl,rfl⟩:=trodVars_none hV
 obtain ⟨l0,i0,b0,c0⟩:=ydr (hval 0 _ v0 rfl rfl) h0
 have hlt:∀ x∈p,x.block<W.heap.size:=fun x hx=>hW'.lt x (by simp [hx])
 refine ((ztp b0 c0).run (fun b=>b<W.heap.size) W #[v0] (fun _ h=>h) rfl ?_).mono ?_
 ·rintro (_ | i) p c hp hc
  ·cases hp; cases hc; exact i0
  simp at hp
 rintro e W' ⟨cv,rfl,⟨hB,_⟩,hr⟩
 have hcv:cv = .bool true:=by cases hr; rfl
 subst hcv
 have t0:=Below.trod Tryz.laidOutRsa (by kernel_rfl) (of_decide_eq_true (by kernel_rfl)) h0 hB fun x hx=>hlt x (by simp [hx])
 refine ⟨_,rfl,_,_,_,[],p,[],hW',?_,?_,?_,hB.frame _,fun h=>by cases h⟩
 ·exact trodAll_mk1 (shut_bool Tryz.underlying4 true)
 ·rw [Tryz.params3]; exact trodAll_mk1 t0
 trivial
theorem rsa_holds:Rows.FnExactOrderSlideSaid :=
 OpenClaim.holds_of_wide 3 Tryz.f3 rfl rfl rfl rfl rfl rfl rfl ⟨rfl,rfl,rfl,rfl,rfl⟩ rfl rfl rfl rfl rfl (by kernel_rfl) Tryz.func3 (by kernel_rfl)
  (of_decide_eq_true (by kernel_rfl)) (by unfold Func.isWrapper; first | (rw [if_pos (by decide +kernel)]; kernel_rfl) | (rw [if_neg (by decide +kernel)]; exact ⟨rfl,rfl⟩))
  (fun os started H enc _=>rsa_lifted os started H enc)
end Go.Proofs.YtddhgiafpmghpaaGreat
