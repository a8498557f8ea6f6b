/- The program's CountFirst answers as the specification's, for all arguments: the statement FnExactCountFirst. No condition. -/
import Derived.Test.YtddhgiafpmghpaaGreatJ4
import Derived.Test.YtddhgiafpmghpaaGreatJ3
set_option linter.all false
namespace Go.Proofs.YtddhgiafpmghpaaGreat
namespace Fw
open Go
open Nat renaming reduceEqDiff → qE, reduceLeDiff → qL, reduceAdd → qA, reduceMul → qM, le_refl → qR
open List renaming append_nil → qN, mapM_append → qP, mapM_cons → qC, mapM_map → qU, range_succ → qS, take_of_length_le → qT
open Bool renaming and_eq_true → qB, false_eq_true → qF
open Option renaming map_some → qO, map_eq_some_iff → qI
open Int renaming reduceToNat → qZ
theorem PN.ints0 {P:Program} {f:FuncId} {args:List PV} {l:List Int} {n:Nat} {im:Bool} (h:PN P f args (.loc 0 0 0 n) [.arr 0 3 1 (l.map (.int .i64))] im) (h1:args.mapM (reify ⟨[],0⟩ true 10)=some args) (hl:l.length=n):PC P f args (eInts l) true:=by
 refine PN.pc h h1 ?_
 subst hl
 simp only[zyk,List.map_cons,List.map_nil,zjz,zrn,Nat.add_zero]
 exact zax (k:=9) rfl (by simp) (zfq _)
theorem z4a {p:List Txt} (hv:zc5 p=true):PC Tryz.prog 98 [(.agg [zhf (lfM p),zhf (abM p)]),.bm 99 (.agg [zhf (lfM p),zhf (abM p)])] (eInts (srt p false)) true∧PC Tryz.prog 98 [(.agg [zhf (lfM p),zhf (abM p)]),.bm 100 (.agg [zhf (lfM p),zhf (abM p)])] (eInts (srt p true)) true:=by
 have hok:=(zhs hv).1
 have hn9:=zgn hok
 have hn1:=zm8 hok
 have hlq:=yb2 hv
 have haq:=ybc hv
 have hp:zbt p=true:=by rw [← zfy]; exact hv
 obtain ⟨f,hf,hi⟩:=zkh hp false
 obtain ⟨g,hg,hj⟩:=zkh hp true
 exact ⟨PN.ints0 (zyd (bf:=bfK p false) hlq hn1 hn9 (fun a b ha hb=>z40 hlq haq ha hb) hf (fun z h1 h2=>z8b hf hi h1 h2)) rfl zid,
  PN.ints0 (zyd (bf:=bfK p true) hlq hn1 hn9 (fun a b ha hb=>zpe hlq haq ha hb) hg (fun z h1 h2=>z8b hg hj h1 h2)) rfl zid⟩
theorem zm2 {l:List Int} (hl:l.length<2147483648) {x:Int} {i:Nat} (hx:l[i]?=some x) (hi:∀ (j:Nat),j<i→l[j]?≠some x):PC Tryz.prog 101 [eInts l,.int .i64 x] (.int .i64 i) true:=by
 refine PC.of ⟨Tryz.func101,by kernel_rfl,rfl,by kernel_rfl⟩ zam mixed (by show 2≤Tryz.f101.ntmps; decide) ?_
 refine W.r fun K hK=>?_
 simp(disch:=omega)only[↓RU,RV,RH,↓reduceIte,qE,reduceCtorEq,if_pos]
 apply hK;clear hK K
 refine W.seq ?_
 refine W.r fun K hK=>?_
 simp(disch:=omega)only[↓RU,RV,RH,↓reduceIte,qE,reduceCtorEq,if_pos,zab,zaa]
 apply hK;clear hK K
 refine W.block ?_
 refine W.loop [0,1,7,8] (fun n vs S=>∃ j:Nat,n=l.length - j∧j≤l.length∧(j≤i)∧vs=[eInts l,.int .i64 x,.int .i64 l.length,.int .i64 j]∧S=⟨[],0⟩) (l.length) ?_ ?_
 ·refine ⟨0,0,rfl,Nat.zero_le _,Nat.zero_le _,?_,rfl⟩
  simp [Env.put,Env.of,zaf]
 rintro n vs S - ⟨j,rfl,h_j,hji,rfl,rfl⟩
 refine W.r fun K hK=>?_
 simp(disch:=omega)only[↓RU,RV,RH,↓reduceIte,qE,reduceCtorEq,if_pos,w64,zaa]
 apply hK;clear hK K
 refine W.seq ?_
 refine W.cond rfl (fun h=>?_) (fun h=>?_)
 ·try simp only[RL]at h
  obtain ⟨y,hy,-⟩:=zae (show j<l.length by omega)
  refine W.skip ?_
  refine xn ?_
  refine W.seq ?_
  refine W.block ?_
  refine W.r fun K hK=>?_
  simp(disch:=omega)only[↓RU,RV,RH,↓reduceIte,qE,reduceCtorEq,if_pos]
  apply hK;clear hK K
  refine W.r fun K hK=>?_
  simp(disch:=omega)only[↓RU,RV,RH,↓reduceIte,qE,reduceCtorEq,if_pos,w64,zab,zaa,hy]
  apply hK;clear hK K
  refine W.cond rfl (fun h1=>?_) (fun h1=>?_)
  ·try simp only[RL]at h1
   have e:x=y:=by simpa using h1
   have hij:j=i:=by
    refine Classical.byContradiction fun k=>hi j (by omega) (by rw [hy,e])
   subst hij
   refine W.r fun K hK=>?_
   simp(disch:=omega)only[↓RU,RV,RH,↓reduceIte,qE,reduceCtorEq,if_pos]
   apply hK;clear hK K
   refine W.ret ?_
   refine XBlock.ret ?_
   refine XThen.ret ?_
   refine XThen.ret ?_
   refine XBlock.ret ?_
   refine XThen.ret ?_
   refine Br rfl ?_
   rfl
  try simp only[RL]at h1
  have hne:j≠i:=by rintro rfl; rw [hx]at hy; cases hy; simp at h1
  refine W.skip ?_
  refine XbN ?_
  refine xn ?_
  refine W.k fun K hK=>?_
  simp(disch:=omega)only[↓RU,RV,RH,↓reduceIte,qE,reduceCtorEq,if_pos,w64,zaa]
  apply hK;clear hK K
  refine xn ?_
  refine ⟨l.length - (j+1),by omega,0,j+1,rfl,by omega,by have:=hne; omega,?_,rfl⟩
  simp [Env.put,Env.of]
 try simp only[RL]at h
 exact absurd (zaz hx) (by omega)
theorem yd4 {p:List Txt} (hv:zc5 p=true):PN Tryz.prog 51 [(.agg [zhf (lfM p),zhf (abM p)])] (.loc 0 0 0 (rP p).length) [.arr 0 3 1 ((zec p).map (.int .i64))] false:=by
 have hok:=(zhs hv).1
 have hn9:=zgn hok
 have hn1:=zm8 hok
 have hlq:=yb2 hv
 have haq:=ybc hv
 have hp:zbt p=true:=by rw [← zfy]; exact hv
 obtain ⟨hs1,hs2⟩:=z4a hv
 have hl1:=zid (p:=p) (below:=false)
 have hl2:=zid (p:=p) (below:=true)
 have hpl:=zfx (p:=p)
 refine PN.of ⟨Tryz.func51,by kernel_rfl,rfl,by kernel_rfl⟩ zam mixed (by show 1≤Tryz.f51.ntmps; decide) ?_
 refine W.r fun K hK=>?_
 simp(disch:=omega)only[↓RU,RV,RH,↓reduceIte,qE,reduceCtorEq,if_pos,↓RS,RG,qA,qM,qL,ty0,ty3,zaj,zhh,zfe,zhi]
 apply hK;clear hK K
 refine W.r fun K hK=>?_
 simp(disch:=omega)only[↓RU,RV,RH,↓reduceIte,qE,reduceCtorEq,if_pos,qN,↓RS,RG,qA,qM,qL,ty0,ty3,zaj,zhh,zfe,zhi,zuw,List.isEmpty_nil,Bool.and_self]
 refine zad.pc (hs1) rfl (.inl rfl) ?_
 simp(disch:=omega)only[↓RU,RV,RH,↓reduceIte,qE,reduceCtorEq,if_pos,qN,↓RS,RG,qA,qM,qL,ty0,ty3,zaj,zhh,zfe,zhi,zuw,List.isEmpty_nil,Bool.and_self]
 apply hK;clear hK K
 refine W.r fun K hK=>?_
 simp(disch:=omega)only[↓RU,RV,RH,↓reduceIte,qE,reduceCtorEq,if_pos,qN,↓RS,RG,qA,qM,qL,ty0,ty3,zaj,zhh,zfe,zhi,zuw,List.isEmpty_nil,Bool.and_self]
 refine zad.pc (hs2) rfl (.inl rfl) ?_
 simp(disch:=omega)only[↓RU,RV,RH,↓reduceIte,qE,reduceCtorEq,if_pos,qN,↓RS,RG,qA,qM,qL,ty0,ty3,zaj,zhh,zfe,zhi,zuw,List.isEmpty_nil,Bool.and_self]
 apply hK;clear hK K
 refine W.joinS [3,4,5] (fun vs S=>∃ t tk:Nat,vs=[eInts (srt p false),eInts (srt p true),.loc 0 t 0 (rP p).length]∧S=⟨[.arr t 3 1 ((List.replicate (rP p).length 0).map (.int .i64))],tk⟩) ?_ ?_
 ·
  refine W.k fun K hK=>?_
  simp(disch:=omega)only[↓RU,RV,RH,↓reduceIte,qE,reduceCtorEq,if_pos,↓RS,RG,qA,qM,qL,zab,zaa,hl2,zdl,zcx]
  apply hK;clear hK K
  refine xn ?_
  refine ⟨0,[1],[eInts (srt p false),eInts (srt p true),.loc 0 2 0 (rP p).length],⟨[.arr 2 3 1 ((List.replicate (rP p).length 0).map (.int .i64))],3⟩,?_,?_,2,3,rfl,rfl⟩
  ·simp [-qU,Env.put,Env.of,zaf,zb0,zak,zao,zat,zav,zb8,zb9,zd3,zb7,zbe,zca,zd2,zd4,zbg,zbf,zaw,zb6,zcb,zd1,zbc,zbb,zau,zbd,zb4,zf1,qS,qP,qC,Store.cellsOf]
  simp [-qU,Env.put,Env.of,zaf,zb0,zak,zao,zat,zav,zb8,zb9,zd3,zb7,zbe,zca,zd2,zd4,zbg,zbf,zaw,zb6,zcb,zd1,zbc,zbb,zau,zbd,zb4,zf1,qS,qP,qC,z7r]
 rintro vs S - ⟨t0,tk0,rfl,rfl⟩
 refine W.seq ?_
 refine W.r fun K hK=>?_
 simp(disch:=omega)only[↓RU,RV,RH,↓reduceIte,qE,reduceCtorEq,if_pos,↓RS,RG,qA,qM,qL,zab,zaa]
 apply hK;clear hK K
 refine W.block ?_
 refine W.loop [3,5,19,20,21] (fun n vs S=>∃ i t tk:Nat,n=(rP p).length - i∧i≤(rP p).length∧vs=[eInts (srt p false),.loc 0 t 0 (rP p).length,eInts (srt p true),.int .i64 (rP p).length,.int .i64 i]∧S=⟨[.arr t 3 1 (((zec p).take i++List.replicate ((rP p).length - i) 0).map (.int .i64))],tk⟩) (rP p).length ?_ ?_
 ·refine ⟨1,0,t0,tk0,rfl,by omega,?_,by simp [Store.take]⟩
  simp [Env.put,Env.of,zaf,hl2]
 rintro n vs S - ⟨i,t,tk,rfl,h_i,rfl,rfl⟩
 refine W.r fun K hK=>?_
 simp(disch:=omega)only[↓RU,RV,RH,↓reduceIte,qE,reduceCtorEq,if_pos,w64,↓RS,RG,qA,qM,qL,zaa]
 apply hK;clear hK K
 refine W.seq ?_
 refine W.cond rfl (fun h=>?_) (fun h=>?_)
 ·try simp only[RL]at h
  obtain ⟨a,ha,ha2,hsa⟩:=zvb (below:=true) hp (show i<(rP p).length by omega)
  have hpa:=z1o hp hsa
  have hix:=ycf (below:=false) hp ha
  have hin:∀ j,j<ahK p false a→(srt p false)[j]?≠some (a:Int):=fun j hj k=>by
   have k1:=zaz hix
   have k2:=zaz k
   rw [List.getElem?_eq_getElem k1]at hix
   rw [List.getElem?_eq_getElem k2]at k
   have:=zqh (zye hp) k1 k2 ((Option.some.inj hix).trans (Option.some.inj k).symm)
   omega
  have hol:((zec p).take i++List.replicate ((rP p).length - i) 0).length=(rP p).length:=by simp [hpl]; omega
  refine W.skip ?_
  refine xn ?_
  refine W.seq ?_
  refine W.block ?_
  refine W.r fun K hK=>?_
  simp(disch:=omega)only[↓RU,RV,RH,↓reduceIte,qE,reduceCtorEq,if_pos,↓RS,RG,qA,qM,qL,zab,zaa,hsa]
  apply hK;clear hK K
  refine W.k fun K hK=>?_
  simp(disch:=omega)only[↓RU,RV,RH,↓reduceIte,qE,reduceCtorEq,if_pos,qN,↓RS,RG,qA,qM,qL,zab,zaa,za3,zcy,hol]
  refine zad.pc (zm2 (by omega) hix hin) rfl (.inl rfl) ?_
  simp(disch:=omega)only[↓RU,RV,RH,↓reduceIte,qE,reduceCtorEq,if_pos,qN,↓RS,RG,qA,qM,qL,zab,zaa,za3,zcy,hol]
  apply hK;clear hK K
  refine XbN ?_
  refine xn ?_
  refine W.k fun K hK=>?_
  simp(disch:=omega)only[↓RU,RV,RH,↓reduceIte,qE,reduceCtorEq,if_pos,w64,↓RS,RG,qA,qM,qL,zaa]
  apply hK;clear hK K
  refine xn ?_
  refine ⟨(rP p).length - (i+1),by omega,1,i+1,t,tk,rfl,by omega,?_,?_⟩
  ·simp [Env.put,Env.of]
  rw [← hpl]; simp only[zap,zlh hpa]; rfl
 try simp only[RL]at h
 obtain rfl:i=(rP p).length:=by omega
 rw [qT (by omega),Nat.sub_self]
 simp only[List.replicate_zero,qN]
 refine W.exit ?_
 refine xe ?_
 refine xe ?_
 refine XBlock.hit ?_
 refine xn ?_
 refine W.r fun K hK=>?_
 simp(disch:=omega)only[↓RU,RV,RH,↓reduceIte,qE,reduceCtorEq,if_pos,↓RS,RG,qA,qM,qL]
 apply hK;clear hK K
 refine W.ret ?_
 refine Br rfl ?_
 exact zrf rfl (zre _)
theorem yfe (p q r:Bool):p=false∨(p=true∧q=false)∨(p=true∧q=true∧r=false)∨(p=true∧q=true∧r=true):=by cases p <;> cases q <;> cases r <;> simp
theorem ygq (a b c d:Int):PC Tryz.prog 133 [(.agg [.int .i64 a,.int .i64 b,.int .i64 c,.int .i64 d])] (.bool (zyj a b c d)) true:=by
 refine PC.of ⟨Tryz.func133,by kernel_rfl,rfl,by kernel_rfl⟩ zam mixed (by show 1≤Tryz.f133.ntmps; decide) ?_
 refine W.r fun K hK=>?_
 simp(disch:=omega)only[↓RU,RV,RH,↓reduceIte,qE,reduceCtorEq,if_pos,↓RS,RG,qA,qM,qL,zck,zaa]
 apply hK;clear hK K
 refine W.seq_draw (by kernel_rfl) fun K hK=>?_
 simp(disch:=omega)only[↓RU,RV,RH,↓reduceIte,qE,reduceCtorEq,if_pos,zui,zm4,↓RS,RG,qA,qM,qL,zck,zaa,Int.toNat_zero,Nat.zero_mul,qZ,qM,Nat.zero_add,Nat.mul_one,List.getElem?_cons_zero,List.getElem?_cons_succ]
 apply hK;clear hK K
 refine W.r fun K hK=>?_
 rcases yfe (decide (b>max a d)) (decide (c<min a d)) (decide (a<d)) with g1 | ⟨g1,g2⟩ | ⟨g1,g2,g3⟩ | ⟨g1,g2,g3⟩
 ·skip
  simp(disch:=omega)only[↓RU,RV,RH,↓reduceIte,qE,reduceCtorEq,if_pos,w64,↓RS,RG,qA,qM,qL,zck,zaa,Int.toNat_zero,Nat.zero_mul,qZ,qM,Nat.zero_add,Nat.mul_one,List.getElem?_cons_zero,List.getElem?_cons_succ,g1]
  apply hK;clear hK K
  refine W.r fun K hK=>?_
  rcases yfe (decide (b<min a d)) (decide (c>max a d)) (decide (a>d)) with f1 | ⟨f1,f2⟩ | ⟨f1,f2,f3⟩ | ⟨f1,f2,f3⟩
  ·skip
   simp(disch:=omega)only[↓RU,RV,RH,↓reduceIte,qE,reduceCtorEq,if_pos,w64,↓RS,RG,qA,qM,qL,zck,zaa,Int.toNat_zero,Nat.zero_mul,qZ,qM,Nat.zero_add,Nat.mul_one,List.getElem?_cons_zero,List.getElem?_cons_succ,f1]
   apply hK;clear hK K
   refine W.r fun K hK=>?_
   simp(disch:=omega)only[↓RU,RV,RH,↓reduceIte,qE,reduceCtorEq,if_pos,↓RS,RG,qA,qM,qL,Int.toNat_zero,Nat.zero_mul,qZ,qM,Nat.zero_add,Nat.mul_one,List.getElem?_cons_zero,List.getElem?_cons_succ]
   apply hK;clear hK K
   refine W.ret ?_
   refine Br rfl ?_
   simp only[zyj, *,Bool.and_true,Bool.and_false,Bool.false_and,Bool.true_and,Bool.or_false,Bool.false_or,Bool.true_or]
   rfl
  ·skip
   simp(disch:=omega)only[↓RU,RV,RH,↓reduceIte,qE,reduceCtorEq,if_pos,w64,↓RS,RG,qA,qM,qL,zck,zaa,Int.toNat_zero,Nat.zero_mul,qZ,qM,Nat.zero_add,Nat.mul_one,List.getElem?_cons_zero,List.getElem?_cons_succ,f1,f2]
   apply hK;clear hK K
   refine W.r fun K hK=>?_
   simp(disch:=omega)only[↓RU,RV,RH,↓reduceIte,qE,reduceCtorEq,if_pos,↓RS,RG,qA,qM,qL,Int.toNat_zero,Nat.zero_mul,qZ,qM,Nat.zero_add,Nat.mul_one,List.getElem?_cons_zero,List.getElem?_cons_succ]
   apply hK;clear hK K
   refine W.ret ?_
   refine Br rfl ?_
   simp only[zyj, *,Bool.and_true,Bool.and_false,Bool.false_and,Bool.true_and,Bool.or_false,Bool.false_or,Bool.true_or]
   rfl
  ·skip
   simp(disch:=omega)only[↓RU,RV,RH,↓reduceIte,qE,reduceCtorEq,if_pos,w64,↓RS,RG,qA,qM,qL,zck,zaa,Int.toNat_zero,Nat.zero_mul,qZ,qM,Nat.zero_add,Nat.mul_one,List.getElem?_cons_zero,List.getElem?_cons_succ,f1,f2,f3]
   apply hK;clear hK K
   refine W.r fun K hK=>?_
   simp(disch:=omega)only[↓RU,RV,RH,↓reduceIte,qE,reduceCtorEq,if_pos,↓RS,RG,qA,qM,qL,Int.toNat_zero,Nat.zero_mul,qZ,qM,Nat.zero_add,Nat.mul_one,List.getElem?_cons_zero,List.getElem?_cons_succ]
   apply hK;clear hK K
   refine W.ret ?_
   refine Br rfl ?_
   simp only[zyj, *,Bool.and_true,Bool.and_false,Bool.false_and,Bool.true_and,Bool.or_false,Bool.false_or,Bool.true_or]
   rfl
  skip
  simp(disch:=omega)only[↓RU,RV,RH,↓reduceIte,qE,reduceCtorEq,if_pos,w64,↓RS,RG,qA,qM,qL,zck,zaa,Int.toNat_zero,Nat.zero_mul,qZ,qM,Nat.zero_add,Nat.mul_one,List.getElem?_cons_zero,List.getElem?_cons_succ,f1,f2,f3]
  apply hK;clear hK K
  refine W.r fun K hK=>?_
  simp(disch:=omega)only[↓RU,RV,RH,↓reduceIte,qE,reduceCtorEq,if_pos,↓RS,RG,qA,qM,qL,Int.toNat_zero,Nat.zero_mul,qZ,qM,Nat.zero_add,Nat.mul_one,List.getElem?_cons_zero,List.getElem?_cons_succ]
  apply hK;clear hK K
  refine W.ret ?_
  refine Br rfl ?_
  simp only[zyj, *,Bool.and_true,Bool.and_false,Bool.false_and,Bool.true_and,Bool.or_false,Bool.false_or,Bool.true_or]
  rfl
 ·skip
  simp(disch:=omega)only[↓RU,RV,RH,↓reduceIte,qE,reduceCtorEq,if_pos,w64,↓RS,RG,qA,qM,qL,zck,zaa,Int.toNat_zero,Nat.zero_mul,qZ,qM,Nat.zero_add,Nat.mul_one,List.getElem?_cons_zero,List.getElem?_cons_succ,g1,g2]
  apply hK;clear hK K
  refine W.r fun K hK=>?_
  rcases yfe (decide (b<min a d)) (decide (c>max a d)) (decide (a>d)) with f1 | ⟨f1,f2⟩ | ⟨f1,f2,f3⟩ | ⟨f1,f2,f3⟩
  ·skip
   simp(disch:=omega)only[↓RU,RV,RH,↓reduceIte,qE,reduceCtorEq,if_pos,w64,↓RS,RG,qA,qM,qL,zck,zaa,Int.toNat_zero,Nat.zero_mul,qZ,qM,Nat.zero_add,Nat.mul_one,List.getElem?_cons_zero,List.getElem?_cons_succ,f1]
   apply hK;clear hK K
   refine W.r fun K hK=>?_
   simp(disch:=omega)only[↓RU,RV,RH,↓reduceIte,qE,reduceCtorEq,if_pos,↓RS,RG,qA,qM,qL,Int.toNat_zero,Nat.zero_mul,qZ,qM,Nat.zero_add,Nat.mul_one,List.getElem?_cons_zero,List.getElem?_cons_succ]
   apply hK;clear hK K
   refine W.ret ?_
   refine Br rfl ?_
   simp only[zyj, *,Bool.and_true,Bool.and_false,Bool.false_and,Bool.true_and,Bool.or_false,Bool.false_or,Bool.true_or]
   rfl
  ·skip
   simp(disch:=omega)only[↓RU,RV,RH,↓reduceIte,qE,reduceCtorEq,if_pos,w64,↓RS,RG,qA,qM,qL,zck,zaa,Int.toNat_zero,Nat.zero_mul,qZ,qM,Nat.zero_add,Nat.mul_one,List.getElem?_cons_zero,List.getElem?_cons_succ,f1,f2]
   apply hK;clear hK K
   refine W.r fun K hK=>?_
   simp(disch:=omega)only[↓RU,RV,RH,↓reduceIte,qE,reduceCtorEq,if_pos,↓RS,RG,qA,qM,qL,Int.toNat_zero,Nat.zero_mul,qZ,qM,Nat.zero_add,Nat.mul_one,List.getElem?_cons_zero,List.getElem?_cons_succ]
   apply hK;clear hK K
   refine W.ret ?_
   refine Br rfl ?_
   simp only[zyj, *,Bool.and_true,Bool.and_false,Bool.false_and,Bool.true_and,Bool.or_false,Bool.false_or,Bool.true_or]
   rfl
  ·skip
   simp(disch:=omega)only[↓RU,RV,RH,↓reduceIte,qE,reduceCtorEq,if_pos,w64,↓RS,RG,qA,qM,qL,zck,zaa,Int.toNat_zero,Nat.zero_mul,qZ,qM,Nat.zero_add,Nat.mul_one,List.getElem?_cons_zero,List.getElem?_cons_succ,f1,f2,f3]
   apply hK;clear hK K
   refine W.r fun K hK=>?_
   simp(disch:=omega)only[↓RU,RV,RH,↓reduceIte,qE,reduceCtorEq,if_pos,↓RS,RG,qA,qM,qL,Int.toNat_zero,Nat.zero_mul,qZ,qM,Nat.zero_add,Nat.mul_one,List.getElem?_cons_zero,List.getElem?_cons_succ]
   apply hK;clear hK K
   refine W.ret ?_
   refine Br rfl ?_
   simp only[zyj, *,Bool.and_true,Bool.and_false,Bool.false_and,Bool.true_and,Bool.or_false,Bool.false_or,Bool.true_or]
   rfl
  skip
  simp(disch:=omega)only[↓RU,RV,RH,↓reduceIte,qE,reduceCtorEq,if_pos,w64,↓RS,RG,qA,qM,qL,zck,zaa,Int.toNat_zero,Nat.zero_mul,qZ,qM,Nat.zero_add,Nat.mul_one,List.getElem?_cons_zero,List.getElem?_cons_succ,f1,f2,f3]
  apply hK;clear hK K
  refine W.r fun K hK=>?_
  simp(disch:=omega)only[↓RU,RV,RH,↓reduceIte,qE,reduceCtorEq,if_pos,↓RS,RG,qA,qM,qL,Int.toNat_zero,Nat.zero_mul,qZ,qM,Nat.zero_add,Nat.mul_one,List.getElem?_cons_zero,List.getElem?_cons_succ]
  apply hK;clear hK K
  refine W.ret ?_
  refine Br rfl ?_
  simp only[zyj, *,Bool.and_true,Bool.and_false,Bool.false_and,Bool.true_and,Bool.or_false,Bool.false_or,Bool.true_or]
  rfl
 ·skip
  simp(disch:=omega)only[↓RU,RV,RH,↓reduceIte,qE,reduceCtorEq,if_pos,w64,↓RS,RG,qA,qM,qL,zck,zaa,Int.toNat_zero,Nat.zero_mul,qZ,qM,Nat.zero_add,Nat.mul_one,List.getElem?_cons_zero,List.getElem?_cons_succ,g1,g2,g3]
  apply hK;clear hK K
  refine W.r fun K hK=>?_
  rcases yfe (decide (b<min a d)) (decide (c>max a d)) (decide (a>d)) with f1 | ⟨f1,f2⟩ | ⟨f1,f2,f3⟩ | ⟨f1,f2,f3⟩
  ·skip
   simp(disch:=omega)only[↓RU,RV,RH,↓reduceIte,qE,reduceCtorEq,if_pos,w64,↓RS,RG,qA,qM,qL,zck,zaa,Int.toNat_zero,Nat.zero_mul,qZ,qM,Nat.zero_add,Nat.mul_one,List.getElem?_cons_zero,List.getElem?_cons_succ,f1]
   apply hK;clear hK K
   refine W.r fun K hK=>?_
   simp(disch:=omega)only[↓RU,RV,RH,↓reduceIte,qE,reduceCtorEq,if_pos,↓RS,RG,qA,qM,qL,Int.toNat_zero,Nat.zero_mul,qZ,qM,Nat.zero_add,Nat.mul_one,List.getElem?_cons_zero,List.getElem?_cons_succ]
   apply hK;clear hK K
   refine W.ret ?_
   refine Br rfl ?_
   simp only[zyj, *,Bool.and_true,Bool.and_false,Bool.false_and,Bool.true_and,Bool.or_false,Bool.false_or,Bool.true_or]
   rfl
  ·skip
   simp(disch:=omega)only[↓RU,RV,RH,↓reduceIte,qE,reduceCtorEq,if_pos,w64,↓RS,RG,qA,qM,qL,zck,zaa,Int.toNat_zero,Nat.zero_mul,qZ,qM,Nat.zero_add,Nat.mul_one,List.getElem?_cons_zero,List.getElem?_cons_succ,f1,f2]
   apply hK;clear hK K
   refine W.r fun K hK=>?_
   simp(disch:=omega)only[↓RU,RV,RH,↓reduceIte,qE,reduceCtorEq,if_pos,↓RS,RG,qA,qM,qL,Int.toNat_zero,Nat.zero_mul,qZ,qM,Nat.zero_add,Nat.mul_one,List.getElem?_cons_zero,List.getElem?_cons_succ]
   apply hK;clear hK K
   refine W.ret ?_
   refine Br rfl ?_
   simp only[zyj, *,Bool.and_true,Bool.and_false,Bool.false_and,Bool.true_and,Bool.or_false,Bool.false_or,Bool.true_or]
   rfl
  ·skip
   simp(disch:=omega)only[↓RU,RV,RH,↓reduceIte,qE,reduceCtorEq,if_pos,w64,↓RS,RG,qA,qM,qL,zck,zaa,Int.toNat_zero,Nat.zero_mul,qZ,qM,Nat.zero_add,Nat.mul_one,List.getElem?_cons_zero,List.getElem?_cons_succ,f1,f2,f3]
   apply hK;clear hK K
   refine W.r fun K hK=>?_
   simp(disch:=omega)only[↓RU,RV,RH,↓reduceIte,qE,reduceCtorEq,if_pos,↓RS,RG,qA,qM,qL,Int.toNat_zero,Nat.zero_mul,qZ,qM,Nat.zero_add,Nat.mul_one,List.getElem?_cons_zero,List.getElem?_cons_succ]
   apply hK;clear hK K
   refine W.ret ?_
   refine Br rfl ?_
   simp only[zyj, *,Bool.and_true,Bool.and_false,Bool.false_and,Bool.true_and,Bool.or_false,Bool.false_or,Bool.true_or]
   rfl
  skip
  simp(disch:=omega)only[↓RU,RV,RH,↓reduceIte,qE,reduceCtorEq,if_pos,w64,↓RS,RG,qA,qM,qL,zck,zaa,Int.toNat_zero,Nat.zero_mul,qZ,qM,Nat.zero_add,Nat.mul_one,List.getElem?_cons_zero,List.getElem?_cons_succ,f1,f2,f3]
  apply hK;clear hK K
  refine W.r fun K hK=>?_
  simp(disch:=omega)only[↓RU,RV,RH,↓reduceIte,qE,reduceCtorEq,if_pos,↓RS,RG,qA,qM,qL,Int.toNat_zero,Nat.zero_mul,qZ,qM,Nat.zero_add,Nat.mul_one,List.getElem?_cons_zero,List.getElem?_cons_succ]
  apply hK;clear hK K
  refine W.ret ?_
  refine Br rfl ?_
  simp only[zyj, *,Bool.and_true,Bool.and_false,Bool.false_and,Bool.true_and,Bool.or_false,Bool.false_or,Bool.true_or]
  rfl
 skip
 simp(disch:=omega)only[↓RU,RV,RH,↓reduceIte,qE,reduceCtorEq,if_pos,w64,↓RS,RG,qA,qM,qL,zck,zaa,Int.toNat_zero,Nat.zero_mul,qZ,qM,Nat.zero_add,Nat.mul_one,List.getElem?_cons_zero,List.getElem?_cons_succ,g1,g2,g3]
 apply hK;clear hK K
 refine W.r fun K hK=>?_
 rcases yfe (decide (b<min a d)) (decide (c>max a d)) (decide (a>d)) with f1 | ⟨f1,f2⟩ | ⟨f1,f2,f3⟩ | ⟨f1,f2,f3⟩
 ·skip
  simp(disch:=omega)only[↓RU,RV,RH,↓reduceIte,qE,reduceCtorEq,if_pos,w64,↓RS,RG,qA,qM,qL,zck,zaa,Int.toNat_zero,Nat.zero_mul,qZ,qM,Nat.zero_add,Nat.mul_one,List.getElem?_cons_zero,List.getElem?_cons_succ,f1]
  apply hK;clear hK K
  refine W.r fun K hK=>?_
  simp(disch:=omega)only[↓RU,RV,RH,↓reduceIte,qE,reduceCtorEq,if_pos,↓RS,RG,qA,qM,qL,Int.toNat_zero,Nat.zero_mul,qZ,qM,Nat.zero_add,Nat.mul_one,List.getElem?_cons_zero,List.getElem?_cons_succ]
  apply hK;clear hK K
  refine W.ret ?_
  refine Br rfl ?_
  simp only[zyj, *,Bool.and_true,Bool.and_false,Bool.false_and,Bool.true_and,Bool.or_false,Bool.false_or,Bool.true_or]
  rfl
 ·skip
  simp(disch:=omega)only[↓RU,RV,RH,↓reduceIte,qE,reduceCtorEq,if_pos,w64,↓RS,RG,qA,qM,qL,zck,zaa,Int.toNat_zero,Nat.zero_mul,qZ,qM,Nat.zero_add,Nat.mul_one,List.getElem?_cons_zero,List.getElem?_cons_succ,f1,f2]
  apply hK;clear hK K
  refine W.r fun K hK=>?_
  simp(disch:=omega)only[↓RU,RV,RH,↓reduceIte,qE,reduceCtorEq,if_pos,↓RS,RG,qA,qM,qL,Int.toNat_zero,Nat.zero_mul,qZ,qM,Nat.zero_add,Nat.mul_one,List.getElem?_cons_zero,List.getElem?_cons_succ]
  apply hK;clear hK K
  refine W.ret ?_
  refine Br rfl ?_
  simp only[zyj, *,Bool.and_true,Bool.and_false,Bool.false_and,Bool.true_and,Bool.or_false,Bool.false_or,Bool.true_or]
  rfl
 ·skip
  simp(disch:=omega)only[↓RU,RV,RH,↓reduceIte,qE,reduceCtorEq,if_pos,w64,↓RS,RG,qA,qM,qL,zck,zaa,Int.toNat_zero,Nat.zero_mul,qZ,qM,Nat.zero_add,Nat.mul_one,List.getElem?_cons_zero,List.getElem?_cons_succ,f1,f2,f3]
  apply hK;clear hK K
  refine W.r fun K hK=>?_
  simp(disch:=omega)only[↓RU,RV,RH,↓reduceIte,qE,reduceCtorEq,if_pos,↓RS,RG,qA,qM,qL,Int.toNat_zero,Nat.zero_mul,qZ,qM,Nat.zero_add,Nat.mul_one,List.getElem?_cons_zero,List.getElem?_cons_succ]
  apply hK;clear hK K
  refine W.ret ?_
  refine Br rfl ?_
  simp only[zyj, *,Bool.and_true,Bool.and_false,Bool.false_and,Bool.true_and,Bool.or_false,Bool.false_or,Bool.true_or]
  rfl
 skip
 simp(disch:=omega)only[↓RU,RV,RH,↓reduceIte,qE,reduceCtorEq,if_pos,w64,↓RS,RG,qA,qM,qL,zck,zaa,Int.toNat_zero,Nat.zero_mul,qZ,qM,Nat.zero_add,Nat.mul_one,List.getElem?_cons_zero,List.getElem?_cons_succ,f1,f2,f3]
 apply hK;clear hK K
 refine W.r fun K hK=>?_
 simp(disch:=omega)only[↓RU,RV,RH,↓reduceIte,qE,reduceCtorEq,if_pos,↓RS,RG,qA,qM,qL,Int.toNat_zero,Nat.zero_mul,qZ,qM,Nat.zero_add,Nat.mul_one,List.getElem?_cons_zero,List.getElem?_cons_succ]
 apply hK;clear hK K
 refine W.ret ?_
 refine Br rfl ?_
 simp only[zyj, *,Bool.and_true,Bool.and_false,Bool.false_and,Bool.true_and,Bool.or_false,Bool.false_or,Bool.true_or]
 rfl
theorem zyy {q:List Int} (hl:q.length<2147483648) {x:Int} {i:Nat} (hx:q[i]?=some x) (hi:∀ (j:Nat),j<i→q[j]?≠some x):PC Tryz.prog 77 [eInts q,.int .i64 x] (.bool true) true:=by
 have hd:decide ((i:Int) ≥ 0)=true:=decide_eq_true (by omega)
 refine PC.of ⟨Tryz.func77,by kernel_rfl,rfl,by kernel_rfl⟩ zam mixed (by show 2≤Tryz.f77.ntmps; decide) ?_
 refine W.r fun K hK=>?_
 simp(disch:=omega)only[↓RU,RV,RH,↓reduceIte,qE,reduceCtorEq,if_pos]
 apply hK;clear hK K
 refine W.r fun K hK=>?_
 simp(disch:=omega)only[↓RU,RV,RH,↓reduceIte,qE,reduceCtorEq,if_pos,qN,w64,zaa,hd]
 refine zad.pc (zm2 hl hx hi) rfl (.inl rfl) ?_
 simp(disch:=omega)only[↓RU,RV,RH,↓reduceIte,qE,reduceCtorEq,if_pos,qN,w64,zaa,hd]
 apply hK;clear hK K
 refine W.ret ?_
 refine Br rfl ?_
 rfl
section
def zem (k u H W:Nat):PV := .fn 105 [.ref (k+2+H) (u+2) 0,.ref k u 0,.ip [.int .i64 W] 0,.ip [.int .i64 H] 0,.ref (k+3+H) (u+3) 0]
def zhg (k u lb H W:Nat) (g:List (List Int)):List Ob :=
 .arr u 110 1 [.yl lb] :: .arr (u+1) 34 1 (lcW (k+2) (u+1) H W)::(rwO (u+1) g++[.arr (u+2) 75 1 [.loc (k+1) (u+1) 0 H],.arr (u+3) 113 1 [zem k u H W]])
section
variable {A tl:List Ob} {k u lb H W:Nat} {g:List (List Int)}
theorem z23 (hA:A.length=k) {j:Nat} {n:Nat} (hn:n=k+j):(A++(zhg k u lb H W g++tl))[n]?=(zhg k u lb H W g++tl)[j]?:=by
 subst hn; rw [List.getElem?_append_right (by omega)]; congr 1; omega
theorem zbs (hg:g.length=H):(zhg k u lb H W g).length=H+4:=by simp [zhg,zjb,hg]
theorem gO_y (hA:A.length=k):(A++(zhg k u lb H W g++tl))[k]?=some (.arr u 110 1 [.yl lb]):=z23 hA (j:=0) rfl
theorem zjn (hA:A.length=k):(A++(zhg k u lb H W g++tl))[k+1]?=some (.arr (u+1) 34 1 (lcW (k+2) (u+1) H W)):=z23 hA (j:=1) rfl
theorem ye2 (hA:A.length=k) (hg:g.length=H) {r:Nat} {row:List Int} (hr:g[r]?=some row):(A++(zhg k u lb H W g++tl))[k+2+r]?=some (.arr (u+1) 3 1 (row.map (.int .i64))):=by
 have hl:=zaz hr
 rw [z23 hA (j:=r+2) (by omega)]
 unfold zhg
 rw [List.cons_append,List.cons_append,List.getElem?_cons_succ,List.getElem?_cons_succ,List.append_assoc,List.getElem?_append_left (by rw [zjb]; exact hl)]
 unfold rwO
 rw [List.getElem?_map,hr]; rfl
theorem zj2 (hA:A.length=k) (hg:g.length=H):(A++(zhg k u lb H W g++tl))[k+2+H]?=some (.arr (u+2) 75 1 [.loc (k+1) (u+1) 0 H]):=by
 rw [z23 hA (j:=H+2) (by omega)]
 unfold zhg
 rw [List.cons_append,List.cons_append,List.getElem?_cons_succ,List.getElem?_cons_succ,List.append_assoc,List.getElem?_append_right (by rw [zjb]; omega),zjb,hg,Nat.sub_self]; rfl
theorem zkq (hA:A.length=k) (hg:g.length=H):(A++(zhg k u lb H W g++tl))[k+3+H]?=some (.arr (u+3) 113 1 [zem k u H W]):=by
 rw [z23 hA (j:=H+3) (by omega)]
 unfold zhg
 rw [List.cons_append,List.cons_append,List.getElem?_cons_succ,List.getElem?_cons_succ,List.append_assoc,List.getElem?_append_right (by rw [zjb]; omega),zjb,hg,Nat.add_sub_cancel_left]; rfl
theorem zh8 (hA:A.length=k) (hg:g.length=H) {j:Nat}:(A++(zhg k u lb H W g++tl))[k+(H+4+j)]?=tl[j]?:=by
 rw [z23 hA (j:=H+4+j) (by omega),List.getElem?_append_right (by rw [zbs hg]; omega),zbs hg,Nat.add_sub_cancel_left]
theorem zdv (hA:A.length=k) (hg:g.length=H) {j:Nat} {ob:Ob}:(A++(zhg k u lb H W g++tl)).set (k+(H+4+j)) ob=A++(zhg k u lb H W g++tl.set j ob):=by
 rw [List.set_append_right _ _ (by omega),hA,List.set_append_right _ _ (by rw [zbs hg]; omega),zbs hg]
 congr 3; omega
theorem yg6 (hA:A.length=k) (hg:g.length=H) {r:Nat} (hr:r<H) {row:List Int}:(A++(zhg k u lb H W g++tl)).set (k+2+r) (.arr (u+1) 3 1 (row.map (.int .i64)))=A++(zhg k u lb H W (g.set r row)++tl):=by
 rw [List.set_append_right _ _ (by omega),hA,show k+2+r - k=r+1+1 by omega]
 unfold zhg
 rw [List.cons_append,List.cons_append,List.set_cons_succ,List.set_cons_succ,List.append_assoc,List.set_append_left _ _ (by rw [zjb]; omega)]
 unfold rwO
 rw [← List.map_set]
 simp
theorem zdx {x:Ob}:(tl++[x])[tl.length]?=some x:=List.getElem?_concat_length
theorem zdy {x y:Ob}:(tl++[x]).set tl.length y=tl++[y]:=by simp
end
theorem zhk {p:List Txt} {H W:Nat} (h:Shp2 p H W):(gI p).length=H:=by simp [gI,h.h]
theorem z0x {p:List Txt} {r:Nat} {row:Txt} (h:p[r]?=some row):(gI p)[r]?=some (row.map cI):=by simp [gI,h]
theorem yfx {p:List Txt} {r:Nat} {row:Txt}:(gI p).set r (row.map cI)=gI (p.set r row):=by simp [gI]
theorem yfo {row:Txt} {j:Nat} {c:UInt8}:(row.map cI).set j (cI c)=(row.set j c).map cI:=by simp
theorem z87 (c:UInt8) : -1000≤cI c∧cI c≤1000:=by
 have:=c.toNat_lt
 unfold cI
 split <;> omega
theorem Shp2.set {p:List Txt} {H W i:Nat} {r:Txt} (h:Shp2 p H W) (hr:r.length=W):Shp2 (p.set i r) H W:=by
 refine ⟨by rw [List.length_set]; exact h.h,fun x hx=>?_⟩
 rcases List.mem_or_eq_of_mem_set hx with hx | rfl
 ·exact h.w x hx
 exact hr
theorem yhm {α:Type} {l:List α} {i:Nat} {x:α} (h:i<l.length):l.take i++x::l.drop (i+1)=l.set i x:=(List.set_eq_take_append_cons_drop).symm ▸ by rw [if_pos h]
theorem ztt {A B tl:List Ob} {x:Ob} {t:Nat}:Store.take ⟨A++(B++(tl++[x])),t⟩ (A.length+(B.length+tl.length))=⟨A++(B++tl),t⟩:=by
 show (⟨List.take _ _,t⟩:Store)=_
 rw [← List.append_assoc,← List.append_assoc,List.take_left' (by simp [Nat.add_assoc]),List.append_assoc]
theorem yao {α:Type} {l:List α} {i:Nat} {x:α} (h:l[i]?=some x):l.set i x=l:=by
 apply List.ext_getElem?
 intro j
 rw [List.getElem?_set]
 split
 ·rename_i e; subst e; rw [if_pos (zaz h),h]
 rfl
theorem zk3 {A tl:List Ob} {k u lb t nh nw:Nat} (hA:A.length=k) {p:List Txt} (hp:Shp2 p nh nw) {i kk d w:Nat} {c:UInt8} (hi:i+d≤nh) (hk:kk+w≤nw) (hH:nh≤6) (hW:nw≤6):Ev Tryz.prog 109 [.agg [.int .i64 i,.int .i64 kk,.int .i64 d,.int .i64 w],.int .i64 (cI c),.ref (k+2+nh) (u+2) 0] ⟨A++(zhg k u lb nh nw (gI p)++tl),t⟩ fun v S=>v = .tup []∧∃ t2,t≤t2∧S=⟨A++(zhg k u lb nh nw (gI (zef p i kk w c (i+d)))++tl),t2⟩:=by
 have hgl:=zhk hp
 have hcb:=z87 c
 refine Ev.of ⟨Tryz.func109,by kernel_rfl,rfl,by kernel_rfl⟩ zam mixed (by show 3≤Tryz.f109.ntmps; decide) ?_
 refine W.r fun K hK=>?_
 simp(disch:=omega)only[↓RU,RV,RH,↓reduceIte,qE,reduceCtorEq,if_pos,↓RS,RG,qA,qM,qL,zcn,zaa,zco,List.append_assoc,List.length_append,hA,zbs hgl,zh8 hA hgl,zdx,zdy,zdv hA hgl]
 apply hK;clear hK K
 refine W.r fun K hK=>?_
 simp(disch:=omega)only[↓RU,RV,RH,↓reduceIte,qE,reduceCtorEq,if_pos,↓RS,RG,qA,qM,qL,zcn,zaa,zco,List.append_assoc,List.length_append,hA,zbs hgl,zh8 hA hgl,zdx,zdy,zdv hA hgl]
 apply hK;clear hK K
 refine W.block ?_
 refine W.loop [1,2,3,5] (fun n vs S=>∃ r:Nat,n=d - r∧r≤d∧vs=[.int .i64 (cI c),.ref (k+2+nh) (u+2) 0,.ref (k+(nh+4+tl.length)) t 0,.int .i64 ((i+r:Nat):Int)]∧S=⟨A++(zhg k u lb nh nw (gI (zef p i kk w c (i+r)))++(tl++[.arr t 92 4 [.int .i64 i,.int .i64 kk,.int .i64 d,.int .i64 w]])),t+1⟩) d ?_ ?_
 ·refine ⟨_,0,rfl,Nat.zero_le _,?_,zah ?_⟩
  rotate_left
  ·simp only[Nat.add_zero,zte]
  simp [Env.put,Env.of,zaf]
 rintro n vs S - ⟨r,rfl,h_r,rfl,rfl⟩
 have hps:Shp2 (zef p i kk w c (i+r)) nh nw:=zky hp
 have hgl:=zhk hps
 refine W.seq ?_
 refine W.r fun K hK=>?_
 simp(disch:=omega)only[↓RU,RV,RH,↓reduceIte,qE,reduceCtorEq,if_pos,w64,↓RS,RG,qA,qM,qL,zcn,zaa,zco,List.append_assoc,List.length_append,hA,zbs hgl,zh8 hA hgl,zdx,zdy,zdv hA hgl]
 apply hK;clear hK K
 refine W.cond rfl (fun h=>?_) (fun h=>?_)
 ·try simp only[RL]at h
  obtain ⟨row,hrow0,hrl,-⟩:=hp.row (show i+r<nh by omega)
  have hrow:(zef p i kk w c (i+r))[i+r]?=some row:=z1t hrow0
  refine W.skip ?_
  refine xn ?_
  refine W.seq ?_
  refine W.block ?_
  refine W.r fun K hK=>?_
  simp(disch:=omega)only[↓RU,RV,RH,↓reduceIte,qE,reduceCtorEq,if_pos,↓RS,RG,qA,qM,qL,zcn,zaa,zco,List.append_assoc,List.length_append,hA,zbs hgl,zh8 hA hgl,zdx,zdy,zdv hA hgl]
  apply hK;clear hK K
  refine W.block ?_
  refine W.loop [1,2,3,5,6] (fun n vs S=>∃ j:Nat,n=w - j∧j≤w∧vs=[.int .i64 (cI c),.ref (k+2+nh) (u+2) 0,.ref (k+(nh+4+tl.length)) t 0,.int .i64 ((i+r:Nat):Int),.int .i64 ((kk+j:Nat):Int)]∧S=⟨A++(zhg k u lb nh nw (gI ((zef p i kk w c (i+r)).set (i+r) (zeh row kk c (kk+j))))++(tl++[.arr t 92 4 [.int .i64 i,.int .i64 kk,.int .i64 d,.int .i64 w]])),t+1⟩) w ?_ ?_
  ·refine ⟨_,0,rfl,Nat.zero_le _,?_,zah ?_⟩
   rotate_left
   ·simp only[Nat.add_zero,zq6,yao hrow]
   simp [Env.put,Env.of]
  rintro n vs S - ⟨j,rfl,h_j,rfl,rfl⟩
  have hps2:Shp2 ((zef p i kk w c (i+r)).set (i+r) (zeh row kk c (kk+j))) nh nw:=hps.set (by rw [zgj]; exact hrl)
  have hgl:=zhk hps2
  have hrj:((zef p i kk w c (i+r)).set (i+r) (zeh row kk c (kk+j)))[i+r]?=some (zeh row kk c (kk+j)):=by rw [List.getElem?_set,if_pos rfl,if_pos (zaz hrow)]
  have hgr:=z0x hrj
  have hrl2:(zeh row kk c (kk+j)).length=nw:=by rw [zgj]; exact hrl
  have hirH:i+r<nh:=by omega
  refine W.seq ?_
  refine W.r fun K hK=>?_
  simp(disch:=omega)only[↓RU,RV,RH,↓reduceIte,qE,reduceCtorEq,if_pos,w64,↓RS,RG,qA,qM,qL,zcn,zaa,zco,List.append_assoc,List.length_append,hA,zbs hgl,zh8 hA hgl,zdx,zdy,zdv hA hgl]
  apply hK;clear hK K
  refine W.cond rfl (fun h1=>?_) (fun h1=>?_)
  ·try simp only[RL]at h1
   have hspl:(List.map (PV.int .i64) (List.map cI (zeh row kk c (kk+j)))).take (kk+j)++PV.int .i64 (cI c)::(List.map (PV.int .i64) (List.map cI (zeh row kk c (kk+j)))).drop (kk+j+1)=(List.map cI (zeh row kk c (kk+j+1))).map (PV.int .i64):=by rw [← zq5 (by omega) (by omega),← yfo,← zcy,yhm (by simp only[List.length_map]; omega)]
   refine W.skip ?_
   refine xn ?_
   refine W.seq ?_
   refine W.block ?_
   refine W.k fun K hK=>?_
   simp(disch:=omega)only[↓RU,RV,RH,↓reduceIte,qE,reduceCtorEq,if_pos,↓RS,RG,qA,qM,qL,ty1,zab,zbl,zaa,List.append_assoc,List.length_append,hA,zbs hgl,zh8 hA hgl,zdx,zdy,zdv hA hgl,zj2 hA hgl,zjn hA,zcz hirH,zbn,ye2 hA hgl hgr,hrl2,hspl,yg6 hA hgl hirH,yfx,List.set_set]
   apply hK;clear hK K
   refine XbN ?_
   refine xn ?_
   refine W.k fun K hK=>?_
   simp(disch:=omega)only[↓RU,RV,RH,↓reduceIte,qE,reduceCtorEq,if_pos,w64,↓RS,RG,qA,qM,qL,zaa,List.append_assoc,List.length_append,hA,zbs hgl,zh8 hA hgl,zdx,zdy,zdv hA hgl]
   apply hK;clear hK K
   refine xn ?_
   refine ⟨w - (j+1),by omega,_,j+1,rfl,by omega,?_,zah ?_⟩
   rotate_left
   ·rfl
   simp [Env.put,Env.of]; omega
  ·try simp only[RL]at h1
   obtain rfl:j=w:=by omega
   refine W.exit ?_
   refine xe ?_
   refine xe ?_
   refine XBlock.hit ?_
   refine XbN ?_
   refine xn ?_
   refine W.k fun K hK=>?_
   simp(disch:=omega)only[↓RU,RV,RH,↓reduceIte,qE,reduceCtorEq,if_pos,w64,↓RS,RG,qA,qM,qL,zaa,List.append_assoc,List.length_append,hA,zbs hgl,zh8 hA hgl,zdx,zdy,zdv hA hgl]
   apply hK;clear hK K
   refine xn ?_
   refine ⟨d - (r+1),by omega,_,r+1,rfl,by omega,?_,zah ?_⟩
   rotate_left
   ·rw [← Nat.add_assoc,← ztd (p:=p) (by omega) hrow0]
   simp [Env.put,Env.of]; omega
 try simp only[RL]at h
 obtain rfl:r=d:=by omega
 refine W.exit ?_
 refine xe ?_
 refine xe ?_
 refine XBlock.hit ?_
 refine zew.norm rfl ?_
 exact ⟨_,rfl,_,Nat.le_succ _,ztt⟩
end
section
variable {H W:Nat} {p q:List Txt} {R:List RmB}
theorem yek {p q:List Txt} {H W:Nat} (hp:Shp2 p H W) (hq:Shp2 q H W) (h:∀ i j,i<H→j<W→ch p i j=ch q i j):p=q:=by
 apply List.ext_getElem?
 intro i
 by_cases hi:i<H
 ·obtain ⟨r,hr,hl,hx⟩:=hp.row hi
  obtain ⟨s,hs,hl2,hy⟩:=hq.row hi
  rw [hr,hs]
  congr 1
  apply List.ext_getElem?
  intro j
  by_cases hj:j<W
  ·rw [hx j hj,hy j hj,h i j hi hj]
  rw [List.getElem?_eq_none (by omega),List.getElem?_eq_none (by omega)]
 rw [List.getElem?_eq_none (by rw [hp.h]; omega),List.getElem?_eq_none (by rw [hq.h]; omega)]
end
section
theorem z98 {p:List Txt} {H W i k w e:Nat} {c:UInt8} (hp:Shp2 p H W) (h:∀ a b,a<H→b<W→(i≤a∧a<e)→(k≤b∧b<k+w)→ch p a b=46):zef (zef p i k w c e) i k w 46 e=p:=by
 have h1:Shp2 (zef p i k w c e) H W:=zky hp
 refine yek (zky h1) hp fun a b ha hb=>?_
 rw [z5b h1 ha hb]
 split
 ·rename_i q; exact (h a b ha hb q.1 q.2).symm
 rename_i q; rw [z5b hp ha hb,if_neg q]
theorem zsn {α β:Type} {f:α→List β} {l:List α} {w:Nat} {a:α} (h:l[w]?=some a):∃ r,l.flatMap f=(l.take w).flatMap f++f a++r:=by
 obtain ⟨hl,e⟩:=List.getElem?_eq_some_iff.1 h
 refine ⟨(l.drop (w+1)).flatMap f,?_⟩
 conv=>lhs; rw [← List.take_append_drop w l,List.drop_eq_getElem_cons hl,e]
 rw [List.flatMap_append,List.flatMap_cons,List.append_assoc]
theorem ybj {c:UInt8} (h:c=46∨97≤c.toNat):cI c = -1↔c=46:=by
 unfold cI
 by_cases e:c=46
 ·simp [e]
 rw [if_neg e]
 have:=h.resolve_left e
 constructor
 ·intro q; omega
 intro q; exact absurd q e
theorem St.letter {H W:Nat} {p:List Txt} {R:List RmB} (h:St H W p R) (hn:R.length≤9) {i j:Nat} (hi:i<H) (hj:j<W):ch p i j=46∨97≤(ch p i j).toNat:=by
 rcases h.val i j hi hj with e | ⟨v,hv,e⟩
 ·exact .inl e
 exact .inr (by rw [e,zi7 (by omega)]; omega)
theorem St.rows {H W:Nat} {p:List Txt} {R:List RmB} (h:St H W p R) (hn:R.length≤9):∀ r∈p,∀ c∈r,c=46∨97≤c.toNat:=by
 intro r hr c hc
 obtain ⟨i,hi⟩:=List.getElem?_of_mem hr
 have hil:=zaz hi
 rw [h.sh.h]at hil
 obtain ⟨r',hr',hl,hx⟩:=h.sh.row hil
 rw [hi]at hr'
 cases hr'
 obtain ⟨j,hj⟩:=List.getElem?_of_mem hc
 have hjl:=zaz hj
 have:=hx j (by omega)
 rw [hj]at this
 cases this
 exact h.letter hn hil (by omega)
def tst (r:List Int):Bool:=r.contains (-1)
theorem yeu {r:Txt} (h:∀ c∈r,c=46∨97≤c.toNat):tst (r.map cI)=r.contains 46:=by
 unfold tst
 rw [Bool.eq_iff_iff]
 simp only[List.contains_eq_mem,decide_eq_true_eq,List.mem_map]
 constructor
 ·rintro ⟨c,hc,e⟩; rw [← (ybj (h c hc)).1 e]; exact hc
 intro hc; exact ⟨46,hc,rfl⟩
theorem ybz {p:List Txt} (h:∀ r∈p,∀ c∈r,c=46∨97≤c.toNat):ixf tst (gI p)=if fi p<p.length then ((fi p:Nat):Int) else -1:=by
 have e:(gI p).findIdx? tst=p.findIdx? fun r=>r.contains 46:=by
  unfold gI
  rw [List.findIdx?_map]
  have:∀ l:List Txt,(∀ r∈l,r∈p)→l.findIdx? (tst ∘ fun r=>r.map cI)=l.findIdx? fun r=>r.contains 46:=by
   intro l
   induction l with
   | nil=>intro _; rfl
   | cons a l ih =>
    intro hl
    rw [List.findIdx?_cons,List.findIdx?_cons,ih fun r hr=>hl r (by simp [hr])]
    show (if tst (a.map cI) then _ else _)=_
    rw [yeu (h a (hl a (by simp)))]
  exact this p fun _ h=>h
 unfold ixf
 rw [e]
 unfold fi
 cases hq:p.findIdx? fun r=>r.contains 46 with
 | none =>
  rw [List.findIdx?_eq_none_iff_findIdx_eq]at hq
  rw [hq,if_neg (by omega)]
 | some i =>
  have:=List.findIdx?_eq_some_iff_findIdx_eq.1 hq
  rw [this.2,if_pos this.1]
section
variable {A tl:List Ob} {k u lb H W t:Nat} {p:List Txt}
theorem z3x {S:Store} {k2 b v w:Nat} {g:List (List Int)} (hw:∀ r∈g,r.length=w) (hg:∀ (j:Nat) r,g[j]?=some r→S.obs[b+j]?=some (.arr v 3 1 (r.map (.int .i64)))) :
  (lcW b v g.length w).mapM (reify S true (k2+2))=some (g.map eInts):=by
 induction g generalizing b with
 | nil=>rfl
 | cons a g ih =>
  have e:lcW b v (a::g).length w = .loc b v 0 w::lcW (b+1) v g.length w:=by
   unfold lcW
   rw [List.length_cons,List.range_succ_eq_map,List.map_cons,List.map_map]
   congr 1
   refine List.map_congr_left fun j _=>?_
   show PV.loc (b+(j+1)) v 0 w=PV.loc (b+1+j) v 0 w
   rw [show b+1+j=b+(j+1) by omega]
  rw [e,List.map_cons]
  refine zas ?_ (ih (b:=b+1) (fun r hr=>hw r (by simp [hr])) fun j r hr=>by have:=hg (j+1) r (by simpa using hr); rwa [show b+(j+1)=b+1+j by omega]at this)
  have h0:=hg 0 a rfl
  have hal:a.length=w:=hw a (by simp)
  subst hal
  exact zax (S:=S) (k:=k2+1) (n:=a.length) (o:=b) (ver:=v) (sz:=1) h0 (by simp) (za8 fun x hx=>by obtain ⟨z,_,rfl⟩:=List.mem_map.1 hx; rfl)
theorem z3v (hA:A.length=k) (hp:Shp2 p H W) {k2:Nat}:reify ⟨A++(zhg k u lb H W (gI p)++tl),t⟩ true (k2+3) (.loc (k+1) (u+1) 0 H)=some (zea (gI p)):=by
 have hgl:=zhk hp
 have h1:=zax (S:=⟨A++(zhg k u lb H W (gI p)++tl),t⟩) (im:=true) (k:=k2+2) (n:=H) (ts:=(gI p).map eInts) (zjn (u:=u) (lb:=lb) (H:=H) (W:=W) (g:=gI p) (tl:=tl) hA) (by rw [zbn]; omega) (by
  have:=z3x (S:=⟨A++(zhg k u lb H W (gI p)++tl),t⟩) (k2:=k2) (b:=k+2) (v:=u+1) (w:=W) (g:=gI p) (fun r hr=>by obtain ⟨x,hx,rfl⟩:=List.mem_map.1 hr; rw [List.length_map]; exact hp.w x hx) (fun j r hr=>ye2 hA hgl hr)
  rw [hgl]at this; exact this)
 rw [h1]
 show _=some (PV.sl _ (gI p).length)
 rw [hgl]
theorem yag {S:Store} {k2 lo b v w:Nat} {g:List (List Int)} (hb:lo≤b) (hw:∀ r∈g,r.length=w) (hg:∀ (j:Nat) r,g[j]?=some r→S.obs[b+j]?=some (.arr v 3 1 (r.map (.int .i64)))) :
  (lcW b v g.length w).mapM (rfz S lo (k2+2))=some (g.map eInts):=by
 induction g generalizing b with
 | nil=>rfl
 | cons a g ih =>
  have e:lcW b v (a::g).length w = .loc b v 0 w::lcW (b+1) v g.length w:=by
   unfold lcW
   rw [List.length_cons,List.range_succ_eq_map,List.map_cons,List.map_map]
   congr 1
   refine List.map_congr_left fun j _=>?_
   show PV.loc (b+(j+1)) v 0 w=PV.loc (b+1+j) v 0 w
   rw [show b+1+j=b+(j+1) by omega]
  rw [e,List.map_cons]
  refine zas ?_ (ih (b:=b+1) (by omega) (fun r hr=>hw r (by simp [hr])) fun j r hr=>by have:=hg (j+1) r (by simpa using hr); rwa [show b+(j+1)=b+1+j by omega]at this)
  have h0:=hg 0 a rfl
  have hal:a.length=w:=hw a (by simp)
  subst hal
  rw [Nat.add_zero]at h0
  have ht:(a.map (PV.int .i64)).take a.length=a.map (PV.int .i64):=qT (by simp)
  rw [zct,h0]
  simp only[Nat.zero_add,Nat.mul_one,List.length_map,qR,and_true,hb,if_true,List.drop_zero,ht,zb5,qO]
theorem yaf (hA:A.length=k) (hp:Shp2 p H W):frz ⟨A++(zhg k u lb H W (gI p)++tl),t⟩ k 10 (.ref (k+2+H) (u+2) 0)=some (.ip [zea (gI p)] 0):=by
 have hgl:=zhk hp
 rw [z5w,if_neg (by omega)]
 obtain ⟨S,hS⟩:∃ S:Store,(⟨A++(zhg k u lb H W (gI p)++tl),t⟩:Store)=S:=⟨_,rfl⟩
 have e1:S.obs[k+2+H]?=some (.arr (u+2) 75 1 [.loc (k+1) (u+1) 0 H]):=by rw [← hS]; exact zj2 hA hgl
 have e2:S.obs[k+1]?=some (.arr (u+1) 34 1 (lcW (k+2) (u+1) H W)):=by rw [← hS]; exact zjn hA
 have e3:(lcW (k+2) (u+1) H W).mapM (rfz S k 8)=some ((gI p).map eInts):=by
  have:=yag (S:=S) (k2:=6) (lo:=k) (b:=k+2) (v:=u+1) (w:=W) (g:=gI p) (by omega) (fun r hr=>by obtain ⟨x,hx,rfl⟩:=List.mem_map.1 hr; rw [List.length_map]; exact hp.w x hx) (fun j r hr=>by rw [← hS]; exact ye2 hA hgl hr)
  rw [hgl]at this; exact this
 have ht:(lcW (k+2) (u+1) H W).take H=lcW (k+2) (u+1) H W:=qT (by rw [zbn]; omega)
 have e4:rfz S k 9 (.loc (k+1) (u+1) 0 H)=some (zea (gI p)):=by
  rw [zct,e2]
  simp only[Nat.zero_add,Nat.mul_one,zbn,qR,and_true,show k≤k+1 by omega,if_true,List.drop_zero,ht,e3,qO]
  show _=some (PV.sl _ (gI p).length)
  rw [hgl]
 rw [hS]
 show (if k≤k+2+H then (S.cellsOf (k+2+H) (u+2)).bind fun cells=>(cells.mapM (rfz S k 9)).map (PV.ip · 0) else none)=_
 rw [if_pos (by omega)]
 have e5:S.cellsOf (k+2+H) (u+2)=some [.loc (k+1) (u+1) 0 H]:=by simp [Store.cellsOf,e1]
 rw [e5,Option.bind_some,zas e4 rfl]; rfl
end
structure YC {σ:Type} (lb k H W:Nat) (pre:σ→List Ob) (fin:Nat→List Txt→Nat→List Ob × List Ob) (stop:List Txt→Bool) (nxt:σ→List Txt→σ):Prop where
 len:∀ s,(pre s).length=k
 finl:∀ r q x,(fin r q x).1.length=k
 ey:∀ s q t,zfg q=true→Shp2 q H W→Ey Tryz.prog lb [zbh (gP q) (rP q)] ⟨pre s,t⟩ fun v S=>v = .bool (!stop q)∧∃ t2,if stop q=true then ∃ x,S=⟨(fin 0 q x).1++(fin 0 q x).2,t2⟩ else S=⟨pre (nxt s q),t2⟩
 sp:∀ r s,zrd k r (pre s)=some (pre s)
 lp1:∀ s q,zr3 (pre s) (pre (nxt s q))
 lp2:∀ s q x,zr3 (pre s) ((fin 0 q x).1++(fin 0 q x).2)
 sfin:∀ r q x,zrd k r ((fin 0 q x).1++(fin 0 q x).2)=some ((fin r q x).1++(fin r q x).2)
def zoe {σ:Type} (k u lb H W:Nat) (pre:σ→List Ob) (fin:Nat→List Txt→Nat→List Ob × List Ob) (stop:List Txt→Bool) (nxt:σ→List Txt→σ) (L:List (List Txt)) (s:σ) (p:List Txt) (tl:List Ob) (v:PV) (S:Store):Prop :=
 match L.find? stop with
 | none=>v = .bool true∧∃ t,S=⟨pre (L.foldl nxt s)++(zhg k u lb H W (gI p)++tl),t⟩
 | some q=>v = .bool false∧∃ t x J,S=⟨(fin (H+4+tl.length+J.length) q x).1++(zhg k u lb H W (gI p)++(tl++(J++(fin (H+4+tl.length+J.length) q x).2))),t⟩
theorem z9t (a b:Int):PC Tryz.prog 104 [.int .i64 a,.int .i64 b] (.int .i64 (-1)) true:=by
 refine PC.of ⟨Tryz.func104,by kernel_rfl,rfl,by kernel_rfl⟩ zam mixed (by show 2≤Tryz.f104.ntmps; decide) ?_
 refine W.r fun K hK=>?_
 simp(disch:=omega)only[↓RU,RV,RH,↓reduceIte,qE,reduceCtorEq,if_pos]
 apply hK;clear hK K
 refine W.r fun K hK=>?_
 simp(disch:=omega)only[↓RU,RV,RH,↓reduceIte,qE,reduceCtorEq,if_pos]
 apply hK;clear hK K
 refine W.ret ?_
 refine Br rfl ?_
 rfl
theorem zy8 {l:List Int} (hl:l.length<2147483648) {x:Int} (hx:∀ (j:Nat),l[j]?≠some x):PC Tryz.prog 101 [eInts l,.int .i64 x] (.int .i64 (-1)) true:=by
 refine PC.of ⟨Tryz.func101,by kernel_rfl,rfl,by kernel_rfl⟩ zam mixed (by show 2≤Tryz.f101.ntmps; decide) ?_
 refine W.r fun K hK=>?_
 simp(disch:=omega)only[↓RU,RV,RH,↓reduceIte,qE,reduceCtorEq,if_pos]
 apply hK;clear hK K
 refine W.seq ?_
 refine W.r fun K hK=>?_
 simp(disch:=omega)only[↓RU,RV,RH,↓reduceIte,qE,reduceCtorEq,if_pos,zab,zaa]
 apply hK;clear hK K
 refine W.block ?_
 refine W.loop [0,1,7,8] (fun n vs S=>∃ i:Nat,n=l.length - i∧i≤l.length∧vs=[eInts l,.int .i64 x,.int .i64 l.length,.int .i64 i]∧S=⟨[],0⟩) (l.length) ?_ ?_
 ·refine ⟨0,0,rfl,Nat.zero_le _,?_,rfl⟩
  simp [Env.put,Env.of,zaf]
 rintro n vs S - ⟨i,rfl,h_i,rfl,rfl⟩
 refine W.r fun K hK=>?_
 simp(disch:=omega)only[↓RU,RV,RH,↓reduceIte,qE,reduceCtorEq,if_pos,w64,zaa]
 apply hK;clear hK K
 refine W.seq ?_
 refine W.cond rfl (fun h0=>?_) (fun h0=>?_)
 ·try simp only[RL]at h0
  obtain ⟨y,hy,-⟩:=zae (show i<l.length by omega)
  have hne:(x == y)=false:=by simpa using fun e=>hx i (by rw [hy,e])
  refine W.skip ?_
  refine xn ?_
  refine W.seq ?_
  refine W.block ?_
  refine W.r fun K hK=>?_
  simp(disch:=omega)only[↓RU,RV,RH,↓reduceIte,qE,reduceCtorEq,if_pos]
  apply hK;clear hK K
  refine W.r fun K hK=>?_
  simp(disch:=omega)only[↓RU,RV,RH,↓reduceIte,qE,reduceCtorEq,if_pos,w64,zab,zaa,hy,hne]
  apply hK;clear hK K
  refine W.cond rfl (fun h1=>?_) (fun h1=>?_)
  ·try simp only[RL]at h1
   exact absurd h1 (by simp)
  try simp only[RL]at h1
  refine W.skip ?_
  refine XbN ?_
  refine xn ?_
  refine W.k fun K hK=>?_
  simp(disch:=omega)only[↓RU,RV,RH,↓reduceIte,qE,reduceCtorEq,if_pos,w64,zaa]
  apply hK;clear hK K
  refine xn ?_
  refine ⟨l.length - (i+1),by omega,0,i+1,rfl,by omega,?_,rfl⟩
  simp [Env.put,Env.of]
 try simp only[RL]at h0
 obtain rfl:i=l.length:=by omega
 refine W.exit ?_
 refine xe ?_
 refine xe ?_
 refine XBlock.hit ?_
 refine xn ?_
 refine W.r fun K hK=>?_
 simp(disch:=omega)only[↓RU,RV,RH,↓reduceIte,qE,reduceCtorEq,if_pos]
 apply hK;clear hK K
 refine W.ret ?_
 refine Br rfl ?_
 rfl
theorem zrt {l:List Int} (hl:l.length<2147483648) {x:Int} (hx:∀ (j:Nat),l[j]?≠some x):PC Tryz.prog 77 [eInts l,.int .i64 x] (.bool false) true:=by
 have hd:decide ((-1:Int) ≥ 0)=false:=by decide
 refine PC.of ⟨Tryz.func77,by kernel_rfl,rfl,by kernel_rfl⟩ zam mixed (by show 2≤Tryz.f77.ntmps; decide) ?_
 refine W.r fun K hK=>?_
 simp(disch:=omega)only[↓RU,RV,RH,↓reduceIte,qE,reduceCtorEq,if_pos]
 apply hK;clear hK K
 refine W.r fun K hK=>?_
 simp(disch:=omega)only[↓RU,RV,RH,↓reduceIte,qE,reduceCtorEq,if_pos,qN,w64,zaa,hd]
 refine zad.pc (zy8 hl hx) rfl (.inl rfl) ?_
 simp(disch:=omega)only[↓RU,RV,RH,↓reduceIte,qE,reduceCtorEq,if_pos,qN,w64,zaa,hd]
 apply hK;clear hK K
 refine W.ret ?_
 refine Br rfl ?_
 rfl
theorem ziu {l:List Int} (hl:l.length<2147483648) {x:Int}:PC Tryz.prog 77 [eInts l,.int .i64 x] (.bool (l.contains x)) true:=by
 by_cases h:x∈l
 ·have hk:l.idxOf x<l.length:=List.idxOf_lt_length_of_mem h
  have e:l.contains x=true:=by simpa using h
  rw [e]
  exact zyy hl (i:=l.idxOf x) (by rw [List.getElem?_eq_getElem hk]; exact congrArg some (List.getElem_idxOf hk)) fun j hj hq=>by
   have:=List.not_of_lt_findIdx (p:=(· == x)) (xs:=l) (i:=j) (show j<l.findIdx (· == x) from hj)
   rw [List.getElem?_eq_getElem (by omega)]at hq
   rw [Option.some.inj hq]at this
   simp at this
 have e:l.contains x=false:=by simpa using h
 rw [e]
 exact zrt hl fun j hj=>h (List.mem_of_getElem? hj)
theorem ybn {l:List Int} (hl:l.length<2147483648):PC Tryz.prog 107 [eInts l] (.bool (tst l)) true:=by
 refine PC.of ⟨Tryz.func107,by kernel_rfl,rfl,by kernel_rfl⟩ zam mixed (by show 1≤Tryz.f107.ntmps; decide) ?_
 refine W.r fun K hK=>?_
 simp(disch:=omega)only[↓RU,RV,RH,↓reduceIte,qE,reduceCtorEq,if_pos]
 apply hK;clear hK K
 refine W.r fun K hK=>?_
 simp(disch:=omega)only[↓RU,RV,RH,↓reduceIte,qE,reduceCtorEq,if_pos,qN]
 refine zad.pc (ziu hl) rfl (.inl rfl) ?_
 simp(disch:=omega)only[↓RU,RV,RH,↓reduceIte,qE,reduceCtorEq,if_pos,qN]
 apply hK;clear hK K
 refine W.ret ?_
 refine Br rfl ?_
 rfl
theorem ydp {σ:Type} {lb k nh nw:Nat} {pre:σ→List Ob} {fin:Nat→List Txt→Nat→List Ob × List Ob} {stop:List Txt→Bool} {nxt:σ→List Txt→σ} (Y:YC lb k nh nw pre fin stop nxt) {p:List Txt} {R:List RmB} (hs:St nh nw p R) (hn:R.length≤9) (h1:1≤nh) (h2:nh≤6) (h3:1≤nw) (h4:nw≤6) (hf:¬ fi p<nh) (s:σ) (t:Nat) (n:Int):Ev Tryz.prog 105 [.int .i64 n,.ip [zea (gI p)] 0,.ip [.yl lb] 0,.ip [.int .i64 nw] 0,.ip [.int .i64 nh] 0,.undef] ⟨pre s,t⟩ fun v S=>v = .bool (!stop p)∧∃ t2,if stop p=true then ∃ x,S=⟨(fin 0 p x).1++(fin 0 p x).2,t2⟩ else S=⟨pre (nxt s p),t2⟩:=by
 obtain ⟨q1,⟨q2,q3⟩,q4,q5⟩:=hs.plan hn hf h1 h2 h3 h4
 have hgl:=zhk hs.sh
 have hrw:∀ r∈gI p,r.length=nw:=fun r hr=>by obtain ⟨x,hx,rfl⟩:=List.mem_map.1 hr; rw [List.length_map]; exact hs.sh.w x hx
 have hix:=ybz (hs.rows hn)
 rw [hs.sh.h,if_neg hf]at hix
 have hI:=zkt (l:=gI p) (by omega) (cap:=[]) (g:=107) rfl (test:=tst) fun x hx=>ybn (by rw [hrw x hx]; omega)
 rw [hix]at hI
 have hS:=zrc (g:=gI p) (by omega) (fun r hr=>by rw [hrw r hr]; omega) q2
 rw [q3,q4,q5]at hS
 have hY:=Y.ey s p t q1 hs.sh
 refine Ev.of ⟨Tryz.func105,by kernel_rfl,rfl,by kernel_rfl⟩ zam mixed (by show 6≤Tryz.f105.ntmps; decide) ?_
 refine W.r fun K hK=>?_
 simp(disch:=omega)only[↓RU,RV,RH,↓reduceIte,qE,reduceCtorEq,if_pos,↓RS,RG,qA,qM,qL]
 apply hK;clear hK K
 refine W.r fun K hK=>?_
 simp(disch:=omega)only[↓RU,RV,RH,↓reduceIte,qE,reduceCtorEq,if_pos,qN,↓RS,RG,qA,qM,qL,ty1,zab,zbl,zaa,Int.toNat_zero,List.getElem?_cons_zero]
 refine zad.pc (hI) rfl (.inl rfl) ?_
 simp(disch:=omega)only[↓RU,RV,RH,↓reduceIte,qE,reduceCtorEq,if_pos,qN,↓RS,RG,qA,qM,qL,ty1,zab,zbl,zaa,Int.toNat_zero,List.getElem?_cons_zero]
 apply hK;clear hK K
 refine W.seq ?_
 refine W.r fun K hK=>?_
 simp(disch:=omega)only[↓RU,RV,RH,↓reduceIte,qE,reduceCtorEq,if_pos,w64,↓RS,RG,qA,qM,qL,zaa]
 apply hK;clear hK K
 refine W.cond rfl (fun h0=>?_) (fun h0=>?_)
 ·try simp only[RL]at h0
  refine W.r fun K hK=>?_
  simp(disch:=omega)only[↓RU,RV,RH,↓reduceIte,qE,reduceCtorEq,if_pos,qN,↓RS,RG,qA,qM,qL,ty1,zab,zbl,zaa,Int.toNat_zero,List.getElem?_cons_zero]
  refine zad.pc (hS) rfl (.inr rfl) ?_
  simp(disch:=omega)only[↓RU,RV,RH,↓reduceIte,qE,reduceCtorEq,if_pos,qN,↓RS,RG,qA,qM,qL,ty1,zab,zbl,zaa,Int.toNat_zero,List.getElem?_cons_zero]
  apply hK;clear hK K
  refine W.r fun K hK=>?_
  simp(disch:=omega)only[↓RU,RV,RH,↓reduceIte,qE,reduceCtorEq,if_pos,qN,↓RS,RG,qA,qM,qL,yhn,Int.toNat_zero,List.getElem?_cons_zero]
  refine z8u.ey (hY) ?_
  rintro _ S2 ⟨rfl,t2,hS2⟩
  simp(disch:=omega)only[↓RU,RV,RH,↓reduceIte,qE,reduceCtorEq,if_pos,qN,↓RS,RG,qA,qM,qL,yhn,Int.toNat_zero,List.getElem?_cons_zero]
  apply hK;clear hK K
  refine W.ret ?_
  refine XThen.ret ?_
  refine Br rfl ?_
  exact ⟨_,rfl,t2,by rw [zal]; exact hS2⟩
 try simp only[RL]at h0
 exact absurd h0 (by simp)
theorem zwi {σ:Type} {lb k nh nw:Nat} {pre:σ→List Ob} {fin:Nat→List Txt→Nat→List Ob × List Ob} {stop:List Txt→Bool} {nxt:σ→List Txt→σ} (Y:YC lb k nh nw pre fin stop nxt) {p:List Txt} {R:List RmB} (hs:St nh nw p R) (hn:R.length≤9) (h1:1≤nh) (h2:nh≤6) (h3:1≤nw) (h4:nw≤6) (hf:¬ fi p<nh) {u:Nat} (s:σ) (tl:List Ob) (t:Nat) (n:Int) :
  Ev Tryz.prog 105 [.int .i64 n,.ref (k+2+nh) (u+2) 0,.ref k u 0,.ip [.int .i64 nw] 0,.ip [.int .i64 nh] 0,.ref (k+3+nh) (u+3) 0] ⟨pre s++(zhg k u lb nh nw (gI p)++tl),t⟩ (zoe k u lb nh nw pre fin stop nxt [p] s p tl):=by
 have hk:=Y.len s
 have hgl:=zhk hs.sh
 have e0:=gO_y (u:=u) (lb:=lb) (H:=nh) (W:=nw) (g:=gI p) (tl:=tl) hk
 refine Ev.lend (ydp Y hs hn h1 h2 h3 h4 hf s t n) ?_ ?_
 ·rw [hk]
  refine ⟨.inr rfl,.inr (yaf hk hs.sh),.inr ?_,.inr rfl,.inr rfl,.inl rfl,trivial⟩
  rw [z5w,if_neg (by omega)]
  obtain ⟨S,hS⟩:∃ S:Store,(⟨pre s++(zhg k u lb nh nw (gI p)++tl),t⟩:Store)=S:=⟨_,rfl⟩
  rw [hS]
  have e1:S.cellsOf k u=some [.yl lb]:=by rw [← hS]; simp only[Store.cellsOf,e0,if_true]
  show (if k≤k then (S.cellsOf k u).bind fun cells=>(cells.mapM (rfz S k 9)).map (PV.ip · 0) else none)=_
  rw [if_pos (qR _),e1]; rfl
 rintro v S ⟨rfl,t2,hS⟩
 have hR:(zhg k u lb nh nw (gI p)++tl).length=nh+4+tl.length:=by rw [List.length_append,zbs hgl]
 rw [hk,hR]
 unfold zoe
 cases hst:stop p with
 | false =>
  rw [hst]at hS
  simp only[qF,if_false]at hS
  subst hS
  have hl:=Y.len (nxt s p)
  refine ⟨.bool true,_,rfl,Y.sp _ _,by omega,Y.lp1 s p,?_⟩
  simp only[List.find?_cons,hst,List.find?_nil]
  refine ⟨trivial,t2,?_⟩
  rw [qT (by omega),List.drop_of_length_le (by omega),qN]; rfl
 | true =>
  rw [hst]at hS
  simp only[if_true]at hS
  obtain ⟨x,rfl⟩:=hS
  have hl:=Y.finl (nh+4+tl.length) p x
  refine ⟨.bool false,_,rfl,Y.sfin _ _ _,by rw [List.length_append]; omega,Y.lp2 s p x,?_⟩
  simp only[List.find?_cons,hst]
  refine ⟨trivial,t2,x,[],?_⟩
  rw [List.take_left' hl,List.drop_left' hl]
  simp
def Cd (m:Nat) (p:List Txt) (n w d:Nat):List (List Txt):=En m (zef p (fi p) (fk p) (w+1) (rl n) (fi p+(d+1))) (n+1)
def Ld (m:Nat) (p:List Txt) (n w d:Nat):List (List Txt):=(List.range d).flatMap (Cd m p n w)
def Lw (m:Nat) (p:List Txt) (n H w:Nat):List (List Txt):=(List.range w).flatMap fun w=>Ld m p n w (H - fi p)
theorem zt3 {m n w d:Nat} {p:List Txt}:Ld m p n w (d+1)=Ld m p n w d++Cd m p n w d:=by simp [Ld,qS]
theorem zt4 {m n H w:Nat} {p:List Txt}:Lw m p n H (w+1)=Lw m p n H w++Ld m p n w (H - fi p):=by simp [Lw,qS]
theorem z8v {m n H w d W2:Nat} {p:List Txt} (hw:w<W2) (hd:d<H - fi p):∃ r,Lw m p n H W2=Lw m p n H w++Ld m p n w d++Cd m p n w d++r:=by
 obtain ⟨r1,h1⟩:=zsn (f:=fun w=>Ld m p n w (H - fi p)) (l:=List.range W2) (w:=w) (a:=w) (List.getElem?_range hw)
 obtain ⟨r2,h2⟩:=zsn (f:=Cd m p n w) (l:=List.range (H - fi p)) (w:=d) (a:=d) (List.getElem?_range hd)
 refine ⟨r2++r1,?_⟩
 rw [List.take_range,Nat.min_eq_left (by omega)]at h1 h2
 have e1:Lw m p n H W2=(List.range w).flatMap (fun w=>Ld m p n w (H - fi p))++Ld m p n w (H - fi p)++r1:=h1
 have e2:Ld m p n w (H - fi p)=Ld m p n w d++Cd m p n w d++r2:=h2
 rw [e1,e2]
 simp [Lw,List.append_assoc]
theorem yct {m n H:Nat} {p:List Txt} (h:p.length=H) (hf:fi p<H):En (m+1) p n=Lw m p n H (fw p):=by
 unfold En
 rw [h,if_pos hf]; rfl
theorem z3w {A tl:List Ob} {k u lb H W t:Nat} {p:List Txt} (hA:A.length=k) (hp:Shp2 p H W) {r:Nat} {row:Txt} (hr:p[r]?=some row):reify ⟨A++(zhg k u lb H W (gI p)++tl),t⟩ true 10 (.loc (k+2+r) (u+1) 0 W)=some (eInts (row.map cI)):=by
 have hl:row.length=W:=hp.w row (List.mem_of_getElem? hr)
 have h1:=zax (S:=⟨A++(zhg k u lb H W (gI p)++tl),t⟩) (im:=true) (k:=9) (n:=W) (ts:=(row.map cI).map (.int .i64)) (ye2 (u:=u) (lb:=lb) (W:=W) (tl:=tl) hA (zhk hp) (z0x hr)) (by simp [hl]) (za8 fun x hx=>by obtain ⟨z,_,rfl⟩:=List.mem_map.1 hx; rfl)
 rw [h1]
 show _=some (PV.sl _ (row.map cI).length)
 rw [List.length_map,hl]
theorem yg4 {A B tl:List Ob} {x:Ob} {t:Nat} {S:Store} (h:(⟨A++(B++tl),t⟩:Store)=S):Store.take ⟨A++(B++(tl++[x])),t⟩ (A.length+(B.length+tl.length))=S:=ztt.trans h
theorem zc3 {tl R:List Ob} {x:Ob}:(tl++x::R)[tl.length]?=some x:=by rw [List.getElem?_append_right (qR _),Nat.sub_self]; rfl
theorem zc4 {tl R:List Ob} {x y:Ob}:(tl++x::R).set tl.length y=tl++y::R:=by rw [List.set_append_right _ _ (qR _),Nat.sub_self]; rfl
theorem z9j {p:List Txt} {H W:Nat} (hp:Shp2 p H W) (hf:fi p<H):fk p+fw p≤W:=by
 rcases Nat.eq_zero_or_pos (fw p) with h | h
 ·have:=(ziw hp hf).1; omega
 have:=((zsp hp hf).1 (show fw p - 1<fw p by omega)).1; omega
theorem z0w {p:List Txt} {H W w:Nat} (hp:Shp2 p H W) (hf:fi p<H) (h:w≤fw p):w<fw p∨(w=fw p∧fk p+w<W∧ch p (fi p) (fk p+w)≠46)∨(w=fw p∧¬ fk p+w<W):=by
 rcases Nat.lt_or_eq_of_le h with h | h
 ·exact .inl h
 by_cases q:fk p+w<W
 ·refine .inr (.inl ⟨h,q,fun e=>?_⟩)
  have:¬ w<fw p:=by omega
  refine this ((zsp hp hf).2 ⟨q,fun b b1 b2=>?_⟩)
  by_cases e2:b=fk p+w
  ·rw [e2]; exact e
  have h3:b - fk p<fw p:=by omega
  exact ((zsp hp hf).1 h3).2 b b1 (by omega)
 exact .inr (.inr ⟨h,q⟩)
set_option maxHeartbeats 1000000 in
theorem z5s {σ:Type} {lb k nh nw:Nat} {pre:σ→List Ob} {fin:Nat→List Txt→Nat→List Ob × List Ob} {stop:List Txt→Bool} {nxt:σ→List Txt→σ} (Y:YC lb k nh nw pre fin stop nxt) {p:List Txt} {R:List RmB} (hs:St nh nw p R) (hn:R.length≤9) (h1:1≤nh) (h2:nh≤6) (h3:1≤nw) (h4:nw≤6) {m:Nat} (hm:R.length+(m+1)=9) (h9:nh*nw≤9) (hf:fi p<nh) {u:Nat} (s:σ) (tl:List Ob) (t:Nat)
  (ih:∀ w d,w<fw p→d<nh - fi p→∀ (s:σ) (tl:List Ob) (t:Nat),Ev Tryz.prog 105 [.int .i64 (((R.length:Nat):Int)+1),.ref (k+2+nh) (u+2) 0,.ref k u 0,.ip [.int .i64 nw] 0,.ip [.int .i64 nh] 0,.ref (k+3+nh) (u+3) 0] ⟨pre s++(zhg k u lb nh nw (gI (zef p (fi p) (fk p) (w+1) (rl R.length) (fi p+(d+1))))++tl),t⟩ (zoe k u lb nh nw pre fin stop nxt (Cd m p R.length w d) s (zef p (fi p) (fk p) (w+1) (rl R.length) (fi p+(d+1))) tl)):Ev Tryz.prog 105 [.int .i64 (R.length:Nat),.ref (k+2+nh) (u+2) 0,.ref k u 0,.ip [.int .i64 nw] 0,.ip [.int .i64 nh] 0,.ref (k+3+nh) (u+3) 0] ⟨pre s++(zhg k u lb nh nw (gI p)++tl),t⟩ fun v S=>zoe k u lb nh nw pre fin stop nxt (Lw m p R.length nh (fw p)) s p tl v S:=by
 have hfw:=z9j hs.sh hf
 have hcr:cI (rl R.length)=((R.length:Nat):Int):=by rw [cI,if_neg (zn9 (by omega)),zi7 (by omega)]; omega
 have hk:=Y.len s
 have hgl:=zhk hs.sh
 obtain ⟨f1,f2,f3⟩:=ziw hs.sh hf
 obtain ⟨hrr,hrl,-,hrx⟩:=z0u hs.sh hf
 have hlt:=hs.rows hn
 have hrw:∀ r∈gI p,r.length=nw:=fun r hr=>by obtain ⟨x,hx,rfl⟩:=List.mem_map.1 hr; rw [List.length_map]; exact hs.sh.w x hx
 have hix:=ybz hlt
 rw [hs.sh.h,if_pos hf]at hix
 have hI:=zkt (l:=gI p) (by omega) (cap:=[]) (g:=107) rfl (test:=tst) fun x hx=>ybn (by rw [hrw x hx]; omega)
 rw [hix]at hI
 have hX:=zm2 (l:=(z0t p).map cI) (by rw [List.length_map]; omega) (x := -1) (i:=fk p) (by rw [List.getElem?_map,hrx _ f1,f2]; rfl) fun j hj e=>by
  rw [List.getElem?_map,hrx j (by omega)]at e
  exact f3 (fi p) j hf (by omega) (.inr ⟨rfl,hj⟩) ((ybj (hs.letter hn hf (by omega))).1 (Option.some.inj e))
 refine Ev.of ⟨Tryz.func105,by kernel_rfl,rfl,by kernel_rfl⟩ zam mixed (by show 6≤Tryz.f105.ntmps; decide) ?_
 refine W.r fun K hK=>?_
 simp(disch:=omega)only[↓RU,RV,RH,↓reduceIte,qE,reduceCtorEq,if_pos,↓RS,RG,qA,qM,qL,List.append_assoc,List.length_append,List.cons_append,List.nil_append,hk,zbs hgl,zh8 hk hgl,zdv hk hgl,zc3,zc4,zdx,zdy,zj2 hk hgl,zkq hk hgl,zjn hk,zcz hf,zbn,zem]
 apply hK;clear hK K
 refine W.r fun K hK=>?_
 simp(disch:=omega)only[↓RU,RV,RH,↓reduceIte,qE,reduceCtorEq,if_pos,qN,↓RS,RG,qA,qM,qL,ty1,zab,zbl,zaa,List.append_assoc,List.length_append,List.cons_append,List.nil_append,hk,zbs hgl,zh8 hk hgl,zdv hk hgl,zc3,zc4,zdx,zdy,zj2 hk hgl,zkq hk hgl,zjn hk,zcz hf,zbn,zem]
 refine zad.pc (hI) (zas (z3v hk hs.sh (k2:=7)) (zas rfl rfl)) (.inl rfl) ?_
 simp(disch:=omega)only[↓RU,RV,RH,↓reduceIte,qE,reduceCtorEq,if_pos,qN,↓RS,RG,qA,qM,qL,ty1,zab,zbl,zaa,List.append_assoc,List.length_append,List.cons_append,List.nil_append,hk,zbs hgl,zh8 hk hgl,zdv hk hgl,zc3,zc4,zdx,zdy,zj2 hk hgl,zkq hk hgl,zjn hk,zcz hf,zbn,zem]
 apply hK;clear hK K
 refine W.seq ?_
 refine W.r fun K hK=>?_
 simp(disch:=omega)only[↓RU,RV,RH,↓reduceIte,qE,reduceCtorEq,if_pos,w64,↓RS,RG,qA,qM,qL,zaa,List.append_assoc,List.length_append,List.cons_append,List.nil_append,hk,zbs hgl,zh8 hk hgl,zdv hk hgl,zc3,zc4,zdx,zdy,zj2 hk hgl,zkq hk hgl,zjn hk,zcz hf,zbn,zem]
 apply hK;clear hK K
 refine W.cond rfl (fun h0=>?_) (fun h0=>?_)
 ·try simp only[RL]at h0
  exfalso; omega
 ·try simp only[RL]at h0
  refine W.skip ?_
  refine xn ?_
  refine W.r fun K hK=>?_
  simp(disch:=omega)only[↓RU,RV,RH,↓reduceIte,qE,reduceCtorEq,if_pos,qN,↓RS,RG,qA,qM,qL,ty1,zab,zbl,zaa,List.append_assoc,List.length_append,List.cons_append,List.nil_append,hk,zbs hgl,zh8 hk hgl,zdv hk hgl,zc3,zc4,zdx,zdy,zj2 hk hgl,zkq hk hgl,zjn hk,zcz hf,zbn,zem]
  refine zad.pc (hX) (zas (z3w hk hs.sh hrr) (zas rfl rfl)) (.inl rfl) ?_
  simp(disch:=omega)only[↓RU,RV,RH,↓reduceIte,qE,reduceCtorEq,if_pos,qN,↓RS,RG,qA,qM,qL,ty1,zab,zbl,zaa,List.append_assoc,List.length_append,List.cons_append,List.nil_append,hk,zbs hgl,zh8 hk hgl,zdv hk hgl,zc3,zc4,zdx,zdy,zj2 hk hgl,zkq hk hgl,zjn hk,zcz hf,zbn,zem]
  apply hK;clear hK K
  refine W.r fun K hK=>?_
  simp(disch:=omega)only[↓RU,RV,RH,↓reduceIte,qE,reduceCtorEq,if_pos,↓RS,RG,qA,qM,qL,List.append_assoc,List.length_append,List.cons_append,List.nil_append,hk,zbs hgl,zh8 hk hgl,zdv hk hgl,zc3,zc4,zdx,zdy,zj2 hk hgl,zkq hk hgl,zjn hk,zcz hf,zbn,zem]
  apply hK;clear hK K
  refine W.seq ?_
  refine W.r fun K hK=>?_
  simp(disch:=omega)only[↓RU,RV,RH,↓reduceIte,qE,reduceCtorEq,if_pos,↓RS,RG,qA,qM,qL,List.append_assoc,List.length_append,List.cons_append,List.nil_append,hk,zbs hgl,zh8 hk hgl,zdv hk hgl,zc3,zc4,zdx,zdy,zj2 hk hgl,zkq hk hgl,zjn hk,zcz hf,zbn,zem]
  apply hK;clear hK K
  refine W.block ?_
  refine W.loop [0,1,2,3,4,5,8,11,12,13] (fun n vs S=>∃ w t:Nat,n=fw p - w∧w≤fw p∧((Lw m p R.length nh w).find? stop=none)∧vs=[.int .i64 (R.length:Nat),.ref (k+2+nh) (u+2) 0,.ref k u 0,.ip [.int .i64 nw] 0,.ip [.int .i64 nh] 0,.ref (k+3+nh) (u+3) 0,.int .i64 (fi p:Nat),.int .i64 (fk p:Nat),.fn 109 [.ref (k+2+nh) (u+2) 0],.int .i64 ((w+1:Nat):Int)]∧S=⟨pre ((Lw m p R.length nh w).foldl nxt s)++(zhg k u lb nh nw (gI p)++tl),t⟩) (fw p) ?_ ?_
  ·refine ⟨_,0,t,rfl,Nat.zero_le _,rfl,?_,zah ?_⟩
   rotate_left
   ·rfl
   simp [Env.put,Env.of,zaf]
  rintro n vs S - ⟨w,t,rfl,h_w,hno,rfl,rfl⟩
  have hk:=Y.len ((Lw m p R.length nh w).foldl nxt s)
  refine W.seq ?_
  refine W.r fun K hK=>?_
  rcases (show w<fw p∨(w=fw p∧fk p+w<nw∧ch p (fi p) (fk p+w)≠46)∨(w=fw p∧¬ fk p+w<nw) from z0w hs.sh hf h_w) with hw | ⟨hw,hw2,hw3⟩ | ⟨hw,hw2⟩
  ·skip
   obtain ⟨hw1,hw2⟩:=(zsp hs.sh hf).1 hw
   have hc:=hrx _ hw1
   rw [hw2 _ (by omega) (by omega)]at hc
   have e1:decide (((fk p:Nat):Int)+((w+1:Nat):Int)≤(nw:Int))=true:=decide_eq_true (by omega)
   have e2:decide (cI 46<0)=true:=rfl
   have tn:(((fk p:Nat):Int)+((w+1:Nat):Int) - 1).toNat=fk p+w:=by omega
   have gr:=ye2 (u:=u) (lb:=lb) (W:=nw) (tl:=tl) hk hgl (z0x hrr)
   simp(disch:=omega)only[↓RU,RV,RH,↓reduceIte,qE,reduceCtorEq,if_pos,w64,↓RS,RG,qA,qM,qL,ty1,zab,zbl,zaa,List.append_assoc,List.length_append,List.cons_append,List.nil_append,hk,zbs hgl,zh8 hk hgl,zdv hk hgl,zc3,zc4,zdx,zdy,zj2 hk hgl,zkq hk hgl,zjn hk,zcz hf,zbn,zem,e1,e2,tn,hc,gr,hrl]
   apply hK;clear hK K
   refine W.cond rfl (fun h8=>?_) (fun h8=>?_)
   ·try simp only[RL]at h8
    refine W.skip ?_
    refine xn ?_
    refine W.seq ?_
    refine W.block ?_
    refine W.r fun K hK=>?_
    simp(disch:=omega)only[↓RU,RV,RH,↓reduceIte,qE,reduceCtorEq,if_pos,↓RS,RG,qA,qM,qL,List.append_assoc,List.length_append,List.cons_append,List.nil_append,hk,zbs hgl,zh8 hk hgl,zdv hk hgl,zc3,zc4,zdx,zdy,zj2 hk hgl,zkq hk hgl,zjn hk,zcz hf,zbn,zem]
    apply hK;clear hK K
    refine W.block ?_
    refine W.loop [0,1,2,3,4,5,8,11,12,13,14] (fun n vs S=>∃ d t:Nat,n=nh - fi p - d∧d≤nh - fi p∧((Lw m p R.length nh w++Ld m p R.length w d).find? stop=none)∧vs=[.int .i64 (R.length:Nat),.ref (k+2+nh) (u+2) 0,.ref k u 0,.ip [.int .i64 nw] 0,.ip [.int .i64 nh] 0,.ref (k+3+nh) (u+3) 0,.int .i64 (fi p:Nat),.int .i64 (fk p:Nat),.fn 109 [.ref (k+2+nh) (u+2) 0],.int .i64 ((w+1:Nat):Int),.int .i64 ((d+1:Nat):Int)]∧S=⟨pre ((Lw m p R.length nh w++Ld m p R.length w d).foldl nxt s)++(zhg k u lb nh nw (gI p)++tl),t⟩) (nh - fi p) ?_ ?_
    ·have hl0:(Lw m p R.length nh w++Ld m p R.length w 0)=(Lw m p R.length nh w):=by rw [show Ld m p R.length w 0=[] from rfl,qN]
     refine ⟨_,0,t,rfl,Nat.zero_le _,by rw [hl0]; exact hno,?_,zah ?_⟩
     rotate_left
     ·rw [hl0]
     simp [Env.put,Env.of]
    rintro n vs S - ⟨d,t,rfl,h_d,hno2,rfl,rfl⟩
    have hk:=Y.len ((Lw m p R.length nh w++Ld m p R.length w d).foldl nxt s)
    refine W.seq ?_
    refine W.r fun K hK=>?_
    simp(disch:=omega)only[↓RU,RV,RH,↓reduceIte,qE,reduceCtorEq,if_pos,w64,↓RS,RG,qA,qM,qL,zaa,List.append_assoc,List.length_append,List.cons_append,List.nil_append,hk,zbs hgl,zh8 hk hgl,zdv hk hgl,zc3,zc4,zdx,zdy,zj2 hk hgl,zkq hk hgl,zjn hk,zcz hf,zbn,zem]
    apply hK;clear hK K
    refine W.cond rfl (fun h2c=>?_) (fun h2c=>?_)
    ·try simp only[RL]at h2c
     have hd:d<nh - fi p:=by omega
     have hps:Shp2 (zef p (fi p) (fk p) (w+1) (rl R.length) (fi p+(d+1))) nh nw:=zky hs.sh
     have hbk:=z98 (c:=rl R.length) (i:=fi p) (k:=fk p) (w:=w+1) (e:=fi p+(d+1)) hs.sh fun a b ha hb q1 q2=>hs.col (fi p) b a hf hb (hw2 b q2.1 (by omega)) q1.1 ha
     refine W.skip ?_
     refine xn ?_
     refine W.seq ?_
     refine W.block ?_
     refine W.r fun K hK=>?_
     simp(disch:=omega)only[↓RU,RV,RH,↓reduceIte,qE,reduceCtorEq,if_pos,↓RS,RG,qA,qM,qL,zcn,zaa,zco,List.append_assoc,List.length_append,List.cons_append,List.nil_append,hk,zbs hgl,zh8 hk hgl,zdv hk hgl,zc3,zc4,zdx,zdy,zj2 hk hgl,zkq hk hgl,zjn hk,zcz hf,zbn,zem]
     apply hK;clear hK K
     refine W.r fun K hK=>?_
     simp(disch:=omega)only[↓RU,RV,RH,↓reduceIte,qE,reduceCtorEq,if_pos,qN,↓RS,RG,qA,qM,qL,zcn,zaa,zco,List.append_assoc,List.length_append,List.cons_append,List.nil_append,hk,zbs hgl,zh8 hk hgl,zdv hk hgl,zc3,zc4,zdx,zdy,zj2 hk hgl,zkq hk hgl,zjn hk,zcz hf,zbn,zem]
     have hE:=zk3 (u:=u) (lb:=lb) (tl:=tl++[Ob.arr t 92 4 [.int .i64 (fi p:Nat),.int .i64 (fk p:Nat),.int .i64 ((d+1:Nat):Int),.int .i64 ((w+1:Nat):Int)]]) (t:=t+1) (c:=rl R.length) hk hs.sh (i:=fi p) (kk:=fk p) (d:=d+1) (w:=w+1) (by omega) (by omega) h2 h4
     rw [hcr]at hE
     refine zad.ev (hE) ?_
     rintro _ _ ⟨rfl,t2,-,rfl⟩
     simp(disch:=omega)only[↓RU,RV,RH,↓reduceIte,qE,reduceCtorEq,if_pos,qN,↓RS,RG,qA,qM,qL,zcn,zaa,zco,List.append_assoc,List.length_append,List.cons_append,List.nil_append,hk,zbs hgl,zh8 hk hgl,zdv hk hgl,zc3,zc4,zdx,zdy,zj2 hk hgl,zkq hk hgl,zjn hk,zcz hf,zbn,zem]
     apply hK;clear hK K
     refine W.r fun K hK=>?_
     rcases hF:(Cd m p R.length w d).find? stop with _ | q
     ·skip
      have hgl:=zhk hps
      simp(disch:=omega)only[↓RU,RV,RH,↓reduceIte,qE,reduceCtorEq,if_pos,w64,qN,↓RS,RG,qA,qM,qL,ycj,zaa,List.append_assoc,List.length_append,List.cons_append,List.nil_append,hk,zbs hgl,zh8 hk hgl,zdv hk hgl,zc3,zc4,zdx,zdy,zj2 hk hgl,zkq hk hgl,zjn hk,zcz hf,zbn,zem]
      refine zad.ev (ih w d hw hd _ _ _) ?_
      rintro _ _ hR
      simp only[zoe,hF]at hR
      obtain ⟨rfl,t3,rfl⟩:=hR
      simp(disch:=omega)only[↓RU,RV,RH,↓reduceIte,qE,reduceCtorEq,if_pos,w64,qN,↓RS,RG,qA,qM,qL,ycj,zaa,List.append_assoc,List.length_append,List.cons_append,List.nil_append,hk,zbs hgl,zh8 hk hgl,zdv hk hgl,zc3,zc4,zdx,zdy,zj2 hk hgl,zkq hk hgl,zjn hk,zcz hf,zbn,zem]
      apply hK;clear hK K
      refine W.r fun K hK=>?_
      have hk:=Y.len ((Cd m p R.length w d).foldl nxt ((Lw m p R.length nh w++Ld m p R.length w d).foldl nxt s))
      simp(disch:=omega)only[↓RU,RV,RH,↓reduceIte,qE,reduceCtorEq,if_pos,qN,↓RS,RG,qA,qM,qL,zcn,zaa,zco,List.append_assoc,List.length_append,List.cons_append,List.nil_append,hk,zbs hgl,zh8 hk hgl,zdv hk hgl,zc3,zc4,zdx,zdy,zj2 hk hgl,zkq hk hgl,zjn hk,zcz hf,zbn,zem]
      have hE:=zk3 (u:=u) (lb:=lb) (tl:=tl++[Ob.arr t 92 4 [.int .i64 (fi p:Nat),.int .i64 (fk p:Nat),.int .i64 ((d+1:Nat):Int),.int .i64 ((w+1:Nat):Int)]]) (t:=t3) (c:=46) hk hps (i:=fi p) (kk:=fk p) (d:=d+1) (w:=w+1) (by omega) (by omega) h2 h4
      rw [hbk,show cI 46 = -1 from rfl]at hE
      refine zad.ev (hE) ?_
      rintro _ _ ⟨rfl,t4,-,rfl⟩
      simp(disch:=omega)only[↓RU,RV,RH,↓reduceIte,qE,reduceCtorEq,if_pos,qN,↓RS,RG,qA,qM,qL,zcn,zaa,zco,List.append_assoc,List.length_append,List.cons_append,List.nil_append,hk,zbs hgl,zh8 hk hgl,zdv hk hgl,zc3,zc4,zdx,zdy,zj2 hk hgl,zkq hk hgl,zjn hk,zcz hf,zbn,zem]
      apply hK;clear hK K
      refine W.r fun K hK=>?_
      simp(disch:=omega)only[↓RU,RV,RH,↓reduceIte,qE,reduceCtorEq,if_pos,↓RS,RG,qA,qM,qL,List.append_assoc,List.length_append,List.cons_append,List.nil_append,hk,zbs hgl,zh8 hk hgl,zdv hk hgl,zc3,zc4,zdx,zdy,zj2 hk hgl,zkq hk hgl,zjn hk,zcz hf,zbn,zem]
      apply hK;clear hK K
      refine W.cond rfl (fun h3c=>?_) (fun h3c=>?_)
      ·try simp only[RL]at h3c
       exact absurd h3c (by simp)
      ·try simp only[RL]at h3c
       refine W.skip ?_
       refine XbN ?_
       refine xn ?_
       refine W.k fun K hK=>?_
       simp(disch:=omega)only[↓RU,RV,RH,↓reduceIte,qE,reduceCtorEq,if_pos,w64,↓RS,RG,qA,qM,qL,zaa,List.append_assoc,List.length_append,List.cons_append,List.nil_append,hk,zbs hgl,zh8 hk hgl,zdv hk hgl,zc3,zc4,zdx,zdy,zj2 hk hgl,zkq hk hgl,zjn hk,zcz hf,zbn,zem]
       apply hK;clear hK K
       refine xn ?_
       refine ⟨nh - fi p - (d+1),by omega,_,d+1,t4,rfl,by omega,?_,?_,yg4 ?_⟩
       rotate_left 2
       ·simp only[zt3,← List.append_assoc,List.foldl_append]
       ·rw [zt3,← List.append_assoc,List.find?_append,hno2,Option.none_or]; exact hF
       simp [Env.put,Env.of]
     skip
     have hgl:=zhk hps
     simp(disch:=omega)only[↓RU,RV,RH,↓reduceIte,qE,reduceCtorEq,if_pos,w64,qN,↓RS,RG,qA,qM,qL,ycj,zaa,List.append_assoc,List.length_append,List.cons_append,List.nil_append,hk,zbs hgl,zh8 hk hgl,zdv hk hgl,zc3,zc4,zdx,zdy,zj2 hk hgl,zkq hk hgl,zjn hk,zcz hf,zbn,zem]
     refine zad.ev (ih w d hw hd _ _ _) ?_
     rintro _ _ hR
     simp only[zoe,hF]at hR
     obtain ⟨rfl,t3,x,J,hS3⟩:=hR
     have hz:nh+4+(tl++[Ob.arr t 92 4 [.int .i64 (fi p:Nat),.int .i64 (fk p:Nat),.int .i64 ((d+1:Nat):Int),.int .i64 ((w+1:Nat):Int)]]).length+J.length=nh+4+tl.length+(Ob.arr t 92 4 [.int .i64 (fi p:Nat),.int .i64 (fk p:Nat),.int .i64 ((d+1:Nat):Int),.int .i64 ((w+1:Nat):Int)]::J).length:=by simp only[List.length_append,List.length_cons,List.length_nil]; omega
     rw [hz]at hS3
     generalize hG:fin (nh+4+tl.length+(Ob.arr t 92 4 [.int .i64 (fi p:Nat),.int .i64 (fk p:Nat),.int .i64 ((d+1:Nat):Int),.int .i64 ((w+1:Nat):Int)]::J).length) q x=G at hS3
     subst hS3
     simp(disch:=omega)only[↓RU,RV,RH,↓reduceIte,qE,reduceCtorEq,if_pos,w64,qN,↓RS,RG,qA,qM,qL,ycj,zaa,List.append_assoc,List.length_append,List.cons_append,List.nil_append,hk,zbs hgl,zh8 hk hgl,zdv hk hgl,zc3,zc4,zdx,zdy,zj2 hk hgl,zkq hk hgl,zjn hk,zcz hf,zbn,zem]
     apply hK;clear hK K
     refine W.r fun K hK=>?_
     have hk:G.1.length=k:=by rw [← hG]; exact Y.finl _ q x
     simp(disch:=omega)only[↓RU,RV,RH,↓reduceIte,qE,reduceCtorEq,if_pos,qN,↓RS,RG,qA,qM,qL,zcn,zaa,zco,List.append_assoc,List.length_append,List.cons_append,List.nil_append,hk,zbs hgl,zh8 hk hgl,zdv hk hgl,zc3,zc4,zdx,zdy,zj2 hk hgl,zkq hk hgl,zjn hk,zcz hf,zbn,zem]
     have hE:=zk3 (u:=u) (lb:=lb) (tl:=tl++Ob.arr t 92 4 [.int .i64 (fi p:Nat),.int .i64 (fk p:Nat),.int .i64 ((d+1:Nat):Int),.int .i64 ((w+1:Nat):Int)]::(J++G.2)) (t:=t3) (c:=46) hk hps (i:=fi p) (kk:=fk p) (d:=d+1) (w:=w+1) (by omega) (by omega) h2 h4
     rw [hbk,show cI 46 = -1 from rfl]at hE
     refine zad.ev (hE) ?_
     rintro _ _ ⟨rfl,t4,-,rfl⟩
     simp(disch:=omega)only[↓RU,RV,RH,↓reduceIte,qE,reduceCtorEq,if_pos,qN,↓RS,RG,qA,qM,qL,zcn,zaa,zco,List.append_assoc,List.length_append,List.cons_append,List.nil_append,hk,zbs hgl,zh8 hk hgl,zdv hk hgl,zc3,zc4,zdx,zdy,zj2 hk hgl,zkq hk hgl,zjn hk,zcz hf,zbn,zem]
     apply hK;clear hK K
     refine W.r fun K hK=>?_
     simp(disch:=omega)only[↓RU,RV,RH,↓reduceIte,qE,reduceCtorEq,if_pos,↓RS,RG,qA,qM,qL,List.append_assoc,List.length_append,List.cons_append,List.nil_append,hk,zbs hgl,zh8 hk hgl,zdv hk hgl,zc3,zc4,zdx,zdy,zj2 hk hgl,zkq hk hgl,zjn hk,zcz hf,zbn,zem]
     apply hK;clear hK K
     refine W.cond rfl (fun h3c=>?_) (fun h3c=>?_)
     ·try simp only[RL]at h3c
      refine W.r fun K hK=>?_
      simp(disch:=omega)only[↓RU,RV,RH,↓reduceIte,qE,reduceCtorEq,if_pos,↓RS,RG,qA,qM,qL,List.append_assoc,List.length_append,List.cons_append,List.nil_append,hk,zbs hgl,zh8 hk hgl,zdv hk hgl,zc3,zc4,zdx,zdy,zj2 hk hgl,zkq hk hgl,zjn hk,zcz hf,zbn,zem]
      apply hK;clear hK K
      refine W.ret ?_
      refine XBlock.ret ?_
      refine XThen.ret ?_
      refine XThen.ret ?_
      refine XBlock.ret ?_
      refine XBlock.ret ?_
      refine XThen.ret ?_
      refine XThen.ret ?_
      refine XBlock.ret ?_
      refine XThen.ret ?_
      refine Br rfl ?_
      obtain ⟨r,hr⟩:=z8v (m:=m) (p:=p) (n:=R.length) hw hd
      exact ⟨_,by rw [zoe,hr,List.find?_append,List.find?_append,hno2,hF]; exact ⟨rfl,t4,x,Ob.arr t 92 4 [.int .i64 (fi p:Nat),.int .i64 (fk p:Nat),.int .i64 ((d+1:Nat):Int),.int .i64 ((w+1:Nat):Int)]::J,by rw [hG]; exact zal⟩⟩
     try simp only[RL]at h3c
     exact absurd h3c (by simp)
    ·try simp only[RL]at h2c
     obtain rfl:d=nh - fi p:=by omega
     refine W.exit ?_
     refine xe ?_
     refine xe ?_
     refine XBlock.hit ?_
     refine XbN ?_
     refine xn ?_
     refine W.k fun K hK=>?_
     simp(disch:=omega)only[↓RU,RV,RH,↓reduceIte,qE,reduceCtorEq,if_pos,w64,↓RS,RG,qA,qM,qL,zaa,List.append_assoc,List.length_append,List.cons_append,List.nil_append,hk,zbs hgl,zh8 hk hgl,zdv hk hgl,zc3,zc4,zdx,zdy,zj2 hk hgl,zkq hk hgl,zjn hk,zcz hf,zbn,zem]
     apply hK;clear hK K
     refine xn ?_
     refine ⟨fw p - (w+1),by omega,_,w+1,t,rfl,by omega,?_,?_,zah ?_⟩
     ·rw [zt4]; exact hno2
     rotate_left
     ·rw [zt4]
     simp [Env.put,Env.of]
   try simp only[RL]at h8
   exact absurd h8 (by simp)
  ·skip
   have hc:=hrx _ hw2
   have hlc:=(hs.letter hn hf hw2).resolve_left hw3
   have e1:decide (((fk p:Nat):Int)+((w+1:Nat):Int)≤(nw:Int))=true:=decide_eq_true (by omega)
   have e2:decide (cI (ch p (fi p) (fk p+w))<0)=false:=decide_eq_false (by unfold cI; rw [if_neg hw3]; omega)
   have tn:(((fk p:Nat):Int)+((w+1:Nat):Int) - 1).toNat=fk p+w:=by omega
   have gr:=ye2 (u:=u) (lb:=lb) (W:=nw) (tl:=tl) hk hgl (z0x hrr)
   simp(disch:=omega)only[↓RU,RV,RH,↓reduceIte,qE,reduceCtorEq,if_pos,w64,↓RS,RG,qA,qM,qL,ty1,zab,zbl,zaa,List.append_assoc,List.length_append,List.cons_append,List.nil_append,hk,zbs hgl,zh8 hk hgl,zdv hk hgl,zc3,zc4,zdx,zdy,zj2 hk hgl,zkq hk hgl,zjn hk,zcz hf,zbn,zem,e1,e2,tn,hc,gr,hrl]
   apply hK;clear hK K
   refine W.cond rfl (fun h8=>?_) (fun h8=>?_)
   ·try simp only[RL]at h8
    exact absurd h8 (by simp)
   try simp only[RL]at h8
   subst hw
   refine W.exit ?_
   refine xe ?_
   refine xe ?_
   refine XBlock.hit ?_
   refine xn ?_
   refine W.r fun K hK=>?_
   simp(disch:=omega)only[↓RU,RV,RH,↓reduceIte,qE,reduceCtorEq,if_pos,↓RS,RG,qA,qM,qL,List.append_assoc,List.length_append,List.cons_append,List.nil_append,hk,zbs hgl,zh8 hk hgl,zdv hk hgl,zc3,zc4,zdx,zdy,zj2 hk hgl,zkq hk hgl,zjn hk,zcz hf,zbn,zem]
   apply hK;clear hK K
   refine W.ret ?_
   refine Br rfl ?_
   exact ⟨_,by rw [zoe,hno]; exact ⟨rfl,t,zal⟩⟩
  skip
  have e1:decide (((fk p:Nat):Int)+((w+1:Nat):Int)≤(nw:Int))=false:=decide_eq_false (by omega)
  simp(disch:=omega)only[↓RU,RV,RH,↓reduceIte,qE,reduceCtorEq,if_pos,w64,↓RS,RG,qA,qM,qL,ty1,zab,zbl,zaa,List.append_assoc,List.length_append,List.cons_append,List.nil_append,hk,zbs hgl,zh8 hk hgl,zdv hk hgl,zc3,zc4,zdx,zdy,zj2 hk hgl,zkq hk hgl,zjn hk,zcz hf,zbn,zem,e1]
  apply hK;clear hK K
  refine W.cond rfl (fun h8=>?_) (fun h8=>?_)
  ·try simp only[RL]at h8
   exact absurd h8 (by simp)
  try simp only[RL]at h8
  subst hw
  refine W.exit ?_
  refine xe ?_
  refine xe ?_
  refine XBlock.hit ?_
  refine xn ?_
  refine W.r fun K hK=>?_
  simp(disch:=omega)only[↓RU,RV,RH,↓reduceIte,qE,reduceCtorEq,if_pos,↓RS,RG,qA,qM,qL,List.append_assoc,List.length_append,List.cons_append,List.nil_append,hk,zbs hgl,zh8 hk hgl,zdv hk hgl,zc3,zc4,zdx,zdy,zj2 hk hgl,zkq hk hgl,zjn hk,zcz hf,zbn,zem]
  apply hK;clear hK K
  refine W.ret ?_
  refine Br rfl ?_
  exact ⟨_,by rw [zoe,hno]; exact ⟨rfl,t,zal⟩⟩
theorem zh4 {l:Nat}:(PV.yl l).cells=[.yl l]:=rfl
theorem zy7 {l:Nat}:(PV.yl l).isCell=true:=rfl
theorem z5r {σ:Type} {lb k nh nw:Nat} {pre:σ→List Ob} {fin:Nat→List Txt→Nat→List Ob × List Ob} {stop:List Txt→Bool} {nxt:σ→List Txt→σ} (Y:YC lb k nh nw pre fin stop nxt) (h1:1≤nh) (h2:nh≤6) (h3:1≤nw) (h4:nw≤6) (h9:nh*nw≤9):∀ (m:Nat) {p:List Txt} {R:List RmB},St nh nw p R→R.length+m=9→∀ (u:Nat) (s:σ) (tl:List Ob) (t:Nat) (n:Int),n=(R.length:Nat) →
  Ev Tryz.prog 105 [.int .i64 n,.ref (k+2+nh) (u+2) 0,.ref k u 0,.ip [.int .i64 nw] 0,.ip [.int .i64 nh] 0,.ref (k+3+nh) (u+3) 0] ⟨pre s++(zhg k u lb nh nw (gI p)++tl),t⟩ (zoe k u lb nh nw pre fin stop nxt (En m p R.length) s p tl)
 | 0,p,R,hs,hm,u,s,tl,t,n,hn=>by
  have hf:¬ fi p<nh:=fun hf=>by
   obtain ⟨f1,f2,-⟩:=ziw hs.sh hf
   have:=hs.lim hf f1 f2
   omega
  exact zwi Y hs (by omega) h1 h2 h3 h4 hf s tl t n
 | m+1,p,R,hs,hm,u,s,tl,t,n,hn=>by
  subst hn
  by_cases hf:fi p<nh
  ·rw [yct hs.sh.h hf]
   refine z5s Y hs (by omega) h1 h2 h3 h4 hm h9 hf s tl t fun w d hw hd s tl t=>?_
   have hl:(R++[(⟨fi p,fk p,d+1,w+1⟩:RmB)]).length=R.length+1:=by simp
   have:=z5r Y h1 h2 h3 h4 h9 m (hs.next h9 hf hw hd) (by omega) u s tl t (((R.length:Nat):Int)+1) (by rw [hl]; rfl)
   rw [hl]at this
   exact this
  have e:En (m+1) p R.length=[p]:=by
   unfold En
   rw [hs.sh.h,if_neg hf]
  rw [e]
  exact zwi Y hs (by omega) h1 h2 h3 h4 hf s tl t _
theorem z82 {nh nw:Nat}:bgT (fun _ _ => -1) nw nh=gI (dots nh nw):=by
 unfold bgT gI dots
 rw [List.map_replicate,List.map_replicate,List.map_const',List.map_const',List.length_range,List.length_range]
 rfl
theorem ygb {A Rw tl:List Ob} {y o:Ob} {k nh n:Nat} (hA:A.length=k) (hR:Rw.length=nh) (j:Nat) (hn:n=k+(nh+2+j)):(A++y::o::(Rw++tl))[n]?=tl[j]?:=by
 subst hn
 rw [List.getElem?_append_right (by omega),show k+(nh+2+j) - A.length=nh+j+1+1 by omega,List.getElem?_cons_succ,List.getElem?_cons_succ,List.getElem?_append_right (by omega)]
 congr 1; omega
theorem ygc {A Rw tl:List Ob} {y o b:Ob} {k nh n:Nat} (hA:A.length=k) (hR:Rw.length=nh) (j:Nat) (hn:n=k+(nh+2+j)):(A++y::o::(Rw++tl)).set n b=A++y::o::(Rw++tl.set j b):=by
 subst hn
 rw [List.set_append_right _ _ (by omega),show k+(nh+2+j) - A.length=nh+j+1+1 by omega,List.set_cons_succ,List.set_cons_succ,List.set_append_right _ _ (by omega)]
 congr 5; omega
def ye7 {σ:Type} (pre:σ→List Ob) (fin:Nat→List Txt→Nat→List Ob × List Ob) (stop:List Txt→Bool) (nxt:σ→List Txt→σ) (L:List (List Txt)) (s:σ) (S:Store):Prop :=
 match L.find? stop with
 | none=>∃ t,S=⟨pre (L.foldl nxt s),t⟩
 | some q=>∃ t x J,S=⟨(fin (List.length J) q x).1++(J++(fin (List.length J) q x).2),t⟩
theorem z9f {σ:Type} {lb k nh nw:Nat} {pre:σ→List Ob} {fin:Nat→List Txt→Nat→List Ob × List Ob} {stop:List Txt→Bool} {nxt:σ→List Txt→σ} (Y:YC lb k nh nw pre fin stop nxt) {v:PV} {S:Store} {p:List Txt} (hp:Shp2 p nh nw) {u:Nat} {L:List (List Txt)} {s:σ} (h:zoe k u lb nh nw pre fin stop nxt L s p [] v S):∃ j,ye7 pre fin stop nxt L s (S.take j):=by
 unfold zoe at h
 unfold ye7
 cases hF:L.find? stop with
 | none =>
  rw [hF]at h
  obtain ⟨-,t,rfl⟩:=h
  exact ⟨(pre (L.foldl nxt s)).length,t,by show (⟨List.take _ _,t⟩:Store)=_; rw [List.take_left]⟩
 | some q =>
  rw [hF]at h
  obtain ⟨-,t,x,J,rfl⟩:=h
  have e:nh+4+([]:List Ob).length+J.length=(zhg k u lb nh nw (gI p)++J).length:=by rw [List.length_append,zbs (zhk hp)]; rfl
  rw [e]
  exact ⟨_,t,x,zhg k u lb nh nw (gI p)++J,zah (by rw [List.nil_append,List.append_assoc])⟩
theorem zwh {σ:Type} {lb k nh nw:Nat} {pre:σ→List Ob} {fin:Nat→List Txt→Nat→List Ob × List Ob} {stop:List Txt→Bool} {nxt:σ→List Txt→σ} (Y:YC lb k nh nw pre fin stop nxt) (h1:1≤nh) (h2:nh≤6) (h3:1≤nw) (h4:nw≤6) (h9:nh*nw≤9) (s:σ) (t:Nat):Ev Tryz.prog 102 [.yl lb,.ip [.int .i64 nh] 0,.ip [.int .i64 nw] 0] ⟨pre s,t⟩ fun v S=>ye7 pre fin stop nxt (ze9 nh nw) s S:=by
 have hk:=Y.len s
 have hB:=z2q (c:=fun _ _ => -1) (nh:=nh) (nw:=nw) (by omega) (by omega) (g:=104) (cap:=[]) (fun _ _=>rfl) fun r w _ _=>z9t r w
 rw [z82]at hB
 have hR:∀ v,(rwO v (gI (dots nh nw))).length=nh:=fun v=>by rw [zjb,zhk zop]
 refine Ev.of ⟨Tryz.func102,by kernel_rfl,rfl,by kernel_rfl⟩ zam mixed (by show 3≤Tryz.f102.ntmps; decide) ?_
 refine W.r fun K hK=>?_
 simp(disch:=omega)only[↓RU,RV,RH,↓reduceIte,qE,reduceCtorEq,if_pos,↓RS,RG,qA,qM,qL,yhn,hk,List.append_assoc,List.length_append,List.cons_append,List.nil_append,Int.toNat_zero,List.getElem?_cons_zero,zh4,zy7,zh3,zy6]
 apply hK;clear hK K
 refine W.r fun K hK=>?_
 simp(disch:=omega)only[↓RU,RV,RH,↓reduceIte,qE,reduceCtorEq,if_pos,qN,↓RS,RG,qA,qM,qL,ty1,zab,zbl,zaa,hk,List.append_assoc,List.length_append,List.cons_append,List.nil_append,Int.toNat_zero,List.getElem?_cons_zero,zh4,zy7,zh3,zy6,ycm,yco,hR,ygb hk (hR (t+1)) 0 (show k+(nh+1+1)=k+(nh+2+0) by omega),ygc hk (hR (t+1)) 0 (show k+(nh+1+1)=k+(nh+2+0) by omega)]
 refine zad.pn (hB) rfl (.inl rfl) ?_
 simp(disch:=omega)only[↓RU,RV,RH,↓reduceIte,qE,reduceCtorEq,if_pos,qN,↓RS,RG,qA,qM,qL,ty1,zab,zbl,zaa,hk,List.append_assoc,List.length_append,List.cons_append,List.nil_append,Int.toNat_zero,List.getElem?_cons_zero,zh4,zy7,zh3,zy6,ycm,yco,hR,ygb hk (hR (t+1)) 0 (show k+(nh+1+1)=k+(nh+2+0) by omega),ygc hk (hR (t+1)) 0 (show k+(nh+1+1)=k+(nh+2+0) by omega),RN]
 apply hK;clear hK K
 refine W.r fun K hK=>?_
 simp(disch:=omega)only[↓RU,RV,RH,↓reduceIte,qE,reduceCtorEq,if_pos,↓RS,RG,qA,qM,qL,ycj,hk,List.append_assoc,List.length_append,List.cons_append,List.nil_append,Int.toNat_zero,List.getElem?_cons_zero,zh4,zy7,zh3,zy6,hR]
 apply hK;clear hK K
 refine W.r fun K hK=>?_
 simp(disch:=omega)only[↓RU,RV,RH,↓reduceIte,qE,reduceCtorEq,if_pos,↓RS,RG,qA,qM,qL,ycj,hk,List.append_assoc,List.length_append,List.cons_append,List.nil_append,Int.toNat_zero,List.getElem?_cons_zero,zh4,zy7,zh3,zy6,hR,ygb hk (hR (t+1)) 1 (show k+(nh+1+1+1)=k+(nh+2+1) by omega),ygc hk (hR (t+1)) 1 (show k+(nh+1+1+1)=k+(nh+2+1) by omega)]
 apply hK;clear hK K
 refine W.k fun K hK=>?_
 simp(disch:=omega)only[↓RU,RV,RH,↓reduceIte,qE,reduceCtorEq,if_pos,qN,↓RS,RG,qA,qM,qL,ycj,hk,List.append_assoc,List.length_append,List.cons_append,List.nil_append,Int.toNat_zero,List.getElem?_cons_zero,zh4,zy7,zh3,zy6,hR,ygb hk (hR (t+1)) 1 (show k+(nh+1+1+1)=k+(nh+2+1) by omega),ygc hk (hR (t+1)) 1 (show k+(nh+1+1+1)=k+(nh+2+1) by omega)]
 rw [show k+(nh+1+1)=k+2+nh by omega,show k+(nh+1+1+1)=k+3+nh by omega,show 1+(k+1)=k+2 by omega]
 have hF:=z5r Y h1 h2 h3 h4 h9 9 (zy0 (H:=nh) (W:=nw)) rfl t s [] (t+1+1+1+1) 0 rfl
 simp only[qN,zhg,zem]at hF
 refine zad.ev (hF) ?_
 rintro _ S2 hR2
 simp(disch:=omega)only[↓RU,RV,RH,↓reduceIte,qE,reduceCtorEq,if_pos,qN,↓RS,RG,qA,qM,qL,ycj,hk,List.append_assoc,List.length_append,List.cons_append,List.nil_append,Int.toNat_zero,List.getElem?_cons_zero,zh4,zy7,zh3,zy6,hR,ygb hk (hR (t+1)) 1 (show k+(nh+1+1+1)=k+(nh+2+1) by omega),ygc hk (hR (t+1)) 1 (show k+(nh+1+1+1)=k+(nh+2+1) by omega)]
 apply hK;clear hK K
 refine zew.norm rfl ?_
 exact z9f Y zop hR2
end
theorem zuv {p:List Txt} (hv:zc5 p=true):PC Tryz.prog 51 [.agg [zhf (lfM p),zhf (abM p)]] (eInts (zec p)) true:=PN.ints0 (yd4 hv) rfl zfx
def ifL (b:Bool) (l:List Int):List Int:=if b then l else []
theorem zp8 {p:List Txt} (hs:Sm p) (hp:zbt p=true) (below:Bool):PC Tryz.prog 92 [zan p,.bool below] (eInts (srt p below)) true:=PN.ints0 (zzd hs hp below) rfl zid
theorem yb6 {p:List Txt} (hs:Sm p) (hv:zc5 p=false):PC Tryz.prog 24 [zan p] (.tup [eInts [],.bool false]) false:=by
 refine PC.of ⟨Tryz.func24,by kernel_rfl,rfl,by kernel_rfl⟩ zam mixed (by show 1≤Tryz.f24.ntmps; decide) ?_
 refine W.r fun K hK=>?_
 simp(disch:=omega)only[↓RU,RV,RH,↓reduceIte,qE,reduceCtorEq,if_pos,↓RS,RG,qA,qM,qL]
 apply hK;clear hK K
 refine W.r fun K hK=>?_
 simp(disch:=omega)only[↓RU,RV,RH,↓reduceIte,qE,reduceCtorEq,if_pos,qN,↓RS,RG,qA,qM,qL,ty0,ty3,zaj,zhh,zfe,zhi]
 refine zad.pc (zzg hs hv) rfl (.inr rfl) ?_
 simp(disch:=omega)only[↓RU,RV,RH,↓reduceIte,qE,reduceCtorEq,if_pos,qN,↓RS,RG,qA,qM,qL,ty0,ty3,zaj,zhh,zfe,zhi]
 apply hK;clear hK K
 refine W.seq ?_
 refine W.r fun K hK=>?_
 simp(disch:=omega)only[↓RU,RV,RH,↓reduceIte,qE,reduceCtorEq,if_pos,↓RS,RG,qA,qM,qL]
 apply hK;clear hK K
 refine W.cond rfl (fun h=>?_) (fun h=>?_)
 ·try simp only[RL]at h
  refine W.r fun K hK=>?_
  simp(disch:=omega)only[↓RU,RV,RH,↓reduceIte,qE,reduceCtorEq,if_pos,↓RS,RG,qA,qM,qL]
  apply hK;clear hK K
  refine W.ret ?_
  refine XThen.ret ?_
  refine Br rfl ?_
  rfl
 try simp only[RL]at h
 exact absurd h (by simp)
theorem zp7 {p:List Txt} (hs:Sm p) (hp:zbt p=true):PC Tryz.prog 44 [zan p] (eInts (zec p)) true:=by
 obtain ⟨hg,hr,hn9,hn1,-,-⟩:=zna hp
 have hl1:=zid (p:=p) (below:=false)
 have hl2:=zid (p:=p) (below:=true)
 have hpl:=zfx (p:=p)
 refine PC.of ⟨Tryz.func44,by kernel_rfl,rfl,by kernel_rfl⟩ zam mixed (by show 1≤Tryz.f44.ntmps; decide) ?_
 refine W.r fun K hK=>?_
 simp(disch:=omega)only[↓RU,RV,RH,↓reduceIte,qE,reduceCtorEq,if_pos,↓RS,RG,qA,qM,qL]
 apply hK;clear hK K
 refine W.r fun K hK=>?_
 simp(disch:=omega)only[↓RU,RV,RH,↓reduceIte,qE,reduceCtorEq,if_pos,qN,↓RS,RG,qA,qM,qL]
 refine zad.pc (zp8 hs hp false) rfl (.inl rfl) ?_
 simp(disch:=omega)only[↓RU,RV,RH,↓reduceIte,qE,reduceCtorEq,if_pos,qN,↓RS,RG,qA,qM,qL]
 apply hK;clear hK K
 refine W.r fun K hK=>?_
 simp(disch:=omega)only[↓RU,RV,RH,↓reduceIte,qE,reduceCtorEq,if_pos,qN,↓RS,RG,qA,qM,qL]
 refine zad.pc (zp8 hs hp true) rfl (.inl rfl) ?_
 simp(disch:=omega)only[↓RU,RV,RH,↓reduceIte,qE,reduceCtorEq,if_pos,qN,↓RS,RG,qA,qM,qL]
 apply hK;clear hK K
 refine W.r fun K hK=>?_
 simp(disch:=omega)only[↓RU,RV,RH,↓reduceIte,qE,reduceCtorEq,if_pos,↓RS,RG,qA,qM,qL,zab,zaa,hl1,zdl,zcx]
 apply hK;clear hK K
 refine W.seq ?_
 refine W.r fun K hK=>?_
 simp(disch:=omega)only[↓RU,RV,RH,↓reduceIte,qE,reduceCtorEq,if_pos,↓RS,RG,qA,qM,qL]
 apply hK;clear hK K
 refine W.block ?_
 refine W.loop [3,4,5,6] (fun n vs S=>∃ i t tv:Nat,n=(rP p).length - i∧i≤(rP p).length∧vs=[eInts (srt p false),eInts (srt p true),.loc 0 t 0 (rP p).length,.int .i64 i]∧S=⟨[.arr t 3 1 ((z96 p i).map (.int .i64))],tv⟩) (rP p).length ?_ ?_
 ·refine ⟨1,0,0,1,rfl,by omega,?_,rfl⟩
  simp [Env.put,Env.of,zaf]
 rintro n vs S - ⟨i,t,tv,rfl,h_i,rfl,rfl⟩
 refine W.seq ?_
 refine W.r fun K hK=>?_
 simp(disch:=omega)only[↓RU,RV,RH,↓reduceIte,qE,reduceCtorEq,if_pos,w64,↓RS,RG,qA,qM,qL,zab,zaa]
 apply hK;clear hK K
 refine W.cond rfl (fun h=>?_) (fun h=>?_)
 ·try simp only[RL]at h
  obtain ⟨a,ha,ha2,hsa⟩:=zvb (below:=false) hp (show i<(rP p).length by omega)
  have hpl2:=zoz (p:=p) i
  refine W.skip ?_
  refine xn ?_
  refine W.seq ?_
  refine W.block ?_
  refine W.k fun K hK=>?_
  simp(disch:=omega)only[↓RU,RV,RH,↓reduceIte,qE,reduceCtorEq,if_pos,↓RS,RG,qA,qM,qL,zab,zaa,hsa,hpl2,za3,zcy,Int.toNat_natCast]
  apply hK;clear hK K
  refine XbN ?_
  refine xn ?_
  refine W.k fun K hK=>?_
  simp(disch:=omega)only[↓RU,RV,RH,↓reduceIte,qE,reduceCtorEq,if_pos,w64,↓RS,RG,qA,qM,qL,zaa]
  apply hK;clear hK K
  refine xn ?_
  refine ⟨(rP p).length - (i+1),by omega,1,i+1,t,tv,rfl,by omega,?_,?_⟩
  ·simp [Env.put,Env.of]
  simp only[zap,z96,z53 hsa,Int.toNat_natCast]; rfl
 try simp only[RL]at h
 obtain rfl:i=(rP p).length:=by omega
 have hpl2:=zoz (p:=p) (rP p).length
 refine W.exit ?_
 refine xe ?_
 refine xe ?_
 refine XBlock.hit ?_
 refine xn ?_
 refine W.r fun K hK=>?_
 simp(disch:=omega)only[↓RU,RV,RH,↓reduceIte,qE,reduceCtorEq,if_pos,↓RS,RG,qA,qM,qL,zab,zaa]
 apply hK;clear hK K
 refine W.seq ?_
 refine W.r fun K hK=>?_
 simp(disch:=omega)only[↓RU,RV,RH,↓reduceIte,qE,reduceCtorEq,if_pos,↓RS,RG,qA,qM,qL]
 apply hK;clear hK K
 refine W.block ?_
 refine W.loop [4,5,7,8] (fun n vs S=>∃ k vo tk2:Nat,n=(rP p).length - k∧k≤(rP p).length∧vs=[eInts (srt p true),.loc 0 t 0 (rP p).length,.loc 1 vo 0 k,.int .i64 k]∧S=⟨[.arr t 3 1 ((z96 p (rP p).length).map (.int .i64)),.arr vo 3 1 (((zec p).take k).map (.int .i64))],tk2⟩) (rP p).length ?_ ?_
 ·refine ⟨2,0,tv,tv+1,rfl,by omega,?_,by simp [zap]⟩
  simp [Env.put,Env.of]
 rintro n vs S - ⟨k,vo,tk2,rfl,h_k,rfl,rfl⟩
 refine W.seq ?_
 refine W.r fun K hK=>?_
 simp(disch:=omega)only[↓RU,RV,RH,↓reduceIte,qE,reduceCtorEq,if_pos,w64,↓RS,RG,qA,qM,qL,zab,zaa]
 apply hK;clear hK K
 refine W.cond rfl (fun h1=>?_) (fun h1=>?_)
 ·try simp only[RL]at h1
  obtain ⟨b,hb,hb2,hsb⟩:=zvb (below:=true) hp (show k<(rP p).length by omega)
  have hpa:=z1o hp hsb
  have hpc:=z7c hp (rP p).length (qR _) b hb (ybd hp hb)
  have hol:(((zec p).take k)).length=k:=by rw [List.length_take]; omega
  refine W.skip ?_
  refine xn ?_
  refine W.seq ?_
  refine W.block ?_
  refine W.k fun K hK=>?_
  simp(disch:=omega)only[↓RU,RV,RH,↓reduceIte,qE,reduceCtorEq,if_pos,↓RS,RG,qA,qM,qL,zab,zaa,hsb,hpc,hpl2,tk_i hol,Int.toNat_natCast]
  apply hK;clear hK K
  refine XbN ?_
  refine xn ?_
  refine W.k fun K hK=>?_
  simp(disch:=omega)only[↓RU,RV,RH,↓reduceIte,qE,reduceCtorEq,if_pos,w64,↓RS,RG,qA,qM,qL,zaa]
  apply hK;clear hK K
  refine xn ?_
  refine ⟨(rP p).length - (k+1),by omega,2,k+1,tk2+1,tk2+2,rfl,by omega,?_,?_⟩
  ·simp [Env.put,Env.of,zmn]
  simp only[zap,tk hpa,List.map_append,← List.map_take]; simp [zmn]
 try simp only[RL]at h1
 obtain rfl:k=(rP p).length:=by omega
 refine W.exit ?_
 refine xe ?_
 refine xe ?_
 refine XBlock.hit ?_
 refine xn ?_
 refine W.r fun K hK=>?_
 simp(disch:=omega)only[↓RU,RV,RH,↓reduceIte,qE,reduceCtorEq,if_pos,↓RS,RG,qA,qM,qL]
 apply hK;clear hK K
 refine W.ret ?_
 refine Br rfl ?_
 rw [qT (by omega)]
 exact ((zax (k:=9) rfl (by simp [hpl]) (zfq _)).trans (by rw [← hpl]))
theorem yaj {p:List Txt} (hs:Sm p):PC Tryz.prog 69 [zan p] (.tup [eInts (ifL (zbt p) (zec p)),.bool (zbt p)]) false:=by
 refine PC.of ⟨Tryz.func69,by kernel_rfl,rfl,by kernel_rfl⟩ zam mixed (by show 1≤Tryz.f69.ntmps; decide) ?_
 refine W.r fun K hK=>?_
 simp(disch:=omega)only[↓RU,RV,RH,↓reduceIte,qE,reduceCtorEq,if_pos,↓RS,RG,qA,qM,qL]
 apply hK;clear hK K
 refine W.seq ?_
 refine W.r fun K hK=>?_
 simp(disch:=omega)only[↓RU,RV,RH,↓reduceIte,qE,reduceCtorEq,if_pos,qN,↓RS,RG,qA,qM,qL]
 refine zad.pc (zjo hs) rfl (.inl rfl) ?_
 simp(disch:=omega)only[↓RU,RV,RH,↓reduceIte,qE,reduceCtorEq,if_pos,qN,↓RS,RG,qA,qM,qL]
 apply hK;clear hK K
 refine W.cond rfl (fun h0=>?_) (fun h0=>?_)
 ·try simp only[RL]at h0
  have h:zbt p=false:=by simpa using h0
  refine W.r fun K hK=>?_
  simp(disch:=omega)only[↓RU,RV,RH,↓reduceIte,qE,reduceCtorEq,if_pos,↓RS,RG,qA,qM,qL,zab,zaa]
  apply hK;clear hK K
  refine W.ret ?_
  refine XThen.ret ?_
  refine Br rfl ?_
  rw [h]
  rfl
 try simp only[RL]at h0
 have h:zbt p=true:=by simpa using h0
 refine W.skip ?_
 refine xn ?_
 refine W.r fun K hK=>?_
 simp(disch:=omega)only[↓RU,RV,RH,↓reduceIte,qE,reduceCtorEq,if_pos,qN,↓RS,RG,qA,qM,qL]
 refine zad.pc (zp7 hs h) rfl (.inl rfl) ?_
 simp(disch:=omega)only[↓RU,RV,RH,↓reduceIte,qE,reduceCtorEq,if_pos,qN,↓RS,RG,qA,qM,qL]
 apply hK;clear hK K
 refine W.ret ?_
 refine Br rfl ?_
 rw [h]
 rfl
theorem zsv {p q:List Int} (hp:p.length<2147483648) (hq:q.length<2147483648):PC Tryz.prog 46 [eInts p,eInts q] (.bool (decide (p=q))) true:=by
 refine PC.of ⟨Tryz.func46,by kernel_rfl,rfl,by kernel_rfl⟩ zam mixed (by show 2≤Tryz.f46.ntmps; decide) ?_
 refine W.r fun K hK=>?_
 simp(disch:=omega)only[↓RU,RV,RH,↓reduceIte,qE,reduceCtorEq,if_pos]
 apply hK;clear hK K
 refine W.seq ?_
 refine W.r fun K hK=>?_
 simp(disch:=omega)only[↓RU,RV,RH,↓reduceIte,qE,reduceCtorEq,if_pos,w64,zab,zaa]
 apply hK;clear hK K
 refine W.cond rfl (fun h=>?_) (fun h=>?_)
 ·try simp only[RL]at h
  refine W.r fun K hK=>?_
  simp(disch:=omega)only[↓RU,RV,RH,↓reduceIte,qE,reduceCtorEq,if_pos]
  apply hK;clear hK K
  refine W.ret ?_
  refine XThen.ret ?_
  refine Br rfl ?_
  rw [show decide (p=q)=false by simp; rintro rfl; exact h rfl]
  rfl
 try simp only[RL]at h
 refine W.skip ?_
 refine xn ?_
 refine W.seq ?_
 refine W.r fun K hK=>?_
 simp(disch:=omega)only[↓RU,RV,RH,↓reduceIte,qE,reduceCtorEq,if_pos]
 apply hK;clear hK K
 refine W.block ?_
 refine W.loop [0,1,5] (fun n vs S=>∃ i:Nat,n=p.length - i∧i≤p.length∧(p.take i=q.take i)∧vs=[eInts p,eInts q,.int .i64 i]∧S=⟨[],0⟩) (p.length) ?_ ?_
 ·refine ⟨0,0,rfl,Nat.zero_le _,rfl,?_,rfl⟩
  simp [Env.put,Env.of,zaf]
 rintro n vs S - ⟨i,rfl,h_i,htk,rfl,rfl⟩
 refine W.seq ?_
 refine W.r fun K hK=>?_
 simp(disch:=omega)only[↓RU,RV,RH,↓reduceIte,qE,reduceCtorEq,if_pos,w64,zab,zaa]
 apply hK;clear hK K
 refine W.cond rfl (fun h1=>?_) (fun h1=>?_)
 ·try simp only[RL]at h1
  obtain ⟨x,hx,-⟩:=zae (show i<p.length by omega)
  obtain ⟨y,hy,-⟩:=zae (show i<q.length by omega)
  refine W.skip ?_
  refine xn ?_
  refine W.seq ?_
  refine W.block ?_
  refine W.seq_draw (by kernel_rfl) fun K hK=>?_
  simp(disch:=omega)only[↓RU,RV,RH,↓reduceIte,qE,reduceCtorEq,if_pos,w64,zab,zaa,hx,hy]
  apply hK;clear hK K
  refine W.cond rfl (fun h2=>?_) (fun h2=>?_)
  ·try simp only[RL]at h2
   refine W.r fun K hK=>?_
   simp(disch:=omega)only[↓RU,RV,RH,↓reduceIte,qE,reduceCtorEq,if_pos]
   apply hK;clear hK K
   refine W.ret ?_
   refine XBlock.ret ?_
   refine XThen.ret ?_
   refine XThen.ret ?_
   refine XBlock.ret ?_
   refine XThen.ret ?_
   refine Br rfl ?_
   rw [show decide (p=q)=false by simp; rintro rfl; rw [hx]at hy; simp_all]
   rfl
  try simp only[RL]at h2
  have h2:x=y:=by simpa using h2
  refine W.skip ?_
  refine XbN ?_
  refine xn ?_
  refine W.k fun K hK=>?_
  simp(disch:=omega)only[↓RU,RV,RH,↓reduceIte,qE,reduceCtorEq,if_pos,w64,zaa]
  apply hK;clear hK K
  refine xn ?_
  refine ⟨p.length - (i+1),by omega,0,i+1,rfl,by omega,zfz htk hx hy h2,?_,rfl⟩
  simp [Env.put,Env.of]
 try simp only[RL]at h1
 refine W.exit ?_
 refine xe ?_
 refine xe ?_
 refine XBlock.hit ?_
 refine xn ?_
 refine W.r fun K hK=>?_
 simp(disch:=omega)only[↓RU,RV,RH,↓reduceIte,qE,reduceCtorEq,if_pos]
 apply hK;clear hK K
 refine W.ret ?_
 refine Br rfl ?_
 have h1:p.take i=p:=qT (by omega)
 have h2:q.take i=q:=qT (by omega)
 rw [show decide (p=q)=true by simp; rw [← h1,← h2]; exact htk]
 rfl
theorem zg1 {p q:List Int} (hp:p.length<2147483648) (hq:q.length<2147483648):PC Tryz.prog 54 [eInts p,eInts q] (.bool (decide (p=q))) true:=by
 refine PC.of ⟨Tryz.func54,by kernel_rfl,rfl,by kernel_rfl⟩ zam mixed (by show 2≤Tryz.f54.ntmps; decide) ?_
 refine W.r fun K hK=>?_
 simp(disch:=omega)only[↓RU,RV,RH,↓reduceIte,qE,reduceCtorEq,if_pos]
 apply hK;clear hK K
 refine W.seq ?_
 refine W.r fun K hK=>?_
 simp(disch:=omega)only[↓RU,RV,RH,↓reduceIte,qE,reduceCtorEq,if_pos,w64,zab,zaa]
 apply hK;clear hK K
 refine W.cond rfl (fun h=>?_) (fun h=>?_)
 ·try simp only[RL]at h
  refine W.r fun K hK=>?_
  simp(disch:=omega)only[↓RU,RV,RH,↓reduceIte,qE,reduceCtorEq,if_pos]
  apply hK;clear hK K
  refine W.ret ?_
  refine XThen.ret ?_
  refine Br rfl ?_
  rw [show decide (p=q)=false by simp; rintro rfl; exact h rfl]
  rfl
 try simp only[RL]at h
 refine W.skip ?_
 refine xn ?_
 refine W.seq ?_
 refine W.r fun K hK=>?_
 simp(disch:=omega)only[↓RU,RV,RH,↓reduceIte,qE,reduceCtorEq,if_pos,zab,zaa]
 apply hK;clear hK K
 refine W.block ?_
 refine W.loop [0,1,11,12,13] (fun n vs S=>∃ i:Nat,n=p.length - i∧i≤p.length∧(p.take i=q.take i)∧vs=[eInts p,eInts q,eInts p,.int .i64 p.length,.int .i64 i]∧S=⟨[],0⟩) (p.length) ?_ ?_
 ·refine ⟨0,0,rfl,Nat.zero_le _,rfl,?_,rfl⟩
  simp [Env.put,Env.of,zaf]
 rintro n vs S - ⟨i,rfl,h_i,htk,rfl,rfl⟩
 refine W.r fun K hK=>?_
 simp(disch:=omega)only[↓RU,RV,RH,↓reduceIte,qE,reduceCtorEq,if_pos,w64,zaa]
 apply hK;clear hK K
 refine W.seq ?_
 refine W.cond rfl (fun h1=>?_) (fun h1=>?_)
 ·try simp only[RL]at h1
  obtain ⟨x,hx,-⟩:=zae (show i<p.length by omega)
  obtain ⟨y,hy,-⟩:=zae (show i<q.length by omega)
  refine W.skip ?_
  refine xn ?_
  refine W.seq ?_
  refine W.block ?_
  refine W.r fun K hK=>?_
  simp(disch:=omega)only[↓RU,RV,RH,↓reduceIte,qE,reduceCtorEq,if_pos]
  apply hK;clear hK K
  refine W.seq_draw (by kernel_rfl) fun K hK=>?_
  simp(disch:=omega)only[↓RU,RV,RH,↓reduceIte,qE,reduceCtorEq,if_pos,w64,zab,zaa,hx,hy]
  apply hK;clear hK K
  refine W.cond rfl (fun h2=>?_) (fun h2=>?_)
  ·try simp only[RL]at h2
   refine W.r fun K hK=>?_
   simp(disch:=omega)only[↓RU,RV,RH,↓reduceIte,qE,reduceCtorEq,if_pos]
   apply hK;clear hK K
   refine W.ret ?_
   refine XBlock.ret ?_
   refine XThen.ret ?_
   refine XThen.ret ?_
   refine XBlock.ret ?_
   refine XThen.ret ?_
   refine Br rfl ?_
   rw [show decide (p=q)=false by simp; rintro rfl; rw [hx]at hy; simp_all]
   rfl
  try simp only[RL]at h2
  have h2:x=y:=by simpa using h2
  refine W.skip ?_
  refine XbN ?_
  refine xn ?_
  refine W.k fun K hK=>?_
  simp(disch:=omega)only[↓RU,RV,RH,↓reduceIte,qE,reduceCtorEq,if_pos,w64,zaa]
  apply hK;clear hK K
  refine xn ?_
  refine ⟨p.length - (i+1),by omega,0,i+1,rfl,by omega,zfz htk hx hy h2,?_,rfl⟩
  simp [Env.put,Env.of]
 try simp only[RL]at h1
 refine W.exit ?_
 refine xe ?_
 refine xe ?_
 refine XBlock.hit ?_
 refine xn ?_
 refine W.r fun K hK=>?_
 simp(disch:=omega)only[↓RU,RV,RH,↓reduceIte,qE,reduceCtorEq,if_pos]
 apply hK;clear hK K
 refine W.ret ?_
 refine Br rfl ?_
 have h1:p.take i=p:=qT (by omega)
 have h2:q.take i=q:=qT (by omega)
 rw [show decide (p=q)=true by simp; rw [← h1,← h2]; exact htk]
 rfl
theorem z69 {p:List Txt} (hp:zbt p=true):(zec p).length≤9:=by rw [zfx]; exact (zna hp).2.2.1
def yej (x:Int):Int:=IntKind.i64.wrap (1*2 ^ (min x.toNat 64))
def orI (a b:Int):Int:=IntKind.i64.wrap (((a % 2 ^ IntKind.i64.bits).toNat ||| (b % 2 ^ IntKind.i64.bits).toNat:Nat):Int)
theorem zzv {x:Int} (h:0≤x):zkf .shl .i64 1 x=some (.int .i64 (yej x)):=by
 unfold zkf
 rw [if_neg (by omega)]; rfl
theorem zrh {x:Nat} (h:x<8):yej x=((2 ^ x:Nat):Int):=by
 have:x=0∨x=1∨x=2∨x=3∨x=4∨x=5∨x=6∨x=7:=by omega
 rcases this with rfl | rfl | rfl | rfl | rfl | rfl | rfl | rfl <;> rfl
theorem yf8 {a b:Nat} (h1:a<128) (h2:b<128):orI a b=((a ||| b:Nat):Int):=by
 have h3:a ||| b<2 ^ 7:=Nat.or_lt_two_pow h1 h2
 have h5:((a:Int) % 2 ^ IntKind.i64.bits).toNat=a:=by
  rw [Int.emod_eq_of_lt (by omega) (show (a:Int)<2 ^ IntKind.i64.bits from (show (a:Int)<18446744073709551616 by omega))]; omega
 have h6:((b:Int) % 2 ^ IntKind.i64.bits).toNat=b:=by
  rw [Int.emod_eq_of_lt (by omega) (show (b:Int)<2 ^ IntKind.i64.bits from (show (b:Int)<18446744073709551616 by omega))]; omega
 unfold orI
 rw [h5,h6]
 have:(2:Nat) ^ 7=128:=rfl
 generalize a ||| b=c at h3 ⊢
 rw [w64 (by omega) (by omega)]
def msk (l:List Int):Nat:=l.foldl (fun m x=>m ||| 2 ^ x.toNat) 0
theorem zuo {l:List Int} {x:Int}:msk (l++[x])=msk l ||| 2 ^ x.toNat:=by simp [msk]
theorem pow7 {x:Nat} (h:x<7):2 ^ x<128:=by
 have:=Nat.pow_lt_pow_right (a:=2) (by omega) h
 exact this
theorem zwz:∀ (n:Nat) {l:List Int},l.length=n→(∀ x∈l,0≤x∧x<7)→msk l<128
 | 0,l,h,_=>by rw [List.length_eq_zero_iff.1 h]; decide
 | n+1,l,h,hl=>by
  obtain ⟨a,x,rfl⟩:∃ a x,l=a++[x]:=⟨l.dropLast,l.getLast (by intro e; rw [e]at h; simp at h),(List.dropLast_concat_getLast _).symm⟩
  rw [zuo]
  have h1:=zwz n (l:=a) (by simpa using h) fun y hy=>hl y (by simp [hy])
  have h2:=hl x (by simp)
  exact Nat.or_lt_two_pow (n:=7) h1 (pow7 (by omega))
theorem zzf (i:Nat):∀ (n:Nat) {l:List Int},l.length=n→(∀ x∈l,0≤x)→(msk l).testBit i=l.contains (i:Int)
 | 0,l,h,_=>by rw [List.length_eq_zero_iff.1 h]; simp [msk]
 | n+1,l,h,hl=>by
  obtain ⟨a,x,rfl⟩:∃ a x,l=a++[x]:=⟨l.dropLast,l.getLast (by intro e; rw [e]at h; simp at h),(List.dropLast_concat_getLast _).symm⟩
  have h1:=zzf i n (l:=a) (by simpa using h) fun y hy=>hl y (by simp [hy])
  have h2:=hl x (by simp)
  rw [zuo,Nat.testBit_or,h1,Nat.testBit_two_pow]
  rw [Bool.eq_iff_iff]
  simp only[Bool.or_eq_true,List.contains_eq_mem,decide_eq_true_eq,List.mem_append,List.mem_singleton]
  constructor
  ·rintro (h | h)
   ·exact .inl h
   exact .inr (by omega)
  rintro (h | h)
  ·exact .inl h
  exact .inr (by omega)
def ye6 (l:List Int):Bool:=l.all fun x=>decide (0≤x) && decide (x≤(l.length:Int) - 1)
def z4q (l:List Int):Bool:=(List.range l.length).all fun i=>l.contains (i:Int)
def zhc (l:List Int):Bool:=decide (1≤l.length) && decide (l.length≤7) && z4q l
theorem z3r (n:Nat):((List.range n).map Int.ofNat).Nodup:=by
 unfold List.Nodup
 rw [List.pairwise_map]
 refine List.Pairwise.imp ?_ (List.nodup_range (n:=n))
 intro a b h e
 exact h (Int.ofNat.inj e)
theorem zw1:∀ {a b:List Int},a.Nodup→(∀ x∈a,x∈b)→a.length≤b.length
 | [],b,_,_=>by simp
 | x::a,b,h,hs=>by
  have h1:=List.nodup_cons.1 h
  have h2:=zw1 (b:=b.erase x) h1.2 fun y hy=>(List.mem_erase_of_ne (fun e=>by subst e; exact h1.1 hy)).2 (hs y (by simp [hy]))
  have h3:=List.length_erase_of_mem (hs x (by simp))
  have h4:0<b.length:=List.length_pos_of_mem (hs x (by simp))
  simp only[List.length_cons]; omega
theorem ycv {l:List Int} (h:z4q l=true):ye6 l=true:=by
 unfold z4q at h
 rw [List.all_eq_true]at h
 unfold ye6
 rw [List.all_eq_true]
 intro x hx
 rw [qB,decide_eq_true_eq,decide_eq_true_eq]
 refine Classical.byContradiction fun hn=>?_
 have h1:(x::(List.range l.length).map Int.ofNat).Nodup:=by
  rw [List.nodup_cons]
  refine ⟨fun hm=>?_,z3r _⟩
  obtain ⟨i,hi,e⟩:=List.mem_map.1 hm
  have:=List.mem_range.1 hi
  have e2:(i:Int)=x:=e
  omega
 have h2:=zw1 (b:=l) h1 fun y hy=>by
  rcases List.mem_cons.1 hy with rfl | hy
  ·exact hx
  obtain ⟨i,hi,rfl⟩:=List.mem_map.1 hy
  simpa using h i hi
 simp at h2
 omega
theorem yd1 {l:List Int} (h1:1≤l.length) (h7:l.length≤7) (hr:ye6 l=true):(((msk l:Nat):Int) == yej (l.length:Int) - 1)=z4q l:=by
 unfold ye6 at hr
 rw [List.all_eq_true]at hr
 have hb:∀ x∈l,0≤x∧x<7:=fun x hx=>by
  have:=hr x hx
  rw [qB,decide_eq_true_eq,decide_eq_true_eq]at this
  omega
 have hb2:∀ x∈l,x<(l.length:Int):=fun x hx=>by
  have:=hr x hx
  rw [qB,decide_eq_true_eq,decide_eq_true_eq]at this
  omega
 rw [zrh (by omega)]
 have hp:0<2 ^ l.length:=Nat.two_pow_pos _
 have key:msk l=2 ^ l.length - 1↔z4q l=true:=by
  unfold z4q
  rw [List.all_eq_true]
  constructor
  ·intro h i hi
   rw [← zzf i _ rfl fun x hx=>(hb x hx).1,h,Nat.testBit_two_pow_sub_one]
   simpa using hi
  intro h
  refine Nat.eq_of_testBit_eq fun i=>?_
  rw [Nat.testBit_two_pow_sub_one,zzf i _ rfl fun x hx=>(hb x hx).1]
  by_cases hi:i<l.length
  ·rw [h i (List.mem_range.2 hi),decide_eq_true hi]
  rw [decide_eq_false hi]
  simp only[List.contains_eq_mem,decide_eq_false_iff_not]
  intro hm
  have:=hb2 _ hm
  omega
 rw [Bool.eq_iff_iff,← key,beq_iff_eq]
 omega
def zj5 (a b:Int):Bool:=decide (1≤a) && decide (a≤6) && decide (1≤b) && decide (b≤6) && decide (a*b≤9)
theorem yc1 {a b:Int} (h:zj5 a b=true):∃ n m:Nat,a=n∧b=m∧1≤n∧n≤6∧1≤m∧m≤6∧n*m≤9:=by
 unfold zj5 at h
 simp only[qB,decide_eq_true_eq]at h
 obtain ⟨n,rfl⟩:=Int.eq_ofNat_of_zero_le (show 0≤a by omega)
 obtain ⟨m,rfl⟩:=Int.eq_ofNat_of_zero_le (show 0≤b by omega)
 refine ⟨n,m,rfl,rfl,by omega,by omega,by omega,by omega,?_⟩
 have:((n*m:Nat):Int)≤9:=by simpa using h.2
 omega
theorem z8n {P:Nat→Prop} {i:Nat} (h:∀ j,j<i→P j) (hi:P i):∀ j,j<i+1→P j:=fun j hj=>by
 by_cases e:j=i
 ·subst e; exact hi
 exact h j (by omega)
theorem zxl {l:List Int} (h:¬ (1≤l.length∧l.length≤7)):zhc l=false:=by
 unfold zhc
 by_cases h1:1≤l.length
 ·rw [decide_eq_false (fun h2=>h ⟨h1,h2⟩:¬ l.length≤7),Bool.and_false]; rfl
 rw [decide_eq_false h1]; rfl
theorem yf6 {a b:Int} (h1:1≤a) (h2:a≤6) (h3:1≤b) (h4:b≤6):IntKind.i64.wrap (a*b)=a*b:=by
 have h5:a*b≤6*6:=Int.mul_le_mul h2 h4 (by omega) (by omega)
 have h6:0≤a*b:=Int.mul_nonneg (by omega) (by omega)
 exact w64 (by omega) (by omega)
theorem zh6 (a b:Int):PC Tryz.prog 64 [.int .i64 a,.int .i64 b] (.bool (zj5 a b)) true:=by
 refine PC.of ⟨Tryz.func64,by kernel_rfl,rfl,by kernel_rfl⟩ zam mixed (by show 2≤Tryz.f64.ntmps; decide) ?_
 refine W.r fun K hK=>?_
 simp(disch:=omega)only[↓RU,RV,RH,↓reduceIte,qE,reduceCtorEq,if_pos,↓RS,RG,qA,qM,qL]
 apply hK;clear hK K
 refine W.r fun K hK=>?_
 rcases (show ¬ 1≤a∨(1≤a∧¬ a≤6)∨(1≤a∧a≤6∧¬ 1≤b)∨(1≤a∧a≤6∧1≤b∧¬ b≤6)∨(1≤a∧a≤6∧1≤b∧b≤6) by omega) with h1 | ⟨h1,h2⟩ | ⟨h1,h2,h3⟩ | ⟨h1,h2,h3,h4⟩ | ⟨h1,h2,h3,h4⟩
 ·skip
  have d0:decide (a ≥ 1)=false:=decide_eq_false (by omega)
  have dc0:decide (1≤a)=false:=decide_eq_false (by omega)
  simp(disch:=omega)only[↓RU,RV,RH,↓reduceIte,qE,reduceCtorEq,if_pos,w64,↓RS,RG,qA,qM,qL,zaa,d0,dc0,Bool.and_false,Bool.and_true,Bool.true_and,Bool.false_and]
  apply hK;clear hK K
  refine W.ret ?_
  refine Br rfl ?_
  rw [show zj5 a b=false by unfold zj5; simp [d0,dc0]]
  rfl
 ·skip
  have d0:decide (a ≥ 1)=true:=decide_eq_true (by omega)
  have dc0:decide (1≤a)=true:=decide_eq_true (by omega)
  have d1:decide (a≤6)=false:=decide_eq_false (by omega)
  simp(disch:=omega)only[↓RU,RV,RH,↓reduceIte,qE,reduceCtorEq,if_pos,w64,↓RS,RG,qA,qM,qL,zaa,d0,dc0,d1,Bool.and_false,Bool.and_true,Bool.true_and,Bool.false_and]
  apply hK;clear hK K
  refine W.ret ?_
  refine Br rfl ?_
  rw [show zj5 a b=false by unfold zj5; simp [d0,dc0,d1]]
  rfl
 ·skip
  have d0:decide (a ≥ 1)=true:=decide_eq_true (by omega)
  have dc0:decide (1≤a)=true:=decide_eq_true (by omega)
  have d1:decide (a≤6)=true:=decide_eq_true (by omega)
  have d2:decide (b ≥ 1)=false:=decide_eq_false (by omega)
  have dc2:decide (1≤b)=false:=decide_eq_false (by omega)
  simp(disch:=omega)only[↓RU,RV,RH,↓reduceIte,qE,reduceCtorEq,if_pos,w64,↓RS,RG,qA,qM,qL,zaa,d0,dc0,d1,d2,dc2,Bool.and_false,Bool.and_true,Bool.true_and,Bool.false_and]
  apply hK;clear hK K
  refine W.ret ?_
  refine Br rfl ?_
  rw [show zj5 a b=false by unfold zj5; simp [d0,dc0,d1,d2,dc2]]
  rfl
 ·skip
  have d0:decide (a ≥ 1)=true:=decide_eq_true (by omega)
  have dc0:decide (1≤a)=true:=decide_eq_true (by omega)
  have d1:decide (a≤6)=true:=decide_eq_true (by omega)
  have d2:decide (b ≥ 1)=true:=decide_eq_true (by omega)
  have dc2:decide (1≤b)=true:=decide_eq_true (by omega)
  have d3:decide (b≤6)=false:=decide_eq_false (by omega)
  simp(disch:=omega)only[↓RU,RV,RH,↓reduceIte,qE,reduceCtorEq,if_pos,w64,↓RS,RG,qA,qM,qL,zaa,d0,dc0,d1,d2,dc2,d3,Bool.and_false,Bool.and_true,Bool.true_and,Bool.false_and]
  apply hK;clear hK K
  refine W.ret ?_
  refine Br rfl ?_
  rw [show zj5 a b=false by unfold zj5; simp [d0,dc0,d1,d2,dc2,d3]]
  rfl
 skip
 have d0:decide (a ≥ 1)=true:=decide_eq_true (by omega)
 have dc0:decide (1≤a)=true:=decide_eq_true (by omega)
 have d1:decide (a≤6)=true:=decide_eq_true (by omega)
 have d2:decide (b ≥ 1)=true:=decide_eq_true (by omega)
 have dc2:decide (1≤b)=true:=decide_eq_true (by omega)
 have d3:decide (b≤6)=true:=decide_eq_true (by omega)
 have hm:=yf6 h1 h2 h3 h4
 simp(disch:=omega)only[↓RU,RV,RH,↓reduceIte,qE,reduceCtorEq,if_pos,w64,↓RS,RG,qA,qM,qL,zaa,d0,dc0,d1,d2,dc2,d3,hm,Bool.and_false,Bool.and_true,Bool.true_and,Bool.false_and]
 apply hK;clear hK K
 refine W.ret ?_
 refine Br rfl ?_
 rw [show zj5 a b=decide (a*b≤9) by unfold zj5; simp [d0,dc0,d1,d2,dc2,d3]]
 rfl
theorem zkv (a b:Int):PC Tryz.prog 60 [.int .i64 a,.int .i64 b] (.bool (zj5 a b)) true:=by
 refine PC.of ⟨Tryz.func60,by kernel_rfl,rfl,by kernel_rfl⟩ zam mixed (by show 2≤Tryz.f60.ntmps; decide) ?_
 refine W.r fun K hK=>?_
 simp(disch:=omega)only[↓RU,RV,RH,↓reduceIte,qE,reduceCtorEq,if_pos,↓RS,RG,qA,qM,qL]
 apply hK;clear hK K
 refine W.r fun K hK=>?_
 rcases (show ¬ 1≤a∨(1≤a∧¬ a≤6)∨(1≤a∧a≤6∧¬ 1≤b)∨(1≤a∧a≤6∧1≤b∧¬ b≤6)∨(1≤a∧a≤6∧1≤b∧b≤6) by omega) with h1 | ⟨h1,h2⟩ | ⟨h1,h2,h3⟩ | ⟨h1,h2,h3,h4⟩ | ⟨h1,h2,h3,h4⟩
 ·skip
  have d0:decide (1≤a)=false:=decide_eq_false (by omega)
  simp(disch:=omega)only[↓RU,RV,RH,↓reduceIte,qE,reduceCtorEq,if_pos,qN,w64,↓RS,RG,qA,qM,qL,zaa,d0,Bool.and_false,Bool.and_true,Bool.true_and,Bool.false_and]
  refine zad.pc (ze6 a 1 6) rfl (.inl rfl) ?_
  simp(disch:=omega)only[↓RU,RV,RH,↓reduceIte,qE,reduceCtorEq,if_pos,qN,w64,↓RS,RG,qA,qM,qL,zaa,d0,Bool.and_false,Bool.and_true,Bool.true_and,Bool.false_and]
  apply hK;clear hK K
  refine W.ret ?_
  refine Br rfl ?_
  rw [show zj5 a b=false by unfold zj5; simp [d0]]
  rfl
 ·skip
  have d0:decide (1≤a)=true:=decide_eq_true (by omega)
  have d1:decide (a≤6)=false:=decide_eq_false (by omega)
  simp(disch:=omega)only[↓RU,RV,RH,↓reduceIte,qE,reduceCtorEq,if_pos,qN,w64,↓RS,RG,qA,qM,qL,zaa,d0,d1,Bool.and_false,Bool.and_true,Bool.true_and,Bool.false_and]
  refine zad.pc (ze6 a 1 6) rfl (.inl rfl) ?_
  simp(disch:=omega)only[↓RU,RV,RH,↓reduceIte,qE,reduceCtorEq,if_pos,qN,w64,↓RS,RG,qA,qM,qL,zaa,d0,d1,Bool.and_false,Bool.and_true,Bool.true_and,Bool.false_and]
  apply hK;clear hK K
  refine W.ret ?_
  refine Br rfl ?_
  rw [show zj5 a b=false by unfold zj5; simp [d0,d1]]
  rfl
 ·skip
  have d0:decide (1≤a)=true:=decide_eq_true (by omega)
  have d1:decide (a≤6)=true:=decide_eq_true (by omega)
  have d2:decide (1≤b)=false:=decide_eq_false (by omega)
  simp(disch:=omega)only[↓RU,RV,RH,↓reduceIte,qE,reduceCtorEq,if_pos,qN,w64,↓RS,RG,qA,qM,qL,zaa,d0,d1,d2,Bool.and_false,Bool.and_true,Bool.true_and,Bool.false_and]
  refine zad.pc (ze6 a 1 6) rfl (.inl rfl) ?_
  simp(disch:=omega)only[↓RU,RV,RH,↓reduceIte,qE,reduceCtorEq,if_pos,qN,w64,↓RS,RG,qA,qM,qL,zaa,d0,d1,d2,Bool.and_false,Bool.and_true,Bool.true_and,Bool.false_and]
  refine zad.pc (ze6 b 1 6) rfl (.inl rfl) ?_
  simp(disch:=omega)only[↓RU,RV,RH,↓reduceIte,qE,reduceCtorEq,if_pos,qN,w64,↓RS,RG,qA,qM,qL,zaa,d0,d1,d2,Bool.and_false,Bool.and_true,Bool.true_and,Bool.false_and]
  apply hK;clear hK K
  refine W.ret ?_
  refine Br rfl ?_
  rw [show zj5 a b=false by unfold zj5; simp [d0,d1,d2]]
  rfl
 ·skip
  have d0:decide (1≤a)=true:=decide_eq_true (by omega)
  have d1:decide (a≤6)=true:=decide_eq_true (by omega)
  have d2:decide (1≤b)=true:=decide_eq_true (by omega)
  have d3:decide (b≤6)=false:=decide_eq_false (by omega)
  simp(disch:=omega)only[↓RU,RV,RH,↓reduceIte,qE,reduceCtorEq,if_pos,qN,w64,↓RS,RG,qA,qM,qL,zaa,d0,d1,d2,d3,Bool.and_false,Bool.and_true,Bool.true_and,Bool.false_and]
  refine zad.pc (ze6 a 1 6) rfl (.inl rfl) ?_
  simp(disch:=omega)only[↓RU,RV,RH,↓reduceIte,qE,reduceCtorEq,if_pos,qN,w64,↓RS,RG,qA,qM,qL,zaa,d0,d1,d2,d3,Bool.and_false,Bool.and_true,Bool.true_and,Bool.false_and]
  refine zad.pc (ze6 b 1 6) rfl (.inl rfl) ?_
  simp(disch:=omega)only[↓RU,RV,RH,↓reduceIte,qE,reduceCtorEq,if_pos,qN,w64,↓RS,RG,qA,qM,qL,zaa,d0,d1,d2,d3,Bool.and_false,Bool.and_true,Bool.true_and,Bool.false_and]
  apply hK;clear hK K
  refine W.ret ?_
  refine Br rfl ?_
  rw [show zj5 a b=false by unfold zj5; simp [d0,d1,d2,d3]]
  rfl
 skip
 have d0:decide (1≤a)=true:=decide_eq_true (by omega)
 have d1:decide (a≤6)=true:=decide_eq_true (by omega)
 have d2:decide (1≤b)=true:=decide_eq_true (by omega)
 have d3:decide (b≤6)=true:=decide_eq_true (by omega)
 have hm:=yf6 h1 h2 h3 h4
 simp(disch:=omega)only[↓RU,RV,RH,↓reduceIte,qE,reduceCtorEq,if_pos,qN,w64,↓RS,RG,qA,qM,qL,zaa,d0,d1,d2,d3,hm,Bool.and_false,Bool.and_true,Bool.true_and,Bool.false_and]
 refine zad.pc (ze6 a 1 6) rfl (.inl rfl) ?_
 simp(disch:=omega)only[↓RU,RV,RH,↓reduceIte,qE,reduceCtorEq,if_pos,qN,w64,↓RS,RG,qA,qM,qL,zaa,d0,d1,d2,d3,hm,Bool.and_false,Bool.and_true,Bool.true_and,Bool.false_and]
 refine zad.pc (ze6 b 1 6) rfl (.inl rfl) ?_
 simp(disch:=omega)only[↓RU,RV,RH,↓reduceIte,qE,reduceCtorEq,if_pos,qN,w64,↓RS,RG,qA,qM,qL,zaa,d0,d1,d2,d3,hm,Bool.and_false,Bool.and_true,Bool.true_and,Bool.false_and]
 apply hK;clear hK K
 refine W.ret ?_
 refine Br rfl ?_
 rw [show zj5 a b=decide (a*b≤9) by unfold zj5; simp [d0,d1,d2,d3]]
 rfl
theorem z95 {l:List Int} (hl:¬ (1≤l.length∧l.length≤7)) (hb:l.length≤9223372036854775807):PC Tryz.prog 30 [eInts l] (.bool false) true:=by
 refine PC.of ⟨Tryz.func30,by kernel_rfl,rfl,by kernel_rfl⟩ zam mixed (by show 1≤Tryz.f30.ntmps; decide) ?_
 refine W.r fun K hK=>?_
 simp(disch:=omega)only[↓RU,RV,RH,↓reduceIte,qE,reduceCtorEq,if_pos,↓RS,RG,qA,qM,qL]
 apply hK;clear hK K
 refine W.seq ?_
 refine W.r fun K hK=>?_
 by_cases h1:1≤l.length
 ·skip
  have d1:decide ((l.length:Int)<1)=false:=decide_eq_false (by omega)
  have d2:decide ((l.length:Int)>7)=true:=decide_eq_true (by omega)
  simp(disch:=omega)only[↓RU,RV,RH,↓reduceIte,qE,reduceCtorEq,if_pos,w64,↓RS,RG,qA,qM,qL,zab,zaa,d1,d2]
  apply hK;clear hK K
  refine W.cond rfl (fun h0=>?_) (fun h0=>?_)
  ·try simp only[RL]at h0
   refine W.r fun K hK=>?_
   simp(disch:=omega)only[↓RU,RV,RH,↓reduceIte,qE,reduceCtorEq,if_pos,↓RS,RG,qA,qM,qL]
   apply hK;clear hK K
   refine W.ret ?_
   refine XThen.ret ?_
   refine Br rfl ?_
   rfl
  try simp only[RL]at h0
  exact absurd h0 (by simp)
 skip
 have d1:decide ((l.length:Int)<1)=true:=decide_eq_true (by omega)
 simp(disch:=omega)only[↓RU,RV,RH,↓reduceIte,qE,reduceCtorEq,if_pos,w64,↓RS,RG,qA,qM,qL,zab,zaa,d1]
 apply hK;clear hK K
 refine W.cond rfl (fun h0=>?_) (fun h0=>?_)
 ·try simp only[RL]at h0
  refine W.r fun K hK=>?_
  simp(disch:=omega)only[↓RU,RV,RH,↓reduceIte,qE,reduceCtorEq,if_pos,↓RS,RG,qA,qM,qL]
  apply hK;clear hK K
  refine W.ret ?_
  refine XThen.ret ?_
  refine Br rfl ?_
  rfl
 try simp only[RL]at h0
 exact absurd h0 (by simp)
theorem z68 {l:List Int} (hl1:1≤l.length) (hl7:l.length≤7):PC Tryz.prog 30 [eInts l] (.bool (z4q l)) true:=by
 have hd1:decide ((l.length:Int)<1)=false:=decide_eq_false (by omega)
 have hd2:decide ((l.length:Int)>7)=false:=decide_eq_false (by omega)
 have hall:z4q l=true↔∀ i,i<l.length→l.contains (i:Int)=true:=by unfold z4q; rw [List.all_eq_true]; exact ⟨fun h i hi=>h i (List.mem_range.2 hi),fun h i hi=>h i (List.mem_range.1 hi)⟩
 refine PC.of ⟨Tryz.func30,by kernel_rfl,rfl,by kernel_rfl⟩ zam mixed (by show 1≤Tryz.f30.ntmps; decide) ?_
 refine W.r fun K hK=>?_
 simp(disch:=omega)only[↓RU,RV,RH,↓reduceIte,qE,reduceCtorEq,if_pos,↓RS,RG,qA,qM,qL]
 apply hK;clear hK K
 refine W.seq ?_
 refine W.r fun K hK=>?_
 simp(disch:=omega)only[↓RU,RV,RH,↓reduceIte,qE,reduceCtorEq,if_pos,w64,↓RS,RG,qA,qM,qL,zab,zaa,hd1,hd2]
 apply hK;clear hK K
 refine W.cond rfl (fun h0=>?_) (fun h0=>?_)
 ·try simp only[RL]at h0
  exact absurd h0 (by simp)
 try simp only[RL]at h0
 refine W.skip ?_
 refine xn ?_
 refine W.seq ?_
 refine W.r fun K hK=>?_
 simp(disch:=omega)only[↓RU,RV,RH,↓reduceIte,qE,reduceCtorEq,if_pos,↓RS,RG,qA,qM,qL,zab,zaa]
 apply hK;clear hK K
 refine W.block ?_
 refine W.loop [0,13,14] (fun n vs S=>∃ i:Nat,n=l.length - i∧i≤l.length∧(∀ j,j<i→l.contains (j:Int)=true)∧vs=[eInts l,.int .i64 l.length,.int .i64 i]∧S=⟨[],0⟩) (l.length) ?_ ?_
 ·refine ⟨0,0,rfl,Nat.zero_le _,by simp,?_,rfl⟩
  simp [Env.put,Env.of,zaf]
 rintro n vs S - ⟨i,rfl,h_i,hp,rfl,rfl⟩
 refine W.r fun K hK=>?_
 simp(disch:=omega)only[↓RU,RV,RH,↓reduceIte,qE,reduceCtorEq,if_pos,w64,↓RS,RG,qA,qM,qL,zaa]
 apply hK;clear hK K
 refine W.seq ?_
 refine W.cond rfl (fun h1=>?_) (fun h1=>?_)
 ·try simp only[RL]at h1
  refine W.skip ?_
  refine xn ?_
  refine W.seq ?_
  refine W.block ?_
  refine W.r fun K hK=>?_
  simp(disch:=omega)only[↓RU,RV,RH,↓reduceIte,qE,reduceCtorEq,if_pos,↓RS,RG,qA,qM,qL]
  apply hK;clear hK K
  refine W.r fun K hK=>?_
  cases hv:l.contains (i:Int)
  ·skip
   simp(disch:=omega)only[↓RU,RV,RH,↓reduceIte,qE,reduceCtorEq,if_pos,qN,↓RS,RG,qA,qM,qL,hv]
   refine zad.pc (ziu (l:=l) (x:=(i:Int)) (by omega)) rfl (.inl rfl) ?_
   simp(disch:=omega)only[↓RU,RV,RH,↓reduceIte,qE,reduceCtorEq,if_pos,qN,↓RS,RG,qA,qM,qL,hv]
   apply hK;clear hK K
   refine W.cond rfl (fun h2=>?_) (fun h2=>?_)
   ·try simp only[RL]at h2
    refine W.r fun K hK=>?_
    simp(disch:=omega)only[↓RU,RV,RH,↓reduceIte,qE,reduceCtorEq,if_pos,↓RS,RG,qA,qM,qL]
    apply hK;clear hK K
    refine W.ret ?_
    refine XBlock.ret ?_
    refine XThen.ret ?_
    refine XThen.ret ?_
    refine XBlock.ret ?_
    refine XThen.ret ?_
    refine Br rfl ?_
    rw [show z4q l=false by cases h:z4q l with | false=>rfl | true=>rw [hall.1 h i (by omega)]at hv; cases hv]
    rfl
   try simp only[RL]at h2
   exact absurd h2 (by simp)
  skip
  simp(disch:=omega)only[↓RU,RV,RH,↓reduceIte,qE,reduceCtorEq,if_pos,qN,↓RS,RG,qA,qM,qL,hv]
  refine zad.pc (ziu (l:=l) (x:=(i:Int)) (by omega)) rfl (.inl rfl) ?_
  simp(disch:=omega)only[↓RU,RV,RH,↓reduceIte,qE,reduceCtorEq,if_pos,qN,↓RS,RG,qA,qM,qL,hv]
  apply hK;clear hK K
  refine W.cond rfl (fun h2=>?_) (fun h2=>?_)
  ·try simp only[RL]at h2
   exact absurd h2 (by simp)
  try simp only[RL]at h2
  refine W.skip ?_
  refine XbN ?_
  refine xn ?_
  refine W.k fun K hK=>?_
  simp(disch:=omega)only[↓RU,RV,RH,↓reduceIte,qE,reduceCtorEq,if_pos,w64,↓RS,RG,qA,qM,qL,zaa]
  apply hK;clear hK K
  refine xn ?_
  refine ⟨l.length - (i+1),by omega,0,i+1,rfl,by omega,z8n hp hv,?_,rfl⟩
  simp [Env.put,Env.of]
 try simp only[RL]at h1
 obtain rfl:i=l.length:=by omega
 refine W.exit ?_
 refine xe ?_
 refine xe ?_
 refine XBlock.hit ?_
 refine xn ?_
 refine W.r fun K hK=>?_
 simp(disch:=omega)only[↓RU,RV,RH,↓reduceIte,qE,reduceCtorEq,if_pos,↓RS,RG,qA,qM,qL]
 apply hK;clear hK K
 refine W.ret ?_
 refine Br rfl ?_
 rw [hall.2 hp]
 rfl
theorem zuu {l:List Int} (hb:l.length≤9223372036854775807):PC Tryz.prog 30 [eInts l] (.bool (zhc l)) true:=by
 by_cases h:1≤l.length∧l.length≤7
 ·unfold zhc
  rw [decide_eq_true h.1,decide_eq_true h.2]
  exact z68 h.1 h.2
 rw [zxl h]
 exact z95 h hb
theorem ztl {l:List Int} (hb:l.length≤1048576):PC Tryz.prog 61 [eInts l] (.bool (zhc l)) true:=by
 have hrg:ye6 l=true↔∀ x∈l,(decide (0≤x) && decide (x≤(l.length:Int) - 1))=true:=by unfold ye6; rw [List.all_eq_true]
 refine PC.of ⟨Tryz.func61,by kernel_rfl,rfl,by kernel_rfl⟩ zam mixed (by show 1≤Tryz.f61.ntmps; decide) ?_
 refine W.r fun K hK=>?_
 simp(disch:=omega)only[↓RU,RV,RH,↓reduceIte,qE,reduceCtorEq,if_pos,↓RS,RG,qA,qM,qL]
 apply hK;clear hK K
 refine W.r fun K hK=>?_
 simp(disch:=omega)only[↓RU,RV,RH,↓reduceIte,qE,reduceCtorEq,if_pos,↓RS,RG,qA,qM,qL]
 apply hK;clear hK K
 refine W.seq ?_
 refine W.r fun K hK=>?_
 simp(disch:=omega)only[↓RU,RV,RH,↓reduceIte,qE,reduceCtorEq,if_pos,↓RS,RG,qA,qM,qL]
 apply hK;clear hK K
 refine W.block ?_
 refine W.loop [0,3,4] (fun n vs S=>∃ (i:Nat) (m:Int),n=l.length - i∧i≤l.length∧(∀ x∈l.take i,(decide (0≤x) && decide (x≤(l.length:Int) - 1))=true)∧(l.length≤7→m=((msk (l.take i):Nat):Int))∧vs=[eInts l,.int .i64 m,.int .i64 i]∧S=⟨[],0⟩) l.length ?_ ?_
 ·refine ⟨0,0,0,rfl,Nat.zero_le _,by simp,fun _=>rfl,?_,rfl⟩
  simp [Env.put,Env.of,zaf]
 rintro n vs S - ⟨i,m,rfl,h_i,hin,hm,rfl,rfl⟩
 refine W.seq ?_
 refine W.r fun K hK=>?_
 simp(disch:=omega)only[↓RU,RV,RH,↓reduceIte,qE,reduceCtorEq,if_pos,w64,↓RS,RG,qA,qM,qL,zab,zaa]
 apply hK;clear hK K
 refine W.cond rfl (fun h0=>?_) (fun h0=>?_)
 ·try simp only[RL]at h0
  obtain ⟨x,hx,hxm⟩:=zae (show i<l.length by omega)
  refine W.skip ?_
  refine xn ?_
  refine W.seq ?_
  refine W.block ?_
  refine W.seq ?_
  refine W.r fun K hK=>?_
  cases hx2:(decide ((0:Int)≤x) && decide (x≤(l.length:Int) - 1))
  ·skip
   simp(disch:=omega)only[↓RU,RV,RH,↓reduceIte,qE,reduceCtorEq,if_pos,w64,qN,↓RS,RG,qA,qM,qL,zab,zaa,hx,hx2]
   refine zad.pc (ze6 x 0 ((l.length:Int) - 1)) rfl (.inl rfl) ?_
   simp(disch:=omega)only[↓RU,RV,RH,↓reduceIte,qE,reduceCtorEq,if_pos,w64,qN,↓RS,RG,qA,qM,qL,zab,zaa,hx,hx2]
   apply hK;clear hK K
   refine W.cond rfl (fun h1=>?_) (fun h1=>?_)
   ·try simp only[RL]at h1
    refine W.r fun K hK=>?_
    simp(disch:=omega)only[↓RU,RV,RH,↓reduceIte,qE,reduceCtorEq,if_pos,↓RS,RG,qA,qM,qL]
    apply hK;clear hK K
    refine W.ret ?_
    refine XThen.ret ?_
    refine XBlock.ret ?_
    refine XThen.ret ?_
    refine XThen.ret ?_
    refine XBlock.ret ?_
    refine XThen.ret ?_
    refine Br rfl ?_
    rw [show zhc l=false by
        cases hp:zhc l with
        | false=>rfl
        | true =>
         unfold zhc at hp
         rw [qB]at hp
         rw [hrg.1 (ycv hp.2) x hxm]at hx2; cases hx2]
    rfl
   try simp only[RL]at h1
   exact absurd h1 (by simp)
  skip
  simp(disch:=omega)only[↓RU,RV,RH,↓reduceIte,qE,reduceCtorEq,if_pos,w64,qN,↓RS,RG,qA,qM,qL,zab,zaa,hx,hx2]
  refine zad.pc (ze6 x 0 ((l.length:Int) - 1)) rfl (.inl rfl) ?_
  simp(disch:=omega)only[↓RU,RV,RH,↓reduceIte,qE,reduceCtorEq,if_pos,w64,qN,↓RS,RG,qA,qM,qL,zab,zaa,hx,hx2]
  apply hK;clear hK K
  refine W.cond rfl (fun h1=>?_) (fun h1=>?_)
  ·try simp only[RL]at h1
   exact absurd h1 (by simp)
  try simp only[RL]at h1
  have hx0:0≤x:=by have:=hx2; rw [qB,decide_eq_true_eq]at this; exact this.1
  refine W.skip ?_
  refine xn ?_
  refine W.k fun K hK=>?_
  simp(disch:=omega)only[↓RU,RV,RH,↓reduceIte,qE,reduceCtorEq,if_pos,w64,↓RS,RG,qA,qM,qL,zab,zaa,hx,zzv]
  apply hK;clear hK K
  refine XbN ?_
  refine xn ?_
  refine W.k fun K hK=>?_
  simp(disch:=omega)only[↓RU,RV,RH,↓reduceIte,qE,reduceCtorEq,if_pos,w64,↓RS,RG,qA,qM,qL,zaa]
  apply hK;clear hK K
  refine xn ?_
  refine ⟨l.length - (i+1),by omega,0,i+1,orI m (yej x),rfl,by omega,?_,?_,?_,rfl⟩
  ·intro y hy; rw [tk hx]at hy; rcases List.mem_append.1 hy with hy | hy
   ·exact hin y hy
   rw [List.mem_singleton.1 hy]; exact hx2
  ·intro h7
   have hy:=hx2
   rw [qB,decide_eq_true_eq,decide_eq_true_eq]at hy
   obtain ⟨xn,rfl⟩:=Int.eq_ofNat_of_zero_le hy.1
   rw [hm h7,zrh (by omega),yf8 (zwz _ rfl fun y hy2=>by have:=hin y hy2; rw [qB,decide_eq_true_eq,decide_eq_true_eq]at this; omega) (pow7 (by omega)),tk hx,zuo]; rfl
  simp [Env.put,Env.of]; rfl
 try simp only[RL]at h0
 obtain rfl:i=l.length:=by omega
 rw [List.take_length]at hin hm
 refine W.exit ?_
 refine xe ?_
 refine xe ?_
 refine XBlock.hit ?_
 refine xn ?_
 refine W.r fun K hK=>?_
 by_cases h7:1≤l.length∧l.length≤7
 ·skip
  have d1:(decide ((1:Int)≤(l.length:Int)) && decide ((l.length:Int)≤7))=true:=by rw [decide_eq_true (by omega),decide_eq_true (by omega)]; rfl
  have hs1:yej (l.length:Int)=((2 ^ l.length:Nat):Int):=zrh (by omega)
  have hp7:2 ^ l.length<256:=by have:=Nat.pow_lt_pow_right (a:=2) (by omega) (show l.length<8 by omega); exact this
  have hw:IntKind.i64.wrap (yej (l.length:Int) - 1)=yej (l.length:Int) - 1:=by rw [hs1]; generalize 2 ^ l.length=z at hp7; exact w64 (by omega) (by omega)
  have hma:=yd1 h7.1 h7.2 (hrg.2 hin)
  rw [← hm h7.2]at hma
  simp(disch:=omega)only[↓RU,RV,RH,↓reduceIte,qE,reduceCtorEq,if_pos,qN,w64,↓RS,RG,qA,qM,qL,zab,zaa,d1,zzv,hw,hma]
  refine zad.pc (ze6 (l.length:Int) 1 7) rfl (.inl rfl) ?_
  simp(disch:=omega)only[↓RU,RV,RH,↓reduceIte,qE,reduceCtorEq,if_pos,qN,w64,↓RS,RG,qA,qM,qL,zab,zaa,d1,zzv,hw,hma]
  apply hK;clear hK K
  refine W.ret ?_
  refine Br rfl ?_
  rw [show zhc l=z4q l by unfold zhc; rw [decide_eq_true h7.1,decide_eq_true h7.2]; rfl]
  rfl
 skip
 have d1:(decide ((1:Int)≤(l.length:Int)) && decide ((l.length:Int)≤7))=false:=by rw [Bool.and_eq_false_iff,decide_eq_false_iff_not,decide_eq_false_iff_not]; omega
 simp(disch:=omega)only[↓RU,RV,RH,↓reduceIte,qE,reduceCtorEq,if_pos,qN,w64,↓RS,RG,qA,qM,qL,zab,zaa,d1]
 refine zad.pc (ze6 (l.length:Int) 1 7) rfl (.inl rfl) ?_
 simp(disch:=omega)only[↓RU,RV,RH,↓reduceIte,qE,reduceCtorEq,if_pos,qN,w64,↓RS,RG,qA,qM,qL,zab,zaa,d1]
 apply hK;clear hK K
 refine W.ret ?_
 refine Br rfl ?_
 rw [zxl h7]
 rfl
section
section
variable {P:Program} {T:Tab} {F0:Nat→Prop} {G0:GSt} {w0:World} {N:Nat}
theorem zzi {R:Option Nat} {nn:Nat} (hT:zbi P T) {ops:Array Oper} {Q:Env→Store→Prop} {L:List Nat} {o:Oper} {l:List Oper} {e:Env} {F:Nat→Prop} {G:GSt} {a:Act} {w:World} (hg:o.guard=none)
  (h:pOp P T e G.er o.op fun v S'=>zvp L (fun vs S2=>zxh P T ops Q l (Env.of L vs) S2) (e.put o.dst v) S') (hi:Inv F G w) (he:ze0 w.heap F G e a)
  (hn:Next F0 G0 w0 F G w) (hs:a.tmps.size=N) (hd:Marks w0 a.defers w) (hdst:∀ q∈o::l,∀ d,q.dst=some d→d<N):wpListIn (fnc R) nn P ops (Sto F0 G0 w0 N (Nrm Q)) (o::l) a w:=by
 have ho:∀ t,o.dst=some t→t<a.tmps.size:=fun t ht=>by rw [hs]; exact hdst o (by simp) t ht
 have hl:∀ o∈l,∀ d,o.dst=some d→d<N:=fun o' h'=>hdst o' (by simp [h'])
 unfold wpListIn
 have hw:Region.wanted o (yielded ops a.tmps)=true:=by unfold Region.wanted; rw [hg]
 rw [if_pos hw]
 refine zjp hT hi he h ?_
 intro v cv F' G' w' hK i1 i2 i3
 obtain ⟨vs,F2,G2,k1,k2,k3,k4,k5⟩:=zmz i1 ((he.next hi i2).put _ ho i3) hK
 exact zhr hT l k1 k3 k5 ((hn.trans i2).trans k4) (by rw [zfr]; exact hs) (by rw [zdk]; exact hd.next hi i2) hl
end
def Kept (Q:Exit→Env→Store→Prop) (x:Exit) (e:Env) (S:Store):Prop:=Q x e S∨∃ L,z2o L (fun vs S2=>Q x (Env.of L vs) S2) e S
section
variable {P:Program} {T:Tab} {Q:Exit→Env→Store→Prop} {e:Env} {S:Store} {a b c:Code}
theorem W.region_z {id:Nat} {ops:Array Oper} {L:List Nat} {o:Oper} {l:List Oper} (ho:ops.toList=o::l) (hg:o.guard=none) (h:pOp P T e S o.op fun v S'=>zvp L (fun vs S2=>zxh P T ops (Q .normal) l (Env.of L vs) S2) (e.put o.dst v) S'):W P T (.region id ops false) Q e S:=by
 refine ⟨?_⟩
 intro hT hm F0 G0 w0 N F G a w h3 h4 h5 h6 h7 h8 h9 R nn
 subst h3
 refine wpIn_mono (wpIn_region_list ?_) zw2
 have hd:=zpn h9
 rw [ho]at hd ⊢
 exact zzi hT hg h h4 h5 h6 h7 h8 hd
theorem V.seq_boxZ (L:List Nat) {id:Nat} {o:Oper} {l:List Oper} (hg:o.guard=none)
  (h:∀ K:Env→Store→Prop,(∀ e S,V P T b Q e S→K e S)→za5 false P T (dsts (o::l)) [o] e S fun e1 S1=>zvp L (fun vs S2=>za5 false P T (dsts (o::l)) l (Env.of L vs) S2 K) e1 S1) :
  V P T (.seq (.region id (o::l).toArray false) b) Q e S:=by
 refine V.seq (W.v (W.region_z (L:=L) (o:=o) (l:=l) rfl hg ?_))
 have h1:=zgk [o] e S (h _ fun _ _ h=>h)
 unfold zxh zdu gdec at h1
 rw [hg]at h1
 refine zd0 (fun v S' k=>?_) h1
 obtain ⟨lo,vs,S2,k1,k2,k3⟩:=k
 exact ⟨lo,vs,S2,k1,k2,zgk l _ _ k3⟩
theorem V.rangeFuncK {g:Operand} {ps:Array Tmp} {asg body:Code} (L:List Nat) {f:FuncId} {cap:List PV} (hg:e.ev g = .fn f cap)
  (h:∀ (l:Nat) (r:Loop),LoopR ps asg body r→r.state = .ready→r.pending=none→∃ J,Ev P f (.yl l::cap) ⟨S.obs++[.lp S.tick l (r,L) (L.map e)],S.tick+1⟩ J ∧
   ∀ v S',J v S'→∃ ver r' L' tm x,S'.obs[S.obs.length]?=some (.lp ver l (r',L') tm)∧r'.state ≠ .busy∧z26 r'.pending=some x∧Kept Q x e ⟨S'.obs.set S.obs.length (.lp ver l ({ r' with state := .exhausted,pending:=r'.pending },L') tm),S'.tick⟩) :
  V P T (.rangeFunc g ps asg body) Q e S:=by
 refine ⟨?_⟩
 intro hT hm F0 G0 w0 N F G a w h3 h4 h5 h6 h7 h8 h9
 subst h3
 simp only[zgf,qB,List.all_eq_true,decide_eq_true_eq]at h9
 obtain ⟨⟨d1,d2⟩,d3⟩:=h9
 refine wpIn_rangeFunc ?_
 intro fn _
 obtain ⟨rec,hrec⟩:∃ rec:Loop,rec={ state := .ready,pending:=none,fn,tmps:=a.tmps,params:=ps,assign:=asg,body,defers:=w.heap.size }:=⟨_,rfl⟩
 obtain ⟨i1,n1⟩:=zo9 h4 (.deferred (some []))
 obtain ⟨W0,hW0⟩:∃ W0,w.alloc (.deferred (some []))=W0:=⟨_,rfl⟩
 have hsz:W0.heap.size=w.heap.size+1:=by rw [← hW0]; simp
 rw [hW0]at i1 n1
 have hdef:W0.heap[w.heap.size]?=some (.deferred (some [])):=by rw [← hW0]; exact World.alloc_heap_new w _
 obtain ⟨W1,hW1⟩:∃ W1,W0.alloc (.loop rec)=W1:=⟨_,rfl⟩
 have hL1:W1.heap[W0.heap.size]?=some (.loop rec):=by rw [← hW1]; exact World.alloc_heap_new W0 _
 have hhold:Holds W0.heap F G W1.heap (.lp G.tick W0.heap.size (rec,L) (L.map e)) ⟨W0.heap.size,0⟩:=by
  refine ⟨rfl,a.tmps,by rw [hL1,hrec],⟨by rw [hrec],by simp⟩,fun i p j q1 q2=>?_⟩
  simp only at q2
  rw [List.getElem?_map,q2]at q1
  cases q1
  exact (h5 j).next h4 n1
 obtain ⟨i2,n2⟩:=zl4 i1 (.lp G.tick W0.heap.size (rec,L) (L.map e)) 0 W1 W1.drawn (by rw [← hW1]; rfl) (by rw [← hW1]; exact qR _) ⟨_,by rw [← hW1]; rfl⟩ rfl hhold
 have n12:=n1.trans n2
 have hgv:=h5.ev g
 rw [hg]at hgv
 obtain ⟨vs,hge,hvl,hvr⟩:=hgv.fn_at
 obtain ⟨J,hev,hJ⟩:=h W0.heap.size rec (by rw [hrec]; exact ⟨rfl,rfl,rfl,fun t ht=>by rw [h7]; exact d1 t ht,by rw [h7]; exact d2,by rw [h7]; exact d3⟩) (by rw [hrec]) (by rw [hrec])
 refine ⟨w.heap.size+1,[{ target := .collected w.heap.size,args := #[] }],W1,{ target := .fn (.func f) vs,args := #[.func (.yield (w.heap.size+1)) #[] #[]] },W1,f,
  #[.func (.yield (w.heap.size+1)) #[] #[]]++vs,W1,?_,?_,fun _ _=>trivial,?_,fun q=>(by simp [Fence.wide]at q),?_⟩
 ·rw [← hW1,← hW0,hrec]; exact run_enterLoop_outer _ _ _ _ _
 ·simp only[resolve,hge]
  simp [go_sem]
 ·simp only[invoke]; exact hev.ent _ _
 ·refine callsIn_wide.2 ((hev.run F _ W1 _ (zpv G _ _) i2 (by simp; omega) ?_).mono ?_)
  ·intro i p c q1 q2
   cases i with
   | zero=>rw [Array.getElem?_append_left (by simp)]at q2; simp at q1 q2; subst q1; subst q2; rw [hsz]; exact .imm _ _ (.yl _)
   | succ i =>
    simp only[List.getElem?_cons_succ]at q1
    rw [Array.getElem?_append_right (by simp)]at q2
    simp at q2
    exact (hvr i p c q1 q2).next h4 n12
  ·rintro en w2 ⟨v,cv,F2,G2,rfl,j1,j2,j3,j4⟩
   obtain ⟨ver,r',L',tm,x,g1,g2,g3,g4⟩:=hJ v _ j1
   obtain ⟨lc,hG2⟩:=zey g1
   rw [show (GSt.er G).obs.length=G.obs.length by simp [GSt.er]]at hG2 g4
   obtain ⟨t,p1,p2,p3⟩:=z1u j2 hG2 .exhausted r'.pending
   rw [hsz]at p1
   refine ⟨_,_,run_endLoop p1 g2,?_⟩
   have hnx:=(h6.trans n12).trans (j3.trans p3)
   have hmk:Marks w0 ([{ target := .collected w.heap.size,args := #[] }]++a.defers) (w2.putObj W0.heap.size (.loop { r' with tmps:=t,state := .exhausted,pending:=r'.pending })):=by
    have m1:=h8.next h4 n12
    have hd1:W1.heap[w.heap.size]?=some (.deferred (some [])):=(by rw [← hW1]; exact (Go.RowKit.Below.heap_alloc W0 _ _ (by omega)).trans hdef)
    have m2:Marks w0 ([{ target := .collected w.heap.size,args := #[] }]++a.defers) W1:=by
     obtain ⟨bs,b1,b2,b3⟩:=h8
     obtain ⟨bs',c1,c2,c3⟩:=m1
     have hb:bs'=bs:=by
      rw [b1]at c1
      have:=congrArg (List.map fun d:Deferred=>(match d.target with | .collected b=>b | _=>0)) c1
      simpa [List.map_map,Function.comp_def] using this.symm
     subst hb
     refine ⟨w.heap.size::bs',by rw [b1]; simp,?_,?_⟩
     ·refine List.nodup_cons.2 ⟨fun hm=>?_,b2⟩
      have:=(Array.getElem?_eq_some_iff.1 (b3 _ hm).2).1
      omega
     intro b hb
     rcases List.mem_cons.1 hb with rfl | hb
     ·exact ⟨h6.size,hd1⟩
     exact c3 b hb
    exact (m2.next i2 j3).next j2 p3
   have henv:ze0 (w2.putObj W0.heap.size (.loop { r' with tmps:=t,state := .exhausted,pending:=r'.pending })).heap F2 ⟨G2.obs.set G.obs.length (.lp ver W0.heap.size ({ r' with state := .exhausted,pending:=r'.pending },L') tm,lc),G2.tick⟩ e { a with defers:=[{ target := .collected w.heap.size,args := #[] }]++a.defers } :=
    fun k=>(((h5 k).next h4 n12).next i2 j3).next j2 p3
   have hst:Sto F0 G0 w0 N Q x { a with defers:=[{ target := .collected w.heap.size,args := #[] }]++a.defers } (w2.putObj W0.heap.size (.loop { r' with tmps:=t,state := .exhausted,pending:=r'.pending })):=by
    rw [← zii (l:=lc)]at g4
    rcases g4 with g4 | ⟨L2,g4⟩
    ·exact ⟨e,F2,_,g4,p2,henv,hnx,h7,hmk⟩
    obtain ⟨vs,F3,G3,q1,q2,q3,q4,q5⟩:=zmy p2 henv g4
    exact ⟨_,F3,G3,q1,q3,q5,hnx.trans q4,h7,hmk⟩
   rw [hsz]at hst
   cases hpe:r'.pending with
   | none=>rw [hpe]at g3 hst ; simp only[z26]at g3; cases g3; exact hst
   | some c =>
    rw [hpe]at g3 hst
    cases c <;> simp only[z26]at g3 <;> cases g3
    ·exact wpIn_exit hst
    exact wpIn_ret hst
theorem PN.ofV {f:FuncId} {fn:Func} {c:Code} (h:Fn P f fn c) (hT:zbi P T) (hm:P.follows .mixedOrders=true) {args:List PV} {r:PV} {obs:List Ob} {im:Bool} (hn:args.length≤fn.ntmps)
  (hw:V P T c (zew T fn.results.toList fun v S=>∃ k,sh (S.take k) im 10 v=some r∧zf7 (S.take k) im (S.take k).obs=some obs) (zaf args) ⟨[],0⟩):PN P f args r obs im :=
 Ev.ofV h hT hm hn (hw.mono fun x e S hx=>by
  have key:∀ (v:PV) (S:Store),(∃ k,sh (S.take k) im 10 v=some r∧zf7 (S.take k) im (S.take k).obs=some obs) →
    ∃ k1 k,sh ((S.take k1).take k) im 10 v=some r∧zf7 ((S.take k1).take k) im ((S.take k1).take k).obs=some obs:=by
   rintro v S ⟨k,h1,h2⟩
   have e:(S.take k).take k=S.take k:=by simp [Store.take,List.take_take]
   exact ⟨k,k,by rw [e]; exact h1,by rw [e]; exact h2⟩
  cases x <;> simp only[zew,zh9]at hx ⊢ <;> (try exact hx)
  all_goals
   split at hx
   ·exact key _ _ hx
   exact hx)
end
end
theorem zht {q:List Txt} (h:zfg q=true):decide (zvo (gP q) 4 (zaq q).length q.length=0)=zc5 q:=by
 unfold zc5
 rw [zfi,h,zf9,Bool.true_and]
theorem zg6 {q:List Txt} (h:zfg q=true):GW (gP q) q.length (zaq q).length:=by
 have h2:zfw q=true:=by rw [zfi]; exact h
 unfold zfw at h2
 rw [qB]at h2
 have:=zqk h2.1
 rwa [zf9]at this
theorem znw (a b:Int):PC Tryz.prog 52 [.int .i64 a,.int .i64 b] (.fn 102 [.ip [.int .i64 a] 0,.ip [.int .i64 b] 0]) false:=by
 refine PC.of ⟨Tryz.func52,by kernel_rfl,rfl,by kernel_rfl⟩ zam mixed (by show 2≤Tryz.f52.ntmps; decide) ?_
 refine W.r fun K hK=>?_
 simp(disch:=omega)only[↓RU,RV,RH,↓reduceIte,qE,reduceCtorEq,if_pos,↓RS,RG,qA,qM,qL,zaa]
 apply hK;clear hK K
 refine W.r fun K hK=>?_
 simp(disch:=omega)only[↓RU,RV,RH,↓reduceIte,qE,reduceCtorEq,if_pos,↓RS,RG,qA,qM,qL]
 apply hK;clear hK K
 refine W.ret ?_
 refine Br rfl ?_
 rfl
theorem ztu {g:List (List Int)} {nh nw:Nat} (hg:GW g nh nw) (rs:List Rect) (hz:∀ r∈g,∀ z∈r,0≤z∧z≤100):PN Tryz.prog 65 [zbh g rs] (.loc 0 0 0 nh) [.arr 0 9 1 ((zfh g).map .str)] false:=by
 have hl:=hg.1
 obtain ⟨hg1,hg2,hg3,hg4⟩:=hg.2.2
 refine PN.of ⟨Tryz.func65,by kernel_rfl,rfl,by kernel_rfl⟩ zam mixed (by show 1≤Tryz.f65.ntmps; decide) ?_
 refine W.r fun K hK=>?_
 simp(disch:=omega)only[↓RU,RV,RH,↓reduceIte,qE,reduceCtorEq,if_pos,↓RS,RG,qA,qM,qL]
 apply hK;clear hK K
 refine W.r fun K hK=>?_
 simp(disch:=omega)only[↓RU,RV,RH,↓reduceIte,qE,reduceCtorEq,if_pos,qN,↓RS,RG,qA,qM,qL,ty6,zac,hl,zdl,zg7,zcx]
 refine zad.pc (zpz g rs) rfl (.inl rfl) ?_
 simp(disch:=omega)only[↓RU,RV,RH,↓reduceIte,qE,reduceCtorEq,if_pos,qN,↓RS,RG,qA,qM,qL,ty6,zac,hl,zdl,zg7,zcx]
 apply hK;clear hK K
 refine W.seq ?_
 refine W.r fun K hK=>?_
 simp(disch:=omega)only[↓RU,RV,RH,↓reduceIte,qE,reduceCtorEq,if_pos,↓RS,RG,qA,qM,qL,ty1,ty4,zab,zdg,zbl,zcn,zaa,zdh,zco,hl]
 apply hK;clear hK K
 refine W.block ?_
 refine W.loop [0,3,15,16,17] (fun n vs S=>∃ (i vo t:Nat) (o:List Txt),n=nh - i∧i≤nh∧o.length=nh∧(∀ j,j<i→o[j]?=(zfh g)[j]?)∧vs=[zbh g rs,.loc 0 vo 0 nh,zea g,.int .i64 nh,.int .i64 (i:Nat)]∧S=⟨[.arr vo 9 1 (o.map .str)],t⟩) nh ?_ ?_
 ·refine ⟨1,0,0,1,List.replicate nh [],rfl,Nat.zero_le _,by simp,fun j h=>absurd h (by omega),?_,?_⟩
  ·simp [Env.put,Env.of,zaf,hl]
  simp [zap,zg7]
 rintro n vs S - ⟨i,vo,t,o,rfl,h_i,hol,hdone,rfl,rfl⟩
 refine W.r fun K hK=>?_
 simp(disch:=omega)only[↓RU,RV,RH,↓reduceIte,qE,reduceCtorEq,if_pos,w64,↓RS,RG,qA,qM,qL,zaa]
 apply hK;clear hK K
 refine W.seq ?_
 refine W.cond rfl (fun h=>?_) (fun h=>?_)
 ·try simp only[RL]at h
  obtain ⟨row,hrow,hrm⟩:=zae (show i<g.length by omega)
  have hrl:=hg.2.1 row hrm
  have hrz:=hz row hrm
  refine W.skip ?_
  refine xn ?_
  refine W.seq ?_
  refine W.block ?_
  refine W.r fun K hK=>?_
  simp(disch:=omega)only[↓RU,RV,RH,↓reduceIte,qE,reduceCtorEq,if_pos,↓RS,RG,qA,qM,qL,ty1,zab,zbl,zaa,hrow]
  apply hK;clear hK K
  refine W.r fun K hK=>?_
  simp(disch:=omega)only[↓RU,RV,RH,↓reduceIte,qE,reduceCtorEq,if_pos,↓RS,RG,qA,qM,qL,ty7,ty9,ygy,ygz,zei]
  apply hK;clear hK K
  refine W.seq ?_
  refine W.r fun K hK=>?_
  simp(disch:=omega)only[↓RU,RV,RH,↓reduceIte,qE,reduceCtorEq,if_pos,↓RS,RG,qA,qM,qL,zab,zaa,hrl]
  apply hK;clear hK K
  refine W.block ?_
  refine W.loop [0,3,15,16,17,4,6,22,23,24] (fun n vs S=>∃ (k vb vq t:Nat),n=nw - k∧k≤nw∧vs=[zbh g rs,.loc 0 vo 0 nh,zea g,.int .i64 nh,.int .i64 (i:Nat),.int .i64 (i:Nat),.ref 1 vb 0,eInts row,.int .i64 nw,.int .i64 (k:Nat)]∧S=stB o vo vb (zoi (row.take k)) vq t) nw ?_ ?_
  ·refine ⟨2,0,_,0,_,rfl,Nat.zero_le _,?_,rfl⟩
   simp [Env.put,Env.of,hrl]
  rintro n vs S - ⟨k,vb,vq,t,rfl,h_k,rfl,rfl⟩
  refine W.r fun K hK=>?_
  simp(disch:=omega)only[↓RU,RV,RH,↓reduceIte,qE,reduceCtorEq,if_pos,w64,↓RS,RG,qA,qM,qL,zaa]
  apply hK;clear hK K
  refine W.seq ?_
  refine W.cond rfl (fun h1=>?_) (fun h1=>?_)
  ·try simp only[RL]at h1
   obtain ⟨z,hzk,hzm⟩:=zae (show k<row.length by omega)
   have hzb:=hrz z hzm
   have hul:=ycl hzb.1
   refine W.skip ?_
   refine xn ?_
   refine W.seq ?_
   refine W.block ?_
   refine W.r fun K hK=>?_
   simp(disch:=omega)only[↓RU,RV,RH,↓reduceIte,qE,reduceCtorEq,if_pos,↓RS,RG,qA,qM,qL,zab,zaa,hzk]
   apply hK;clear hK K
   refine W.k fun K hK=>?_
   simp(disch:=omega)only[↓RU,RV,RH,↓reduceIte,qE,reduceCtorEq,if_pos,w64,w64,qN,↓RS,RG,qA,qM,qL,zaa,zei,hul]
   refine zad.ev (zod (by rw [zu7,List.length_take]; omega) (z4r z)) ?_
   rintro _ _ ⟨rfl,vq2,t2,rfl⟩
   simp(disch:=omega)only[↓RU,RV,RH,↓reduceIte,qE,reduceCtorEq,if_pos,w64,w64,qN,↓RS,RG,qA,qM,qL,zaa,zei,hul]
   apply hK;clear hK K
   refine XbN ?_
   refine xn ?_
   refine W.k fun K hK=>?_
   simp(disch:=omega)only[↓RU,RV,RH,↓reduceIte,qE,reduceCtorEq,if_pos,w64,↓RS,RG,qA,qM,qL,zaa]
   apply hK;clear hK K
   refine xn ?_
   refine ⟨nw - (k+1),by omega,_,k+1,vb,vq2,t2,rfl,by omega,?_,by rw [zx4 hzk]; exact zal⟩
   simp [Env.put,Env.of]
  try simp only[RL]at h1
  obtain rfl:nw=k:=by omega
  refine W.exit ?_
  refine xe ?_
  refine xe ?_
  refine XBlock.hit ?_
  refine xn ?_
  refine W.k fun K hK=>?_
  have htk:row.take nw=row:=qT (by omega)
  rw [htk]
  have hne:=z7w (row:=row) (by omega)
  simp(disch:=omega)only[↓RU,RV,RH,↓reduceIte,qE,reduceCtorEq,if_pos,qN,↓RS,RG,qA,qM,qL,ty6,zac,hol,za3,zjd]
  refine zad.ev (zr8 hne) ?_
  rintro _ _ ⟨rfl,rfl⟩
  simp(disch:=omega)only[↓RU,RV,RH,↓reduceIte,qE,reduceCtorEq,if_pos,qN,↓RS,RG,qA,qM,qL,ty6,zac,hol,za3,zjd]
  apply hK;clear hK K
  refine XbN ?_
  refine xn ?_
  refine W.k fun K hK=>?_
  simp(disch:=omega)only[↓RU,RV,RH,↓reduceIte,qE,reduceCtorEq,if_pos,w64,↓RS,RG,qA,qM,qL,zaa]
  apply hK;clear hK K
  refine xn ?_
  refine ⟨nh - (i+1),by omega,1,i+1,vo,t,o.set i (zoi row),rfl,by omega,by simp [hol],?_,?_,?_⟩
  ·intro j hj
   by_cases e:j=i
   ·subst e; rw [zjy hrow,List.getElem?_set,if_pos rfl,if_pos (by omega)]
   rw [List.getElem?_set,if_neg (Ne.symm e)]; exact hdone j (by omega)
  ·simp [Env.put,Env.of]
  simp [zap]
 try simp only[RL]at h
 obtain rfl:nh=i:=by omega
 refine W.exit ?_
 refine xe ?_
 refine xe ?_
 refine XBlock.hit ?_
 refine xn ?_
 refine W.r fun K hK=>?_
 simp(disch:=omega)only[↓RU,RV,RH,↓reduceIte,qE,reduceCtorEq,if_pos,↓RS,RG,qA,qM,qL]
 apply hK;clear hK K
 refine W.ret ?_
 refine Br rfl ?_
 have hdo:=zyh (by omega) (fun j hj=>hdone j (by omega))
 subst hdo
 exact zrf rfl (zzu _)
def ze4 (w:List Int) (q:List Txt):Bool:=decide ((rP q).length=w.length) && (zc5 q && decide (zec q=w))
theorem yap {k r d:Nat} (l:List Txt):(l.map PV.str).mapM (sf k r (d+1))=some (l.map PV.str):=za8 fun x hx=>by obtain ⟨a,_,rfl⟩:=List.mem_map.1 hx; rfl
theorem ybk {w:List Int} {l r2:Nat} {r:Loop}:zrd 3 r2 [.arr 1 22 1 [.nils],.arr 2 4 1 [.bool false],.lp 3 l (r,[5,6,7]) [.ip [eInts w] 0,.ref 0 1 0,.ref 1 2 0]]=some [.arr 1 22 1 [.nils],.arr 2 4 1 [.bool false],.lp 3 l (r,[5,6,7]) [.ip [eInts w] 0,.ref 0 1 0,.ref 1 2 0]]:=by
 simp only[zrd,z2c]
 rfl
theorem z5f {w:List Int} {l r2 x:Nat} {r:Loop} {q:List Txt}:zrd 3 r2 ([.arr 1 22 1 [.loc (3+0) x 0 q.length],.arr 2 4 1 [.bool true],.lp 3 l ({ r with state := .done,pending:=some .ret },[5,6,7]) [.ip [eInts w] 0,.ref 0 1 0,.ref 1 2 0]]++[.arr x 9 1 (q.map .str)])=some ([.arr 1 22 1 [.loc (3+r2) x 0 q.length],.arr 2 4 1 [.bool true],.lp 3 l ({ r with state := .done,pending:=some .ret },[5,6,7]) [.ip [eInts w] 0,.ref 0 1 0,.ref 1 2 0]]++[.arr x 9 1 (q.map .str)]):=by
 simp only[zrd,z2c,List.cons_append,List.nil_append,yap]
 simp [sf]
theorem yfs {a b c:Ob} {x t n:Nat} {J:List Ob} {q:List Txt} (ha:a = .arr 1 22 1 [.loc (3+J.length) x 0 n]) (hb:b = .arr 2 4 1 [.bool true]) :
  Store.rn ⟨a::b::c::(J++[.arr x 9 1 (q.map .str)]),t⟩ 0 [3+J.length,0,1]=some ⟨[.arr t 9 1 (q.map .str),.arr t 22 1 [.loc 0 t 0 n],.arr t 4 1 [.bool true]],t+1⟩:=by
 subst ha hb
 have e0:(a2:Ob)→(b2:Ob)→(a2::b2::c::(J++[.arr x 9 1 (q.map .str)]))[3+J.length]?=some (.arr x 9 1 (q.map .str)):=fun a2 b2=>by
  rw [show 3+J.length=J.length+1+1+1 by omega,List.getElem?_cons_succ,List.getElem?_cons_succ,List.getElem?_cons_succ,List.getElem?_append_right (qR _),Nat.sub_self]; rfl
 have e1:∀ S:Store,(q.map PV.str).mapM (rn S 0 [3+J.length,0,1] 10)=some (q.map PV.str):=fun S=>za8 fun y hy=>by obtain ⟨z,_,rfl⟩:=List.mem_map.1 hy; rfl
 have n0:¬ (3+J.length=0):=by omega
 have n1:¬ (3+J.length=1):=by omega
 unfold Store.rn
 rw [if_pos (by simp; omega)]
 simp only[List.range_zero,zoh,e0,Option.bind_some,z11,e1,List.getElem?_cons_zero,List.getElem?_cons_succ,qO]
 simp [rn,e0,rfq]
theorem yc2 {t n:Nat} {o:Ob}:zq0 tab ⟨[o,.arr t 22 1 [.loc 0 t 0 n],.arr t 4 1 [.bool true]],t+1⟩ (Env.of [6,7] [.ref 1 t 0,.ref 2 t 0]) [.cell 6 22,.cell 7 4]=some (.tup [.loc 0 t 0 n,.bool true]):=by
 have e1:∀ v:PV,ziz (tab 22) [v] 0=some v:=fun _=>rfl
 have e2:∀ v:PV,ziz (tab 4) [v] 0=some v:=fun _=>rfl
 simp [zq0,zi6,zth,Env.of,zr1,Store.cellsOf,e1,e2]
theorem yc3 {v1 v2 e1 e2 s1 s2 t j:Nat} {c1 c2:List PV} {R:List Ob}:[PV.ref 0 v1 0,PV.ref 1 v2 0].mapM (rn ⟨.arr v1 e1 s1 c1 :: .arr v2 e2 s2 c2::R,t⟩ 0 [3+j,0,1] 10)=some [.ref 1 t 0,.ref 2 t 0]:=by
 have n0:(3+j == 0)=false:=by rw [beq_eq_false_iff_ne]; omega
 have n1:(3+j == 1)=false:=by rw [beq_eq_false_iff_ne]; omega
 simp [rn,List.idxOf_cons,n0,n1]
theorem z9c {a b:Int} {w:List Int} (hw:w.length≤1048576) (hv:(zj5 a b && zhc w)=false):PC Tryz.prog 17 [.int .i64 a,.int .i64 b,eInts w] (.tup [.sl [] 0,.bool false]) true:=by
 refine PC.ofV ⟨Tryz.func17,by kernel_rfl,rfl,by kernel_rfl⟩ zam mixed (by show 3≤Tryz.f17.ntmps; decide) ?_
 refine V.seq_region fun K hK=>?_
 simp(disch:=omega)only[↓RU,RV,RH,↓reduceIte,qE,reduceCtorEq,if_pos,↓RS,RG,qA,qM,qL,zab,ty6,zaj,zaa,zac]
 apply hK;clear hK K
 refine V.seq ?_
 refine W.v ?_
 refine W.r fun K hK=>?_
 cases hc:zj5 a b
 ·skip
  simp(disch:=omega)only[↓RU,RV,RH,↓reduceIte,qE,reduceCtorEq,if_pos,qN,↓RS,RG,qA,qM,qL,zab,zaa,hc]
  refine zad.pc (zh6 a b) rfl (.inl rfl) ?_
  simp(disch:=omega)only[↓RU,RV,RH,↓reduceIte,qE,reduceCtorEq,if_pos,qN,↓RS,RG,qA,qM,qL,zab,zaa,hc]
  apply hK;clear hK K
  refine W.cond rfl (fun h0=>?_) (fun h0=>?_)
  ·try simp only[RL]at h0
   refine W.r fun K hK=>?_
   simp(disch:=omega)only[↓RU,RV,RH,↓reduceIte,qE,reduceCtorEq,if_pos,↓RS,RG,qA,qM,qL,ty6,zaj,zac]
   apply hK;clear hK K
   refine W.ret ?_
   refine XThen.ret ?_
   refine Br rfl ?_
   rfl
  try simp only[RL]at h0
  exact absurd h0 (by simp)
 skip
 have hp:zhc w=false:=by rw [hc,Bool.true_and]at hv; exact hv
 simp(disch:=omega)only[↓RU,RV,RH,↓reduceIte,qE,reduceCtorEq,if_pos,qN,↓RS,RG,qA,qM,qL,zab,zaa,hc,hp]
 refine zad.pc (zh6 a b) rfl (.inl rfl) ?_
 simp(disch:=omega)only[↓RU,RV,RH,↓reduceIte,qE,reduceCtorEq,if_pos,qN,↓RS,RG,qA,qM,qL,zab,zaa,hc,hp]
 refine zad.pc (zuu (l:=w) (by omega)) rfl (.inl rfl) ?_
 simp(disch:=omega)only[↓RU,RV,RH,↓reduceIte,qE,reduceCtorEq,if_pos,qN,↓RS,RG,qA,qM,qL,zab,zaa,hc,hp]
 apply hK;clear hK K
 refine W.cond rfl (fun h0=>?_) (fun h0=>?_)
 ·try simp only[RL]at h0
  refine W.r fun K hK=>?_
  simp(disch:=omega)only[↓RU,RV,RH,↓reduceIte,qE,reduceCtorEq,if_pos,↓RS,RG,qA,qM,qL,ty6,zaj,zac]
  apply hK;clear hK K
  refine W.ret ?_
  refine XThen.ret ?_
  refine Br rfl ?_
  rfl
 try simp only[RL]at h0
 exact absurd h0 (by simp)
theorem z2v {n m:Nat} {w:List Int} (hc:zj5 n m=true) (hp:zhc w=true) (h1:1≤n) (h2:n≤6) (h3:1≤m) (h4:m≤6) (h9:n*m≤9) (hF:(ze9 n m).find? (ze4 w)=none):PC Tryz.prog 17 [.int .i64 n,.int .i64 m,eInts w] (.tup [.sl [] 0,.bool false]) true:=by
 have hw7:w.length≤7:=by unfold zhc at hp; simp only[qB,decide_eq_true_eq]at hp; exact hp.1.2
 refine PC.ofV ⟨Tryz.func17,by kernel_rfl,rfl,by kernel_rfl⟩ zam mixed (by show 3≤Tryz.f17.ntmps; decide) ?_
 refine V.seq_boxZ [0,1,2,5] rfl fun K hK=>?_
 simp(disch:=omega)only[↓RU,RV,RH,↓reduceIte,qE,reduceCtorEq,if_pos,↓RS,RG,qA,qM,qL,zab,ty6,zaj,zaa,zac]
 refine ⟨0,[.int .i64 n,.int .i64 m,eInts w,.ip [eInts w] 0],⟨[],1⟩,rfl,rfl,?_⟩
 simp(disch:=omega)only[↓RU,RV,RH,↓reduceIte,qE,reduceCtorEq,if_pos,↓RS,RG,qA,qM,qL,zab,ty6,zaj,zaa,zac]
 apply hK;clear hK K
 refine V.seq ?_
 refine W.v ?_
 refine W.r fun K hK=>?_
 simp(disch:=omega)only[↓RU,RV,RH,↓reduceIte,qE,reduceCtorEq,if_pos,qN,↓RS,RG,qA,qM,qL,zab,zaa,hc,hp]
 refine zad.pc (zh6 n m) rfl (.inl rfl) ?_
 simp(disch:=omega)only[↓RU,RV,RH,↓reduceIte,qE,reduceCtorEq,if_pos,qN,↓RS,RG,qA,qM,qL,zab,zaa,hc,hp]
 refine zad.pc (zuu (l:=w) (by omega)) rfl (.inl rfl) ?_
 simp(disch:=omega)only[↓RU,RV,RH,↓reduceIte,qE,reduceCtorEq,if_pos,qN,↓RS,RG,qA,qM,qL,zab,zaa,hc,hp]
 apply hK;clear hK K
 refine W.cond rfl (fun h0=>?_) (fun h0=>?_)
 ·try simp only[RL]at h0
  exact absurd h0 (by simp)
 try simp only[RL]at h0
 refine W.skip ?_
 refine xn ?_
 refine V.seq ?_
 refine V.seq_region fun K hK=>?_
 simp(disch:=omega)only[↓RU,RV,RH,↓reduceIte,qE,reduceCtorEq,if_pos,qN,↓RS,RG,qA,qM,qL]
 refine zad.pc (znw _ _) rfl (.inr rfl) ?_
 simp(disch:=omega)only[↓RU,RV,RH,↓reduceIte,qE,reduceCtorEq,if_pos,qN,↓RS,RG,qA,qM,qL]
 apply hK;clear hK K
 refine V.block ?_
 refine V.rangeFuncK [5,6,7] rfl fun l r hr hst hpd=>?_
 have hrr:({ r with state := .ready,pending:=none }:Loop)=r:=by cases r; simp only at hst hpd; subst hst; subst hpd; rfl
 refine ⟨_,zwh (σ:=Unit) (lb:=l) (k:=3) (pre:=fun _=>[.arr 1 22 1 [.nils],.arr 2 4 1 [.bool false],.lp 3 l (r,[5,6,7]) [.ip [eInts w] 0,.ref 0 1 0,.ref 1 2 0]]) (fin:=fun r2 q x=>([.arr 1 22 1 [.loc (3+r2) x 0 q.length],.arr 2 4 1 [.bool true],.lp 3 l ({ r with state := .done,pending:=some .ret },[5,6,7]) [.ip [eInts w] 0,.ref 0 1 0,.ref 1 2 0]],[.arr x 9 1 (q.map .str)])) (stop:=ze4 w) (nxt:=fun _ _=>()) ⟨fun _=>rfl,fun _ _ _=>rfl,fun _ q t hq hsh=>?_,fun _ _=>ybk,fun _ _=>⟨trivial,trivial,⟨rfl,rfl,rfl,rfl⟩,trivial⟩,fun _ _ _=>⟨trivial,trivial,⟨rfl,rfl,rfl,rfl⟩,trivial,trivial⟩,fun _ _ _=>z5f⟩ h1 h2 h3 h4 h9 () _,?_⟩
 ·refine Ey.of (o:=2) zam mixed rfl hr hst rfl ?_
  change W _ _ _ _ (Env.put (Env.of [5,6,7] [.ip [eInts w] 0,.ref 0 1 0,.ref 1 2 0]) (some 21) (zbh (gP q) (rP q))) _
  refine W.k fun K hK=>?_
  simp(disch:=omega)only[↓RU,RV,RH,↓reduceIte,qE,reduceCtorEq,if_pos,↓RS,RG,qA,qM,qL]
  apply hK;clear hK K
  refine xn ⟨_,_,_,_,rfl,hst,?_⟩
  simp only[List.set_cons_succ,List.set_cons_zero]
  refine W.block ?_
  refine W.seq_draw (by kernel_rfl) fun K hK=>?_
  rcases (show (rP q).length≠w.length∨((rP q).length=w.length∧zc5 q=false)∨((rP q).length=w.length∧zc5 q=true∧zec q=w)∨((rP q).length=w.length∧zc5 q=true∧zec q≠w) by by_cases e0:(rP q).length=w.length <;> cases zc5 q <;> by_cases e:zec q=w <;> simp [e0,e]) with hq0 | ⟨hq0,hq1⟩ | ⟨hq0,hq1,hq2⟩ | ⟨hq0,hq1,hq2⟩
  ·skip
   have hgd:ze4 w q=false:=by unfold ze4; rw [decide_eq_false hq0,Bool.false_and]
   have hle:(((rP q).length:Int) == (w.length:Int))=false:=by rw [beq_eq_false_iff_ne]; omega
   simp(disch:=omega)only[↓RU,RV,RH,↓reduceIte,qE,reduceCtorEq,if_pos,w64,qN,↓RS,RG,qA,qM,qL,ty1,ty4,zab,zdg,zbl,zcn,zaa,zdh,zco,hle]
   apply hK;clear hK K
   refine W.cond rfl (fun h8=>?_) (fun h8=>?_)
   ·try simp only[RL]at h8
    exact absurd h8 (by simp)
   try simp only[RL]at h8
   refine W.skip ?_
   refine XbN ?_
   exact ⟨_,_,_,_,3,rfl,by rw [hgd]; rfl,_,by rw [hgd,if_neg (by simp)]; exact congrArg (fun r=>(⟨[_,_,.lp 3 l (r,[5,6,7]) _],_⟩:Store)) hrr⟩
  ·skip
   have hqp:=zgm (zg6 hq) (rP q)
   rw [zht hq,hq1]at hqp
   have hgd:ze4 w q=false:=by unfold ze4; rw [hq1,Bool.false_and,Bool.and_false]
   have hle:(((rP q).length:Int) == (w.length:Int))=true:=by rw [beq_iff_eq]; omega
   simp(disch:=omega)only[↓RU,RV,RH,↓reduceIte,qE,reduceCtorEq,if_pos,w64,qN,↓RS,RG,qA,qM,qL,ty1,ty4,zab,zdg,zbl,zcn,zaa,zdh,zco,hle]
   refine zad.pc (hqp) rfl (.inl rfl) ?_
   simp(disch:=omega)only[↓RU,RV,RH,↓reduceIte,qE,reduceCtorEq,if_pos,w64,qN,↓RS,RG,qA,qM,qL,ty1,ty4,zab,zdg,zbl,zcn,zaa,zdh,zco,hle]
   apply hK;clear hK K
   refine W.cond rfl (fun h8=>?_) (fun h8=>?_)
   ·try simp only[RL]at h8
    exact absurd h8 (by simp)
   try simp only[RL]at h8
   refine W.skip ?_
   refine XbN ?_
   exact ⟨_,_,_,_,3,rfl,by rw [hgd]; rfl,_,by rw [hgd,if_neg (by simp)]; exact congrArg (fun r=>(⟨[_,_,.lp 3 l (r,[5,6,7]) _],_⟩:Store)) hrr⟩
  ·skip
   have hqp:=zgm (zg6 hq) (rP q)
   rw [zht hq,hq1]at hqp
   obtain ⟨qrm,-,-⟩:=zjs hq1
   have qok:=(zhs hq1).1
   have q9:=zgn qok
   have hQ:=zlu (g:=gP q) (zqk qok) (rs:=rP q) rfl q9 qrm
   rw [z6k,z4v]at hQ
   have ql:=zfx (p:=q)
   have hde:decide (zec q=w)=true:=decide_eq_true hq2
   have hgd:ze4 w q=true:=by unfold ze4; rw [decide_eq_true hq0,hq1,hde]; rfl
   have hle:(((rP q).length:Int) == (w.length:Int))=true:=by rw [beq_iff_eq]; omega
   simp(disch:=omega)only[↓RU,RV,RH,↓reduceIte,qE,reduceCtorEq,if_pos,w64,qN,↓RS,RG,qA,qM,qL,ty1,ty4,zab,zdg,zbl,zcn,zaa,zdh,zco,hle,hde]
   refine zad.pc (hqp) rfl (.inl rfl) ?_
   simp(disch:=omega)only[↓RU,RV,RH,↓reduceIte,qE,reduceCtorEq,if_pos,w64,qN,↓RS,RG,qA,qM,qL,ty1,ty4,zab,zdg,zbl,zcn,zaa,zdh,zco,hle,hde]
   refine zad.pc (hQ) rfl (.inl rfl) ?_
   simp(disch:=omega)only[↓RU,RV,RH,↓reduceIte,qE,reduceCtorEq,if_pos,w64,qN,↓RS,RG,qA,qM,qL,ty1,ty4,zab,zdg,zbl,zcn,zaa,zdh,zco,hle,hde]
   refine zad.pc (zuv hq1) rfl (.inl rfl) ?_
   simp(disch:=omega)only[↓RU,RV,RH,↓reduceIte,qE,reduceCtorEq,if_pos,w64,qN,↓RS,RG,qA,qM,qL,ty1,ty4,zab,zdg,zbl,zcn,zaa,zdh,zco,hle,hde]
   refine zad.pc (zg1 (p:=zec q) (q:=w) (by omega) (by omega)) rfl (.inl rfl) ?_
   simp(disch:=omega)only[↓RU,RV,RH,↓reduceIte,qE,reduceCtorEq,if_pos,w64,qN,↓RS,RG,qA,qM,qL,ty1,ty4,zab,zdg,zbl,zcn,zaa,zdh,zco,hle,hde]
   apply hK;clear hK K
   refine W.cond rfl (fun h8=>?_) (fun h8=>?_)
   ·try simp only[RL]at h8
    refine W.r fun K hK=>?_
    have htx:=ztu (zg6 hq) (rP q) (zqj qok)
    rw [(zdo hq).ht]at htx
    simp(disch:=omega)only[↓RU,RV,RH,↓reduceIte,qE,reduceCtorEq,if_pos,qN,↓RS,RG,qA,qM,qL,ty6,zaj,zac]
    refine zad.pn (htx) rfl (.inr rfl) ?_
    simp(disch:=omega)only[↓RU,RV,RH,↓reduceIte,qE,reduceCtorEq,if_pos,qN,↓RS,RG,qA,qM,qL,ty6,zaj,zac,RN]
    apply hK;clear hK K
    refine W.ret ?_
    refine XBlock.ret ?_
    exact ⟨_,_,_,_,4,rfl,by rw [hgd]; rfl,_,by rw [hgd,if_pos rfl]; exact ⟨_,rfl⟩⟩
   try simp only[RL]at h8
   exact absurd h8 (by simp)
  skip
  have hqp:=zgm (zg6 hq) (rP q)
  rw [zht hq,hq1]at hqp
  obtain ⟨qrm,-,-⟩:=zjs hq1
  have qok:=(zhs hq1).1
  have q9:=zgn qok
  have hQ:=zlu (g:=gP q) (zqk qok) (rs:=rP q) rfl q9 qrm
  rw [z6k,z4v]at hQ
  have ql:=zfx (p:=q)
  have hde:decide (zec q=w)=false:=decide_eq_false hq2
  have hgd:ze4 w q=false:=by unfold ze4; rw [hq1,hde,Bool.true_and,Bool.and_false]
  have hle:(((rP q).length:Int) == (w.length:Int))=true:=by rw [beq_iff_eq]; omega
  simp(disch:=omega)only[↓RU,RV,RH,↓reduceIte,qE,reduceCtorEq,if_pos,w64,qN,↓RS,RG,qA,qM,qL,ty1,ty4,zab,zdg,zbl,zcn,zaa,zdh,zco,hle,hde]
  refine zad.pc (hqp) rfl (.inl rfl) ?_
  simp(disch:=omega)only[↓RU,RV,RH,↓reduceIte,qE,reduceCtorEq,if_pos,w64,qN,↓RS,RG,qA,qM,qL,ty1,ty4,zab,zdg,zbl,zcn,zaa,zdh,zco,hle,hde]
  refine zad.pc (hQ) rfl (.inl rfl) ?_
  simp(disch:=omega)only[↓RU,RV,RH,↓reduceIte,qE,reduceCtorEq,if_pos,w64,qN,↓RS,RG,qA,qM,qL,ty1,ty4,zab,zdg,zbl,zcn,zaa,zdh,zco,hle,hde]
  refine zad.pc (zuv hq1) rfl (.inl rfl) ?_
  simp(disch:=omega)only[↓RU,RV,RH,↓reduceIte,qE,reduceCtorEq,if_pos,w64,qN,↓RS,RG,qA,qM,qL,ty1,ty4,zab,zdg,zbl,zcn,zaa,zdh,zco,hle,hde]
  refine zad.pc (zg1 (p:=zec q) (q:=w) (by omega) (by omega)) rfl (.inl rfl) ?_
  simp(disch:=omega)only[↓RU,RV,RH,↓reduceIte,qE,reduceCtorEq,if_pos,w64,qN,↓RS,RG,qA,qM,qL,ty1,ty4,zab,zdg,zbl,zcn,zaa,zdh,zco,hle,hde]
  apply hK;clear hK K
  refine W.cond rfl (fun h8=>?_) (fun h8=>?_)
  ·try simp only[RL]at h8
   exact absurd h8 (by simp)
  try simp only[RL]at h8
  refine W.skip ?_
  refine XbN ?_
  exact ⟨_,_,_,_,3,rfl,by rw [hgd]; rfl,_,by rw [hgd,if_neg (by simp)]; exact congrArg (fun r=>(⟨[_,_,.lp 3 l (r,[5,6,7]) _],_⟩:Store)) hrr⟩
 rintro v S2 hA
 skip
 rw [ye7,hF]at hA
 obtain ⟨t2,rfl⟩:=hA
 refine ⟨_,_,_,_,.normal,rfl,by rw [hst]; simp,by rw [hpd]; rfl,.inl ?_⟩
 change XBlock _ _ _ _ ⟨[_,_,_],_⟩
 refine XbN ?_
 refine xn ?_
 refine W.v ?_
 refine W.r fun K hK=>?_
 simp(disch:=omega)only[↓RU,RV,RH,↓reduceIte,qE,reduceCtorEq,if_pos,↓RS,RG,qA,qM,qL,ty6,zaj,zac]
 apply hK;clear hK K
 refine W.ret ?_
 refine Br rfl ?_
 rfl
theorem yeh {S:Store} {im:Bool} {v et n:Nat} {b:Bool} {cells:List PV} {R:List Ob} (hS:S.obs = .arr v et 1 cells::R) (hc:cells.mapM (sh (S.take 1) im 10)=some cells):∃ k,sh (S.take k) im 10 (.tup [.loc 0 v 0 n,.bool b])=some (.tup [.loc 0 0 0 n,.bool b])∧zf7 (S.take k) im (S.take k).obs=some [.arr 0 et 1 cells]:=by
 refine ⟨1,?_,?_⟩
 ·simp [sh,Store.take,hS]
 simp only[Store.take,hS]at hc ⊢
 simp only[List.take_succ_cons,List.take_zero]at hc ⊢
 simp only[zf7,zzt,hc,qO,Option.bind_some]
theorem z2w {n m:Nat} {w:List Int} (hc:zj5 n m=true) (hp:zhc w=true) (h1:1≤n) (h2:n≤6) (h3:1≤m) (h4:m≤6) (h9:n*m≤9) {qz:List Txt} (hF:(ze9 n m).find? (ze4 w)=some qz):PN Tryz.prog 17 [.int .i64 n,.int .i64 m,eInts w] (.tup [.loc 0 0 0 qz.length,.bool true]) [.arr 0 9 1 (qz.map .str)] false:=by
 have hw7:w.length≤7:=by unfold zhc at hp; simp only[qB,decide_eq_true_eq]at hp; exact hp.1.2
 refine PN.ofV ⟨Tryz.func17,by kernel_rfl,rfl,by kernel_rfl⟩ zam mixed (by show 3≤Tryz.f17.ntmps; decide) ?_
 refine V.seq_boxZ [0,1,2,5] rfl fun K hK=>?_
 simp(disch:=omega)only[↓RU,RV,RH,↓reduceIte,qE,reduceCtorEq,if_pos,↓RS,RG,qA,qM,qL,zab,ty6,zaj,zaa,zac]
 refine ⟨0,[.int .i64 n,.int .i64 m,eInts w,.ip [eInts w] 0],⟨[],1⟩,rfl,rfl,?_⟩
 simp(disch:=omega)only[↓RU,RV,RH,↓reduceIte,qE,reduceCtorEq,if_pos,↓RS,RG,qA,qM,qL,zab,ty6,zaj,zaa,zac]
 apply hK;clear hK K
 refine V.seq ?_
 refine W.v ?_
 refine W.r fun K hK=>?_
 simp(disch:=omega)only[↓RU,RV,RH,↓reduceIte,qE,reduceCtorEq,if_pos,qN,↓RS,RG,qA,qM,qL,zab,zaa,hc,hp]
 refine zad.pc (zh6 n m) rfl (.inl rfl) ?_
 simp(disch:=omega)only[↓RU,RV,RH,↓reduceIte,qE,reduceCtorEq,if_pos,qN,↓RS,RG,qA,qM,qL,zab,zaa,hc,hp]
 refine zad.pc (zuu (l:=w) (by omega)) rfl (.inl rfl) ?_
 simp(disch:=omega)only[↓RU,RV,RH,↓reduceIte,qE,reduceCtorEq,if_pos,qN,↓RS,RG,qA,qM,qL,zab,zaa,hc,hp]
 apply hK;clear hK K
 refine W.cond rfl (fun h0=>?_) (fun h0=>?_)
 ·try simp only[RL]at h0
  exact absurd h0 (by simp)
 try simp only[RL]at h0
 refine W.skip ?_
 refine xn ?_
 refine V.seq ?_
 refine V.seq_region fun K hK=>?_
 simp(disch:=omega)only[↓RU,RV,RH,↓reduceIte,qE,reduceCtorEq,if_pos,qN,↓RS,RG,qA,qM,qL]
 refine zad.pc (znw _ _) rfl (.inr rfl) ?_
 simp(disch:=omega)only[↓RU,RV,RH,↓reduceIte,qE,reduceCtorEq,if_pos,qN,↓RS,RG,qA,qM,qL]
 apply hK;clear hK K
 refine V.block ?_
 refine V.rangeFuncK [5,6,7] rfl fun l r hr hst hpd=>?_
 have hrr:({ r with state := .ready,pending:=none }:Loop)=r:=by cases r; simp only at hst hpd; subst hst; subst hpd; rfl
 refine ⟨_,zwh (σ:=Unit) (lb:=l) (k:=3) (pre:=fun _=>[.arr 1 22 1 [.nils],.arr 2 4 1 [.bool false],.lp 3 l (r,[5,6,7]) [.ip [eInts w] 0,.ref 0 1 0,.ref 1 2 0]]) (fin:=fun r2 q x=>([.arr 1 22 1 [.loc (3+r2) x 0 q.length],.arr 2 4 1 [.bool true],.lp 3 l ({ r with state := .done,pending:=some .ret },[5,6,7]) [.ip [eInts w] 0,.ref 0 1 0,.ref 1 2 0]],[.arr x 9 1 (q.map .str)])) (stop:=ze4 w) (nxt:=fun _ _=>()) ⟨fun _=>rfl,fun _ _ _=>rfl,fun _ q t hq hsh=>?_,fun _ _=>ybk,fun _ _=>⟨trivial,trivial,⟨rfl,rfl,rfl,rfl⟩,trivial⟩,fun _ _ _=>⟨trivial,trivial,⟨rfl,rfl,rfl,rfl⟩,trivial,trivial⟩,fun _ _ _=>z5f⟩ h1 h2 h3 h4 h9 () _,?_⟩
 ·refine Ey.of (o:=2) zam mixed rfl hr hst rfl ?_
  change W _ _ _ _ (Env.put (Env.of [5,6,7] [.ip [eInts w] 0,.ref 0 1 0,.ref 1 2 0]) (some 21) (zbh (gP q) (rP q))) _
  refine W.k fun K hK=>?_
  simp(disch:=omega)only[↓RU,RV,RH,↓reduceIte,qE,reduceCtorEq,if_pos,↓RS,RG,qA,qM,qL]
  apply hK;clear hK K
  refine xn ⟨_,_,_,_,rfl,hst,?_⟩
  simp only[List.set_cons_succ,List.set_cons_zero]
  refine W.block ?_
  refine W.seq_draw (by kernel_rfl) fun K hK=>?_
  rcases (show (rP q).length≠w.length∨((rP q).length=w.length∧zc5 q=false)∨((rP q).length=w.length∧zc5 q=true∧zec q=w)∨((rP q).length=w.length∧zc5 q=true∧zec q≠w) by by_cases e0:(rP q).length=w.length <;> cases zc5 q <;> by_cases e:zec q=w <;> simp [e0,e]) with hq0 | ⟨hq0,hq1⟩ | ⟨hq0,hq1,hq2⟩ | ⟨hq0,hq1,hq2⟩
  ·skip
   have hgd:ze4 w q=false:=by unfold ze4; rw [decide_eq_false hq0,Bool.false_and]
   have hle:(((rP q).length:Int) == (w.length:Int))=false:=by rw [beq_eq_false_iff_ne]; omega
   simp(disch:=omega)only[↓RU,RV,RH,↓reduceIte,qE,reduceCtorEq,if_pos,w64,qN,↓RS,RG,qA,qM,qL,ty1,ty4,zab,zdg,zbl,zcn,zaa,zdh,zco,hle]
   apply hK;clear hK K
   refine W.cond rfl (fun h8=>?_) (fun h8=>?_)
   ·try simp only[RL]at h8
    exact absurd h8 (by simp)
   try simp only[RL]at h8
   refine W.skip ?_
   refine XbN ?_
   exact ⟨_,_,_,_,3,rfl,by rw [hgd]; rfl,_,by rw [hgd,if_neg (by simp)]; exact congrArg (fun r=>(⟨[_,_,.lp 3 l (r,[5,6,7]) _],_⟩:Store)) hrr⟩
  ·skip
   have hqp:=zgm (zg6 hq) (rP q)
   rw [zht hq,hq1]at hqp
   have hgd:ze4 w q=false:=by unfold ze4; rw [hq1,Bool.false_and,Bool.and_false]
   have hle:(((rP q).length:Int) == (w.length:Int))=true:=by rw [beq_iff_eq]; omega
   simp(disch:=omega)only[↓RU,RV,RH,↓reduceIte,qE,reduceCtorEq,if_pos,w64,qN,↓RS,RG,qA,qM,qL,ty1,ty4,zab,zdg,zbl,zcn,zaa,zdh,zco,hle]
   refine zad.pc (hqp) rfl (.inl rfl) ?_
   simp(disch:=omega)only[↓RU,RV,RH,↓reduceIte,qE,reduceCtorEq,if_pos,w64,qN,↓RS,RG,qA,qM,qL,ty1,ty4,zab,zdg,zbl,zcn,zaa,zdh,zco,hle]
   apply hK;clear hK K
   refine W.cond rfl (fun h8=>?_) (fun h8=>?_)
   ·try simp only[RL]at h8
    exact absurd h8 (by simp)
   try simp only[RL]at h8
   refine W.skip ?_
   refine XbN ?_
   exact ⟨_,_,_,_,3,rfl,by rw [hgd]; rfl,_,by rw [hgd,if_neg (by simp)]; exact congrArg (fun r=>(⟨[_,_,.lp 3 l (r,[5,6,7]) _],_⟩:Store)) hrr⟩
  ·skip
   have hqp:=zgm (zg6 hq) (rP q)
   rw [zht hq,hq1]at hqp
   obtain ⟨qrm,-,-⟩:=zjs hq1
   have qok:=(zhs hq1).1
   have q9:=zgn qok
   have hQ:=zlu (g:=gP q) (zqk qok) (rs:=rP q) rfl q9 qrm
   rw [z6k,z4v]at hQ
   have ql:=zfx (p:=q)
   have hde:decide (zec q=w)=true:=decide_eq_true hq2
   have hgd:ze4 w q=true:=by unfold ze4; rw [decide_eq_true hq0,hq1,hde]; rfl
   have hle:(((rP q).length:Int) == (w.length:Int))=true:=by rw [beq_iff_eq]; omega
   simp(disch:=omega)only[↓RU,RV,RH,↓reduceIte,qE,reduceCtorEq,if_pos,w64,qN,↓RS,RG,qA,qM,qL,ty1,ty4,zab,zdg,zbl,zcn,zaa,zdh,zco,hle,hde]
   refine zad.pc (hqp) rfl (.inl rfl) ?_
   simp(disch:=omega)only[↓RU,RV,RH,↓reduceIte,qE,reduceCtorEq,if_pos,w64,qN,↓RS,RG,qA,qM,qL,ty1,ty4,zab,zdg,zbl,zcn,zaa,zdh,zco,hle,hde]
   refine zad.pc (hQ) rfl (.inl rfl) ?_
   simp(disch:=omega)only[↓RU,RV,RH,↓reduceIte,qE,reduceCtorEq,if_pos,w64,qN,↓RS,RG,qA,qM,qL,ty1,ty4,zab,zdg,zbl,zcn,zaa,zdh,zco,hle,hde]
   refine zad.pc (zuv hq1) rfl (.inl rfl) ?_
   simp(disch:=omega)only[↓RU,RV,RH,↓reduceIte,qE,reduceCtorEq,if_pos,w64,qN,↓RS,RG,qA,qM,qL,ty1,ty4,zab,zdg,zbl,zcn,zaa,zdh,zco,hle,hde]
   refine zad.pc (zg1 (p:=zec q) (q:=w) (by omega) (by omega)) rfl (.inl rfl) ?_
   simp(disch:=omega)only[↓RU,RV,RH,↓reduceIte,qE,reduceCtorEq,if_pos,w64,qN,↓RS,RG,qA,qM,qL,ty1,ty4,zab,zdg,zbl,zcn,zaa,zdh,zco,hle,hde]
   apply hK;clear hK K
   refine W.cond rfl (fun h8=>?_) (fun h8=>?_)
   ·try simp only[RL]at h8
    refine W.r fun K hK=>?_
    have htx:=ztu (zg6 hq) (rP q) (zqj qok)
    rw [(zdo hq).ht]at htx
    simp(disch:=omega)only[↓RU,RV,RH,↓reduceIte,qE,reduceCtorEq,if_pos,qN,↓RS,RG,qA,qM,qL,ty6,zaj,zac]
    refine zad.pn (htx) rfl (.inr rfl) ?_
    simp(disch:=omega)only[↓RU,RV,RH,↓reduceIte,qE,reduceCtorEq,if_pos,qN,↓RS,RG,qA,qM,qL,ty6,zaj,zac,RN]
    apply hK;clear hK K
    refine W.ret ?_
    refine XBlock.ret ?_
    exact ⟨_,_,_,_,4,rfl,by rw [hgd]; rfl,_,by rw [hgd,if_pos rfl]; exact ⟨_,rfl⟩⟩
   try simp only[RL]at h8
   exact absurd h8 (by simp)
  skip
  have hqp:=zgm (zg6 hq) (rP q)
  rw [zht hq,hq1]at hqp
  obtain ⟨qrm,-,-⟩:=zjs hq1
  have qok:=(zhs hq1).1
  have q9:=zgn qok
  have hQ:=zlu (g:=gP q) (zqk qok) (rs:=rP q) rfl q9 qrm
  rw [z6k,z4v]at hQ
  have ql:=zfx (p:=q)
  have hde:decide (zec q=w)=false:=decide_eq_false hq2
  have hgd:ze4 w q=false:=by unfold ze4; rw [hq1,hde,Bool.true_and,Bool.and_false]
  have hle:(((rP q).length:Int) == (w.length:Int))=true:=by rw [beq_iff_eq]; omega
  simp(disch:=omega)only[↓RU,RV,RH,↓reduceIte,qE,reduceCtorEq,if_pos,w64,qN,↓RS,RG,qA,qM,qL,ty1,ty4,zab,zdg,zbl,zcn,zaa,zdh,zco,hle,hde]
  refine zad.pc (hqp) rfl (.inl rfl) ?_
  simp(disch:=omega)only[↓RU,RV,RH,↓reduceIte,qE,reduceCtorEq,if_pos,w64,qN,↓RS,RG,qA,qM,qL,ty1,ty4,zab,zdg,zbl,zcn,zaa,zdh,zco,hle,hde]
  refine zad.pc (hQ) rfl (.inl rfl) ?_
  simp(disch:=omega)only[↓RU,RV,RH,↓reduceIte,qE,reduceCtorEq,if_pos,w64,qN,↓RS,RG,qA,qM,qL,ty1,ty4,zab,zdg,zbl,zcn,zaa,zdh,zco,hle,hde]
  refine zad.pc (zuv hq1) rfl (.inl rfl) ?_
  simp(disch:=omega)only[↓RU,RV,RH,↓reduceIte,qE,reduceCtorEq,if_pos,w64,qN,↓RS,RG,qA,qM,qL,ty1,ty4,zab,zdg,zbl,zcn,zaa,zdh,zco,hle,hde]
  refine zad.pc (zg1 (p:=zec q) (q:=w) (by omega) (by omega)) rfl (.inl rfl) ?_
  simp(disch:=omega)only[↓RU,RV,RH,↓reduceIte,qE,reduceCtorEq,if_pos,w64,qN,↓RS,RG,qA,qM,qL,ty1,ty4,zab,zdg,zbl,zcn,zaa,zdh,zco,hle,hde]
  apply hK;clear hK K
  refine W.cond rfl (fun h8=>?_) (fun h8=>?_)
  ·try simp only[RL]at h8
   exact absurd h8 (by simp)
  try simp only[RL]at h8
  refine W.skip ?_
  refine XbN ?_
  exact ⟨_,_,_,_,3,rfl,by rw [hgd]; rfl,_,by rw [hgd,if_neg (by simp)]; exact congrArg (fun r=>(⟨[_,_,.lp 3 l (r,[5,6,7]) _],_⟩:Store)) hrr⟩
 rintro v S2 hA
 skip
 rw [ye7,hF]at hA
 obtain ⟨t2,x,J,rfl⟩:=hA
 refine ⟨_,_,_,_,.ret,rfl,by simp,rfl,.inr ?_⟩
 simp only[List.cons_append,List.nil_append,List.length_cons,List.length_nil,Nat.zero_add,qA,List.set_cons_succ,List.set_cons_zero]
 refine ⟨[6,7],0,[3+J.length,0,1],[.ref 1 t2 0,.ref 2 t2 0],_,yc3,yfs (q:=qz) rfl rfl,?_⟩
 change XBlock _ _ _ _ ⟨[_,_,_],_⟩
 refine XBlock.ret ?_
 refine XThen.ret ?_
 refine Br yc2 ?_
 exact yeh rfl (zzu _)
abbrev eLL (L:List (List Txt)):PV := .sl (L.map zan) L.length
theorem ycc {p:List Txt} {H W:Nat} (h:Shp2 p H W) (hH:H≤6) (hW:W≤6):Sm p:=⟨by rw [h.h]; omega,fun r hr=>by rw [h.w r hr]; omega⟩
theorem zue {α β:Type} {f:α→List β} {B:Nat}:∀ {l:List α},(∀ a∈l,(f a).length≤B)→(l.flatMap f).length≤l.length*B
 | [],_=>by simp
 | a::l,h=>by
  have h1:=h a (by simp)
  have h2:=zue (f:=f) (B:=B) (l:=l) fun b hb=>h b (by simp [hb])
  rw [List.flatMap_cons,List.length_append,List.length_cons,Nat.succ_mul]
  omega
theorem yba {m n w d:Nat} {p:List Txt} {B:Nat} (h:∀ d,(Cd m p n w d).length≤B):(Ld m p n w d).length≤d*B:=by
 have:=zue (f:=Cd m p n w) (B:=B) (l:=List.range d) fun a _=>h a
 rwa [List.length_range]at this
theorem ybb {m n H w:Nat} {p:List Txt} {B:Nat} (h:∀ w d,(Cd m p n w d).length≤B):(Lw m p n H w).length≤w*((H - fi p)*B):=by
 have:=zue (f:=fun w=>Ld m p n w (H - fi p)) (B:=(H - fi p)*B) (l:=List.range w) fun a _=>yba (h a)
 rwa [List.length_range]at this
theorem z4u {H W:Nat} (h9:H*W≤9):∀ (m:Nat) {p:List Txt} {n:Nat},Shp2 p H W→(En m p n).length≤9 ^ m
 | 0,p,n,_=>by simp [En]
 | m+1,p,n,hp=>by
  by_cases hf:fi p<H
  ·rw [yct hp.h hf]
   refine Nat.le_trans (ybb (B:=9 ^ m) fun w d=>z4u h9 m (zky hp)) ?_
   have h1:=z9j hp hf
   rw [← Nat.mul_assoc,Nat.pow_succ,Nat.mul_comm (9 ^ m)]
   refine Nat.mul_le_mul_right _ (Nat.le_trans ?_ h9)
   rw [Nat.mul_comm H W]
   exact Nat.mul_le_mul (by omega) (by omega)
  unfold En
  rw [hp.h,if_neg hf]
  exact Nat.one_le_pow _ _ (by omega)
theorem yez {H W m n w d:Nat} {p:List Txt} (h9:H*W≤9) (hm:m≤8) (hp:Shp2 p H W) (hf:fi p<H) (hw:w<fw p) (hd:d<H - fi p):(Lw m p n H w++Ld m p n w d).length+(Cd m p n w d).length≤387420489:=by
 have hc:∀ w d,(Cd m p n w d).length≤9 ^ m:=fun w d=>z4u h9 m (zky hp)
 have a1:=ybb (m:=m) (n:=n) (H:=H) (w:=w) (p:=p) hc
 have a2:=yba (m:=m) (n:=n) (w:=w) (d:=d) (p:=p) (hc w)
 have a3:=hc w d
 have h1:=z9j hp hf
 have b1:(d+1)*9 ^ m≤(H - fi p)*9 ^ m:=Nat.mul_le_mul_right _ (by omega)
 have b2:(w+1)*((H - fi p)*9 ^ m)≤9*9 ^ m:=by
  rw [← Nat.mul_assoc]
  refine Nat.mul_le_mul_right _ (Nat.le_trans ?_ h9)
  rw [Nat.mul_comm H W]
  exact Nat.mul_le_mul (by omega) (by omega)
 have b3:(9:Nat) ^ m≤9 ^ 8:=Nat.pow_le_pow_right (by omega) hm
 rw [Nat.succ_mul]at b1 b2
 rw [List.length_append]
 omega
theorem z1y {S:Store} {o v et k:Nat} {L:List (List Txt)} (h:S.obs[o]?=some (.arr v et 1 (L.map zan))):reify S true (k+2) (.loc o v 0 L.length)=some (eLL L) :=
 zax h (by simp) (za8 fun x hx=>by obtain ⟨z,_,rfl⟩:=List.mem_map.1 hx; rfl)
theorem z0k {c:UInt8}:((c.toNat:Int) == 46)=decide (c=46):=by
 rw [Bool.eq_iff_iff]
 simp only[beq_iff_eq,decide_eq_true_eq]
 constructor
 ·intro h
  have:c.toNat=46:=by omega
  exact UInt8.toNat_inj.1 this
 intro h; subst h; rfl
theorem z13 {nh nw:Nat} {p:List Txt} {R:List RmB} (hs:St nh nw p R) (hn:R.length≤9) (h1:1≤nh) (h2:nh≤6) (h3:1≤nw) (h4:nw≤6) (hf:¬ fi p<nh) (n0:Int):PC Tryz.prog 93 [zan p,.int .i64 n0] (eLL [p]) false:=by
 have hph:=hs.sh.h
 refine PC.of ⟨Tryz.func93,by kernel_rfl,rfl,by kernel_rfl⟩ zam mixed (by show 2≤Tryz.f93.ntmps; decide) ?_
 refine W.r fun K hK=>?_
 simp(disch:=omega)only[↓RU,RV,RH,↓reduceIte,qE,reduceCtorEq,if_pos,↓RS,RG,qA,qM,qL]
 apply hK;clear hK K
 refine W.seq ?_
 refine W.r fun K hK=>?_
 simp(disch:=omega)only[↓RU,RV,RH,↓reduceIte,qE,reduceCtorEq,if_pos,↓RS,RG,qA,qM,qL]
 apply hK;clear hK K
 refine W.block ?_
 refine W.loop [0,1,5] (fun n vs S=>∃ i:Nat,n=nh - i∧i≤nh∧vs=[zan p,.int .i64 n0,.int .i64 i]∧S=⟨[],0⟩) nh ?_ ?_
 ·refine ⟨0,0,rfl,Nat.zero_le _,?_,rfl⟩
  simp [Env.put,Env.of,zaf]
 rintro n vs S - ⟨i,rfl,h_i,rfl,rfl⟩
 refine W.seq ?_
 refine W.r fun K hK=>?_
 simp(disch:=omega)only[↓RU,RV,RH,↓reduceIte,qE,reduceCtorEq,if_pos,w64,↓RS,RG,qA,qM,qL,ty6,zaa,zac,hph]
 apply hK;clear hK K
 refine W.cond rfl (fun h0=>?_) (fun h0=>?_)
 ·try simp only[RL]at h0
  obtain ⟨row,hrow,hrl,hrx⟩:=hs.sh.row (show i<nh by omega)
  refine W.skip ?_
  refine xn ?_
  refine W.seq ?_
  refine W.block ?_
  refine W.r fun K hK=>?_
  simp(disch:=omega)only[↓RU,RV,RH,↓reduceIte,qE,reduceCtorEq,if_pos,↓RS,RG,qA,qM,qL]
  apply hK;clear hK K
  refine W.block ?_
  refine W.loop [0,1,5,6] (fun n vs S=>∃ k:Nat,n=nw - k∧(i<nh∧k≤nw)∧vs=[zan p,.int .i64 n0,.int .i64 i,.int .i64 k]∧S=⟨[],0⟩) nw ?_ ?_
  ·refine ⟨0,0,rfl,by omega,?_,rfl⟩
   simp [Env.put,Env.of,zaf]
  rintro n vs S - ⟨k,rfl,h_k,rfl,rfl⟩
  refine W.seq ?_
  refine W.r fun K hK=>?_
  simp(disch:=omega)only[↓RU,RV,RH,↓reduceIte,qE,reduceCtorEq,if_pos,w64,↓RS,RG,qA,qM,qL,ty6,zaa,zac,hrow,hrl]
  apply hK;clear hK K
  refine W.cond rfl (fun h1c=>?_) (fun h1c=>?_)
  ·try simp only[RL]at h1c
   have hkw:k<nw:=by omega
   have hc:=hrx k hkw
   refine W.skip ?_
   refine xn ?_
   refine W.seq ?_
   refine W.block ?_
   refine W.r fun K hK=>?_
   simp(disch:=omega)only[↓RU,RV,RH,↓reduceIte,qE,reduceCtorEq,if_pos,w64,↓RS,RG,qA,qM,qL,ty6,zac,zei,hrow,hrl,hc,z0k]
   apply hK;clear hK K
   refine W.cond rfl (fun h2c=>?_) (fun h2c=>?_)
   ·try simp only[RL]at h2c
    exact absurd h2c (zy2 hs.sh hf (by omega) hkw)
   try simp only[RL]at h2c
   refine W.skip ?_
   refine XbN ?_
   refine xn ?_
   refine W.k fun K hK=>?_
   simp(disch:=omega)only[↓RU,RV,RH,↓reduceIte,qE,reduceCtorEq,if_pos,w64,↓RS,RG,qA,qM,qL,zaa]
   apply hK;clear hK K
   refine xn ?_
   refine ⟨nw - (k+1),by omega,0,k+1,rfl,by omega,?_,rfl⟩
   simp [Env.put,Env.of]
  try simp only[RL]at h1c
  obtain rfl:k=nw:=by omega
  refine W.exit ?_
  refine xe ?_
  refine xe ?_
  refine XBlock.hit ?_
  refine XbN ?_
  refine xn ?_
  refine W.k fun K hK=>?_
  simp(disch:=omega)only[↓RU,RV,RH,↓reduceIte,qE,reduceCtorEq,if_pos,w64,↓RS,RG,qA,qM,qL,zaa]
  apply hK;clear hK K
  refine xn ?_
  refine ⟨nh - (i+1),by omega,0,i+1,rfl,by omega,?_,rfl⟩
  simp [Env.put,Env.of]
 try simp only[RL]at h0
 obtain rfl:i=nh:=by omega
 refine W.exit ?_
 refine xe ?_
 refine xe ?_
 refine XBlock.hit ?_
 refine xn ?_
 refine W.r fun K hK=>?_
 simp(disch:=omega)only[↓RU,RV,RH,↓reduceIte,qE,reduceCtorEq,if_pos,↓RS,RG,qA,qM,qL,ty2,ty6,zac]
 apply hK;clear hK K
 refine W.ret ?_
 refine Br rfl ?_
 exact zax (n:=1) rfl rfl (zas rfl rfl)
theorem z70 {nh nw:Nat} {p:List Txt} {R:List RmB} (hs:St nh nw p R) (hn:R.length≤9) (h1:1≤nh) (h2:nh≤6) (h3:1≤nw) (h4:nw≤6) (hf:fi p<nh) (n0:Int) {X:List (List Txt)} (hB:PC Tryz.prog 137 [zan p,.int .i64 n0,.int .i64 (fi p:Nat),.int .i64 (fk p:Nat)] (eLL X) false):PC Tryz.prog 93 [zan p,.int .i64 n0] (eLL X) false:=by
 have hph:=hs.sh.h
 obtain ⟨f1,f2,f3⟩:=ziw hs.sh hf
 refine PC.of ⟨Tryz.func93,by kernel_rfl,rfl,by kernel_rfl⟩ zam mixed (by show 2≤Tryz.f93.ntmps; decide) ?_
 refine W.r fun K hK=>?_
 simp(disch:=omega)only[↓RU,RV,RH,↓reduceIte,qE,reduceCtorEq,if_pos]
 apply hK;clear hK K
 refine W.seq ?_
 refine W.r fun K hK=>?_
 simp(disch:=omega)only[↓RU,RV,RH,↓reduceIte,qE,reduceCtorEq,if_pos]
 apply hK;clear hK K
 refine W.block ?_
 refine W.loop [0,1,5] (fun n vs S=>∃ i:Nat,n=nh - i∧i≤fi p∧vs=[zan p,.int .i64 n0,.int .i64 i]∧S=⟨[],0⟩) nh ?_ ?_
 ·refine ⟨0,0,rfl,Nat.zero_le _,?_,rfl⟩
  simp [Env.put,Env.of,zaf]
 rintro n vs S - ⟨i,rfl,h_i,rfl,rfl⟩
 refine W.seq ?_
 refine W.r fun K hK=>?_
 simp(disch:=omega)only[↓RU,RV,RH,↓reduceIte,qE,reduceCtorEq,if_pos,w64,ty6,zaa,zac,hph]
 apply hK;clear hK K
 refine W.cond rfl (fun h0=>?_) (fun h0=>?_)
 ·try simp only[RL]at h0
  obtain ⟨row,hrow,hrl,hrx⟩:=hs.sh.row (show i<nh by omega)
  refine W.skip ?_
  refine xn ?_
  refine W.seq ?_
  refine W.block ?_
  refine W.r fun K hK=>?_
  simp(disch:=omega)only[↓RU,RV,RH,↓reduceIte,qE,reduceCtorEq,if_pos]
  apply hK;clear hK K
  refine W.block ?_
  refine W.loop [0,1,5,6] (fun n vs S=>∃ k:Nat,n=nw - k∧((i<fi p∨(i=fi p∧k≤fk p))∧k≤nw)∧vs=[zan p,.int .i64 n0,.int .i64 i,.int .i64 k]∧S=⟨[],0⟩) nw ?_ ?_
  ·refine ⟨0,0,rfl,by omega,?_,rfl⟩
   simp [Env.put,Env.of,zaf]
  rintro n vs S - ⟨k,rfl,h_k,rfl,rfl⟩
  refine W.seq ?_
  refine W.r fun K hK=>?_
  simp(disch:=omega)only[↓RU,RV,RH,↓reduceIte,qE,reduceCtorEq,if_pos,w64,ty6,zaa,zac,hrow,hrl]
  apply hK;clear hK K
  refine W.cond rfl (fun h1c=>?_) (fun h1c=>?_)
  ·try simp only[RL]at h1c
   have hkw:k<nw:=by omega
   have hc:=hrx k hkw
   refine W.skip ?_
   refine xn ?_
   refine W.seq ?_
   refine W.block ?_
   refine W.r fun K hK=>?_
   simp(disch:=omega)only[↓RU,RV,RH,↓reduceIte,qE,reduceCtorEq,if_pos,w64,ty6,zac,zei,hrow,hrl,hc,z0k]
   apply hK;clear hK K
   refine W.cond rfl (fun h2c=>?_) (fun h2c=>?_)
   ·try simp only[RL]at h2c
    obtain ⟨rfl,rfl⟩:i=fi p∧k=fk p:=by
               rcases h_k.1 with q | ⟨q,q2⟩
               ·exact absurd h2c (f3 i k (by omega) hkw (.inl q))
               subst q; exact ⟨rfl,Classical.byContradiction fun e=>f3 (fi p) k hf hkw (.inr ⟨rfl,by omega⟩) h2c⟩
    refine W.r fun K hK=>?_
    simp(disch:=omega)only[↓RU,RV,RH,↓reduceIte,qE,reduceCtorEq,if_pos,qN]
    refine zad.pc (hB) rfl (.inr rfl) ?_
    simp(disch:=omega)only[↓RU,RV,RH,↓reduceIte,qE,reduceCtorEq,if_pos,qN]
    apply hK;clear hK K
    refine W.ret ?_
    refine XBlock.ret ?_
    refine XThen.ret ?_
    refine XThen.ret ?_
    refine XBlock.ret ?_
    refine XBlock.ret ?_
    refine XThen.ret ?_
    refine XThen.ret ?_
    refine XBlock.ret ?_
    refine XThen.ret ?_
    refine Br rfl ?_
    rfl
   try simp only[RL]at h2c
   have hne:¬ (i=fi p∧k=fk p):=fun e=>h2c (by rw [e.1,e.2]; exact f2)
   refine W.skip ?_
   refine XbN ?_
   refine xn ?_
   refine W.k fun K hK=>?_
   simp(disch:=omega)only[↓RU,RV,RH,↓reduceIte,qE,reduceCtorEq,if_pos,w64,zaa]
   apply hK;clear hK K
   refine xn ?_
   refine ⟨nw - (k+1),by omega,0,k+1,rfl,by omega,?_,rfl⟩
   simp [Env.put,Env.of]
  try simp only[RL]at h1c
  obtain rfl:k=nw:=by omega
  refine W.exit ?_
  refine xe ?_
  refine xe ?_
  refine XBlock.hit ?_
  refine XbN ?_
  refine xn ?_
  refine W.k fun K hK=>?_
  simp(disch:=omega)only[↓RU,RV,RH,↓reduceIte,qE,reduceCtorEq,if_pos,w64,zaa]
  apply hK;clear hK K
  refine xn ?_
  refine ⟨nh - (i+1),by omega,0,i+1,rfl,by omega,?_,rfl⟩
  simp [Env.put,Env.of]
 try simp only[RL]at h0
 exfalso; omega
set_option maxHeartbeats 1000000 in
theorem z7y {nh nw:Nat} {p:List Txt} {R:List RmB} (hs:St nh nw p R) (hn:R.length≤8) (h1:1≤nh) (h2:nh≤6) (h3:1≤nw) (h4:nw≤6) (hf:fi p<nh) (h9:nh*nw≤9) {m:Nat} (hm8:m≤8) (ih:∀ w d,w<fw p→d<nh - fi p→PC Tryz.prog 93 [zan (zef p (fi p) (fk p) (w+1) (rl R.length) (fi p+(d+1))),.int .i64 (((R.length:Nat):Int)+1)] (eLL (Cd m p R.length w d)) false):PC Tryz.prog 137 [zan p,.int .i64 (R.length:Nat),.int .i64 (fi p:Nat),.int .i64 (fk p:Nat)] (eLL (Lw m p R.length nh (fw p))) false:=by
 have hph:=hs.sh.h
 obtain ⟨f1,f2,f3⟩:=ziw hs.sh hf
 obtain ⟨hrr,hrl,-,hrx⟩:=z0u hs.sh hf
 have hfw:=z9j hs.sh hf
 refine PC.of ⟨Tryz.func137,by kernel_rfl,rfl,by kernel_rfl⟩ zam mixed (by show 4≤Tryz.f137.ntmps; decide) ?_
 refine W.r fun K hK=>?_
 simp(disch:=omega)only[↓RU,RV,RH,↓reduceIte,qE,reduceCtorEq,if_pos,↓RS,RG,qA,qM,qL]
 apply hK;clear hK K
 refine W.r fun K hK=>?_
 simp(disch:=omega)only[↓RU,RV,RH,↓reduceIte,qE,reduceCtorEq,if_pos,↓RS,RG,qA,qM,qL,ty2,ty6,zac]
 apply hK;clear hK K
 refine W.seq ?_
 refine W.r fun K hK=>?_
 simp(disch:=omega)only[↓RU,RV,RH,↓reduceIte,qE,reduceCtorEq,if_pos,w64,↓RS,RG,qA,qM,qL,zaa]
 apply hK;clear hK K
 refine W.cond rfl (fun h0=>?_) (fun h0=>?_)
 ·try simp only[RL]at h0
  exfalso; omega
 try simp only[RL]at h0
 refine W.skip ?_
 refine xn ?_
 refine W.seq ?_
 refine W.r fun K hK=>?_
 simp(disch:=omega)only[↓RU,RV,RH,↓reduceIte,qE,reduceCtorEq,if_pos,↓RS,RG,qA,qM,qL]
 apply hK;clear hK K
 refine W.block ?_
 refine W.loop [0,1,2,3,9,10] (fun n vs S=>∃ w v t:Nat,n=fw p - w∧w≤fw p∧vs=[zan p,.int .i64 (R.length:Nat),.int .i64 (fi p:Nat),.int .i64 (fk p:Nat),.loc 0 v 0 (Lw m p R.length nh w).length,.int .i64 ((w+1:Nat):Int)]∧S=⟨[.arr v 22 1 ((Lw m p R.length nh w).map zan)],t⟩) (fw p) ?_ ?_
 ·refine ⟨1,0,0,1,rfl,Nat.zero_le _,?_,rfl⟩
  simp [Env.put,Env.of,zaf,Lw]
 rintro n vs S - ⟨w,v,t,rfl,h_w,rfl,rfl⟩
 refine W.seq ?_
 refine W.r fun K hK=>?_
 rcases (show w<fw p∨(w=fw p∧fk p+w<nw∧ch p (fi p) (fk p+w)≠46)∨(w=fw p∧¬ fk p+w<nw) from z0w hs.sh hf h_w) with hw | ⟨hw,hw2,hw3⟩ | ⟨hw,hw2⟩
 ·skip
  obtain ⟨hw1,hw2⟩:=(zsp hs.sh hf).1 hw
  have hc:=hrx _ hw1
  rw [hw2 _ (by omega) (by omega)]at hc
  have e1:decide (((fk p:Nat):Int)+((w+1:Nat):Int)≤(nw:Int))=true:=decide_eq_true (by omega)
  have tn:(((fk p:Nat):Int)+((w+1:Nat):Int) - 1).toNat=fk p+w:=by omega
  simp(disch:=omega)only[↓RU,RV,RH,↓reduceIte,qE,reduceCtorEq,if_pos,w64,↓RS,RG,qA,qM,qL,ty6,zaa,zac,zei,e1,tn,hc,hrr,hrl,z0k]
  apply hK;clear hK K
  refine W.cond rfl (fun h8=>?_) (fun h8=>?_)
  ·try simp only[RL]at h8
   refine W.skip ?_
   refine xn ?_
   refine W.seq ?_
   refine W.block ?_
   refine W.r fun K hK=>?_
   simp(disch:=omega)only[↓RU,RV,RH,↓reduceIte,qE,reduceCtorEq,if_pos,↓RS,RG,qA,qM,qL]
   apply hK;clear hK K
   refine W.block ?_
   refine W.loop [0,1,2,3,9,10,11] (fun n vs S=>∃ d v t:Nat,n=nh - fi p - d∧d≤nh - fi p∧vs=[zan p,.int .i64 (R.length:Nat),.int .i64 (fi p:Nat),.int .i64 (fk p:Nat),.loc 0 v 0 (Lw m p R.length nh w++Ld m p R.length w d).length,.int .i64 ((w+1:Nat):Int),.int .i64 ((d+1:Nat):Int)]∧S=⟨[.arr v 22 1 ((Lw m p R.length nh w++Ld m p R.length w d).map zan)],t⟩) (nh - fi p) ?_ ?_
   ·have hl0:(Lw m p R.length nh w++Ld m p R.length w 0)=(Lw m p R.length nh w):=by rw [show Ld m p R.length w 0=[] from rfl,qN]
    refine ⟨1,0,v,t,rfl,Nat.zero_le _,?_,by rw [hl0]; rfl⟩
    rw [hl0]
    simp [Env.put,Env.of]
   rintro n vs S - ⟨d,v,t,rfl,h_d,rfl,rfl⟩
   refine W.seq ?_
   refine W.r fun K hK=>?_
   simp(disch:=omega)only[↓RU,RV,RH,↓reduceIte,qE,reduceCtorEq,if_pos,w64,↓RS,RG,qA,qM,qL,ty6,zaa,zac,hph]
   apply hK;clear hK K
   refine W.cond rfl (fun h2c=>?_) (fun h2c=>?_)
   ·try simp only[RL]at h2c
    have hd:d<nh - fi p:=by omega
    have hwl:=yez (n:=R.length) h9 hm8 hs.sh hf hw hd
    refine W.skip ?_
    refine xn ?_
    refine W.seq ?_
    refine W.block ?_
    refine W.k fun K hK=>?_
    simp(disch:=omega)only[↓RU,RV,RH,↓reduceIte,qE,reduceCtorEq,if_pos,w64,w64,qN,↓RS,RG,qA,qM,qL,ty2,ty6,zaa,zac,zei]
    refine zad.pc (z9p (ycc hs.sh h2 h4) (tp:=fi p) (lf:=fk p) (hg:=d+1) (wd:=w+1) (c:=rl R.length) (by omega) (fun r hr=>by rw [hs.sh.w r hr]; omega)) rfl (.inl rfl) ?_
    simp(disch:=omega)only[↓RU,RV,RH,↓reduceIte,qE,reduceCtorEq,if_pos,w64,w64,qN,↓RS,RG,qA,qM,qL,ty2,ty6,zaa,zac,zei]
    refine zad.pc (ih w d hw hd) rfl (.inr rfl) ?_
    simp(disch:=omega)only[↓RU,RV,RH,↓reduceIte,qE,reduceCtorEq,if_pos,w64,w64,qN,↓RS,RG,qA,qM,qL,ty2,ty6,zaa,zac,zei]
    apply hK;clear hK K
    refine XbN ?_
    refine xn ?_
    refine W.k fun K hK=>?_
    simp(disch:=omega)only[↓RU,RV,RH,↓reduceIte,qE,reduceCtorEq,if_pos,w64,↓RS,RG,qA,qM,qL,zaa]
    apply hK;clear hK K
    refine xn ?_
    refine ⟨nh - fi p - (d+1),by omega,1,d+1,t,t+1,rfl,by omega,?_,?_⟩
    ·rw [zt3,← List.append_assoc,List.length_append (bs:=Cd m p R.length w d)]; simp [Env.put,Env.of]
    rw [zt3,← List.append_assoc,List.map_append (l₂:=Cd m p R.length w d)]; rfl
   try simp only[RL]at h2c
   obtain rfl:d=nh - fi p:=by omega
   refine W.exit ?_
   refine xe ?_
   refine xe ?_
   refine XBlock.hit ?_
   refine XbN ?_
   refine xn ?_
   refine W.k fun K hK=>?_
   simp(disch:=omega)only[↓RU,RV,RH,↓reduceIte,qE,reduceCtorEq,if_pos,w64,↓RS,RG,qA,qM,qL,zaa]
   apply hK;clear hK K
   refine xn ?_
   refine ⟨fw p - (w+1),by omega,1,w+1,v,t,rfl,by omega,?_,by rw [zt4]; rfl⟩
   simp [Env.put,Env.of,zt4]
  try simp only[RL]at h8
  exact absurd h8 (by simp)
 ·skip
  have hc:=hrx _ hw2
  have e1:decide (((fk p:Nat):Int)+((w+1:Nat):Int)≤(nw:Int))=true:=decide_eq_true (by omega)
  have e2:decide (ch p (fi p) (fk p+w)=46)=false:=decide_eq_false hw3
  have tn:(((fk p:Nat):Int)+((w+1:Nat):Int) - 1).toNat=fk p+w:=by omega
  simp(disch:=omega)only[↓RU,RV,RH,↓reduceIte,qE,reduceCtorEq,if_pos,w64,↓RS,RG,qA,qM,qL,ty6,zaa,zac,zei,e1,e2,tn,hc,hrr,hrl,z0k]
  apply hK;clear hK K
  refine W.cond rfl (fun h8=>?_) (fun h8=>?_)
  ·try simp only[RL]at h8
   exact absurd h8 (by simp)
  try simp only[RL]at h8
  subst hw
  refine W.exit ?_
  refine xe ?_
  refine xe ?_
  refine XBlock.hit ?_
  refine xn ?_
  refine W.r fun K hK=>?_
  simp(disch:=omega)only[↓RU,RV,RH,↓reduceIte,qE,reduceCtorEq,if_pos,↓RS,RG,qA,qM,qL]
  apply hK;clear hK K
  refine W.ret ?_
  refine Br rfl ?_
  exact z1y rfl
 skip
 have e1:decide (((fk p:Nat):Int)+((w+1:Nat):Int)≤(nw:Int))=false:=decide_eq_false (by omega)
 simp(disch:=omega)only[↓RU,RV,RH,↓reduceIte,qE,reduceCtorEq,if_pos,w64,↓RS,RG,qA,qM,qL,ty6,zaa,zac,zei,e1,hrr,hrl]
 apply hK;clear hK K
 refine W.cond rfl (fun h8=>?_) (fun h8=>?_)
 ·try simp only[RL]at h8
  exact absurd h8 (by simp)
 try simp only[RL]at h8
 subst hw
 refine W.exit ?_
 refine xe ?_
 refine xe ?_
 refine XBlock.hit ?_
 refine xn ?_
 refine W.r fun K hK=>?_
 simp(disch:=omega)only[↓RU,RV,RH,↓reduceIte,qE,reduceCtorEq,if_pos,↓RS,RG,qA,qM,qL]
 apply hK;clear hK K
 refine W.ret ?_
 refine Br rfl ?_
 exact z1y rfl
theorem z14 {nh nw:Nat} (h1:1≤nh) (h2:nh≤6) (h3:1≤nw) (h4:nw≤6) (h9:nh*nw≤9):∀ (m:Nat) {p:List Txt} {R:List RmB},St nh nw p R→R.length+m=9→∀ n0:Int,n0=(R.length:Nat) →
  PC Tryz.prog 93 [zan p,.int .i64 n0] (eLL (En m p R.length)) false
 | 0,p,R,hs,hm,n0,hn=>by
  have hf:¬ fi p<nh:=fun hf=>by
   obtain ⟨f1,f2,-⟩:=ziw hs.sh hf
   have:=hs.lim hf f1 f2
   omega
  exact z13 hs (by omega) h1 h2 h3 h4 hf n0
 | m+1,p,R,hs,hm,n0,hn=>by
  subst hn
  by_cases hf:fi p<nh
  ·rw [yct hs.sh.h hf]
   refine z70 hs (by omega) h1 h2 h3 h4 hf _ (z7y hs (by omega) h1 h2 h3 h4 hf h9 (by omega) fun w d hw hd=>?_)
   have hl:(R++[(⟨fi p,fk p,d+1,w+1⟩:RmB)]).length=R.length+1:=by simp
   have:=z14 h1 h2 h3 h4 h9 m (hs.next h9 hf hw hd) (by omega) (((R.length:Nat):Int)+1) (by rw [hl]; rfl)
   rw [hl]at this
   exact this
  have e:En (m+1) p R.length=[p]:=by
   unfold En
   rw [hs.sh.h,if_neg hf]
  rw [e]
  exact z13 hs (by omega) h1 h2 h3 h4 hf _
theorem z5o {i w:Nat}:(dots i w).map PV.str++[.str (List.replicate w 46)]=(dots (i+1) w).map PV.str:=by simp [dots,List.replicate_succ']
theorem z9d {k:Nat}:(List.replicate k (46:UInt8)).map eB++[.int .u8 46]=(List.replicate (k+1) (46:UInt8)).map eB:=by simp [List.replicate_succ',eB]
theorem z0h {i w:Nat}:(dots i w).length=i:=by simp [dots]
theorem z7p {k:Nat}:(List.replicate k (46:UInt8)).length=k:=by simp
theorem ye8 {H W:Nat} (h9:H*W≤9):(ze9 H W).length≤387420489:=z4u h9 9 zop
theorem z3d {nh nw:Nat} (h1:1≤nh) (h2:nh≤6) (h3:1≤nw) (h4:nw≤6) (h9:nh*nw≤9):PC Tryz.prog 45 [.int .i64 nh,.int .i64 nw] (eLL (ze9 nh nw)) false:=by
 have hF:=z14 h1 h2 h3 h4 h9 9 (zy0 (H:=nh) (W:=nw)) rfl 0 rfl
 change PC _ _ _ (eLL (ze9 nh nw)) _ at hF
 refine PC.of ⟨Tryz.func45,by kernel_rfl,rfl,by kernel_rfl⟩ zam mixed (by show 2≤Tryz.f45.ntmps; decide) ?_
 refine W.r fun K hK=>?_
 simp(disch:=omega)only[↓RU,RV,RH,↓reduceIte,qE,reduceCtorEq,if_pos,↓RS,RG,qA,qM,qL]
 apply hK;clear hK K
 refine W.r fun K hK=>?_
 simp(disch:=omega)only[↓RU,RV,RH,↓reduceIte,qE,reduceCtorEq,if_pos,↓RS,RG,qA,qM,qL,ty6,zac]
 apply hK;clear hK K
 refine W.joinZ [5] (fun vs S=>∃ tk:Nat,vs=[zan (dots nh nw)]∧S=⟨[],tk⟩) ?_ ?_
 ·
  refine W.r fun K hK=>?_
  simp(disch:=omega)only[↓RU,RV,RH,↓reduceIte,qE,reduceCtorEq,if_pos,↓RS,RG,qA,qM,qL]
  apply hK;clear hK K
  refine W.block ?_
  refine W.loop [0,1,5,6] (fun n vs S=>∃ i v0 tq:Nat,n=nh - i∧i≤nh∧vs=[.int .i64 nh,.int .i64 nw,.loc 0 v0 0 i,.int .i64 i]∧S=⟨[.arr v0 9 1 ((dots i nw).map .str)],tq⟩) nh ?_ ?_
  ·refine ⟨1,0,0,1,rfl,Nat.zero_le _,?_,rfl⟩
   simp [Env.put,Env.of,zaf]
  rintro n vs S - ⟨i,v0,tq,rfl,h_i,rfl,rfl⟩
  refine W.seq ?_
  refine W.r fun K hK=>?_
  simp(disch:=omega)only[↓RU,RV,RH,↓reduceIte,qE,reduceCtorEq,if_pos,w64,↓RS,RG,qA,qM,qL,zaa]
  apply hK;clear hK K
  refine W.cond rfl (fun h=>?_) (fun h=>?_)
  ·try simp only[RL]at h
   have hdl:=z0h (i:=i) (w:=nw)
   refine W.skip ?_
   refine xn ?_
   refine W.seq ?_
   refine W.block ?_
   refine W.r fun K hK=>?_
   simp(disch:=omega)only[↓RU,RV,RH,↓reduceIte,qE,reduceCtorEq,if_pos,↓RS,RG,qA,qM,qL,ty7,zei]
   apply hK;clear hK K
   refine W.seq ?_
   refine W.r fun K hK=>?_
   simp(disch:=omega)only[↓RU,RV,RH,↓reduceIte,qE,reduceCtorEq,if_pos,↓RS,RG,qA,qM,qL]
   apply hK;clear hK K
   refine W.block ?_
   refine W.loop [0,1,5,6,7,8] (fun n vs S=>∃ k v1 tq:Nat,n=nw - k∧k≤nw∧vs=[.int .i64 nh,.int .i64 nw,.loc 0 v0 0 i,.int .i64 i,.loc 1 v1 0 k,.int .i64 k]∧S=⟨[.arr v0 9 1 ((dots i nw).map .str),.arr v1 5 1 ((List.replicate k (46:UInt8)).map eB)],tq⟩) nw ?_ ?_
   ·refine ⟨2,0,tq,tq+1,rfl,Nat.zero_le _,?_,rfl⟩
    simp [Env.put,Env.of]
   rintro n vs S - ⟨k,v1,tq,rfl,h_k,rfl,rfl⟩
   refine W.seq ?_
   refine W.r fun K hK=>?_
   simp(disch:=omega)only[↓RU,RV,RH,↓reduceIte,qE,reduceCtorEq,if_pos,w64,↓RS,RG,qA,qM,qL,zaa]
   apply hK;clear hK K
   refine W.cond rfl (fun h1x=>?_) (fun h1x=>?_)
   ·try simp only[RL]at h1x
    have hrl:=z7p (k:=k)
    refine W.skip ?_
    refine xn ?_
    refine W.seq ?_
    refine W.block ?_
    refine W.k fun K hK=>?_
    simp(disch:=omega)only[↓RU,RV,RH,↓reduceIte,qE,reduceCtorEq,if_pos,↓RS,RG,qA,qM,qL,ty7,zei,hrl]
    apply hK;clear hK K
    refine XbN ?_
    refine xn ?_
    refine W.k fun K hK=>?_
    simp(disch:=omega)only[↓RU,RV,RH,↓reduceIte,qE,reduceCtorEq,if_pos,w64,↓RS,RG,qA,qM,qL,zaa]
    apply hK;clear hK K
    refine xn ?_
    refine ⟨nw - (k+1),by omega,2,k+1,tq+1,tq+2,rfl,by omega,?_,?_⟩
    ·simp [Env.put,Env.of]
    rw [← z9d]; simp [zap,zmn]
   try simp only[RL]at h1x
   obtain rfl:k=nw:=by omega
   have hrl:=z7p (k:=k)
   refine W.exit ?_
   refine xe ?_
   refine xe ?_
   refine XBlock.hit ?_
   refine xn ?_
   refine W.k fun K hK=>?_
   simp(disch:=omega)only[↓RU,RV,RH,↓reduceIte,qE,reduceCtorEq,if_pos,w64,↓RS,RG,qA,qM,qL,ty6,ty7,zac,zei,hrl,hdl]
   apply hK;clear hK K
   refine XbN ?_
   refine xn ?_
   refine W.k fun K hK=>?_
   simp(disch:=omega)only[↓RU,RV,RH,↓reduceIte,qE,reduceCtorEq,if_pos,w64,↓RS,RG,qA,qM,qL,zaa]
   apply hK;clear hK K
   refine xn ?_
   refine ⟨nh - (i+1),by omega,1,i+1,tq+1,tq+2,rfl,by omega,?_,?_⟩
   ·simp [Env.put,Env.of]
   rw [← z5o]; simp [zap,zmn]
  try simp only[RL]at h
  obtain rfl:i=nh:=by omega
  refine W.exit ?_
  refine xe ?_
  refine xe ?_
  refine XBlock.hit ?_
  refine xn ?_
  have hdl:=z0h (i:=i) (w:=nw)
  refine ⟨0,[zan (dots i nw)],⟨[],tq⟩,?_,?_,tq,rfl,rfl⟩
  ·have ht:((dots i nw).map PV.str).take i=(dots i nw).map PV.str:=qT (by simp [hdl])
   have hm:∀ S:Store,((dots i nw).map PV.str).mapM (rfz S 0 9)=some ((dots i nw).map PV.str):=fun S=>zu3 (fun _=>rfl) _
   simp [-qU,zc2,zct,hdl,ht,hm,Env.put,Env.of]
  rfl
 rintro vs S - ⟨tk,rfl,rfl⟩
 refine W.r fun K hK=>?_
 simp(disch:=omega)only[↓RU,RV,RH,↓reduceIte,qE,reduceCtorEq,if_pos,qN,↓RS,RG,qA,qM,qL]
 refine zad.pc (hF) rfl (.inr rfl) ?_
 simp(disch:=omega)only[↓RU,RV,RH,↓reduceIte,qE,reduceCtorEq,if_pos,qN,↓RS,RG,qA,qM,qL]
 apply hK;clear hK K
 refine W.ret ?_
 refine Br rfl ?_
 rfl

theorem yfv {L:List (List Txt)} {i:Nat} {q:List Txt} (h:L[i]?=some q):(L.map zan)[i]?=some (zan q):=by rw [List.getElem?_map,h]; rfl
def cntR (o:Option (List Txt)):PV:=match o with | some q => .tup [zan q,.bool true] | none => .tup [.sl [] 0,.bool false]
theorem yda {α:Type} {f:α→Bool} {l:List α} {i:Nat} {x:α} (h:(l.take i).find? f=none) (hx:l[i]?=some x) (hf:f x=true):l.find? f=some x:=by
 obtain ⟨hl,e⟩:=List.getElem?_eq_some_iff.1 hx
 conv=>lhs; rw [← List.take_append_drop i l,List.drop_eq_getElem_cons hl,e]
 rw [List.find?_append,h,Option.none_or,List.find?_cons,hf]
theorem zpx {α:Type} {f:α→Bool} {l:List α} {i:Nat} {x:α} (h:(l.take i).find? f=none) (hx:l[i]?=some x) (hf:f x=false):(l.take (i+1)).find? f=none:=by
 rw [tk hx,List.find?_append,h,Option.none_or,List.find?_cons,hf]; rfl
theorem zos {w:List Int} {q:List Txt}:ze4 w q=(decide ((rP q).length=w.length) && (zbt q && decide (zec q=w))):=by
 unfold ze4; rw [zfy]
theorem z7z {a b:Int} {w:List Int} (hw:w.length≤1048576) (hv:(zj5 a b && zhc w)=false):PC Tryz.prog 15 [.int .i64 a,.int .i64 b,eInts w] (.tup [.sl [] 0,.bool false]) false:=by
 refine PC.of ⟨Tryz.func15,by kernel_rfl,rfl,by kernel_rfl⟩ zam mixed (by show 3≤Tryz.f15.ntmps; decide) ?_
 refine W.r fun K hK=>?_
 simp(disch:=omega)only[↓RU,RV,RH,↓reduceIte,qE,reduceCtorEq,if_pos,↓RS,RG,qA,qM,qL]
 apply hK;clear hK K
 refine W.seq ?_
 refine W.r fun K hK=>?_
 cases hc:zj5 a b
 ·skip
  simp(disch:=omega)only[↓RU,RV,RH,↓reduceIte,qE,reduceCtorEq,if_pos,qN,↓RS,RG,qA,qM,qL,hc]
  refine zad.pc (zkv a b) rfl (.inl rfl) ?_
  simp(disch:=omega)only[↓RU,RV,RH,↓reduceIte,qE,reduceCtorEq,if_pos,qN,↓RS,RG,qA,qM,qL,hc]
  apply hK;clear hK K
  refine W.cond rfl (fun h0=>?_) (fun h0=>?_)
  ·try simp only[RL]at h0
   refine W.r fun K hK=>?_
   simp(disch:=omega)only[↓RU,RV,RH,↓reduceIte,qE,reduceCtorEq,if_pos,qN,↓RS,RG,qA,qM,qL]
   refine zad.pc (zp6) rfl (.inl rfl) ?_
   simp(disch:=omega)only[↓RU,RV,RH,↓reduceIte,qE,reduceCtorEq,if_pos,qN,↓RS,RG,qA,qM,qL]
   apply hK;clear hK K
   refine W.ret ?_
   refine XThen.ret ?_
   refine Br rfl ?_
   rfl
  try simp only[RL]at h0
  exact absurd h0 (by simp)
 skip
 have hp:zhc w=false:=by rw [hc,Bool.true_and]at hv; exact hv
 simp(disch:=omega)only[↓RU,RV,RH,↓reduceIte,qE,reduceCtorEq,if_pos,qN,↓RS,RG,qA,qM,qL,hc,hp]
 refine zad.pc (zkv a b) rfl (.inl rfl) ?_
 simp(disch:=omega)only[↓RU,RV,RH,↓reduceIte,qE,reduceCtorEq,if_pos,qN,↓RS,RG,qA,qM,qL,hc,hp]
 refine zad.pc (ztl (l:=w) (by omega)) rfl (.inl rfl) ?_
 simp(disch:=omega)only[↓RU,RV,RH,↓reduceIte,qE,reduceCtorEq,if_pos,qN,↓RS,RG,qA,qM,qL,hc,hp]
 apply hK;clear hK K
 refine W.cond rfl (fun h0=>?_) (fun h0=>?_)
 ·try simp only[RL]at h0
  refine W.r fun K hK=>?_
  simp(disch:=omega)only[↓RU,RV,RH,↓reduceIte,qE,reduceCtorEq,if_pos,qN,↓RS,RG,qA,qM,qL]
  refine zad.pc (zp6) rfl (.inl rfl) ?_
  simp(disch:=omega)only[↓RU,RV,RH,↓reduceIte,qE,reduceCtorEq,if_pos,qN,↓RS,RG,qA,qM,qL]
  apply hK;clear hK K
  refine W.ret ?_
  refine XThen.ret ?_
  refine Br rfl ?_
  rfl
 try simp only[RL]at h0
 exact absurd h0 (by simp)
theorem z33 {nr nc:Nat} {w:List Int} (hc:zj5 nr nc=true) (hp:zhc w=true) (h1:1≤nr) (h2:nr≤6) (h3:1≤nc) (h4:nc≤6) (h9:nr*nc≤9):PC Tryz.prog 15 [.int .i64 nr,.int .i64 nc,eInts w] (cntR ((ze9 nr nc).find? (ze4 w))) false:=by
 have hw7:w.length≤7:=by unfold zhc at hp; simp only[qB,decide_eq_true_eq]at hp; exact hp.1.2
 have hfew:=ye8 h9
 refine PC.of ⟨Tryz.func15,by kernel_rfl,rfl,by kernel_rfl⟩ zam mixed (by show 3≤Tryz.f15.ntmps; decide) ?_
 refine W.r fun K hK=>?_
 simp(disch:=omega)only[↓RU,RV,RH,↓reduceIte,qE,reduceCtorEq,if_pos,↓RS,RG,qA,qM,qL]
 apply hK;clear hK K
 refine W.seq ?_
 refine W.r fun K hK=>?_
 simp(disch:=omega)only[↓RU,RV,RH,↓reduceIte,qE,reduceCtorEq,if_pos,qN,↓RS,RG,qA,qM,qL,hc,hp]
 refine zad.pc (zkv nr nc) rfl (.inl rfl) ?_
 simp(disch:=omega)only[↓RU,RV,RH,↓reduceIte,qE,reduceCtorEq,if_pos,qN,↓RS,RG,qA,qM,qL,hc,hp]
 refine zad.pc (ztl (l:=w) (by omega)) rfl (.inl rfl) ?_
 simp(disch:=omega)only[↓RU,RV,RH,↓reduceIte,qE,reduceCtorEq,if_pos,qN,↓RS,RG,qA,qM,qL,hc,hp]
 apply hK;clear hK K
 refine W.cond rfl (fun h0=>?_) (fun h0=>?_)
 ·try simp only[RL]at h0
  exact absurd h0 (by simp)
 try simp only[RL]at h0
 refine W.skip ?_
 refine xn ?_
 refine W.r fun K hK=>?_
 simp(disch:=omega)only[↓RU,RV,RH,↓reduceIte,qE,reduceCtorEq,if_pos,qN,↓RS,RG,qA,qM,qL]
 refine zad.pc (z3d h1 h2 h3 h4 h9) rfl (.inr rfl) ?_
 simp(disch:=omega)only[↓RU,RV,RH,↓reduceIte,qE,reduceCtorEq,if_pos,qN,↓RS,RG,qA,qM,qL]
 apply hK;clear hK K
 refine W.seq ?_
 refine W.r fun K hK=>?_
 simp(disch:=omega)only[↓RU,RV,RH,↓reduceIte,qE,reduceCtorEq,if_pos,↓RS,RG,qA,qM,qL]
 apply hK;clear hK K
 refine W.block ?_
 refine W.loop [2,8,9] (fun n vs S=>∃ i:Nat,n=(ze9 nr nc).length - i∧i≤(ze9 nr nc).length∧((ze9 nr nc).take i).find? (ze4 w)=none∧vs=[eInts w,eLL (ze9 nr nc),.int .i64 i]∧S=⟨[],0⟩) (ze9 nr nc).length ?_ ?_
 ·refine ⟨0,0,rfl,Nat.zero_le _,rfl,?_,rfl⟩
  simp [Env.put,Env.of,zaf]
 rintro n vs S - ⟨i,rfl,h_i,hno,rfl,rfl⟩
 refine W.seq ?_
 refine W.r fun K hK=>?_
 simp(disch:=omega)only[↓RU,RV,RH,↓reduceIte,qE,reduceCtorEq,if_pos,w64,↓RS,RG,qA,qM,qL,ty2,ty6,zaa,zac]
 apply hK;clear hK K
 refine W.cond rfl (fun h1c=>?_) (fun h1c=>?_)
 ·try simp only[RL]at h1c
  obtain ⟨q,hq,hqm⟩:=zae (show i<(ze9 nr nc).length by omega)
  obtain ⟨hqp,hqs⟩:=zta h9 h1 h2 h3 h4 hqm
  have hqS:=ycc hqs h2 h4
  have hle:=yfv hq
  have hrm:=(zdo hqp).rooms
  refine W.skip ?_
  refine xn ?_
  refine W.seq ?_
  refine W.block ?_
  refine W.r fun K hK=>?_
  rcases (show (rP q).length≠w.length∨((rP q).length=w.length∧zbt q=false)∨((rP q).length=w.length∧zbt q=true∧zec q=w)∨((rP q).length=w.length∧zbt q=true∧zec q≠w) by by_cases e0:(rP q).length=w.length <;> cases zbt q <;> by_cases e:zec q=w <;> simp [e0,e]) with hq0 | ⟨hq0,hq1⟩ | ⟨hq0,hq1,hq2⟩ | ⟨hq0,hq1,hq2⟩
  ·skip
   have hgd:ze4 w q=false:=by rw [zos,decide_eq_false hq0,Bool.false_and]
   have hlq:(((rP q).length:Int) == (w.length:Int))=false:=by rw [beq_eq_false_iff_ne]; omega
   simp(disch:=omega)only[↓RU,RV,RH,↓reduceIte,qE,reduceCtorEq,if_pos,qN,w64,↓RS,RG,qA,qM,qL,ty2,zab,ty6,zaa,zac,hle,hrm,hlq]
   refine zad.pc (zfk hqS) rfl (.inl rfl) ?_
   simp(disch:=omega)only[↓RU,RV,RH,↓reduceIte,qE,reduceCtorEq,if_pos,qN,w64,↓RS,RG,qA,qM,qL,ty2,zab,ty6,zaa,zac,hle,hrm,hlq]
   apply hK;clear hK K
   refine W.cond rfl (fun h2c=>?_) (fun h2c=>?_)
   ·try simp only[RL]at h2c
    exact absurd h2c (by simp)
   try simp only[RL]at h2c
   refine W.skip ?_
   refine XbN ?_
   refine xn ?_
   refine W.k fun K hK=>?_
   simp(disch:=omega)only[↓RU,RV,RH,↓reduceIte,qE,reduceCtorEq,if_pos,w64,↓RS,RG,qA,qM,qL,zaa]
   apply hK;clear hK K
   refine xn ?_
   refine ⟨(ze9 nr nc).length - (i+1),by omega,0,i+1,rfl,by omega,zpx hno hq hgd,?_,rfl⟩
   simp [Env.put,Env.of]
  ·skip
   have hgd:ze4 w q=false:=by rw [zos,hq1,Bool.false_and,Bool.and_false]
   have hlq:(((rP q).length:Int) == (w.length:Int))=true:=by rw [beq_iff_eq]; omega
   simp(disch:=omega)only[↓RU,RV,RH,↓reduceIte,qE,reduceCtorEq,if_pos,qN,w64,↓RS,RG,qA,qM,qL,ty2,zab,ty6,zaa,zac,hle,hrm,hlq,hq1]
   refine zad.pc (zfk hqS) rfl (.inl rfl) ?_
   simp(disch:=omega)only[↓RU,RV,RH,↓reduceIte,qE,reduceCtorEq,if_pos,qN,w64,↓RS,RG,qA,qM,qL,ty2,zab,ty6,zaa,zac,hle,hrm,hlq,hq1]
   refine zad.pc (zjo hqS) rfl (.inl rfl) ?_
   simp(disch:=omega)only[↓RU,RV,RH,↓reduceIte,qE,reduceCtorEq,if_pos,qN,w64,↓RS,RG,qA,qM,qL,ty2,zab,ty6,zaa,zac,hle,hrm,hlq,hq1]
   apply hK;clear hK K
   refine W.cond rfl (fun h2c=>?_) (fun h2c=>?_)
   ·try simp only[RL]at h2c
    exact absurd h2c (by simp)
   try simp only[RL]at h2c
   refine W.skip ?_
   refine XbN ?_
   refine xn ?_
   refine W.k fun K hK=>?_
   simp(disch:=omega)only[↓RU,RV,RH,↓reduceIte,qE,reduceCtorEq,if_pos,w64,↓RS,RG,qA,qM,qL,zaa]
   apply hK;clear hK K
   refine xn ?_
   refine ⟨(ze9 nr nc).length - (i+1),by omega,0,i+1,rfl,by omega,zpx hno hq hgd,?_,rfl⟩
   simp [Env.put,Env.of]
  ·skip
   have ql:=z69 hq1
   have hde:decide (zec q=w)=true:=decide_eq_true hq2
   have hgd:ze4 w q=true:=by rw [zos,decide_eq_true hq0,hq1,hde]; rfl
   have hlq:(((rP q).length:Int) == (w.length:Int))=true:=by rw [beq_iff_eq]; omega
   simp(disch:=omega)only[↓RU,RV,RH,↓reduceIte,qE,reduceCtorEq,if_pos,qN,w64,↓RS,RG,qA,qM,qL,ty2,zab,ty6,zaa,zac,hle,hrm,hlq,hq1,hde]
   refine zad.pc (zfk hqS) rfl (.inl rfl) ?_
   simp(disch:=omega)only[↓RU,RV,RH,↓reduceIte,qE,reduceCtorEq,if_pos,qN,w64,↓RS,RG,qA,qM,qL,ty2,zab,ty6,zaa,zac,hle,hrm,hlq,hq1,hde]
   refine zad.pc (zjo hqS) rfl (.inl rfl) ?_
   simp(disch:=omega)only[↓RU,RV,RH,↓reduceIte,qE,reduceCtorEq,if_pos,qN,w64,↓RS,RG,qA,qM,qL,ty2,zab,ty6,zaa,zac,hle,hrm,hlq,hq1,hde]
   refine zad.pc (zp7 hqS hq1) rfl (.inl rfl) ?_
   simp(disch:=omega)only[↓RU,RV,RH,↓reduceIte,qE,reduceCtorEq,if_pos,qN,w64,↓RS,RG,qA,qM,qL,ty2,zab,ty6,zaa,zac,hle,hrm,hlq,hq1,hde]
   refine zad.pc (zsv (p:=zec q) (q:=w) (by omega) (by omega)) rfl (.inl rfl) ?_
   simp(disch:=omega)only[↓RU,RV,RH,↓reduceIte,qE,reduceCtorEq,if_pos,qN,w64,↓RS,RG,qA,qM,qL,ty2,zab,ty6,zaa,zac,hle,hrm,hlq,hq1,hde]
   apply hK;clear hK K
   refine W.cond rfl (fun h2c=>?_) (fun h2c=>?_)
   ·try simp only[RL]at h2c
    refine W.r fun K hK=>?_
    simp(disch:=omega)only[↓RU,RV,RH,↓reduceIte,qE,reduceCtorEq,if_pos,↓RS,RG,qA,qM,qL,ty2,ty6,zac,hle]
    apply hK;clear hK K
    refine W.ret ?_
    refine XBlock.ret ?_
    refine XThen.ret ?_
    refine XThen.ret ?_
    refine XBlock.ret ?_
    refine XThen.ret ?_
    refine Br rfl ?_
    rw [yda hno hq hgd]
    rfl
   try simp only[RL]at h2c
   exact absurd h2c (by simp)
  skip
  have ql:=z69 hq1
  have hde:decide (zec q=w)=false:=decide_eq_false hq2
  have hgd:ze4 w q=false:=by rw [zos,hq1,hde,Bool.true_and,Bool.and_false]
  have hlq:(((rP q).length:Int) == (w.length:Int))=true:=by rw [beq_iff_eq]; omega
  simp(disch:=omega)only[↓RU,RV,RH,↓reduceIte,qE,reduceCtorEq,if_pos,qN,w64,↓RS,RG,qA,qM,qL,ty2,zab,ty6,zaa,zac,hle,hrm,hlq,hq1,hde]
  refine zad.pc (zfk hqS) rfl (.inl rfl) ?_
  simp(disch:=omega)only[↓RU,RV,RH,↓reduceIte,qE,reduceCtorEq,if_pos,qN,w64,↓RS,RG,qA,qM,qL,ty2,zab,ty6,zaa,zac,hle,hrm,hlq,hq1,hde]
  refine zad.pc (zjo hqS) rfl (.inl rfl) ?_
  simp(disch:=omega)only[↓RU,RV,RH,↓reduceIte,qE,reduceCtorEq,if_pos,qN,w64,↓RS,RG,qA,qM,qL,ty2,zab,ty6,zaa,zac,hle,hrm,hlq,hq1,hde]
  refine zad.pc (zp7 hqS hq1) rfl (.inl rfl) ?_
  simp(disch:=omega)only[↓RU,RV,RH,↓reduceIte,qE,reduceCtorEq,if_pos,qN,w64,↓RS,RG,qA,qM,qL,ty2,zab,ty6,zaa,zac,hle,hrm,hlq,hq1,hde]
  refine zad.pc (zsv (p:=zec q) (q:=w) (by omega) (by omega)) rfl (.inl rfl) ?_
  simp(disch:=omega)only[↓RU,RV,RH,↓reduceIte,qE,reduceCtorEq,if_pos,qN,w64,↓RS,RG,qA,qM,qL,ty2,zab,ty6,zaa,zac,hle,hrm,hlq,hq1,hde]
  apply hK;clear hK K
  refine W.cond rfl (fun h2c=>?_) (fun h2c=>?_)
  ·try simp only[RL]at h2c
   exact absurd h2c (by simp)
  try simp only[RL]at h2c
  refine W.skip ?_
  refine XbN ?_
  refine xn ?_
  refine W.k fun K hK=>?_
  simp(disch:=omega)only[↓RU,RV,RH,↓reduceIte,qE,reduceCtorEq,if_pos,w64,↓RS,RG,qA,qM,qL,zaa]
  apply hK;clear hK K
  refine xn ?_
  refine ⟨(ze9 nr nc).length - (i+1),by omega,0,i+1,rfl,by omega,zpx hno hq hgd,?_,rfl⟩
  simp [Env.put,Env.of]
 try simp only[RL]at h1c
 obtain rfl:i=(ze9 nr nc).length:=by omega
 rw [List.take_length]at hno
 refine W.exit ?_
 refine xe ?_
 refine xe ?_
 refine XBlock.hit ?_
 refine xn ?_
 refine W.r fun K hK=>?_
 simp(disch:=omega)only[↓RU,RV,RH,↓reduceIte,qE,reduceCtorEq,if_pos,qN,↓RS,RG,qA,qM,qL]
 refine zad.pc (zp6) rfl (.inl rfl) ?_
 simp(disch:=omega)only[↓RU,RV,RH,↓reduceIte,qE,reduceCtorEq,if_pos,qN,↓RS,RG,qA,qM,qL]
 apply hK;clear hK K
 refine W.ret ?_
 refine Br rfl ?_
 rw [hno]
 rfl
theorem z24 {ts:List Txt} {k0:Int} {i:Nat} (h:∀ j:Nat,j<i→ts[j]?=some (zry (k0+j))) (hi:i<ts.length):∀ j:Nat,j<i+1→(ts.set i (zry (k0+i)))[j]?=some (zry (k0+j)):=by
 intro j hj
 rw [List.getElem?_set]
 by_cases e:i=j
 ·subst e; rw [if_pos rfl,if_pos hi]
 rw [if_neg e]; exact h j (by omega)
theorem zqc {F R:List Ob} {ver t:Nat} {l:List Txt} (hl:l.length≤1048576) {k0:Int} (hk0:0≤k0) (hk1:k0≤4294967296):Ev Tryz.prog 20 [.loc F.length ver 0 l.length,.int .i64 k0] ⟨F ++ .arr ver 9 1 (l.map .str)::R,t⟩ fun v S=>v = .int .i64 (k0+l.length)∧∃ ts:List Txt,ts.length=l.length∧(∀ j:Nat,j<l.length→ts[j]?=some (zry (k0+j)))∧S=⟨F ++ .arr ver 9 1 (ts.map .str)::R,t⟩:=by
 refine Ev.of ⟨Tryz.func20,by kernel_rfl,rfl,by kernel_rfl⟩ zam mixed (by show 2≤Tryz.f20.ntmps; decide) ?_
 refine W.r fun K hK=>?_
 simp(disch:=omega)only[↓RU,RV,RH,↓reduceIte,qE,reduceCtorEq,if_pos,↓RS,RG,qA,qM,qL,gF,zc1]
 apply hK;clear hK K
 refine W.seq ?_
 refine W.r fun K hK=>?_
 simp(disch:=omega)only[↓RU,RV,RH,↓reduceIte,qE,reduceCtorEq,if_pos,↓RS,RG,qA,qM,qL,gF,zc1]
 apply hK;clear hK K
 refine W.block ?_
 refine W.loop [0,1,5] (fun n vs S=>∃ (i:Nat) (ts:List Txt),n=l.length - i∧i≤l.length∧ts.length=l.length∧(∀ j:Nat,j<i→ts[j]?=some (zry (k0+j)))∧vs=[.loc F.length ver 0 l.length,.int .i64 (k0+i),.int .i64 i]∧S=⟨F ++ .arr ver 9 1 (ts.map .str)::R,t⟩) l.length ?_ ?_
 ·refine ⟨_,0,l,rfl,by omega,rfl,fun j h=>absurd h (by omega),?_,zal⟩
  simp [Env.put,Env.of,zaf]
 rintro n vs S - ⟨i,ts,rfl,h_i,hts,hd,rfl,rfl⟩
 refine W.seq ?_
 refine W.r fun K hK=>?_
 simp(disch:=omega)only[↓RU,RV,RH,↓reduceIte,qE,reduceCtorEq,if_pos,w64,↓RS,RG,qA,qM,qL,ty6,zaa,zac,gF,zc1]
 apply hK;clear hK K
 refine W.cond rfl (fun h=>?_) (fun h=>?_)
 ·try simp only[RL]at h
  refine W.skip ?_
  refine xn ?_
  refine W.seq ?_
  refine W.block ?_
  refine W.r fun K hK=>?_
  simp(disch:=omega)only[↓RU,RV,RH,↓reduceIte,qE,reduceCtorEq,if_pos,qN,↓RS,RG,qA,qM,qL,ty6,zac,gF,zc1,hts,za3,zjd]
  refine zad.pc (zqd (k0:=k0+i) (by omega) (by omega)) rfl (.inl rfl) ?_
  simp(disch:=omega)only[↓RU,RV,RH,↓reduceIte,qE,reduceCtorEq,if_pos,qN,↓RS,RG,qA,qM,qL,ty6,zac,gF,zc1,hts,za3,zjd]
  apply hK;clear hK K
  refine W.k fun K hK=>?_
  simp(disch:=omega)only[↓RU,RV,RH,↓reduceIte,qE,reduceCtorEq,if_pos,w64,↓RS,RG,qA,qM,qL,zaa,gF,zc1]
  apply hK;clear hK K
  refine XbN ?_
  refine xn ?_
  refine W.k fun K hK=>?_
  simp(disch:=omega)only[↓RU,RV,RH,↓reduceIte,qE,reduceCtorEq,if_pos,w64,↓RS,RG,qA,qM,qL,zaa,gF,zc1]
  apply hK;clear hK K
  refine xn ?_
  refine ⟨l.length - (i+1),by omega,_,i+1,ts.set i (zry (k0+i)),rfl,by omega,by simpa using hts,z24 hd (by omega),?_,zal⟩
  simp [Env.put,Env.of,Int.add_assoc]
 try simp only[RL]at h
 obtain rfl:i=l.length:=by omega
 refine W.exit ?_
 refine xe ?_
 refine xe ?_
 refine XBlock.hit ?_
 refine xn ?_
 refine W.r fun K hK=>?_
 simp(disch:=omega)only[↓RU,RV,RH,↓reduceIte,qE,reduceCtorEq,if_pos,↓RS,RG,qA,qM,qL,gF,zc1]
 apply hK;clear hK K
 refine W.ret ?_
 refine Br rfl ?_
 exact ⟨_,rfl,ts,hts,hd,zal⟩
theorem zfp {l:List Txt} (hl:l.length≤1048576) {k0:Int} (hk0:0≤k0) (hk1:k0≤4294967296) (hd:∀ j:Nat,j<l.length→l[j]?=some (zry (k0+j))):PC Tryz.prog 21 [zan l,.int .i64 k0] (.int .i64 (k0+l.length)) true:=by
 refine PC.of ⟨Tryz.func21,by kernel_rfl,rfl,by kernel_rfl⟩ zam mixed (by show 2≤Tryz.f21.ntmps; decide) ?_
 refine W.r fun K hK=>?_
 simp(disch:=omega)only[↓RU,RV,RH,↓reduceIte,qE,reduceCtorEq,if_pos]
 apply hK;clear hK K
 refine W.seq ?_
 refine W.r fun K hK=>?_
 simp(disch:=omega)only[↓RU,RV,RH,↓reduceIte,qE,reduceCtorEq,if_pos]
 apply hK;clear hK K
 refine W.block ?_
 refine W.loop [0,1,5] (fun n vs S=>∃ i:Nat,n=l.length - i∧i≤l.length∧vs=[zan l,.int .i64 (k0+i),.int .i64 i]∧S=⟨[],0⟩) (l.length) ?_ ?_
 ·refine ⟨0,0,rfl,Nat.zero_le _,?_,rfl⟩
  simp [Env.put,Env.of,zaf]
 rintro n vs S - ⟨i,rfl,h_i,rfl,rfl⟩
 refine W.seq ?_
 refine W.r fun K hK=>?_
 simp(disch:=omega)only[↓RU,RV,RH,↓reduceIte,qE,reduceCtorEq,if_pos,w64,ty6,zaa,zac]
 apply hK;clear hK K
 refine W.cond rfl (fun h=>?_) (fun h=>?_)
 ·try simp only[RL]at h
  have hx:=hd i (by omega)
  refine W.skip ?_
  refine xn ?_
  refine W.seq ?_
  refine W.block ?_
  refine W.seq ?_
  refine W.seq_draw (by kernel_rfl) fun K hK=>?_
  simp(disch:=omega)only[↓RU,RV,RH,↓reduceIte,qE,reduceCtorEq,if_pos,qN,w64,ty6,zac,hx,z94,beq_self_eq_true,Bool.not_true]
  refine zad.pc (zqd (k0:=k0+i) (by omega) (by omega)) rfl (.inl rfl) ?_
  simp(disch:=omega)only[↓RU,RV,RH,↓reduceIte,qE,reduceCtorEq,if_pos,qN,w64,ty6,zac,hx,z94,beq_self_eq_true,Bool.not_true]
  apply hK;clear hK K
  refine W.cond rfl (fun h1=>?_) (fun h1=>?_)
  ·try simp only[RL]at h1
   exact absurd h1 (by simp)
  try simp only[RL]at h1
  refine W.skip ?_
  refine xn ?_
  refine W.k fun K hK=>?_
  simp(disch:=omega)only[↓RU,RV,RH,↓reduceIte,qE,reduceCtorEq,if_pos,w64,zaa]
  apply hK;clear hK K
  refine XbN ?_
  refine xn ?_
  refine W.k fun K hK=>?_
  simp(disch:=omega)only[↓RU,RV,RH,↓reduceIte,qE,reduceCtorEq,if_pos,w64,zaa]
  apply hK;clear hK K
  refine xn ?_
  refine ⟨l.length - (i+1),by omega,0,i+1,rfl,by omega,?_,rfl⟩
  simp [Env.put,Env.of,Int.add_assoc]
 try simp only[RL]at h
 obtain rfl:i=l.length:=by omega
 refine W.exit ?_
 refine xe ?_
 refine xe ?_
 refine XBlock.hit ?_
 refine xn ?_
 refine W.r fun K hK=>?_
 simp(disch:=omega)only[↓RU,RV,RH,↓reduceIte,qE,reduceCtorEq,if_pos]
 apply hK;clear hK K
 refine W.ret ?_
 refine Br rfl ?_
 rfl
theorem zqb (k0:Int):PC Tryz.prog 20 [zan [],.int .i64 k0] (.int .i64 k0) true:=by
 refine PC.of ⟨Tryz.func20,by kernel_rfl,rfl,by kernel_rfl⟩ zam mixed (by show 2≤Tryz.f20.ntmps; decide) ?_
 refine W.r fun K hK=>?_
 simp(disch:=omega)only[↓RU,RV,RH,↓reduceIte,qE,reduceCtorEq,if_pos,↓RS,RG,qA,qM,qL]
 apply hK;clear hK K
 refine W.seq ?_
 refine W.r fun K hK=>?_
 simp(disch:=omega)only[↓RU,RV,RH,↓reduceIte,qE,reduceCtorEq,if_pos,↓RS,RG,qA,qM,qL]
 apply hK;clear hK K
 refine W.block ?_
 refine W.loop [0,1,5] (fun n vs S=>n=0∧vs=[zan [],.int .i64 k0,.int .i64 0]∧S=⟨[],0⟩) 0 ?_ ?_
 ·refine ⟨0,rfl,?_,rfl⟩
  simp [Env.put,Env.of,zaf]
 rintro n vs S - ⟨rfl,rfl,rfl⟩
 refine W.seq ?_
 refine W.r fun K hK=>?_
 simp(disch:=omega)only[↓RU,RV,RH,↓reduceIte,qE,reduceCtorEq,if_pos,w64,↓RS,RG,qA,qM,qL,ty6,zaa,zac]
 apply hK;clear hK K
 refine W.cond rfl (fun h=>?_) (fun h=>?_)
 ·try simp only[RL]at h
  exact absurd h (by simp)
 try simp only[RL]at h
 refine W.exit ?_
 refine xe ?_
 refine xe ?_
 refine XBlock.hit ?_
 refine xn ?_
 refine W.r fun K hK=>?_
 simp(disch:=omega)only[↓RU,RV,RH,↓reduceIte,qE,reduceCtorEq,if_pos,↓RS,RG,qA,qM,qL]
 apply hK;clear hK K
 refine W.ret ?_
 refine Br rfl ?_
 rfl
theorem zih {a b:Int} {w:List Int}
  (hspec:w.length≤1048576→PC Tryz.prog 15 [.int .i64 a,.int .i64 b,eInts w] (.tup [zan ([]:List Txt),.bool false]) false)
  (himp:w.length≤1048576→PC Tryz.prog 17 [.int .i64 a,.int .i64 b,eInts w] (.tup [zan [],.bool false]) true):PC Tryz.prog 5 [.int .i64 a,.int .i64 b,eInts w] (.bool true) true:=by
 refine PC.of ⟨Tryz.func5,by kernel_rfl,rfl,by kernel_rfl⟩ zam mixed (by show 3≤Tryz.f5.ntmps; decide) ?_
 refine W.r fun K hK=>?_
 simp(disch:=omega)only[↓RU,RV,RH,↓reduceIte,qE,reduceCtorEq,if_pos,↓RS,RG,qA,qM,qL]
 apply hK;clear hK K
 refine W.seq ?_
 refine W.r fun K hK=>?_
 simp(disch:=omega)only[↓RU,RV,RH,↓reduceIte,qE,reduceCtorEq,if_pos,w64,↓RS,RG,qA,qM,qL,zab,zaa]
 apply hK;clear hK K
 refine W.cond rfl (fun h0=>?_) (fun h0=>?_)
 ·try simp only[RL]at h0
  refine W.r fun K hK=>?_
  simp(disch:=omega)only[↓RU,RV,RH,↓reduceIte,qE,reduceCtorEq,if_pos,↓RS,RG,qA,qM,qL]
  apply hK;clear hK K
  refine W.ret ?_
  refine XThen.ret ?_
  refine Br rfl ?_
  rfl
 try simp only[RL]at h0
 have hwl:w.length≤1048576:=by omega
 refine W.skip ?_
 refine xn ?_
 refine W.r fun K hK=>?_
 simp(disch:=omega)only[↓RU,RV,RH,↓reduceIte,qE,reduceCtorEq,if_pos,qN,↓RS,RG,qA,qM,qL]
 refine zad.pc (zhz hwl) rfl (.inl rfl) ?_
 simp(disch:=omega)only[↓RU,RV,RH,↓reduceIte,qE,reduceCtorEq,if_pos,qN,↓RS,RG,qA,qM,qL]
 refine zad.pc (hspec hwl) rfl (.inr rfl) ?_
 simp(disch:=omega)only[↓RU,RV,RH,↓reduceIte,qE,reduceCtorEq,if_pos,qN,↓RS,RG,qA,qM,qL]
 apply hK;clear hK K
 refine W.r fun K hK=>?_
 simp(disch:=omega)only[↓RU,RV,RH,↓reduceIte,qE,reduceCtorEq,if_pos,qN,↓RS,RG,qA,qM,qL]
 refine zad.pn (zrl hwl) rfl (.inl rfl) ?_
 simp(disch:=omega)only[↓RU,RV,RH,↓reduceIte,qE,reduceCtorEq,if_pos,qN,↓RS,RG,qA,qM,qL,RN]
 apply hK;clear hK K
 refine W.r fun K hK=>?_
 simp(disch:=omega)only[↓RU,RV,RH,↓reduceIte,qE,reduceCtorEq,if_pos,qN,↓RS,RG,qA,qM,qL]
 refine zad.pc (himp hwl) (zas rfl (zas rfl (zas (zax (k:=9) rfl (by simp) (zfq _)) rfl))) (.inl rfl) ?_
 simp(disch:=omega)only[↓RU,RV,RH,↓reduceIte,qE,reduceCtorEq,if_pos,qN,↓RS,RG,qA,qM,qL]
 apply hK;clear hK K
 refine W.seq ?_
 refine W.r fun K hK=>?_
 simp(disch:=omega)only[↓RU,RV,RH,↓reduceIte,qE,reduceCtorEq,if_pos,qN,w64,↓RS,RG,qA,qM,qL,zaj]
 refine zad.pc (zex (p:=([]:List Txt)) (q:=([]:List Txt)) (by simp) (by simp)) (zas rfl (zas rfl rfl)) (.inl rfl) ?_
 simp(disch:=omega)only[↓RU,RV,RH,↓reduceIte,qE,reduceCtorEq,if_pos,qN,w64,↓RS,RG,qA,qM,qL,zaj,decide_true,Bool.not_true,bne_self_eq_false]
 apply hK;clear hK K
 refine W.cond rfl (fun h1=>?_) (fun h1=>?_)
 ·try simp only[RL]at h1
  first | (exfalso; omega) | exact absurd h1 (by simp)
 try simp only[RL]at h1
 refine W.skip ?_
 refine xn ?_
 refine W.seq ?_
 refine W.r fun K hK=>?_
 simp(disch:=omega)only[↓RU,RV,RH,↓reduceIte,qE,reduceCtorEq,if_pos,qN,↓RS,RG,qA,qM,qL]
 refine zad.pc (zhz hwl) rfl (.inl rfl) ?_
 simp(disch:=omega)only[↓RU,RV,RH,↓reduceIte,qE,reduceCtorEq,if_pos,qN,↓RS,RG,qA,qM,qL]
 refine zad.pc (zwe (p:=w) (q:=w) (by omega) (by omega)) (zas (zax (k:=9) rfl (by simp) (zfq _)) (zas rfl rfl)) (.inl rfl) ?_
 simp(disch:=omega)only[↓RU,RV,RH,↓reduceIte,qE,reduceCtorEq,if_pos,qN,↓RS,RG,qA,qM,qL]
 apply hK;clear hK K
 refine W.cond rfl (fun h2=>?_) (fun h2=>?_)
 ·try simp only[RL]at h2
  first | (exfalso; omega) | exact absurd h2 (by simp)
 try simp only[RL]at h2
 refine W.skip ?_
 refine xn ?_
 refine W.r fun K hK=>?_
 simp(disch:=omega)only[↓RU,RV,RH,↓reduceIte,qE,reduceCtorEq,if_pos,↓RS,RG,qA,qM,qL]
 apply hK;clear hK K
 refine W.r fun K hK=>?_
 simp(disch:=omega)only[↓RU,RV,RH,↓reduceIte,qE,reduceCtorEq,if_pos,qN,↓RS,RG,qA,qM,qL]
 refine zad.ev (zqa (F:=[]) (R:=[]) (l:=w) hwl (k0:=1) (by omega) (by omega)) ?_
 rintro _ _ ⟨rfl,t2,ht2,hd2,rfl⟩
 simp(disch:=omega)only[↓RU,RV,RH,↓reduceIte,qE,reduceCtorEq,if_pos,qN,↓RS,RG,qA,qM,qL,List.nil_append,List.cons_append,qN]
 apply hK;clear hK K
 refine W.seq ?_
 refine W.r fun K hK=>?_
 have hk0:decide ((1+(w.length:Int))<0)=false:=by simp; omega
 simp(disch:=omega)only[↓RU,RV,RH,↓reduceIte,qE,reduceCtorEq,if_pos,w64,qN,↓RS,RG,qA,qM,qL,zaj,zaa,hk0]
 refine zad.pc (zex (p:=([]:List Txt)) (q:=([]:List Txt)) (by simp) (by simp)) (zas rfl (zas rfl rfl)) (.inl rfl) ?_
 simp(disch:=omega)only[↓RU,RV,RH,↓reduceIte,qE,reduceCtorEq,if_pos,w64,qN,↓RS,RG,qA,qM,qL,zaj,zaa,hk0,decide_true,Bool.not_true,bne_self_eq_false]
 apply hK;clear hK K
 refine W.cond rfl (fun h3=>?_) (fun h3=>?_)
 ·try simp only[RL]at h3
  first | (exfalso; omega) | exact absurd h3 (by simp)
 try simp only[RL]at h3
 refine W.skip ?_
 refine xn ?_
 refine W.r fun K hK=>?_
 simp(disch:=omega)only[↓RU,RV,RH,↓reduceIte,qE,reduceCtorEq,if_pos,↓RS,RG,qA,qM,qL]
 apply hK;clear hK K
 refine W.r fun K hK=>?_
 simp(disch:=omega)only[↓RU,RV,RH,↓reduceIte,qE,reduceCtorEq,if_pos,qN,↓RS,RG,qA,qM,qL]
 refine zad.pc (zqb 1) rfl (.inl rfl) ?_
 simp(disch:=omega)only[↓RU,RV,RH,↓reduceIte,qE,reduceCtorEq,if_pos,qN,↓RS,RG,qA,qM,qL]
 apply hK;clear hK K
 refine W.r fun K hK=>?_
 simp(disch:=omega)only[↓RU,RV,RH,↓reduceIte,qE,reduceCtorEq,if_pos,↓RS,RG,qA,qM,qL]
 apply hK;clear hK K
 refine W.r fun K hK=>?_
 simp(disch:=omega)only[↓RU,RV,RH,↓reduceIte,qE,reduceCtorEq,if_pos,qN,↓RS,RG,qA,qM,qL]
 refine zad.pc (zfp (l:=[]) (k0:=1) (by simp) (by omega) (by omega) (fun j h=>absurd h (by simp))) rfl (.inl rfl) ?_
 simp(disch:=omega)only[↓RU,RV,RH,↓reduceIte,qE,reduceCtorEq,if_pos,qN,↓RS,RG,qA,qM,qL,List.length_nil]
 apply hK;clear hK K
 refine W.seq ?_
 refine W.r fun K hK=>?_
 simp(disch:=omega)only[↓RU,RV,RH,↓reduceIte,qE,reduceCtorEq,if_pos,w64,↓RS,RG,qA,qM,qL,zaa]
 apply hK;clear hK K
 refine W.cond rfl (fun h4=>?_) (fun h4=>?_)
 ·try simp only[RL]at h4
  first | (exfalso; omega) | exact absurd h4 (by simp)
 try simp only[RL]at h4
 refine W.skip ?_
 refine xn ?_
 refine W.seq ?_
 refine W.r fun K hK=>?_
 simp(disch:=omega)only[↓RU,RV,RH,↓reduceIte,qE,reduceCtorEq,if_pos,w64,↓RS,RG,qA,qM,qL,zaa]
 apply hK;clear hK K
 refine W.cond rfl (fun h5=>?_) (fun h5=>?_)
 ·try simp only[RL]at h5
  first | (exfalso; omega) | exact absurd h5 (by simp)
 try simp only[RL]at h5
 refine W.skip ?_
 refine xn ?_
 refine W.r fun K hK=>?_
 simp(disch:=omega)only[↓RU,RV,RH,↓reduceIte,qE,reduceCtorEq,if_pos,qN,↓RS,RG,qA,qM,qL]
 refine zad.pc (zhz hwl) rfl (.inl rfl) ?_
 simp(disch:=omega)only[↓RU,RV,RH,↓reduceIte,qE,reduceCtorEq,if_pos,qN,↓RS,RG,qA,qM,qL]
 refine zad.pc (himp hwl) rfl (.inl rfl) ?_
 simp(disch:=omega)only[↓RU,RV,RH,↓reduceIte,qE,reduceCtorEq,if_pos,qN,↓RS,RG,qA,qM,qL]
 apply hK;clear hK K
 refine W.seq ?_
 refine W.r fun K hK=>?_
 simp(disch:=omega)only[↓RU,RV,RH,↓reduceIte,qE,reduceCtorEq,if_pos,qN,w64,↓RS,RG,qA,qM,qL,zaj]
 refine zad.pc (zex (p:=([]:List Txt)) (q:=([]:List Txt)) (by simp) (by simp)) (zas rfl (zas rfl rfl)) (.inl rfl) ?_
 simp(disch:=omega)only[↓RU,RV,RH,↓reduceIte,qE,reduceCtorEq,if_pos,qN,w64,↓RS,RG,qA,qM,qL,zaj,decide_true,Bool.not_true,bne_self_eq_false]
 apply hK;clear hK K
 refine W.cond rfl (fun h6=>?_) (fun h6=>?_)
 ·try simp only[RL]at h6
  first | (exfalso; omega) | exact absurd h6 (by simp)
 try simp only[RL]at h6
 refine W.skip ?_
 refine xn ?_
 refine W.r fun K hK=>?_
 simp(disch:=omega)only[↓RU,RV,RH,↓reduceIte,qE,reduceCtorEq,if_pos,↓RS,RG,qA,qM,qL]
 apply hK;clear hK K
 refine W.r fun K hK=>?_
 simp(disch:=omega)only[↓RU,RV,RH,↓reduceIte,qE,reduceCtorEq,if_pos,qN,↓RS,RG,qA,qM,qL]
 refine zad.pc (zfp (l:=[]) (k0:=1) (by simp) (by omega) (by omega) (fun j h=>absurd h (by simp))) rfl (.inl rfl) ?_
 simp(disch:=omega)only[↓RU,RV,RH,↓reduceIte,qE,reduceCtorEq,if_pos,qN,↓RS,RG,qA,qM,qL,List.length_nil]
 apply hK;clear hK K
 refine W.seq ?_
 refine W.r fun K hK=>?_
 simp(disch:=omega)only[↓RU,RV,RH,↓reduceIte,qE,reduceCtorEq,if_pos,w64,↓RS,RG,qA,qM,qL,zaa]
 apply hK;clear hK K
 refine W.cond rfl (fun h7=>?_) (fun h7=>?_)
 ·try simp only[RL]at h7
  first | (exfalso; omega) | exact absurd h7 (by simp)
 try simp only[RL]at h7
 refine W.skip ?_
 refine xn ?_
 refine W.seq ?_
 refine W.r fun K hK=>?_
 simp(disch:=omega)only[↓RU,RV,RH,↓reduceIte,qE,reduceCtorEq,if_pos,w64,↓RS,RG,qA,qM,qL,zaa]
 apply hK;clear hK K
 refine W.cond rfl (fun h8=>?_) (fun h8=>?_)
 ·try simp only[RL]at h8
  first | (exfalso; omega) | exact absurd h8 (by simp)
 try simp only[RL]at h8
 refine W.skip ?_
 refine xn ?_
 refine W.r fun K hK=>?_
 simp(disch:=omega)only[↓RU,RV,RH,↓reduceIte,qE,reduceCtorEq,if_pos,↓RS,RG,qA,qM,qL]
 apply hK;clear hK K
 refine W.ret ?_
 refine Br rfl ?_
 rfl
theorem zmv {a b:Int} {w:List Int} {q:List Txt} (hq6:q.length≤6)
  (hspec:w.length≤1048576→PC Tryz.prog 15 [.int .i64 a,.int .i64 b,eInts w] (.tup [zan q,.bool true]) false)
  (himp:w.length≤1048576→PN Tryz.prog 17 [.int .i64 a,.int .i64 b,eInts w] (.tup [.loc 0 0 0 q.length,.bool true]) [.arr 0 9 1 (q.map .str)] false):PC Tryz.prog 5 [.int .i64 a,.int .i64 b,eInts w] (.bool true) true:=by
 refine PC.of ⟨Tryz.func5,by kernel_rfl,rfl,by kernel_rfl⟩ zam mixed (by show 3≤Tryz.f5.ntmps; decide) ?_
 refine W.r fun K hK=>?_
 simp(disch:=omega)only[↓RU,RV,RH,↓reduceIte,qE,reduceCtorEq,if_pos,↓RS,RG,qA,qM,qL]
 apply hK;clear hK K
 refine W.seq ?_
 refine W.r fun K hK=>?_
 simp(disch:=omega)only[↓RU,RV,RH,↓reduceIte,qE,reduceCtorEq,if_pos,w64,↓RS,RG,qA,qM,qL,zab,zaa]
 apply hK;clear hK K
 refine W.cond rfl (fun h0=>?_) (fun h0=>?_)
 ·try simp only[RL]at h0
  refine W.r fun K hK=>?_
  simp(disch:=omega)only[↓RU,RV,RH,↓reduceIte,qE,reduceCtorEq,if_pos,↓RS,RG,qA,qM,qL]
  apply hK;clear hK K
  refine W.ret ?_
  refine XThen.ret ?_
  refine Br rfl ?_
  rfl
 try simp only[RL]at h0
 have hwl:w.length≤1048576:=by omega
 refine W.skip ?_
 refine xn ?_
 refine W.r fun K hK=>?_
 simp(disch:=omega)only[↓RU,RV,RH,↓reduceIte,qE,reduceCtorEq,if_pos,qN,↓RS,RG,qA,qM,qL]
 refine zad.pc (zhz hwl) rfl (.inl rfl) ?_
 simp(disch:=omega)only[↓RU,RV,RH,↓reduceIte,qE,reduceCtorEq,if_pos,qN,↓RS,RG,qA,qM,qL]
 refine zad.pc (hspec hwl) rfl (.inr rfl) ?_
 simp(disch:=omega)only[↓RU,RV,RH,↓reduceIte,qE,reduceCtorEq,if_pos,qN,↓RS,RG,qA,qM,qL]
 apply hK;clear hK K
 refine W.r fun K hK=>?_
 simp(disch:=omega)only[↓RU,RV,RH,↓reduceIte,qE,reduceCtorEq,if_pos,qN,↓RS,RG,qA,qM,qL]
 refine zad.pn (zrl hwl) rfl (.inl rfl) ?_
 simp(disch:=omega)only[↓RU,RV,RH,↓reduceIte,qE,reduceCtorEq,if_pos,qN,↓RS,RG,qA,qM,qL,RN]
 apply hK;clear hK K
 refine W.r fun K hK=>?_
 simp(disch:=omega)only[↓RU,RV,RH,↓reduceIte,qE,reduceCtorEq,if_pos,qN,↓RS,RG,qA,qM,qL]
 refine zad.pn (himp hwl) (zas rfl (zas rfl (zas (zax (k:=9) rfl (by simp) (zfq _)) rfl))) (.inl rfl) ?_
 simp(disch:=omega)only[↓RU,RV,RH,↓reduceIte,qE,reduceCtorEq,if_pos,qN,↓RS,RG,qA,qM,qL,RN]
 apply hK;clear hK K
 refine W.seq ?_
 refine W.r fun K hK=>?_
 simp(disch:=omega)only[↓RU,RV,RH,↓reduceIte,qE,reduceCtorEq,if_pos,qN,w64,↓RS,RG,qA,qM,qL,zaj]
 refine zad.pc (zex (p:=q) (q:=q) (by omega) (by omega)) (zas (zax (k:=9) rfl (by simp) (zg5 _)) (zas rfl rfl)) (.inl rfl) ?_
 simp(disch:=omega)only[↓RU,RV,RH,↓reduceIte,qE,reduceCtorEq,if_pos,qN,w64,↓RS,RG,qA,qM,qL,zaj,decide_true,Bool.not_true,bne_self_eq_false]
 apply hK;clear hK K
 refine W.cond rfl (fun h1=>?_) (fun h1=>?_)
 ·try simp only[RL]at h1
  first | (exfalso; omega) | exact absurd h1 (by simp)
 try simp only[RL]at h1
 refine W.skip ?_
 refine xn ?_
 refine W.seq ?_
 refine W.r fun K hK=>?_
 simp(disch:=omega)only[↓RU,RV,RH,↓reduceIte,qE,reduceCtorEq,if_pos,qN,↓RS,RG,qA,qM,qL]
 refine zad.pc (zhz hwl) rfl (.inl rfl) ?_
 simp(disch:=omega)only[↓RU,RV,RH,↓reduceIte,qE,reduceCtorEq,if_pos,qN,↓RS,RG,qA,qM,qL]
 refine zad.pc (zwe (p:=w) (q:=w) (by omega) (by omega)) (zas (zax (k:=9) rfl (by simp) (zfq _)) (zas rfl rfl)) (.inl rfl) ?_
 simp(disch:=omega)only[↓RU,RV,RH,↓reduceIte,qE,reduceCtorEq,if_pos,qN,↓RS,RG,qA,qM,qL]
 apply hK;clear hK K
 refine W.cond rfl (fun h2=>?_) (fun h2=>?_)
 ·try simp only[RL]at h2
  first | (exfalso; omega) | exact absurd h2 (by simp)
 try simp only[RL]at h2
 refine W.skip ?_
 refine xn ?_
 refine W.r fun K hK=>?_
 simp(disch:=omega)only[↓RU,RV,RH,↓reduceIte,qE,reduceCtorEq,if_pos,↓RS,RG,qA,qM,qL]
 apply hK;clear hK K
 refine W.r fun K hK=>?_
 simp(disch:=omega)only[↓RU,RV,RH,↓reduceIte,qE,reduceCtorEq,if_pos,qN,↓RS,RG,qA,qM,qL]
 refine zad.ev (zqa (F:=[]) (R:=[_]) (l:=w) hwl (k0:=1) (by omega) (by omega)) ?_
 rintro _ _ ⟨rfl,t2,ht2,hd2,rfl⟩
 simp(disch:=omega)only[↓RU,RV,RH,↓reduceIte,qE,reduceCtorEq,if_pos,qN,↓RS,RG,qA,qM,qL,List.nil_append,List.cons_append,qN]
 apply hK;clear hK K
 refine W.seq ?_
 refine W.r fun K hK=>?_
 have hk0:decide ((1+(w.length:Int))<0)=false:=by simp; omega
 simp(disch:=omega)only[↓RU,RV,RH,↓reduceIte,qE,reduceCtorEq,if_pos,w64,qN,↓RS,RG,qA,qM,qL,zaj,zaa,hk0]
 refine zad.pc (zex (p:=q) (q:=q) (by omega) (by omega)) (zas (zax (k:=9) rfl (by simp) (zg5 _)) (zas rfl rfl)) (.inl rfl) ?_
 simp(disch:=omega)only[↓RU,RV,RH,↓reduceIte,qE,reduceCtorEq,if_pos,w64,qN,↓RS,RG,qA,qM,qL,zaj,zaa,hk0,decide_true,Bool.not_true,bne_self_eq_false]
 apply hK;clear hK K
 refine W.cond rfl (fun h3=>?_) (fun h3=>?_)
 ·try simp only[RL]at h3
  first | (exfalso; omega) | exact absurd h3 (by simp)
 try simp only[RL]at h3
 refine W.skip ?_
 refine xn ?_
 refine W.r fun K hK=>?_
 simp(disch:=omega)only[↓RU,RV,RH,↓reduceIte,qE,reduceCtorEq,if_pos,↓RS,RG,qA,qM,qL]
 apply hK;clear hK K
 refine W.r fun K hK=>?_
 simp(disch:=omega)only[↓RU,RV,RH,↓reduceIte,qE,reduceCtorEq,if_pos,qN,↓RS,RG,qA,qM,qL]
 refine zad.ev (zqc (F:=[_]) (R:=[]) (l:=q) (by omega) (k0:=1) (by omega) (by omega)) ?_
 rintro _ _ ⟨rfl,t3,ht3,hd3,rfl⟩
 simp(disch:=omega)only[↓RU,RV,RH,↓reduceIte,qE,reduceCtorEq,if_pos,qN,↓RS,RG,qA,qM,qL,List.nil_append,List.cons_append,qN]
 apply hK;clear hK K
 refine W.r fun K hK=>?_
 simp(disch:=omega)only[↓RU,RV,RH,↓reduceIte,qE,reduceCtorEq,if_pos,↓RS,RG,qA,qM,qL]
 apply hK;clear hK K
 refine W.r fun K hK=>?_
 simp(disch:=omega)only[↓RU,RV,RH,↓reduceIte,qE,reduceCtorEq,if_pos,qN,↓RS,RG,qA,qM,qL]
 refine zad.pc (zfp (l:=t3) (k0:=1) (by omega) (by omega) (by omega) (fun j h=>hd3 j (by omega))) (zas ((zax (k:=9) (n:=q.length) rfl (by simp [ht3]) (zg5 _)).trans (by rw [← ht3])) rfl) (.inl rfl) ?_
 simp(disch:=omega)only[↓RU,RV,RH,↓reduceIte,qE,reduceCtorEq,if_pos,qN,↓RS,RG,qA,qM,qL,ht3]
 apply hK;clear hK K
 refine W.seq ?_
 refine W.r fun K hK=>?_
 simp(disch:=omega)only[↓RU,RV,RH,↓reduceIte,qE,reduceCtorEq,if_pos,w64,↓RS,RG,qA,qM,qL,zaa]
 apply hK;clear hK K
 refine W.cond rfl (fun h4=>?_) (fun h4=>?_)
 ·try simp only[RL]at h4
  first | (exfalso; omega) | exact absurd h4 (by simp)
 try simp only[RL]at h4
 refine W.skip ?_
 refine xn ?_
 refine W.seq ?_
 refine W.r fun K hK=>?_
 simp(disch:=omega)only[↓RU,RV,RH,↓reduceIte,qE,reduceCtorEq,if_pos,w64,↓RS,RG,qA,qM,qL,zaa]
 apply hK;clear hK K
 refine W.cond rfl (fun h5=>?_) (fun h5=>?_)
 ·try simp only[RL]at h5
  first | (exfalso; omega) | exact absurd h5 (by simp)
 try simp only[RL]at h5
 refine W.skip ?_
 refine xn ?_
 refine W.r fun K hK=>?_
 simp(disch:=omega)only[↓RU,RV,RH,↓reduceIte,qE,reduceCtorEq,if_pos,qN,↓RS,RG,qA,qM,qL]
 refine zad.pc (zhz hwl) rfl (.inl rfl) ?_
 simp(disch:=omega)only[↓RU,RV,RH,↓reduceIte,qE,reduceCtorEq,if_pos,qN,↓RS,RG,qA,qM,qL]
 refine zad.pn (himp hwl) rfl (.inl rfl) ?_
 simp(disch:=omega)only[↓RU,RV,RH,↓reduceIte,qE,reduceCtorEq,if_pos,qN,↓RS,RG,qA,qM,qL,RN]
 apply hK;clear hK K
 refine W.seq ?_
 refine W.r fun K hK=>?_
 simp(disch:=omega)only[↓RU,RV,RH,↓reduceIte,qE,reduceCtorEq,if_pos,qN,w64,↓RS,RG,qA,qM,qL,zaj]
 refine zad.pc (zex (p:=q) (q:=q) (by omega) (by omega)) (zas (zax (k:=9) rfl (by simp) (zg5 _)) (zas rfl rfl)) (.inl rfl) ?_
 simp(disch:=omega)only[↓RU,RV,RH,↓reduceIte,qE,reduceCtorEq,if_pos,qN,w64,↓RS,RG,qA,qM,qL,zaj,decide_true,Bool.not_true,bne_self_eq_false]
 apply hK;clear hK K
 refine W.cond rfl (fun h6=>?_) (fun h6=>?_)
 ·try simp only[RL]at h6
  first | (exfalso; omega) | exact absurd h6 (by simp)
 try simp only[RL]at h6
 refine W.skip ?_
 refine xn ?_
 refine W.r fun K hK=>?_
 simp(disch:=omega)only[↓RU,RV,RH,↓reduceIte,qE,reduceCtorEq,if_pos,↓RS,RG,qA,qM,qL]
 apply hK;clear hK K
 refine W.r fun K hK=>?_
 simp(disch:=omega)only[↓RU,RV,RH,↓reduceIte,qE,reduceCtorEq,if_pos,qN,↓RS,RG,qA,qM,qL]
 refine zad.pc (zfp (l:=t3) (k0:=1) (by omega) (by omega) (by omega) (fun j h=>hd3 j (by omega))) (zas ((zax (k:=9) (n:=q.length) rfl (by simp [ht3]) (zg5 _)).trans (by rw [← ht3])) rfl) (.inl rfl) ?_
 simp(disch:=omega)only[↓RU,RV,RH,↓reduceIte,qE,reduceCtorEq,if_pos,qN,↓RS,RG,qA,qM,qL,ht3]
 apply hK;clear hK K
 refine W.seq ?_
 refine W.r fun K hK=>?_
 simp(disch:=omega)only[↓RU,RV,RH,↓reduceIte,qE,reduceCtorEq,if_pos,w64,↓RS,RG,qA,qM,qL,zaa]
 apply hK;clear hK K
 refine W.cond rfl (fun h7=>?_) (fun h7=>?_)
 ·try simp only[RL]at h7
  first | (exfalso; omega) | exact absurd h7 (by simp)
 try simp only[RL]at h7
 refine W.skip ?_
 refine xn ?_
 refine W.seq ?_
 refine W.r fun K hK=>?_
 simp(disch:=omega)only[↓RU,RV,RH,↓reduceIte,qE,reduceCtorEq,if_pos,w64,↓RS,RG,qA,qM,qL,zaa]
 apply hK;clear hK K
 refine W.cond rfl (fun h8=>?_) (fun h8=>?_)
 ·try simp only[RL]at h8
  first | (exfalso; omega) | exact absurd h8 (by simp)
 try simp only[RL]at h8
 refine W.skip ?_
 refine xn ?_
 refine W.r fun K hK=>?_
 simp(disch:=omega)only[↓RU,RV,RH,↓reduceIte,qE,reduceCtorEq,if_pos,↓RS,RG,qA,qM,qL]
 apply hK;clear hK K
 refine W.ret ?_
 refine Br rfl ?_
 rfl
theorem zum (a b:Int) (w:List Int):PC Tryz.prog 5 [.int .i64 a,.int .i64 b,eInts w] (.bool true) true:=by
 cases hv:(zj5 a b && zhc w) with
 | false=>exact zih (fun hw=>z7z hw hv) (fun hw=>z9c hw hv)
 | true =>
  rw [qB]at hv
  obtain ⟨n,m,rfl,rfl,h1,h2,h3,h4,h9⟩:=yc1 hv.1
  have hsp:=z33 hv.1 hv.2 h1 h2 h3 h4 h9
  cases hF:(ze9 n m).find? (ze4 w) with
  | none=>rw [hF]at hsp; exact zih (fun _=>hsp) (fun _=>z2v hv.1 hv.2 h1 h2 h3 h4 h9 hF)
  | some q =>
   rw [hF]at hsp
   obtain ⟨-,hqs⟩:=zta h9 h1 h2 h3 h4 (List.mem_of_find?_eq_some hF)
   exact zmv (q:=q) (by rw [hqs.h]; exact h2) (fun _=>hsp) (fun _=>z2w hv.1 hv.2 h1 h2 h3 h4 h9 hF)
end Fw
end Go.Proofs.YtddhgiafpmghpaaGreat
namespace Go.Proofs.YtddhgiafpmghpaaGreat
open Go Go.ChangeShapes Go.WideShapes Go.ChangeAt Go.RowKit Fw
theorem Tryz.ownRsc:ownKnob Tryz.prog.godebug=none:=by kernel_rfl
theorem Tryz.laidOutRsc:laidOutB Tryz.prog=true:=by kernel_rfl
set_option maxRecDepth 100000 in
theorem vi_int {W:World} {base:Nat} {v:Value} (hval:Value.okWide Tryz.prog W .any base 3 v):∃ n:Int,VI W.heap (fun b=>b<W.heap.size) (.int .i64 n) v:=by
 obtain ⟨n,rfl⟩:=okWide_int Tryz.underlying3 hval
 exact ⟨n,.int _ _⟩
set_option maxRecDepth 100000 in
theorem rsc_lifted (os:Os) (started:os.Started) (H:Type) (enc:TypeId × Value→H) :
  ReturnsInHanded {} Tryz.checked os 5 .any (Rows.fnExactCountFirstSpec.pre6 enc Tryz.prog Tryz.f5 Rows.fnExactCountFirstRow.domain false) (Rows.fnExactCountFirstSpec.post enc Tryz.prog Tryz.f5 false true false false):=by
 refine returnsInHanded_of_change (C:=Tryz.checked) Tryz.ownRsc started (by kernel_rfl) Tryz.func5
  (ChangeSpec.witness6 (enc:=enc) (C:=Tryz.checked) false ⟨#[],#[.int .i64 0,.int .i64 0,.slice none 0 0],[]⟩ 8 (by kernel_rfl) (by kernel_rfl) (by kernel_rfl) (by kernel_rfl)) ?_
 intro W base args ds gs before hval0 hW hcnd _
 have hval:∀ (j:Nat) t v,Tryz.f5.params[j]?=some t→args[j]?=some v→Value.okWide Tryz.prog W .any base t v:=hval0
 have hW':=hW
 obtain ⟨p,q,hA0,hV,rfl,hfz,hnd⟩:=hW
 have hA:DataW.TrodAll enc Tryz.prog W 0 (fun _=>true) true Tryz.f5.params.toList args.toList ds p:=hA0
 rw [Tryz.params5]at hA hval
 obtain ⟨v0,v1,v2,d0,d1,d2,p0,p1,p2,rfl,rfl,rfl,h0,h1,h2⟩:=trodAll_three hA
 obtain ⟨rfl,rfl⟩:=trodVars_none hV
 obtain ⟨l0,i0⟩:=vi_int (hval 0 _ v0 rfl rfl)
 obtain ⟨l1,i1⟩:=vi_int (hval 1 _ v1 rfl rfl)
 obtain ⟨l2,i2⟩:=yey (hval 2 _ v2 rfl rfl) h2
 have hlt:∀ x∈p0++p1++p2,x.block<W.heap.size:=fun x hx=>hW'.lt x (by simp only[List.mem_append]at hx ⊢; simp [hx])
 refine ((zum l0 l1 l2).run (fun b=>b<W.heap.size) W #[v0,v1,v2] (fun _ h=>h) rfl ?_).mono ?_
 ·rintro (_ | _ | _ | i) p c hp hc
  ·cases hp; cases hc; exact i0
  ·cases hp; cases hc; exact i1
  ·cases hp; cases hc; exact i2
  simp at hp
 rintro e W' ⟨cv,rfl,⟨hB,_⟩,hr⟩
 have hcv:cv = .bool true:=by cases hr; rfl
 subst hcv
 have t0:=Below.trod Tryz.laidOutRsc (by kernel_rfl) (of_decide_eq_true (by kernel_rfl)) h0 hB fun x hx=>hlt x (by simp [hx])
 have t1:=Below.trod Tryz.laidOutRsc (by kernel_rfl) (of_decide_eq_true (by kernel_rfl)) h1 hB fun x hx=>hlt x (by simp [hx])
 have t2:=Below.trod Tryz.laidOutRsc (by kernel_rfl) (of_decide_eq_true (by kernel_rfl)) h2 hB fun x hx=>hlt x (by simp [hx])
 refine ⟨_,rfl,_,_,_,[],p0++(p1++p2),[],hW',?_,?_,?_,hB.frame _,fun h=>by cases h⟩
 ·exact trodAll_mk1 (shut_bool Tryz.underlying4 true)
 ·rw [Tryz.params5]; exact trodAll_mk3 t0 t1 t2
 trivial
theorem rsc_holds:Rows.FnExactCountFirstSaid :=
 OpenClaim.holds_of_wide 5 Tryz.f5 rfl rfl rfl rfl rfl rfl rfl ⟨rfl,rfl,rfl,rfl,rfl⟩ rfl rfl rfl rfl rfl (by kernel_rfl) Tryz.func5 (by kernel_rfl)
  (of_decide_eq_true (by kernel_rfl)) (by unfold Func.isWrapper; first | (rw [if_pos (by decide +kernel)]; kernel_rfl) | (rw [if_neg (by decide +kernel)]; exact ⟨rfl,rfl⟩))
  (fun os started H enc _=>rsc_lifted os started H enc)
end Go.Proofs.YtddhgiafpmghpaaGreat
