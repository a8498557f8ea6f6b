/- Parts of the framework and of the proof: Numbers put in order by putting one after the other in; Sort, gone through; How many rooms meet at the points of a grid of the program; Points of the program, gone through; The text of a grid; strings.Builder: copyCheck and String, in the model's own words; The text of a plan of the program, gone through; How the program numbers rooms and finds the rectangles around them; The numbering of rooms by the program, gone through; The numbering of all rooms of a grid; Grids of the program, gone through; A plan of a grid, as the program finds it; Plans of the program, gone through; Plans that are read, in plain words; Reading plans, gone through; The two closures of relations are the same; The heaviest sums and the least sizes are the same; The program's walls and orders are the specification's; The program's direct orders are the specification's; Sums and counts of cells; The least rectangle around cells, by the program; The least rectangle around a room and its cells, by the specification; Plans that are read are the specification's: grids and names; Plans that are read are the specification's: numbers of rooms and rectangles; Plans that are read are the specification's: rooms fill their rectangles; Areas by the program are the specification's; Areas by the program are the specification's, joined; Arguments of laws as plain data; Plans in which no four rooms meet: two orders of rooms go on without end, and each two rooms are in one; The program's closures and walls in words of cells: left of is going on from just left of, above is going on from just above; Orders of a plain plan: each two rooms are in just one. -/
import Derived.Test.YtddhgiafpmghpaaGreatJ2
import Derived.Test.YtddhgiafpmghpaaGreatJ1
import Derived.Lib.Builder
import Derived.Lib.UnsafeStr
import Derived.Lib.Walk
import Derived.WalkKit
import Derived.Laws.Externs
import Derived.Test.YtddhgiafpmghpaaGreatRows
import Derived.ProofKit
import Derived.SliceStrings
set_option linter.all false
namespace Go.Proofs.YtddhgiafpmghpaaGreat
namespace Fw
open Go
open Nat renaming reduceEqDiff → qE, reduceLeDiff → qL, reduceAdd → qA, reduceMul → qM, le_refl → qR
open List renaming append_nil → qN, mapM_append → qP, mapM_cons → qC, mapM_map → qU, range_succ → qS, take_of_length_le → qT
open Bool renaming and_eq_true → qB, false_eq_true → qF
open Option renaming map_some → qO, map_eq_some_iff → qI
open Int renaming reduceToNat → qZ
def Ord (c:List Int) (i:Nat):Prop:=∀ p q x y,p<q→q<i→c[p]?=some x→c[q]?=some y→x≤y
def z8s (c:List Int) (j i:Nat):Prop:=∀ p q x y,p<q→q≤i→q≠j→c[p]?=some x→c[q]?=some y→x≤y
theorem Ord.one (c:List Int):Ord c 1:=by intro p q x y h1 h2; omega
theorem Ord.ins {c:List Int} {i:Nat} (h:Ord c i):z8s c i i:=by
 intro p q x y h1 h2 h3 hx hy
 exact h p q x y h1 (by omega) hx hy
theorem z8s.zero {c:List Int} {i:Nat} (h:z8s c 0 i):Ord c (i+1):=by
 intro p q x y h1 h2 hx hy
 exact h p q x y h1 (by omega) (by omega) hx hy
theorem z8s.stop {c:List Int} {i j:Nat} {a b:Int} (h:z8s c j i) (ha:c[j]?=some a) (hb:c[j - 1]?=some b) (hle:¬ a<b):Ord c (i+1):=by
 intro p q x y h1 h2 hx hy
 by_cases e:q=j
 ·subst e
  rw [ha]at hy; cases hy
  by_cases e2:p=q - 1
  ·subst e2; rw [hb]at hx; cases hx; omega
  have:=h p (q - 1) x b (by omega) (by omega) (by omega) hx hb; omega
 exact h p q x y h1 (by omega) e hx hy
theorem z8s.swap {c:List Int} {i j:Nat} {a b:Int} (h:z8s c j i) (hj:j≠0) (hji:j≤i) (ha:c[j]?=some a) (hb:c[j - 1]?=some b) (hlt:a<b):z8s ((c.set j b).set (j - 1) a) (j - 1) i:=by
 have hl:=zaz ha
 have g:∀ k,((c.set j b).set (j - 1) a)[k]?=if k=j - 1 then some a else if k=j then some b else c[k]?:=by
  intro k
  rw [List.getElem?_set]
  by_cases e:j - 1=k
  ·rw [if_pos e,if_pos e.symm,if_pos (by simp; omega)]
  rw [if_neg e,if_neg (Ne.symm e),List.getElem?_set]
  by_cases e2:j=k
  ·rw [if_pos e2,if_pos e2.symm,if_pos (by omega)]
  rw [if_neg e2,if_neg (Ne.symm e2)]
 intro p q x y h1 h2 h3 hx hy
 rw [g]at hx hy
 rw [if_neg h3]at hy
 by_cases e:q=j
 ·rw [if_pos e]at hy; cases hy
  by_cases e2:p=j - 1
  ·rw [if_pos e2]at hx; cases hx; omega
  rw [if_neg e2,if_neg (by omega)]at hx
  exact h p (j - 1) x b (by omega) (by omega) (by omega) hx hb
 rw [if_neg e]at hy
 by_cases e2:p=j - 1
 ·rw [if_pos e2]at hx; cases hx
  exact h j q a y (by omega) h2 e ha hy
 rw [if_neg e2]at hx
 by_cases e3:p=j
 ·rw [if_pos e3]at hx; cases hx
  exact h (j - 1) q b y (by omega) h2 e hb hy
 rw [if_neg e3]at hx
 exact h p q x y h1 h2 e hx hy
theorem zyf {c l:List Int} {j:Nat} {a b:Int} (h:c.Perm l) (ha:c[j]?=some a) (hb:c[j - 1]?=some b):((c.set j b).set (j - 1) a).Perm l:=by
 obtain ⟨h1,e1⟩:=List.getElem?_eq_some_iff.mp ha
 obtain ⟨h2,e2⟩:=List.getElem?_eq_some_iff.mp hb
 have := @List.set_set_perm _ c _ _ h1 h2
 rw [e1,e2]at this
 exact this.trans h
theorem Ord.pair {c:List Int} (h:Ord c c.length):c.Pairwise (· ≤ ·):=by
 rw [List.pairwise_iff_getElem]
 intro i j hi hj hij
 exact h i j _ _ hij hj (List.getElem?_eq_getElem hi) (List.getElem?_eq_getElem hj)
theorem z9o {x:Int}:PC Tryz.prog 201 [.int .i64 x] (.bool false) true:=by
 refine PC.of ⟨Tryz.func201,by kernel_rfl,rfl,by kernel_rfl⟩ zam mixed (by show 1≤Tryz.f201.ntmps; decide) ?_
 refine W.r fun K hK=>?_
 simp(disch:=omega)only[↓RU,RV,RH,↓reduceIte,qE,reduceCtorEq,if_pos]
 apply hK;clear hK K
 refine W.r fun K hK=>?_
 simp(disch:=omega)only[↓RU,RV,RH,↓reduceIte,qE,reduceCtorEq,if_pos,w64,zaa]
 apply hK;clear hK K
 refine W.ret ?_
 refine Br rfl ?_
 rw [show (x != x)=false by simp]
 rfl
theorem yd0 {x y:Int}:PC Tryz.prog 176 [.int .i64 x,.int .i64 y] (.bool (decide (x<y))) true:=by
 refine PC.of ⟨Tryz.func176,by kernel_rfl,rfl,by kernel_rfl⟩ zam mixed (by show 2≤Tryz.f176.ntmps; decide) ?_
 refine W.r fun K hK=>?_
 simp(disch:=omega)only[↓RU,RV,RH,↓reduceIte,qE,reduceCtorEq,if_pos]
 apply hK;clear hK K
 refine W.r fun K hK=>?_
 simp(disch:=omega)only[↓RU,RV,RH,↓reduceIte,qE,reduceCtorEq,if_pos,qN,w64,zaa]
 refine zad.pc (z9o) rfl (.inl rfl) ?_
 simp(disch:=omega)only[↓RU,RV,RH,↓reduceIte,qE,reduceCtorEq,if_pos,qN,w64,zaa]
 apply hK;clear hK K
 refine W.ret ?_
 refine Br rfl ?_
 rfl
theorem z6d {F R:List Ob} {ver t:Nat} {l:List Int} (hl:l.length<2147483648) (h1:1≤l.length):Ev Tryz.prog 170 [.loc F.length ver 0 l.length,.int .i64 0,.int .i64 l.length] ⟨F ++ .arr ver 3 1 (l.map (.int .i64))::R,t⟩ fun v S=>v = .tup []∧∃ z:List Int,z.Perm l∧z.Pairwise (· ≤ ·)∧S=⟨F ++ .arr ver 3 1 (z.map (.int .i64))::R,t⟩:=by
 refine Ev.of ⟨Tryz.func170,by kernel_rfl,rfl,by kernel_rfl⟩ zam mixed (by show 3≤Tryz.f170.ntmps; decide) ?_
 refine W.r fun K hK=>?_
 simp(disch:=omega)only[↓RU,RV,RH,↓reduceIte,qE,reduceCtorEq,if_pos,w64,↓RS,RG,qA,qM,qL,zaa,gF,zc1]
 apply hK;clear hK K
 refine W.block ?_
 refine W.loop [0,1,2,6] (fun n vs S=>∃ (i:Nat) (c:List Int),n=l.length - i∧1≤i∧i≤l.length∧c.Perm l∧Ord c i∧vs=[.loc F.length ver 0 l.length,.int .i64 0,.int .i64 l.length,.int .i64 i]∧S=⟨F ++ .arr ver 3 1 (c.map (.int .i64))::R,t⟩) (l.length - 1) ?_ ?_
 ·refine ⟨_,1,l,rfl,qR _,h1,List.Perm.refl _,Ord.one l,?_,zal⟩
  simp [Env.put,Env.of,zaf]
 rintro n vs S - ⟨i,c,rfl,hi1,h_i,hp,ho,rfl,rfl⟩
 refine W.seq ?_
 refine W.r fun K hK=>?_
 simp(disch:=omega)only[↓RU,RV,RH,↓reduceIte,qE,reduceCtorEq,if_pos,w64,↓RS,RG,qA,qM,qL,zaa,gF,zc1]
 apply hK;clear hK K
 refine W.cond rfl (fun h=>?_) (fun h=>?_)
 ·try simp only[RL]at h
  refine W.skip ?_
  refine xn ?_
  refine W.seq ?_
  refine W.block ?_
  refine W.r fun K hK=>?_
  simp(disch:=omega)only[↓RU,RV,RH,↓reduceIte,qE,reduceCtorEq,if_pos,↓RS,RG,qA,qM,qL,gF,zc1]
  apply hK;clear hK K
  refine W.block ?_
  refine W.loop [0,1,2,6,7] (fun n vs S=>∃ (j:Nat) (d:List Int),n=j+1∧j≤i∧d.Perm l∧z8s d j i∧vs=[.loc F.length ver 0 l.length,.int .i64 0,.int .i64 l.length,.int .i64 i,.int .i64 j]∧S=⟨F ++ .arr ver 3 1 (d.map (.int .i64))::R,t⟩) (i+1) ?_ ?_
  ·refine ⟨_,i,c,rfl,qR _,hp,ho.ins,?_,zal⟩
   simp [Env.put,Env.of]
  rintro n vs S - ⟨j,d,rfl,h_j,hq,hO,rfl,rfl⟩
  refine W.seq ?_
  refine W.seq_draw (by kernel_rfl) fun K hK=>?_
  cases hd:decide ((j:Int)>0)
  ·skip
   obtain rfl:j=0:=by simpa using hd
   simp(disch:=omega)only[↓RU,RV,RH,↓reduceIte,qE,reduceCtorEq,if_pos,w64,qN,↓RS,RG,qA,qM,qL,zab,zaa,gF,zc1,hd]
   apply hK;clear hK K
   refine W.cond rfl (fun h2=>?_) (fun h2=>?_)
   ·try simp only[RL]at h2
    exact absurd h2 (by simp)
   try simp only[RL]at h2
   have hO2:Ord d (i+1):=hO.zero
   refine W.exit ?_
   refine xe ?_
   refine xe ?_
   refine XBlock.hit ?_
   refine XbN ?_
   refine xn ?_
   refine W.k fun K hK=>?_
   simp(disch:=omega)only[↓RU,RV,RH,↓reduceIte,qE,reduceCtorEq,if_pos,w64,↓RS,RG,qA,qM,qL,zaa,gF,zc1]
   apply hK;clear hK K
   refine xn ?_
   refine ⟨l.length - (i+1),by omega,_,i+1,d,rfl,by omega,by omega,hq,hO2,?_,zal⟩
   simp [Env.put,Env.of]
  ·skip
   have hj0:j≠0:=by have:=of_decide_eq_true hd; omega
   have hdl:=hq.length_eq
   obtain ⟨x,hx,-⟩:=zae (show j<d.length by omega)
   obtain ⟨y,hy,-⟩:=zae (show j - 1<d.length by omega)
   simp(disch:=omega)only[↓RU,RV,RH,↓reduceIte,qE,reduceCtorEq,if_pos,w64,qN,↓RS,RG,qA,qM,qL,zab,zaa,gF,zc1,hd,hx,hy,za1]
   refine zad.pc (yd0 (x:=x) (y:=y)) rfl (.inl rfl) ?_
   simp(disch:=omega)only[↓RU,RV,RH,↓reduceIte,qE,reduceCtorEq,if_pos,w64,qN,↓RS,RG,qA,qM,qL,zab,zaa,gF,zc1,hd,hx,hy,za1]
   apply hK;clear hK K
   refine W.cond rfl (fun h2=>?_) (fun h2=>?_)
   ·try simp only[RL]at h2
    have hjl:=zaz hx
    have hsl:(d.set j y).length=d.length:=by simp
    refine W.skip ?_
    refine xn ?_
    refine W.seq ?_
    refine W.block ?_
    refine W.draw_k (by kernel_rfl) fun K hK=>?_
    simp(disch:=omega)only[↓RU,RV,RH,↓reduceIte,qE,reduceCtorEq,if_pos,w64,↓RS,RG,qA,qM,qL,zab,zaa,gF,zc1,hx,hy,za1,za3,zcy,List.length_set]
    apply hK;clear hK K
    refine XbN ?_
    refine xn ?_
    refine W.k fun K hK=>?_
    simp(disch:=omega)only[↓RU,RV,RH,↓reduceIte,qE,reduceCtorEq,if_pos,w64,↓RS,RG,qA,qM,qL,zaa,gF,zc1]
    apply hK;clear hK K
    refine xn ?_
    refine ⟨j - 1+1,by omega,_,j - 1,(d.set j y).set (j - 1) x,rfl,by omega,zyf hq hx hy,hO.swap hj0 h_j hx hy h2,?_,zal⟩
    simp [Env.put,Env.of]; omega
   try simp only[RL]at h2
   have hO2:Ord d (i+1):=hO.stop hx hy h2
   refine W.exit ?_
   refine xe ?_
   refine xe ?_
   refine XBlock.hit ?_
   refine XbN ?_
   refine xn ?_
   refine W.k fun K hK=>?_
   simp(disch:=omega)only[↓RU,RV,RH,↓reduceIte,qE,reduceCtorEq,if_pos,w64,↓RS,RG,qA,qM,qL,zaa,gF,zc1]
   apply hK;clear hK K
   refine xn ?_
   refine ⟨l.length - (i+1),by omega,_,i+1,d,rfl,by omega,by omega,hq,hO2,?_,zal⟩
   simp [Env.put,Env.of]
 try simp only[RL]at h
 obtain rfl:l.length=i:=by omega
 refine W.exit ?_
 refine xe ?_
 refine xe ?_
 refine XBlock.hit ?_
 refine zew.norm rfl ?_
 exact ⟨_,rfl,c,hp,by rw [← hp.length_eq]at ho; exact ho.pair,zal⟩
theorem z9q  : PC Tryz.prog 180 [.int .u64 4] (.int .i64 3) true:=by
 refine PC.of ⟨Tryz.func180,by kernel_rfl,rfl,by kernel_rfl⟩ zam mixed (by show 1≤Tryz.f180.ntmps; decide) ?_
 refine W.r fun K hK=>?_
 simp(disch:=omega)only[↓RU,RV,RH,↓reduceIte,qE,reduceCtorEq,if_pos]
 apply hK;clear hK K
 refine W.seq ?_
 refine W.r fun K hK=>?_
 simp(disch:=omega)only[↓RU,RV,RH,↓reduceIte,qE,reduceCtorEq,if_pos,w64,zh0]
 apply hK;clear hK K
 refine W.cond rfl (fun h=>?_) (fun h=>?_)
 ·try simp only[RL]at h
  exact absurd h (by decide)
 try simp only[RL]at h
 refine W.skip ?_
 refine xn ?_
 refine W.seq ?_
 refine W.r fun K hK=>?_
 simp(disch:=omega)only[↓RU,RV,RH,↓reduceIte,qE,reduceCtorEq,if_pos,w64,zh0]
 apply hK;clear hK K
 refine W.cond rfl (fun h1=>?_) (fun h1=>?_)
 ·try simp only[RL]at h1
  exact absurd h1 (by decide)
 try simp only[RL]at h1
 refine W.skip ?_
 refine xn ?_
 refine W.seq ?_
 refine W.r fun K hK=>?_
 simp(disch:=omega)only[↓RU,RV,RH,↓reduceIte,qE,reduceCtorEq,if_pos,w64,zh0]
 apply hK;clear hK K
 refine W.cond rfl (fun h2=>?_) (fun h2=>?_)
 ·try simp only[RL]at h2
  exact absurd h2 (by decide)
 try simp only[RL]at h2
 refine W.skip ?_
 refine xn ?_
 refine W.r fun K hK=>?_
 simp(disch:=omega)only[↓RU,RV,RH,↓reduceIte,qE,reduceCtorEq,if_pos,w64,w64,zaa,zac,zh0,zei]
 apply hK;clear hK K
 refine W.ret ?_
 refine Br rfl ?_
 rfl
theorem yf4  : PC Tryz.prog 155 [.int .u64 4] (.int .i64 3) true:=by
 refine PC.of ⟨Tryz.func155,by kernel_rfl,rfl,by kernel_rfl⟩ zam mixed (by show 1≤Tryz.f155.ntmps; decide) ?_
 refine W.r fun K hK=>?_
 simp(disch:=omega)only[↓RU,RV,RH,↓reduceIte,qE,reduceCtorEq,if_pos]
 apply hK;clear hK K
 refine W.seq ?_
 refine W.cond rfl (fun h=>?_) (fun h=>?_)
 ·try simp only[RL]at h
  exact absurd h (by decide)
 try simp only[RL]at h
 refine W.skip ?_
 refine xn ?_
 refine W.r fun K hK=>?_
 simp(disch:=omega)only[↓RU,RV,RH,↓reduceIte,qE,reduceCtorEq,if_pos,qN]
 refine zad.pc (z9q) rfl (.inl rfl) ?_
 simp(disch:=omega)only[↓RU,RV,RH,↓reduceIte,qE,reduceCtorEq,if_pos,qN]
 apply hK;clear hK K
 refine W.ret ?_
 refine Br rfl ?_
 rfl
theorem yga {F R:List Ob} {ver t:Nat} {l:List Int} (hl:l.length≤12) (h1:1≤l.length) (lim:Int):Ev Tryz.prog 154 [.loc F.length ver 0 l.length,.int .i64 0,.int .i64 l.length,.int .i64 lim] ⟨F ++ .arr ver 3 1 (l.map (.int .i64))::R,t⟩ fun v S=>v = .tup []∧∃ z:List Int,z.Perm l∧z.Pairwise (· ≤ ·)∧S=⟨F ++ .arr ver 3 1 (z.map (.int .i64))::R,t⟩:=by
 refine Ev.of ⟨Tryz.func154,by kernel_rfl,rfl,by kernel_rfl⟩ zam mixed (by show 4≤Tryz.f154.ntmps; decide) ?_
 refine W.r fun K hK=>?_
 simp(disch:=omega)only[↓RU,RV,RH,↓reduceIte,qE,reduceCtorEq,if_pos,↓RS,RG,qA,qM,qL,gF,zc1]
 apply hK;clear hK K
 refine W.r fun K hK=>?_
 simp(disch:=omega)only[↓RU,RV,RH,↓reduceIte,qE,reduceCtorEq,if_pos,↓RS,RG,qA,qM,qL,gF,zc1]
 apply hK;clear hK K
 refine W.block ?_
 refine W.loop [0,1,2] (fun n vs S=>vs=[.loc F.length ver 0 l.length,.int .i64 0,.int .i64 l.length]∧S=⟨F ++ .arr ver 3 1 (l.map (.int .i64))::R,t⟩) 0 ?_ ?_
 ·refine ⟨_,?_,zal⟩
  simp [Env.put,Env.of,zaf]
 rintro n vs S - ⟨rfl,rfl⟩
 refine W.block ?_
 refine W.r fun K hK=>?_
 simp(disch:=omega)only[↓RU,RV,RH,↓reduceIte,qE,reduceCtorEq,if_pos,w64,↓RS,RG,qA,qM,qL,zaa,gF,zc1]
 apply hK;clear hK K
 refine W.seq ?_
 refine W.r fun K hK=>?_
 simp(disch:=omega)only[↓RU,RV,RH,↓reduceIte,qE,reduceCtorEq,if_pos,w64,↓RS,RG,qA,qM,qL,zaa,gF,zc1]
 apply hK;clear hK K
 refine W.cond rfl (fun h=>?_) (fun h=>?_)
 ·try simp only[RL]at h
  refine W.r fun K hK=>?_
  simp(disch:=omega)only[↓RU,RV,RH,↓reduceIte,qE,reduceCtorEq,if_pos,qN,↓RS,RG,qA,qM,qL,gF,zc1]
  refine zad.ev (z6d (by omega) h1) ?_
  rintro _ _ ⟨rfl,z,hz1,hz2,rfl⟩
  simp(disch:=omega)only[↓RU,RV,RH,↓reduceIte,qE,reduceCtorEq,if_pos,qN,↓RS,RG,qA,qM,qL,gF,zc1]
  apply hK;clear hK K
  refine W.ret ?_
  refine XThen.ret ?_
  refine XBlock.ret ?_
  refine XThen.ret ?_
  refine XBlock.ret ?_
  refine Br rfl ?_
  exact ⟨_,rfl,z,hz1,hz2,zal⟩
 try simp only[RL]at h
 exact absurd (show (l.length:Int)≤12 by omega) h
theorem yem {F R:List Ob} {ver t:Nat} {l:List Int} (hl:l.length=4):Ev Tryz.prog 124 [.loc F.length ver 0 l.length] ⟨F ++ .arr ver 3 1 (l.map (.int .i64))::R,t⟩ fun v S=>v = .tup []∧∃ z:List Int,z.Perm l∧z.Pairwise (· ≤ ·)∧S=⟨F ++ .arr ver 3 1 (z.map (.int .i64))::R,t⟩:=by
 have hw4:IntKind.u64.wrap ((l.length:Nat):Int)=4:=by rw [hl]; rfl
 refine Ev.of ⟨Tryz.func124,by kernel_rfl,rfl,by kernel_rfl⟩ zam mixed (by show 1≤Tryz.f124.ntmps; decide) ?_
 refine W.r fun K hK=>?_
 simp(disch:=omega)only[↓RU,RV,RH,↓reduceIte,qE,reduceCtorEq,if_pos,↓RS,RG,qA,qM,qL,zab,zaa,gF,zc1]
 apply hK;clear hK K
 refine W.k fun K hK=>?_
 simp(disch:=omega)only[↓RU,RV,RH,↓reduceIte,qE,reduceCtorEq,if_pos,w64,qN,↓RS,RG,qA,qM,qL,zaa,zc7,gF,zc1,hw4]
 refine zad.pc (yf4) rfl (.inl rfl) ?_
 simp(disch:=omega)only[↓RU,RV,RH,↓reduceIte,qE,reduceCtorEq,if_pos,w64,qN,↓RS,RG,qA,qM,qL,zaa,zc7,gF,zc1,hw4]
 refine zad.ev (yga (by omega) (by omega) 3) ?_
 rintro _ _ ⟨rfl,z,hz1,hz2,rfl⟩
 simp(disch:=omega)only[↓RU,RV,RH,↓reduceIte,qE,reduceCtorEq,if_pos,w64,qN,↓RS,RG,qA,qM,qL,zaa,zc7,gF,zc1,hw4]
 apply hK;clear hK K
 refine zew.norm rfl ?_
 exact ⟨_,rfl,z,hz1,hz2,zal⟩
def dn:List Int→Nat
 | []=>0
 | a::l=>(if a∈l then 0 else 1)+dn l
theorem yc8:∀ {m l:List Int},l.Nodup→(∀ x,x∈l↔x∈m)→l.length=dn m
 | [],l,_,h=>by
  cases l with
  | nil=>rfl
  | cons a l=>exact absurd ((h a).1 (by simp)) (by simp)
 | a::m,l,hn,h=>by
  unfold dn
  by_cases ha:a∈m
  ·rw [if_pos ha,yc8 (m:=m) hn fun x=>?_]; · omega
   rw [h x,List.mem_cons]
   constructor
   ·rintro (rfl | h)
    ·exact ha
    exact h
   exact .inr
  have hal:a∈l:=(h a).2 (by simp)
  have hl:=List.length_erase_of_mem hal
  have h0:=List.length_pos_of_mem hal
  rw [if_neg ha,← yc8 (m:=m) (l:=l.erase a) (hn.erase a) fun x=>?_]
  ·omega
  rw [hn.mem_erase_iff,h x,List.mem_cons]
  constructor
  ·rintro ⟨h1,h2 | h2⟩
   ·exact absurd h2 h1
   exact h2
  intro hx
  exact ⟨fun e=>ha (e ▸ hx),.inr hx⟩
theorem z06 {l:List Int} {x y:Int}:y∈ziq l x↔y∈l∨y=x:=by
 unfold ziq
 split
 ·rename_i h
  constructor
  ·exact .inl
  rintro (h' | rfl)
  ·exact h'
  exact List.mem_of_getLast? h
 simp
theorem zsd {z:List Int} (hz:z.Pairwise (· ≤ ·)):∀ p,p≤z.length→(ddp (z.take p)).Pairwise (· < ·)∧∀ x,x∈ddp (z.take p)↔x∈z.take p
 | 0,_=>by simp [ddp]
 | p+1,hp=>by
  obtain ⟨x,hx,-⟩:=zae (show p<z.length by omega)
  obtain ⟨h1,h2⟩:=zsd hz p (by omega)
  have hle:∀ a∈z.take p,a≤x:=by
   intro a ha
   obtain ⟨j,hj,rfl⟩:=List.mem_take_iff_getElem.1 ha
   obtain ⟨hp',rfl⟩:=List.getElem?_eq_some_iff.1 hx
   exact (List.pairwise_iff_getElem.1 hz) j p (by omega) hp' (by omega)
  rw [zoo hx]
  constructor
  ·unfold ziq
   split
   ·exact h1
   rename_i hl
   rw [List.pairwise_append]
   refine ⟨h1,by simp,?_⟩
   intro a ha b hb
   rw [List.mem_singleton]at hb
   subst hb
   have ha':=(h2 a).1 ha
   by_cases hp0:p=0
   ·subst hp0; simp at ha'
   obtain ⟨y,hy,-⟩:=zae (show p - 1<z.length by omega)
   have hlast:=zuc hy
   rw [show p - 1+1=p by omega]at hlast
   have hyb:y≠b:=fun e=>hl (e ▸ hlast)
   have hyl:y≤b:=hle y ((h2 y).1 (List.mem_of_getLast? hlast))
   have:a≤y:=by
    obtain ⟨j,hj,rfl⟩:=List.mem_take_iff_getElem.1 ha'
    obtain ⟨hp',rfl⟩:=List.getElem?_eq_some_iff.1 hy
    by_cases e:j=p - 1
    ·subst e; exact Int.le_refl _
    exact (List.pairwise_iff_getElem.1 hz) j (p - 1) (by omega) hp' (by omega)
   omega
  intro y
  rw [z06,h2 y,tk hx]
  simp
theorem yfu {l z:List Int} (hp:z.Perm l) (hz:z.Pairwise (· ≤ ·)):(ddp z).length=dn l:=by
 have h:=zsd hz z.length (qR _)
 rw [List.take_length]at h
 refine yc8 (h.1.imp fun h=>Int.ne_of_lt h) fun x=>?_
 rw [h.2 x]
 exact hp.mem_iff
def four (g:List (List Int)) (i k:Nat):List Int:=[gz g (i - 1) (k - 1),gz g (i - 1) k,gz g i (k - 1),gz g i k]
def zd8 (g:List (List Int)) (many:Int) (i:Nat):Nat→Int
 | 0=>0
 | k+1=>zd8 g many i k+if 1≤k∧((dn (four g i k):Nat):Int)=many then 1 else 0
def zvo (g:List (List Int)) (many:Int) (w:Nat):Nat→Int
 | 0=>0
 | i+1=>zvo g many w i+if 1≤i then zd8 g many i w else 0
theorem zib (g:List (List Int)) (many:Int) (i:Nat):∀ k,0≤zd8 g many i k∧zd8 g many i k≤k
 | 0=>by simp [zd8]
 | k+1=>by have:=zib g many i k; unfold zd8; split <;> omega
theorem ztb (g:List (List Int)) (many:Int) {w:Nat} (hw:w≤6):∀ i,0≤zvo g many w i∧zvo g many w i≤6*i
 | 0=>by simp [zvo]
 | i+1=>by have:=ztb g many hw i; have:=zib g many i w; unfold zvo; split <;> omega
theorem z97 {g:List (List Int)} {many:Int} {w:Nat}:zvo g many w 1=0:=by simp [zvo]
theorem zzm {g:List (List Int)} {many:Int} {i:Nat}:zd8 g many i 1=0:=by simp [zd8]
theorem z7f {g:List (List Int)} {many:Int} {w i:Nat} (h:1≤i):zvo g many w (i+1)=zvo g many w i+zd8 g many i w:=by simp [zvo,h]
theorem zzl {g:List (List Int)} {many:Int} {i k:Nat} (h:1≤k) (e:((dn (four g i k):Nat):Int)=many):zd8 g many i (k+1)=zd8 g many i k+1:=by simp [zd8,h,e]
theorem zxn {g:List (List Int)} {many:Int} {i k:Nat} (e:¬ ((dn (four g i k):Nat):Int)=many):zd8 g many i (k+1)=zd8 g many i k:=by simp [zd8,e]
theorem zyx {v t:Nat} {z:List Int} (hz:z.length=4):Ev Tryz.prog 125 [.loc 0 v 0 4] ⟨[.arr v 3 1 (z.map (.int .i64))],t⟩ fun r S=>∃ y:List Int,r = .loc 0 v 0 (ddp z).length∧S=⟨[.arr v 3 1 ((ddp z++y).map (.int .i64))],t⟩:=by
 have h:=zmu (F:=[]) (R:=[]) (ver:=v) (t:=t) (l:=z) (by omega)
 rw [hz]at h
 exact h
theorem z7d {g:List (List Int)} {nh nw:Nat} (hg:GW g nh nw) (rs:List Rect) (many:Int):PC Tryz.prog 82 [zbh g rs,.int .i64 many] (.int .i64 (zvo g many nw nh)) true:=by
 have hl:=hg.1
 obtain ⟨hg1,hg2,hg3,hg4⟩:=hg.2.2
 obtain ⟨row0,hrow0,hrl0,-⟩:=hg.at_ (i:=0) (j:=0) (by omega) (by omega)
 refine PC.of ⟨Tryz.func82,by kernel_rfl,rfl,by kernel_rfl⟩ zam mixed (by show 2≤Tryz.f82.ntmps; decide) ?_
 refine W.r fun K hK=>?_
 simp(disch:=omega)only[↓RU,RV,RH,↓reduceIte,qE,reduceCtorEq,if_pos,↓RS,RG,qA,qM,qL]
 apply hK;clear hK K
 refine W.r fun K hK=>?_
 simp(disch:=omega)only[↓RU,RV,RH,↓reduceIte,qE,reduceCtorEq,if_pos,↓RS,RG,qA,qM,qL]
 apply hK;clear hK K
 refine W.seq ?_
 refine W.r fun K hK=>?_
 simp(disch:=omega)only[↓RU,RV,RH,↓reduceIte,qE,reduceCtorEq,if_pos,↓RS,RG,qA,qM,qL]
 apply hK;clear hK K
 refine W.block ?_
 refine W.loop [0,1,5,6] (fun n vs S=>∃ i t:Nat,n=nh - i∧i≤nh∧(1≤i)∧vs=[zbh g rs,.int .i64 many,.int .i64 (zvo g many nw i),.int .i64 (i:Nat)]∧S=⟨[],t⟩) (nh - 1) ?_ ?_
 ·refine ⟨0,1,_,rfl,by omega,qR _,?_,rfl⟩
  simp [Env.put,Env.of,zaf,z97]
 rintro n vs S - ⟨i,t,rfl,h_i,h1i,rfl,rfl⟩
 refine W.seq ?_
 refine W.r fun K hK=>?_
 simp(disch:=omega)only[↓RU,RV,RH,↓reduceIte,qE,reduceCtorEq,if_pos,qN,w64,↓RS,RG,qA,qM,qL,zaa,hl]
 refine zad.pc (zpz g rs) rfl (.inl rfl) ?_
 simp(disch:=omega)only[↓RU,RV,RH,↓reduceIte,qE,reduceCtorEq,if_pos,qN,w64,↓RS,RG,qA,qM,qL,zaa,hl]
 apply hK;clear hK K
 refine W.cond rfl (fun h=>?_) (fun h=>?_)
 ·try simp only[RL]at h
  have hpb:=ztb g many hg4 i
  refine W.skip ?_
  refine xn ?_
  refine W.seq ?_
  refine W.block ?_
  refine W.r fun K hK=>?_
  simp(disch:=omega)only[↓RU,RV,RH,↓reduceIte,qE,reduceCtorEq,if_pos,↓RS,RG,qA,qM,qL]
  apply hK;clear hK K
  refine W.block ?_
  refine W.loop [0,1,5,6,7] (fun n vs S=>∃ k t:Nat,n=nw - k∧k≤nw∧(1≤k)∧vs=[zbh g rs,.int .i64 many,.int .i64 (zvo g many nw i+zd8 g many i k),.int .i64 (i:Nat),.int .i64 (k:Nat)]∧S=⟨[],t⟩) (nw - 1) ?_ ?_
  ·refine ⟨0,1,_,rfl,by omega,qR _,?_,rfl⟩
   simp [Env.put,Env.of,zzm]
  rintro n vs S - ⟨k,t,rfl,h_k,h1k,rfl,rfl⟩
  refine W.seq ?_
  refine W.r fun K hK=>?_
  simp(disch:=omega)only[↓RU,RV,RH,↓reduceIte,qE,reduceCtorEq,if_pos,qN,w64,↓RS,RG,qA,qM,qL,zaa,hrl0]
  refine zad.pc (zz2 hrow0 rs) rfl (.inl rfl) ?_
  simp(disch:=omega)only[↓RU,RV,RH,↓reduceIte,qE,reduceCtorEq,if_pos,qN,w64,↓RS,RG,qA,qM,qL,zaa,hrl0]
  apply hK;clear hK K
  refine W.cond rfl (fun h1=>?_) (fun h1=>?_)
  ·try simp only[RL]at h1
   have hrb:=zib g many i k
   obtain ⟨r1,hr1,hl1,hx1⟩:=hg.at_ (i:=i - 1) (j:=k - 1) (by omega) (by omega)
   obtain ⟨r1b,hr1b,-,hx2⟩:=hg.at_ (i:=i - 1) (j:=k) (by omega) (by omega)
   obtain ⟨r2,hr2,hl2,hx3⟩:=hg.at_ (i:=i) (j:=k - 1) (by omega) (by omega)
   obtain ⟨r2b,hr2b,-,hx4⟩:=hg.at_ (i:=i) (j:=k) (by omega) (by omega)
   obtain rfl:r1=r1b:=by rw [hr1]at hr1b; exact Option.some.inj hr1b
   obtain rfl:r2=r2b:=by rw [hr2]at hr2b; exact Option.some.inj hr2b
   refine W.skip ?_
   refine xn ?_
   refine W.seq ?_
   refine W.block ?_
   refine W.seq_draw (by kernel_rfl) fun K hK=>?_
   simp(disch:=omega)only[↓RU,RV,RH,↓reduceIte,qE,reduceCtorEq,if_pos,w64,↓RS,RG,qA,qM,qL,ty1,ty4,zab,zdg,zbl,zcn,zaa,zdh,zco,hr1,hx1,hx2,hr2,hx3,hx4,za1]
   apply hK;clear hK K
   refine W.r fun K hK=>?_
   simp(disch:=omega)only[↓RU,RV,RH,↓reduceIte,qE,reduceCtorEq,if_pos,qN,↓RS,RG,qA,qM,qL]
   refine zad.ev (yem (F:=[]) (R:=[]) (l:=four g i k) rfl) ?_
   rintro _ _ ⟨rfl,z,hz1,hz2,rfl⟩
   simp(disch:=omega)only[↓RU,RV,RH,↓reduceIte,qE,reduceCtorEq,if_pos,qN,↓RS,RG,qA,qM,qL]
   apply hK;clear hK K
   have hz4:z.length=4:=hz1.length_eq
   have hdn:=yfu hz1 hz2
   refine W.r fun K hK=>?_
   simp(disch:=omega)only[↓RU,RV,RH,↓reduceIte,qE,reduceCtorEq,if_pos,qN,w64,↓RS,RG,qA,qM,qL,zab,zaa,hdn]
   refine zad.ev (zyx hz4) ?_
   rintro _ _ ⟨y,rfl,rfl⟩
   simp(disch:=omega)only[↓RU,RV,RH,↓reduceIte,qE,reduceCtorEq,if_pos,qN,w64,↓RS,RG,qA,qM,qL,zab,zaa,hdn]
   apply hK;clear hK K
   refine W.cond rfl (fun h2=>?_) (fun h2=>?_)
   ·try simp only[RL]at h2
    refine W.k fun K hK=>?_
    simp(disch:=omega)only[↓RU,RV,RH,↓reduceIte,qE,reduceCtorEq,if_pos,w64,↓RS,RG,qA,qM,qL,zaa]
    apply hK;clear hK K
    refine XbN ?_
    refine xn ?_
    refine W.k fun K hK=>?_
    simp(disch:=omega)only[↓RU,RV,RH,↓reduceIte,qE,reduceCtorEq,if_pos,w64,↓RS,RG,qA,qM,qL,zaa]
    apply hK;clear hK K
    refine xn ?_
    refine ⟨nw - (k+1),by omega,0,k+1,_,rfl,by omega,by omega,?_,rfl⟩
    simp [Env.put,Env.of,zzl h1k h2,Int.add_assoc]
   try simp only[RL]at h2
   refine W.skip ?_
   refine XbN ?_
   refine xn ?_
   refine W.k fun K hK=>?_
   simp(disch:=omega)only[↓RU,RV,RH,↓reduceIte,qE,reduceCtorEq,if_pos,w64,↓RS,RG,qA,qM,qL,zaa]
   apply hK;clear hK K
   refine xn ?_
   refine ⟨nw - (k+1),by omega,0,k+1,_,rfl,by omega,by omega,?_,rfl⟩
   simp [Env.put,Env.of,zxn h2,Int.add_assoc]
  try simp only[RL]at h1
  obtain rfl:nw=k:=by omega
  refine W.exit ?_
  refine xe ?_
  refine xe ?_
  refine XBlock.hit ?_
  refine XbN ?_
  refine xn ?_
  refine W.k fun K hK=>?_
  simp(disch:=omega)only[↓RU,RV,RH,↓reduceIte,qE,reduceCtorEq,if_pos,w64,↓RS,RG,qA,qM,qL,zaa]
  apply hK;clear hK K
  refine xn ?_
  refine ⟨nh - (i+1),by omega,0,i+1,_,rfl,by omega,by omega,?_,rfl⟩
  simp [Env.put,Env.of,z7f h1i]
 try simp only[RL]at h
 obtain rfl:nh=i:=by omega
 refine W.exit ?_
 refine xe ?_
 refine xe ?_
 refine XBlock.hit ?_
 refine xn ?_
 refine W.r fun K hK=>?_
 simp(disch:=omega)only[↓RU,RV,RH,↓reduceIte,qE,reduceCtorEq,if_pos,↓RS,RG,qA,qM,qL]
 apply hK;clear hK K
 refine W.ret ?_
 refine Br rfl ?_
 rfl
theorem zgm {g:List (List Int)} {nh nw:Nat} (hg:GW g nh nw) (rs:List Rect):PC Tryz.prog 53 [zbh g rs] (.bool (decide (zvo g 4 nw nh=0))) true:=by
 refine PC.of ⟨Tryz.func53,by kernel_rfl,rfl,by kernel_rfl⟩ zam mixed (by show 1≤Tryz.f53.ntmps; decide) ?_
 refine W.r fun K hK=>?_
 simp(disch:=omega)only[↓RU,RV,RH,↓reduceIte,qE,reduceCtorEq,if_pos]
 apply hK;clear hK K
 refine W.r fun K hK=>?_
 simp(disch:=omega)only[↓RU,RV,RH,↓reduceIte,qE,reduceCtorEq,if_pos,qN,w64,zaa]
 refine zad.pc (z7d hg rs 4) rfl (.inl rfl) ?_
 simp(disch:=omega)only[↓RU,RV,RH,↓reduceIte,qE,reduceCtorEq,if_pos,qN,w64,zaa]
 apply hK;clear hK K
 refine W.ret ?_
 refine Br rfl ?_
 rfl
def z4r (z:Int):UInt8:=UInt8.ofNat (97+z.toNat)
def zoi (row:List Int):Txt:=row.map z4r
def zfh (g:List (List Int)):List Txt:=g.map zoi
theorem ycl {z:Int} (h:0≤z):IntKind.u8.wrap (97+z)=((z4r z).toNat:Int):=by
 obtain ⟨n,rfl⟩:=Int.eq_ofNat_of_zero_le h
 exact yew
def stB (o:List Txt) (vo vb:Nat) (l:Txt) (vq t:Nat):Store :=
 match l with
 | []=>⟨[.arr vo 9 1 (o.map .str),.arr vb 122 2 [.nilp,.nils]],t⟩
 | l=>⟨[.arr vo 9 1 (o.map .str),.arr vb 122 2 [.ref 1 vb 0,.loc 2 vq 0 l.length],.arr vq 5 1 (l.map eB)],t⟩
theorem ygk {o:List Txt} {vo vb:Nat} {l:Txt} {vq t:Nat} (h:l≠[]):stB o vo vb l vq t=⟨[.arr vo 9 1 (o.map .str),.arr vb 122 2 [.ref 1 vb 0,.loc 2 vq 0 l.length],.arr vq 5 1 (l.map eB)],t⟩:=by
 cases l with
 | nil=>exact absurd rfl h
 | cons a l=>rfl
theorem yee {S:Store} {k f:Nat} {sel:List Nat} (o:List Txt):(o.map PV.str).mapM (rn S k sel (f+1))=some (o.map PV.str):=zu4 (by simp [scal])
theorem z3y {S:Store} {im:Bool} {f:Nat} (o:List Txt):(o.map PV.str).mapM (reify S im (f+1))=some (o.map PV.str):=znd (by simp [scal])
theorem zu7 (row:List Int):(zoi row).length=row.length:=by simp [zoi]
theorem z7w {row:List Int} (h:1≤row.length):zoi row≠[]:=by
 intro e
 have:=zu7 row
 rw [e]at this
 simp at this; omega
theorem zx4 {row:List Int} {k:Nat} {z:Int} (h:row[k]?=some z):zoi (row.take (k+1))=zoi (row.take k)++[z4r z]:=by simp [zoi,tk h]
theorem zyh {g:List (List Int)} {o:List Txt} (hl:o.length=g.length) (h:∀ j,j<g.length→o[j]?=(zfh g)[j]?):o=zfh g:=by
 refine List.ext_getElem? fun j=>?_
 by_cases hj:j<g.length
 ·exact h j hj
 rw [List.getElem?_eq_none (by omega),List.getElem?_eq_none (by simp [zfh]; omega)]
theorem zjy {g:List (List Int)} {j:Nat} {row:List Int} (h:g[j]?=some row):(zfh g)[j]?=some (zoi row):=by simp [zfh,h]
section
open Go Go.RowKit
set_option maxHeartbeats 1000000 in
set_option maxRecDepth 100000 in
theorem zrv (b:Nat) (w:World) (h0:w.cell? ⟨b,0,none⟩=some (.pointer (some ⟨b,0,none⟩))) :
  Calls Tryz.prog 147 #[.pointer (some ⟨b,0,none⟩)] w fun e w'=>e = .returned (.tuple #[])∧w'=w:=by
 obtain ⟨j,d,z,hj,_⟩:=(zam 122 (by decide)).1
 go_enter Tryz.func147,Tryz.ntmps147
 go_wp2
 rw [Lib.run_neq_ptr_same w _ Tryz.underlying120 hj]
 go_wp2
 go_end0
 exact ⟨rfl,rfl⟩
theorem yhk (count:Nat) (hn:1≤count):liesAt Tryz.prog Tryz.prog.depth 122 count 0 122 1=true:=by
 have hc:Tryz.prog.cellsOf 122=2:=by kernel_rfl
 have hd:Tryz.prog.depth=(2*(Tryz.prog.types.size+Made.depth)+1)+1:=rfl
 rw [hd]
 simp only[liesAt,Bool.or_eq_true]
 left
 rw [hd]
 simp [rowAt,hc,hn,sameLayout]
set_option maxHeartbeats 1000000 in
set_option maxRecDepth 100000 in
theorem zpl (b n:Nat) (hn:2≤n) (w:World) (h0:w.cell? ⟨b,0,none⟩=some (.pointer none)) (hsh:w.shape? b=some (122,n)) (hfz:w.frozen? ⟨b,0,none⟩=false) :
  Calls Tryz.prog 147 #[.pointer (some ⟨b,0,none⟩)] w fun e w'=>e = .returned (.tuple #[])∧w'=w.setCell ⟨b,0,none⟩ (.pointer (some ⟨b,0,none⟩)):=by
 obtain ⟨j,d,z,hj,hd,hf,hsz,hby,hz,_⟩:=(zam 122 (by decide)).1
 have hjs:j.size≠0:=by rw [hsz]; decide
 have hlies:liesAt Tryz.prog Tryz.prog.depth 122 (n / Tryz.prog.cellsOf 122) 0 122 1=true:=by
  rw [show Tryz.prog.cellsOf 122=2 by kernel_rfl]
  exact yhk _ (by omega)
 go_enter Tryz.func147,Tryz.ntmps147
 go_wp2
 rw [Lib.run_to_unsafe w ⟨b,0,none⟩ Tryz.underlying120 Tryz.underlying169 hj hjs hsh (show 0<n by omega)]
 simp only[Result.andThen]
 rw [Oper.upon_value]
 go_wp2
 rw [run_callFunc_extern Tryz.func169 (by kernel_rfl) (by kernel_rfl) (by kernel_rfl) (e:=Extern.AbiNoEscape.same) (by kernel_rfl)]
 rw [Lib.run_noEscape]
 simp only[Result.andThen]
 rw [Oper.upon_value]
 go_wp2
 rw [Lib.run_from_unsafe w ⟨b,0,none⟩ Tryz.underlying169 Tryz.underlying120 hj hsh hlies]
 simp only[Result.andThen]
 rw [Oper.upon_value]
 go_wp2
 go_end0
 exact ⟨rfl,rfl⟩
set_option maxHeartbeats 1000000 in
set_option maxRecDepth 100000 in
theorem zua (b g cap:Nat) (cur:Array Value) (fz:Nat × Nat) (l:List UInt8) (w:World) (hbk:w.cell? ⟨b,1,none⟩=some (.slice (some ⟨g,0,none⟩) l.length cap))
  (hg:w.heap[g]?=some (.cells cur 5 fz)) (hc:l.length≤cur.size) (hcap:cap≠0) (h63:l.length≤9223372036854775807) (h0:l≠[])
  (hl:∀ (j:Nat) x,l[j]?=some x→cur[j]?=some (.int .u8 x.toNat)) :
  Calls Tryz.prog 115 #[.pointer (some ⟨b,0,none⟩)] w fun e w'=>e = .returned (.string ⟨l.toArray⟩)∧w'=w.drew.freeze ⟨g,0,none⟩ l.length:=by
 have c1:w.drew.cell? ⟨b,1,none⟩=some (.slice (some ⟨g,0,none⟩) l.length cap):=hbk
 have hSD:(Builtin.unsafeSliceData_ #[29] 152 #[.slice (some ⟨g,0,none⟩) l.length cap]).run Tryz.prog w.drew = .ok (.pointer (some ⟨g,0,none⟩)) w.drew :=
  Lib.run_unsafeSliceData_row _ _ _ _ _ _ hcap
 have hUS:(Builtin.unsafeString_ #[152,3] 9 #[.pointer (some ⟨g,0,none⟩),.int .i64 l.length]).run Tryz.prog w.drew = .ok (.string ⟨l.toArray⟩) (w.drew.freeze ⟨g,0,none⟩ l.length):=by
  have hg':w.drew.heap[g]?=some (.cells cur 5 fz):=hg
  refine Lib.run_unsafeString_row w.drew 152 3 9 5 Tryz.underlying152 (by kernel_rfl) g cur.size (by simp [World.shape?,hg']) l h0 hc h63 ?_
  intro j x hx
  by_cases hj:j=0
  ·subst hj; simp [World.cell?,Addr.add,hg',hl 0 x hx]
  simp [World.cell?,Addr.add,hj,hg',hl j x hx]
 go_enter Tryz.func115,Tryz.ntmps115
 go_wp2
 go_region
 all_goals (go_wp2; go_ret; exact ⟨rfl,rfl⟩)
variable {F:Nat→Prop} {G:GSt} {w:World}
theorem znq {S:Store} {o ver:Nat} {c0 c1:PV} (hS:S.obs[o]?=some (.arr ver 122 2 [c0,c1])) (h0:c0 = .nilp∨c0 = .ref o ver 0) :
  Ev Tryz.prog 147 [.ref o ver 0] S fun v S'=>v = .tup []∧S'=⟨S.obs.set o (.arr ver 122 2 [.ref o ver 0,c1]),S.tick⟩:=by
 refine ⟨Fn.ent ⟨Tryz.func147,by kernel_rfl,rfl,by kernel_rfl⟩,fun F G w cargs hE hi hl hv=>?_⟩
 subst hE
 obtain ⟨c,rfl⟩:∃ c,cargs = #[c]:=by
  match cargs,hl with
  | ⟨[c]⟩,_=>exact ⟨c,rfl⟩
 have hco:G.er.cellsOf o ver=some [c0,c1]:=by simp [Store.cellsOf,hS]
 obtain ⟨et,sz,l,hG,rfl,hver⟩:=(hv 0 _ c rfl rfl).ref_at hi hco
 obtain ⟨l2,hG2⟩:=zey hS
 rw [hG]at hG2
 cases hG2
 obtain ⟨cs,⟨fz,hb,hz⟩,hcs,hle,hcell⟩:=hi.arr o _ _ _ _ l hG
 obtain ⟨-,v0,hv0,hr0⟩:=hcell 0 c0 rfl
 obtain ⟨hc1,v1,hv1,hr1⟩:=hcell 1 c1 rfl
 have hle2:2≤cs.size:=by simp only[List.length_cons,List.length_nil]at hle; omega
 have hself:∀ (G':GSt),G.tick≤G'.tick→(∀ ob l',G'.obs[o]?=some (ob,l')→ob.ver=ver→∃ et sz cells,ob = .arr ver et sz cells∧l'=l)→VR w.heap F G' (.ref o ver 0) (.pointer (some ⟨l.blk,0,none⟩)):=by
  intro G' ht h
  refine .ref _ _ _ _ (Nat.lt_of_lt_of_le hver ht) fun ob l' h1 h2=>?_
  obtain ⟨a,b,c,d,rfl⟩:=h ob l' h1 h2
  exact ⟨a,b,c,d,rfl⟩
 have hcell0:w.cell? ⟨l.blk,0,none⟩=some v0:=by simp [World.cell?,hb,hv0]
 have put:∀ w':World,w'.os=w.os→w'.tape=w.tape→w'.output=w.output→w.drawn≤w'.drawn→w'.heap.size=w.heap.size→(∀ b,b≠l.blk→w'.heap[b]?=w.heap[b]?) →
   (∃ cs':Array Value,w'.heap[l.blk]?=some (.cells cs' 122 fz)∧cs'.size=cs.size∧cs'[0]?=some (.pointer (some ⟨l.blk,0,none⟩))∧cs'[1]?=some v1) →
   Inv F ⟨G.obs.set o (.arr ver 122 2 [.ref o ver 0,c1],l),G.tick⟩ w'∧Next F G w F ⟨G.obs.set o (.arr ver 122 2 [.ref o ver 0,c1],l),G.tick⟩ w':=by
  rintro w' h1 h2 h3 hd h4 h5 ⟨cs',k1,k2,k3,k4⟩
  refine zhd hi hG _ l G.tick w' h1 h2 h3 hd (by omega) (.inl rfl) (fun b _ hb=>h5 b hb) (qR _) (show ver<G.tick from hver) (.inl ⟨rfl,by simp [Ob.like],rfl⟩) ?_
  refine ⟨cs',⟨fz,k1,hz.of k2⟩,by omega,by simp; omega,?_⟩
  rintro (_ | _ | i) p hp
  ·simp at hp; subst hp
   exact ⟨rfl,_,k3,hself G (qR _) fun ob l' h1 h2=>by rw [hG]at h1; cases h1; exact ⟨_,_,_,rfl,rfl⟩⟩
  ·simp at hp; subst hp
   exact ⟨hc1,v1,k4,hr1⟩
  simp at hp
 have er:∀ ob,(⟨G.obs.set o (ob,l),G.tick⟩:GSt).er=⟨G.er.obs.set o ob,G.er.tick⟩:=by intro ob; simp [GSt.er,List.map_set]
 rcases h0 with rfl | rfl
 ·have hv0':v0 = .pointer none:=by cases hr0 with | imm _ _ h=>cases h; rfl
  subst hv0'
  refine (zpl l.blk cs.size hle2 w hcell0 (by simp [World.shape?,hb]) (by obtain ⟨lo,hi'⟩:=fz; simp only[World.frozen?,hb,Bool.and_eq_false_iff,decide_eq_false_iff_not]; rcases hz with h | h <;> simp only at h <;> omega)).mono ?_
  rintro e w' ⟨rfl,rfl⟩
  obtain ⟨i1,n1⟩:=put (w.setCell ⟨l.blk,0,none⟩ (.pointer (some ⟨l.blk,0,none⟩))) rfl rfl rfl (qR _) (by simp) (fun b hb=>by simp [World.setCell,Array.getElem?_modify,Ne.symm hb])
   ⟨cs.setIfInBounds 0 (.pointer (some ⟨l.blk,0,none⟩)),by simp [World.setCell,Array.getElem?_modify,hb],by simp,by rw [Array.getElem?_setIfInBounds,if_pos rfl,if_pos (by omega)],by simp [Array.getElem?_setIfInBounds,hv1]⟩
  exact ⟨_,_,F,_,rfl,⟨rfl,er _⟩,i1,n1,.tup [] #[] rfl (by simp)⟩
 have hv0':v0 = .pointer (some ⟨l.blk,0,none⟩):=by
  obtain ⟨_,_,l3,h1,h2,_⟩:=hr0.ref_at hi hco
  rw [hG]at h1; cases h1; exact h2
 subst hv0'
 refine (zrv l.blk w hcell0).mono ?_
 rintro e w' ⟨rfl,rfl⟩
 obtain ⟨i1,n1⟩:=put w' rfl rfl rfl (qR _) rfl (fun _ _=>rfl) ⟨cs,hb,rfl,hv0,hv1⟩
 exact ⟨_,_,F,_,rfl,⟨rfl,er _⟩,i1,n1,.tup [] #[] rfl (by simp)⟩
theorem zof {A:List Ob} {t ver vq:Nat} {c0:PV} {l:Txt} (h0:l≠[]) :
  Ev Tryz.prog 115 [.ref A.length ver 0] ⟨A++[.arr ver 122 2 [c0,.loc (A.length+1) vq 0 l.length],.arr vq 5 1 (l.map eB)],t⟩ fun v S'=>v = .str l∧S'=⟨A,t⟩:=by
 refine ⟨Fn.ent ⟨Tryz.func115,by kernel_rfl,rfl,by kernel_rfl⟩,fun F G w cargs hE hi hl hv=>?_⟩
 obtain ⟨c,rfl⟩:∃ c,cargs = #[c]:=by
  match cargs,hl with
  | ⟨[c]⟩,_=>exact ⟨c,rfl⟩
 have hobs:G.er.obs=A++[.arr ver 122 2 [c0,.loc (A.length+1) vq 0 l.length],.arr vq 5 1 (l.map eB)]:=by rw [hE]
 have htk:G.tick=t:=congrArg Store.tick hE
 have hSo:G.er.obs[A.length]?=some (.arr ver 122 2 [c0,.loc (A.length+1) vq 0 l.length]):=by rw [hobs]; simp
 have hSq:G.er.obs[A.length+1]?=some (.arr vq 5 1 (l.map eB)):=by rw [hobs]; simp
 obtain ⟨et,sz,lo,hGo,rfl,hver⟩:=(hv 0 _ c rfl rfl).ref_at hi (cells:=[c0,.loc (A.length+1) vq 0 l.length]) (by simp [Store.cellsOf,hSo])
 obtain ⟨lo2,hGo2⟩:=zey hSo
 rw [hGo]at hGo2
 cases hGo2
 obtain ⟨lq,hGq⟩:=zey hSq
 obtain ⟨cs,⟨fo,hb,-⟩,hcs,hle,hcell⟩:=hi.arr _ _ _ _ _ lo hGo
 obtain ⟨cq,⟨fq,hbq,-⟩,hcq,hleq,hcellq⟩:=hi.arr _ _ _ _ _ lq hGq
 obtain ⟨-,v0,hv0,hr0⟩:=hcell 0 c0 rfl
 obtain ⟨-,v1,hv1,hr1⟩:=hcell 1 _ rfl
 obtain ⟨_,_,lq2,cap,hGq2,rfl,_,hnc,hcm,hroom⟩:=hr1.loc_at hi (cells:=l.map eB) (by simp [Store.cellsOf,hSq])
 rw [hGq]at hGq2
 cases hGq2
 have hl0:l.length≠0:=by simpa using h0
 have hc1:w.cell? ⟨lo.blk,1,none⟩=some (.slice (some ⟨lq.blk,0,none⟩) l.length cap):=by simp [World.cell?,hb,hv1]
 refine (zua lo.blk lq.blk cap cq fq l w hc1 hbq (by simp at hleq; omega) (by omega) (by unfold maxLen at hcm; omega) h0 ?_).mono ?_
 ·intro j x hx
  obtain ⟨-,v,k1,k2⟩:=hcellq j (eB x) (by simp [hx])
  rw [k1,k2.int]
 ·rintro e w' ⟨rfl,rfl⟩
  have hoth:∀ b,b≠lq.blk→(w.drew.freeze ⟨lq.blk,0,none⟩ l.length).heap[b]?=w.heap[b]?:=by
   intro b hb'
   show _=w.drew.heap[b]?
   simp only[World.freeze,if_neg hl0,Array.getElem?_modify,Ne.symm hb',if_false]
  have hsz:(w.drew.freeze ⟨lq.blk,0,none⟩ l.length).heap.size=w.heap.size:=by
   show (w.drew.freeze ⟨lq.blk,0,none⟩ l.length).heap.size=w.drew.heap.size
   simp only[World.freeze,if_neg hl0,Array.size_modify]
  have hos:∀ w2:World,(w2.freeze ⟨lq.blk,0,none⟩ l.length).os=w2.os∧(w2.freeze ⟨lq.blk,0,none⟩ l.length).tape=w2.tape∧(w2.freeze ⟨lq.blk,0,none⟩ l.length).output=w2.output:=by
   intro w2; simp [World.freeze,hl0]
  have nx:Next F G w F (G.take A.length) (w.drew.freeze ⟨lq.blk,0,none⟩ l.length) :=
   ⟨(hos _).1,(hos _).2.1,(hos _).2.2,by omega,fun _ h=>h,fun _ h => .inl h,fun o x h => .inr ⟨o,x,zcj h,rfl⟩,qR _,
    fun b _ hG=>hoth b fun e=>hG _ _ hGq e.symm,fun _ ob' _ h _=>⟨ob',zcj h,rfl,Ob.like.refl _⟩,by simp [World.freeze,hl0]⟩
  have tlt:∀ (o:Nat) x,(G.take A.length).obs[o]?=some x→o<A.length:=by
   intro o x hx
   have:=(List.getElem?_eq_some_iff.1 hx).1
   simp only[GSt.take,List.length_take]at this; omega
  refine ⟨.str l,_,F,G.take A.length,rfl,⟨rfl,?_⟩,zik (fun b hb=>by rw [hsz]; exact hi.fr b hb) (fun o ob l' h=>hi.ver o ob l' (zcj h)) (fun o ob l' h=>hi.nF o ob l' (zcj h))
   (fun o ob l' h=>(hi.holds (zcj h)).next hi nx (hoth _ fun e=>?_)) (fun o o' x x' h h'=>hi.inj o o' x x' (zcj h) (zcj h')),nx,.imm _ _ (.str _ _ rfl)⟩
  ·rw [zjg,hE]; simp [Store.take]
  have:=hi.inj o _ _ _ (zcj h) hGq e
  have:=tlt o _ h
  omega
end
theorem zvk {o:List Txt} {vo vb t:Nat} (x:UInt8):Ev Tryz.prog 114 [.ref 1 vb 0,eB x] ⟨[.arr vo 9 1 (o.map .str),.arr vb 122 2 [.nilp,.nils]],t⟩ fun v S=>v = .undef∧∃ vq t2:Nat,S=⟨[.arr vo 9 1 (o.map .str),.arr vb 122 2 [.ref 1 vb 0,.loc 2 vq 0 ([x]).length],.arr vq 5 1 (([x]).map eB)],t2⟩:=by
 refine Ev.of ⟨Tryz.func114,by kernel_rfl,rfl,by kernel_rfl⟩ zam mixed (by show 2≤Tryz.f114.ntmps; decide) ?_
 refine W.r fun K hK=>?_
 simp(disch:=omega)only[↓RU,RV,RH,↓reduceIte,qE,reduceCtorEq,if_pos,↓RS,RG,qA,qM,qL]
 apply hK;clear hK K
 refine W.r fun K hK=>?_
 simp(disch:=omega)only[↓RU,RV,RH,↓reduceIte,qE,reduceCtorEq,if_pos,qN,↓RS,RG,qA,qM,qL,List.set_cons_succ,List.set_cons_zero]
 refine zad.ev (znq (S:=⟨[.arr vo 9 1 (o.map .str),.arr vb 122 2 [.nilp,.nils]],t⟩) (o:=1) rfl (.inl rfl)) ?_
 rintro _ _ ⟨rfl,rfl⟩
 simp(disch:=omega)only[↓RU,RV,RH,↓reduceIte,qE,reduceCtorEq,if_pos,qN,↓RS,RG,qA,qM,qL,List.set_cons_succ,List.set_cons_zero]
 apply hK;clear hK K
 refine W.joinS [] (fun vs S=>vs=[]∧∃ vq t2:Nat,S=⟨[.arr vo 9 1 (o.map .str),.arr vb 122 2 [.ref 1 vb 0,.loc 2 vq 0 ([x]).length],.arr vq 5 1 (([x]).map eB)],t2⟩) ?_ ?_
 ·
  refine W.k fun K hK=>?_
  simp(disch:=omega)only[↓RU,RV,RH,↓reduceIte,qE,reduceCtorEq,if_pos,↓RS,RG,qA,qM,qL,ty7,ty9,ygy,ygz,zei]
  apply hK;clear hK K
  refine xn ?_
  refine ⟨2,[3],[],⟨[.arr vo 9 1 (o.map .str),.arr vb 122 2 [.ref 1 vb 0,.loc 2 (t+2) 0 ([x]).length],.arr (t+2) 5 1 (([x]).map eB)],(t+3)⟩,?_,?_,rfl,t+2,t+3,rfl⟩
  ·simp [-qU,Env.put,Env.of,zaf,zb0,zak,zao,zat,zav,zb8,zb9,zd3,zb7,zbe,zca,zd2,zd4,zbg,zbf,zaw,zb6,zcb,zd1,zbc,zbb,zau,zbd,zb4,zf1,qS,qP,qC]
  simp [-qU,Env.put,Env.of,zaf,zb0,zak,zao,zat,zav,zb8,zb9,zd3,zb7,zbe,zca,zd2,zd4,zbg,zbf,zaw,zb6,zcb,zd1,zbc,zbb,zau,zbd,zb4,zf1,qS,qP,qC,yee]
 rintro vs S - ⟨rfl,vq,t2,rfl⟩
 refine W.r fun K hK=>?_
 simp(disch:=omega)only[↓RU,RV,RH,↓reduceIte,qE,reduceCtorEq,if_pos,↓RS,RG,qA,qM,qL]
 apply hK;clear hK K
 refine W.ret ?_
 refine Br rfl ?_
 exact ⟨_,rfl,vq,t2,zal⟩
theorem zvl {o:List Txt} {vo vb vq t:Nat} {l:Txt} (hl:l.length<2147483647) (x:UInt8):Ev Tryz.prog 114 [.ref 1 vb 0,eB x] ⟨[.arr vo 9 1 (o.map .str),.arr vb 122 2 [.ref 1 vb 0,.loc 2 vq 0 (l).length],.arr vq 5 1 ((l).map eB)],t⟩ fun v S=>v = .undef∧∃ vq t2:Nat,S=⟨[.arr vo 9 1 (o.map .str),.arr vb 122 2 [.ref 1 vb 0,.loc 2 vq 0 (l++[x]).length],.arr vq 5 1 ((l++[x]).map eB)],t2⟩:=by
 refine Ev.of ⟨Tryz.func114,by kernel_rfl,rfl,by kernel_rfl⟩ zam mixed (by show 2≤Tryz.f114.ntmps; decide) ?_
 refine W.r fun K hK=>?_
 simp(disch:=omega)only[↓RU,RV,RH,↓reduceIte,qE,reduceCtorEq,if_pos,↓RS,RG,qA,qM,qL]
 apply hK;clear hK K
 refine W.r fun K hK=>?_
 simp(disch:=omega)only[↓RU,RV,RH,↓reduceIte,qE,reduceCtorEq,if_pos,qN,↓RS,RG,qA,qM,qL,List.set_cons_succ,List.set_cons_zero]
 refine zad.ev (znq (S:=⟨[.arr vo 9 1 (o.map .str),.arr vb 122 2 [.ref 1 vb 0,.loc 2 vq 0 (l).length],.arr vq 5 1 ((l).map eB)],t⟩) (o:=1) rfl (.inr rfl)) ?_
 rintro _ _ ⟨rfl,rfl⟩
 simp(disch:=omega)only[↓RU,RV,RH,↓reduceIte,qE,reduceCtorEq,if_pos,qN,↓RS,RG,qA,qM,qL,List.set_cons_succ,List.set_cons_zero]
 apply hK;clear hK K
 refine W.r fun K hK=>?_
 simp(disch:=omega)only[↓RU,RV,RH,↓reduceIte,qE,reduceCtorEq,if_pos,↓RS,RG,qA,qM,qL,ty7,ty9,ygy,ygz,zei]
 apply hK;clear hK K
 refine W.r fun K hK=>?_
 simp(disch:=omega)only[↓RU,RV,RH,↓reduceIte,qE,reduceCtorEq,if_pos,↓RS,RG,qA,qM,qL]
 apply hK;clear hK K
 refine W.ret ?_
 refine Br rfl ?_
 exact ⟨3,rfl,t+1,t+2,by simp [zap]⟩
theorem zod {o:List Txt} {vo vb vq t:Nat} {l:Txt} (hl:l.length<2147483647) (x:UInt8):Ev Tryz.prog 114 [.ref 1 vb 0,eB x] (stB o vo vb l vq t) fun v S=>v = .undef∧∃ vq2 t2:Nat,S=stB o vo vb (l++[x]) vq2 t2:=by
 cases l with
 | nil=>exact zvk x
 | cons a l=>exact zvl hl x
theorem zr8 {o:List Txt} {vo vb vq t:Nat} {l:Txt} (h0:l≠[]):Ev Tryz.prog 115 [.ref 1 vb 0] (stB o vo vb l vq t) fun v S=>v = .str l∧S=⟨[.arr vo 9 1 (o.map .str)],t⟩:=by
 rw [ygk h0]
 exact zof (A:=[.arr vo 9 1 (o.map .str)]) h0
theorem yet {g:List (List Int)} {nh nw:Nat} (hg:GW g nh nw) (rs:List Rect) (hz:∀ r∈g,∀ z∈r,0≤z∧z≤100):PC Tryz.prog 65 [zbh g rs] (zan (zfh g)) true:=by
 have hl:=hg.1
 obtain ⟨hg1,hg2,hg3,hg4⟩:=hg.2.2
 refine PC.of ⟨Tryz.func65,by kernel_rfl,rfl,by kernel_rfl⟩ zam mixed (by show 1≤Tryz.f65.ntmps; decide) ?_
 refine W.r fun K hK=>?_
 simp(disch:=omega)only[↓RU,RV,RH,↓reduceIte,qE,reduceCtorEq,if_pos,↓RS,RG,qA,qM,qL]
 apply hK;clear hK K
 refine W.r fun K hK=>?_
 simp(disch:=omega)only[↓RU,RV,RH,↓reduceIte,qE,reduceCtorEq,if_pos,qN,↓RS,RG,qA,qM,qL,ty6,zac,hl,zdl,zg7,zcx]
 refine zad.pc (zpz g rs) rfl (.inl rfl) ?_
 simp(disch:=omega)only[↓RU,RV,RH,↓reduceIte,qE,reduceCtorEq,if_pos,qN,↓RS,RG,qA,qM,qL,ty6,zac,hl,zdl,zg7,zcx]
 apply hK;clear hK K
 refine W.seq ?_
 refine W.r fun K hK=>?_
 simp(disch:=omega)only[↓RU,RV,RH,↓reduceIte,qE,reduceCtorEq,if_pos,↓RS,RG,qA,qM,qL,ty1,ty4,zab,zdg,zbl,zcn,zaa,zdh,zco,hl]
 apply hK;clear hK K
 refine W.block ?_
 refine W.loop [0,3,15,16,17] (fun n vs S=>∃ (i vo t:Nat) (o:List Txt),n=nh - i∧i≤nh∧o.length=nh∧(∀ j,j<i→o[j]?=(zfh g)[j]?)∧vs=[zbh g rs,.loc 0 vo 0 nh,zea g,.int .i64 nh,.int .i64 (i:Nat)]∧S=⟨[.arr vo 9 1 (o.map .str)],t⟩) nh ?_ ?_
 ·refine ⟨1,0,0,1,List.replicate nh [],rfl,Nat.zero_le _,by simp,fun j h=>absurd h (by omega),?_,?_⟩
  ·simp [Env.put,Env.of,zaf,hl]
  simp [zap,zg7]
 rintro n vs S - ⟨i,vo,t,o,rfl,h_i,hol,hdone,rfl,rfl⟩
 refine W.r fun K hK=>?_
 simp(disch:=omega)only[↓RU,RV,RH,↓reduceIte,qE,reduceCtorEq,if_pos,w64,↓RS,RG,qA,qM,qL,zaa]
 apply hK;clear hK K
 refine W.seq ?_
 refine W.cond rfl (fun h=>?_) (fun h=>?_)
 ·try simp only[RL]at h
  obtain ⟨row,hrow,hrm⟩:=zae (show i<g.length by omega)
  have hrl:=hg.2.1 row hrm
  have hrz:=hz row hrm
  refine W.skip ?_
  refine xn ?_
  refine W.seq ?_
  refine W.block ?_
  refine W.r fun K hK=>?_
  simp(disch:=omega)only[↓RU,RV,RH,↓reduceIte,qE,reduceCtorEq,if_pos,↓RS,RG,qA,qM,qL,ty1,zab,zbl,zaa,hrow]
  apply hK;clear hK K
  refine W.r fun K hK=>?_
  simp(disch:=omega)only[↓RU,RV,RH,↓reduceIte,qE,reduceCtorEq,if_pos,↓RS,RG,qA,qM,qL,ty7,ty9,ygy,ygz,zei]
  apply hK;clear hK K
  refine W.seq ?_
  refine W.r fun K hK=>?_
  simp(disch:=omega)only[↓RU,RV,RH,↓reduceIte,qE,reduceCtorEq,if_pos,↓RS,RG,qA,qM,qL,zab,zaa,hrl]
  apply hK;clear hK K
  refine W.block ?_
  refine W.loop [0,3,15,16,17,4,6,22,23,24] (fun n vs S=>∃ (k vb vq t:Nat),n=nw - k∧k≤nw∧vs=[zbh g rs,.loc 0 vo 0 nh,zea g,.int .i64 nh,.int .i64 (i:Nat),.int .i64 (i:Nat),.ref 1 vb 0,eInts row,.int .i64 nw,.int .i64 (k:Nat)]∧S=stB o vo vb (zoi (row.take k)) vq t) nw ?_ ?_
  ·refine ⟨2,0,_,0,_,rfl,Nat.zero_le _,?_,rfl⟩
   simp [Env.put,Env.of,hrl]
  rintro n vs S - ⟨k,vb,vq,t,rfl,h_k,rfl,rfl⟩
  refine W.r fun K hK=>?_
  simp(disch:=omega)only[↓RU,RV,RH,↓reduceIte,qE,reduceCtorEq,if_pos,w64,↓RS,RG,qA,qM,qL,zaa]
  apply hK;clear hK K
  refine W.seq ?_
  refine W.cond rfl (fun h1=>?_) (fun h1=>?_)
  ·try simp only[RL]at h1
   obtain ⟨z,hzk,hzm⟩:=zae (show k<row.length by omega)
   have hzb:=hrz z hzm
   have hul:=ycl hzb.1
   refine W.skip ?_
   refine xn ?_
   refine W.seq ?_
   refine W.block ?_
   refine W.r fun K hK=>?_
   simp(disch:=omega)only[↓RU,RV,RH,↓reduceIte,qE,reduceCtorEq,if_pos,↓RS,RG,qA,qM,qL,zab,zaa,hzk]
   apply hK;clear hK K
   refine W.k fun K hK=>?_
   simp(disch:=omega)only[↓RU,RV,RH,↓reduceIte,qE,reduceCtorEq,if_pos,w64,w64,qN,↓RS,RG,qA,qM,qL,zaa,zei,hul]
   refine zad.ev (zod (by rw [zu7,List.length_take]; omega) (z4r z)) ?_
   rintro _ _ ⟨rfl,vq2,t2,rfl⟩
   simp(disch:=omega)only[↓RU,RV,RH,↓reduceIte,qE,reduceCtorEq,if_pos,w64,w64,qN,↓RS,RG,qA,qM,qL,zaa,zei,hul]
   apply hK;clear hK K
   refine XbN ?_
   refine xn ?_
   refine W.k fun K hK=>?_
   simp(disch:=omega)only[↓RU,RV,RH,↓reduceIte,qE,reduceCtorEq,if_pos,w64,↓RS,RG,qA,qM,qL,zaa]
   apply hK;clear hK K
   refine xn ?_
   refine ⟨nw - (k+1),by omega,_,k+1,vb,vq2,t2,rfl,by omega,?_,by rw [zx4 hzk]; exact zal⟩
   simp [Env.put,Env.of]
  try simp only[RL]at h1
  obtain rfl:nw=k:=by omega
  refine W.exit ?_
  refine xe ?_
  refine xe ?_
  refine XBlock.hit ?_
  refine xn ?_
  refine W.k fun K hK=>?_
  have htk:row.take nw=row:=qT (by omega)
  rw [htk]
  have hne:=z7w (row:=row) (by omega)
  simp(disch:=omega)only[↓RU,RV,RH,↓reduceIte,qE,reduceCtorEq,if_pos,qN,↓RS,RG,qA,qM,qL,ty6,zac,hol,za3,zjd]
  refine zad.ev (zr8 hne) ?_
  rintro _ _ ⟨rfl,rfl⟩
  simp(disch:=omega)only[↓RU,RV,RH,↓reduceIte,qE,reduceCtorEq,if_pos,qN,↓RS,RG,qA,qM,qL,ty6,zac,hol,za3,zjd]
  apply hK;clear hK K
  refine XbN ?_
  refine xn ?_
  refine W.k fun K hK=>?_
  simp(disch:=omega)only[↓RU,RV,RH,↓reduceIte,qE,reduceCtorEq,if_pos,w64,↓RS,RG,qA,qM,qL,zaa]
  apply hK;clear hK K
  refine xn ?_
  refine ⟨nh - (i+1),by omega,1,i+1,vo,t,o.set i (zoi row),rfl,by omega,by simp [hol],?_,?_,?_⟩
  ·intro j hj
   by_cases e:j=i
   ·subst e; rw [zjy hrow,List.getElem?_set,if_pos rfl,if_pos (by omega)]
   rw [List.getElem?_set,if_neg (Ne.symm e)]; exact hdone j (by omega)
  ·simp [Env.put,Env.of]
  simp [zap]
 try simp only[RL]at h
 obtain rfl:nh=i:=by omega
 refine W.exit ?_
 refine xe ?_
 refine xe ?_
 refine XBlock.hit ?_
 refine xn ?_
 refine W.r fun K hK=>?_
 simp(disch:=omega)only[↓RU,RV,RH,↓reduceIte,qE,reduceCtorEq,if_pos,↓RS,RG,qA,qM,qL]
 apply hK;clear hK K
 refine W.ret ?_
 refine Br rfl ?_
 have hdo:=zyh (by omega) (fun j hj=>hdone j (by omega))
 subst hdo
 obtain rfl:nh=(zfh g).length:=hol.symm
 exact zax (k:=9) rfl (by simp) (z3y _)
def mE (ks:List Int):List (PV × PV):=ks.zipIdx.map fun q=>(.int .i64 q.1,.int .i64 ((q.2:Nat):Int))
theorem zwu (ks:List Int):(mE ks).length=ks.length:=by simp [mE]
theorem yb3 (ks:List Int) (z:Int):mE (ks++[z])=mE ks++[(.int .i64 z,.int .i64 ((ks.length:Nat):Int))]:=by simp [mE,List.zipIdx_append]
theorem zzp {q:IntKind} {a b:Int}:zgs (.int q a) (.int q b)=some (decide (a=b)):=by
 simp only[zgs]
 by_cases h:a=b <;> simp [h]
theorem zmx {z:Int}:∀ (ks:List Int) (i:Nat),findKey (.int .i64 z) ((ks.zipIdx i).map fun q=>(PV.int .i64 q.1,PV.int .i64 ((q.2:Nat):Int))) i=some (if ks.idxOf z=ks.length then none else some (i+ks.idxOf z,.int .i64 ((i+ks.idxOf z:Nat):Int)))
 | [],i=>by simp [findKey]
 | a::ks,i=>by
  simp only[List.zipIdx_cons,List.map_cons,findKey,zzp]
  by_cases h:z=a
  ·subst h
   simp [List.idxOf_cons]
  have h':(a == z)=false:=by simpa using Ne.symm h
  have:=zmx (z:=z) ks (i+1)
  simp only[h,decide_false]
  rw [this,List.idxOf_cons,h']
  simp only[cond_false,List.length_cons,Nat.add_right_cancel_iff]
  have e:i+1+ks.idxOf z=i+(ks.idxOf z+1):=by omega
  rw [e]
theorem znx {ks:List Int} {z:Int} (h:ks.idxOf z=ks.length):findKey (.int .i64 z) (mE ks) 0=some none:=by
 rw [mE,zmx,if_pos h]
theorem zwj {ks:List Int} {z:Int} (h:¬ ks.idxOf z=ks.length):findKey (.int .i64 z) (mE ks) 0=some (some (ks.idxOf z,.int .i64 ((ks.idxOf z:Nat):Int))):=by
 rw [mE,zmx,if_neg h]; simp
def Rect.Fit (b:Rect):Prop:=0≤b.row∧0≤b.col∧1≤b.high∧1≤b.wide∧b.row+b.high≤6∧b.col+b.wide≤6
theorem Rect.Fit.in_ {b:Rect} (h:b.Fit):b.In 1000:=by unfold Rect.Fit at h; unfold Rect.In; omega
theorem Rect.Fit.both {b o:Rect} (h:b.Fit) (k:o.Fit):(b.both o).Fit:=by
 unfold Rect.Fit at *
 simp only[Rect.both]
 omega
def zgi (r c:Nat):Rect:=⟨r,c,1,1⟩
theorem ze7 {r c:Nat} (hr:r<6) (hc:c<6):(zgi r c).Fit:=by unfold Rect.Fit zgi; simp only; omega
theorem zdn {r c:Nat}:(zgi r c).cells=[.int .i64 r,.int .i64 c,.int .i64 1,.int .i64 1]:=rfl
def zhy (ks:List Int) (z:Int):List Int:=if ks.idxOf z=ks.length then ks++[z] else ks
def zir (ks:List Int) (rs:List Rect) (z:Int) (q:Rect):List Rect:=if ks.idxOf z=ks.length then rs++[q] else rs
def zo3 (ks:List Int) (rs:List Rect) (z:Int) (q:Rect):List Rect:=(zir ks rs z q).set (ks.idxOf z) (((zir ks rs z q).getD (ks.idxOf z) q).both q)
def zr4 (ks:List Int) (rs:List Rect):Prop:=rs.length=ks.length∧∀ b∈rs,b.Fit
theorem zr4.nil:zr4 [] []:=⟨rfl,by simp⟩
theorem zg2 {ks:List Int} {z:Int}:ks.idxOf z≤ks.length:=List.idxOf_le_length
theorem zr4.in_ {ks:List Int} {rs:List Rect} (h:zr4 ks rs) {z:Int} {q:Rect} (hq:q.Fit):(zir ks rs z q).length=(zhy ks z).length∧(∀ b∈zir ks rs z q,b.Fit)∧∃ b,(zir ks rs z q)[ks.idxOf z]?=some b∧b.Fit:=by
 have h1:=h.1
 have h2:=zg2 (ks:=ks) (z:=z)
 have hf:∀ b∈zir ks rs z q,b.Fit:=by
  unfold zir
  split
  ·intro b hb
   rcases List.mem_append.1 hb with hb | hb
   ·exact h.2 b hb
   rw [List.mem_singleton]at hb; subst hb; exact hq
  exact h.2
 have hl:(zir ks rs z q).length=(zhy ks z).length:=by
  unfold zir zhy; split <;> simp [h1]
 refine ⟨hl,hf,?_⟩
 obtain ⟨b,hb,hm⟩:=zae (show ks.idxOf z<(zir ks rs z q).length by rw [hl]; unfold zhy; split <;> (try rw [List.length_append,List.length_singleton]) <;> omega)
 exact ⟨b,hb,hf b hm⟩
theorem zr4.step {ks:List Int} {rs:List Rect} (h:zr4 ks rs) {z:Int} {q:Rect} (hq:q.Fit):zr4 (zhy ks z) (zo3 ks rs z q):=by
 obtain ⟨h1,h2,b,hb,hbf⟩:=h.in_ (z:=z) hq
 refine ⟨by rw [zo3,List.length_set,h1],fun c hc=>?_⟩
 unfold zo3 at hc
 rcases List.mem_or_eq_of_mem_set hc with hc | rfl
 ·exact h2 c hc
 rw [List.getD_eq_getElem?_getD,hb]; exact hbf.both hq
theorem zzq {ks:List Int} {rs:List Rect} {z:Int} {q b:Rect} (hb:(zir ks rs z q)[ks.idxOf z]?=some b):zo3 ks rs z q=(zir ks rs z q).set (ks.idxOf z) (b.both q):=by
 rw [zo3,List.getD_eq_getElem?_getD,hb]; rfl
theorem zjt {rs:List Rect} {n:Nat} {r:Rect} (h:n<rs.length):(rcs rs).take (n*4)++r.cells++(rcs rs).drop (n*4+4)=rcs (rs.set n r):=yd7 h
theorem zzn {S:Store} {k f:Nat} {sel:List Nat} (ks:List Int):((mE ks).mapM fun q=>(rn S k sel (f+1) q.1).bind fun a=>(rn S k sel (f+1) q.2).map fun b=>(a,b))=some (mE ks):=by
 have:∀ l:List (PV × PV),(∀ q∈l,∃ a b:Int,q=(.int .i64 a,.int .i64 b))→(l.mapM fun q=>(rn S k sel (f+1) q.1).bind fun a=>(rn S k sel (f+1) q.2).map fun b=>(a,b))=some l:=by
  intro l
  induction l with
  | nil=>intro _; rfl
  | cons q l ih =>
   intro h
   obtain ⟨a,b,rfl⟩:=h q (by simp)
   rw [qC,ih fun x hx=>h x (by simp [hx])]
   rfl
 refine this _ fun q hq=>?_
 obtain ⟨a,_,rfl⟩:=List.mem_map.1 hq
 exact ⟨_,_,rfl⟩
theorem zti {S:Store} {k f:Nat} {sel:List Nat} (rs:List Rect):(rcs rs).mapM (rn S k sel (f+1))=some (rcs rs):=zu4 (z18 rs)
theorem zfn {T:Tab} {S:Store} {e:Env} {t:TypeId} {x:Operand}:zdt T S e (.load t x)=zr1 (T t) S (e.ev x):=rfl
theorem zhv {T:Tab} {S:Store} {e:Env} {x:Operand}:zdt T S e (.nilCheck x)=zgo S (e.ev x):=rfl
theorem znb {T:Tab} {S:Store} {e:Env} {t:TypeId} {x:Operand} {f:Nat}:zdt T S e (.fieldAddr t x f)=zfl T S t (e.ev x) f:=rfl
theorem znc {T:Tab} {S:Store} {e:Env} {t:TypeId} {x i:Operand}:zdt T S e (.indexAddr t x i)=zfm T S t (e.ev x) (e.ev i):=rfl
theorem z7i {r:Rect}:rcs [r]=r.cells:=by simp [rcs]
theorem yb8 {rs:List Rect}:(rcs rs).take (rs.length*4)=rcs rs:=by rw [← zbv,List.take_length]
theorem za0 {r:Rect}:r.cells.length=4:=rfl
theorem za2 {r:Rect}:zbo r.cells=True:=eq_true (by intro p hp; simp [Rect.cells]at hp; rcases hp with rfl | rfl | rfl | rfl <;> rfl)
def gcs (d:List (List Int)) (cur:PV) (m:Nat):List PV:=d.map eInts++cur::List.replicate m .nils
theorem zx0 {S:Store} {k f:Nat} {sel:List Nat} {d:List (List Int)} {cur cur2:PV} {m:Nat} (h:rn S k sel (f+1) cur=some cur2):(gcs d cur m).mapM (rn S k sel (f+1))=some (gcs d cur2 m):=by
 unfold gcs
 rw [qP,za8 (l:=d.map eInts) (fun x hx=>by obtain ⟨a,_,rfl⟩:=List.mem_map.1 hx; rfl),qC,h,za8 (l:=List.replicate m PV.nils) (fun x hx=>by obtain rfl:=List.eq_of_mem_replicate hx; rfl)]
 rfl
theorem zwo {z:Int}:TK.keyed tab 3 (.int .i64 z)=true:=by simp only[TK.keyed,zaa]; rfl
theorem zrb {g d:List (List Int)} {y:List Int} {row ks:List Int} {rs:List Rect} {z:Int} {r c w m xv yv vq t:Nat} (hr:r<6) (hc:c<6) (hrow:g[r]?=some row) (hz:row[c]?=some z) (hs:zr4 ks rs) (hk:ks.length≤64) (hin:¬ ks.idxOf z=ks.length):Ev Tryz.prog 144 [.int .i64 (r:Nat),.int .i64 (c:Nat),.ref 5 5 0,.ref 0 0 0,.ref 3 3 0] ⟨[.arr 0 75 1 [zea g],.arr 1 3 1 [.int .i64 w],.arr 2 78 2 [.nils,.loc 8 vq 0 (rs).length],.arr 3 50 1 [.ref 2 2 0],.map 4 (mE ks),.arr 5 151 1 [.mp 4 4],.arr xv 34 1 (gcs d (.loc 7 yv 0 w) m),.arr yv 3 1 (y.map (.int .i64)),.arr vq 92 4 (rcs rs)],t⟩ fun v S=>v = .int .i64 ((ks.idxOf z:Nat):Int)∧∃ vq t:Nat,S=⟨[.arr 0 75 1 [zea g],.arr 1 3 1 [.int .i64 w],.arr 2 78 2 [.nils,.loc 8 vq 0 ((zo3 ks rs z (zgi r c))).length],.arr 3 50 1 [.ref 2 2 0],.map 4 (mE (zhy ks z)),.arr 5 151 1 [.mp 4 4],.arr xv 34 1 (gcs d (.loc 7 yv 0 w) m),.arr yv 3 1 (y.map (.int .i64)),.arr vq 92 4 (rcs (zo3 ks rs z (zgi r c)))],t⟩:=by
 have hrl:=zaz hrow
 have hcl:=zaz hz
 have hgl:g.length=g.length:=rfl
 obtain ⟨hi1,hi2,b,hb,hbf⟩:=hs.in_ (z:=z) (ze7 hr hc)
 have hil:=zg2 (ks:=ks) (z:=z)
 have hsl:=hs.1
 have hst:=hs.step (z:=z) (ze7 hr hc)
 have hfs:=zwj hin
 have hki:zhy ks z=ks:=by simp [zhy,hin]
 have hri:zir ks rs z (zgi r c)=rs:=by simp [zir,hin]
 refine Ev.of ⟨Tryz.func144,by kernel_rfl,rfl,by kernel_rfl⟩ zam mixed (by show 5≤Tryz.f144.ntmps; decide) ?_
 refine W.r fun K hK=>?_
 simp(disch:=omega)only[↓RU,RV,RH,↓reduceIte,qE,reduceCtorEq,if_pos,↓RS,RG,qA,qM,qL]
 apply hK;clear hK K
 refine W.seq_draw (by kernel_rfl) fun K hK=>?_
 simp(disch:=omega)only[↓RU,RV,RH,↓reduceIte,qE,reduceCtorEq,if_pos,↓RS,RG,qA,qM,qL,ty1,zab,zbl,zaa,yck,hrow,hz,zwu,hfs]
 apply hK;clear hK K
 refine W.joinS [0,1,2,3,4,8] (fun vs S=>∃ vq t:Nat,vs=[.int .i64 (r:Nat),.int .i64 (c:Nat),.ref 5 5 0,.ref 0 0 0,.ref 3 3 0,.int .i64 ((ks.idxOf z:Nat):Int)]∧S=⟨[.arr 0 75 1 [zea g],.arr 1 3 1 [.int .i64 w],.arr 2 78 2 [.nils,.loc 8 vq 0 ((zir ks rs z (zgi r c))).length],.arr 3 50 1 [.ref 2 2 0],.map 4 (mE (zhy ks z)),.arr 5 151 1 [.mp 4 4],.arr xv 34 1 (gcs d (.loc 7 yv 0 w) m),.arr yv 3 1 (y.map (.int .i64)),.arr vq 92 4 (rcs (zir ks rs z (zgi r c)))],t⟩) ?_ ?_
 ·
  refine W.r fun K hK=>?_
  simp(disch:=omega)only[↓RU,RV,RH,↓reduceIte,qE,reduceCtorEq,if_pos,↓RS,RG,qA,qM,qL]
  apply hK;clear hK K
  refine W.cond rfl (fun h=>?_) (fun h=>?_)
  ·try simp only[RL]at h
   exact absurd h (by simp)
  try simp only[RL]at h
  refine W.skip ?_
  refine xn ?_
  refine ⟨9,[],[.int .i64 (r:Nat),.int .i64 (c:Nat),.ref 5 5 0,.ref 0 0 0,.ref 3 3 0,.int .i64 ((ks.idxOf z:Nat):Int)],⟨[.arr 0 75 1 [zea g],.arr 1 3 1 [.int .i64 w],.arr 2 78 2 [.nils,.loc 8 vq 0 ((zir ks rs z (zgi r c))).length],.arr 3 50 1 [.ref 2 2 0],.map 4 (mE (zhy ks z)),.arr 5 151 1 [.mp 4 4],.arr xv 34 1 (gcs d (.loc 7 yv 0 w) m),.arr yv 3 1 (y.map (.int .i64)),.arr vq 92 4 (rcs (zir ks rs z (zgi r c)))],(t+1)⟩,?_,?_,vq,t+1,rfl,rfl⟩
  ·simp [-qU,Env.put,Env.of,zaf,zb0,zak,zao,zat,zav,zb8,zb9,zd3,zb7,zbe,zca,zd2,zd4,zbg,zbf,zaw,zb6,zcb,zd1,zbc,zbb,zau,zbd,zb4,zf1,qS,qP,qC]
  rw [hki,hri]; simp [-qU,Env.put,Env.of,zaf,zb0,zak,zao,zat,zav,zb8,zb9,zd3,zb7,zbe,zca,zd2,zd4,zbg,zbf,zaw,zb6,zcb,zd1,zbc,zbb,zau,zbd,zb4,zf1,qS,qP,qC,zzn,zti,zi8,zx0]
 rintro vs S - ⟨vq,t,rfl,rfl⟩
 have hrs2:=zzq hb
 generalize hks1:zhy ks z=ks1 at hi1 hst
 generalize hrs1:zir ks rs z (zgi r c)=rs1 at hb hi1 hi2 hrs2
 have hbl:=zaz hb
 refine W.seq_draw (by kernel_rfl) fun K hK=>?_
 have hcell:=(zdn (r:=r) (c:=c)).symm
 have hba:PV.agg b.cells=zud b:=rfl
 simp(disch:=omega)only[↓RU,RV,RH,↓reduceIte,qE,reduceCtorEq,if_pos,qN,↓RS,RG,qA,qM,qL,ty1,ty4,zab,ty8,zdg,zbl,zcn,zaa,zdh,zco,zl7 hb,zbv,← zdn,hcell,za0,za2,zjt]
 refine zad.pc (zys (b:=b) (o:=zgi r c) hbf.in_ (ze7 hr hc).in_) rfl (.inl rfl) ?_
 simp(disch:=omega)only[↓RU,RV,RH,↓reduceIte,qE,reduceCtorEq,if_pos,qN,↓RS,RG,qA,qM,qL,ty1,ty4,zab,ty8,zdg,zbl,zcn,zaa,zdh,zco,zl7 hb,zbv,← zdn,hcell,za0,za2,zjt]
 apply hK;clear hK K
 refine W.r fun K hK=>?_
 simp(disch:=omega)only[↓RU,RV,RH,↓reduceIte,qE,reduceCtorEq,if_pos,↓RS,RG,qA,qM,qL]
 apply hK;clear hK K
 refine W.ret ?_
 refine Br rfl ?_
 refine ⟨9,rfl,vq,t,?_⟩
 rw [hrs2]
 simp [zap]
theorem znh {g d:List (List Int)} {y:List Int} {row ks:List Int} {rs:List Rect} {z:Int} {r c w m xv yv vq t:Nat} (hr:r<6) (hc:c<6) (hrow:g[r]?=some row) (hz:row[c]?=some z) (hs:zr4 ks rs) (hk:ks.length≤64) (hn:rs=[]) (hn2:ks=[]):Ev Tryz.prog 144 [.int .i64 (r:Nat),.int .i64 (c:Nat),.ref 5 5 0,.ref 0 0 0,.ref 3 3 0] ⟨[.arr 0 75 1 [zea g],.arr 1 3 1 [.int .i64 w],.arr 2 78 2 [.nils,.nils],.arr 3 50 1 [.ref 2 2 0],.map 4 (mE ks),.arr 5 151 1 [.mp 4 4],.arr xv 34 1 (gcs d (.loc 7 yv 0 w) m),.arr yv 3 1 (y.map (.int .i64))],t⟩ fun v S=>v = .int .i64 ((ks.idxOf z:Nat):Int)∧∃ vq t:Nat,S=⟨[.arr 0 75 1 [zea g],.arr 1 3 1 [.int .i64 w],.arr 2 78 2 [.nils,.loc 8 vq 0 ((zo3 ks rs z (zgi r c))).length],.arr 3 50 1 [.ref 2 2 0],.map 4 (mE (zhy ks z)),.arr 5 151 1 [.mp 4 4],.arr xv 34 1 (gcs d (.loc 7 yv 0 w) m),.arr yv 3 1 (y.map (.int .i64)),.arr vq 92 4 (rcs (zo3 ks rs z (zgi r c)))],t⟩:=by
 have hin:ks.idxOf z=ks.length:=by rw [hn2]; rfl
 have hrl:=zaz hrow
 have hcl:=zaz hz
 have hgl:g.length=g.length:=rfl
 obtain ⟨hi1,hi2,b,hb,hbf⟩:=hs.in_ (z:=z) (ze7 hr hc)
 have hil:=zg2 (ks:=ks) (z:=z)
 have hsl:=hs.1
 have hst:=hs.step (z:=z) (ze7 hr hc)
 have hfn:=znx hin
 have hki:zhy ks z=ks++[z]:=by simp [zhy,hin]
 have hri:zir ks rs z (zgi r c)=rs++[zgi r c]:=by simp [zir,hin]
 refine Ev.of ⟨Tryz.func144,by kernel_rfl,rfl,by kernel_rfl⟩ zam mixed (by show 5≤Tryz.f144.ntmps; decide) ?_
 refine W.r fun K hK=>?_
 simp(disch:=omega)only[↓RU,RV,RH,↓reduceIte,qE,reduceCtorEq,if_pos,↓RS,RG,qA,qM,qL]
 apply hK;clear hK K
 refine W.seq_draw (by kernel_rfl) fun K hK=>?_
 simp(disch:=omega)only[↓RU,RV,RH,↓reduceIte,qE,reduceCtorEq,if_pos,↓RS,RG,qA,qM,qL,ty1,zab,zbl,zaa,yck,hrow,hz,zwu,hfn]
 apply hK;clear hK K
 refine W.joinS [0,1,2,3,4,8] (fun vs S=>∃ vq t:Nat,vs=[.int .i64 (r:Nat),.int .i64 (c:Nat),.ref 5 5 0,.ref 0 0 0,.ref 3 3 0,.int .i64 ((ks.idxOf z:Nat):Int)]∧S=⟨[.arr 0 75 1 [zea g],.arr 1 3 1 [.int .i64 w],.arr 2 78 2 [.nils,.loc 8 vq 0 ((zir ks rs z (zgi r c))).length],.arr 3 50 1 [.ref 2 2 0],.map 4 (mE (zhy ks z)),.arr 5 151 1 [.mp 4 4],.arr xv 34 1 (gcs d (.loc 7 yv 0 w) m),.arr yv 3 1 (y.map (.int .i64)),.arr vq 92 4 (rcs (zir ks rs z (zgi r c)))],t⟩) ?_ ?_
 ·
  refine W.r fun K hK=>?_
  simp(disch:=omega)only[↓RU,RV,RH,↓reduceIte,qE,reduceCtorEq,if_pos,↓RS,RG,qA,qM,qL]
  apply hK;clear hK K
  refine W.cond rfl (fun h=>?_) (fun h=>?_)
  ·try simp only[RL]at h
   refine W.r fun K hK=>?_
   simp(disch:=omega)only[↓RU,RV,RH,↓reduceIte,qE,reduceCtorEq,if_pos,↓RS,RG,qA,qM,qL,zaa,yck,zwu]
   apply hK;clear hK K
   refine W.seq_draw (by kernel_rfl) fun K hK=>?_
   simp(disch:=omega)only[↓RU,RV,RH,↓reduceIte,qE,reduceCtorEq,if_pos,↓RS,RG,qA,qM,qL,ty1,zab,zbl,zaa,yck,hrow,hz,hfn,zwo]
   apply hK;clear hK K
   refine W.region_pk 10 [some 35,some 36,some 37,some 38,some 39] [2,3] (by decide) (by kernel_rfl) fun K hK=>?_
   simp only[List.take_succ_cons,List.take_zero,List.drop_succ_cons,List.drop_zero]
   refine zc0 (.ref 2 2 0) rfl rfl rfl (fun S' hS=>?_) ?_
   ·skip
    have k2:=(hS 2 (by decide)).trans (show _=some _ from rfl)
    have k3:=(hS 3 (by decide)).trans (show _=some _ from rfl)
    simp(disch:=omega)only[↓RU,RV,RH,↓reduceIte,qE,reduceCtorEq,if_pos,↓RS,RG,qA,qM,qL,ty1,ty4,zab,ty8,zdg,zbl,zcn,zaa,zdh,zco,zbv,za0,za2,zfn,zhv,znb,znc,k2,k3]
   refine zc0 (.ref 2 2 0) rfl rfl rfl (fun S' hS=>?_) ?_
   ·skip
    have k2:=(hS 2 (by decide)).trans (show _=some _ from rfl)
    have k3:=(hS 3 (by decide)).trans (show _=some _ from rfl)
    simp(disch:=omega)only[↓RU,RV,RH,↓reduceIte,qE,reduceCtorEq,if_pos,↓RS,RG,qA,qM,qL,ty1,ty4,zab,ty8,zdg,zbl,zcn,zaa,zdh,zco,zbv,za0,za2,zfn,zhv,znb,znc,k2,k3]
   refine zc0 (.ref 2 2 0) rfl rfl rfl (fun S' hS=>?_) ?_
   ·skip
    have k2:=(hS 2 (by decide)).trans (show _=some _ from rfl)
    have k3:=(hS 3 (by decide)).trans (show _=some _ from rfl)
    simp(disch:=omega)only[↓RU,RV,RH,↓reduceIte,qE,reduceCtorEq,if_pos,↓RS,RG,qA,qM,qL,ty1,ty4,zab,ty8,zdg,zbl,zcn,zaa,zdh,zco,zbv,za0,za2,zfn,zhv,znb,znc,k2,k3]
   refine zc0 (.ref 2 2 1) rfl rfl rfl (fun S' hS=>?_) ?_
   ·skip
    have k2:=(hS 2 (by decide)).trans (show _=some _ from rfl)
    have k3:=(hS 3 (by decide)).trans (show _=some _ from rfl)
    simp(disch:=omega)only[↓RU,RV,RH,↓reduceIte,qE,reduceCtorEq,if_pos,↓RS,RG,qA,qM,qL,ty1,ty4,zab,ty8,zdg,zbl,zcn,zaa,zdh,zco,zbv,za0,za2,zfn,zhv,znb,znc,k2,k3]
   refine zc0 (.nils) rfl rfl rfl (fun S' hS=>?_) ?_
   ·skip
    have k2:=(hS 2 (by decide)).trans (show _=some _ from rfl)
    have k3:=(hS 3 (by decide)).trans (show _=some _ from rfl)
    simp(disch:=omega)only[↓RU,RV,RH,↓reduceIte,qE,reduceCtorEq,if_pos,↓RS,RG,qA,qM,qL,ty1,ty4,zab,ty8,zdg,zbl,zcn,zaa,zdh,zco,zbv,za0,za2,zfn,zhv,znb,znc,k2,k3]
   refine zce rfl ?_
   simp(disch:=omega)only[↓RU,RV,RH,↓reduceIte,qE,reduceCtorEq,if_pos,↓RS,RG,qA,qM,qL,ty1,ty4,zab,ty8,zdg,zbl,zcn,zaa,zdh,zco,zbv,za0,za2,za4,zbj]
   refine zce rfl ?_
   simp(disch:=omega)only[↓RU,RV,RH,↓reduceIte,qE,reduceCtorEq,if_pos,↓RS,RG,qA,qM,qL,ty1,ty4,zab,ty8,zdg,zbl,zcn,zaa,zdh,zco,zbv,za0,za2,za4,zbj]
   refine zce rfl ?_
   simp(disch:=omega)only[↓RU,RV,RH,↓reduceIte,qE,reduceCtorEq,if_pos,↓RS,RG,qA,qM,qL,ty1,ty4,zab,ty8,zdg,zbl,zcn,zaa,zdh,zco,zbv,za0,za2,za4,zbj]
   refine zce rfl ?_
   simp(disch:=omega)only[↓RU,RV,RH,↓reduceIte,qE,reduceCtorEq,if_pos,↓RS,RG,qA,qM,qL,ty1,ty4,zab,ty8,zdg,zbl,zcn,zaa,zdh,zco,zbv,za0,za2,za4,zbj]
   refine zce rfl ?_
   simp(disch:=omega)only[↓RU,RV,RH,↓reduceIte,qE,reduceCtorEq,if_pos,↓RS,RG,qA,qM,qL,ty1,ty4,zab,ty8,zdg,zbl,zcn,zaa,zdh,zco,zbv,za0,za2,za4,zbj]
   refine zli ?_
   simp(disch:=omega)only[↓RU,RV,RH,↓reduceIte,qE,reduceCtorEq,if_pos,↓RS,RG,qA,qM,qL,ty1,ty4,zab,ty8,zdg,zbl,zcn,zaa,zdh,zco,zbv,za0,za2]
   apply hK;clear hK K
   refine xn ?_
   refine ⟨8,[9],[.int .i64 (r:Nat),.int .i64 (c:Nat),.ref 5 5 0,.ref 0 0 0,.ref 3 3 0,.int .i64 ((ks.idxOf z:Nat):Int)],⟨[.arr 0 75 1 [zea g],.arr 1 3 1 [.int .i64 w],.arr 2 78 2 [.nils,.loc 8 (t+2) 0 ((zir ks rs z (zgi r c))).length],.arr 3 50 1 [.ref 2 2 0],.map 4 (mE (zhy ks z)),.arr 5 151 1 [.mp 4 4],.arr xv 34 1 (gcs d (.loc 7 yv 0 w) m),.arr yv 3 1 (y.map (.int .i64)),.arr (t+2) 92 4 (rcs (zir ks rs z (zgi r c)))],(t+3)⟩,?_,?_,(t+2),(t+3),rfl,rfl⟩
   ·rw [hin]; simp [-qU,Env.put,Env.of,zaf,zb0,zak,zao,zat,zav,zb8,zb9,zd3,zb7,zbe,zca,zd2,zd4,zbg,zbf,zaw,zb6,zcb,zd1,zbc,zbb,zau,zbd,zb4,zf1,qS,qP,qC]
   rw [hki,hri,hn]; simp [-qU,Env.put,Env.of,zaf,zb0,zak,zao,zat,zav,zb8,zb9,zd3,zb7,zbe,zca,zd2,zd4,zbg,zbf,zaw,zb6,zcb,zd1,zbc,zbb,zau,zbd,zb4,zf1,qS,qP,qC,zzn,zti,zi8,zx0,yb3,zuy,z7i,zdn,yb8]
  try simp only[RL]at h
  exact absurd h (by simp)
 rintro vs S - ⟨vq,t,rfl,rfl⟩
 have hrs2:=zzq hb
 generalize hks1:zhy ks z=ks1 at hi1 hst
 generalize hrs1:zir ks rs z (zgi r c)=rs1 at hb hi1 hi2 hrs2
 have hbl:=zaz hb
 refine W.seq_draw (by kernel_rfl) fun K hK=>?_
 have hcell:=(zdn (r:=r) (c:=c)).symm
 have hba:PV.agg b.cells=zud b:=rfl
 simp(disch:=omega)only[↓RU,RV,RH,↓reduceIte,qE,reduceCtorEq,if_pos,qN,↓RS,RG,qA,qM,qL,ty1,ty4,zab,ty8,zdg,zbl,zcn,zaa,zdh,zco,zl7 hb,zbv,← zdn,hcell,za0,za2,zjt]
 refine zad.pc (zys (b:=b) (o:=zgi r c) hbf.in_ (ze7 hr hc).in_) rfl (.inl rfl) ?_
 simp(disch:=omega)only[↓RU,RV,RH,↓reduceIte,qE,reduceCtorEq,if_pos,qN,↓RS,RG,qA,qM,qL,ty1,ty4,zab,ty8,zdg,zbl,zcn,zaa,zdh,zco,zl7 hb,zbv,← zdn,hcell,za0,za2,zjt]
 apply hK;clear hK K
 refine W.r fun K hK=>?_
 simp(disch:=omega)only[↓RU,RV,RH,↓reduceIte,qE,reduceCtorEq,if_pos,↓RS,RG,qA,qM,qL]
 apply hK;clear hK K
 refine W.ret ?_
 refine Br rfl ?_
 refine ⟨9,rfl,vq,t,?_⟩
 rw [hrs2]
 simp [zap]
theorem zra {g d:List (List Int)} {y:List Int} {row ks:List Int} {rs:List Rect} {z:Int} {r c w m xv yv vq t:Nat} (hr:r<6) (hc:c<6) (hrow:g[r]?=some row) (hz:row[c]?=some z) (hs:zr4 ks rs) (hk:ks.length≤64) (hin:ks.idxOf z=ks.length):Ev Tryz.prog 144 [.int .i64 (r:Nat),.int .i64 (c:Nat),.ref 5 5 0,.ref 0 0 0,.ref 3 3 0] ⟨[.arr 0 75 1 [zea g],.arr 1 3 1 [.int .i64 w],.arr 2 78 2 [.nils,.loc 8 vq 0 (rs).length],.arr 3 50 1 [.ref 2 2 0],.map 4 (mE ks),.arr 5 151 1 [.mp 4 4],.arr xv 34 1 (gcs d (.loc 7 yv 0 w) m),.arr yv 3 1 (y.map (.int .i64)),.arr vq 92 4 (rcs rs)],t⟩ fun v S=>v = .int .i64 ((ks.idxOf z:Nat):Int)∧∃ vq t:Nat,S=⟨[.arr 0 75 1 [zea g],.arr 1 3 1 [.int .i64 w],.arr 2 78 2 [.nils,.loc 8 vq 0 ((zo3 ks rs z (zgi r c))).length],.arr 3 50 1 [.ref 2 2 0],.map 4 (mE (zhy ks z)),.arr 5 151 1 [.mp 4 4],.arr xv 34 1 (gcs d (.loc 7 yv 0 w) m),.arr yv 3 1 (y.map (.int .i64)),.arr vq 92 4 (rcs (zo3 ks rs z (zgi r c)))],t⟩:=by
 have hrl:=zaz hrow
 have hcl:=zaz hz
 have hgl:g.length=g.length:=rfl
 obtain ⟨hi1,hi2,b,hb,hbf⟩:=hs.in_ (z:=z) (ze7 hr hc)
 have hil:=zg2 (ks:=ks) (z:=z)
 have hsl:=hs.1
 have hst:=hs.step (z:=z) (ze7 hr hc)
 have hfn:=znx hin
 have hki:zhy ks z=ks++[z]:=by simp [zhy,hin]
 have hri:zir ks rs z (zgi r c)=rs++[zgi r c]:=by simp [zir,hin]
 refine Ev.of ⟨Tryz.func144,by kernel_rfl,rfl,by kernel_rfl⟩ zam mixed (by show 5≤Tryz.f144.ntmps; decide) ?_
 refine W.r fun K hK=>?_
 simp(disch:=omega)only[↓RU,RV,RH,↓reduceIte,qE,reduceCtorEq,if_pos,↓RS,RG,qA,qM,qL]
 apply hK;clear hK K
 refine W.seq_draw (by kernel_rfl) fun K hK=>?_
 simp(disch:=omega)only[↓RU,RV,RH,↓reduceIte,qE,reduceCtorEq,if_pos,↓RS,RG,qA,qM,qL,ty1,zab,zbl,zaa,yck,hrow,hz,zwu,hfn]
 apply hK;clear hK K
 refine W.joinS [0,1,2,3,4,8] (fun vs S=>∃ vq t:Nat,vs=[.int .i64 (r:Nat),.int .i64 (c:Nat),.ref 5 5 0,.ref 0 0 0,.ref 3 3 0,.int .i64 ((ks.idxOf z:Nat):Int)]∧S=⟨[.arr 0 75 1 [zea g],.arr 1 3 1 [.int .i64 w],.arr 2 78 2 [.nils,.loc 8 vq 0 ((zir ks rs z (zgi r c))).length],.arr 3 50 1 [.ref 2 2 0],.map 4 (mE (zhy ks z)),.arr 5 151 1 [.mp 4 4],.arr xv 34 1 (gcs d (.loc 7 yv 0 w) m),.arr yv 3 1 (y.map (.int .i64)),.arr vq 92 4 (rcs (zir ks rs z (zgi r c)))],t⟩) ?_ ?_
 ·
  refine W.r fun K hK=>?_
  simp(disch:=omega)only[↓RU,RV,RH,↓reduceIte,qE,reduceCtorEq,if_pos,↓RS,RG,qA,qM,qL]
  apply hK;clear hK K
  refine W.cond rfl (fun h=>?_) (fun h=>?_)
  ·try simp only[RL]at h
   refine W.r fun K hK=>?_
   simp(disch:=omega)only[↓RU,RV,RH,↓reduceIte,qE,reduceCtorEq,if_pos,↓RS,RG,qA,qM,qL,zaa,yck,zwu]
   apply hK;clear hK K
   refine W.seq_draw (by kernel_rfl) fun K hK=>?_
   simp(disch:=omega)only[↓RU,RV,RH,↓reduceIte,qE,reduceCtorEq,if_pos,↓RS,RG,qA,qM,qL,ty1,zab,zbl,zaa,yck,hrow,hz,hfn,zwo]
   apply hK;clear hK K
   refine W.region_pk 10 [some 35,some 36,some 37,some 38,some 39] [2,3] (by decide) (by kernel_rfl) fun K hK=>?_
   simp only[List.take_succ_cons,List.take_zero,List.drop_succ_cons,List.drop_zero]
   refine zc0 (.ref 2 2 0) rfl rfl rfl (fun S' hS=>?_) ?_
   ·skip
    have k2:=(hS 2 (by decide)).trans (show _=some _ from rfl)
    have k3:=(hS 3 (by decide)).trans (show _=some _ from rfl)
    simp(disch:=omega)only[↓RU,RV,RH,↓reduceIte,qE,reduceCtorEq,if_pos,↓RS,RG,qA,qM,qL,ty1,ty4,zab,ty8,zdg,zbl,zcn,zaa,zdh,zco,zbv,za0,za2,zfn,zhv,znb,znc,k2,k3]
   refine zc0 (.ref 2 2 0) rfl rfl rfl (fun S' hS=>?_) ?_
   ·skip
    have k2:=(hS 2 (by decide)).trans (show _=some _ from rfl)
    have k3:=(hS 3 (by decide)).trans (show _=some _ from rfl)
    simp(disch:=omega)only[↓RU,RV,RH,↓reduceIte,qE,reduceCtorEq,if_pos,↓RS,RG,qA,qM,qL,ty1,ty4,zab,ty8,zdg,zbl,zcn,zaa,zdh,zco,zbv,za0,za2,zfn,zhv,znb,znc,k2,k3]
   refine zc0 (.ref 2 2 0) rfl rfl rfl (fun S' hS=>?_) ?_
   ·skip
    have k2:=(hS 2 (by decide)).trans (show _=some _ from rfl)
    have k3:=(hS 3 (by decide)).trans (show _=some _ from rfl)
    simp(disch:=omega)only[↓RU,RV,RH,↓reduceIte,qE,reduceCtorEq,if_pos,↓RS,RG,qA,qM,qL,ty1,ty4,zab,ty8,zdg,zbl,zcn,zaa,zdh,zco,zbv,za0,za2,zfn,zhv,znb,znc,k2,k3]
   refine zc0 (.ref 2 2 1) rfl rfl rfl (fun S' hS=>?_) ?_
   ·skip
    have k2:=(hS 2 (by decide)).trans (show _=some _ from rfl)
    have k3:=(hS 3 (by decide)).trans (show _=some _ from rfl)
    simp(disch:=omega)only[↓RU,RV,RH,↓reduceIte,qE,reduceCtorEq,if_pos,↓RS,RG,qA,qM,qL,ty1,ty4,zab,ty8,zdg,zbl,zcn,zaa,zdh,zco,zbv,za0,za2,zfn,zhv,znb,znc,k2,k3]
   refine zc0 (.loc 8 vq 0 rs.length) rfl rfl rfl (fun S' hS=>?_) ?_
   ·skip
    have k2:=(hS 2 (by decide)).trans (show _=some _ from rfl)
    have k3:=(hS 3 (by decide)).trans (show _=some _ from rfl)
    simp(disch:=omega)only[↓RU,RV,RH,↓reduceIte,qE,reduceCtorEq,if_pos,↓RS,RG,qA,qM,qL,ty1,ty4,zab,ty8,zdg,zbl,zcn,zaa,zdh,zco,zbv,za0,za2,zfn,zhv,znb,znc,k2,k3]
   refine zce rfl ?_
   simp(disch:=omega)only[↓RU,RV,RH,↓reduceIte,qE,reduceCtorEq,if_pos,↓RS,RG,qA,qM,qL,ty1,ty4,zab,ty8,zdg,zbl,zcn,zaa,zdh,zco,zbv,za0,za2,za4,zbj]
   refine zce rfl ?_
   simp(disch:=omega)only[↓RU,RV,RH,↓reduceIte,qE,reduceCtorEq,if_pos,↓RS,RG,qA,qM,qL,ty1,ty4,zab,ty8,zdg,zbl,zcn,zaa,zdh,zco,zbv,za0,za2,za4,zbj]
   refine zce rfl ?_
   simp(disch:=omega)only[↓RU,RV,RH,↓reduceIte,qE,reduceCtorEq,if_pos,↓RS,RG,qA,qM,qL,ty1,ty4,zab,ty8,zdg,zbl,zcn,zaa,zdh,zco,zbv,za0,za2,za4,zbj]
   refine zce rfl ?_
   simp(disch:=omega)only[↓RU,RV,RH,↓reduceIte,qE,reduceCtorEq,if_pos,↓RS,RG,qA,qM,qL,ty1,ty4,zab,ty8,zdg,zbl,zcn,zaa,zdh,zco,zbv,za0,za2,za4,zbj]
   refine zce rfl ?_
   simp(disch:=omega)only[↓RU,RV,RH,↓reduceIte,qE,reduceCtorEq,if_pos,↓RS,RG,qA,qM,qL,ty1,ty4,zab,ty8,zdg,zbl,zcn,zaa,zdh,zco,zbv,za0,za2,za4,zbj]
   refine zli ?_
   simp(disch:=omega)only[↓RU,RV,RH,↓reduceIte,qE,reduceCtorEq,if_pos,↓RS,RG,qA,qM,qL,ty1,ty4,zab,ty8,zdg,zbl,zcn,zaa,zdh,zco,zbv,za0,za2]
   apply hK;clear hK K
   refine xn ?_
   refine ⟨9,[],[.int .i64 (r:Nat),.int .i64 (c:Nat),.ref 5 5 0,.ref 0 0 0,.ref 3 3 0,.int .i64 ((ks.idxOf z:Nat):Int)],⟨[.arr 0 75 1 [zea g],.arr 1 3 1 [.int .i64 w],.arr 2 78 2 [.nils,.loc 8 (t+1) 0 ((zir ks rs z (zgi r c))).length],.arr 3 50 1 [.ref 2 2 0],.map 4 (mE (zhy ks z)),.arr 5 151 1 [.mp 4 4],.arr xv 34 1 (gcs d (.loc 7 yv 0 w) m),.arr yv 3 1 (y.map (.int .i64)),.arr (t+1) 92 4 (rcs (zir ks rs z (zgi r c)))],(t+3)⟩,?_,?_,(t+1),(t+3),rfl,rfl⟩
   ·rw [hin]; simp [-qU,Env.put,Env.of,zaf,zb0,zak,zao,zat,zav,zb8,zb9,zd3,zb7,zbe,zca,zd2,zd4,zbg,zbf,zaw,zb6,zcb,zd1,zbc,zbb,zau,zbd,zb4,zf1,qS,qP,qC]
   rw [hki,hri]; simp [-qU,Env.put,Env.of,zaf,zb0,zak,zao,zat,zav,zb8,zb9,zd3,zb7,zbe,zca,zd2,zd4,zbg,zbf,zaw,zb6,zcb,zd1,zbc,zbb,zau,zbd,zb4,zf1,qS,qP,qC,zzn,zti,zi8,zx0,yb3,zuy,z7i,zdn,yb8]
  try simp only[RL]at h
  exact absurd h (by simp)
 rintro vs S - ⟨vq,t,rfl,rfl⟩
 have hrs2:=zzq hb
 generalize hks1:zhy ks z=ks1 at hi1 hst
 generalize hrs1:zir ks rs z (zgi r c)=rs1 at hb hi1 hi2 hrs2
 have hbl:=zaz hb
 refine W.seq_draw (by kernel_rfl) fun K hK=>?_
 have hcell:=(zdn (r:=r) (c:=c)).symm
 have hba:PV.agg b.cells=zud b:=rfl
 simp(disch:=omega)only[↓RU,RV,RH,↓reduceIte,qE,reduceCtorEq,if_pos,qN,↓RS,RG,qA,qM,qL,ty1,ty4,zab,ty8,zdg,zbl,zcn,zaa,zdh,zco,zl7 hb,zbv,← zdn,hcell,za0,za2,zjt]
 refine zad.pc (zys (b:=b) (o:=zgi r c) hbf.in_ (ze7 hr hc).in_) rfl (.inl rfl) ?_
 simp(disch:=omega)only[↓RU,RV,RH,↓reduceIte,qE,reduceCtorEq,if_pos,qN,↓RS,RG,qA,qM,qL,ty1,ty4,zab,ty8,zdg,zbl,zcn,zaa,zdh,zco,zl7 hb,zbv,← zdn,hcell,za0,za2,zjt]
 apply hK;clear hK K
 refine W.r fun K hK=>?_
 simp(disch:=omega)only[↓RU,RV,RH,↓reduceIte,qE,reduceCtorEq,if_pos,↓RS,RG,qA,qM,qL]
 apply hK;clear hK K
 refine W.ret ?_
 refine Br rfl ?_
 refine ⟨9,rfl,vq,t,?_⟩
 rw [hrs2]
 simp [zap]
section
def prS (g:List (List Int)) (w:Nat) (rv:PV) (ks:List Int):List Ob:=[.arr 0 75 1 [zea g],.arr 1 3 1 [.int .i64 w],.arr 2 78 2 [.nils,rv],.arr 3 50 1 [.ref 2 2 0],.map 4 (mE ks),.arr 5 151 1 [.mp 4 4]]
def seS (g:List (List Int)) (w:Nat) (xv yv:Nat) (x y:List PV) (ks:List Int) (rs:List Rect) (vq t:Nat):Store :=
 match rs with
 | []=>⟨prS g w .nils ks++[.arr xv 34 1 x,.arr yv 3 1 y],t⟩
 | rs=>⟨prS g w (.loc 8 vq 0 rs.length) ks++[.arr xv 34 1 x,.arr yv 3 1 y,.arr vq 92 4 (rcs rs)],t⟩
theorem z76 {g:List (List Int)} {w xv yv:Nat} {x y:List PV} {ks:List Int} {vq t:Nat}:seS g w xv yv x y ks [] vq t=⟨prS g w .nils ks++[.arr xv 34 1 x,.arr yv 3 1 y],t⟩:=rfl
theorem z2b {g:List (List Int)} {w xv yv:Nat} {x y:List PV} {ks:List Int} {rs:List Rect} {vq t:Nat} (h:rs≠[]):seS g w xv yv x y ks rs vq t=⟨prS g w (.loc 8 vq 0 rs.length) ks++[.arr xv 34 1 x,.arr yv 3 1 y,.arr vq 92 4 (rcs rs)],t⟩:=by
 cases rs with
 | nil=>exact absurd rfl h
 | cons a l=>rfl
section
variable {g:List (List Int)} {w xv yv:Nat} {x y y2:List PV} {ks:List Int} {rs:List Rect} {vq t:Nat}
theorem zd9:(seS g w xv yv x y ks rs vq t).obs[6]?=some (.arr xv 34 1 x):=by cases rs <;> rfl
theorem zev:(seS g w xv yv x y ks rs vq t).obs[7]?=some (.arr yv 3 1 y):=by cases rs <;> rfl
theorem zgu:(seS g w xv yv x y ks rs vq t).set 7 (.arr yv 3 1 y2)=seS g w xv yv x y2 ks rs vq t:=by cases rs <;> rfl
end
theorem yb9 {S:Store} {k f:Nat} {sel:List Nat} {n:Nat} {q:IntKind} {z:Int}:(List.replicate n (PV.int q z)).mapM (rn S k sel (f+1))=some (List.replicate n (PV.int q z)) :=
 za8 fun x hx=>by obtain rfl:=List.eq_of_mem_replicate hx; rfl
theorem yah {S:Store} {k f:Nat} {sel:List Nat} {n:Nat}:(List.replicate n PV.nils).mapM (rn S k sel (f+1))=some (List.replicate n PV.nils) :=
 za8 fun x hx=>by obtain rfl:=List.eq_of_mem_replicate hx; rfl
theorem yec {S:Store} {k f:Nat} {sel:List Nat} {d:List (List Int)} {cur:PV} {m:Nat}:(gcs d cur m).mapM (rn S k sel (f+1))=(rn S k sel (f+1) cur).map fun c=>gcs d c m:=by
 unfold gcs
 rw [qP,za8 (l:=d.map eInts) (fun x hx=>by obtain ⟨a,_,rfl⟩:=List.mem_map.1 hx; rfl),qC,za8 (l:=List.replicate m PV.nils) (fun x hx=>by obtain rfl:=List.eq_of_mem_replicate hx; rfl)]
 cases rn S k sel (f+1) cur <;> rfl
theorem yae {S:Store} {fr:Nat→Bool} {f:Nat} {q:IntKind} (l:List Int):(l.map (PV.int q)).mapM (rfq S fr (f+1))=some (l.map (PV.int q)) :=
 za8 fun x hx=>by obtain ⟨a,_,rfl⟩:=List.mem_map.1 hx; rfl
def seO (g:List (List Int)) (w:Nat) (xv:Nat) (x:List PV) (ks:List Int) (rs:List Rect) (vq t:Nat):Store :=
 match rs with
 | []=>⟨prS g w .nils ks++[.arr xv 34 1 x],t⟩
 | rs=>⟨prS g w (.loc 7 vq 0 rs.length) ks++[.arr xv 34 1 x,.arr vq 92 4 (rcs rs)],t⟩
theorem z74 {g:List (List Int)} {w xv:Nat} {x:List PV} {ks:List Int} {vq t:Nat}:seO g w xv x ks [] vq t=⟨prS g w .nils ks++[.arr xv 34 1 x],t⟩:=rfl
theorem z73 {g:List (List Int)} {w xv:Nat} {x:List PV} {ks:List Int} {rs:List Rect} {vq t:Nat} (h:rs≠[]):seO g w xv x ks rs vq t=⟨prS g w (.loc 7 vq 0 rs.length) ks++[.arr xv 34 1 x,.arr vq 92 4 (rcs rs)],t⟩:=by
 cases rs with
 | nil=>exact absurd rfl h
 | cons a l=>rfl
def zdq (g:List (List Int)) (i:Nat) (s:List Int × List Rect):Nat→List Int × List Rect
 | 0=>s
 | j+1=>(zhy (zdq g i s j).1 (gz g i j),zo3 (zdq g i s j).1 (zdq g i s j).2 (gz g i j) (zgi i j))
def zai (g:List (List Int)) (nw:Nat):Nat→List Int × List Rect
 | 0=>([],[])
 | i+1=>zdq g i (zai g nw i) nw
def znl (g:List (List Int)) (i:Nat) (s:List Int × List Rect):Nat→List Int
 | 0=>[]
 | j+1=>znl g i s j++[(((zdq g i s j).1.idxOf (gz g i j):Nat):Int)]
def zeu (g:List (List Int)) (nw:Nat):Nat→List (List Int)
 | 0=>[]
 | i+1=>zeu g nw i++[znl g i (zai g nw i) nw]
theorem zfd {g:List (List Int)} {i:Nat} {s:List Int × List Rect}:∀ j,(znl g i s j).length=j
 | 0=>rfl
 | j+1=>by simp [znl,zfd j]
theorem ya7 {g:List (List Int)} {i nw j:Nat} {s:List Int × List Rect} (h:j<nw):znl g i s (j+1)++List.replicate (nw - (j+1)) 0=(znl g i s j++List.replicate (nw - j) 0).set j (((zdq g i s j).1.idxOf (gz g i j):Nat):Int):=by
 obtain ⟨m,hm⟩:∃ m,nw - j=m+1:=⟨nw - j - 1,by omega⟩
 rw [hm,show nw - (j+1)=m by omega,List.set_append_right _ _ (by rw [zfd]; exact qR _),zfd,Nat.sub_self]
 simp [znl,List.replicate_succ]
theorem zcv {g:List (List Int)} {nw:Nat}:∀ i,(zeu g nw i).length=i
 | 0=>rfl
 | i+1=>by simp [zeu,zcv i]
theorem z2a {ks:List Int} {z:Int}:(zhy ks z).length≤ks.length+1∧ks.length≤(zhy ks z).length∧1≤(zhy ks z).length:=by
 have h:=zg2 (ks:=ks) (z:=z)
 unfold zhy
 split
 ·simp
 refine ⟨by omega,by omega,?_⟩
 have:ks.idxOf z≠ks.length:=by assumption
 omega
theorem zmi {g:List (List Int)} {i:Nat} (hi:i<6) {s:List Int × List Rect} (h:zr4 s.1 s.2):∀ j,j≤6→zr4 (zdq g i s j).1 (zdq g i s j).2∧(zdq g i s j).1.length≤s.1.length+j∧s.1.length≤(zdq g i s j).1.length∧(1≤j→1≤(zdq g i s j).1.length)
 | 0,_=>⟨h,by simp [zdq],by simp [zdq],by omega⟩
 | j+1,hj=>by
  obtain ⟨h1,h2,h3,h4⟩:=zmi hi h j (by omega)
  have:=z2a (ks:=(zdq g i s j).1) (z:=gz g i j)
  exact ⟨h1.step (ze7 hi (by omega)),by simp only[zdq]; omega,by simp only[zdq]; omega,fun _=>by simp only[zdq]; omega⟩
theorem zgt {g:List (List Int)} {nw:Nat} (hw:nw≤6) (hw1:1≤nw):∀ i,i≤6→zr4 (zai g nw i).1 (zai g nw i).2∧(zai g nw i).1.length≤6*i∧(1≤i→1≤(zai g nw i).1.length)
 | 0,_=>⟨zr4.nil,by simp [zai],by omega⟩
 | i+1,hi=>by
  obtain ⟨h1,h2,h3⟩:=zgt hw hw1 i (by omega)
  obtain ⟨k1,k2,k3,k4⟩:=zmi (g:=g) (i:=i) (by omega) h1 nw hw
  exact ⟨k1,by simp only[zai]; omega,fun _=>by simp only[zai]; exact k4 hw1⟩
theorem zr4.ne {ks:List Int} {rs:List Rect} (h:zr4 ks rs) (h1:1≤ks.length):rs≠[]:=by
 rintro rfl
 have:=h.1
 simp at this; omega
theorem zr4.nl {ks:List Int} (h:zr4 ks []):ks=[]:=List.eq_nil_of_length_eq_zero h.1.symm
theorem zf3 {d:List (List Int)} {cur:PV} {m i:Nat} (h:d.length=i):(gcs d cur m)[i]?=some cur:=by subst h; simp [gcs]
theorem zf4 {d:List (List Int)} {cur:PV} {m:Nat}:(gcs d cur m).length=d.length+1+m:=by simp [gcs]; omega
def gc0 (d:List (List Int)) (m:Nat):List PV:=d.map eInts++List.replicate m .nils
theorem z5z {d:List (List Int)} {m:Nat}:(gc0 d m).length=d.length+m:=by simp [gc0]
theorem z50 {d:List (List Int)} {m i:Nat} {c:PV} (h:d.length=i) (hm:1≤m):(gc0 d m).take i++[c]++(gc0 d m).drop (i+1)=gcs d c (m - 1):=by
 subst h
 obtain ⟨m,rfl⟩:∃ n,m=n+1:=⟨m - 1,by omega⟩
 simp only[gc0,gcs,Nat.add_sub_cancel]
 rw [show d.length=(d.map eInts).length by simp,List.take_left,List.drop_length_add_append]
 simp [List.replicate_succ]
theorem ydg {d:List (List Int)} {r:List Int} {m:Nat}:gcs d (eInts r) m=gc0 (d++[r]) m:=by simp [gcs,gc0]
theorem yde {d:List (List Int)}:gc0 d 0=d.map eInts:=by simp [gc0]
theorem ydf {m:Nat}:gc0 [] m=List.replicate m .nils:=rfl
end
theorem zzs {g d:List (List Int)} {y:List Int} {row ks:List Int} {rs:List Rect} {z:Int} {r c w m xv yv vq t:Nat} (hr:r<6) (hc:c<6) (hrow:g[r]?=some row) (hz:row[c]?=some z) (hs:zr4 ks rs) (hk:ks.length≤64) :
  Ev Tryz.prog 144 [.int .i64 (r:Nat),.int .i64 (c:Nat),.ref 5 5 0,.ref 0 0 0,.ref 3 3 0] (seS g w xv yv (gcs d (.loc 7 yv 0 w) m) (y.map (.int .i64)) ks rs vq t)
   fun v S=>v = .int .i64 ((ks.idxOf z:Nat):Int)∧∃ vq t:Nat,S=seS g w xv yv (gcs d (.loc 7 yv 0 w) m) (y.map (.int .i64)) (zhy ks z) (zo3 ks rs z (zgi r c)) vq t:=by
 have hne:zo3 ks rs z (zgi r c)≠[]:=(hs.step (z:=z) (ze7 hr hc)).ne z2a.2.2
 simp only[z2b hne]
 by_cases h0:rs=[]
 ·subst h0
  rw [z76]
  exact znh (vq:=0) hr hc hrow hz hs hk rfl hs.nl
 rw [z2b h0]
 by_cases hin:ks.idxOf z=ks.length
 ·exact zra hr hc hrow hz hs hk hin
 exact zrb hr hc hrow hz hs hk hin
theorem z84 {g:List (List Int)} {nh nw:Nat} (hg:GW g nh nw):Ev Tryz.prog 103 [.int .i64 nh,.int .i64 nw,.fn 144 [.ref 5 5 0,.ref 0 0 0,.ref 3 3 0]] ⟨prS g nw .nils [],6⟩ fun v S=>∃ xv vq t:Nat,v = .loc 6 xv 0 nh∧S=seO g nw xv ((zeu g nw nh).map eInts) (zai g nw nh).1 (zai g nw nh).2 vq t:=by
 have hl:=hg.1
 obtain ⟨hg1,hg2,hg3,hg4⟩:=hg.2.2
 refine Ev.of ⟨Tryz.func103,by kernel_rfl,rfl,by kernel_rfl⟩ zam mixed (by show 3≤Tryz.f103.ntmps; decide) ?_
 refine W.r fun K hK=>?_
 simp(disch:=omega)only[↓RU,RV,RH,↓reduceIte,qE,reduceCtorEq,if_pos,↓RS,RG,qA,qM,qL,prS]
 apply hK;clear hK K
 refine W.r fun K hK=>?_
 simp(disch:=omega)only[↓RU,RV,RH,↓reduceIte,qE,reduceCtorEq,if_pos,↓RS,RG,qA,qM,qL,ty1,zab,zbl,zaa,prS,zmb,zdl,zcx]
 apply hK;clear hK K
 refine W.seq ?_
 refine W.r fun K hK=>?_
 simp(disch:=omega)only[↓RU,RV,RH,↓reduceIte,qE,reduceCtorEq,if_pos,↓RS,RG,qA,qM,qL,ty1,zab,zbl,zaa,prS]
 apply hK;clear hK K
 refine W.block ?_
 refine W.loopS [1,2,7,13,14] (fun n vs S=>∃ (i xv vq t:Nat),n=nh - i∧i≤nh∧vs=[.int .i64 nw,.fn 144 [.ref 5 5 0,.ref 0 0 0,.ref 3 3 0],.loc 6 xv 0 nh,.int .i64 nh,.int .i64 (i:Nat)]∧S=seO g nw xv (gc0 (zeu g nw i) (nh - i)) (zai g nw i).1 (zai g nw i).2 vq t) nh ?_ ?_
 ·refine ⟨7,[],[.int .i64 nw,.fn 144 [.ref 5 5 0,.ref 0 0 0,.ref 3 3 0],.loc 6 6 0 nh,.int .i64 nh,.int .i64 (0:Nat)],seO g nw 6 (gc0 (zeu g nw 0) (nh - 0)) (zai g nw 0).1 (zai g nw 0).2 0 8,?_,?_,0,6,0,8,rfl,Nat.zero_le _,rfl,rfl⟩
  ·simp [-qU,Env.put,Env.of,zaf,zb0,zak,zao,zat,zav,zb8,zb9,zd3,zb7,zbe,zca,zd2,zd4,zbg,zbf,zaw,zb6,zcb,zd1,zbc,zbb,zau,zbd,zb4,zf1,qS,qP,qC]
  simp [-qU,Env.put,Env.of,zaf,zb0,zak,zao,zat,zav,zb8,zb9,zd3,zb7,zbe,zca,zd2,zd4,zbg,zbf,zaw,zb6,zcb,zd1,zbc,zbb,zau,zbd,zb4,zf1,qS,qP,qC,prS,z74,zai,zeu,ydf,yah,zzn]
 rintro n vs S - ⟨i,xv,vq,t,rfl,h_i,rfl,rfl⟩
 refine W.r fun K hK=>?_
 simp(disch:=omega)only[↓RU,RV,RH,↓reduceIte,qE,reduceCtorEq,if_pos,w64,↓RS,RG,qA,qM,qL,zaa,prS]
 apply hK;clear hK K
 refine W.seq ?_
 refine W.cond rfl (fun h=>?_) (fun h=>?_)
 ·try simp only[RL]at h
  have hzl:=zcv (g:=g) (nw:=nw) i
  have hiw:i<nh:=by omega
  obtain ⟨hso,hsl,hsp⟩:=zgt (g:=g) hg4 hg3 i (by omega)
  refine W.skip ?_
  refine xn ?_
  refine W.seq ?_
  refine W.block ?_
  refine W.r fun K hK=>?_
  simp(disch:=omega)only[↓RU,RV,RH,↓reduceIte,qE,reduceCtorEq,if_pos,↓RS,RG,qA,qM,qL,prS]
  apply hK;clear hK K
  refine W.joinS [1,2,7,8,13,14] (fun vs S=>∃ (yv vq t:Nat),vs=[.int .i64 nw,.fn 144 [.ref 5 5 0,.ref 0 0 0,.ref 3 3 0],.loc 6 xv 0 nh,.int .i64 (i:Nat),.int .i64 nh,.int .i64 (i:Nat)]∧S=seS g nw xv yv (gcs (zeu g nw i) (.loc 7 yv 0 nw) (nh - i - 1)) ((List.replicate nw 0).map (.int .i64)) (zai g nw i).1 (zai g nw i).2 vq t) ?_ ?_
  ·
   refine W.k fun K hK=>?_
   by_cases hi0:zai g nw i=([],[])
   ·skip
    rw [hi0,z74]
    simp(disch:=omega)only[↓RU,RV,RH,↓reduceIte,qE,reduceCtorEq,if_pos,↓RS,RG,qA,qM,qL,ty1,zab,zbl,zaa,prS,zdl,zcx,z5z,zcv,z50]
    apply hK;clear hK K
    refine xn ?_
    refine ⟨8,[],[.int .i64 nw,.fn 144 [.ref 5 5 0,.ref 0 0 0,.ref 3 3 0],.loc 6 xv 0 nh,.int .i64 (i:Nat),.int .i64 nh,.int .i64 (i:Nat)],seS g nw xv t (gcs (zeu g nw i) (.loc 7 t 0 nw) (nh - i - 1)) ((List.replicate nw 0).map (.int .i64)) (zai g nw i).1 (zai g nw i).2 vq (t+2),?_,?_,t,vq,t+2,rfl,rfl⟩
    ·simp [-qU,Env.put,Env.of,zaf,zb0,zak,zao,zat,zav,zb8,zb9,zd3,zb7,zbe,zca,zd2,zd4,zbg,zbf,zaw,zb6,zcb,zd1,zbc,zbb,zau,zbd,zb4,zf1,qS,qP,qC]
    rw [hi0,z76]; simp [-qU,Env.put,Env.of,zaf,zb0,zak,zao,zat,zav,zb8,zb9,zd3,zb7,zbe,zca,zd2,zd4,zbg,zbf,zaw,zb6,zcb,zd1,zbc,zbb,zau,zbd,zb4,zf1,qS,qP,qC,prS,zzn,zti,zi8,zx0,yb9,show List.idxOf 7 [8,7]=1 from rfl]
   skip
   have hne:(zai g nw i).2≠[]:=fun e=>hi0 (by have:=hso; rw [e]at this; rw [← Prod.eta (zai g nw i),e,this.nl])
   rw [z73 hne]
   simp(disch:=omega)only[↓RU,RV,RH,↓reduceIte,qE,reduceCtorEq,if_pos,↓RS,RG,qA,qM,qL,ty1,zab,zbl,zaa,prS,zdl,zcx,z5z,zcv,z50]
   apply hK;clear hK K
   refine xn ?_
   refine ⟨7,[8,7],[.int .i64 nw,.fn 144 [.ref 5 5 0,.ref 0 0 0,.ref 3 3 0],.loc 6 xv 0 nh,.int .i64 (i:Nat),.int .i64 nh,.int .i64 (i:Nat)],seS g nw xv (t+1) (gcs (zeu g nw i) (.loc 7 (t+1) 0 nw) (nh - i - 1)) ((List.replicate nw 0).map (.int .i64)) (zai g nw i).1 (zai g nw i).2 (t+1) (t+2),?_,?_,t+1,t+1,t+2,rfl,rfl⟩
   ·simp [-qU,Env.put,Env.of,zaf,zb0,zak,zao,zat,zav,zb8,zb9,zd3,zb7,zbe,zca,zd2,zd4,zbg,zbf,zaw,zb6,zcb,zd1,zbc,zbb,zau,zbd,zb4,zf1,qS,qP,qC]
   rw [z2b hne]; simp [-qU,Env.put,Env.of,zaf,zb0,zak,zao,zat,zav,zb8,zb9,zd3,zb7,zbe,zca,zd2,zd4,zbg,zbf,zaw,zb6,zcb,zd1,zbc,zbb,zau,zbd,zb4,zf1,qS,qP,qC,prS,zzn,zti,zi8,zx0,yb9,show List.idxOf 7 [8,7]=1 from rfl]
  rintro vs S - ⟨yv,vq,t,rfl,rfl⟩
  refine W.r fun K hK=>?_
  simp(disch:=omega)only[↓RU,RV,RH,↓reduceIte,qE,reduceCtorEq,if_pos,↓RS,RG,qA,qM,qL,ty1,zab,zbl,zaa,prS,zd9,zev,zf3,zf4,hzl]
  apply hK;clear hK K
  refine W.block ?_
  refine W.loop [1,2,7,8,13,14,26,27] (fun n vs S=>∃ (j vq t:Nat),n=nw - j∧j≤nw∧vs=[.int .i64 nw,.fn 144 [.ref 5 5 0,.ref 0 0 0,.ref 3 3 0],.loc 6 xv 0 nh,.int .i64 (i:Nat),.int .i64 nh,.int .i64 (i:Nat),.int .i64 nw,.int .i64 (j:Nat)]∧S=seS g nw xv yv (gcs (zeu g nw i) (.loc 7 yv 0 nw) (nh - i - 1)) ((znl g i (zai g nw i) j++List.replicate (nw - j) 0).map (.int .i64)) (zdq g i (zai g nw i) j).1 (zdq g i (zai g nw i) j).2 vq t) nw ?_ ?_
  ·refine ⟨_,0,vq,t,rfl,Nat.zero_le _,?_,zal⟩
   simp [Env.put,Env.of]
  rintro n vs S - ⟨j,vq,t,rfl,h_j,rfl,rfl⟩
  refine W.r fun K hK=>?_
  simp(disch:=omega)only[↓RU,RV,RH,↓reduceIte,qE,reduceCtorEq,if_pos,w64,↓RS,RG,qA,qM,qL,zaa,prS]
  apply hK;clear hK K
  refine W.seq ?_
  refine W.cond rfl (fun h1=>?_) (fun h1=>?_)
  ·try simp only[RL]at h1
   have hjw:j<nw:=by omega
   obtain ⟨row,hrow,hrl,hz⟩:=hg.at_ hiw hjw
   obtain ⟨hro,hrl2,-,-⟩:=zmi (g:=g) (i:=i) (by omega) hso j (by omega)
   have hYl:(znl g i (zai g nw i) j++List.replicate (nw - j) 0).length=nw:=by simp only[List.length_append,List.length_replicate,zfd]; omega
   generalize hY:znl g i (zai g nw i) j++List.replicate (nw - j) 0=Y at hYl
   refine W.skip ?_
   refine xn ?_
   refine W.seq ?_
   refine W.block ?_
   refine W.r fun K hK=>?_
   simp(disch:=omega)only[↓RU,RV,RH,↓reduceIte,qE,reduceCtorEq,if_pos,↓RS,RG,qA,qM,qL,prS]
   apply hK;clear hK K
   refine W.region_pk 9 [some 32,some 33] [6] (by decide) (by kernel_rfl) fun K hK=>?_
   simp only[List.take_succ_cons,List.take_zero,List.drop_succ_cons,List.drop_zero]
   refine zce rfl ?_
   simp(disch:=omega)only[↓RU,RV,RH,↓reduceIte,qE,reduceCtorEq,if_pos,qN,↓RS,RG,qA,qM,qL,ty1,zab,zbl,zaa,prS,zd9,zev,zf3,zf4,hzl,zgu,za3,zcy,hYl,za4,zbj]
   refine zce rfl ?_
   simp(disch:=omega)only[↓RU,RV,RH,↓reduceIte,qE,reduceCtorEq,if_pos,qN,↓RS,RG,qA,qM,qL,ty1,zab,zbl,zaa,prS,zd9,zev,zf3,zf4,hzl,zgu,za3,zcy,hYl,za4,zbj]
   refine zc0 (.ref 6 xv i) rfl rfl rfl (fun S' hS=>?_) ?_
   ·skip
    have k6:=(hS 6 (by decide)).trans zd9
    simp(disch:=omega)only[↓RU,RV,RH,↓reduceIte,qE,reduceCtorEq,if_pos,qN,↓RS,RG,qA,qM,qL,ty1,zab,zbl,zaa,prS,zd9,zev,zf3,zf4,hzl,zgu,za3,zcy,hYl,zfn,zhv,znb,znc,k6]
   refine zc0 (.loc 7 yv 0 nw) rfl rfl rfl (fun S' hS=>?_) ?_
   ·skip
    have k6:=(hS 6 (by decide)).trans zd9
    simp(disch:=omega)only[↓RU,RV,RH,↓reduceIte,qE,reduceCtorEq,if_pos,qN,↓RS,RG,qA,qM,qL,ty1,zab,zbl,zaa,prS,zd9,zev,zf3,zf4,hzl,zgu,za3,zcy,hYl,zfn,zhv,znb,znc,k6]
   refine zce rfl ?_
   simp(disch:=omega)only[↓RU,RV,RH,↓reduceIte,qE,reduceCtorEq,if_pos,qN,↓RS,RG,qA,qM,qL,ty1,zab,zbl,zaa,prS,zd9,zev,zf3,zf4,hzl,zgu,za3,zcy,hYl,za4,zbj]
   refine zce rfl ?_
   simp(disch:=omega)only[↓RU,RV,RH,↓reduceIte,qE,reduceCtorEq,if_pos,qN,↓RS,RG,qA,qM,qL,ty1,zab,zbl,zaa,prS,zd9,zev,zf3,zf4,hzl,zgu,za3,zcy,hYl,za4,zbj]
   refine zce rfl ?_
   simp(disch:=omega)only[↓RU,RV,RH,↓reduceIte,qE,reduceCtorEq,if_pos,qN,↓RS,RG,qA,qM,qL,ty1,zab,zbl,zaa,prS,zd9,zev,zf3,zf4,hzl,zgu,za3,zcy,hYl,za4,zbj]
   refine zce rfl ?_
   simp(disch:=omega)only[↓RU,RV,RH,↓reduceIte,qE,reduceCtorEq,if_pos,qN,↓RS,RG,qA,qM,qL,ty1,zab,zbl,zaa,prS,zd9,zev,zf3,zf4,hzl,zgu,za3,zcy,hYl,za4,zbj]
   refine zce rfl ?_
   simp(disch:=omega)only[↓RU,RV,RH,↓reduceIte,qE,reduceCtorEq,if_pos,qN,↓RS,RG,qA,qM,qL,ty1,zab,zbl,zaa,prS,zd9,zev,zf3,zf4,hzl,zgu,za3,zcy,hYl,za4,zbj]
   refine zad.ev (zzs (y:=Y) (by omega) (by omega) hrow hz hro (by omega)) ?_
   rintro _ _ ⟨rfl,vq2,t2,rfl⟩
   simp(disch:=omega)only[↓RU,RV,RH,↓reduceIte,qE,reduceCtorEq,if_pos,qN,↓RS,RG,qA,qM,qL,ty1,zab,zbl,zaa,prS,zd9,zev,zf3,zf4,hzl,zgu,za3,zcy,hYl,za4,zbj]
   refine zli ?_
   simp(disch:=omega)only[↓RU,RV,RH,↓reduceIte,qE,reduceCtorEq,if_pos,qN,↓RS,RG,qA,qM,qL,ty1,zab,zbl,zaa,prS,zd9,zev,zf3,zf4,hzl,zgu,za3,zcy,hYl]
   apply hK;clear hK K
   refine XbN ?_
   refine xn ?_
   refine W.k fun K hK=>?_
   simp(disch:=omega)only[↓RU,RV,RH,↓reduceIte,qE,reduceCtorEq,if_pos,w64,↓RS,RG,qA,qM,qL,zaa,prS]
   apply hK;clear hK K
   refine xn ?_
   refine ⟨nw - (j+1),by omega,_,j+1,vq2,t2,rfl,by omega,?_,zah ?_⟩
   rotate_left
   ·rw [show znl g i (zai g nw i) (j+1)++List.replicate (nw - (j+1)) 0=(znl g i (zai g nw i) j++List.replicate (nw - j) 0).set j (((zdq g i (zai g nw i) j).1.idxOf (gz g i j):Nat):Int) from ya7 hjw,hY]; rfl
   simp [Env.put,Env.of]
  try simp only[RL]at h1
  obtain rfl:nw=j:=by omega
  obtain ⟨hro,hrl2,-,hro4⟩:=zmi (g:=g) (i:=i) (by omega) hso nw hg4
  have hne:=hro.ne (hro4 hg3)
  have hY:znl g i (zai g nw i) nw++List.replicate (nw - nw) 0=znl g i (zai g nw i) nw:=by rw [Nat.sub_self]; exact qN _
  have hYl:=zfd (g:=g) (i:=i) (s:=zai g nw i) nw
  rw [hY,z2b hne]
  generalize hYe:znl g i (zai g nw i) nw=Y at hYl
  have hYt:(Y.map (PV.int .i64)).take nw=Y.map (PV.int .i64):=qT (by rw [List.length_map]; omega)
  have hYE:eInts Y=PV.sl (Y.map (PV.int .i64)) nw:=by rw [← hYl]
  have hsr:zdq g i (zai g nw i) nw=zai g nw (i+1):=rfl
  rw [hsr]at hne ⊢
  have hzs:zeu g nw (i+1)=zeu g nw i++[Y]:=by rw [← hYe]; rfl
  refine W.exit ?_
  refine xe ?_
  refine xe ?_
  refine XBlock.hit ?_
  refine XbN ?_
  refine xn ?_
  refine W.k fun K hK=>?_
  simp(disch:=omega)only[↓RU,RV,RH,↓reduceIte,qE,reduceCtorEq,if_pos,w64,↓RS,RG,qA,qM,qL,zaa,prS]
  apply hK;clear hK K
  refine xn ?_
  refine ⟨nh - (i+1),by omega,7,[8],[.int .i64 nw,.fn 144 [.ref 5 5 0,.ref 0 0 0,.ref 3 3 0],.loc 6 xv 0 nh,.int .i64 nh,.int .i64 ((i+1:Nat):Int)],seO g nw xv (gc0 (zeu g nw (i+1)) (nh - (i+1))) (zai g nw (i+1)).1 (zai g nw (i+1)).2 t (t+1),?_,?_,i+1,xv,t+0,t+1,rfl,by omega,rfl,rfl⟩
  ·simp [-qU,Env.put,Env.of,zaf,zb0,zak,zao,zat,zav,zb8,zb9,zd3,zb7,zbe,zca,zd2,zd4,zbg,zbf,zaw,zb6,zcb,zd1,zbc,zbb,zau,zbd,zb4,zf1,qS,qP,qC]
  rw [z73 hne,hzs,← ydg]; simp [-qU,Env.put,Env.of,zaf,zb0,zak,zao,zat,zav,zb8,zb9,zd3,zb7,zbe,zca,zd2,zd4,zbg,zbf,zaw,zb6,zcb,zd1,zbc,zbb,zau,zbd,zb4,zf1,qS,qP,qC,prS,zzn,zti,zi8,yec,hYl,hYt,hYE,yae,show nh - i - 1=nh - (i+1) by omega,show List.idxOf 8 [8]=0 from rfl]
 try simp only[RL]at h
 obtain rfl:nh=i:=by omega
 refine W.exit ?_
 refine xe ?_
 refine xe ?_
 refine XBlock.hit ?_
 refine xn ?_
 refine W.r fun K hK=>?_
 simp(disch:=omega)only[↓RU,RV,RH,↓reduceIte,qE,reduceCtorEq,if_pos,↓RS,RG,qA,qM,qL,prS]
 apply hK;clear hK K
 refine W.ret ?_
 refine Br rfl ?_
 rw [Nat.sub_self,yde]
 exact ⟨_,xv,vq,t,rfl,zal⟩
def w0 (g:List (List Int)):Nat:=(g[0]?.getD []).length
def okG (g:List (List Int)):Bool:=decide (1≤g.length) && decide (g.length≤6) && decide (1≤w0 g) && decide (w0 g≤6) && !(g.any fun r=>decide ((r.length:Int)≠(w0 g:Nat)))
def stG (g:List (List Int)):List Int × List Rect:=zai g (w0 g) g.length
def zG (g:List (List Int)):List (List Int):=zeu g (w0 g) g.length
def z4e (rs:List Rect):Int:=rs.foldl (fun s b=>s+b.high*b.wide) 0
def okS (g:List (List Int)):Bool:=okG g && decide ((stG g).2.length≤9)
def zh7 (g:List (List Int)):Bool:=decide (z4e (stG g).2=((g.length*w0 g:Nat):Int))
def zeq (g:List (List Int)):PV:=if okS g then .tup [zbh (zG g) (stG g).2,.bool (zh7 g)] else .tup [.nilp,.bool false]
theorem yaz {g:List (List Int)} {row:List Int} (h:g[0]?=some row):w0 g=row.length:=by simp [w0,h]
theorem zql {g:List (List Int)}:okG g=true↔GW g g.length (w0 g):=by
 unfold okG GW
 simp only[qB,decide_eq_true_eq,Bool.not_eq_true',List.any_eq_false,decide_eq_true_eq,ne_eq,Decidable.not_not]
 constructor
 ·rintro ⟨⟨⟨⟨h1,h2⟩,h3⟩,h4⟩,h5⟩
  exact ⟨trivial,fun r hr=>by have:=h5 r hr; omega,h1,h2,h3,h4⟩
 rintro ⟨_,h5,h1,h2,h3,h4⟩
 exact ⟨⟨⟨⟨h1,h2⟩,h3⟩,h4⟩,fun r hr=>by have:=h5 r hr; omega⟩
theorem zrk {rs:List Rect} {k:Nat} {b:Rect} (h:rs[k]?=some b):z4e (rs.take (k+1))=z4e (rs.take k)+b.high*b.wide:=by
 unfold z4e; rw [zeo h]
theorem Rect.Fit.area {b:Rect} (h:b.Fit):1≤b.high*b.wide∧b.high*b.wide≤36:=by
 unfold Rect.Fit at h
 obtain ⟨h1,h2,h3,h4,h5,h6⟩:=h
 obtain ⟨m,hm⟩:∃ m:Nat,b.high=m:=⟨b.high.toNat,by omega⟩
 obtain ⟨n,hn⟩:∃ n:Nat,b.wide=n:=⟨b.wide.toNat,by omega⟩
 rw [hm,hn]
 have h7:=Nat.mul_le_mul (show m≤6 by omega) (show n≤6 by omega)
 have h8:=Nat.mul_le_mul (show 1≤m by omega) (show 1≤n by omega)
 have:((m*n:Nat):Int)=(m:Int)*n:=by simp
 omega
theorem zts {rs:List Rect} (h:∀ b∈rs,b.Fit):∀ k,0≤z4e (rs.take k)∧z4e (rs.take k)≤36*k
 | 0=>by simp [z4e]
 | k+1=>by
  have ih:=zts h k
  by_cases hk:k<rs.length
  ·obtain ⟨b,hb,hm⟩:=zae hk
   rw [zrk hb]
   have:=(h b hm).area
   omega
  rw [qT (by omega)]at ih ⊢
  omega
theorem zj0 {g:List (List Int)} {nw:Nat}:∀ {i k:Nat},k<i→(zeu g nw i)[k]?=some (znl g k (zai g nw k) nw)
 | 0,k,h=>by omega
 | i+1,k,h=>by
  unfold zeu
  by_cases e:k=i
  ·subst e; rw [List.getElem?_append_right (by rw [zcv]; exact qR _),zcv]; simp
  rw [List.getElem?_append_left (by rw [zcv]; omega)]; exact zj0 (by omega)
theorem ygv {g:List (List Int)} {nh nw:Nat} (hg:GW g nh nw):GW (zeu g nw nh) nh nw:=by
 refine ⟨zcv _,fun r hr=>?_,hg.2.2⟩
 obtain ⟨k,hk⟩:=List.getElem?_of_mem hr
 have hkl:=zaz hk
 rw [zcv]at hkl
 rw [zj0 hkl]at hk
 cases hk
 exact zfd _
theorem zkz {S:Store} {xv vq nh f:Nat} {Z:List (List Int)} {rs:List Rect} (h2:S.obs[2]?=some (.arr 2 78 2 [.loc 6 xv 0 nh,.loc 7 vq 0 rs.length])) (h6:S.obs[6]?=some (.arr xv 34 1 (Z.map eInts))) (hZ:Z.length=nh)
  (h7:S.obs[7]?=some (.arr vq 92 4 (rcs rs))):reify S true (f+4) (.ref 2 2 0)=some (zbh Z rs):=by
 have e1:reify S true (f+3) (.loc 6 xv 0 nh)=some (zea Z):=by
  rw [← hZ]
  exact zax (k:=f+2) h6 (by simp) (zm5 _)
 have e2:reify S true (f+3) (.loc 7 vq 0 rs.length)=some (ybl rs):=zax (k:=f+2) h7 (zbv _) (znd (z18 _))
 have hc:S.cellsOf 2 2=some [.loc 6 xv 0 nh,.loc 7 vq 0 rs.length]:=by simp [Store.cellsOf,h2]
 have e0:reify S true (f+4) (.ref 2 2 0)=(S.cellsOf 2 2).bind fun cells=>(cells.mapM (reify S true (f+3))).map (.ip · 0):=rfl
 rw [e0,hc,Option.bind_some,qC,e1,qC,e2]
 rfl
theorem zto {g:List (List Int)} (hsm:g.length<2147483648) (hsr:∀ r∈g,r.length<2147483648):PC Tryz.prog 108 [zea g] (zeq g) false:=by
 refine PC.of ⟨Tryz.func108,by kernel_rfl,rfl,by kernel_rfl⟩ zam mixed (by show 1≤Tryz.f108.ntmps; decide) ?_
 refine W.r fun K hK=>?_
 simp(disch:=omega)only[↓RU,RV,RH,↓reduceIte,qE,reduceCtorEq,if_pos,↓RS,RG,qA,qM,qL,ty1,zab,zbl,zaa]
 apply hK;clear hK K
 refine W.seq ?_
 refine W.r fun K hK=>?_
 have hcase:g.length<1∨6<g.length∨∃ row:List Int,g[0]?=some row∧row∈g∧(1≤g.length∧g.length≤6)∧(row.length<1∨6<row.length∨(1≤row.length∧row.length≤6)):=by
  by_cases h1:g.length<1
  ·exact .inl h1
  obtain ⟨row,h2,h3⟩:=zae (show 0<g.length by omega)
  by_cases h4:6<g.length
  ·exact .inr (.inl h4)
  exact .inr (.inr ⟨row,h2,h3,by omega,by omega⟩)
 rcases hcase with hb | hb | ⟨row,hrow,hrm,hgl,hb | hb | hb⟩
 ·skip
  have hd:decide ((g.length:Int)<1)=true:=decide_eq_true (by omega)
  simp(disch:=omega)only[↓RU,RV,RH,↓reduceIte,qE,reduceCtorEq,if_pos,w64,↓RS,RG,qA,qM,qL,ty1,zab,zbl,zaa,hd]
  apply hK;clear hK K
  refine W.cond rfl (fun h=>?_) (fun h=>?_)
  ·try simp only[RL]at h
   refine W.r fun K hK=>?_
   simp(disch:=omega)only[↓RU,RV,RH,↓reduceIte,qE,reduceCtorEq,if_pos,↓RS,RG,qA,qM,qL]
   apply hK;clear hK K
   refine W.ret ?_
   refine XThen.ret ?_
   refine Br rfl ?_
   have hok:okS g=false:=by simp [okS,okG]; omega
   rw [zeq,hok]
   rfl
  try simp only[RL]at h
  exact absurd h (by simp)
 ·skip
  have hd:decide ((g.length:Int)<1)=false:=decide_eq_false (by omega)
  have hd2:decide ((g.length:Int)>6)=true:=decide_eq_true (by omega)
  simp(disch:=omega)only[↓RU,RV,RH,↓reduceIte,qE,reduceCtorEq,if_pos,w64,↓RS,RG,qA,qM,qL,ty1,zab,zbl,zaa,hd,hd2]
  apply hK;clear hK K
  refine W.cond rfl (fun h=>?_) (fun h=>?_)
  ·try simp only[RL]at h
   refine W.r fun K hK=>?_
   simp(disch:=omega)only[↓RU,RV,RH,↓reduceIte,qE,reduceCtorEq,if_pos,↓RS,RG,qA,qM,qL]
   apply hK;clear hK K
   refine W.ret ?_
   refine XThen.ret ?_
   refine Br rfl ?_
   have hok:okS g=false:=by simp [okS,okG]; omega
   rw [zeq,hok]
   rfl
  try simp only[RL]at h
  exact absurd h (by simp)
 ·skip
  have hrl:=hsr row hrm
  have hw0:=yaz hrow
  have hd:decide ((g.length:Int)<1)=false:=decide_eq_false (by omega)
  have hd2:decide ((g.length:Int)>6)=false:=decide_eq_false (by omega)
  have hd3:decide ((row.length:Int)<1)=true:=decide_eq_true (by omega)
  simp(disch:=omega)only[↓RU,RV,RH,↓reduceIte,qE,reduceCtorEq,if_pos,w64,↓RS,RG,qA,qM,qL,ty1,zab,zbl,zaa,hd,hd2,hd3,hrow,Int.toNat_zero,Nat.zero_mul,qZ]
  apply hK;clear hK K
  refine W.cond rfl (fun h=>?_) (fun h=>?_)
  ·try simp only[RL]at h
   refine W.r fun K hK=>?_
   simp(disch:=omega)only[↓RU,RV,RH,↓reduceIte,qE,reduceCtorEq,if_pos,↓RS,RG,qA,qM,qL]
   apply hK;clear hK K
   refine W.ret ?_
   refine XThen.ret ?_
   refine Br rfl ?_
   have hok:okS g=false:=by simp [okS,okG]; omega
   rw [zeq,hok]
   rfl
  try simp only[RL]at h
  exact absurd h (by simp)
 ·skip
  have hrl:=hsr row hrm
  have hw0:=yaz hrow
  have hd:decide ((g.length:Int)<1)=false:=decide_eq_false (by omega)
  have hd2:decide ((g.length:Int)>6)=false:=decide_eq_false (by omega)
  have hd3:decide ((row.length:Int)<1)=false:=decide_eq_false (by omega)
  have hd4:decide ((row.length:Int)>6)=true:=decide_eq_true (by omega)
  simp(disch:=omega)only[↓RU,RV,RH,↓reduceIte,qE,reduceCtorEq,if_pos,w64,↓RS,RG,qA,qM,qL,ty1,zab,zbl,zaa,hd,hd2,hd3,hd4,hrow,Int.toNat_zero,Nat.zero_mul,qZ]
  apply hK;clear hK K
  refine W.cond rfl (fun h=>?_) (fun h=>?_)
  ·try simp only[RL]at h
   refine W.r fun K hK=>?_
   simp(disch:=omega)only[↓RU,RV,RH,↓reduceIte,qE,reduceCtorEq,if_pos,↓RS,RG,qA,qM,qL]
   apply hK;clear hK K
   refine W.ret ?_
   refine XThen.ret ?_
   refine Br rfl ?_
   have hok:okS g=false:=by simp [okS,okG]; omega
   rw [zeq,hok]
   rfl
  try simp only[RL]at h
  exact absurd h (by simp)
 skip
 have hrl:=hsr row hrm
 have hw0:=yaz hrow
 have hd:decide ((g.length:Int)<1)=false:=decide_eq_false (by omega)
 have hd2:decide ((g.length:Int)>6)=false:=decide_eq_false (by omega)
 have hd3:decide ((row.length:Int)<1)=false:=decide_eq_false (by omega)
 have hd4:decide ((row.length:Int)>6)=false:=decide_eq_false (by omega)
 simp(disch:=omega)only[↓RU,RV,RH,↓reduceIte,qE,reduceCtorEq,if_pos,w64,↓RS,RG,qA,qM,qL,ty1,zab,zbl,zaa,hd,hd2,hd3,hd4,hrow,Int.toNat_zero,Nat.zero_mul,qZ]
 apply hK;clear hK K
 refine W.cond rfl (fun h=>?_) (fun h=>?_)
 ·try simp only[RL]at h
  exact absurd h (by simp)
 try simp only[RL]at h
 refine W.skip ?_
 refine xn ?_
 refine W.r fun K hK=>?_
 simp(disch:=omega)only[↓RU,RV,RH,↓reduceIte,qE,reduceCtorEq,if_pos,↓RS,RG,qA,qM,qL,ty1,zab,zbl,zaa,hrow,Int.toNat_zero,Nat.zero_mul,qZ]
 apply hK;clear hK K
 refine W.seq ?_
 refine W.r fun K hK=>?_
 simp(disch:=omega)only[↓RU,RV,RH,↓reduceIte,qE,reduceCtorEq,if_pos,qN,↓RS,RG,qA,qM,qL,ty1,zab,zbl,zaa,hrow]
 refine zad.pc (zru (l:=g) hsm (g:=143) (cap:=[.ip [.int .i64 row.length] 0]) rfl rfl (test:=fun r=>decide ((r.length:Int)≠(row.length:Nat))) (fun r hr=>zzr r _ (hsr r hr))) rfl (.inl rfl) ?_
 simp(disch:=omega)only[↓RU,RV,RH,↓reduceIte,qE,reduceCtorEq,if_pos,qN,↓RS,RG,qA,qM,qL,ty1,zab,zbl,zaa,hrow]
 apply hK;clear hK K
 refine W.cond rfl (fun h1=>?_) (fun h1=>?_)
 ·try simp only[RL]at h1
  refine W.r fun K hK=>?_
  simp(disch:=omega)only[↓RU,RV,RH,↓reduceIte,qE,reduceCtorEq,if_pos,↓RS,RG,qA,qM,qL]
  apply hK;clear hK K
  refine W.ret ?_
  refine XThen.ret ?_
  refine Br rfl ?_
  have hok:okS g=false:=by unfold okS okG; rw [hw0,h1]; simp
  rw [zeq,hok]
  rfl
 try simp only[RL]at h1
 have hg:GW g g.length row.length:=by have:=zql (g:=g); rw [hw0]at this; refine this.1 ?_; unfold okG; rw [hw0,h1]; simp; omega
 obtain ⟨hso,hsl,hs1⟩:=zgt (g:=g) (nw:=row.length) (by omega) (by omega) g.length (by omega)
 have hne:=hso.ne (hs1 (by omega))
 refine W.skip ?_
 refine xn ?_
 refine W.r fun K hK=>?_
 simp(disch:=omega)only[↓RU,RV,RH,↓reduceIte,qE,reduceCtorEq,if_pos,↓RS,RG,qA,qM,qL,ty1,ty4,zab,ty8,zdg,zbl,zcn,zaa,zdh,zco]
 apply hK;clear hK K
 refine W.r fun K hK=>?_
 simp(disch:=omega)only[↓RU,RV,RH,↓reduceIte,qE,reduceCtorEq,if_pos,↓RS,RG,qA,qM,qL,zaa,yck]
 apply hK;clear hK K
 refine W.seq_pk 6 [some 42] [3] (by decide) (by kernel_rfl) fun K hK=>?_
 simp only[List.take_succ_cons,List.take_zero,List.drop_succ_cons,List.drop_zero]
 refine zc0 (.ref 2 2 0) rfl rfl rfl (fun S' hS=>?_) ?_
 ·skip
  have k3:=(hS 3 (by decide)).trans (show _=some _ from rfl)
  simp(disch:=omega)only[↓RU,RV,RH,↓reduceIte,qE,reduceCtorEq,if_pos,qN,↓RS,RG,qA,qM,qL,ty1,ty4,zab,ty8,zdg,zbl,zcn,zaa,zdh,zco,zfn,zhv,znb,znc,k3]
 refine zce rfl ?_
 simp(disch:=omega)only[↓RU,RV,RH,↓reduceIte,qE,reduceCtorEq,if_pos,qN,↓RS,RG,qA,qM,qL,ty1,ty4,zab,ty8,zdg,zbl,zcn,zaa,zdh,zco,za4,zbj]
 refine zce rfl ?_
 simp(disch:=omega)only[↓RU,RV,RH,↓reduceIte,qE,reduceCtorEq,if_pos,qN,↓RS,RG,qA,qM,qL,ty1,ty4,zab,ty8,zdg,zbl,zcn,zaa,zdh,zco,za4,zbj]
 refine zce rfl ?_
 simp(disch:=omega)only[↓RU,RV,RH,↓reduceIte,qE,reduceCtorEq,if_pos,qN,↓RS,RG,qA,qM,qL,ty1,ty4,zab,ty8,zdg,zbl,zcn,zaa,zdh,zco,za4,zbj]
 refine zce rfl ?_
 simp(disch:=omega)only[↓RU,RV,RH,↓reduceIte,qE,reduceCtorEq,if_pos,qN,↓RS,RG,qA,qM,qL,ty1,ty4,zab,ty8,zdg,zbl,zcn,zaa,zdh,zco,za4,zbj]
 refine zce rfl ?_
 simp(disch:=omega)only[↓RU,RV,RH,↓reduceIte,qE,reduceCtorEq,if_pos,qN,↓RS,RG,qA,qM,qL,ty1,ty4,zab,ty8,zdg,zbl,zcn,zaa,zdh,zco,za4,zbj]
 refine zad.ev (z84 hg) ?_
 rintro _ _ ⟨xv,vq,t,rfl,rfl⟩
 rw [z73 hne]
 simp only[prS]
 simp(disch:=omega)only[↓RU,RV,RH,↓reduceIte,qE,reduceCtorEq,if_pos,qN,↓RS,RG,qA,qM,qL,ty1,ty4,zab,ty8,zdg,zbl,zcn,zaa,zdh,zco,za4,zbj]
 refine zli ?_
 simp(disch:=omega)only[↓RU,RV,RH,↓reduceIte,qE,reduceCtorEq,if_pos,qN,↓RS,RG,qA,qM,qL,ty1,ty4,zab,ty8,zdg,zbl,zcn,zaa,zdh,zco]
 apply hK;clear hK K
 refine W.seq ?_
 refine W.r fun K hK=>?_
 simp(disch:=omega)only[↓RU,RV,RH,↓reduceIte,qE,reduceCtorEq,if_pos,w64,↓RS,RG,qA,qM,qL,ty1,ty4,zab,ty8,zdg,zbl,zcn,zaa,zdh,zco]
 apply hK;clear hK K
 refine W.cond rfl (fun h2=>?_) (fun h2=>?_)
 ·try simp only[RL]at h2
  refine W.r fun K hK=>?_
  simp(disch:=omega)only[↓RU,RV,RH,↓reduceIte,qE,reduceCtorEq,if_pos,↓RS,RG,qA,qM,qL]
  apply hK;clear hK K
  refine W.ret ?_
  refine XThen.ret ?_
  refine Br rfl ?_
  have hok:okS g=false:=by unfold okS stG; rw [hw0]; simp only[Bool.and_eq_false_iff]; right; exact decide_eq_false (by omega)
  rw [zeq,hok]
  rfl
 try simp only[RL]at h2
 refine W.skip ?_
 refine xn ?_
 refine W.r fun K hK=>?_
 simp(disch:=omega)only[↓RU,RV,RH,↓reduceIte,qE,reduceCtorEq,if_pos,↓RS,RG,qA,qM,qL]
 apply hK;clear hK K
 refine W.seq ?_
 refine W.r fun K hK=>?_
 simp(disch:=omega)only[↓RU,RV,RH,↓reduceIte,qE,reduceCtorEq,if_pos,↓RS,RG,qA,qM,qL,ty1,ty4,zab,ty8,zdg,zbl,zcn,zaa,zdh,zco]
 apply hK;clear hK K
 refine W.block ?_
 refine W.loop [5,7,59,60,61] (fun n vs S=>∃ k t:Nat,n=(zai g row.length g.length).2.length - k∧k≤(zai g row.length g.length).2.length∧vs=[.ref 3 3 0,.int .i64 (z4e ((zai g row.length g.length).2.take k)),.loc 7 vq 0 (zai g row.length g.length).2.length,.int .i64 (zai g row.length g.length).2.length,.int .i64 (k:Nat)]∧S=⟨[.arr 0 75 1 [zea g],.arr 1 3 1 [.int .i64 row.length],.arr 2 78 2 [.loc 6 xv 0 g.length,.loc 7 vq 0 (zai g row.length g.length).2.length],.arr 3 50 1 [.ref 2 2 0],.map 4 (mE (zai g row.length g.length).1),.arr 5 151 1 [.mp 4 4],.arr xv 34 1 ((zeu g row.length g.length).map eInts),.arr vq 92 4 (rcs (zai g row.length g.length).2)],t⟩) (zai g row.length g.length).2.length ?_ ?_
 ·refine ⟨8,0,t,rfl,Nat.zero_le _,?_,?_⟩
  ·simp [Env.put,Env.of,zaf,z4e]
  simp [zap]
 rintro n vs S - ⟨k,t,rfl,h_k,rfl,rfl⟩
 refine W.r fun K hK=>?_
 simp(disch:=omega)only[↓RU,RV,RH,↓reduceIte,qE,reduceCtorEq,if_pos,w64,↓RS,RG,qA,qM,qL,zaa]
 apply hK;clear hK K
 refine W.seq ?_
 refine W.cond rfl (fun h3=>?_) (fun h3=>?_)
 ·try simp only[RL]at h3
  obtain ⟨b,hb2,hbm⟩:=zae (show k<(zai g row.length g.length).2.length by omega)
  have hbf:=hso.2 b hbm
  have hba:=hbf.area
  have hsb:=zts hso.2 k
  refine W.skip ?_
  refine xn ?_
  refine W.seq ?_
  refine W.block ?_
  refine W.r fun K hK=>?_
  simp(disch:=omega)only[↓RU,RV,RH,↓reduceIte,qE,reduceCtorEq,if_pos,↓RS,RG,qA,qM,qL,ty4,zcn,zaa,zco,zl7 hb2,zbv,za0,za2]
  apply hK;clear hK K
  refine W.k fun K hK=>?_
  simp(disch:=omega)only[↓RU,RV,RH,↓reduceIte,qE,reduceCtorEq,if_pos,qN,w64,↓RS,RG,qA,qM,qL,zcn,zaa,zco,zl7 hb2,za0,zbv]
  refine zad.pc (ycw (r:=b) (by omega) (by omega)) rfl (.inl rfl) ?_
  simp(disch:=omega)only[↓RU,RV,RH,↓reduceIte,qE,reduceCtorEq,if_pos,qN,w64,↓RS,RG,qA,qM,qL,zcn,zaa,zco,zl7 hb2,za0,zbv]
  apply hK;clear hK K
  refine XbN ?_
  refine xn ?_
  refine W.k fun K hK=>?_
  simp(disch:=omega)only[↓RU,RV,RH,↓reduceIte,qE,reduceCtorEq,if_pos,w64,↓RS,RG,qA,qM,qL,zaa]
  apply hK;clear hK K
  refine xn ?_
  refine ⟨(zai g row.length g.length).2.length - (k+1),by omega,8,k+1,_,rfl,by omega,?_,rfl⟩
  simp [Env.put,Env.of,zrk hb2]
 try simp only[RL]at h3
 obtain rfl:k=(zai g row.length g.length).2.length:=by omega
 rw [List.take_length]
 refine W.exit ?_
 refine xe ?_
 refine xe ?_
 refine XBlock.hit ?_
 refine xn ?_
 refine W.seq_draw (by kernel_rfl) fun K hK=>?_
 obtain ⟨zr,hzr,hzl,-⟩:=(ygv hg).at_ (i:=0) (j:=0) (by omega) (by omega)
 have hZl:=zcv (g:=g) (nw:=row.length) g.length
 have hpr:=Nat.mul_le_mul hgl.2 hb.2
 simp(disch:=omega)only[↓RU,RV,RH,↓reduceIte,qE,reduceCtorEq,if_pos,qN,w64,↓RS,RG,qA,qM,qL,ty8,zaa,hZl,hzl]
 refine zad.pc (zpz (zeu g row.length g.length) (zai g row.length g.length).2) (zas (zkz (f:=6) rfl rfl (zcv _) rfl) rfl) (.inl rfl) ?_
 simp(disch:=omega)only[↓RU,RV,RH,↓reduceIte,qE,reduceCtorEq,if_pos,qN,w64,↓RS,RG,qA,qM,qL,ty8,zaa,hZl,hzl]
 refine zad.pc (zz2 (g:=(zeu g row.length g.length)) hzr (zai g row.length g.length).2) (zas (zkz (f:=6) rfl rfl (zcv _) rfl) rfl) (.inl rfl) ?_
 simp(disch:=omega)only[↓RU,RV,RH,↓reduceIte,qE,reduceCtorEq,if_pos,qN,w64,↓RS,RG,qA,qM,qL,ty8,zaa,hZl,hzl]
 apply hK;clear hK K
 refine W.ret ?_
 refine Br rfl ?_
 have hok:okS g=true:=by unfold okS stG; rw [hw0,zql.2 (by rw [hw0]; exact hg)]; simp; omega
 rw [zeq,hok,if_pos rfl]
 unfold stG zG zh7 stG
 rw [hw0]
 refine zhx (k:=9) (zkz (f:=5) rfl rfl (zcv _) rfl) ?_
 have he:(z4e (zai g row.length g.length).2 == (g.length:Int)*row.length)=decide (z4e (zai g row.length g.length).2=((g.length*row.length:Nat):Int)):=by rw [Int.natCast_mul]; rfl
 rw [← he]
 rfl
def zrr (t:Txt):List Int:=t.map fun c=>(c.toNat:Int)
def zba (p:List Txt):List (List Int):=p.map zrr
def zg4 (p:List Txt):Bool:=p.all fun r=>r.all zcs
def zuz (p:List Txt):PV:=if zg4 p then zeq (zba p) else .tup [.nilp,.bool false]
def okB (p:List Txt):Bool:=zg4 p && okS (zba p)
def gP (p:List Txt):List (List Int):=zG (zba p)
def rP (p:List Txt):List Rect:=(stG (zba p)).2
theorem zjw (t:Txt):(zrr t).length=t.length:=by simp [zrr]
theorem z7x {t:Txt} {k:Nat} {c:UInt8} (h:t[k]?=some c):zrr (t.take (k+1))=zrr (t.take k)++[(c.toNat:Int)]:=by simp [zrr,tk h]
theorem z3s {p:List Txt} {i:Nat} {t:Txt} (h:p[i]?=some t):zba (p.take (i+1))=zba (p.take i)++[zrr t]:=by simp [zba,tk h]
theorem zdp (p:List Txt):(zba p).length=p.length:=by simp [zba]
theorem zp9 {p:List Txt} {r:Txt} {c:UInt8} (hr:r∈p) (hc:c∈r) (h:zcs c=false):zg4 p=false:=by
 unfold zg4
 rw [List.all_eq_false]
 refine ⟨r,hr,?_⟩
 rw [Bool.not_eq_true,List.all_eq_false]
 exact ⟨c,hc,by rw [h]; exact Bool.false_ne_true⟩
theorem zt1 {g:List (List Int)} {i:Nat} (hi:i<6) {s:List Int × List Rect} (hs:zr4 s.1 s.2) {n:Nat} (hn:n≤6):∀ j,j≤n→∀ z∈znl g i s j,0≤z∧z≤s.1.length+n
 | 0,_,z,h=>by simp [znl]at h
 | j+1,hj,z,h=>by
  simp only[znl,List.mem_append,List.mem_singleton]at h
  rcases h with h | rfl
  ·exact zt1 hi hs hn j (by omega) z h
  have h1:=zg2 (ks:=(zdq g i s j).1) (z:=gz g i j)
  obtain ⟨-,h2,-,-⟩:=zmi (g:=g) hi hs j (by omega)
  omega
theorem zlc {g:List (List Int)} {nw:Nat} (hw:nw≤6) (hw1:1≤nw):∀ i,i≤6→∀ r∈zeu g nw i,∀ z∈r,0≤z∧z≤100
 | 0,_,r,h=>by simp [zeu]at h
 | i+1,hi,r,h=>by
  simp only[zeu,List.mem_append,List.mem_singleton]at h
  rcases h with h | rfl
  ·exact zlc hw hw1 i (by omega) r h
  intro z hz
  obtain ⟨h1,h2,-⟩:=zgt (g:=g) hw hw1 i (by omega)
  have:=zt1 (g:=g) (i:=i) (by omega) h1 hw nw (qR _) z hz
  omega
theorem z6z {g:List (List Int)} (h:okS g=true):GW g g.length (w0 g):=by
 unfold okS at h
 rw [qB]at h
 exact zql.1 h.1
theorem yhq {g:List (List Int)} (h:okS g=true):GW (zG g) g.length (w0 g):=ygv (z6z h)
theorem ya6 {g:List (List Int)} (h:okS g=true):∀ r∈zG g,∀ z∈r,0≤z∧z≤100:=by
 obtain ⟨-,-,h1,h2,h3,h4⟩:=z6z h
 exact zlc h4 h3 _ h2
theorem zk4 {g:List (List Int)} (h:okS g=false):zeq g = .tup [.nilp,.bool false]:=by rw [zeq,h]; rfl
theorem zje {g:List (List Int)} (h:okS g=true):zeq g = .tup [zbh (zG g) (stG g).2,.bool (zh7 g)]:=by rw [zeq,h]; rfl
theorem z31 {S:Store} {lo k:Nat} (l:List (List Int)):(l.map eInts).mapM (rfz S lo (k+1))=some (l.map eInts):=zu3 (fun _=>rfl) l
theorem yab {p:List Txt} (h:okB p=false):zuz p = .tup [.nilp,.bool false]:=by
 unfold okB at h
 unfold zuz
 cases hl:zg4 p with
 | false=>rfl
 | true=>rw [hl,Bool.true_and]at h; rw [if_pos rfl,zk4 h]
theorem z7j {p:List Txt} (h:okB p=true):zuz p = .tup [zbh (gP p) (rP p),.bool (zh7 (zba p))]:=by
 unfold okB at h
 rw [qB]at h
 rw [zuz,if_pos h.1,zje h.2]
 rfl
theorem zqk {p:List Txt} (h:okB p=true):GW (gP p) p.length (w0 (zba p)):=by
 unfold okB at h
 rw [qB]at h
 have:=yhq h.2
 rwa [zdp]at this
theorem zqj {p:List Txt} (h:okB p=true):∀ r∈gP p,∀ z∈r,0≤z∧z≤100:=by
 unfold okB at h
 rw [qB]at h
 exact ya6 h.2
theorem zyg (g:List (List Int)):(zfh g).length=g.length:=by simp [zfh]
def zny (p:List Txt):Bool:=zh7 (zba p) && decide (zfh (gP p)=p)
def zfw (p:List Txt):Bool:=okB p && zny p
def zc5 (p:List Txt):Bool:=zfw p && decide (zvo (gP p) 4 (w0 (zba p)) p.length=0)
theorem zgn {p:List Txt} (h:okB p=true):(rP p).length≤9:=by
 unfold okB okS at h
 simp only[qB,decide_eq_true_eq]at h
 exact h.2.2
theorem zm8 {p:List Txt} (h:okB p=true):1≤(rP p).length:=by
 unfold okB at h
 rw [qB]at h
 obtain ⟨-,-,h1,h2,h3,h4⟩:=z6z h.2
 obtain ⟨k1,-,k3⟩:=zgt (g:=zba p) h4 h3 _ h2
 have:=k1.1
 have:=k3 h1
 unfold rP stG
 omega
theorem z36 {g:List (List Int)} (hsm:g.length<2147483648) (hsr:∀ r∈g,r.length<2147483648) (h:okS g=false):PC Tryz.prog 108 [zea g] (.tup [.nilp,.bool false]) false:=by
 rw [← zk4 h]; exact zto hsm hsr
theorem zrc {g:List (List Int)} (hsm:g.length<2147483648) (hsr:∀ r∈g,r.length<2147483648) (h:okS g=true):PC Tryz.prog 108 [zea g] (.tup [zbh (zG g) (stG g).2,.bool (zh7 g)]) false:=by
 rw [← zje h]; exact zto hsm hsr
theorem z7l {p:List Txt} (hs:Sm p):PC Tryz.prog 116 [zan p] (zuz p) false:=by
 have hp:=hs.rows
 refine PC.of ⟨Tryz.func116,by kernel_rfl,rfl,by kernel_rfl⟩ zam mixed (by show 1≤Tryz.f116.ntmps; decide) ?_
 refine W.r fun K hK=>?_
 simp(disch:=omega)only[↓RU,RV,RH,↓reduceIte,qE,reduceCtorEq,if_pos,↓RS,RG,qA,qM,qL]
 apply hK;clear hK K
 refine W.r fun K hK=>?_
 simp(disch:=omega)only[↓RU,RV,RH,↓reduceIte,qE,reduceCtorEq,if_pos,↓RS,RG,qA,qM,qL,ty1,zab,zbl,zaa]
 apply hK;clear hK K
 refine W.joinZ [4] (fun vs S=>∃ tk:Nat,zg4 p=true∧vs=[zea (zba p)]∧S=⟨[],tk⟩) ?_ ?_
 ·
  refine W.r fun K hK=>?_
  simp(disch:=omega)only[↓RU,RV,RH,↓reduceIte,qE,reduceCtorEq,if_pos,↓RS,RG,qA,qM,qL,ty6,zac]
  apply hK;clear hK K
  refine W.block ?_
  refine W.loopZ [4,11,12,13] (fun n vs S=>∃ i v0 tk:Nat,n=p.length - i∧i≤p.length∧((p.take i).all (fun r=>r.all zcs)=true)∧vs=[.loc 0 v0 0 i,zan p,.int .i64 p.length,.int .i64 i]∧S=⟨[.arr v0 34 1 ((zba (p.take i)).map eInts)],tk⟩) (p.length) ?_ ?_
  ·refine ⟨1,[.loc 0 0 0 0,zan p,.int .i64 p.length,.int .i64 0],⟨[.arr 0 34 1 ((zba (p.take 0)).map eInts)],1⟩,?_,?_,0,0,1,rfl,by omega,rfl,rfl,rfl⟩
   ·rfl
   rfl
  rintro n vs S - ⟨i,v0,tk,rfl,h_i,hall,rfl,rfl⟩
  refine W.r fun K hK=>?_
  simp(disch:=omega)only[↓RU,RV,RH,↓reduceIte,qE,reduceCtorEq,if_pos,w64,↓RS,RG,qA,qM,qL,zaa]
  apply hK;clear hK K
  refine W.seq ?_
  refine W.cond rfl (fun h=>?_) (fun h=>?_)
  ·try simp only[RL]at h
   obtain ⟨row,hrow,hrm⟩:=zae (show i<p.length by omega)
   have hrl:=hs.cols row hrm
   have hgk:(zba (p.take i)).length=i:=by rw [zdp,List.length_take]; omega
   have hgt:((zba (p.take i)).map eInts).take i=(zba (p.take i)).map eInts:=qT (by rw [List.length_map]; omega)
   refine W.skip ?_
   refine xn ?_
   refine W.seq ?_
   refine W.block ?_
   refine W.r fun K hK=>?_
   simp(disch:=omega)only[↓RU,RV,RH,↓reduceIte,qE,reduceCtorEq,if_pos,↓RS,RG,qA,qM,qL,ty6,zac,hrow]
   apply hK;clear hK K
   refine W.r fun K hK=>?_
   simp(disch:=omega)only[↓RU,RV,RH,↓reduceIte,qE,reduceCtorEq,if_pos,↓RS,RG,qA,qM,qL,zab,zaa]
   apply hK;clear hK K
   refine W.seq ?_
   refine W.r fun K hK=>?_
   simp(disch:=omega)only[↓RU,RV,RH,↓reduceIte,qE,reduceCtorEq,if_pos,w64,↓RS,RG,qA,qM,qL,ty7,zac,zei]
   apply hK;clear hK K
   refine W.block ?_
   refine W.loop [4,11,12,13,7,19,20,21] (fun n vs S=>∃ k v1 t:Nat,n=row.length - k∧k≤row.length∧((row.take k).all zcs=true)∧vs=[.loc 0 v0 0 i,zan p,.int .i64 p.length,.int .i64 i,.loc 1 v1 0 k,.sl (row.map eB) row.length,.int .i64 row.length,.int .i64 k]∧S=⟨[.arr v0 34 1 ((zba (p.take i)).map eInts),.arr v1 3 1 ((zrr (row.take k)).map (.int .i64))],t⟩) (row.length) ?_ ?_
   ·refine ⟨2,0,_,_,rfl,Nat.zero_le _,rfl,?_,rfl⟩
    simp [Env.put,Env.of]
   rintro n vs S - ⟨k,v1,t,rfl,h_k,hrk,rfl,rfl⟩
   refine W.r fun K hK=>?_
   simp(disch:=omega)only[↓RU,RV,RH,↓reduceIte,qE,reduceCtorEq,if_pos,w64,↓RS,RG,qA,qM,qL,zaa]
   apply hK;clear hK K
   refine W.seq ?_
   refine W.cond rfl (fun h1=>?_) (fun h1=>?_)
   ·try simp only[RL]at h1
    obtain ⟨c,hc,hcm⟩:=zae (show k<row.length by omega)
    have hcb:=c.toNat_lt
    have hrowk:(zrr (row.take k)).length=k:=by rw [zjw,List.length_take]; omega
    have hrowt:((zrr (row.take k)).map (PV.int .i64)).take k=(zrr (row.take k)).map (PV.int .i64):=qT (by rw [List.length_map]; omega)
    refine W.skip ?_
    refine xn ?_
    refine W.seq ?_
    refine W.block ?_
    refine W.r fun K hK=>?_
    simp(disch:=omega)only[↓RU,RV,RH,↓reduceIte,qE,reduceCtorEq,if_pos,↓RS,RG,qA,qM,qL,ty7,zei,hc]
    apply hK;clear hK K
    refine W.seq ?_
    refine W.r fun K hK=>?_
    rcases (show (c.toNat:Int)<97∨(c.toNat:Int)>122∨(97≤c.toNat∧c.toNat≤122) by omega) with hb | hb | hb
    ·skip
     have hd:decide ((c.toNat:Int)<97)=true:=decide_eq_true hb
     have hlc:zcs c=false:=by unfold zcs; rw [decide_eq_false (by omega)]; rfl
     simp(disch:=omega)only[↓RU,RV,RH,↓reduceIte,qE,reduceCtorEq,if_pos,w64,↓RS,RG,qA,qM,qL,zei,hd]
     apply hK;clear hK K
     refine W.cond rfl (fun h2=>?_) (fun h2=>?_)
     ·try simp only[RL]at h2
      refine W.r fun K hK=>?_
      simp(disch:=omega)only[↓RU,RV,RH,↓reduceIte,qE,reduceCtorEq,if_pos,↓RS,RG,qA,qM,qL]
      apply hK;clear hK K
      refine W.ret ?_
      refine XThen.ret ?_
      refine XBlock.ret ?_
      refine XThen.ret ?_
      refine XThen.ret ?_
      refine XBlock.ret ?_
      refine XThen.ret ?_
      refine XBlock.ret ?_
      refine XThen.ret ?_
      refine XThen.ret ?_
      refine XBlock.ret ?_
      refine XThen.ret ?_
      refine Br rfl ?_
      rw [zuz,zp9 hrm hcm hlc]
      rfl
     try simp only[RL]at h2
     exact absurd h2 (by simp)
    ·skip
     have hd:decide ((c.toNat:Int)<97)=false:=decide_eq_false (by omega)
     have hd2:decide ((c.toNat:Int)>122)=true:=decide_eq_true hb
     have hlc:zcs c=false:=by unfold zcs; rw [decide_eq_false (p:=c.toNat≤122) (by omega),Bool.and_false]
     simp(disch:=omega)only[↓RU,RV,RH,↓reduceIte,qE,reduceCtorEq,if_pos,w64,↓RS,RG,qA,qM,qL,zei,hd,hd2]
     apply hK;clear hK K
     refine W.cond rfl (fun h2=>?_) (fun h2=>?_)
     ·try simp only[RL]at h2
      refine W.r fun K hK=>?_
      simp(disch:=omega)only[↓RU,RV,RH,↓reduceIte,qE,reduceCtorEq,if_pos,↓RS,RG,qA,qM,qL]
      apply hK;clear hK K
      refine W.ret ?_
      refine XThen.ret ?_
      refine XBlock.ret ?_
      refine XThen.ret ?_
      refine XThen.ret ?_
      refine XBlock.ret ?_
      refine XThen.ret ?_
      refine XBlock.ret ?_
      refine XThen.ret ?_
      refine XThen.ret ?_
      refine XBlock.ret ?_
      refine XThen.ret ?_
      refine Br rfl ?_
      rw [zuz,zp9 hrm hcm hlc]
      rfl
     try simp only[RL]at h2
     exact absurd h2 (by simp)
    skip
    have hd:decide ((c.toNat:Int)<97)=false:=decide_eq_false (by omega)
    have hd2:decide ((c.toNat:Int)>122)=false:=decide_eq_false (by omega)
    have hlc:zcs c=true:=by unfold zcs; rw [decide_eq_true hb.1,decide_eq_true hb.2]; rfl
    simp(disch:=omega)only[↓RU,RV,RH,↓reduceIte,qE,reduceCtorEq,if_pos,w64,↓RS,RG,qA,qM,qL,zei,hd,hd2]
    apply hK;clear hK K
    refine W.cond rfl (fun h2=>?_) (fun h2=>?_)
    ·try simp only[RL]at h2
     exact absurd h2 (by simp)
    try simp only[RL]at h2
    refine W.skip ?_
    refine xn ?_
    refine W.k fun K hK=>?_
    simp(disch:=omega)only[↓RU,RV,RH,↓reduceIte,qE,reduceCtorEq,if_pos,w64,↓RS,RG,qA,qM,qL,zab,zaa,zei,hrowk,hrowt,qR]
    apply hK;clear hK K
    refine XbN ?_
    refine xn ?_
    refine W.k fun K hK=>?_
    simp(disch:=omega)only[↓RU,RV,RH,↓reduceIte,qE,reduceCtorEq,if_pos,w64,↓RS,RG,qA,qM,qL,zaa]
    apply hK;clear hK K
    refine xn ?_
    refine ⟨row.length - (k+1),by omega,2,k+1,t+1,t+2,rfl,by omega,zz8 hc hrk hlc,?_,?_⟩
    ·simp [Env.put,Env.of]
    simp [zap,z7x hc]
   try simp only[RL]at h1
   obtain rfl:k=row.length:=by omega
   have hra:row.all zcs=true:=by rw [List.take_length]at hrk; exact hrk
   have hrz:=zjw row
   rw [List.take_length]
   generalize hYe:zrr row=Y at hrz
   have hYt:(Y.map (PV.int .i64)).take row.length=Y.map (PV.int .i64):=qT (by rw [List.length_map]; omega)
   have hYE:eInts Y=PV.sl (Y.map (PV.int .i64)) row.length:=by rw [← hrz]
   refine W.exit ?_
   refine xe ?_
   refine xe ?_
   refine XBlock.hit ?_
   refine xn ?_
   refine W.k fun K hK=>?_
   simp(disch:=omega)only[↓RU,RV,RH,↓reduceIte,qE,reduceCtorEq,if_pos,↓RS,RG,qA,qM,qL,ty1,zab,zbl,zaa,hgk,hgt,qR]
   apply hK;clear hK K
   refine XbN ?_
   refine xn ?_
   refine W.k fun K hK=>?_
   simp(disch:=omega)only[↓RU,RV,RH,↓reduceIte,qE,reduceCtorEq,if_pos,w64,↓RS,RG,qA,qM,qL,zaa]
   apply hK;clear hK K
   refine xn ?_
   refine ⟨p.length - (i+1),by omega,1,[.loc 0 (t+1) 0 (i+1),zan p,.int .i64 p.length,.int .i64 (i+1)],⟨[.arr (t+1) 34 1 ((zba (p.take (i+1))).map eInts)],(t+2)⟩,?_,?_,(i+1),(t+1),(t+2),rfl,by omega,zz8 hrow hall hra,rfl,rfl⟩
   ·simp [-qU,Store.frz,zdm,zd6,zbr,zc2,zct,zc8,zer,zcg,zb5,zch,zbq,zbu,zdb,zci,zc9,zcf,Env.put,Env.of,zaf,zda,qP,qC]
   simp [-qU,Store.frz,zdm,zd6,zbr,zc2,zct,zc8,zer,zcg,zb5,zch,zbq,zbu,zdb,zci,zc9,zcf,Env.put,Env.of,zaf,zda,qP,qC,z3s hrow,hYe,hYt,hYE,hrz]
  try simp only[RL]at h
  refine W.exit ?_
  refine xe ?_
  refine xe ?_
  refine XBlock.hit ?_
  refine xn ?_
  obtain rfl:i=p.length:=by omega
  rw [List.take_length]at hall ⊢
  have hgt2:((zba p).map eInts).take p.length=(zba p).map eInts:=qT (by simp [zba])
  have hgE:zea (zba p)=PV.sl ((zba p).map eInts) p.length:=by rw [← zdp p]
  refine ⟨0,[zea (zba p)],⟨[],tk⟩,?_,?_,tk,hall,rfl,rfl⟩
  ·simp [-qU,Store.frz,zdm,zd6,zbr,zc2,zct,zc8,zer,zcg,zb5,zch,zbq,zbu,zdb,zci,zc9,zcf,Env.put,Env.of,zaf,zda,qP,qC,hgt2,hgE,zdp,z31]
  simp [-qU,Store.frz,zdm,zd6,zbr,zc2,zct,zc8,zer,zcg,zb5,zch,zbq,zbu,zdb,zci,zc9,zcf,Env.put,Env.of,zaf,zda,qP,qC]
 rintro vs S - ⟨tk,hlet,rfl,rfl⟩
 refine W.r fun K hK=>?_
 cases hok:okS (zba p)
 ·skip
  simp(disch:=omega)only[↓RU,RV,RH,↓reduceIte,qE,reduceCtorEq,if_pos,qN,↓RS,RG,qA,qM,qL]
  refine zad.pc (z36 (g:=zba p) (by rw [zdp]; omega) (fun r hr=>by obtain ⟨t,ht,rfl⟩:=List.mem_map.1 hr; rw [zjw]; exact hs.cols t ht) hok) rfl (.inr rfl) ?_
  simp(disch:=omega)only[↓RU,RV,RH,↓reduceIte,qE,reduceCtorEq,if_pos,qN,↓RS,RG,qA,qM,qL]
  apply hK;clear hK K
  refine W.ret ?_
  refine Br rfl ?_
  rw [zuz,hlet,if_pos rfl,zk4 hok]
  rfl
 skip
 simp(disch:=omega)only[↓RU,RV,RH,↓reduceIte,qE,reduceCtorEq,if_pos,qN,↓RS,RG,qA,qM,qL]
 refine zad.pc (zrc (g:=zba p) (by rw [zdp]; omega) (fun r hr=>by obtain ⟨t,ht,rfl⟩:=List.mem_map.1 hr; rw [zjw]; exact hs.cols t ht) hok) rfl (.inr rfl) ?_
 simp(disch:=omega)only[↓RU,RV,RH,↓reduceIte,qE,reduceCtorEq,if_pos,qN,↓RS,RG,qA,qM,qL]
 apply hK;clear hK K
 refine W.ret ?_
 refine Br rfl ?_
 rw [zuz,hlet,if_pos rfl,zje hok]
 rfl
theorem yd8 {p:List Txt} (hs:Sm p) (h:okB p=false):PC Tryz.prog 116 [zan p] (.tup [.nilp,.bool false]) false:=by
 rw [← yab h]; exact z7l hs
theorem yac {p:List Txt} (hs:Sm p) (h:okB p=true):PC Tryz.prog 116 [zan p] (.tup [zbh (gP p) (rP p),.bool (zh7 (zba p))]) false:=by
 rw [← z7j h]; exact z7l hs
theorem z20 {p:List Txt} (hs:Sm p) (h:okB p=false):PC Tryz.prog 71 [zan p] (.tup [.nilp,.bool false]) false:=by
 refine PC.of ⟨Tryz.func71,by kernel_rfl,rfl,by kernel_rfl⟩ zam mixed (by show 1≤Tryz.f71.ntmps; decide) ?_
 refine W.r fun K hK=>?_
 simp(disch:=omega)only[↓RU,RV,RH,↓reduceIte,qE,reduceCtorEq,if_pos]
 apply hK;clear hK K
 refine W.r fun K hK=>?_
 simp(disch:=omega)only[↓RU,RV,RH,↓reduceIte,qE,reduceCtorEq,if_pos,qN]
 refine zad.pc (yd8 hs h) rfl (.inr rfl) ?_
 simp(disch:=omega)only[↓RU,RV,RH,↓reduceIte,qE,reduceCtorEq,if_pos,qN]
 apply hK;clear hK K
 refine W.r fun K hK=>?_
 simp(disch:=omega)only[↓RU,RV,RH,↓reduceIte,qE,reduceCtorEq,if_pos,qN]
 apply hK;clear hK K
 refine W.ret ?_
 refine Br rfl ?_
 rfl
theorem zy5 {p:List Txt} (hs:Sm p) (h:okB p=true):PC Tryz.prog 71 [zan p] (.tup [zbh (gP p) (rP p),.bool (zny p)]) false:=by
 have hg:=zqk h
 have hz:=zqj h
 have hrows:=hs.rows
 refine PC.of ⟨Tryz.func71,by kernel_rfl,rfl,by kernel_rfl⟩ zam mixed (by show 1≤Tryz.f71.ntmps; decide) ?_
 refine W.r fun K hK=>?_
 simp(disch:=omega)only[↓RU,RV,RH,↓reduceIte,qE,reduceCtorEq,if_pos]
 apply hK;clear hK K
 refine W.r fun K hK=>?_
 simp(disch:=omega)only[↓RU,RV,RH,↓reduceIte,qE,reduceCtorEq,if_pos,qN]
 refine zad.pc (yac hs h) rfl (.inr rfl) ?_
 simp(disch:=omega)only[↓RU,RV,RH,↓reduceIte,qE,reduceCtorEq,if_pos,qN]
 apply hK;clear hK K
 refine W.r fun K hK=>?_
 cases hf:zh7 (zba p)
 ·skip
  simp(disch:=omega)only[↓RU,RV,RH,↓reduceIte,qE,reduceCtorEq,if_pos,qN]
  apply hK;clear hK K
  refine W.ret ?_
  refine Br rfl ?_
  rw [zny,hf]
  rfl
 skip
 simp(disch:=omega)only[↓RU,RV,RH,↓reduceIte,qE,reduceCtorEq,if_pos,qN,hf]
 refine zad.pc (yet hg (rP p) hz) rfl (.inl rfl) ?_
 simp(disch:=omega)only[↓RU,RV,RH,↓reduceIte,qE,reduceCtorEq,if_pos,qN,hf]
 refine zad.pc (zwf (p:=zfh (gP p)) (q:=p) (by rw [zyg,hg.1]; omega) hs.rows) rfl (.inl rfl) ?_
 simp(disch:=omega)only[↓RU,RV,RH,↓reduceIte,qE,reduceCtorEq,if_pos,qN,hf]
 apply hK;clear hK K
 refine W.ret ?_
 refine Br rfl ?_
 rw [zny,hf]
 rfl
theorem z2z {p:List Txt} (hs:Sm p):∃ x,PC Tryz.prog 71 [zan p] (.tup [x,.bool (zfw p)]) false∧(zfw p=true→x=zbh (gP p) (rP p))∧∀ (S:Store) (k:Nat),reify S true (k+1) x=some x:=by
 unfold zfw
 cases h:okB p with
 | false=>exact ⟨_,z20 hs h,(fun h=>by cases h),fun _ _=>rfl⟩
 | true=>exact ⟨_,zy5 hs h,fun _=>rfl,fun _ _=>rfl⟩
theorem zzj {p:List Txt} (hs:Sm p) {x:PV} (hx:PC Tryz.prog 71 [zan p] (.tup [x,.bool (zfw p)]) false) (hy:zfw p=true→x=zbh (gP p) (rP p)) (hr:∀ (S:Store) (k:Nat),reify S true (k+1) x=some x):PC Tryz.prog 47 [zan p] (.tup [x,.bool (zc5 p)]) false:=by
 refine PC.of ⟨Tryz.func47,by kernel_rfl,rfl,by kernel_rfl⟩ zam mixed (by show 1≤Tryz.f47.ntmps; decide) ?_
 refine W.r fun K hK=>?_
 simp(disch:=omega)only[↓RU,RV,RH,↓reduceIte,qE,reduceCtorEq,if_pos]
 apply hK;clear hK K
 refine W.r fun K hK=>?_
 simp(disch:=omega)only[↓RU,RV,RH,↓reduceIte,qE,reduceCtorEq,if_pos,qN]
 refine zad.pc (hx) rfl (.inr rfl) ?_
 simp(disch:=omega)only[↓RU,RV,RH,↓reduceIte,qE,reduceCtorEq,if_pos,qN]
 apply hK;clear hK K
 refine W.r fun K hK=>?_
 cases hf:zfw p
 ·skip
  simp(disch:=omega)only[↓RU,RV,RH,↓reduceIte,qE,reduceCtorEq,if_pos,qN]
  apply hK;clear hK K
  refine W.ret ?_
  refine Br rfl ?_
  rw [zc5,hf]
  exact zhx (k:=9) (hr _ 8) rfl
 skip
 have hxe:=hy hf
 subst hxe
 have hok:okB p=true:=by unfold zfw at hf; rw [qB]at hf; exact hf.1
 have hg:=zqk hok
 simp(disch:=omega)only[↓RU,RV,RH,↓reduceIte,qE,reduceCtorEq,if_pos,qN,hf]
 refine zad.pc (zgm hg (rP p)) rfl (.inl rfl) ?_
 simp(disch:=omega)only[↓RU,RV,RH,↓reduceIte,qE,reduceCtorEq,if_pos,qN,hf]
 apply hK;clear hK K
 refine W.ret ?_
 refine Br rfl ?_
 rw [zc5,hf]
 rfl
theorem zhs {p:List Txt} (h:zc5 p=true):okB p=true∧zc5 p=true:=by
 refine ⟨?_,h⟩
 unfold zc5 zfw at h
 simp only[qB]at h
 exact h.1.1
theorem z3n {p:List Txt} (hs:Sm p):∃ x,PC Tryz.prog 47 [zan p] (.tup [x,.bool (zc5 p)]) false∧(zc5 p=true→x=zbh (gP p) (rP p))∧∀ (S:Store) (k:Nat),reify S true (k+1) x=some x:=by
 obtain ⟨x,h1,h2,h3⟩:=z2z hs
 refine ⟨x,zzj hs h1 h2 h3,fun h=>h2 ?_,h3⟩
 unfold zc5 at h
 rw [qB]at h
 exact h.1
def Same (n:Nat) (M:List (List Bool)) (ms:List Nat):Prop:=Sq n M∧ms.length=n∧∀ a b,a<n→b<n→zcq M a b=zpf ms a b
theorem zlo {n:Nat} {M:List (List Bool)} (h:Sq n M) {a b x y:Nat} {v:Bool} (ha:a<n) (hb:b<n):zcq (z35 M a b v) x y=if x=a∧y=b then v else zcq M x y:=by
 obtain ⟨row,hr,hl,-⟩:=h.at_ ha hb
 rw [zgv hr]
 unfold zcq
 rw [List.getElem?_set]
 by_cases hx:a=x
 ·subst hx
  rw [if_pos rfl,if_pos (by rw [h.1]; exact ha),Option.getD_some,List.getElem?_set,hr]
  by_cases hy:b=y
  ·subst hy
   rw [if_pos rfl,if_pos (by omega),if_pos ⟨rfl,rfl⟩]; rfl
  rw [if_neg hy,if_neg (fun h=>hy h.2.symm)]; rfl
 rw [if_neg hx,if_neg (fun h=>hx h.1.symm)]
theorem z0c {n:Nat} {M:List (List Bool)} (h:Sq n M) {k a:Nat} (hk:k<n) (ha:a<n):∀ i,i≤n→Sq n ((List.range i).foldl (clB k a) M) ∧
  ∀ x y,x<n→y<n→zcq ((List.range i).foldl (clB k a) M) x y=if x=a∧y<i then zcq M a y || (zcq M a k && zcq M k y) else zcq M x y
 | 0,_=>⟨h,fun x y _ _=>by simp⟩
 | i+1,hi=>by
  obtain ⟨h1,h2⟩:=z0c h hk ha i (by omega)
  rw [zb3]
  generalize (List.range i).foldl (clB k a) M=X at h1 h2 ⊢
  refine ⟨h1.clB ha,fun x y hx hy=>?_⟩
  unfold clB
  rw [zlo h1 ha (by omega),h2 a i ha (by omega),h2 a k ha hk,h2 k i hk (by omega),h2 x y hx hy]
  have e1:(if a=a∧k<i then zcq M a k || (zcq M a k && zcq M k k) else zcq M a k)=zcq M a k:=by
   split
   ·cases zcq M a k <;> simp
   rfl
  have e2:(if k=a∧i<i then zcq M a i || (zcq M a k && zcq M k i) else zcq M k i)=zcq M k i:=by rw [if_neg (by omega)]
  have e3:(if a=a∧i<i then zcq M a i || (zcq M a k && zcq M k i) else zcq M a i)=zcq M a i:=by rw [if_neg (by omega)]
  rw [e1,e2,e3]
  by_cases hxa:x=a
  ·subst hxa
   by_cases hyi:y=i
   ·subst hyi; rw [if_pos ⟨rfl,rfl⟩,if_pos ⟨rfl,by omega⟩]
   rw [if_neg (fun h=>hyi h.2)]
   by_cases hlt:y<i
   ·rw [if_pos ⟨rfl,hlt⟩,if_pos ⟨rfl,by omega⟩]
   rw [if_neg (fun h=>hlt h.2),if_neg (fun h=>hlt (by have:=h.2; omega))]
  rw [if_neg (fun h=>hxa h.1),if_neg (fun h=>hxa h.1),if_neg (fun h=>hxa h.1)]
theorem zvv {ms:List Nat} {a m x y:Nat} (ha:a<ms.length):zpf (ms.set a m) x y=if x=a then m.testBit y else zpf ms x y:=by
 unfold zpf
 rw [List.getElem?_set]
 by_cases h:a=x
 ·subst h; rw [if_pos rfl,if_pos ha,if_pos rfl]; rfl
 rw [if_neg h,if_neg (Ne.symm h)]
theorem z8y {c a:Nat} {ms:List Nat}:(allA c ms a).length=ms.length:=by unfold allA; split <;> simp
theorem Same.clA {n:Nat} {M:List (List Bool)} {ms:List Nat} (h:Same n M ms) {k a:Nat} (hk:k<n) (ha:a<n):Same n (clA n k M a) (allA k ms a):=by
 obtain ⟨h1,h2,h3⟩:=h
 obtain ⟨k1,k2⟩:=z0c h1 hk ha n (qR _)
 refine ⟨k1,by rw [z8y,h2],fun x y hx hy=>?_⟩
 unfold Fw.clA
 rw [k2 x y hx hy]
 obtain ⟨m,hm,-⟩:=zae (show a<ms.length by omega)
 obtain ⟨c,hc,-⟩:=zae (show k<ms.length by omega)
 have hak:zcq M a k=m.testBit k:=by rw [h3 a k ha hk,zh1 hm]
 cases hb:m.testBit k with
 | true =>
  rw [zz7 hm hc hb,zvv (by omega),hak,hb]
  by_cases hxa:x=a
  ·subst hxa
   rw [if_pos ⟨rfl,hy⟩,if_pos rfl,Nat.testBit_or,h3 x y hx hy,h3 k y hk hy,zh1 hm,zh1 hc,Bool.true_and]
  rw [if_neg (fun h=>hxa h.1),if_neg hxa,h3 x y hx hy]
 | false =>
  rw [z4x hm hb,hak,hb]
  by_cases hxa:x=a
  ·subst hxa; rw [if_pos ⟨rfl,hy⟩,Bool.false_and,Bool.or_false,h3 x y hx hy]
  rw [if_neg (fun h=>hxa h.1),h3 x y hx hy]
theorem Same.fold {n:Nat} {f:List (List Bool)→Nat→List (List Bool)} {g:List Nat→Nat→List Nat}:∀ (i:Nat) {M:List (List Bool)} {ms:List Nat},i≤n→(∀ M ms j,j<n→Same n M ms→Same n (f M j) (g ms j))→Same n M ms→Same n ((List.range i).foldl f M) ((List.range i).foldl g ms)
 | 0,_,_,_,_,h=>h
 | i+1,M,ms,hi,hs,h=>by
  rw [zb3,zb3]
  exact hs _ _ i (by omega) (Same.fold i (by omega) hs h)
theorem Same.close {p:List Txt} {kind:Int} {n:Nat} {M:List (List Bool)} (h:Same n M (just p kind)):Same n (zfv M) (zvs p kind):=by
 unfold zfv zvs
 rw [h.1.1,h.2.1]
 exact Same.fold n (qR _) (fun _ _ k hk h=>Same.fold n (qR _) (fun _ _ a ha h=>h.clA hk ha) h) h
section
theorem zom {α:Type} {f g:α→Bool}:∀ {l:List α},(∀ x∈l,f x=true→g x=true)→(∃ x∈l,g x=true∧f x=false)→l.countP f<l.countP g
 | [],_,h=>by obtain ⟨x,hx,_⟩:=h; simp at hx
 | a::l,h1,h2=>by
  have hle:l.countP f≤l.countP g:=List.countP_mono_left fun x hx=>h1 x (by simp [hx])
  have ha:=h1 a (by simp)
  rw [List.countP_cons,List.countP_cons]
  obtain ⟨x,hx,k1,k2⟩:=h2
  rcases List.mem_cons.1 hx with rfl | hx
  ·rw [k1,k2]; simp; omega
  have:=zom (l:=l) (fun x hx=>h1 x (by simp [hx])) ⟨x,hx,k1,k2⟩
  cases hf:f a with
  | false=>simp; omega
  | true=>rw [ha hf]; simp; omega
def ahead (n:Nat) (rk:Nat→Nat) (b:Nat):Nat:=(List.range n).countP fun a=>decide (rk a<rk b)
theorem zok {n:Nat} {rk:Nat→Nat} {a b:Nat} (ha:a<n) (h:rk a<rk b):ahead n rk a<ahead n rk b :=
 zom (fun x _ hx=>by simp at hx ⊢; omega) ⟨a,by simpa using ha,by simpa using h,by simp⟩
theorem zyp {n:Nat} {rk:Nat→Nat} {b:Nat} (hb:b<n):ahead n rk b<n:=by
 have:=zom (l:=List.range n) (f:=fun a=>decide (rk a<rk b)) (g:=fun _=>true) (fun _ _ _=>rfl) ⟨b,by simpa using hb,rfl,by simp⟩
 simpa [ahead] using this
section
variable {M:List (List Bool)} {ms:List Nat} {ws:List Int} {n:Nat} {rk:Nat→Nat}
def beg (M:List (List Bool)) (ws:List Int) (n b:Nat):Int:=hvF M (HB M ws n) b n
def Ge (n:Nat) (o out:List Int):Prop:=∀ b,b<n→zn0 o b≤zn0 out b
theorem Ge.refl (o:List Int):Ge n o o:=fun _ _=>Int.le_refl _
theorem Ge.trans {a b c:List Int} (h:Ge n a b) (k:Ge n b c):Ge n a c:=fun x hx=>Int.le_trans (h x hx) (k x hx)
theorem z9k {l:List Int} {b y:Nat} {v:Int} (hb:b<l.length):zn0 (l.set b v) y=if y=b then v else zn0 l y:=by
 unfold zn0
 rw [List.getElem?_set]
 by_cases h:b=y
 ·subst h; rw [if_pos rfl,if_pos hb,if_pos rfl]; rfl
 rw [if_neg h,if_neg (Ne.symm h)]
theorem ya9 (hu:Up M n rk) {b:Nat} (hb:b<n):HB M ws n b=beg M ws n b+zn0 ws b:=yg0 hu hb
theorem z56 {g:Nat→Int} {b:Nat}:∀ i,0≤hvF M g b i
 | 0=>by simp [hvF]
 | i+1=>by
  have:=z56 (g:=g) (b:=b) i
  rw [zou]
  split <;> omega
end
end
def kk (lv:Bool):Int:=if lv then 1 else 0
def zvn (w:Wall):List Int:=[kk w.level,w.line,w.fr,w.long]
def zut (L:Nat) (f:Int) (i:Nat):List (List Int):=if 0≤f then [[(L:Int),f,(i:Int) - f]] else []
theorem zt0 {g:List (List Int)} {q:List Txt} {lv:Bool} {L P:Nat} (hd:∀ j,j<P→zkm g lv L j=zgy q L j) {ws0:List Wall} {pre s0:List (List Int)} (h0:ws0.map zvn=pre++s0.map (kk lv :: ·)):∀ i,i≤P →
  -1≤(zff q L s0 i).1∧(zbk g lv L ws0 i).2=decide (0≤(zff q L s0 i).1) ∧
  (zbk g lv L ws0 i).1.map zvn=pre++((zff q L s0 i).2++zut L (zff q L s0 i).1 i).map (kk lv :: ·)
 | 0,_=>by
  refine ⟨by simp [zff],by simp [zlb,zff],?_⟩
  rw [zlb]
  simpa [zff,zut] using h0
 | i+1,hi=>by
  obtain ⟨h1,h2,h3⟩:=zt0 hd h0 i (by omega)
  have hdi:=hd i (by omega)
  rw [zd5]
  unfold zff zge
  rw [hdi]
  generalize zbk g lv L ws0 i=s at h2 h3 ⊢
  obtain ⟨ws,op⟩:=s
  generalize zff q L s0 i=u at h1 h2 h3 ⊢
  obtain ⟨f,l⟩:=u
  simp only at h1 h2 h3 ⊢
  cases hw:zgy q L i with
  | false =>
   simp only[zek,Bool.false_and,qF,if_false,Bool.not_false,Bool.true_and,decide_eq_true_eq]
   by_cases hf:0≤f
   ·rw [if_pos hf]
    refine ⟨by simp,by simp,?_⟩
    rw [h3]
    simp [zut,hf]
   rw [if_neg hf]
   refine ⟨h1,by simp [hf],?_⟩
   rw [h3]
   simp [zut,hf]
  | true =>
   simp only[zek,Bool.true_and,Bool.not_true,Bool.false_and,qF,if_false,if_true,decide_eq_true_eq]
   by_cases hf:0≤f
   ·have hop:op=true:=by rw [h2]; simpa using hf
    rw [if_pos hop,if_neg (show ¬ f<0 by omega)]
    refine ⟨h1,by simp [hf],?_⟩
    have hne:ws≠[]:=by
     rintro rfl
     simp [zut,hf]at h3
    obtain ⟨ws,w,rfl⟩:=z6h hne
    simp only[zut,hf,if_true,List.map_append,List.map_cons,List.map_nil,← List.append_assoc]at h3 ⊢
    obtain ⟨e1,e2⟩:=List.append_inj' h3 rfl
    simp only[List.dropLast_concat,List.getLast?_append,List.getLast?_singleton,Option.some_or,qO,Option.toList_some,List.map_append,List.map_cons,List.map_nil,e1]
    simp only[List.cons.injEq,and_true]at e2
    have e3:w.level=lv∧w.line=L∧w.fr=f∧w.long=i - f:=by
     simp only[zvn,List.cons.injEq,and_true]at e2
     refine ⟨?_,e2.2.1,e2.2.2.1,e2.2.2.2⟩
     have:=e2.1
     unfold kk at this
     cases hwl:w.level <;> cases hlv:lv <;> simp [hwl,hlv]at this ⊢
    obtain ⟨e4,e5,e6,e7⟩:=e3
    simp only[zvn,e4,e5,e6,e7,List.append_cancel_left_eq,List.cons.injEq,true_and,and_true]
    omega
   have hop:op=false:=by rw [h2]; simpa using hf
   rw [if_neg (show ¬ op=true by rw [hop]; exact Bool.false_ne_true),if_pos (show f<0 by omega)]
   refine ⟨by omega,by simp,?_⟩
   simp only[zut,hf,if_false,qN]at h3
   simp only[zut,List.map_append,h3,List.map_cons,List.map_nil]
   rw [if_pos (by omega)]
   simp [zvn]
   omega
theorem z4o {g:List (List Int)} {q:List Txt} {lv:Bool} {L:Nat} (hd:∀ j,j<q.length→zkm g lv L j=zgy q L j) {ws0:List Wall} {pre s0:List (List Int)} (h0:ws0.map zvn=pre++s0.map (kk lv :: ·)) :
  (zbk g lv L ws0 q.length).1.map zvn=pre++(zff q L s0 (q.length+1)).2.map (kk lv :: ·):=by
 obtain ⟨h1,-,h3⟩:=zt0 hd h0 q.length (qR _)
 rw [h3]
 congr 2
 have e:zff q L s0 (q.length+1)=zge (zgy q L q.length) L q.length (zff q L s0 q.length):=rfl
 rw [e,z8p]
 clear e h3 h1
 generalize zff q L s0 q.length=u
 obtain ⟨f,l⟩:=u
 unfold zge
 simp only[Bool.false_and,qF,if_false,Bool.not_false,Bool.true_and,decide_eq_true_eq,zut]
 split <;> simp
theorem zk7 {g:List (List Int)} {q:List Txt} {lv:Bool} {n:Nat} (hd:∀ L j,1≤L→L<n→j<q.length→zkm g lv L j=zgy q L j) {ws0:List Wall}:∀ i,i≤n →
  (zbp g lv q.length ws0 i).map zvn=ws0.map zvn++(zdi q i).map (kk lv :: ·)
 | 0,_=>by simp [zbp,zdi]
 | i+1,hi=>by
  have ih:=zk7 hd (ws0:=ws0) i (by omega)
  by_cases h1:1≤i
  ·rw [zej h1,znj h1]
   exact z4o (fun j hj=>hd i j h1 (by omega) hj) ih
  obtain rfl:i=0:=by omega
  simpa [zbp,zdi] using ih
theorem z4l {g:List (List Int)} {p:List Txt} (hg:zcp p=true) (hz:∀ i j,i<p.length→j<(zaq p).length→gz g i j=zbx p i j):(zcd g p.length (zaq p).length).map zvn=walls p:=by
 have hsm:=zcl hg
 obtain ⟨row0,hrow0,hrm0⟩:=zae hsm.1
 have hhd:=zcw hrow0
 have hw1:=zhe hg hrow0
 have htl:=zmo (p:=p)
 have hth:=zo4 (p:=p) (by rw [hhd]; omega)
 have d0:∀ L j,1≤L→L<(zaq p).length→j<p.length→zkm g false L j=zgy p L j:=by
  intro L j h1 h2 h3
  unfold zkm zb1 zgy
  simp only[qF,if_false]
  rw [hz j (L - 1) h3 (by omega),hz j L h3 h2]
  simp [h3]
 have d1:∀ L j,1≤L→L<p.length→j<(zcu p).length→zkm g true L j=zgy (zcu p) L j:=by
  intro L j h1 h2 h3
  have h3':=h3
  rw [htl]at h3'
  unfold zkm zb1 zgy
  simp only[if_true]
  rw [hz (L - 1) j (by omega) h3',hz L j h2 h3',zh2 (by omega) h3',zh2 h2 h3']
  simp [h3]
 unfold zcd
 have e1:=zk7 (lv:=true) d1 (ws0:=zbp g false p.length [] (zaq p).length) p.length (qR _)
 have e0:=zk7 (lv:=false) d0 (ws0:=[]) (zaq p).length (qR _)
 rw [htl]at e1
 rw [e1,e0]
 unfold walls uprights
 rw [hth]
 simp [kk]
theorem Same.orBit {n:Nat} {M:List (List Bool)} {ms:List Nat} (h:Same n M ms) {a b:Nat} (ha:a<n) (hb:b<n):Same n (z35 M a b true) (orBit ms a b):=by
 obtain ⟨h1,h2,h3⟩:=h
 obtain ⟨m,hm,-⟩:=zae (show a<ms.length by omega)
 rw [z1a hm]
 refine ⟨h1.set ha,by simp [h2],fun x y hx hy=>?_⟩
 rw [zlo h1 ha hb,zvv (by omega)]
 by_cases hxa:x=a
 ·subst hxa
  rw [if_pos rfl,Nat.testBit_or,Nat.testBit_two_pow,h3 x y hx hy,zh1 hm]
  by_cases hyb:y=b
  ·subst hyb; simp
  rw [if_neg (fun h=>hyb h.2),decide_eq_false (fun h=>hyb h.symm),Bool.or_false]
 rw [if_neg (fun h=>hxa h.1),if_neg hxa,h3 x y hx hy]
def Rm (n:Nat) (l:List Int):Prop:=∀ x∈l,0≤x∧x<n
theorem Same.relB {n:Nat} {a:Int} (ha:0≤a∧a<n):∀ {bs:List Int} {M:List (List Bool)} {ms:List Nat},Rm n bs→Same n M ms→Same n (relB a bs M) (justB a.toNat ms bs)
 | [],_,_,_,h=>h
 | b::bs,M,ms,hb,h=>by
  have hb0:=hb b (by simp)
  exact Same.relB ha (bs:=bs) (fun x hx=>hb x (by simp [hx])) (h.orBit (by omega) (by omega))
theorem Same.relW {n:Nat} {bs:List Int} (hb:Rm n bs):∀ {la:List Int} {M:List (List Bool)} {ms:List Nat},Rm n la→Same n M ms→Same n (relW M la bs) (justA bs ms la)
 | [],_,_,_,h=>h
 | a::la,M,ms,ha,h=>Same.relW hb (la:=la) (fun x hx=>ha x (by simp [hx])) (h.relB (ha a (by simp)) hb)
theorem z0g {l:List Int} {x:Int}:ddp (l++[x])=ziq (ddp l) x:=by simp [ddp,List.foldl_append]
theorem z2g {g:List (List Int)} {p:List Txt} {lv:Bool} {L fr:Nat}:∀ n,(∀ j,fr≤j→j<fr+n→zb1 g lv L j=if lv then (zbx p (L - 1) j,zbx p L j) else (zbx p j (L - 1),zbx p j L)) →
  (ddp (za6 g lv L fr n).1,ddp (za6 g lv L fr n).2)=zdc p (kk lv).toNat L fr n
 | 0,_=>by simp [za6,ddp,zdc]
 | n+1,h=>by
  have ih:=z2g n fun j a b=>h j a (by omega)
  have hx:=h (fr+n) (by omega) (by omega)
  rw [zft,zfu,z0g,z0g,hx]
  unfold zdc
  rw [← ih]
  cases lv <;> simp [kk]
theorem zni {g:List (List Int)} {p:List Txt} (hz:∀ i j,i<p.length→j<(zaq p).length→gz g i j=zbx p i j) {w:Wall} (hw:zt5 g p.length (zaq p).length w):zar g w=zcc p (zvn w):=by
 obtain ⟨line,fr,long,he,hl,hin⟩:=hw
 obtain ⟨lv,wl,wf,wg⟩:=w
 simp only[Wall.mk.injEq,true_and]at he hin
 obtain ⟨rfl,rfl,rfl⟩:=he
 unfold zar zcc zvn
 simp only[Int.toNat_natCast]
 refine z2g long fun j a b=>?_
 obtain ⟨⟨h1,h2⟩,-⟩:=hin j a b
 unfold zb1
 cases lv with
 | false =>
  simp only[qF,if_false]at h2 ⊢
  rw [hz j (line - 1) h2.2 (by omega),hz j line h2.2 h2.1]
 | true =>
  simp only[if_true]at h2 ⊢
  rw [hz (line - 1) j (by omega) h2.2,hz line j h2.1 h2.2]
theorem Same.empty {n:Nat}:Same n (zbm n) (List.replicate n 0):=by
 refine ⟨zes n,by simp,fun a b ha hb=>?_⟩
 simp [zcq,zbm,zpf,ha,hb]
theorem z17 {g:List (List Int)} {p:List Txt} {n:Nat} (hz:∀ i j,i<p.length→j<(zaq p).length→gz g i j=zbx p i j) (hrm:zvm g p.length (zaq p).length n):∀ (ws:List Wall),(∀ w∈ws,zt5 g p.length (zaq p).length w) →
  ∀ {M:List (List Bool) × List (List Bool)} {m0 m1:List Nat},Same n M.1 m0→Same n M.2 m1→Same n (ws.foldl (zmq g) M).1 ((ws.map zvn).foldl (justW p 0) m0)∧Same n (ws.foldl (zmq g) M).2 ((ws.map zvn).foldl (justW p 1) m1)
 | [],_,_,_,_,h0,h1=>⟨h0,h1⟩
 | w::ws,hws,M,m0,m1,h0,h1=>by
  have hw:=hws w (by simp)
  obtain ⟨hr1,hr2⟩:=zfb hrm hw
  rw [zni hz hw]at hr1 hr2
  rw [List.foldl_cons,List.map_cons,List.foldl_cons,List.foldl_cons]
  refine z17 hz hrm ws (fun w hw=>hws w (by simp [hw])) ?_ ?_
  ·unfold zmq justW
   rw [zni hz hw]
   cases hlv:w.level with
   | false=>simpa [zvn,kk,hlv] using h0.relW hr2 hr1
   | true=>simpa [zvn,kk,hlv] using h0
  unfold zmq justW
  rw [zni hz hw]
  cases hlv:w.level with
  | false=>simpa [zvn,kk,hlv] using h1
  | true=>simpa [zvn,kk,hlv] using h1.relW hr2 hr1
theorem yak {g:List (List Int)} {p:List Txt} {n:Nat} (hg:zcp p=true) (hn:(zay p).toNat=n) (hz:∀ i j,i<p.length→j<(zaq p).length→gz g i j=zbx p i j) (hrm:zvm g p.length (zaq p).length n) :
  Same n (zws g p.length (zaq p).length n) (zvs p 0)∧Same n (znn g p.length (zaq p).length n) (zvs p 1):=by
 obtain ⟨h0,h1⟩:=z17 hz hrm (zcd g p.length (zaq p).length) zds (M:=(zbm n,zbm n)) Same.empty Same.empty
 rw [z4l hg hz]at h0 h1
 have e:List.replicate n 0=List.replicate (zay p).toNat 0:=by rw [hn]
 rw [e]at h0 h1
 exact ⟨h0.close,h1.close⟩
def sN:Nat→(Nat→Nat)→Nat
 | 0,_=>0
 | n+1,f=>sN n f+f n
theorem zep {f g:Nat→Nat}:∀ {n:Nat},(∀ i,i<n→f i=g i)→sN n f=sN n g
 | 0,_=>rfl
 | n+1,h=>by rw [sN,sN,zep (n:=n) fun i hi=>h i (by omega),h n (by omega)]
theorem z34 {f g:Nat→Nat}:∀ {n:Nat},(∀ i,i<n→f i≤g i)→sN n f≤sN n g
 | 0,_=>qR _
 | n+1,h=>by
  have:=z34 (n:=n) fun i hi=>h i (by omega)
  have:=h n (by omega)
  simp only[sN]; omega
theorem yai {f g:Nat→Nat}:∀ {n:Nat},(∀ i,i<n→f i≤g i)→sN n f=sN n g→∀ i,i<n→f i=g i
 | 0,_,_,i,hi=>by omega
 | n+1,h,e,i,hi=>by
  have h1:=z34 (n:=n) fun i hi=>h i (by omega)
  have h2:=h n (by omega)
  simp only[sN]at e
  by_cases hin:i=n
  ·subst hin; omega
  exact yai (n:=n) (fun i hi=>h i (by omega)) (by omega) i (by omega)
theorem zq8:∀ n,sN n (fun _=>0)=0
 | 0=>rfl
 | n+1=>by rw [sN,zq8 n]
theorem z16:∀ n,sN n (fun _=>1)=n
 | 0=>rfl
 | n+1=>by rw [sN,z16 n]
theorem z15 (c:Nat):∀ n,sN n (fun _=>c)=n*c
 | 0=>by simp [sN]
 | n+1=>by rw [sN,z15 c n,Nat.succ_mul]
theorem yca {f g:Nat→Nat}:∀ n,sN n (fun i=>f i+g i)=sN n f+sN n g
 | 0=>rfl
 | n+1=>by rw [sN,sN,sN,yca n]; omega
theorem zu9 {f:Nat→Nat→Nat} {m:Nat}:∀ n,sN n (fun i=>sN m (fun j=>f i j))=sN m (fun j=>sN n (fun i=>f i j))
 | 0=>by simp only[sN]; rw [zq8]
 | n+1=>by
  simp only[sN]
  rw [zu9 n,yca]
theorem z71 {f:Nat→Nat} {c:Nat}:∀ n,sN n (fun i=>f i*c)=sN n f*c
 | 0=>by simp [sN]
 | n+1=>by rw [sN,sN,z71 n,Nat.add_mul]
def b1 (b:Bool):Nat:=if b then 1 else 0
def cnt (H W:Nat) (f:Nat→Nat→Bool):Nat:=sN H fun i=>sN W fun j=>b1 (f i j)
theorem ycx {a b:Bool} (h:a=true→b=true):b1 a≤b1 b:=by
 cases a with
 | false=>simp [b1]
 | true=>rw [h rfl]; exact qR _
theorem yfg {a b:Bool} (h:b1 a=b1 b):a=b:=by cases a <;> cases b <;> simp [b1]at h ⊢
theorem yfr {H W:Nat} {f g:Nat→Nat→Bool} (h:∀ i j,i<H→j<W→f i j=true→g i j=true):cnt H W f≤cnt H W g :=
 z34 fun i hi=>z34 fun j hj=>ycx (h i j hi hj)
theorem yfq {H W:Nat} {f g:Nat→Nat→Bool} (h:∀ i j,i<H→j<W→f i j=true→g i j=true) (e:cnt H W f=cnt H W g):∀ i j,i<H→j<W→f i j=g i j:=by
 intro i j hi hj
 have h1:=yai (n:=H) (fun i hi=>z34 fun j hj=>ycx (h i j hi hj)) e i hi
 exact yfg (yai (n:=W) (fun j hj=>ycx (h i j hi hj)) h1 j hj)
theorem zv0 {H W:Nat} {f g:Nat→Nat→Bool} (h:∀ i j,i<H→j<W→f i j=g i j):cnt H W f=cnt H W g :=
 zep fun i hi=>zep fun j hj=>by rw [h i j hi hj]
theorem zx8 {a k:Nat}:∀ {n:Nat},a+k≤n→sN n (fun i=>b1 (decide (a≤i) && decide (i<a+k)))=k
 | 0,h=>by simp [sN]; omega
 | n+1,h=>by
  rw [sN]
  by_cases hn:a+k≤n
  ·rw [zx8 hn,decide_eq_false (p:=n<a+k) (by omega),Bool.and_false]; rfl
  have hnk:n+1=a+k:=by omega
  cases k with
  | zero =>
   have:sN n (fun i=>b1 (decide (a≤i) && decide (i<a+0)))=sN n (fun _=>0):=zep fun i hi=>by
    rw [decide_eq_false (p:=a≤i) (by omega)]; rfl
   rw [this,zq8,decide_eq_false (p:=a≤n) (by omega)]; rfl
  | succ k =>
   have e:sN n (fun i=>b1 (decide (a≤i) && decide (i<a+(k+1))))=sN n (fun i=>b1 (decide (a≤i) && decide (i<a+k))):=zep fun i hi=>by
    congr 2
    apply decide_eq_decide.2; omega
   rw [e,zx8 (k:=k) (by omega),decide_eq_true (p:=a≤n) (by omega),decide_eq_true (p:=n<a+(k+1)) (by omega)]
   rfl
def inR (t l h w i j:Nat):Bool:=(decide (t≤i) && decide (i<t+h)) && (decide (l≤j) && decide (j<l+w))
theorem yff {a b:Bool}:b1 (a && b)=b1 a*b1 b:=by cases a <;> cases b <;> rfl
theorem z89 {H W t l h w:Nat} (h1:t+h≤H) (h2:l+w≤W):cnt H W (inR t l h w)=h*w:=by
 unfold cnt inR
 have e:(fun i=>sN W fun j=>b1 ((decide (t≤i) && decide (i<t+h)) && (decide (l≤j) && decide (j<l+w))))=fun i=>b1 (decide (t≤i) && decide (i<t+h))*w:=by
  funext i
  have:(fun j=>b1 ((decide (t≤i) && decide (i<t+h)) && (decide (l≤j) && decide (j<l+w))))=fun j=>b1 (decide (l≤j) && decide (j<l+w))*b1 (decide (t≤i) && decide (i<t+h)):=by
   funext j; rw [yff,Nat.mul_comm]
  rw [this,z71,zx8 h2,Nat.mul_comm]
 rw [e,z71,zx8 h1]
theorem zyv {H W n:Nat} {z:Nat→Nat→Nat} (hz:∀ i j,i<H→j<W→z i j<n):sN n (fun r=>cnt H W fun i j=>decide (z i j=r))=H*W:=by
 unfold cnt
 rw [zu9]
 have:sN H (fun i=>sN n fun r=>sN W fun j=>b1 (decide (z i j=r)))=sN H (fun _=>W):=zep fun i hi=>by
  rw [zu9]
  have:sN W (fun j=>sN n fun r=>b1 (decide (z i j=r)))=sN W (fun _=>1):=zep fun j hj=>by
   have h1:=hz i j hi hj
   have e:sN n (fun r=>b1 (decide (z i j=r)))=sN n (fun r=>b1 (decide (z i j≤r) && decide (r<z i j+1))):=zep fun r hr=>by
    congr 1
    rw [Bool.eq_iff_iff]
    simp only[qB,decide_eq_true_eq]
    omega
   rw [e,zx8 (by omega)]
  rw [this,z16]
 rw [this,z15]
structure Hull (pr:Nat→Nat→Prop) (t l lo ri:Int):Prop where
 inn:∀ a b,pr a b→t≤a∧(a:Int)≤lo∧l≤b∧(b:Int)≤ri
 at_:∃ a b:Nat,pr a b∧(a:Int)=t
 al:∃ a b:Nat,pr a b∧(b:Int)=l
 ao:∃ a b:Nat,pr a b∧(a:Int)=lo
 ar:∃ a b:Nat,pr a b∧(b:Int)=ri
theorem Hull.uniq {pr:Nat→Nat→Prop} {t l lo ri t' l' lo' ri':Int} (h:Hull pr t l lo ri) (k:Hull pr t' l' lo' ri'):t=t'∧l=l'∧lo=lo'∧ri=ri':=by
 obtain ⟨a1,b1,p1,e1⟩:=h.at_
 obtain ⟨a2,b2,p2,e2⟩:=h.al
 obtain ⟨a3,b3,p3,e3⟩:=h.ao
 obtain ⟨a4,b4,p4,e4⟩:=h.ar
 obtain ⟨a5,b5,p5,e5⟩:=k.at_
 obtain ⟨a6,b6,p6,e6⟩:=k.al
 obtain ⟨a7,b7,p7,e7⟩:=k.ao
 obtain ⟨a8,b8,p8,e8⟩:=k.ar
 have q1:=k.inn _ _ p1
 have q2:=k.inn _ _ p2
 have q3:=k.inn _ _ p3
 have q4:=k.inn _ _ p4
 have q5:=h.inn _ _ p5
 have q6:=h.inn _ _ p6
 have q7:=h.inn _ _ p7
 have q8:=h.inn _ _ p8
 omega
theorem Hull.congr {pr pr':Nat→Nat→Prop} {t l lo ri:Int} (h:Hull pr t l lo ri) (e:∀ a b,pr a b↔pr' a b):Hull pr' t l lo ri:=by
 have:pr=pr':=by funext a b; exact propext (e a b)
 exact this ▸ h
theorem Hull.add {pr:Nat→Nat→Prop} {t l lo ri:Int} (h:Hull pr t l lo ri) (i j:Nat):Hull (fun a b=>pr a b∨(a=i∧b=j)) (min t i) (min l j) (max lo i) (max ri j):=by
 refine ⟨?_,?_,?_,?_,?_⟩
 ·rintro a b (p | ⟨rfl,rfl⟩)
  ·have:=h.inn a b p; omega
  omega
 ·by_cases e:t≤i
  ·obtain ⟨a,b,p,q⟩:=h.at_; exact ⟨a,b,.inl p,by omega⟩
  exact ⟨i,j,.inr ⟨rfl,rfl⟩,by omega⟩
 ·by_cases e:l≤j
  ·obtain ⟨a,b,p,q⟩:=h.al; exact ⟨a,b,.inl p,by omega⟩
  exact ⟨i,j,.inr ⟨rfl,rfl⟩,by omega⟩
 ·by_cases e:(i:Int)≤lo
  ·obtain ⟨a,b,p,q⟩:=h.ao; exact ⟨a,b,.inl p,by omega⟩
  exact ⟨i,j,.inr ⟨rfl,rfl⟩,by omega⟩
 by_cases e:(j:Int)≤ri
 ·obtain ⟨a,b,p,q⟩:=h.ar; exact ⟨a,b,.inl p,by omega⟩
 exact ⟨i,j,.inr ⟨rfl,rfl⟩,by omega⟩
theorem Hull.one {pr:Nat→Nat→Prop} (h:∀ a b,¬ pr a b) (i j:Nat):Hull (fun a b=>pr a b∨(a=i∧b=j)) i j i j:=by
 refine ⟨?_,⟨i,j,.inr ⟨rfl,rfl⟩,rfl⟩,⟨i,j,.inr ⟨rfl,rfl⟩,rfl⟩,⟨i,j,.inr ⟨rfl,rfl⟩,rfl⟩,⟨i,j,.inr ⟨rfl,rfl⟩,rfl⟩⟩
 rintro a b (p | ⟨rfl,rfl⟩)
 ·exact absurd p (h a b)
 omega
def Gone (W i j a b:Nat):Prop:=b<W∧(a<i∨(a=i∧b<j))
theorem zlp {W i j a b:Nat} (hj:j<W):Gone W i (j+1) a b↔Gone W i j a b∨(a=i∧b=j):=by unfold Gone; omega
theorem z0z {W i a b:Nat}:Gone W i W a b↔Gone W (i+1) 0 a b:=by unfold Gone; omega
def Val (z:Nat→Nat→Int) (W i j:Nat) (v:Int) (a b:Nat):Prop:=z a b=v∧Gone W i j a b
theorem zz1 {z:Nat→Nat→Int} {W i j:Nat} {v:Int} (hj:j<W) (h:z i j=v) (a b:Nat):(Val z W i j v a b∨(a=i∧b=j))↔Val z W i (j+1) v a b:=by
 unfold Val
 rw [zlp hj]
 constructor
 ·rintro (⟨h1,h2⟩ | ⟨rfl,rfl⟩)
  ·exact ⟨h1,.inl h2⟩
  exact ⟨h,.inr ⟨rfl,rfl⟩⟩
 rintro ⟨h1,h2 | h2⟩
 ·exact .inl ⟨h1,h2⟩
 exact .inr h2
theorem zvh {z:Nat→Nat→Int} {W i j:Nat} {v:Int} (hj:j<W) (h:z i j≠v) (a b:Nat):Val z W i j v a b↔Val z W i (j+1) v a b:=by
 unfold Val
 rw [zlp hj]
 constructor
 ·rintro ⟨h1,h2⟩; exact ⟨h1,.inl h2⟩
 rintro ⟨h1,h2 | ⟨rfl,rfl⟩⟩
 ·exact ⟨h1,h2⟩
 exact absurd h1 h
theorem z8o {z:Nat→Nat→Int} {W i:Nat} {v:Int} (a b:Nat):Val z W i W v a b↔Val z W (i+1) 0 v a b:=by unfold Val; rw [z0z]
def zle (pr:Nat→Nat→Prop) (b:Rect):Prop:=Hull pr b.row b.col (b.row+b.high - 1) (b.col+b.wide - 1)
theorem zle.both {pr:Nat→Nat→Prop} {b:Rect} (h:zle pr b) (i j:Nat):zle (fun a c=>pr a c∨(a=i∧c=j)) (b.both (zgi i j)):=by
 have:=Hull.add h i j
 unfold zle Rect.both zgi
 simp only
 rw [show min b.row (i:Int)+(max (b.row+b.high) ((i:Int)+1) - min b.row (i:Int)) - 1=max (b.row+b.high - 1) i by omega,show min b.col (j:Int)+(max (b.col+b.wide) ((j:Int)+1) - min b.col (j:Int)) - 1=max (b.col+b.wide - 1) j by omega]
 exact this
theorem z9y {i j:Nat}:(zgi i j).both (zgi i j)=zgi i j:=by
 unfold Rect.both zgi
 simp only[Rect.mk.injEq]
 omega
theorem zle.one {pr:Nat→Nat→Prop} (h:∀ a b,¬ pr a b) (i j:Nat):zle (fun a b=>pr a b∨(a=i∧b=j)) (zgi i j):=by
 have:=Hull.one h i j
 unfold zle zgi
 simp only
 rw [show (i:Int)+1 - 1=i by omega,show (j:Int)+1 - 1=j by omega]
 exact this
theorem zle.congr {pr pr':Nat→Nat→Prop} {b:Rect} (h:zle pr b) (e:∀ a c,pr a c↔pr' a c):zle pr' b:=Hull.congr h e
structure SeInv (z:Nat→Nat→Int) (W i j:Nat) (ks:List Int) (rs:List Rect):Prop where
 nd:ks.Nodup
 len:rs.length=ks.length
 mem:∀ a b,Gone W i j a b→z a b∈ks
 hull:∀ (m:Nat) v b,ks[m]?=some v→rs[m]?=some b→zle (Val z W i j v) b
theorem zlt {l:List Int} (h:l.Nodup) {a b:Nat} {v:Int} (ha:l[a]?=some v) (hb:l[b]?=some v):a=b:=by
 obtain ⟨p1,q1⟩:=List.getElem?_eq_some_iff.1 ha
 obtain ⟨p2,q2⟩:=List.getElem?_eq_some_iff.1 hb
 have:=List.pairwise_iff_getElem.1 h
 rcases Nat.lt_trichotomy a b with hlt | heq | hgt
 ·exact absurd (q1.trans q2.symm) (this a b p1 p2 hlt)
 ·exact heq
 exact absurd (q2.trans q1.symm) (this b a p2 p1 hgt)
theorem zhn {ks:List Int} {z:Int} (h:¬ ks.idxOf z=ks.length):ks[ks.idxOf z]?=some z:=by
 have hl:=zg2 (ks:=ks) (z:=z)
 have:z∈ks:=by rw [← List.idxOf_lt_length_iff]; omega
 rw [List.getElem?_eq_getElem (List.idxOf_lt_length_iff.2 this),List.getElem_idxOf]
theorem zp2 {ks:List Int} {z:Int} (h:ks.idxOf z=ks.length):z ∉ ks:=by
 intro hm
 have:=List.idxOf_lt_length_iff.2 hm
 omega
theorem SeInv.step {z:Nat→Nat→Int} {W i j:Nat} {ks:List Int} {rs:List Rect} (h:SeInv z W i j ks rs) (hj:j<W):SeInv z W i (j+1) (zhy ks (z i j)) (zo3 ks rs (z i j) (zgi i j)):=by
 have hlen:=h.len
 by_cases hin:ks.idxOf (z i j)=ks.length
 ·have hnm:=zp2 hin
  have e1:zhy ks (z i j)=ks++[z i j]:=by simp [zhy,hin]
  have e2:zo3 ks rs (z i j) (zgi i j)=rs++[zgi i j]:=by
   unfold zo3 zir
   rw [if_pos hin,hin,← hlen,List.getD_eq_getElem?_getD]
   simp [z9y]
  rw [e1,e2]
  refine ⟨?_,by simp [hlen],?_,?_⟩
  ·rw [List.nodup_append]
   refine ⟨h.nd,by simp,?_⟩
   intro a ha b hb
   rw [List.mem_singleton]at hb
   rintro rfl
   exact hnm (hb ▸ ha)
  ·intro a b hab
   rw [zlp hj]at hab
   rcases hab with hab | ⟨rfl,rfl⟩
   ·exact List.mem_append_left _ (h.mem a b hab)
   simp
  intro m v b hm hb
  by_cases hml:m<ks.length
  ·rw [List.getElem?_append_left hml]at hm
   rw [List.getElem?_append_left (by omega)]at hb
   have hv:z i j≠v:=fun e=>hnm (e ▸ List.mem_of_getElem? hm)
   exact (h.hull m v b hm hb).congr (zvh hj hv)
  have hml2:=zaz hm
  simp only[List.length_append,List.length_singleton]at hml2
  obtain rfl:m=ks.length:=by omega
  rw [List.getElem?_append_right (qR _),Nat.sub_self]at hm
  rw [← hlen,List.getElem?_append_right (qR _),Nat.sub_self]at hb
  simp only[List.getElem?_cons_zero,Option.some.injEq]at hm hb
  subst hm hb
  exact (zle.one (pr:=Val z W i j (z i j)) (fun a b hab=>hnm (hab.1 ▸ h.mem a b hab.2)) i j).congr (zz1 hj rfl)
 have hk:=zhn hin
 have hkl:=zaz hk
 have e1:zhy ks (z i j)=ks:=by simp [zhy,hin]
 obtain ⟨b0,hb0,-⟩:=zae (show ks.idxOf (z i j)<rs.length by omega)
 have e2:zo3 ks rs (z i j) (zgi i j)=rs.set (ks.idxOf (z i j)) (b0.both (zgi i j)):=by
  unfold zo3 zir
  rw [if_neg hin,List.getD_eq_getElem?_getD,hb0]; rfl
 rw [e1,e2]
 refine ⟨h.nd,by simp [hlen],?_,?_⟩
 ·intro a b hab
  rw [zlp hj]at hab
  rcases hab with hab | ⟨rfl,rfl⟩
  ·exact h.mem a b hab
  exact List.mem_of_getElem? hk
 intro m v b hm hb
 rw [List.getElem?_set]at hb
 by_cases e:ks.idxOf (z i j)=m
 ·subst e
  rw [if_pos rfl,if_pos (by omega)]at hb
  cases hb
  rw [hk]at hm
  cases hm
  exact ((h.hull _ _ _ hk hb0).both i j).congr (zz1 hj rfl)
 rw [if_neg e]at hb
 have hv:z i j≠v:=by
  rintro rfl
  exact e (zlt h.nd hk hm)
 exact (h.hull m v b hm hb).congr (zvh hj hv)
theorem SeInv.nil {z:Nat→Nat→Int} {W:Nat}:SeInv z W 0 0 [] []:=by
 refine ⟨by simp,rfl,?_,by simp⟩
 intro a b h
 unfold Gone at h; omega
theorem SeInv.row {g:List (List Int)} {W i:Nat} {s:List Int × List Rect} (h:SeInv (gz g) W i 0 s.1 s.2):∀ j,j≤W→SeInv (gz g) W i j (zdq g i s j).1 (zdq g i s j).2
 | 0,_=>h
 | j+1,hj=>(SeInv.row h j (by omega)).step (by omega)
theorem SeInv.rows {g:List (List Int)} {W:Nat}:∀ i,SeInv (gz g) W i 0 (zai g W i).1 (zai g W i).2
 | 0=>SeInv.nil
 | i+1=>by
  have h:=(SeInv.rows (g:=g) (W:=W) i).row W (qR _)
  refine ⟨h.nd,h.len,fun a b hab=>h.mem a b (z0z.2 hab),fun m v b hm hb=>(h.hull m v b hm hb).congr (fun a c=>z8o a c)⟩
theorem zq9 {g:List (List Int)} {i:Nat} {s:List Int × List Rect}:∀ {j k:Nat},j≤k→∃ r,(zdq g i s k).1=(zdq g i s j).1++r
 | j,0,h=>by
  have hj:j=0:=by omega
  subst hj; exact ⟨[],by simp⟩
 | j,k+1,h=>by
  by_cases e:j=k+1
  ·subst e; exact ⟨[],by simp⟩
  obtain ⟨r,hr⟩:=zq9 (g:=g) (i:=i) (s:=s) (show j≤k by omega)
  simp only[zdq,zhy]
  split
  ·exact ⟨r++[gz g i k],by rw [hr,List.append_assoc]⟩
  exact ⟨r,hr⟩
theorem ztn {g:List (List Int)} {W:Nat}:∀ {i k:Nat},i≤k→∃ r,(zai g W k).1=(zai g W i).1++r
 | i,0,h=>by
  have hi:i=0:=by omega
  subst hi; exact ⟨[],by simp⟩
 | i,k+1,h=>by
  by_cases e:i=k+1
  ·subst e; exact ⟨[],by simp⟩
  obtain ⟨r,hr⟩:=ztn (g:=g) (W:=W) (show i≤k by omega)
  obtain ⟨r2,hr2⟩:=zq9 (g:=g) (i:=k) (s:=zai g W k) (Nat.zero_le W)
  simp only[zai]
  refine ⟨r++r2,?_⟩
  rw [hr2,← List.append_assoc,← hr]; rfl
theorem zp1 {l r:List Int} {x:Int} (h:¬ l.idxOf x=l.length):(l++r).idxOf x=l.idxOf x:=by
 have hl:=zg2 (ks:=l) (z:=x)
 have hm:x∈l:=by rw [← List.idxOf_lt_length_iff]; omega
 rw [List.idxOf_append,if_pos hm]
theorem z6c {l r:List Int} {x:Int} (h:l.idxOf x=l.length):(l++[x]++r).idxOf x=l.length:=by
 have hm:x ∉ l:=zp2 h
 rw [List.append_assoc,List.idxOf_append,if_neg hm]
 simp
theorem zNum {g:List (List Int)} {W nh i j:Nat} (hi:i<nh) (hj:j<W):((zdq g i (zai g W i) j).1.idxOf (gz g i j))=(zai g W nh).1.idxOf (gz g i j):=by
 obtain ⟨r,hr⟩:=ztn (g:=g) (W:=W) (show i+1≤nh by omega)
 obtain ⟨r2,hr2⟩:=zq9 (g:=g) (i:=i) (s:=zai g W i) (show j+1≤W by omega)
 have e:(zai g W nh).1=zhy (zdq g i (zai g W i) j).1 (gz g i j)++(r2++r):=by
  rw [hr,← List.append_assoc]
  congr 1
 rw [e]
 generalize (zdq g i (zai g W i) j).1=ks
 unfold zhy
 by_cases hin:ks.idxOf (gz g i j)=ks.length
 ·rw [if_pos hin,z6c hin,hin]
 rw [if_neg hin,zp1 hin]
def inZ (p:List Txt) (r:Int) (i j:Nat):Bool:=decide (zbx p i j=r)
theorem zwl {p:List Txt} {i k:Nat} {row:Txt} {c:UInt8} {r:Int} (h:p[i]?=some row) (hc:row[k]?=some c):zkc r c=inZ p r i k:=by
 unfold zkc inZ; rw [zcm h hc]
theorem znp {p:List Txt} {i:Nat} {row:Txt} {r:Int} (h:p[i]?=some row) (n:Int):∀ k,k≤row.length→zdd r n (row.take k)=n+sN k fun j=>b1 (inZ p r i j)
 | 0,_=>by simp [zdd,sN]
 | k+1,hk=>by
  obtain ⟨c,hc,-⟩:=zae (show k<row.length by omega)
  have ih:=znp (r:=r) h n k (by omega)
  unfold zdd at ih ⊢
  rw [zeo hc,ih,sN,zwl h hc]
  cases inZ p r i k <;> simp [b1]
  omega
theorem zp5 {p:List Txt} {W:Nat} (hW:∀ row∈p,row.length=W) {r:Int}:∀ i,i≤p.length→(p.take i).foldl (zdd r) 0=((sN i fun i=>sN W fun j=>b1 (inZ p r i j):Nat):Int)
 | 0,_=>by simp [sN]
 | i+1,hi=>by
  obtain ⟨row,hr,hm⟩:=zae (show i<p.length by omega)
  have ih:=zp5 hW (r:=r) i (by omega)
  have hl:=hW row hm
  have:=znp (r:=r) hr (((sN i fun i=>sN W fun j=>b1 (inZ p r i j):Nat):Int)) W (by omega)
  rw [qT (by omega)]at this
  rw [zeo hr,ih,this,sN]
  simp
theorem z27 {p:List Txt} {W:Nat} (hW:∀ row∈p,row.length=W) {r:Int}:zfj p r=((cnt p.length W (inZ p r):Nat):Int):=by
 have:=zp5 hW (r:=r) p.length (qR _)
 rwa [List.take_length]at this
def zj4 (H W:Nat) (pr:Nat→Nat→Prop) (b:Box):Prop:=((∀ a c,¬ pr a c)∧b=⟨H,W,-1,-1⟩)∨Hull pr b.top b.left b.low b.right
theorem zj4.congr {H W:Nat} {pr pr':Nat→Nat→Prop} {b:Box} (h:zj4 H W pr b) (e:∀ a c,pr a c↔pr' a c):zj4 H W pr' b:=by
 have:pr=pr':=by funext a b; exact propext (e a b)
 exact this ▸ h
theorem zj4.add {H W:Nat} {pr:Nat→Nat→Prop} {b:Box} (h:zj4 H W pr b) {i k:Nat} (hi:i<H) (hk:k<W):zj4 H W (fun a c=>pr a c∨(a=i∧c=k)) ⟨min b.top i,min b.left k,max b.low i,max b.right k⟩:=by
 rcases h with ⟨h1,rfl⟩ | h
 ·right
  have:=Hull.one h1 i k
  simp only
  rw [show min (H:Int) i=i by omega,show min (W:Int) k=k by omega,show max (-1:Int) i=i by omega,show max (-1:Int) k=k by omega]
  exact this
 exact .inr (Hull.add h i k)
theorem zx5 {p:List Txt} {H W i:Nat} {row:Txt} {r:Int} (hr:p[i]?=some row) (hW:row.length=W) (hi:i<H) {b:Box} (h:zj4 H W (Val (zbx p) W i 0 r) b):∀ k,k≤W→zj4 H W (Val (zbx p) W i k r) (zmf r i b row k)
 | 0,_=>by simpa [zmf] using h
 | k+1,hk=>by
  obtain ⟨c,hc,-⟩:=zae (show k<row.length by omega)
  have ih:=zx5 hr hW hi h k (by omega)
  rw [zjv hc]
  unfold zki
  simp only
  rw [zwl hr hc]
  by_cases e:zbx p i k=r
  ·rw [if_pos (by unfold inZ; exact decide_eq_true e)]
   exact (ih.add hi (by omega)).congr (zz1 (by omega) e)
  rw [if_neg (by unfold inZ; rw [decide_eq_false e]; exact Bool.false_ne_true)]
  exact ih.congr (zvh (by omega) e)
theorem zvw {p:List Txt} {W:Nat} (hW:∀ row∈p,row.length=W) (hh:(zaq p).length=W) {r:Int}:∀ i,i≤p.length→zj4 p.length W (Val (zbx p) W i 0 r) (zim p r i)
 | 0,_=>by
  left
  refine ⟨fun a c h=>?_,by simp [zim,hh]⟩
  have:=h.2
  unfold Gone at this; omega
 | i+1,hi=>by
  obtain ⟨row,hr,hm⟩:=zae (show i<p.length by omega)
  rw [zmt hr]
  have:=zx5 (r:=r) hr (hW row hm) (by omega) (zvw hW hh i (by omega)) W (qR _)
  rw [hW row hm]
  exact this.congr fun a c=>z8o a c
theorem z45 {p:List Txt} {W:Nat} (hW:∀ row∈p,row.length=W) (hh:(zaq p).length=W) {r:Int}:zj4 p.length W (Val (zbx p) W p.length 0 r) (zpg p r):=by
 rw [← zlg]; exact zvw hW hh p.length (qR _)
theorem Hull.nat {z:Nat→Nat→Int} {H W:Nat} {v:Int} {t l lo ri:Int} (h:Hull (Val z W H 0 v) t l lo ri):∃ t' l' h' w':Nat,t=t'∧l=l'∧lo=t'+h' - 1∧ri=l'+w' - 1∧1≤h'∧1≤w'∧t'+h'≤H∧l'+w'≤W ∧
  ∀ i j,i<H→j<W→z i j=v→inR t' l' h' w' i j=true:=by
 obtain ⟨a1,b1,p1,e1⟩:=h.at_
 obtain ⟨a2,b2,p2,e2⟩:=h.al
 obtain ⟨a3,b3,p3,e3⟩:=h.ao
 obtain ⟨a4,b4,p4,e4⟩:=h.ar
 have q1:=h.inn _ _ p1
 have q2:=h.inn _ _ p2
 obtain ⟨-,g3,g3'⟩:=p3
 obtain ⟨-,g4,g4'⟩:=p4
 refine ⟨a1,b2,a3+1 - a1,b4+1 - b2,e1.symm,e2.symm,by omega,by omega,by omega,by omega,by omega,by omega,fun i j hi hj hv=>?_⟩
 have:=h.inn i j ⟨hv,by unfold Gone; omega⟩
 unfold inR
 simp only[qB,decide_eq_true_eq]
 omega
def u8I (c:UInt8):Int:=(c.toNat:Int)
theorem yev {a b:UInt8} (h:u8I a=u8I b):a=b:=by
 unfold u8I at h
 exact UInt8.toNat_inj.1 (by omega)
theorem zwk {α β:Type} [DecidableEq α] [DecidableEq β] {f:α→β} (hf:∀ a b,f a=f b→a=b) {c:α}:∀ (l:List α),(l.map f).idxOf (f c)=l.idxOf c
 | []=>rfl
 | a::l=>by
  rw [List.map_cons,List.idxOf_cons,List.idxOf_cons,zwk hf l]
  by_cases e:a=c
  ·subst e; simp
  have e2:f a≠f c:=fun h=>e (hf _ _ h)
  rw [show (f a == f c)=false by simpa using e2,show (a == c)=false by simpa using e]
theorem ydk {p:List Txt} {i k:Nat} {row:Txt} {c:UInt8} (h:p[i]?=some row) (hc:row[k]?=some c):gz (zba p) i k=u8I c:=by
 simp [gz,zba,zrr,h,hc,u8I]
theorem zsx {p:List Txt} {i:Nat} {row:Txt} (h:p[i]?=some row) {o:List UInt8} {s:List Int × List Rect} (ho:o.map u8I=s.1):∀ j,j≤row.length →
  ((row.take j).foldl zdz (o,[])).1.map u8I=(zdq (zba p) i s j).1∧((row.take j).foldl zdz (o,[])).2=zoi (znl (zba p) i s j)
 | 0,_=>⟨by simpa [zdq] using ho,by simp [znl,zoi]⟩
 | j+1,hj=>by
  obtain ⟨c,hc,-⟩:=zae (show j<row.length by omega)
  obtain ⟨h1,h2⟩:=zsx h ho j (by omega)
  rw [zeo hc]
  generalize (row.take j).foldl zdz (o,[])=q at h1 h2 ⊢
  have hz:=ydk h hc
  have hi:(zdq (zba p) i s j).1.idxOf (gz (zba p) i j)=q.1.idxOf c:=by rw [← h1,hz,zwk fun a b=>yev]
  have hl:(zdq (zba p) i s j).1.length=q.1.length:=by rw [← h1,List.length_map]
  constructor
  ·simp only[zdz,zdq,zhy]
   rw [hi,hl]
   split
   ·rw [List.map_append,h1,hz]; rfl
   exact h1
  simp only[zdz,znl]
  rw [hi,h2]
  simp [zoi,z4r]
theorem z07 {p:List Txt} {W:Nat} (hW:∀ row∈p,row.length=W):∀ i,i≤p.length →
  ((p.take i).foldl zn3 ([],[])).1.map u8I=(zai (zba p) W i).1∧((p.take i).foldl zn3 ([],[])).2=zfh (zeu (zba p) W i)
 | 0,_=>by simp [zai,zeu,zfh]
 | i+1,hi=>by
  obtain ⟨row,hr,hm⟩:=zae (show i<p.length by omega)
  obtain ⟨h1,h2⟩:=z07 hW i (by omega)
  rw [zeo hr]
  generalize (p.take i).foldl zn3 ([],[])=q at h1 h2 ⊢
  have hl:=hW row hm
  obtain ⟨k1,k2⟩:=zsx hr h1 row.length (qR _)
  rw [List.take_length,hl]at k1 k2
  constructor
  ·simp only[zn3,zqf,zai]; exact k1
  simp only[zn3,zqf,zeu,zfh,List.map_append,List.map_cons,List.map_nil]
  rw [k2,h2]
  rfl
theorem zf9 {p:List Txt}:w0 (zba p)=(zaq p).length:=by
 cases p with
 | nil=>rfl
 | cons a p=>simp [w0,zba,zrr,zaq]
theorem zpy {p:List Txt} (hg:zcp p=true):∀ row∈p,row.length=(zaq p).length:=by
 intro row hm
 obtain ⟨i,hi⟩:=List.getElem?_of_mem hm
 exact zdw hg hi
theorem zm7 {p:List Txt} (hg:zcp p=true):names p=zfh (gP p):=by
 have:=(z07 (zpy hg) p.length (qR _)).2
 rw [List.take_length]at this
 unfold names zup gP zG
 rw [this,zf9,zdp]
theorem z00 {p:List Txt}:zcp p=(zg4 p && okG (zba p)):=by
 rw [Bool.eq_iff_iff,qB,zql,zdp,zf9]
 unfold zcp zg4 GW zr2
 simp only[qB,decide_eq_true_eq,List.all_eq_true,zdp,true_and]
 constructor
 ·rintro ⟨⟨h1,h2⟩,h3⟩
  obtain ⟨row0,hr0,hm0⟩:=zae (show 0<p.length by omega)
  have hh:=zcw hr0
  have h4:=h1 row0 hm0
  refine ⟨fun r hr=>(h1 r hr).2,fun r hr=>?_,h2,h3,by rw [hh]; omega,by rw [hh]; omega⟩
  obtain ⟨t,ht,rfl⟩:=List.mem_map.1 hr
  rw [zjw]; exact (h1 t ht).1.1.1
 rintro ⟨h1,h2,h3,h4,h5,h6⟩
 refine ⟨⟨fun r hr=>?_,h3⟩,h4⟩
 have:=h2 (zrr r) (List.mem_map.2 ⟨r,hr,rfl⟩)
 rw [zjw]at this
 exact ⟨⟨⟨this,by omega⟩,by omega⟩,h1 r hr⟩
theorem zz4 {g:List (List Int)} {i:Nat} {s:List Int × List Rect}:∀ {j k:Nat},k<j→(znl g i s j)[k]?=some (((zdq g i s k).1.idxOf (gz g i k):Nat):Int)
 | 0,k,h=>by omega
 | j+1,k,h=>by
  unfold znl
  by_cases e:k=j
  ·subst e; rw [List.getElem?_append_right (by rw [zfd]; exact qR _),zfd]; simp
  rw [List.getElem?_append_left (by rw [zfd]; omega)]; exact zz4 (by omega)
def keys (p:List Txt):List Int:=(zai (zba p) (zaq p).length p.length).1
theorem z5y {p:List Txt}:gP p=zeu (zba p) (zaq p).length p.length:=by unfold gP zG; rw [zf9,zdp]
theorem z99 {p:List Txt}:rP p=(zai (zba p) (zaq p).length p.length).2:=by unfold rP stG; rw [zf9,zdp]
theorem z5x {p:List Txt} {i j:Nat} (hi:i<p.length) (hj:j<(zaq p).length):gz (gP p) i j=(((keys p).idxOf (gz (zba p) i j):Nat):Int):=by
 rw [z5y]
 unfold gz
 rw [zj0 hi,Option.getD_some,zz4 hj,Option.getD_some]
 congr 1
 exact zNum hi hj
theorem zg3 (p:List Txt):SeInv (gz (zba p)) (zaq p).length p.length 0 (keys p) (rP p):=by
 rw [z99]; exact SeInv.rows p.length
theorem zor {H W i j:Nat} (hi:i<H) (hj:j<W):Gone W H 0 i j:=⟨hj,.inl hi⟩
theorem zf2 {p:List Txt}:zvm (gP p) p.length (zaq p).length (rP p).length:=by
 intro i j hi hj
 rw [z5x hi hj]
 have hm:=(zg3 p).mem i j (zor hi hj)
 have hl:=(zg3 p).len
 have:=List.idxOf_lt_length_iff.2 hm
 omega
structure Named (p:List Txt):Prop where
 hg:zcp p=true
 ht:zfh (gP p)=p
theorem Named.cell {p:List Txt} (h:Named p) {i j:Nat} (hi:i<p.length) (hj:j<(zaq p).length):gz (gP p) i j=zbx p i j:=by
 have hgz:=z5x hi hj
 have hm:=(zg3 p).mem i j (zor hi hj)
 have hsm:=zcl h.hg
 obtain ⟨row0,hr0,hm0⟩:=zae hsm.1
 have hh:=zcw hr0
 have hw6:=hsm.2.2 row0 hm0
 have hw1:=zhe h.hg hr0
 rw [← hh]at hw6 hw1
 have hb:=zlc (g:=zba p) hw6 hw1 p.length hsm.2.1
 rw [← z5y]at hb
 have hrl:(gP p).length=p.length:=by rw [z5y]; exact zcv _
 obtain ⟨zr,hzr,hzm⟩:=zae (show i<(gP p).length by omega)
 have hzl:zr.length=(zaq p).length:=by
  have e:=hzr
  rw [z5y,zj0 hi]at e
  cases e
  exact zfd _
 obtain ⟨z,hz,hzm2⟩:=zae (show j<zr.length by omega)
 have hz1:=hb zr hzm z hzm2
 have e1:gz (gP p) i j=z:=by simp [gz,hzr,hz]
 have e2:p[i]?=some (zoi zr):=by
  have:=zjy hzr
  rwa [h.ht]at this
 have e3:(zoi zr)[j]?=some (z4r z):=by simp [zoi,hz]
 rw [e1,zcm e2 e3]
 unfold z4r
 rw [UInt8.toNat_ofNat_of_lt' (by show 97+z.toNat<256; omega)]
 omega
theorem Named.room {p:List Txt} (h:Named p) {i j:Nat} (hi:i<p.length) (hj:j<(zaq p).length):0≤zbx p i j∧zbx p i j<(rP p).length:=by
 rw [← h.cell hi hj]; exact zf2 i j hi hj
theorem Named.key {p:List Txt} (h:Named p) {m:Nat} {v:Int} (hm:(keys p)[m]?=some v) (a b:Nat):Val (gz (zba p)) (zaq p).length p.length 0 v a b↔Val (zbx p) (zaq p).length p.length 0 m a b:=by
 unfold Val
 constructor
 ·rintro ⟨h1,h2⟩
  refine ⟨?_,h2⟩
  obtain ⟨hb,ha⟩:=h2
  have ha':a<p.length:=by omega
  rw [← h.cell ha' hb,z5x ha' hb,h1]
  congr 1
  have hv:=List.mem_of_getElem? hm
  have hlt:=List.idxOf_lt_length_iff.2 hv
  have:=zhn (ks:=keys p) (z:=v) (by omega)
  exact zlt (zg3 p).nd this hm
 rintro ⟨h1,h2⟩
 refine ⟨?_,h2⟩
 obtain ⟨hb,ha⟩:=h2
 have ha':a<p.length:=by omega
 have hmem:=(zg3 p).mem a b (zor ha' hb)
 have hlt:=List.idxOf_lt_length_iff.2 hmem
 rw [← h.cell ha' hb,z5x ha' hb]at h1
 have:=zhn (ks:=keys p) (z:=gz (zba p) a b) (by omega)
 rw [show (keys p).idxOf (gz (zba p) a b)=m by omega,hm]at this
 cases this; rfl
theorem Named.rect {p:List Txt} (h:Named p) {m:Nat} {b:Rect} (hb:(rP p)[m]?=some b):zle (Val (zbx p) (zaq p).length p.length 0 m) b:=by
 have hi:=zg3 p
 have hml:=zaz hb
 rw [hi.len]at hml
 obtain ⟨v,hv,-⟩:=zae hml
 exact (hi.hull m v b hv hb).congr (h.key hv)
theorem Named.box {p:List Txt} (h:Named p) {m:Nat} {b:Rect} (hb:(rP p)[m]?=some b):b.row=(zpg p m).top∧b.col=(zpg p m).left∧b.high=zij p m∧b.wide=zil p m:=by
 have h1:=h.rect hb
 have h2:=z45 (zpy h.hg) rfl (r:=(m:Int))
 rcases h2 with ⟨h2,-⟩ | h2
 ·obtain ⟨a,c,q,-⟩:=h1.at_
  exact absurd q (h2 a c)
 have:=Hull.uniq h1 h2
 unfold zij zil
 omega
theorem znz {f:UInt8→Int} {B:Int}:∀ (row:Txt) (n:Int),n≤B→(∀ c∈row,f c≤B)→row.foldl (fun n c=>max n (f c)) n≤B
 | [],n,h,_=>h
 | c::row,n,h,hc=>znz row _ (by have:=hc c (by simp); show max n (f c)≤B; omega) fun d hd=>hc d (by simp [hd])
theorem z12 {B:Int}:∀ (p:List Txt) (n:Int),n≤B→(∀ row∈p,∀ c∈row,(c.toNat:Int) - 97+1≤B)→p.foldl zgd n≤B
 | [],n,h,_=>h
 | row::p,n,h,hc=>z12 p _ (znz row n h (hc row (by simp))) fun r hr=>hc r (by simp [hr])
theorem Named.rooms {p:List Txt} (h:Named p):zay p=(rP p).length:=by
 have hi:=zg3 p
 have hl:=hi.len
 apply Int.le_antisymm
 ·refine z12 p 0 (by omega) fun row hr c hc=>?_
  obtain ⟨i,hrow⟩:=List.getElem?_of_mem hr
  obtain ⟨j,hcol⟩:=List.getElem?_of_mem hc
  have hil:=zaz hrow
  have hjl:=zaz hcol
  have:=h.room hil (by rw [← zdw h.hg hrow]; exact hjl)
  rw [zcm hrow hcol]at this
  omega
 by_cases h0:(rP p).length=0
 ·have:=(zgg p).1; omega
 obtain ⟨b,hb,-⟩:=zae (show (rP p).length - 1<(rP p).length by omega)
 obtain ⟨a,c,⟨q1,q2⟩,-⟩:=(h.rect hb).at_
 obtain ⟨hc,ha⟩:=q2
 have ha':a<p.length:=by omega
 obtain ⟨row,hrow,hrm⟩:=zae ha'
 have hrl:=zdw h.hg hrow
 obtain ⟨d,hd,-⟩:=zae (show c<row.length by omega)
 have:=(ztj p 0).2 a c row d hrow hd
 rw [zcm hrow hd]at q1
 unfold zay
 omega
def inB (b:Rect) (i j:Nat):Bool:=(decide (b.row≤i) && decide ((i:Int)<b.row+b.high)) && (decide (b.col≤j) && decide ((j:Int)<b.col+b.wide))
theorem zl9 {z:Nat→Nat→Int} {H W:Nat} {v:Int} {b:Rect} (h:zle (Val z W H 0 v) b):((cnt H W (inB b):Nat):Int)=b.high*b.wide∧∀ i j,i<H→j<W→z i j=v→inB b i j=true:=by
 obtain ⟨t,l,hh,w,e1,e2,e3,e4,h1,h2,h3,h4,h5⟩:=Hull.nat h
 have e5:b.high=hh:=by omega
 have e6:b.wide=w:=by omega
 have e:∀ i j,inB b i j=inR t l hh w i j:=by
  intro i j
  unfold inB inR
  rw [e1,e2,e5,e6,Bool.eq_iff_iff]
  simp only[qB,decide_eq_true_eq]
  omega
 have e7:inB b=inR t l hh w:=by funext i j; exact e i j
 rw [e7,z89 h3 h4,e5,e6]
 exact ⟨by simp,h5⟩
def arN (p:List Txt) (m:Nat):Nat :=
 match (rP p)[m]? with
 | some b=>cnt p.length (zaq p).length (inB b)
 | none=>0
theorem zvu {p:List Txt} {m:Nat} {b:Rect} (h:(rP p)[m]?=some b):arN p m=cnt p.length (zaq p).length (inB b):=by simp [arN,h]
theorem z8e {p:List Txt} (h:Named p):∀ k,k≤(rP p).length→z4e ((rP p).take k)=((sN k (arN p):Nat):Int)
 | 0,_=>by simp [z4e,sN]
 | k+1,hk=>by
  obtain ⟨b,hb,-⟩:=zae (show k<(rP p).length by omega)
  rw [zrk hb,z8e h k (by omega),sN,zvu hb,← (zl9 (h.rect hb)).1]
  simp
theorem Named.cells_le {p:List Txt} (h:Named p) {m:Nat} (hm:m<(rP p).length):cnt p.length (zaq p).length (inZ p m)≤arN p m:=by
 obtain ⟨b,hb,-⟩:=zae hm
 rw [zvu hb]
 exact yfr fun i j hi hj hz=>(zl9 (h.rect hb)).2 i j hi hj (by unfold inZ at hz; simpa using hz)
theorem Named.all {p:List Txt} (h:Named p):sN (rP p).length (fun m=>cnt p.length (zaq p).length (inZ p m))=p.length*(zaq p).length:=by
 rw [← zyv (H:=p.length) (W:=(zaq p).length) (n:=(rP p).length) (z:=fun i j=>(zbx p i j).toNat) fun i j hi hj=>by have:=h.room hi hj; omega]
 refine zep fun m hm=>zv0 fun i j hi hj=>?_
 unfold inZ
 have:=h.room hi hj
 apply decide_eq_decide.2
 omega
theorem z9i {p:List Txt} (h:Named p):zh7 (zba p)=decide (sN (rP p).length (arN p)=p.length*(zaq p).length):=by
 have:=z8e h (rP p).length (qR _)
 rw [List.take_length]at this
 unfold zh7
 rw [show (stG (zba p)).2=rP p from rfl,this,zdp,zf9]
 apply decide_eq_decide.2
 omega
theorem Named.area {p:List Txt} (h:Named p) {m:Nat} (hm:m<(rP p).length):(zfj p m=zij p m*zil p m)↔cnt p.length (zaq p).length (inZ p m)=arN p m:=by
 obtain ⟨b,hb,-⟩:=zae hm
 obtain ⟨-,-,e1,e2⟩:=h.box hb
 rw [z27 (zpy h.hg),← e1,← e2,← (zl9 (h.rect hb)).1,zvu hb]
 omega
theorem Named.full {p:List Txt} (h:Named p):zh7 (zba p)=true↔∀ m,m<(rP p).length→cnt p.length (zaq p).length (inZ p m)=arN p m:=by
 rw [z9i h,decide_eq_true_eq,← h.all]
 constructor
 ·intro e m hm
  exact yai (fun m hm=>h.cells_le hm) e.symm m hm
 intro e
 exact zep fun m hm=>(e m hm).symm
theorem Named.fill {p:List Txt} (h:Named p) (hf:zh7 (zba p)=true) {m:Nat} {b:Rect} (hb:(rP p)[m]?=some b) {i j:Nat} (hi:i<p.length) (hj:j<(zaq p).length):inB b i j=decide (zbx p i j=m):=by
 have e:=h.full.1 hf m (zaz hb)
 rw [zvu hb]at e
 exact (yfq (fun i j hi hj hz=>(zl9 (h.rect hb)).2 i j hi hj (by unfold inZ at hz; simpa using hz)) e i j hi hj).symm
theorem zfi {p:List Txt}:zfw p=zfg p:=by
 unfold zfw zny okB okS zfg
 rw [Bool.eq_iff_iff]
 simp only[qB,decide_eq_true_eq,List.all_eq_true,List.mem_range]
 have hgi:=z00 (p:=p)
 constructor
 ·rintro ⟨⟨h1,h2,h3⟩,h4,h5⟩
  have hg:zcp p=true:=by rw [hgi,h1,h2]; rfl
  have hN:Named p:=⟨hg,h5⟩
  have hr:=hN.rooms
  have h3':(rP p).length≤9:=h3
  refine ⟨⟨⟨hg,by rw [zm7 hg]; exact h5⟩,by omega⟩,fun m hm=>?_⟩
  have hm':m<(rP p).length:=by omega
  exact (hN.area hm').2 (hN.full.1 h4 m hm')
 rintro ⟨⟨⟨hg,h2⟩,h3⟩,h4⟩
 have h5:zfh (gP p)=p:=by rw [← zm7 hg]; exact h2
 have hN:Named p:=⟨hg,h5⟩
 have hr:=hN.rooms
 rw [hgi,qB]at hg
 have h3':(rP p).length≤9:=by omega
 exact ⟨⟨hg.1,hg.2,h3'⟩,hN.full.2 fun m hm=>(hN.area hm).1 (h4 m (by omega)),h5⟩
theorem zdo {p:List Txt} (h:zfg p=true):Named p:=by
 have h2:=h
 rw [← zfi]at h2
 unfold zfw zny at h2
 simp only[qB,decide_eq_true_eq]at h2
 exact ⟨zs9 h,h2.2.2⟩
theorem zxm {p:List Txt} (h:zfg p=true):zh7 (zba p)=true:=by
 rw [← zfi]at h
 unfold zfw zny at h
 simp only[qB,decide_eq_true_eq]at h
 exact h.2.1
def cz (c:UInt8):Int:=(c.toNat:Int) - 97
theorem yft {a b:UInt8}:(cz a=cz b)=(a=b):=by
 rw [yex]
 unfold cz
 apply propext; omega
theorem yc7 (a b c d:UInt8):((dn [cz a,cz b,cz c,cz d]:Nat):Int)=zga [a,b,c,d] 4:=by
 simp only[dn,zga,z6p,zrz,List.mem_cons,List.not_mem_nil,or_false,yft]
 by_cases h1:a=b <;> by_cases h2:a=c <;> by_cases h3:a=d <;> by_cases h4:b=c <;> by_cases h5:b=d <;> by_cases h6:c=d <;> simp_all [eq_comm]
theorem z22 {p:List Txt} (h:Named p) {i k:Nat} (hi:1≤i) (hi2:i<p.length) (hk:1≤k) (hk2:k<(zaq p).length):((dn (four (gP p) i k):Nat):Int)=zi2 p i k:=by
 obtain ⟨r1,hr1,-⟩:=zae (show i - 1<p.length by omega)
 obtain ⟨r2,hr2,-⟩:=zae hi2
 have l1:=zdw h.hg hr1
 have l2:=zdw h.hg hr2
 obtain ⟨a,ha,-⟩:=zae (show k - 1<r1.length by omega)
 obtain ⟨b,hb,-⟩:=zae (show k<r1.length by omega)
 obtain ⟨c,hc,-⟩:=zae (show k - 1<r2.length by omega)
 obtain ⟨d,hd,-⟩:=zae (show k<r2.length by omega)
 unfold four zi2
 rw [h.cell (by omega) (by omega),h.cell (by omega) (by omega),h.cell (by omega) (by omega),h.cell (by omega) (by omega),zcm hr1 ha,zcm hr1 hb,zcm hr2 hc,zcm hr2 hd]
 simp only[hr1,hr2,ha,hb,hc,hd]
 exact yc7 a b c d
theorem zxo {p:List Txt} (h:Named p) {many:Int} {i:Nat} (hi:1≤i) (hi2:i<p.length):∀ k,k≤(zaq p).length→zd8 (gP p) many i k=zgb p many i k
 | 0,_=>rfl
 | k+1,hk=>by
  unfold zd8 zgb
  rw [zxo h hi hi2 k (by omega)]
  by_cases h1:1≤k
  ·rw [z22 h hi hi2 h1 (by omega)]
  rw [if_neg (fun e=>h1 e.1),if_neg (fun e=>h1 e.1)]
theorem yb7 {p:List Txt} (h:Named p) {many:Int}:∀ i,i≤p.length→zvo (gP p) many (zaq p).length i=zio p many (zaq p).length i
 | 0,_=>rfl
 | i+1,hi=>by
  unfold zvo zio
  rw [yb7 h i (by omega)]
  by_cases h1:1≤i
  ·rw [zxo h h1 (by omega) _ (qR _)]
  rw [if_neg h1,if_neg h1]
theorem zfy {p:List Txt}:zc5 p=zbt p:=by
 unfold zc5 zbt
 rw [zfi]
 cases hp:zfg p with
 | false=>rfl
 | true =>
  rw [zf9,yb7 (zdo hp) p.length (qR _)]
  rfl
theorem zm9 {p:List Txt} (h:zbt p=true):zfg p=true:=by
 unfold zbt at h
 rw [qB]at h
 exact h.1
theorem zm6 {l:List Int} {x:Int}:x∈ddp l↔x∈l:=by
 have:∀ (l m:List Int),x∈l.foldl ziq m↔x∈m∨x∈l:=by
  intro l
  induction l with
  | nil=>intro m; simp
  | cons a l ih=>intro m; rw [List.foldl_cons,ih,z06,List.mem_cons,or_assoc]
 unfold ddp
 rw [this]
 simp
def Rise (n:Nat) (rk:Nat→Nat) (M:List (List Bool)):Prop:=Sq n M∧∀ a b,a<n→b<n→zcq M a b=true→rk a<rk b
theorem Rise.clA {n:Nat} {rk:Nat→Nat} {M:List (List Bool)} (h:Rise n rk M) {k a:Nat} (hk:k<n) (ha:a<n):Rise n rk (clA n k M a):=by
 obtain ⟨h1,h2⟩:=z0c h.1 hk ha n (qR _)
 refine ⟨h1,fun x y hx hy hxy=>?_⟩
 unfold Fw.clA at hxy
 rw [h2 x y hx hy]at hxy
 split at hxy
 ·rename_i e
  obtain ⟨rfl,-⟩:=e
  rw [Bool.or_eq_true,qB]at hxy
  rcases hxy with hxy | ⟨h3,h4⟩
  ·exact h.2 x y hx hy hxy
  exact Nat.lt_trans (h.2 x k hx hk h3) (h.2 k y hk hy h4)
 exact h.2 x y hx hy hxy
theorem Rise.fold {n:Nat} {rk:Nat→Nat} {f:List (List Bool)→Nat→List (List Bool)}:∀ (i:Nat) {M:List (List Bool)},i≤n→(∀ M j,j<n→Rise n rk M→Rise n rk (f M j))→Rise n rk M→Rise n rk ((List.range i).foldl f M)
 | 0,_,_,_,h=>h
 | i+1,M,hi,hs,h=>by
  rw [zb3]
  exact hs _ i (by omega) (Rise.fold i (by omega) hs h)
theorem Rise.close {n:Nat} {rk:Nat→Nat} {M:List (List Bool)} (h:Rise n rk M):Rise n rk (zfv M):=by
 unfold zfv
 rw [h.1.1]
 exact Rise.fold n (qR _) (fun _ k hk h=>Rise.fold n (qR _) (fun _ a ha h=>h.clA hk ha) h) h
theorem Rise.relB {n:Nat} {rk:Nat→Nat} {a:Int} (ha:0≤a∧a<n):∀ {bs:List Int} {M:List (List Bool)},Rm n bs→(∀ b∈bs,rk a.toNat<rk b.toNat)→Rise n rk M→Rise n rk (relB a bs M)
 | [],_,_,_,h=>h
 | b::bs,M,hb,hr,h=>by
  have hb0:=hb b (by simp)
  refine Rise.relB ha (bs:=bs) (fun x hx=>hb x (by simp [hx])) (fun x hx=>hr x (by simp [hx])) ⟨h.1.set (by omega),fun x y hx hy hxy=>?_⟩
  rw [zlo h.1 (by omega) (by omega)]at hxy
  split at hxy
  ·rename_i e
   rw [e.1,e.2]; exact hr b (by simp)
  exact h.2 x y hx hy hxy
theorem Rise.relW {n:Nat} {rk:Nat→Nat} {bs:List Int} (hb:Rm n bs):∀ {la:List Int} {M:List (List Bool)},Rm n la→(∀ a∈la,∀ b∈bs,rk a.toNat<rk b.toNat)→Rise n rk M→Rise n rk (relW M la bs)
 | [],_,_,_,h=>h
 | a::la,M,ha,hr,h=>Rise.relW hb (la:=la) (fun x hx=>ha x (by simp [hx])) (fun x hx=>hr x (by simp [hx])) (h.relB (ha a (by simp)) hb (hr a (by simp)))
theorem Rise.empty {n:Nat} {rk:Nat→Nat}:Rise n rk (zbm n):=by
 refine ⟨zes n,fun a b ha hb h=>?_⟩
 simp [zcq,zbm,ha,hb]at h
theorem Rise.ord {g:List (List Int)} {nh nw n:Nat} {r0 r1:Nat→Nat} (hrm:zvm g nh nw n) (h0:∀ w,zt5 g nh nw w→w.level=false→∀ a∈(zar g w).1,∀ b∈(zar g w).2,r0 a.toNat<r0 b.toNat)
  (h1:∀ w,zt5 g nh nw w→w.level=true→∀ a∈(zar g w).1,∀ b∈(zar g w).2,r1 a.toNat<r1 b.toNat):∀ (ws:List Wall),(∀ w∈ws,zt5 g nh nw w)→∀ {M:List (List Bool) × List (List Bool)},Rise n r0 M.1→Rise n r1 M.2 →
  Rise n r0 (ws.foldl (zmq g) M).1∧Rise n r1 (ws.foldl (zmq g) M).2
 | [],_,_,k0,k1=>⟨k0,k1⟩
 | w::ws,hws,M,k0,k1=>by
  have hw:=hws w (by simp)
  obtain ⟨hr1,hr2⟩:=zfb hrm hw
  rw [List.foldl_cons]
  refine Rise.ord hrm h0 h1 ws (fun w hw=>hws w (by simp [hw])) ?_ ?_
  ·unfold zmq
   cases hlv:w.level with
   | false=>simpa using k0.relW hr2 hr1 (h0 w hw hlv)
   | true=>simpa using k0
  unfold zmq
  cases hlv:w.level with
  | false=>simpa using k1
  | true=>simpa using k1.relW hr2 hr1 (h1 w hw hlv)
theorem ygh {g:List (List Int)} {nh nw:Nat} {w:Wall} (hw:zt5 g nh nw w) {x:Int} (hx:x∈(zar g w).1):∃ line j:Nat,w.line=line∧x=(zb1 g w.level line j).1∧InL nh nw w.level line j∧zkm g w.level line j=true:=by
 obtain ⟨line,fr,long,e,h1,h2⟩:=hw
 have e1:w.line.toNat=line:=by rw [e]; simp
 have e2:w.fr.toNat=fr:=by rw [e]; simp
 have e3:w.long.toNat=long:=by rw [e]; simp
 simp only[zar,e1,e2,e3]at hx
 have:=zm6.1 hx
 simp only[za6,List.mem_map,List.mem_range]at this
 obtain ⟨j,hj,rfl⟩:=this
 have h3:=h2 (fr+j) (by omega) (by omega)
 exact ⟨line,fr+j,by rw [e],rfl,h3.1,h3.2⟩
theorem ygi {g:List (List Int)} {nh nw:Nat} {w:Wall} (hw:zt5 g nh nw w) {x:Int} (hx:x∈(zar g w).2):∃ line j:Nat,w.line=line∧x=(zb1 g w.level line j).2∧InL nh nw w.level line j∧zkm g w.level line j=true:=by
 obtain ⟨line,fr,long,e,h1,h2⟩:=hw
 have e1:w.line.toNat=line:=by rw [e]; simp
 have e2:w.fr.toNat=fr:=by rw [e]; simp
 have e3:w.long.toNat=long:=by rw [e]; simp
 simp only[zar,e1,e2,e3]at hx
 have:=zm6.1 hx
 simp only[za6,List.mem_map,List.mem_range]at this
 obtain ⟨j,hj,rfl⟩:=this
 have h3:=h2 (fr+j) (by omega) (by omega)
 exact ⟨line,fr+j,by rw [e],rfl,h3.1,h3.2⟩
def rkL (p:List Txt) (a:Nat):Nat:=match (rP p)[a]? with | some b=>b.col.toNat | none=>0
def rkA (p:List Txt) (a:Nat):Nat:=match (rP p)[a]? with | some b=>b.row.toNat | none=>0
theorem zhu {p:List Txt} (hp:zfg p=true) {i j:Nat} (hi:i<p.length) (hj:j<(zaq p).length):∃ b,(rP p)[(zbx p i j).toNat]?=some b∧inB b i j=true∧b.Fit∧∀ k l,k<p.length→l<(zaq p).length→inB b k l=true→zbx p k l=zbx p i j:=by
 have hN:=zdo hp
 have hr:=hN.room hi hj
 obtain ⟨b,hb,hbm⟩:=zae (show (zbx p i j).toNat<(rP p).length by omega)
 have hf:=zxm hp
 have hsm:=zcl hN.hg
 obtain ⟨row0,hr0,hm0⟩:=zae hsm.1
 have hh:=zcw hr0
 have hw6:=hsm.2.2 row0 hm0
 have hw1:=zhe hN.hg hr0
 rw [← hh]at hw6 hw1
 have hok:=(zgt (g:=zba p) hw6 hw1 p.length hsm.2.1).1
 rw [← z99]at hok
 refine ⟨b,hb,?_,hok.2 b hbm,fun k l hk hl hkl=>?_⟩
 ·rw [hN.fill hf hb hi hj]; exact decide_eq_true (by omega)
 rw [hN.fill hf hb hk hl]at hkl
 have:=of_decide_eq_true hkl
 omega
theorem z7a {p:List Txt} (hp:zfg p=true) {w:Wall} (hw:zt5 (gP p) p.length (zaq p).length w) (hl:w.level=false):∀ a∈(zar (gP p) w).1,∀ b∈(zar (gP p) w).2,rkL p a.toNat<rkL p b.toNat:=by
 intro a ha b hb
 have hN:=zdo hp
 obtain ⟨L,j,e1,rfl,⟨h1,h2⟩,h3⟩:=ygh hw ha
 obtain ⟨L',j',e2,rfl,⟨k1,k2⟩,k3⟩:=ygi hw hb
 obtain rfl:L=L':=by omega
 simp only[hl,qF,if_false]at h2 k2
 unfold zkm at k3
 simp only[hl,zb1,qF,if_false,decide_eq_true_eq]at k3 ⊢
 rw [hN.cell k2.2 (by omega),hN.cell k2.2 k2.1]at k3
 rw [hN.cell h2.2 (by omega),hN.cell k2.2 k2.1]
 obtain ⟨r1,hr1,q1,f1,-⟩:=zhu hp h2.2 (show L - 1<(zaq p).length by omega)
 obtain ⟨r2,hr2,q2,f2,c2⟩:=zhu hp k2.2 k2.1
 unfold rkL
 rw [hr1,hr2]
 simp only
 have c3:=c2 j' (L - 1) k2.2 (by omega)
 unfold inB at q1 q2 c3
 unfold Rect.Fit at f1 f2
 simp only[qB,decide_eq_true_eq]at q1 q2 c3
 by_cases hc:r2.col<(L:Int)
 ·exact absurd (c3 (by omega)) k3
 omega
theorem z3o {p:List Txt} (hp:zfg p=true) {w:Wall} (hw:zt5 (gP p) p.length (zaq p).length w) (hl:w.level=true):∀ a∈(zar (gP p) w).1,∀ b∈(zar (gP p) w).2,rkA p a.toNat<rkA p b.toNat:=by
 intro a ha b hb
 have hN:=zdo hp
 obtain ⟨L,j,e1,rfl,⟨h1,h2⟩,h3⟩:=ygh hw ha
 obtain ⟨L',j',e2,rfl,⟨k1,k2⟩,k3⟩:=ygi hw hb
 obtain rfl:L=L':=by omega
 simp only[hl,if_true]at h2 k2
 unfold zkm at k3
 simp only[hl,zb1,if_true,decide_eq_true_eq]at k3 ⊢
 rw [hN.cell (by omega) k2.2,hN.cell k2.1 k2.2]at k3
 rw [hN.cell (by omega) h2.2,hN.cell k2.1 k2.2]
 obtain ⟨r1,hr1,q1,f1,-⟩:=zhu hp (show L - 1<p.length by omega) h2.2
 obtain ⟨r2,hr2,q2,f2,c2⟩:=zhu hp k2.1 k2.2
 unfold rkA
 rw [hr1,hr2]
 simp only
 have c3:=c2 (L - 1) j' (by omega) k2.2
 unfold inB at q1 q2 c3
 unfold Rect.Fit at f1 f2
 simp only[qB,decide_eq_true_eq]at q1 q2 c3
 by_cases hc:r2.row<(L:Int)
 ·exact absurd (c3 (by omega)) k3
 omega
theorem yge {p:List Txt} (hp:zfg p=true) (b:Nat):rkL p b≤100∧rkA p b≤100:=by
 have hN:=zdo hp
 have hsm:=zcl hN.hg
 obtain ⟨row0,hr0,hm0⟩:=zae hsm.1
 have hh:=zcw hr0
 have hw6:=hsm.2.2 row0 hm0
 have hw1:=zhe hN.hg hr0
 rw [← hh]at hw6 hw1
 have hok:=(zgt (g:=zba p) hw6 hw1 p.length hsm.2.1).1
 rw [← z99]at hok
 unfold rkL rkA
 cases hb:(rP p)[b]? with
 | none=>simp
 | some r =>
  have:=hok.2 r (List.mem_of_getElem? hb)
  unfold Rect.Fit at this
  simp only
  omega
theorem yd5 {p:List Txt} (hp:zfg p=true):Up (zws (gP p) p.length (zaq p).length (rP p).length) (rP p).length (rkL p)∧Up (znn (gP p) p.length (zaq p).length (rP p).length) (rP p).length (rkA p):=by
 have h:=Rise.ord (r0:=rkL p) (r1:=rkA p) (zf2 (p:=p)) (fun w hw hl=>z7a hp hw hl) (fun w hw hl=>z3o hp hw hl) (zcd (gP p) p.length (zaq p).length) zds (M:=(zbm (rP p).length,zbm (rP p).length)) Rise.empty Rise.empty
 have h0:=h.1.close
 have h1:=h.2.close
 exact ⟨⟨h0.1,h0.2,fun b=>(yge hp b).1⟩,⟨h1.1,h1.2,fun b=>(yge hp b).2⟩⟩
theorem zjs {p:List Txt} (hp:zc5 p=true):zvm (gP p) p.length (w0 (zba p)) (rP p).length∧(∃ rk,Up (zws (gP p) p.length (w0 (zba p)) (rP p).length) (rP p).length rk)∧∃ rk,Up (znn (gP p) p.length (w0 (zba p)) (rP p).length) (rP p).length rk:=by
 rw [zfy]at hp
 have h:=yd5 (zm9 hp)
 rw [zf9]
 exact ⟨zf2,⟨_,h.1⟩,⟨_,h.2⟩⟩
section
open Go Go.ChangeShapes Go.WideShapes Go.ChangeAt Go.RowKit
set_option maxRecDepth 100000 in
theorem yar {W:World} {base:Nat} {t e:TypeId} {a:Addr} {len cap:Nat} (ht:Tryz.prog.underlying t=some (.slice e)) (hval:Value.okWide Tryz.prog W .any base t (.slice (some a) len cap)):a.spot=none∧a.block<W.heap.size:=by
 simp only[Value.okWide,ht,Cell.okWide,Cell.ok]at hval
 obtain ⟨-,-,-,hsp,row,cells,hsh,-⟩:=hval
 refine ⟨hsp,?_⟩
 unfold World.shape? at hsh
 rcases Nat.lt_or_ge a.block W.heap.size with h | h
 ·exact h
 rw [Array.getElem?_eq_none h]at hsh; cases hsh
set_option maxRecDepth 100000 in
theorem yey {H:Type} {enc:TypeId × Value→H} {W:World} {base:Nat} {v:Value} {d:DataW H} {ps:List MemPlace} (hval:Value.okWide Tryz.prog W .any base 34 v) (h:DataW.Trod enc Tryz.prog W 0 (fun _=>true) true 34 v d ps) :
  ∃ p:List Int,VI W.heap (fun b=>b<W.heap.size) (eInts p) v:=by
 obtain ⟨a0,len,cap,rfl⟩:=okWide_slice Tryz.underlying34 hval
 obtain ⟨fuel,hf⟩:=h
 rcases open_ints Tryz.underlying34 Tryz.underlying3 (by kernel_rfl) hf with ⟨hcs,hx⟩ | ⟨a,len',cap',zs,hcs,-,hl,hm,hz,hx,hcell,hwf⟩
 ·simp [Value.cells]at hcs
  obtain ⟨rfl,rfl,rfl⟩:=hcs
  exact ⟨[],.sl0⟩
 simp [Value.cells]at hcs
 obtain ⟨rfl,rfl,rfl⟩:=hcs
 obtain ⟨hsp,hlt⟩:=yar Tryz.underlying34 hval
 obtain ⟨b,off,spot⟩:=a
 simp only at hsp hlt
 subst hsp
 simp only[if_true]at hz
 have hlen:(zs.take len).length=len:=by simp; omega
 refine ⟨zs.take len,?_⟩
 show VI _ _ (.sl ((zs.take len).map (.int .i64)) (zs.take len).length) _
 rw [hlen]
 refine .sl _ _ b off cap (fun i => .int .i64 (zs.getD i 0)) (fun _=>hlt) hl (fun i q hq=>?_) (fun i q hq=>?_)
 ·rw [List.getElem?_map,qI]at hq
  obtain ⟨x,hx1,rfl⟩:=hq
  have hi:=zaz hx1
  refine ⟨rfl,?_⟩
  rw [← zfo]
  have:=hcell i (by omega)
  rwa [add_lit]at this
 rw [List.getElem?_map,qI]at hq
 obtain ⟨x,hx1,rfl⟩:=hq
 have hi:=zaz hx1
 rw [List.getElem?_take_of_lt (by omega)]at hx1
 rw [List.getD_eq_getElem?_getD,hx1]
 exact .int _ _
end
section
structure Pl (c:Nat→Nat→Nat) (H W:Nat):Prop where
 rect:∀ {i j i' j':Nat} (k l:Nat),i<H→i'<H→j<W→j'<W→c i j=c i' j'→min i i'≤k→k≤max i i'→min j j'≤l→l≤max j j'→c k l=c i j
 plain:∀ {i j:Nat},i+1<H→j+1<W→c i j≠c i (j+1)→c (i+1) j≠c (i+1) (j+1)→c i j≠c (i+1) j→c i (j+1)=c (i+1) (j+1)
def DL (c:Nat→Nat→Nat) (H W a b:Nat):Prop:=∃ j i1 i2,j+1<W∧i1<H∧i2<H∧(∀ r,min i1 i2≤r→r≤max i1 i2→c r j≠c r (j+1))∧a=c i1 j∧b=c i2 (j+1)
def DU (c:Nat→Nat→Nat) (H W a b:Nat):Prop:=∃ i j1 j2,i+1<H∧j1<W∧j2<W∧(∀ k,min j1 j2≤k→k≤max j1 j2→c i k≠c (i+1) k)∧a=c i j1∧b=c (i+1) j2
theorem zun {P:Nat→Prop}:∀ {n:Nat},P n→∃ m,m≤n∧P m∧∀ k,k<m→¬ P k:=by
 intro n
 induction n using Nat.strongRecOn with
 | _ n ih =>
  intro h
  by_cases c:∃ k,k<n∧P k
  ·obtain ⟨k,hk,hp⟩:=c
   obtain ⟨m,h1,h2,h3⟩:=ih k hk hp
   exact ⟨m,by omega,h2,h3⟩
  exact ⟨n,qR _,h,fun k hk hp=>c ⟨k,hk,hp⟩⟩
theorem zy4 {P:Nat→Prop} {i:Nat}:∀ {n:Nat},i≤n→P i→¬ P n→∃ e,i≤e∧e+1≤n∧P e∧¬ P (e+1)
 | 0,h,h1,h2=>by
    obtain rfl:i=0:=by omega
    exact absurd h1 h2
 | n+1,h,h1,h2=>by
  by_cases c:P n
  ·by_cases e:i=n+1
   ·subst e; exact absurd h1 h2
   exact ⟨n,by omega,qR _,c,h2⟩
  by_cases e:i=n+1
  ·subst e; exact absurd h1 h2
  obtain ⟨m,k1,k2,k3⟩:=zy4 (P:=P) (i:=i) (n:=n) (by omega) h1 c
  exact ⟨m,k1,by omega,k3⟩
section
variable {c:Nat→Nat→Nat} {H W:Nat}
def Stair (c:Nat→Nat→Nat) (H W:Nat) (Z:Nat→Prop):Prop:=∀ {i j:Nat} (i' j':Nat),i<H→j<W→i'≤i→j'≤j→Z (c i j)→Z (c i' j')
def Free (c:Nat→Nat→Nat) (H W:Nat) (Z:Nat→Prop):Prop:=∃ i j,i<H∧j<W∧¬ Z (c i j)∧(∀ a,DL c H W a (c i j)∨DU c H W a (c i j)→Z a)∧Stair c H W fun x=>Z x∨x=c i j
theorem z5v (h:Pl c H W) {Z:Nat→Prop} (hZ:Stair c H W Z) {i j:Nat} (hi:i<H) (hj:j<W) (hn:¬ Z (c i j)) (hu:∀ i',i'+1=i→Z (c i' j)) (hl:∀ j',j'+1=j→Z (c i j'))
  (hN:∀ i',i'+1=i→∀ k,j≤k→k<W→(∀ l,j≤l→l≤k→c i' l≠c i l)→Z (c i' k))
  (hA:∀ j',j'+1=j→∀ k,i≤k→k<H→(∀ r,i≤r→r≤k→c r j'≠c r j)→Z (c k j')):Free c H W Z:=by
 have up:∀ {i2 j2:Nat},i2<H→j2<W→c i2 j2=c i j→i≤i2:=by
  intro i2 j2 h1 h2 h3
  by_cases q:i≤i2
  ·exact q
  have h4:=hu (i - 1) (by omega)
  rw [h.rect (i - 1) j h1 hi h2 hj h3 (by omega) (by omega) (by omega) (by omega),h3]at h4
  exact absurd h4 hn
 have lf:∀ {i2 j2:Nat},i2<H→j2<W→c i2 j2=c i j→j≤j2:=by
  intro i2 j2 h1 h2 h3
  by_cases q:j≤j2
  ·exact q
  have h4:=hl (j - 1) (by omega)
  rw [h.rect i (j - 1) h1 hi h2 hj h3 (by omega) (by omega) (by omega) (by omega),h3]at h4
  exact absurd h4 hn
 have runL:∀ {i2 j2 r j':Nat},i2<H→j2<W→c i2 j2=c i j→j'+1=j→i≤r→r≤i2→c r j'≠c r j:=by
  intro i2 j2 r j' h1 h2 h3 h4 h5 h6 h7
  have h8:=lf h1 h2 h3
  have e1:c r j=c i j:=by
   rw [h.rect r j h1 hi h2 hj h3 (by omega) (by omega) (by omega) (by omega),h3]
  have h9:=lf (i2:=r) (j2:=j') (by omega) (by omega) (by rw [h7,e1])
  omega
 have runU:∀ {i2 j2 l i':Nat},i2<H→j2<W→c i2 j2=c i j→i'+1=i→j≤l→l≤j2→c i' l≠c i l:=by
  intro i2 j2 l i' h1 h2 h3 h4 h5 h6 h7
  have h8:=up h1 h2 h3
  have e1:c i l=c i j:=by
   rw [h.rect i l h1 hi h2 hj h3 (by omega) (by omega) (by omega) (by omega),h3]
  have h9:=up (i2:=i') (j2:=l) (by omega) (by omega) (by rw [h7,e1])
  omega
 refine ⟨i,j,hi,hj,hn,?_,?_⟩
 ·rintro a (⟨j0,i1,i2,k1,k2,k3,run,rfl,k4⟩ | ⟨i0,j1,j2,k1,k2,k3,run,rfl,k4⟩)
  ·have h1:=lf k3 k1 k4.symm
   have e:j0+1=j:=by
    by_cases q:j0+1=j
    ·exact q
    have:=h.rect i2 j0 k3 hi k1 hj k4.symm (by omega) (by omega) (by omega) (by omega)
    exact absurd this (run i2 (by omega) (by omega))
   subst e
   have h2:=up k3 k1 k4.symm
   by_cases q:i1<i
   ·exact hZ i1 j0 hi (by omega) (by omega) (qR _) (hl j0 rfl)
   refine hA j0 rfl i1 (by omega) k2 fun r r1 r2=>?_
   by_cases q2:min i1 i2≤r
   ·exact run r q2 (by omega)
   exact runL k3 k1 k4.symm rfl r1 (by omega)
  have h1:=up k1 k3 k4.symm
  have e:i0+1=i:=by
   by_cases q:i0+1=i
   ·exact q
   have:=h.rect i0 j2 k1 hi k3 hj k4.symm (by omega) (by omega) (by omega) (by omega)
   exact absurd this (run j2 (by omega) (by omega))
  subst e
  have h2:=lf k1 k3 k4.symm
  by_cases q:j1<j
  ·exact hZ i0 j1 (by omega) hj (qR _) (by omega) (hu i0 rfl)
  refine hN i0 rfl j1 (by omega) k2 fun r r1 r2=>?_
  by_cases q2:min j1 j2≤r
  ·exact run r q2 (by omega)
  exact runU k1 k3 k4.symm rfl r1 (by omega)
 intro i2 k2 i' j' h1 h2 h3 h4 h5
 rcases h5 with h5 | h5
 ·exact .inl (hZ i' j' h1 h2 h3 h4 h5)
 have q1:=up h1 h2 h5
 have q2:=lf h1 h2 h5
 by_cases q3:i'<i
 ·left
  refine hZ i' j' (show i - 1<H by omega) h2 (by omega) h4 (hN (i - 1) (by omega) k2 q2 h2 fun l l1 l2=>runU h1 h2 h5 (by omega) l1 l2)
 by_cases q4:j'<j
 ·left
  exact hZ i' j' h1 (show j - 1<W by omega) h3 (by omega) (hA (j - 1) (by omega) i2 q1 h1 fun r r1 r2=>runL h1 h2 h5 (by omega) r1 r2)
 right
 rw [h.rect i' j' h1 hi h2 hj h5 (by omega) (by omega) (by omega) (by omega),h5]
theorem z5u (h:Pl c H W) {Z:Nat→Prop} (hZ:Stair c H W Z):∀ (j i:Nat),i<H→j<W→¬ Z (c i j)→(∀ i',i'+1=i→Z (c i' j))→(∀ j',j'+1=j→Z (c i j')) →
  (∀ i',i'+1=i→∀ k,j≤k→k<W→(∀ l,j≤l→l≤k→c i' l≠c i l)→Z (c i' k))→Free c H W Z:=by
 intro j
 induction j using Nat.strongRecOn with
 | _ j ih =>
  intro i hi hj hn hu hl hN
  by_cases hA:∀ j',j'+1=j→∀ k,i≤k→k<H→(∀ r,i≤r→r≤k→c r j'≠c r j)→Z (c k j')
  ·exact z5v h hZ hi hj hn hu hl hN hA
  simp only[Classical.not_forall]at hA
  obtain ⟨j',rfl,k,h1,h2,run,h3⟩:=hA
  obtain ⟨e,e1,e2,e3,e4⟩:=zy4 (P:=fun r=>Z (c r j')) h1 (hl j' rfl) h3
  obtain ⟨m,m1,m2,m3⟩:=zun (P:=fun l=>¬ Z (c (e+1) l)) e4
  refine ih m (by omega) (e+1) (by omega) (by omega) m2 ?_ ?_ ?_
  ·intro i' hi'
   obtain rfl:i'=e:=by omega
   exact hZ i' m (by omega) (by omega) (qR _) m1 e3
  ·intro l hl'
   exact Classical.not_not.1 (m3 l (by omega))
  intro i' hi' k2 k3 k4 k5
  obtain rfl:i'=e:=by omega
  by_cases q:k2≤j'
  ·exact hZ i' k2 (by omega) (by omega) (qR _) q e3
  have q1:=k5 (j'+1) (by omega) (by omega)
  have q2:=h.plain (i:=i') (j:=j') (by omega) hj (run i' (by omega) (by omega)) (run (i'+1) (by omega) (by omega)) (fun q3=>e4 (by rw [← q3]; exact e3))
  exact absurd q2 q1
theorem ydc (h:Pl c H W) {Z:Nat→Prop} (hZ:Stair c H W Z) (hx:∃ i j,i<H∧j<W∧¬ Z (c i j)):Free c H W Z:=by
 obtain ⟨i,hx⟩:=hx
 obtain ⟨i,-,⟨j,h1,h2,h3⟩,h4⟩:=zun (P:=fun i=>∃ j,i<H∧j<W∧¬ Z (c i j)) hx
 obtain ⟨j,j1,j2,j3⟩:=zun (P:=fun j=>¬ Z (c i j)) h3
 have all:∀ i',i'+1=i→∀ k,k<W→Z (c i' k):=fun i' e k hk=>Classical.byContradiction fun q=>h4 i' (by omega) ⟨k,by omega,hk,q⟩
 exact z5u h hZ j i h1 (by omega) j2 (fun i' e=>all i' e j (by omega)) (fun j' e=>Classical.not_not.1 (j3 j' (by omega))) (fun i' e k _ hk _=>all i' e k hk)
theorem z3i (h:Pl c H W) {n:Nat} (hc:∀ i j,i<H→j<W→c i j<n):∀ (m:Nat) (Z:Nat→Bool),Stair c H W (fun x=>Z x=true)→(List.range n).countP (fun x => !Z x)≤m→∃ f:Nat→Nat,∀ a b,Z a=false→Z b=false→DL c H W a b∨DU c H W a b→f a<f b:=by
 have cell:∀ {a b:Nat},DL c H W a b∨DU c H W a b→∃ i j,i<H∧j<W∧a=c i j:=by
  rintro a b (⟨j0,i1,i2,k1,k2,k3,run,rfl,k4⟩ | ⟨i0,j1,j2,k1,k2,k3,run,rfl,k4⟩)
  ·exact ⟨i1,j0,k2,by omega,rfl⟩
  exact ⟨i0,j1,by omega,k2,rfl⟩
 intro m
 induction m with
 | zero =>
  intro Z hZ hm
  refine ⟨fun _=>0,fun a b ha hb hd=>?_⟩
  obtain ⟨i,j,hi,hj,rfl⟩:=cell hd
  have h0:(List.range n).countP (fun x => !Z x)=0:=by omega
  rw [List.countP_eq_zero]at h0
  exact absurd (show (!Z (c i j))=true by rw [ha]; rfl) (h0 _ (by simpa using hc i j hi hj))
 | succ m ih =>
  intro Z hZ hm
  by_cases hx:∃ i j,i<H∧j<W∧¬ (Z (c i j)=true)
  ·obtain ⟨i,j,hi,hj,hn,hp,hs⟩:=ydc h (Z:=fun x=>Z x=true) hZ hx
   have hZ':Stair c H W (fun x=>(Z x || x == c i j)=true):=by
    intro i1 j1 i' j' h1 h2 h3 h4 h5
    have h6:=hs i' j' h1 h2 h3 h4 (by simpa using h5)
    simpa using h6
   have hlt:(List.range n).countP (fun x => !(Z x || x == c i j))<(List.range n).countP (fun x => !Z x):=by
    refine zom (fun x _ hx=>?_) ⟨c i j,by simpa using hc i j hi hj,by simpa using hn,by simp⟩
    cases hz:Z x with
    | false=>rfl
    | true=>rw [hz]at hx; simp at hx
   obtain ⟨f,hf⟩:=ih (fun x=>Z x || x == c i j) hZ' (by omega)
   refine ⟨fun x=>if x=c i j then 0 else f x+1,fun a b ha hb hd=>?_⟩
   have hbA:b≠c i j:=by
    rintro rfl
    have q:Z a=true:=hp a hd
    rw [ha]at q; cases q
   simp only[if_neg hbA]
   by_cases haA:a=c i j
   ·simp only[if_pos haA]; omega
   simp only[if_neg haA]
   have:=hf a b (by simp [ha,haA]) (by simp [hb,hbA]) hd
   omega
  refine ⟨fun _=>0,fun a b ha hb hd=>?_⟩
  obtain ⟨i,j,hi,hj,rfl⟩:=cell hd
  exact absurd ⟨i,j,hi,hj,by rw [ha]; exact Bool.false_ne_true⟩ hx
theorem z1c (h:Pl c H W) {n:Nat} (hc:∀ i j,i<H→j<W→c i j<n):∃ f:Nat→Nat,∀ a b,DL c H W a b∨DU c H W a b→f a<f b:=by
 obtain ⟨f,hf⟩:=z3i h hc _ (fun _=>false) (fun _ _ _ _ _ _ h=>h) (qR _)
 exact ⟨f,fun a b hd=>hf a b rfl rfl hd⟩
def fl (c:Nat→Nat→Nat) (H i j:Nat):Nat:=c (H - 1 - i) j
def tr (c:Nat→Nat→Nat) (i j:Nat):Nat:=c j i
theorem Pl.dn (h:Pl c H W):Pl (fl c H) H W:=by
 refine ⟨fun k l h1 h2 h3 h4 h5 h6 h7 h8 h9=>?_,fun {i j} h1 h2 h3 h4 h5=>?_⟩
 ·exact h.rect _ _ (by omega) (by omega) h3 h4 h5 (by omega) (by omega) h8 h9
 unfold Fw.fl at *
 obtain ⟨k,rfl⟩:∃ k,H=i+2+k:=⟨H - (i+2),by omega⟩
 rw [show i+2+k - 1 - i=k+1 by omega,show i+2+k - 1 - (i+1)=k by omega] at *
 exact (h.plain (i:=k) (j:=j) (by omega) h2 h4 h3 (Ne.symm h5)).symm
theorem Pl.ex (h:Pl c H W):Pl (tr c) W H :=
 ⟨fun k l h1 h2 h3 h4 h5 h6 h7 h8 h9=>h.rect l k h3 h4 h1 h2 h5 h8 h9 h6 h7,fun {i j} h1 h2 h3 h4 h5=>by
  unfold Fw.tr at *
  by_cases q:c j i=c j (i+1)
  ·exact absurd q h5
  by_cases q2:c (j+1) i=c (j+1) (i+1)
  ·exact q2
  exact absurd (h.plain (i:=j) (j:=i) h2 h1 h5 q2 h3) h4⟩
theorem DL.ex {a b:Nat} (h:DL (tr c) W H a b):DU c H W a b:=h
theorem DU.ex {a b:Nat} (h:DU (tr c) W H a b):DL c H W a b:=h
theorem DL.dn {a b:Nat} (h:DL (fl c H) H W a b):DL c H W a b:=by
 obtain ⟨j,i1,i2,h1,h2,h3,run,rfl,rfl⟩:=h
 refine ⟨j,H - 1 - i1,H - 1 - i2,h1,by omega,by omega,fun r r1 r2=>?_,rfl,rfl⟩
 have:=run (H - 1 - r) (by omega) (by omega)
 unfold Fw.fl at this
 rwa [show H - 1 - (H - 1 - r)=r by omega]at this
theorem DL.unfl {a b:Nat} (h:DL c H W a b):DL (fl c H) H W a b:=by
 obtain ⟨j,i1,i2,h1,h2,h3,run,rfl,rfl⟩:=h
 refine ⟨j,H - 1 - i1,H - 1 - i2,h1,by omega,by omega,fun r r1 r2=>?_,?_,?_⟩
 ·exact run (H - 1 - r) (by omega) (by omega)
 ·unfold Fw.fl; rw [show H - 1 - (H - 1 - i1)=i1 by omega]
 unfold Fw.fl; rw [show H - 1 - (H - 1 - i2)=i2 by omega]
theorem DU.dn {a b:Nat} (h:DU (fl c H) H W a b):DU c H W b a:=by
 obtain ⟨i,j1,j2,h1,h2,h3,run,rfl,rfl⟩:=h
 refine ⟨H - 1 - (i+1),j2,j1,by omega,h3,h2,fun k k1 k2=>?_,?_,?_⟩
 ·have:=run k (by omega) (by omega)
  unfold Fw.fl at this
  rw [show H - 1 - (i+1)+1=H - 1 - i by omega]
  exact Ne.symm this
 ·rfl
 unfold Fw.fl; rw [show H - 1 - (i+1)+1=H - 1 - i by omega]
theorem DU.unfl {a b:Nat} (h:DU c H W a b):DU (fl c H) H W b a:=by
 obtain ⟨i,j1,j2,h1,h2,h3,run,rfl,rfl⟩:=h
 refine ⟨H - 1 - (i+1),j2,j1,by omega,h3,h2,fun k k1 k2=>?_,?_,?_⟩
 ·unfold Fw.fl
  rw [show H - 1 - (H - 1 - (i+1))=i+1 by omega,show H - 1 - (H - 1 - (i+1)+1)=i by omega]
  exact Ne.symm (run k (by omega) (by omega))
 ·unfold Fw.fl; rw [show H - 1 - (H - 1 - (i+1))=i+1 by omega]
 unfold Fw.fl; rw [show H - 1 - (H - 1 - (i+1)+1)=i by omega]
theorem z61 (h:Pl c H W) {n:Nat} (hc:∀ i j,i<H→j<W→c i j<n):∃ f:Nat→Nat,∀ a b,DL c H W a b∨DU c H W b a→f a<f b:=by
 obtain ⟨f,hf⟩:=z1c h.dn (n:=n) (fun i j hi hj=>hc _ j (by omega) hj)
 refine ⟨f,fun a b hd=>hf a b ?_⟩
 rcases hd with hd | hd
 ·exact .inl hd.unfl
 exact .inr hd.unfl
inductive TC (R:Nat→Nat→Prop):Nat→Nat→Prop
 | one {a b:Nat}:R a b→TC R a b
 | tail {a b d:Nat}:TC R a b→R b d→TC R a d
theorem TC.mono {R S:Nat→Nat→Prop} (h:∀ a b,R a b→S a b) {a b:Nat} (k:TC R a b):TC S a b:=by
 induction k with
 | one k=>exact .one (h _ _ k)
 | tail _ k ih=>exact .tail ih (h _ _ k)
theorem TC.trans {R:Nat→Nat→Prop} {a b d:Nat} (h:TC R a b) (k:TC R b d):TC R a d:=by
 induction k with
 | one k=>exact .tail h k
 | tail _ k ih=>exact .tail ih k
theorem TC.rev {R S:Nat→Nat→Prop} (h:∀ a b,R a b→S b a) {a b:Nat} (k:TC R a b):TC S b a:=by
 induction k with
 | one k=>exact .one (h _ _ k)
 | tail _ k ih=>exact (TC.one (h _ _ k)).trans ih
theorem TC.last {R:Nat→Nat→Prop} {a b:Nat} (h:TC R a b):∃ x,(x=a∨TC R a x)∧R x b:=by
 cases h with
 | one k=>exact ⟨a,.inl rfl,k⟩
 | tail h k=>exact ⟨_,.inr h,k⟩
theorem TC.rise {R:Nat→Nat→Prop} {f:Nat→Nat} (h:∀ a b,R a b→f a<f b) {a b:Nat} (k:TC R a b):f a<f b:=by
 induction k with
 | one k=>exact h _ _ k
 | tail _ k ih=>exact Nat.lt_trans ih (h _ _ k)
theorem zo2 {i:Nat} (hi:i<H) {j1:Nat}:∀ {j2:Nat},j1≤j2→j2<W→c i j1≠c i j2→TC (DL c H W) (c i j1) (c i j2)
 | 0,h1,_,h3=>by
    obtain rfl:j1=0:=by omega
    exact absurd rfl h3
 | j2+1,h1,h2,h3=>by
  by_cases e:j1=j2+1
  ·subst e; exact absurd rfl h3
  by_cases q:c i j2=c i (j2+1)
  ·rw [← q]at h3 ⊢
   exact zo2 hi (by omega) (by omega) h3
  have hd:DL c H W (c i j2) (c i (j2+1)):=⟨j2,i,i,h2,hi,hi,fun r r1 r2=>by
  obtain rfl:r=i:=by omega
  exact q,rfl,rfl⟩
  by_cases q2:c i j1=c i j2
  ·rw [q2]; exact .one hd
  exact .tail (zo2 hi (by omega) (by omega) q2) hd
theorem z9a {j:Nat} (hj:j<W) {i1 i2:Nat} (h1:i1≤i2) (h2:i2<H) (h3:c i1 j≠c i2 j):TC (DU c H W) (c i1 j) (c i2 j) :=
 (zo2 (c:=tr c) (H:=W) (W:=H) hj h1 h2 h3).mono fun _ _ h=>h.ex
theorem pass (h:Pl c H W) {r q A:Nat} (hr:r+1<H) (hq:q+1<W) (hNP:c r q=c (r+1) q) (hP:c (r+1) q≠c (r+1) (q+1)) (hQ:c r (q+1)≠c (r+1) (q+1))
  (h1:c (r+1) q=A∨TC (DL c H W) A (c (r+1) q)∨TC (DU c H W) A (c (r+1) q)) (h2:c r (q+1)=A∨TC (DL c H W) A (c r (q+1))∨TC (DU c H W) A (c r (q+1))) :
  TC (DL c H W) A (c (r+1) (q+1))∨TC (DU c H W) A (c (r+1) (q+1)):=by
 have hNQ:c r q≠c r (q+1):=by
  intro e
  have:=h.rect (i:=r+1) (j:=q) (i':=r) (j':=q+1) (r+1) (q+1) hr (by omega) (by omega) hq (by rw [← hNP,e]) (by omega) (by omega) (by omega) (by omega)
  exact hP this.symm
 have dP:DL c H W (c (r+1) q) (c (r+1) (q+1)):=⟨q,r+1,r+1,hq,hr,hr,fun x x1 x2=>by
    obtain rfl:x=r+1:=by omega
    exact hP,rfl,rfl⟩
 have dQ:DU c H W (c r (q+1)) (c (r+1) (q+1)):=⟨r,q+1,q+1,hr,hq,hq,fun x x1 x2=>by
    obtain rfl:x=q+1:=by omega
    exact hQ,rfl,rfl⟩
 rcases h1 with rfl | h1 | h1
 ·exact .inl (.one dP)
 ·exact .inl (.tail h1 dP)
 rcases h2 with rfl | h2 | h2
 ·exact .inr (.one dQ)
 ·left
  obtain ⟨x,hx,j0,i1,i2,k1,k2,k3,run,rfl,k4⟩:=h2.last
  have e:j0=q:=by
   by_cases q1:j0<q
   ·have:=h.rect r q k3 (show r<H by omega) k1 hq k4.symm (by omega) (by omega) (by omega) (by omega)
    rw [← k4]at this
    exact absurd this hNQ
   by_cases q2:q<j0
   ·have:=h.rect i2 j0 k3 (show r<H by omega) k1 hq k4.symm (by omega) (by omega) (by omega) (by omega)
    exact absurd this (run i2 (by omega) (by omega))
   omega
  subst e
  have hd:DL c H W (c i1 j0) (c (r+1) (j0+1)):=by
   refine ⟨j0,i1,r+1,hq,k2,hr,fun x x1 x2=>?_,rfl,rfl⟩
   by_cases q1:min i1 i2≤x∧x≤max i1 i2
   ·exact run x q1.1 q1.2
   by_cases q2:x=r+1
   ·subst q2; exact hP
   intro q3
   have e1:=h.rect x (j0+1) k3 (show r<H by omega) k1 hq k4.symm (by omega) (by omega) (by omega) (by omega)
   rw [← k4]at e1
   have e2:=h.rect (i:=x) (j:=j0) (i':=r) (j':=j0+1) r j0 (by omega) (by omega) (by omega) hq (by rw [q3,e1]) (by omega) (by omega) (by omega) (by omega)
   rw [q3,e1]at e2
   exact hNQ e2
  rcases hx with hx | hx
  ·rw [hx]at hd; exact .one hd
  exact .tail hx hd
 exact .inr (.tail h2 dQ)
theorem zz6 (h:Pl c H W) {x y:Nat}:∀ (s:Nat) {i j:Nat},i+j≤s→x≤i→y≤j→i<H→j<W→c x y≠c i j→TC (DL c H W) (c x y) (c i j)∨TC (DU c H W) (c x y) (c i j):=by
 intro s
 induction s with
 | zero =>
  intro i j h1 h2 h3 h4 h5 h6
  obtain rfl:i=0:=by omega
  obtain rfl:j=0:=by omega
  obtain rfl:x=0:=by omega
  obtain rfl:y=0:=by omega
  exact absurd rfl h6
 | succ s ih =>
  intro i j h1 h2 h3 h4 h5 h6
  by_cases e1:x=i
  ·subst e1; exact .inl (zo2 h4 h3 h5 h6)
  by_cases e2:y=j
  ·subst e2; exact .inr (z9a h5 h2 h4 h6)
  obtain ⟨r,rfl⟩:∃ r,i=r+1:=⟨i - 1,by omega⟩
  obtain ⟨q,rfl⟩:∃ q,j=q+1:=⟨j - 1,by omega⟩
  by_cases e3:c r (q+1)=c (r+1) (q+1)
  ·rw [← e3]at h6 ⊢
   exact ih (by omega) (by omega) h3 (by omega) h5 h6
  by_cases e4:c (r+1) q=c (r+1) (q+1)
  ·rw [← e4]at h6 ⊢
   exact ih (by omega) h2 (by omega) h4 (by omega) h6
  have iP:c (r+1) q=c x y∨TC (DL c H W) (c x y) (c (r+1) q)∨TC (DU c H W) (c x y) (c (r+1) q):=by
   by_cases k:c x y=c (r+1) q
   ·exact .inl k.symm
   exact .inr (ih (by omega) h2 (by omega) h4 (by omega) k)
  have iQ:c r (q+1)=c x y∨TC (DL c H W) (c x y) (c r (q+1))∨TC (DU c H W) (c x y) (c r (q+1)):=by
   by_cases k:c x y=c r (q+1)
   ·exact .inl k.symm
   exact .inr (ih (by omega) (by omega) h3 (by omega) h5 k)
  by_cases hNP:c r q=c (r+1) q
  ·exact pass h h4 h5 hNP e4 e3 iP iQ
  by_cases hNQ:c r q=c r (q+1)
  ·have:=pass (c:=tr c) (H:=W) (W:=H) h.ex (r:=q) (q:=r) (A:=c x y) h5 h4 hNQ e3 e4 ?_ ?_
   ·rcases this with k | k
    ·exact .inr (k.mono fun _ _ h=>h.ex)
    exact .inl (k.mono fun _ _ h=>h.ex)
   ·rcases iQ with k | k | k
    ·exact .inl k
    ·exact .inr (.inr k)
    exact .inr (.inl k)
   rcases iP with k | k | k
   ·exact .inl k
   ·exact .inr (.inr k)
   exact .inr (.inl k)
  exact absurd (h.plain h4 h5 hNQ e4 hNP) e3
theorem yax (h:Pl c H W) {x y i j:Nat} (hx:x<H) (hy:y<W) (hi:i<H) (hj:j<W) (hne:c x y≠c i j) :
  TC (DL c H W) (c x y) (c i j)∨TC (DL c H W) (c i j) (c x y)∨TC (DU c H W) (c x y) (c i j)∨TC (DU c H W) (c i j) (c x y):=by
 have key:∀ {x y i j:Nat},x<H→y<W→i<H→j<W→c x y≠c i j→x≤i→TC (DL c H W) (c x y) (c i j)∨TC (DL c H W) (c i j) (c x y)∨TC (DU c H W) (c x y) (c i j)∨TC (DU c H W) (c i j) (c x y):=by
  intro x y i j hx hy hi hj hne hle
  by_cases q:y≤j
  ·rcases zz6 h _ (qR _) hle q hi hj hne with k | k
   ·exact .inl k
   exact .inr (.inr (.inl k))
  have e1:fl c H (H - 1 - i) j=c i j:=by unfold fl; rw [show H - 1 - (H - 1 - i)=i by omega]
  have e2:fl c H (H - 1 - x) y=c x y:=by unfold fl; rw [show H - 1 - (H - 1 - x)=x by omega]
  have:=zz6 h.dn (x:=H - 1 - i) (y:=j) _ (i:=H - 1 - x) (j:=y) (qR _) (by omega) (by omega) (by omega) hy (by rw [e1,e2]; exact Ne.symm hne)
  rw [e1,e2]at this
  rcases this with k | k
  ·exact .inr (.inl (k.mono fun _ _ h=>h.dn))
  exact .inr (.inr (.inl (k.rev fun _ _ h=>h.dn)))
 by_cases q:x≤i
 ·exact key hx hy hi hj hne q
 rcases key hi hj hx hy (Ne.symm hne) (by omega) with k | k | k | k
 ·exact .inr (.inl k)
 ·exact .inl k
 ·exact .inr (.inr (.inr k))
 exact .inr (.inr (.inl k))
end
end
section
section
variable {n:Nat} {M:List (List Bool)}
theorem absorb {p q:Bool}:(p || (q && p))=p:=by cases p <;> cases q <;> rfl
theorem z5c (h:Sq n M) {k:Nat} (hk:k<n):∀ i,i≤n→Sq n ((List.range i).foldl (clA n k) M) ∧
  ∀ x y,x<n→y<n→zcq ((List.range i).foldl (clA n k) M) x y=if x<i then zcq M x y || (zcq M x k && zcq M k y) else zcq M x y
 | 0,_=>⟨h,fun x y _ _=>by simp⟩
 | i+1,hi=>by
  obtain ⟨h1,h2⟩:=z5c h hk i (by omega)
  rw [zb3]
  generalize (List.range i).foldl (clA n k) M=X at h1 h2 ⊢
  obtain ⟨h3,h4⟩:=z0c h1 hk (show i<n by omega) n (qR _)
  refine ⟨h3,fun x y hx hy=>?_⟩
  unfold clA
  rw [h4 x y hx hy]
  by_cases e:x=i
  ·subst e
   have e1:zcq X x y=zcq M x y:=by rw [h2 x y hx hy,if_neg (Nat.lt_irrefl _)]
   have e2:zcq X x k=zcq M x k:=by rw [h2 x k hx hk,if_neg (Nat.lt_irrefl _)]
   have e3:zcq X k y=zcq M k y:=by
    rw [h2 k y hk hy]
    split
    ·exact absorb
    rfl
   rw [if_pos ⟨rfl,hy⟩,if_pos (by omega),e1,e2,e3]
  rw [if_neg (fun q=>e q.1),h2 x y hx hy]
  by_cases e2:x<i
  ·rw [if_pos e2,if_pos (by omega)]
  rw [if_neg e2,if_neg (by omega)]
theorem yc0 (h:Sq n M) {k:Nat} (hk:k<n) {x y:Nat} (hx:x<n) (hy:y<n):zcq (clK n M k) x y=(zcq M x y || (zcq M x k && zcq M k y)):=by
 have:=(z5c h hk n (qR _)).2 x y hx hy
 rw [if_pos hx]at this
 exact this
theorem z0f (h:Sq n M):∀ i,i≤n→Sq n ((List.range i).foldl (clK n) M) ∧
  (∀ a b,a<n→b<n→zcq M a b=true→zcq ((List.range i).foldl (clK n) M) a b=true) ∧
  (∀ m a b,m<i→a<n→b<n→zcq ((List.range i).foldl (clK n) M) a m=true→zcq ((List.range i).foldl (clK n) M) m b=true→zcq ((List.range i).foldl (clK n) M) a b=true) ∧
  (∀ T:Nat→Nat→Prop,(∀ a b d,T a b→T b d→T a d)→(∀ a b,a<n→b<n→zcq M a b=true→T a b)→∀ a b,a<n→b<n→zcq ((List.range i).foldl (clK n) M) a b=true→T a b)
 | 0,_=>⟨h,fun a b _ _ k=>k,fun m a b k=>by omega,fun T _ k=>k⟩
 | i+1,hi=>by
  obtain ⟨h1,h2,h3,h4⟩:=z0f h i (by omega)
  rw [zb3]
  generalize (List.range i).foldl (clK n) M=X at h1 h2 h3 h4 ⊢
  have hin:i<n:=by omega
  have g:∀ {x y:Nat},x<n→y<n→(zcq (clK n X i) x y=true↔zcq X x y=true∨(zcq X x i=true∧zcq X i y=true)):=by
   intro x y hx hy
   rw [yc0 h1 hin hx hy]; simp
  refine ⟨(z5c h1 hin n (qR _)).1,fun a b ha hb k=>(g ha hb).2 (.inl (h2 a b ha hb k)),fun m a b hm ha hb k1 k2=>?_,fun T tr hT a b ha hb k=>?_⟩
  ·have hmn:m<n:=by omega
   rw [g ha hmn]at k1
   rw [g hmn hb]at k2
   rw [g ha hb]
   by_cases e:m=i
   ·subst e
    rcases k1 with k1 | k1 <;> rcases k2 with k2 | k2
    ·exact .inr ⟨k1,k2⟩
    ·exact .inr ⟨k1,k2.2⟩
    ·exact .inr ⟨k1.1,k2⟩
    exact .inr ⟨k1.1,k2.2⟩
   have hmi:m<i:=by omega
   rcases k1 with k1 | k1 <;> rcases k2 with k2 | k2
   ·exact .inl (h3 m a b hmi ha hb k1 k2)
   ·exact .inr ⟨h3 m a i hmi ha hin k1 k2.1,k2.2⟩
   ·exact .inr ⟨k1.1,h3 m i b hmi hin hb k1.2 k2⟩
   exact .inr ⟨k1.1,k2.2⟩
  rw [g ha hb]at k
  rcases k with k | k
  ·exact h4 T tr hT a b ha hb k
  exact tr a i b (h4 T tr hT a i ha hin k.1) (h4 T tr hT i b hin hb k.2)
def MR (n:Nat) (M:List (List Bool)) (a b:Nat):Prop:=a<n∧b<n∧zcq M a b=true
theorem z0e (h:Sq n M) {a b:Nat} (ha:a<n) (hb:b<n):zcq (zfv M) a b=true↔TC (MR n M) a b:=by
 obtain ⟨h1,h2,h3,h4⟩:=z0f h n (qR _)
 have e:zfv M=(List.range n).foldl (clK n) M:=by unfold zfv; rw [h.1]
 rw [e]
 constructor
 ·exact h4 (TC (MR n M)) (fun _ _ _ p q=>p.trans q) (fun a b ha hb k => .one ⟨ha,hb,k⟩) a b ha hb
 intro k
 induction k with
 | one k=>exact h2 _ _ k.1 k.2.1 k.2.2
 | tail _ k ih=>exact h3 _ _ _ k.1 ha k.2.1 (ih k.1) (h2 _ _ k.1 k.2.1 k.2.2)
end
def Cov (ws:List Wall) (level:Bool) (line i1 i2:Nat):Prop:=∃ w∈ws,w.level=level∧w.line=line∧w.fr≤i1∧(i2:Int)<w.fr+w.long
theorem Cov.app {ws vs:List Wall} {level:Bool} {line i1 i2:Nat} (h:Cov ws level line i1 i2):Cov (ws++vs) level line i1 i2:=by
 obtain ⟨w,hw,k⟩:=h
 exact ⟨w,List.mem_append_left _ hw,k⟩
theorem Cov.long {ws:List Wall} {w:Wall} {level:Bool} {line i1 i2:Nat} (h:Cov (ws++[w]) level line i1 i2):Cov (ws++[{ w with long:=w.long+1 }]) level line i1 i2:=by
 obtain ⟨v,hv,k1,k2,k3,k4⟩:=h
 rcases List.mem_append.1 hv with hv | hv
 ·exact ⟨v,List.mem_append_left _ hv,k1,k2,k3,k4⟩
 rw [List.mem_singleton]at hv
 subst hv
 exact ⟨_,List.mem_append_right _ (List.mem_singleton.2 rfl),k1,k2,k3,by simp only; omega⟩
def Run (g:List (List Int)) (level:Bool) (line i1 i2:Nat):Prop:=∀ j,i1≤j→j≤i2→zkm g level line j=true
theorem ztz {g:List (List Int)} {level:Bool} {line:Nat} {ws:List Wall}:∀ n,(∀ lv ln i1 i2,Cov ws lv ln i1 i2→Cov (zbk g level line ws n).1 lv ln i1 i2) ∧
  (∀ i1 i2,i1≤i2→i2<n→Run g level line i1 i2→Cov (zbk g level line ws n).1 level line i1 i2) ∧
  ((zbk g level line ws n).2=false→∀ m,n=m+1→zkm g level line m=false) ∧
  ((zbk g level line ws n).2=true→∃ (ws0:List Wall) (w:Wall),(zbk g level line ws n).1=ws0++[w]∧w.level=level∧w.line=(line:Int)∧w.fr+w.long=(n:Int)∧1≤w.long∧∀ i:Nat,i<n→Run g level line i (n - 1)→w.fr≤(i:Int))
 | 0=>by
  rw [zlb]
  exact ⟨fun _ _ _ _ h=>h,fun i1 i2 _ h=>by omega,fun _ m h=>by omega,fun h=>by cases h⟩
 | n+1=>by
  obtain ⟨h1,h2,h3,h4⟩:=ztz (g:=g) (level:=level) (line:=line) (ws:=ws) n
  rw [zd5]
  generalize zbk g level line ws n=s at h1 h2 h3 h4
  obtain ⟨l,op⟩:=s
  simp only at h1 h2 h3 h4
  cases hd:zkm g level line n with
  | false =>
   have e:zek false level line n (l,op)=(l,false):=by simp [zek]
   rw [e]
   refine ⟨h1,fun i1 i2 k1 k2 k3=>?_,fun _ m hm=>(by have e0:m=n:=(by omega); rw [e0]; exact hd),fun h=>by cases h⟩
   by_cases e2:i2=n
   ·subst e2
    have:=k3 i2 k1 (qR _)
    rw [hd]at this; cases this
   exact h2 i1 i2 k1 (by omega) k3
  | true =>
   cases op with
   | false =>
    have e:zek true level line n (l,false)=(l++[⟨level,line,n,1⟩],true):=by simp [zek]
    rw [e]
    have hno:∀ m,n=m+1→zkm g level line m=false:=h3 rfl
    have first:∀ i,i<n+1→Run g level line i n→i=n:=by
     intro i hi hr
     by_cases e2:i=n
     ·exact e2
     have:=hr (n - 1) (by omega) (by omega)
     rw [hno (n - 1) (by omega)]at this; cases this
    refine ⟨fun lv ln i1 i2 k=>(h1 lv ln i1 i2 k).app,fun i1 i2 k1 k2 k3=>?_,fun h=>(by cases h),fun _=>⟨l,_,rfl,rfl,rfl,by simp,by simp,fun i hi hr=>?_⟩⟩
    ·by_cases e2:i2=n
     ·subst e2
      obtain rfl:=first i1 (by omega) k3
      exact ⟨_,List.mem_append_right _ (List.mem_singleton.2 rfl),rfl,rfl,Int.le_refl _,by simp only; omega⟩
     exact (h2 i1 i2 k1 (by omega) k3).app
    have:=first i hi hr
    simp only; omega
   | true =>
    obtain ⟨ws0,w,rfl,w1,w2,w3,w4,w5⟩:=h4 rfl
    have e:zek true level line n (ws0++[w],true)=(ws0++[{ w with long:=w.long+1 }],true):=by simp [zek]
    rw [e]
    have hfr:∀ i:Nat,i<n+1→Run g level line i n→w.fr≤(i:Int):=by
     intro i hi hr
     by_cases e2:i=n
     ·omega
     exact w5 i (by omega) fun j j1 j2=>hr j j1 (by omega)
    refine ⟨fun lv ln i1 i2 k=>(h1 lv ln i1 i2 k).long,fun i1 i2 k1 k2 k3=>?_,fun h=>(by cases h),fun _=>⟨ws0,_,rfl,w1,w2,by simp only; omega,by simp only; omega,fun i hi hr=>hfr i hi hr⟩⟩
    by_cases e2:i2=n
    ·subst e2
     have:=hfr i1 (by omega) k3
     exact ⟨_,List.mem_append_right _ (List.mem_singleton.2 rfl),w1,w2,this,by simp only; omega⟩
    exact (h2 i1 i2 k1 (by omega) k3).long
theorem zk6 {g:List (List Int)} {level:Bool} {places:Nat} {ws:List Wall}:∀ lines,(∀ lv ln i1 i2,Cov ws lv ln i1 i2→Cov (zbp g level places ws lines) lv ln i1 i2) ∧
  (∀ line i1 i2,1≤line→line<lines→i1≤i2→i2<places→Run g level line i1 i2→Cov (zbp g level places ws lines) level line i1 i2)
 | 0=>⟨fun _ _ _ _ h=>h,fun line _ _ _ h=>by omega⟩
 | k+1=>by
  obtain ⟨h1,h2⟩:=zk6 (g:=g) (level:=level) (places:=places) (ws:=ws) k
  by_cases hk:1≤k
  ·rw [zej hk]
   obtain ⟨l1,l2,-,-⟩:=ztz (g:=g) (level:=level) (line:=k) (ws:=zbp g level places ws k) places
   refine ⟨fun lv ln i1 i2 q=>l1 _ _ _ _ (h1 _ _ _ _ q),fun line i1 i2 q1 q2 q3 q4 q5=>?_⟩
   by_cases e:line=k
   ·subst e; exact l2 i1 i2 q3 q4 q5
   exact l1 _ _ _ _ (h2 line i1 i2 q1 (by omega) q3 q4 q5)
  obtain rfl:k=0:=by omega
  rw [zk8]
  exact ⟨fun _ _ _ _ h=>h,fun line _ _ q1 q2=>by omega⟩
theorem ztx {g:List (List Int)} {H W:Nat} {level:Bool} {line i1 i2:Nat} (h1:1≤line) (h2:line<if level then H else W) (h3:i1≤i2) (h4:i2<if level then W else H) (hr:Run g level line i1 i2):Cov (zcd g H W) level line i1 i2:=by
 unfold zcd
 obtain ⟨a1,a2⟩:=zk6 (g:=g) (level:=false) (places:=H) (ws:=[]) W
 obtain ⟨b1,b2⟩:=zk6 (g:=g) (level:=true) (places:=W) (ws:=zbp g false H [] W) H
 cases level with
 | false=>exact b1 _ _ _ _ (a2 line i1 i2 h1 h2 h3 h4 hr)
 | true=>exact b2 line i1 i2 h1 h2 h3 h4 hr
section
variable {n:Nat}
theorem z1z {a:Int} (ha:0≤a∧a<n):∀ {bs:List Int} {M:List (List Bool)},Rm n bs→Sq n M→Sq n (relB a bs M)∧∀ x y,zcq (relB a bs M) x y=true↔zcq M x y=true∨(x=a.toNat∧∃ b∈bs,y=b.toNat)
 | [],M,_,h=>⟨h,fun x y=>by simp [relB]⟩
 | b::bs,M,hb,h=>by
  have hb0:=hb b (by simp)
  obtain ⟨k1,k2⟩:=z1z ha (bs:=bs) (M:=z35 M a.toNat b.toNat true) (fun x hx=>hb x (by simp [hx])) (h.set (by omega))
  refine ⟨k1,fun x y=>?_⟩
  have e:relB a (b::bs) M=relB a bs (z35 M a.toNat b.toNat true):=rfl
  rw [e,k2,zlo h (by omega) (by omega)]
  by_cases q:x=a.toNat∧y=b.toNat
  ·rw [if_pos q]; simp [q.1,q.2]
  rw [if_neg q]
  constructor
  ·rintro (k | ⟨k,c,hc,rfl⟩)
   ·exact .inl k
   exact .inr ⟨k,c,by simp [hc],rfl⟩
  rintro (k | ⟨k,c,hc,rfl⟩)
  ·exact .inl k
  rcases List.mem_cons.1 hc with rfl | hc
  ·exact absurd ⟨k,rfl⟩ q
  exact .inr ⟨k,c,hc,rfl⟩
theorem zu0 {bs:List Int} (hb:Rm n bs):∀ {la:List Int} {M:List (List Bool)},Rm n la→Sq n M→Sq n (relW M la bs)∧∀ x y,zcq (relW M la bs) x y=true↔zcq M x y=true∨(∃ a∈la,x=a.toNat)∧∃ b∈bs,y=b.toNat
 | [],M,_,h=>⟨h,fun x y=>by simp [relW]⟩
 | a::la,M,ha,h=>by
  obtain ⟨j1,j2⟩:=z1z (ha a (by simp)) hb h
  obtain ⟨k1,k2⟩:=zu0 hb (la:=la) (M:=relB a bs M) (fun x hx=>ha x (by simp [hx])) j1
  refine ⟨k1,fun x y=>?_⟩
  have e:relW M (a::la) bs=relW (relB a bs M) la bs:=rfl
  rw [e,k2,j2]
  constructor
  ·rintro ((k | ⟨k,q⟩) | ⟨⟨c,hc,k⟩,q⟩)
   ·exact .inl k
   ·exact .inr ⟨⟨a,by simp,k⟩,q⟩
   exact .inr ⟨⟨c,by simp [hc],k⟩,q⟩
  rintro (k | ⟨⟨c,hc,k⟩,q⟩)
  ·exact .inl (.inl k)
  rcases List.mem_cons.1 hc with rfl | hc
  ·exact .inl (.inr ⟨k,q⟩)
  exact .inr ⟨⟨c,hc,k⟩,q⟩
def By (g:List (List Int)) (ws:List Wall) (lv:Bool) (x y:Nat):Prop:=∃ w∈ws,w.level=lv∧(∃ a∈(zar g w).1,x=a.toNat)∧∃ b∈(zar g w).2,y=b.toNat
theorem By.cons {g:List (List Int)} {w:Wall} {ws:List Wall} {lv:Bool} {x y:Nat}:By g (w::ws) lv x y↔(w.level=lv∧(∃ a∈(zar g w).1,x=a.toNat)∧∃ b∈(zar g w).2,y=b.toNat)∨By g ws lv x y:=by
 unfold By; simp
theorem zus {g:List (List Int)} {nh nw:Nat} (hrm:zvm g nh nw n):∀ (ws:List Wall),(∀ w∈ws,zt5 g nh nw w)→∀ {M:List (List Bool) × List (List Bool)},Sq n M.1→Sq n M.2 →
  (Sq n (ws.foldl (zmq g) M).1∧∀ x y,zcq (ws.foldl (zmq g) M).1 x y=true↔zcq M.1 x y=true∨By g ws false x y) ∧
  (Sq n (ws.foldl (zmq g) M).2∧∀ x y,zcq (ws.foldl (zmq g) M).2 x y=true↔zcq M.2 x y=true∨By g ws true x y)
 | [],_,M,h0,h1=>⟨⟨h0,fun x y=>by simp [By]⟩,⟨h1,fun x y=>by simp [By]⟩⟩
 | w::ws,hws,M,h0,h1=>by
  obtain ⟨r1,r2⟩:=zfb hrm (hws w (by simp))
  rw [List.foldl_cons]
  cases hlv:w.level with
  | false =>
   obtain ⟨k1,k2⟩:=zu0 r2 r1 h0
   have e:zmq g M w=(relW M.1 (zar g w).1 (zar g w).2,M.2):=by unfold zmq; rw [hlv]; rfl
   rw [e]
   obtain ⟨⟨a1,a2⟩,⟨b1,b2⟩⟩:=zus hrm ws (fun w hw=>hws w (by simp [hw])) (M:=(relW M.1 (zar g w).1 (zar g w).2,M.2)) k1 h1
   refine ⟨⟨a1,fun x y=>?_⟩,⟨b1,fun x y=>?_⟩⟩
   ·rw [a2,k2,By.cons,hlv]; simp only[true_and,or_assoc]
   rw [b2,By.cons,hlv]; simp
  | true =>
   obtain ⟨k1,k2⟩:=zu0 r2 r1 h1
   have e:zmq g M w=(M.1,relW M.2 (zar g w).1 (zar g w).2):=by unfold zmq; rw [hlv]; rfl
   rw [e]
   obtain ⟨⟨a1,a2⟩,⟨b1,b2⟩⟩:=zus hrm ws (fun w hw=>hws w (by simp [hw])) (M:=(M.1,relW M.2 (zar g w).1 (zar g w).2)) h0 k1
   refine ⟨⟨a1,fun x y=>?_⟩,⟨b1,fun x y=>?_⟩⟩
   ·rw [a2,By.cons,hlv]; simp
   rw [b2,k2,By.cons,hlv]; simp only[true_and,or_assoc]
theorem zwc {x y:Nat}:zcq (zbm n) x y=false:=by
 unfold zcq zbm
 rw [List.getElem?_replicate]
 split
 ·rw [Option.getD_some,List.getElem?_replicate]; split <;> rfl
 rfl
def cn (g:List (List Int)) (i j:Nat):Nat:=(gz g i j).toNat
theorem zvm.ne {g:List (List Int)} {nh nw:Nat} (h:zvm g nh nw n) {i j i' j':Nat} (h1:i<nh) (h2:j<nw) (h3:i'<nh) (h4:j'<nw):gz g i j≠gz g i' j'↔cn g i j≠cn g i' j':=by
 have a:=h i j h1 h2
 have b:=h i' j' h3 h4
 unfold cn
 omega
theorem zyb {g:List (List Int)} {level:Bool} {line fr long j:Nat} (h1:fr≤j) (h2:j<fr+long):(zb1 g level line j).1∈(zar g ⟨level,line,fr,long⟩).1:=by
 simp only[zar,Int.toNat_natCast]
 rw [zm6]
 simp only[za6,List.mem_map,List.mem_range]
 exact ⟨j - fr,by omega,by rw [show fr+(j - fr)=j by omega]⟩
theorem zyc {g:List (List Int)} {level:Bool} {line fr long j:Nat} (h1:fr≤j) (h2:j<fr+long):(zb1 g level line j).2∈(zar g ⟨level,line,fr,long⟩).2:=by
 simp only[zar,Int.toNat_natCast]
 rw [zm6]
 simp only[za6,List.mem_map,List.mem_range]
 exact ⟨j - fr,by omega,by rw [show fr+(j - fr)=j by omega]⟩
theorem z2e {g:List (List Int)} {level:Bool} {line fr long:Nat} {x:Int} (h:x∈(zar g ⟨level,line,fr,long⟩).1):∃ j,fr≤j∧j<fr+long∧x=(zb1 g level line j).1:=by
 simp only[zar,Int.toNat_natCast]at h
 rw [zm6]at h
 simp only[za6,List.mem_map,List.mem_range]at h
 obtain ⟨j,hj,rfl⟩:=h
 exact ⟨fr+j,by omega,by omega,rfl⟩
theorem z2f {g:List (List Int)} {level:Bool} {line fr long:Nat} {x:Int} (h:x∈(zar g ⟨level,line,fr,long⟩).2):∃ j,fr≤j∧j<fr+long∧x=(zb1 g level line j).2:=by
 simp only[zar,Int.toNat_natCast]at h
 rw [zm6]at h
 simp only[za6,List.mem_map,List.mem_range]at h
 obtain ⟨j,hj,rfl⟩:=h
 exact ⟨fr+j,by omega,by omega,rfl⟩
theorem ycz {g:List (List Int)} {nh nw:Nat} (h:zvm g nh nw n) {x y:Nat}:By g (zcd g nh nw) false x y↔DL (cn g) nh nw x y:=by
 constructor
 ·rintro ⟨w,hw,hlv,⟨a,ha,rfl⟩,b,hb,rfl⟩
  obtain ⟨line,fr,long,he,hl,hin⟩:=zds w hw
  rw [hlv]at he hin
  subst he
  obtain ⟨j1,p1,p2,rfl⟩:=z2e ha
  obtain ⟨j2,q1,q2,rfl⟩:=z2f hb
  have i1:=(hin j1 p1 p2).1
  have i2:=(hin j2 q1 q2).1
  unfold InL at i1 i2
  simp only[qF,if_false]at i1 i2
  obtain ⟨L,rfl⟩:∃ L,line=L+1:=⟨line - 1,by omega⟩
  refine ⟨L,j1,j2,i1.2.1,i1.2.2,i2.2.2,fun r r1 r2=>?_,?_,?_⟩
  ·have hr:=hin r (by omega) (by omega)
   have hr1:=hr.1
   unfold InL at hr1
   simp only[qF,if_false]at hr1
   have hr2:=hr.2
   unfold zkm zb1 at hr2
   simp only[qF,if_false,decide_eq_true_eq,Nat.add_sub_cancel]at hr2
   exact (h.ne hr1.2.2 (by omega) hr1.2.2 hr1.2.1).1 hr2
  ·simp [zb1,cn]
  simp [zb1,cn]
 rintro ⟨L,i1,i2,h1,h2,h3,run,rfl,rfl⟩
 have hrun:Run g false (L+1) (min i1 i2) (max i1 i2):=by
  intro r r1 r2
  have:=run r r1 r2
  rw [← h.ne (by omega) (by omega) (by omega) h1]at this
  unfold zkm zb1
  simpa using this
 obtain ⟨w,hw,w1,w2,w3,w4⟩:=ztx (g:=g) (H:=nh) (W:=nw) (level:=false) (line:=L+1) (by omega) (by simpa using h1) (by omega) (by simp only[qF,if_false]; omega) hrun
 obtain ⟨line,fr,long,he,hl,hin⟩:=zds w hw
 rw [w1]at he
 subst he
 simp only at w2 w3 w4
 obtain rfl:line=L+1:=by omega
 refine ⟨_,hw,rfl,⟨_,zyb (j:=i1) (by omega) (by omega),?_⟩,_,zyc (j:=i2) (by omega) (by omega),?_⟩
 ·simp [zb1,cn]
 simp [zb1,cn]
theorem z86 {g:List (List Int)} {nh nw:Nat} (h:zvm g nh nw n) {x y:Nat}:By g (zcd g nh nw) true x y↔DU (cn g) nh nw x y:=by
 constructor
 ·rintro ⟨w,hw,hlv,⟨a,ha,rfl⟩,b,hb,rfl⟩
  obtain ⟨line,fr,long,he,hl,hin⟩:=zds w hw
  rw [hlv]at he hin
  subst he
  obtain ⟨j1,p1,p2,rfl⟩:=z2e ha
  obtain ⟨j2,q1,q2,rfl⟩:=z2f hb
  have i1:=(hin j1 p1 p2).1
  have i2:=(hin j2 q1 q2).1
  unfold InL at i1 i2
  simp only[if_true]at i1 i2
  obtain ⟨L,rfl⟩:∃ L,line=L+1:=⟨line - 1,by omega⟩
  refine ⟨L,j1,j2,i1.2.1,i1.2.2,i2.2.2,fun r r1 r2=>?_,?_,?_⟩
  ·have hr:=hin r (by omega) (by omega)
   have hr1:=hr.1
   unfold InL at hr1
   simp only[if_true]at hr1
   have hr2:=hr.2
   unfold zkm zb1 at hr2
   simp only[if_true,decide_eq_true_eq,Nat.add_sub_cancel]at hr2
   exact (h.ne (by omega) hr1.2.2 hr1.2.1 hr1.2.2).1 hr2
  ·simp [zb1,cn]
  simp [zb1,cn]
 rintro ⟨L,i1,i2,h1,h2,h3,run,rfl,rfl⟩
 have hrun:Run g true (L+1) (min i1 i2) (max i1 i2):=by
  intro r r1 r2
  have:=run r r1 r2
  rw [← h.ne (by omega) (by omega) h1 (by omega)]at this
  unfold zkm zb1
  simpa using this
 obtain ⟨w,hw,w1,w2,w3,w4⟩:=ztx (g:=g) (H:=nh) (W:=nw) (level:=true) (line:=L+1) (by omega) (by simpa using h1) (by omega) (by simp only[if_true]; omega) hrun
 obtain ⟨line,fr,long,he,hl,hin⟩:=zds w hw
 rw [w1]at he
 subst he
 simp only at w2 w3 w4
 obtain rfl:line=L+1:=by omega
 refine ⟨_,hw,rfl,⟨_,zyb (j:=i1) (by omega) (by omega),?_⟩,_,zyc (j:=i2) (by omega) (by omega),?_⟩
 ·simp [zb1,cn]
 simp [zb1,cn]
theorem zrs {g:List (List Int)} {nh nw:Nat} (h:zvm g nh nw n) {i j:Nat} (hi:i<nh) (hj:j<nw):cn g i j<n:=by
 have:=h i j hi hj
 unfold cn; omega
theorem ydq {g:List (List Int)} {nh nw:Nat} (h:zvm g nh nw n) {a b:Nat} (ha:a<n) (hb:b<n):zcq (zws g nh nw n) a b=true↔TC (DL (cn g) nh nw) a b:=by
 obtain ⟨⟨k1,k2⟩,-⟩:=zus h (zcd g nh nw) zds (M:=(zbm n,zbm n)) (zes n) (zes n)
 have hd:∀ x y,zcq (z9z g nh nw n).1 x y=true↔DL (cn g) nh nw x y:=fun x y=>by
  unfold z9z; rw [k2,ycz h]; simp [zwc]
 unfold zws
 have k3:Sq n (z9z g nh nw n).1:=k1
 rw [z0e k3 ha hb]
 constructor
 ·exact TC.mono fun x y q=>(hd x y).1 q.2.2
 refine TC.mono fun x y q=>⟨?_,?_,(hd x y).2 q⟩
 ·obtain ⟨j,i1,i2,q1,q2,q3,-,rfl,-⟩:=q
  exact zrs h q2 (by omega)
 obtain ⟨j,i1,i2,q1,q2,q3,-,-,rfl⟩:=q
 exact zrs h q3 q1
theorem z8x {g:List (List Int)} {nh nw:Nat} (h:zvm g nh nw n) {a b:Nat} (ha:a<n) (hb:b<n):zcq (znn g nh nw n) a b=true↔TC (DU (cn g) nh nw) a b:=by
 obtain ⟨-,⟨k1,k2⟩⟩:=zus h (zcd g nh nw) zds (M:=(zbm n,zbm n)) (zes n) (zes n)
 have hd:∀ x y,zcq (z9z g nh nw n).2 x y=true↔DU (cn g) nh nw x y:=fun x y=>by
  unfold z9z; rw [k2,z86 h]; simp [zwc]
 unfold znn
 have k3:Sq n (z9z g nh nw n).2:=k1
 rw [z0e k3 ha hb]
 constructor
 ·exact TC.mono fun x y q=>(hd x y).1 q.2.2
 refine TC.mono fun x y q=>⟨?_,?_,(hd x y).2 q⟩
 ·obtain ⟨j,i1,i2,q1,q2,q3,-,rfl,-⟩:=q
  exact zrs h (by omega) q2
 obtain ⟨j,i1,i2,q1,q2,q3,-,-,rfl⟩:=q
 exact zrs h q1 q3
end
end
section
theorem zxp {p:List Txt} {i:Nat}:∀ {w:Nat},zgb p 4 i w=0→∀ k,1≤k→k<w→zi2 p i k≠4
 | w+1,h,k,h1,h2=>by
  have hb:=(zez p 4 i w).1
  unfold zgb at h
  by_cases e:k=w
  ·subst e
   intro q
   rw [if_pos ⟨h1,q⟩]at h
   omega
  have h0:zgb p 4 i w=0:=by split at h <;> omega
  exact zxp h0 k h1 (by omega)
theorem z1q {p:List Txt} {w:Nat}:∀ {n:Nat},zio p 4 w n=0→∀ i,1≤i→i<n→zgb p 4 i w=0
 | n+1,h,i,h1,h2=>by
  have hb:0≤zio p 4 w n:=by
   clear h h1 h2
   induction n with
   | zero=>simp [zio]
   | succ n ih =>
    have:=(zez p 4 n w).1
    unfold zio; split <;> omega
  have hr:=(zez p 4 n w).1
  unfold zio at h
  by_cases e:i=n
  ·subst e
   rw [if_pos h1]at h
   omega
  have h0:zio p 4 w n=0:=by split at h <;> omega
  exact z1q h0 i h1 (by omega)
theorem z4h {a b:UInt8} (h:(a.toNat:Int) - 97≠(b.toNat:Int) - 97):a≠b:=by
 rintro rfl; exact h rfl
theorem z3e {p:List Txt} (hg:zcp p=true) {i k:Nat} (hi:i+1<p.length) (hk:k+1<(zaq p).length) (h1:zbx p i k≠zbx p i (k+1)) (h2:zbx p i k≠zbx p (i+1) k) (h3:zbx p i k≠zbx p (i+1) (k+1))
  (h4:zbx p i (k+1)≠zbx p (i+1) k) (h5:zbx p i (k+1)≠zbx p (i+1) (k+1)) (h6:zbx p (i+1) k≠zbx p (i+1) (k+1)):zi2 p (i+1) (k+1)=4:=by
 obtain ⟨r1,hr1,-⟩:=zae (show i<p.length by omega)
 obtain ⟨r2,hr2,-⟩:=zae hi
 have e1:=zdw hg hr1
 have e2:=zdw hg hr2
 obtain ⟨a,ha,-⟩:=zae (show k<r1.length by omega)
 obtain ⟨b,hb,-⟩:=zae (show k+1<r1.length by omega)
 obtain ⟨c,hc,-⟩:=zae (show k<r2.length by omega)
 obtain ⟨d,hd,-⟩:=zae (show k+1<r2.length by omega)
 rw [zcm hr1 ha]at h1 h2 h3
 rw [zcm hr1 hb]at h1 h4 h5
 rw [zcm hr2 hc]at h2 h4 h6
 rw [zcm hr2 hd]at h3 h5 h6
 have n1:=z4h h1
 have n2:=z4h h2
 have n3:=z4h h3
 have n4:=z4h h4
 have n5:=z4h h5
 have n6:=z4h h6
 unfold zi2
 simp only[Nat.add_sub_cancel,hr1,hr2,ha,hb,hc,hd]
 simp [zga,z6p,zrz,Ne.symm n1,Ne.symm n2,Ne.symm n3,Ne.symm n4,Ne.symm n5,Ne.symm n6]
theorem zkl {p:List Txt} (hp:zfg p=true) {i j:Nat} (hi:i<p.length) (hj:j<(zaq p).length):(cn (gP p) i j:Int)=zbx p i j:=by
 have hN:=zdo hp
 have:=hN.room hi hj
 unfold cn
 rw [hN.cell hi hj]; omega
theorem z7b {p:List Txt} (hp:zbt p=true):Pl (cn (gP p)) p.length (zaq p).length:=by
 have hpl:=zm9 hp
 have hN:=zdo hpl
 have rect:∀ {i j i' j':Nat} (k l:Nat),i<p.length→i'<p.length→j<(zaq p).length→j'<(zaq p).length→cn (gP p) i j=cn (gP p) i' j'→min i i'≤k→k≤max i i'→min j j'≤l→l≤max j j'→cn (gP p) k l=cn (gP p) i j:=by
  intro i j i' j' k l h1 h2 h3 h4 e h5 h6 h7 h8
  have e1:=zkl hpl h1 h3
  have e2:=zkl hpl h2 h4
  have e3:=zkl hpl (show k<p.length by omega) (show l<(zaq p).length by omega)
  obtain ⟨b,hb,q1,-,c1⟩:=zhu hpl h1 h3
  obtain ⟨b',hb',q2,-,-⟩:=zhu hpl h2 h4
  have e4:zbx p i j=zbx p i' j':=by omega
  rw [e4,hb']at hb
  obtain rfl:=Option.some.inj hb
  have q3:inB b' k l=true:=by
   unfold inB at q1 q2 ⊢
   simp only[qB,decide_eq_true_eq]at q1 q2 ⊢
   omega
  have:=c1 k l (by omega) (by omega) q3
  omega
 refine ⟨rect,fun {i j} h1 h2 n1 n2 n3=>Classical.byContradiction fun n4=>?_⟩
 have h0:points p 4=0:=by
  unfold zbt at hp
  simp only[qB,decide_eq_true_eq]at hp
  exact hp.2
 have hno:=zxp (z1q h0 (i+1) (by omega) h1) (j+1) (by omega) h2
 have n5:cn (gP p) i j≠cn (gP p) (i+1) (j+1):=by
  intro e
  exact n1 (rect i (j+1) (by omega) h1 (by omega) h2 e (by omega) (by omega) (by omega) (by omega)).symm
 have n6:cn (gP p) i (j+1)≠cn (gP p) (i+1) j:=by
  intro e
  exact n1 (rect i j (by omega) h1 h2 (by omega) e (by omega) (by omega) (by omega) (by omega))
 have c1:=zkl hpl (show i<p.length by omega) (show j<(zaq p).length by omega)
 have c2:=zkl hpl (show i<p.length by omega) h2
 have c3:=zkl hpl h1 (show j<(zaq p).length by omega)
 have c4:=zkl hpl h1 h2
 exact hno (z3e hN.hg h1 h2 (by omega) (by omega) (by omega) (by omega) (by omega) (by omega))
theorem zx3 {p:List Txt} {a:Nat} (ha:a<(rP p).length):∃ i j,i<p.length∧j<(zaq p).length∧cn (gP p) i j=a:=by
 have hi:=zg3 p
 obtain ⟨b,hb,-⟩:=zae ha
 obtain ⟨v,hv,-⟩:=zae (show a<(keys p).length by rw [← hi.len]; exact ha)
 obtain ⟨i,j,⟨hz,hj,hij⟩,-⟩:=(hi.hull a v b hv hb).at_
 have hi2:i<p.length:=by omega
 refine ⟨i,j,hi2,hj,?_⟩
 unfold cn
 rw [z5x hi2 hj,hz,Int.toNat_natCast]
 have hlt:¬ (keys p).idxOf v=(keys p).length:=by
  have:=List.idxOf_lt_length_iff.2 (List.mem_of_getElem? hv)
  omega
 exact zlt hi.nd (zhn hlt) hv
def lfM (p:List Txt):List (List Bool):=zws (gP p) p.length (zaq p).length (rP p).length
def abM (p:List Txt):List (List Bool):=znn (gP p) p.length (zaq p).length (rP p).length
def Lf (p:List Txt) (a b:Nat):Prop:=zcq (lfM p) a b=true
def Ab (p:List Txt) (a b:Nat):Prop:=zcq (abM p) a b=true
section
variable {p:List Txt} {a b d:Nat}
theorem Lf.iff (ha:a<(rP p).length) (hb:b<(rP p).length):Lf p a b↔TC (DL (cn (gP p)) p.length (zaq p).length) a b:=ydq zf2 ha hb
theorem Ab.iff (ha:a<(rP p).length) (hb:b<(rP p).length):Ab p a b↔TC (DU (cn (gP p)) p.length (zaq p).length) a b:=z8x zf2 ha hb
theorem Lf.trans (ha:a<(rP p).length) (hb:b<(rP p).length) (hd:d<(rP p).length) (h:Lf p a b) (k:Lf p b d):Lf p a d:=by
 rw [Lf.iff ha hd]; exact ((Lf.iff ha hb).1 h).trans ((Lf.iff hb hd).1 k)
theorem Ab.trans (ha:a<(rP p).length) (hb:b<(rP p).length) (hd:d<(rP p).length) (h:Ab p a b) (k:Ab p b d):Ab p a d:=by
 rw [Ab.iff ha hd]; exact ((Ab.iff ha hb).1 h).trans ((Ab.iff hb hd).1 k)
theorem zzk (hp:zbt p=true):∃ f g:Nat→Nat,∀ a b,a<(rP p).length→b<(rP p).length→(Lf p a b→f a<f b∧g a<g b)∧(Ab p a b→f a<f b∧g b<g a):=by
 have hpl:=z7b hp
 obtain ⟨f,hf⟩:=z1c hpl (n:=(rP p).length) (fun i j hi hj=>zrs zf2 hi hj)
 obtain ⟨g,hg⟩:=z61 hpl (n:=(rP p).length) (fun i j hi hj=>zrs zf2 hi hj)
 refine ⟨f,g,fun a b ha hb=>⟨fun h=>?_,fun h=>?_⟩⟩
 ·rw [Lf.iff ha hb]at h
  exact ⟨h.rise fun a b k=>hf a b (.inl k),h.rise fun a b k=>hg a b (.inl k)⟩
 rw [Ab.iff ha hb]at h
 exact ⟨h.rise fun a b k=>hf a b (.inr k),(h.rev (S:=fun x y=>DU (cn (gP p)) p.length (zaq p).length y x) fun _ _ k=>k).rise fun a b k=>hg a b (.inr k)⟩
theorem z3j (hp:zbt p=true) (ha:a<(rP p).length) (hb:b<(rP p).length) (hne:a≠b):Lf p a b∨Lf p b a∨Ab p a b∨Ab p b a:=by
 obtain ⟨i,j,h1,h2,e1⟩:=zx3 ha
 obtain ⟨k,l,h3,h4,e2⟩:=zx3 hb
 have:=yax (z7b hp) h1 h2 h3 h4 (by rw [e1,e2]; exact hne)
 rw [e1,e2]at this
 rw [Lf.iff ha hb,Lf.iff hb ha,Ab.iff ha hb,Ab.iff hb ha]
 exact this
end
end
end Fw
end Go.Proofs.YtddhgiafpmghpaaGreat
