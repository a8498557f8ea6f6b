/- Parts of the framework and of the proof: Heaviest sums in plain words; Numbers put in order by putting one after the other in; Sort, gone through; How many rooms meet at the points of a grid of the program; Points of the program, gone through; The text of a grid; strings.Builder: copyCheck and String, in the model's own words; The text of a plan of the program, gone through; How the program numbers rooms and finds the rectangles around them; The numbering of rooms by the program, gone through; The numbering of all rooms of a grid; Grids of the program, gone through; A plan of a grid, as the program finds it; Plans of the program, gone through; Plans that are read, in plain words; Reading plans, gone through; The two closures of relations are the same; The heaviest sums and the least sizes are the same; The program's walls and orders are the specification's; The program's direct orders are the specification's; Sums and counts of cells; The least rectangle around cells, by the program; The least rectangle around a room and its cells, by the specification; Plans that are read are the specification's: grids and names; Plans that are read are the specification's: numbers of rooms and rectangles; Plans that are read are the specification's: rooms fill their rectangles; Areas by the program are the specification's; Areas by the program are the specification's, joined; Arguments of laws as plain data; A slice of bytes as an argument: plain data; Plans in which no four rooms meet: two orders of rooms go on without end, and each two rooms are in one; The program's closures and walls in words of cells: left of is going on from just left of, above is going on from just above. -/
import Derived.Test.YtddhgiafpmghpaaGreatJ2
import Derived.Test.YtddhgiafpmghpaaGreatJ1
import Derived.Lib.Builder
import Derived.Lib.UnsafeStr
import Derived.Lib.Walk
import Derived.WalkKit
import Derived.Laws.Externs
import Derived.Test.YtddhgiafpmghpaaGreatRows
import Derived.ProofKit
import Derived.SliceStrings
set_option linter.all false
namespace Go.Proofs.YtddhgiafpmghpaaGreat
namespace Fw
open Go
open Nat renaming reduceEqDiff → qE, reduceLeDiff → qL, reduceAdd → qA, reduceMul → qM, le_refl → qR
open List renaming append_nil → qN, mapM_append → qP, mapM_cons → qC, mapM_map → qU, range_succ → qS, take_of_length_le → qT
open Bool renaming and_eq_true → qB, false_eq_true → qF
open Option renaming map_some → qO, map_eq_some_iff → qI
open Int renaming reduceToNat → qZ
def hvF (M:List (List Bool)) (g:Nat→Int) (b i:Nat):Int:=(List.range i).foldl (fun m a=>if zc4 M a b then max m (g a) else m) 0
def hv (M:List (List Bool)) (ws:List Int) (n:Nat):Nat→Nat→Int
 | 0,_=>0
 | f+1,b=>hvF M (hv M ws n f) b n+zor ws b
theorem zpj {M:List (List Bool)} {g:Nat→Int} {b i:Nat}:hvF M g b (i+1)=if zc4 M i b then max (hvF M g b i) (g i) else hvF M g b i:=by
 unfold hvF; rw [zck]
theorem zqo {M:List (List Bool)} {g h:Nat→Int} {b:Nat}:∀ {i:Nat},(∀ a,a<i→zc4 M a b=true→g a=h a)→hvF M g b i=hvF M h b i
 | 0,_=>rfl
 | i+1,H=>by
  rw [zpj,zpj,zqo (i:=i) fun a ha=>H a (by omega)]
  cases hb:zc4 M i b with
  | false=>rfl
  | true=>rw [H i (by omega) hb]
theorem yc2 {M:List (List Bool)} {g:Nat→Int} {b:Nat}:∀ {i a:Nat},a<i→zc4 M a b=true→g a≤hvF M g b i
 | i+1,a,h,hb=>by
  rw [zpj]
  by_cases e:a=i
  ·subst e; rw [hb]; simp only[if_true]; omega
  have:=yc2 (M:=M) (g:=g) (i:=i) (a:=a) (by omega) hb
  split <;> omega
structure Up (M:List (List Bool)) (n:Nat) (rk:Nat→Nat):Prop where
 sq:Sq n M
 up:∀ a b,a<n→b<n→zc4 M a b=true→rk a<rk b
 le:∀ b,rk b≤100
theorem yg2 {M:List (List Bool)} {ws:List Int} {n:Nat} {rk:Nat→Nat} (hu:Up M n rk):∀ (f f' b:Nat),b<n→rk b<f→rk b<f'→hv M ws n f b=hv M ws n f' b
 | 0,_,_,_,h,_=>by omega
 | _+1,0,_,_,_,h=>by omega
 | f+1,f'+1,b,hb,h1,h2=>by
  show hvF M (hv M ws n f) b n+zor ws b=hvF M (hv M ws n f') b n+zor ws b
  congr 1
  apply zqo
  intro a ha hab
  have h3:=hu.up a b ha hb hab
  exact yg2 hu f f' a ha (by omega) (by omega)
def HB (M:List (List Bool)) (ws:List Int) (n b:Nat):Int:=hv M ws n 101 b
theorem yib {M:List (List Bool)} {ws:List Int} {n:Nat} {rk:Nat→Nat} (hu:Up M n rk) {b:Nat} (hb:b<n):HB M ws n b=hvF M (HB M ws n) b n+zor ws b:=by
 have e:HB M ws n b=hvF M (hv M ws n 100) b n+zor ws b:=rfl
 rw [e,zqo (h:=HB M ws n)]
 intro a ha hab
 have h3:=hu.up a b ha hb hab
 have h4:=hu.le b
 exact yg2 hu 100 101 a ha (by omega) (by omega)
def Memo (M:List (List Bool)) (ws:List Int) (n:Nat) (out:List Int):Prop:=out.length=n∧∀ (b:Nat) x,out[b]?=some x→x=0∨x=HB M ws n b
def Keep (out out':List Int):Prop:=∀ (b:Nat) x,out[b]?=some x→x≠0→out'[b]?=some x
theorem Keep.refl (out:List Int):Keep out out:=fun _ _ h _=>h
theorem Keep.trans {a b c:List Int} (h:Keep a b) (k:Keep b c):Keep a c:=fun i x h1 h2=>k i x (h i x h1 h2) h2
theorem Memo.at_ {M:List (List Bool)} {ws out:List Int} {n:Nat} (h:Memo M ws n out) {b:Nat} (hb:b<n):∃ x,out[b]?=some x∧(x=0∨x=HB M ws n b):=by
 obtain ⟨x,hx,-⟩:=zae (show b<out.length by rw [h.1]; exact hb)
 exact ⟨x,hx,h.2 b x hx⟩
theorem Memo.set {M:List (List Bool)} {ws out:List Int} {n:Nat} (h:Memo M ws n out) {b:Nat}:Memo M ws n (out.set b (HB M ws n b)):=by
 refine ⟨by simpa using h.1,fun c x hx=>?_⟩
 rw [List.getElem?_set]at hx
 split at hx
 ·rename_i e; subst e
  split at hx
  ·cases hx; exact .inr rfl
  cases hx
 exact h.2 c x hx
theorem Memo.keep {M:List (List Bool)} {ws out:List Int} {n:Nat} (h:Memo M ws n out) {b:Nat}:Keep out (out.set b (HB M ws n b)):=by
 intro c x hx h0
 rw [List.getElem?_set]
 split
 ·rename_i e; subst e
  have:=(h.2 b x hx).resolve_left h0
  rw [if_pos (za2 hx),this]
 exact hx
def heaviest (M:List (List Bool)) (ws:List Int) (n:Nat):List Int:=(List.range n).map (HB M ws n)
theorem zii {f:FuncId} {cs:List PV}:(PV.fn f cs).cells=[.fn f cs]:=rfl
theorem zzt {f:FuncId} {cs:List PV}:(PV.fn f cs).isCell=true:=rfl
def Ord (c:List Int) (i:Nat):Prop:=∀ p q x y,p<q→q<i→c[p]?=some x→c[q]?=some y→x≤y
def z96 (c:List Int) (j i:Nat):Prop:=∀ p q x y,p<q→q≤i→q≠j→c[p]?=some x→c[q]?=some y→x≤y
theorem Ord.one (c:List Int):Ord c 1:=by intro p q x y h1 h2; omega
theorem Ord.ins {c:List Int} {i:Nat} (h:Ord c i):z96 c i i:=by
 intro p q x y h1 h2 h3 hx hy
 exact h p q x y h1 (by omega) hx hy
theorem z96.zero {c:List Int} {i:Nat} (h:z96 c 0 i):Ord c (i+1):=by
 intro p q x y h1 h2 hx hy
 exact h p q x y h1 (by omega) (by omega) hx hy
theorem z96.stop {c:List Int} {i j:Nat} {a b:Int} (h:z96 c j i) (ha:c[j]?=some a) (hb:c[j - 1]?=some b) (hle:¬ a<b):Ord c (i+1):=by
 intro p q x y h1 h2 hx hy
 by_cases e:q=j
 ·subst e
  rw [ha]at hy; cases hy
  by_cases e2:p=q - 1
  ·subst e2; rw [hb]at hx; cases hx; omega
  have:=h p (q - 1) x b (by omega) (by omega) (by omega) hx hb; omega
 exact h p q x y h1 (by omega) e hx hy
theorem z96.swap {c:List Int} {i j:Nat} {a b:Int} (h:z96 c j i) (hj:j≠0) (hji:j≤i) (ha:c[j]?=some a) (hb:c[j - 1]?=some b) (hlt:a<b):z96 ((c.set j b).set (j - 1) a) (j - 1) i:=by
 have hl:=za2 ha
 have g:∀ k,((c.set j b).set (j - 1) a)[k]?=if k=j - 1 then some a else if k=j then some b else c[k]?:=by
  intro k
  rw [List.getElem?_set]
  by_cases e:j - 1=k
  ·rw [if_pos e,if_pos e.symm,if_pos (by simp; omega)]
  rw [if_neg e,if_neg (Ne.symm e),List.getElem?_set]
  by_cases e2:j=k
  ·rw [if_pos e2,if_pos e2.symm,if_pos (by omega)]
  rw [if_neg e2,if_neg (Ne.symm e2)]
 intro p q x y h1 h2 h3 hx hy
 rw [g]at hx hy
 rw [if_neg h3]at hy
 by_cases e:q=j
 ·rw [if_pos e]at hy; cases hy
  by_cases e2:p=j - 1
  ·rw [if_pos e2]at hx; cases hx; omega
  rw [if_neg e2,if_neg (by omega)]at hx
  exact h p (j - 1) x b (by omega) (by omega) (by omega) hx hb
 rw [if_neg e]at hy
 by_cases e2:p=j - 1
 ·rw [if_pos e2]at hx; cases hx
  exact h j q a y (by omega) h2 e ha hy
 rw [if_neg e2]at hx
 by_cases e3:p=j
 ·rw [if_pos e3]at hx; cases hx
  exact h (j - 1) q b y (by omega) h2 e hb hy
 rw [if_neg e3]at hx
 exact h p q x y h1 h2 e hx hy
theorem zyw {c l:List Int} {j:Nat} {a b:Int} (h:c.Perm l) (ha:c[j]?=some a) (hb:c[j - 1]?=some b):((c.set j b).set (j - 1) a).Perm l:=by
 obtain ⟨h1,e1⟩:=List.getElem?_eq_some_iff.mp ha
 obtain ⟨h2,e2⟩:=List.getElem?_eq_some_iff.mp hb
 have := @List.set_set_perm _ c _ _ h1 h2
 rw [e1,e2]at this
 exact this.trans h
theorem Ord.pair {c:List Int} (h:Ord c c.length):c.Pairwise (· ≤ ·):=by
 rw [List.pairwise_iff_getElem]
 intro i j hi hj hij
 exact h i j _ _ hij hj (List.getElem?_eq_getElem hi) (List.getElem?_eq_getElem hj)
theorem ya5 {x:Int}:PC Tryz.prog 201 [.int .i64 x] (.bool false) true:=by
 refine PC.of ⟨Tryz.func201,by kernel_rfl,rfl,by kernel_rfl⟩ zan mixed (by show 1≤Tryz.f201.ntmps; decide) ?_
 refine W.r fun K hK=>?_
 simp(disch:=omega)only[↓RU,RV,RH,↓reduceIte,qE,reduceCtorEq,if_pos]
 apply hK;clear hK K
 refine W.r fun K hK=>?_
 simp(disch:=omega)only[↓RU,RV,RH,↓reduceIte,qE,reduceCtorEq,if_pos,w64,zaa]
 apply hK;clear hK K
 refine W.ret ?_
 refine Br rfl ?_
 rw [show (x != x)=false by simp]
 rfl
theorem yfa {x y:Int}:PC Tryz.prog 176 [.int .i64 x,.int .i64 y] (.bool (decide (x<y))) true:=by
 refine PC.of ⟨Tryz.func176,by kernel_rfl,rfl,by kernel_rfl⟩ zan mixed (by show 2≤Tryz.f176.ntmps; decide) ?_
 refine W.r fun K hK=>?_
 simp(disch:=omega)only[↓RU,RV,RH,↓reduceIte,qE,reduceCtorEq,if_pos]
 apply hK;clear hK K
 refine W.r fun K hK=>?_
 simp(disch:=omega)only[↓RU,RV,RH,↓reduceIte,qE,reduceCtorEq,if_pos,qN,w64,zaa]
 refine zad.pc (ya5) rfl (.inl rfl) ?_
 simp(disch:=omega)only[↓RU,RV,RH,↓reduceIte,qE,reduceCtorEq,if_pos,qN,w64,zaa]
 apply hK;clear hK K
 refine W.ret ?_
 refine Br rfl ?_
 rfl
theorem z7b {F R:List Ob} {ver t:Nat} {l:List Int} (hl:l.length<2147483648) (h1:1≤l.length):Ev Tryz.prog 170 [.loc F.length ver 0 l.length,.int .i64 0,.int .i64 l.length] ⟨F ++ .arr ver 3 1 (l.map (.int .i64))::R,t⟩ fun v S=>v = .tup []∧∃ z:List Int,z.Perm l∧z.Pairwise (· ≤ ·)∧S=⟨F ++ .arr ver 3 1 (z.map (.int .i64))::R,t⟩:=by
 refine Ev.of ⟨Tryz.func170,by kernel_rfl,rfl,by kernel_rfl⟩ zan mixed (by show 3≤Tryz.f170.ntmps; decide) ?_
 refine W.r fun K hK=>?_
 simp(disch:=omega)only[↓RU,RV,RH,↓reduceIte,qE,reduceCtorEq,if_pos,w64,↓RS,RG,qA,qM,qL,zaa,gF,zd2]
 apply hK;clear hK K
 refine W.block ?_
 refine W.loop [0,1,2,6] (fun n vs S=>∃ (i:Nat) (c:List Int),n=l.length - i∧1≤i∧i≤l.length∧c.Perm l∧Ord c i∧vs=[.loc F.length ver 0 l.length,.int .i64 0,.int .i64 l.length,.int .i64 i]∧S=⟨F ++ .arr ver 3 1 (c.map (.int .i64))::R,t⟩) (l.length - 1) ?_ ?_
 ·refine ⟨_,1,l,rfl,qR _,h1,List.Perm.refl _,Ord.one l,?_,zai⟩
  simp [Env.put,Env.of,zaf]
 rintro n vs S - ⟨i,c,rfl,hi1,h_i,hp,ho,rfl,rfl⟩
 refine W.seq ?_
 refine W.r fun K hK=>?_
 simp(disch:=omega)only[↓RU,RV,RH,↓reduceIte,qE,reduceCtorEq,if_pos,w64,↓RS,RG,qA,qM,qL,zaa,gF,zd2]
 apply hK;clear hK K
 refine W.cond rfl (fun h=>?_) (fun h=>?_)
 ·try simp only[RL]at h
  refine W.skip ?_
  refine xn ?_
  refine W.seq ?_
  refine W.block ?_
  refine W.r fun K hK=>?_
  simp(disch:=omega)only[↓RU,RV,RH,↓reduceIte,qE,reduceCtorEq,if_pos,↓RS,RG,qA,qM,qL,gF,zd2]
  apply hK;clear hK K
  refine W.block ?_
  refine W.loop [0,1,2,6,7] (fun n vs S=>∃ (j:Nat) (d:List Int),n=j+1∧j≤i∧d.Perm l∧z96 d j i∧vs=[.loc F.length ver 0 l.length,.int .i64 0,.int .i64 l.length,.int .i64 i,.int .i64 j]∧S=⟨F ++ .arr ver 3 1 (d.map (.int .i64))::R,t⟩) (i+1) ?_ ?_
  ·refine ⟨_,i,c,rfl,qR _,hp,ho.ins,?_,zai⟩
   simp [Env.put,Env.of]
  rintro n vs S - ⟨j,d,rfl,h_j,hq,hO,rfl,rfl⟩
  refine W.seq ?_
  refine W.seq_draw (by kernel_rfl) fun K hK=>?_
  cases hd:decide ((j:Int)>0)
  ·skip
   obtain rfl:j=0:=by simpa using hd
   simp(disch:=omega)only[↓RU,RV,RH,↓reduceIte,qE,reduceCtorEq,if_pos,w64,qN,↓RS,RG,qA,qM,qL,zab,zaa,gF,zd2,hd]
   apply hK;clear hK K
   refine W.cond rfl (fun h2=>?_) (fun h2=>?_)
   ·try simp only[RL]at h2
    exact absurd h2 (by simp)
   try simp only[RL]at h2
   have hO2:Ord d (i+1):=hO.zero
   refine W.exit ?_
   refine xe ?_
   refine xe ?_
   refine XBlock.hit ?_
   refine XbN ?_
   refine xn ?_
   refine W.k fun K hK=>?_
   simp(disch:=omega)only[↓RU,RV,RH,↓reduceIte,qE,reduceCtorEq,if_pos,w64,↓RS,RG,qA,qM,qL,zaa,gF,zd2]
   apply hK;clear hK K
   refine xn ?_
   refine ⟨l.length - (i+1),by omega,_,i+1,d,rfl,by omega,by omega,hq,hO2,?_,zai⟩
   simp [Env.put,Env.of]
  ·skip
   have hj0:j≠0:=by have:=of_decide_eq_true hd; omega
   have hdl:=hq.length_eq
   obtain ⟨x,hx,-⟩:=zae (show j<d.length by omega)
   obtain ⟨y,hy,-⟩:=zae (show j - 1<d.length by omega)
   simp(disch:=omega)only[↓RU,RV,RH,↓reduceIte,qE,reduceCtorEq,if_pos,w64,qN,↓RS,RG,qA,qM,qL,zab,zaa,gF,zd2,hd,hx,hy,za8]
   refine zad.pc (yfa (x:=x) (y:=y)) rfl (.inl rfl) ?_
   simp(disch:=omega)only[↓RU,RV,RH,↓reduceIte,qE,reduceCtorEq,if_pos,w64,qN,↓RS,RG,qA,qM,qL,zab,zaa,gF,zd2,hd,hx,hy,za8]
   apply hK;clear hK K
   refine W.cond rfl (fun h2=>?_) (fun h2=>?_)
   ·try simp only[RL]at h2
    have hjl:=za2 hx
    have hsl:(d.set j y).length=d.length:=by simp
    refine W.skip ?_
    refine xn ?_
    refine W.seq ?_
    refine W.block ?_
    refine W.draw_k (by kernel_rfl) fun K hK=>?_
    simp(disch:=omega)only[↓RU,RV,RH,↓reduceIte,qE,reduceCtorEq,if_pos,w64,↓RS,RG,qA,qM,qL,zab,zaa,gF,zd2,hx,hy,za8,zbp,zc8,List.length_set]
    apply hK;clear hK K
    refine XbN ?_
    refine xn ?_
    refine W.k fun K hK=>?_
    simp(disch:=omega)only[↓RU,RV,RH,↓reduceIte,qE,reduceCtorEq,if_pos,w64,↓RS,RG,qA,qM,qL,zaa,gF,zd2]
    apply hK;clear hK K
    refine xn ?_
    refine ⟨j - 1+1,by omega,_,j - 1,(d.set j y).set (j - 1) x,rfl,by omega,zyw hq hx hy,hO.swap hj0 h_j hx hy h2,?_,zai⟩
    simp [Env.put,Env.of]; omega
   try simp only[RL]at h2
   have hO2:Ord d (i+1):=hO.stop hx hy h2
   refine W.exit ?_
   refine xe ?_
   refine xe ?_
   refine XBlock.hit ?_
   refine XbN ?_
   refine xn ?_
   refine W.k fun K hK=>?_
   simp(disch:=omega)only[↓RU,RV,RH,↓reduceIte,qE,reduceCtorEq,if_pos,w64,↓RS,RG,qA,qM,qL,zaa,gF,zd2]
   apply hK;clear hK K
   refine xn ?_
   refine ⟨l.length - (i+1),by omega,_,i+1,d,rfl,by omega,by omega,hq,hO2,?_,zai⟩
   simp [Env.put,Env.of]
 try simp only[RL]at h
 obtain rfl:l.length=i:=by omega
 refine W.exit ?_
 refine xe ?_
 refine xe ?_
 refine XBlock.hit ?_
 refine zff.norm rfl ?_
 exact ⟨_,rfl,c,hp,by rw [← hp.length_eq]at ho; exact ho.pair,zai⟩
theorem ya6  : PC Tryz.prog 180 [.int .u64 4] (.int .i64 3) true:=by
 refine PC.of ⟨Tryz.func180,by kernel_rfl,rfl,by kernel_rfl⟩ zan mixed (by show 1≤Tryz.f180.ntmps; decide) ?_
 refine W.r fun K hK=>?_
 simp(disch:=omega)only[↓RU,RV,RH,↓reduceIte,qE,reduceCtorEq,if_pos]
 apply hK;clear hK K
 refine W.seq ?_
 refine W.r fun K hK=>?_
 simp(disch:=omega)only[↓RU,RV,RH,↓reduceIte,qE,reduceCtorEq,if_pos,w64,zif]
 apply hK;clear hK K
 refine W.cond rfl (fun h=>?_) (fun h=>?_)
 ·try simp only[RL]at h
  exact absurd h (by decide)
 try simp only[RL]at h
 refine W.skip ?_
 refine xn ?_
 refine W.seq ?_
 refine W.r fun K hK=>?_
 simp(disch:=omega)only[↓RU,RV,RH,↓reduceIte,qE,reduceCtorEq,if_pos,w64,zif]
 apply hK;clear hK K
 refine W.cond rfl (fun h1=>?_) (fun h1=>?_)
 ·try simp only[RL]at h1
  exact absurd h1 (by decide)
 try simp only[RL]at h1
 refine W.skip ?_
 refine xn ?_
 refine W.seq ?_
 refine W.r fun K hK=>?_
 simp(disch:=omega)only[↓RU,RV,RH,↓reduceIte,qE,reduceCtorEq,if_pos,w64,zif]
 apply hK;clear hK K
 refine W.cond rfl (fun h2=>?_) (fun h2=>?_)
 ·try simp only[RL]at h2
  exact absurd h2 (by decide)
 try simp only[RL]at h2
 refine W.skip ?_
 refine xn ?_
 refine W.r fun K hK=>?_
 simp(disch:=omega)only[↓RU,RV,RH,↓reduceIte,qE,reduceCtorEq,if_pos,w64,w64,zaa,zac,zif,zd3]
 apply hK;clear hK K
 refine W.ret ?_
 refine Br rfl ?_
 rfl
theorem yg9  : PC Tryz.prog 155 [.int .u64 4] (.int .i64 3) true:=by
 refine PC.of ⟨Tryz.func155,by kernel_rfl,rfl,by kernel_rfl⟩ zan mixed (by show 1≤Tryz.f155.ntmps; decide) ?_
 refine W.r fun K hK=>?_
 simp(disch:=omega)only[↓RU,RV,RH,↓reduceIte,qE,reduceCtorEq,if_pos]
 apply hK;clear hK K
 refine W.seq ?_
 refine W.cond rfl (fun h=>?_) (fun h=>?_)
 ·try simp only[RL]at h
  exact absurd h (by decide)
 try simp only[RL]at h
 refine W.skip ?_
 refine xn ?_
 refine W.r fun K hK=>?_
 simp(disch:=omega)only[↓RU,RV,RH,↓reduceIte,qE,reduceCtorEq,if_pos,qN]
 refine zad.pc (ya6) rfl (.inl rfl) ?_
 simp(disch:=omega)only[↓RU,RV,RH,↓reduceIte,qE,reduceCtorEq,if_pos,qN]
 apply hK;clear hK K
 refine W.ret ?_
 refine Br rfl ?_
 rfl
theorem yhf {F R:List Ob} {ver t:Nat} {l:List Int} (hl:l.length≤12) (h1:1≤l.length) (lim:Int):Ev Tryz.prog 154 [.loc F.length ver 0 l.length,.int .i64 0,.int .i64 l.length,.int .i64 lim] ⟨F ++ .arr ver 3 1 (l.map (.int .i64))::R,t⟩ fun v S=>v = .tup []∧∃ z:List Int,z.Perm l∧z.Pairwise (· ≤ ·)∧S=⟨F ++ .arr ver 3 1 (z.map (.int .i64))::R,t⟩:=by
 refine Ev.of ⟨Tryz.func154,by kernel_rfl,rfl,by kernel_rfl⟩ zan mixed (by show 4≤Tryz.f154.ntmps; decide) ?_
 refine W.r fun K hK=>?_
 simp(disch:=omega)only[↓RU,RV,RH,↓reduceIte,qE,reduceCtorEq,if_pos,↓RS,RG,qA,qM,qL,gF,zd2]
 apply hK;clear hK K
 refine W.r fun K hK=>?_
 simp(disch:=omega)only[↓RU,RV,RH,↓reduceIte,qE,reduceCtorEq,if_pos,↓RS,RG,qA,qM,qL,gF,zd2]
 apply hK;clear hK K
 refine W.block ?_
 refine W.loop [0,1,2] (fun n vs S=>vs=[.loc F.length ver 0 l.length,.int .i64 0,.int .i64 l.length]∧S=⟨F ++ .arr ver 3 1 (l.map (.int .i64))::R,t⟩) 0 ?_ ?_
 ·refine ⟨_,?_,zai⟩
  simp [Env.put,Env.of,zaf]
 rintro n vs S - ⟨rfl,rfl⟩
 refine W.block ?_
 refine W.r fun K hK=>?_
 simp(disch:=omega)only[↓RU,RV,RH,↓reduceIte,qE,reduceCtorEq,if_pos,w64,↓RS,RG,qA,qM,qL,zaa,gF,zd2]
 apply hK;clear hK K
 refine W.seq ?_
 refine W.r fun K hK=>?_
 simp(disch:=omega)only[↓RU,RV,RH,↓reduceIte,qE,reduceCtorEq,if_pos,w64,↓RS,RG,qA,qM,qL,zaa,gF,zd2]
 apply hK;clear hK K
 refine W.cond rfl (fun h=>?_) (fun h=>?_)
 ·try simp only[RL]at h
  refine W.r fun K hK=>?_
  simp(disch:=omega)only[↓RU,RV,RH,↓reduceIte,qE,reduceCtorEq,if_pos,qN,↓RS,RG,qA,qM,qL,gF,zd2]
  refine zad.ev (z7b (by omega) h1) ?_
  rintro _ _ ⟨rfl,z,hz1,hz2,rfl⟩
  simp(disch:=omega)only[↓RU,RV,RH,↓reduceIte,qE,reduceCtorEq,if_pos,qN,↓RS,RG,qA,qM,qL,gF,zd2]
  apply hK;clear hK K
  refine W.ret ?_
  refine XThen.ret ?_
  refine XBlock.ret ?_
  refine XThen.ret ?_
  refine XBlock.ret ?_
  refine Br rfl ?_
  exact ⟨_,rfl,z,hz1,hz2,zai⟩
 try simp only[RL]at h
 exact absurd (show (l.length:Int)≤12 by omega) h
theorem yfw {F R:List Ob} {ver t:Nat} {l:List Int} (hl:l.length=4):Ev Tryz.prog 124 [.loc F.length ver 0 l.length] ⟨F ++ .arr ver 3 1 (l.map (.int .i64))::R,t⟩ fun v S=>v = .tup []∧∃ z:List Int,z.Perm l∧z.Pairwise (· ≤ ·)∧S=⟨F ++ .arr ver 3 1 (z.map (.int .i64))::R,t⟩:=by
 have hw4:IntKind.u64.wrap ((l.length:Nat):Int)=4:=by rw [hl]; rfl
 refine Ev.of ⟨Tryz.func124,by kernel_rfl,rfl,by kernel_rfl⟩ zan mixed (by show 1≤Tryz.f124.ntmps; decide) ?_
 refine W.r fun K hK=>?_
 simp(disch:=omega)only[↓RU,RV,RH,↓reduceIte,qE,reduceCtorEq,if_pos,↓RS,RG,qA,qM,qL,zab,zaa,gF,zd2]
 apply hK;clear hK K
 refine W.k fun K hK=>?_
 simp(disch:=omega)only[↓RU,RV,RH,↓reduceIte,qE,reduceCtorEq,if_pos,w64,qN,↓RS,RG,qA,qM,qL,zaa,zdg,gF,zd2,hw4]
 refine zad.pc (yg9) rfl (.inl rfl) ?_
 simp(disch:=omega)only[↓RU,RV,RH,↓reduceIte,qE,reduceCtorEq,if_pos,w64,qN,↓RS,RG,qA,qM,qL,zaa,zdg,gF,zd2,hw4]
 refine zad.ev (yhf (by omega) (by omega) 3) ?_
 rintro _ _ ⟨rfl,z,hz1,hz2,rfl⟩
 simp(disch:=omega)only[↓RU,RV,RH,↓reduceIte,qE,reduceCtorEq,if_pos,w64,qN,↓RS,RG,qA,qM,qL,zaa,zdg,gF,zd2,hw4]
 apply hK;clear hK K
 refine zff.norm rfl ?_
 exact ⟨_,rfl,z,hz1,hz2,zai⟩
def dn:List Int→Nat
 | []=>0
 | a::l=>(if a∈l then 0 else 1)+dn l
theorem yei:∀ {m l:List Int},l.Nodup→(∀ x,x∈l↔x∈m)→l.length=dn m
 | [],l,_,h=>by
  cases l with
  | nil=>rfl
  | cons a l=>exact absurd ((h a).1 (by simp)) (by simp)
 | a::m,l,hn,h=>by
  unfold dn
  by_cases ha:a∈m
  ·rw [if_pos ha,yei (m:=m) hn fun x=>?_]; · omega
   rw [h x,List.mem_cons]
   constructor
   ·rintro (rfl | h)
    ·exact ha
    exact h
   exact .inr
  have hal:a∈l:=(h a).2 (by simp)
  have hl:=List.length_erase_of_mem hal
  have h0:=List.length_pos_of_mem hal
  rw [if_neg ha,← yei (m:=m) (l:=l.erase a) (hn.erase a) fun x=>?_]
  ·omega
  rw [hn.mem_erase_iff,h x,List.mem_cons]
  constructor
  ·rintro ⟨h1,h2 | h2⟩
   ·exact absurd h2 h1
   exact h2
  intro hx
  exact ⟨fun e=>ha (e ▸ hx),.inr hx⟩
theorem z1z {l:List Int} {x y:Int}:y∈zi3 l x↔y∈l∨y=x:=by
 unfold zi3
 split
 ·rename_i h
  constructor
  ·exact .inl
  rintro (h' | rfl)
  ·exact h'
  exact List.mem_of_getLast? h
 simp
theorem zsr {z:List Int} (hz:z.Pairwise (· ≤ ·)):∀ p,p≤z.length→(ddp (z.take p)).Pairwise (· < ·)∧∀ x,x∈ddp (z.take p)↔x∈z.take p
 | 0,_=>by simp [ddp]
 | p+1,hp=>by
  obtain ⟨x,hx,-⟩:=zae (show p<z.length by omega)
  obtain ⟨h1,h2⟩:=zsr hz p (by omega)
  have hle:∀ a∈z.take p,a≤x:=by
   intro a ha
   obtain ⟨j,hj,rfl⟩:=List.mem_take_iff_getElem.1 ha
   obtain ⟨hp',rfl⟩:=List.getElem?_eq_some_iff.1 hx
   exact (List.pairwise_iff_getElem.1 hz) j p (by omega) hp' (by omega)
  rw [zpf hx]
  constructor
  ·unfold zi3
   split
   ·exact h1
   rename_i hl
   rw [List.pairwise_append]
   refine ⟨h1,by simp,?_⟩
   intro a ha b hb
   rw [List.mem_singleton]at hb
   subst hb
   have ha':=(h2 a).1 ha
   by_cases hp0:p=0
   ·subst hp0; simp at ha'
   obtain ⟨y,hy,-⟩:=zae (show p - 1<z.length by omega)
   have hlast:=zuq hy
   rw [show p - 1+1=p by omega]at hlast
   have hyb:y≠b:=fun e=>hl (e ▸ hlast)
   have hyl:y≤b:=hle y ((h2 y).1 (List.mem_of_getLast? hlast))
   have:a≤y:=by
    obtain ⟨j,hj,rfl⟩:=List.mem_take_iff_getElem.1 ha'
    obtain ⟨hp',rfl⟩:=List.getElem?_eq_some_iff.1 hy
    by_cases e:j=p - 1
    ·subst e; exact Int.le_refl _
    exact (List.pairwise_iff_getElem.1 hz) j (p - 1) (by omega) hp' (by omega)
   omega
  intro y
  rw [z1z,h2 y,tk hx]
  simp
theorem ygy {l z:List Int} (hp:z.Perm l) (hz:z.Pairwise (· ≤ ·)):(ddp z).length=dn l:=by
 have h:=zsr hz z.length (qR _)
 rw [List.take_length]at h
 refine yei (h.1.imp fun h=>Int.ne_of_lt h) fun x=>?_
 rw [h.2 x]
 exact hp.mem_iff
def four (g:List (List Int)) (i k:Nat):List Int:=[gz g (i - 1) (k - 1),gz g (i - 1) k,gz g i (k - 1),gz g i k]
def zdy (g:List (List Int)) (many:Int) (i:Nat):Nat→Int
 | 0=>0
 | k+1=>zdy g many i k+if 1≤k∧((dn (four g i k):Nat):Int)=many then 1 else 0
def ztt (g:List (List Int)) (many:Int) (w:Nat):Nat→Int
 | 0=>0
 | i+1=>ztt g many w i+if 1≤i then zdy g many i w else 0
theorem zio (g:List (List Int)) (many:Int) (i:Nat):∀ k,0≤zdy g many i k∧zdy g many i k≤k
 | 0=>by simp [zdy]
 | k+1=>by have:=zio g many i k; unfold zdy; split <;> omega
theorem ztu (g:List (List Int)) (many:Int) {w:Nat} (hw:w≤6):∀ i,0≤ztt g many w i∧ztt g many w i≤6*i
 | 0=>by simp [ztt]
 | i+1=>by have:=ztu g many hw i; have:=zio g many i w; unfold ztt; split <;> omega
theorem ybo {g:List (List Int)} {many:Int} {w:Nat}:ztt g many w 1=0:=by simp [ztt]
theorem z0c {g:List (List Int)} {many:Int} {i:Nat}:zdy g many i 1=0:=by simp [zdy]
theorem z8h {g:List (List Int)} {many:Int} {w i:Nat} (h:1≤i):ztt g many w (i+1)=ztt g many w i+zdy g many i w:=by simp [ztt,h]
theorem z0b {g:List (List Int)} {many:Int} {i k:Nat} (h:1≤k) (e:((dn (four g i k):Nat):Int)=many):zdy g many i (k+1)=zdy g many i k+1:=by simp [zdy,h,e]
theorem zx4 {g:List (List Int)} {many:Int} {i k:Nat} (e:¬ ((dn (four g i k):Nat):Int)=many):zdy g many i (k+1)=zdy g many i k:=by simp [zdy,e]
theorem zzi {v t:Nat} {z:List Int} (hz:z.length=4):Ev Tryz.prog 125 [.loc 0 v 0 4] ⟨[.arr v 3 1 (z.map (.int .i64))],t⟩ fun r S=>∃ y:List Int,r = .loc 0 v 0 (ddp z).length∧S=⟨[.arr v 3 1 ((ddp z++y).map (.int .i64))],t⟩:=by
 have h:=znj (F:=[]) (R:=[]) (ver:=v) (t:=t) (l:=z) (by omega)
 rw [hz]at h
 exact h
theorem z8e {g:List (List Int)} {nh nw:Nat} (hg:GW g nh nw) (rs:List Rect) (many:Int):PC Tryz.prog 82 [zbj g rs,.int .i64 many] (.int .i64 (ztt g many nw nh)) true:=by
 have hl:=hg.1
 obtain ⟨hg1,hg2,hg3,hg4⟩:=hg.2.2
 obtain ⟨row0,hrow0,hrl0,-⟩:=hg.at_ (i:=0) (j:=0) (by omega) (by omega)
 refine PC.of ⟨Tryz.func82,by kernel_rfl,rfl,by kernel_rfl⟩ zan mixed (by show 2≤Tryz.f82.ntmps; decide) ?_
 refine W.r fun K hK=>?_
 simp(disch:=omega)only[↓RU,RV,RH,↓reduceIte,qE,reduceCtorEq,if_pos,↓RS,RG,qA,qM,qL]
 apply hK;clear hK K
 refine W.r fun K hK=>?_
 simp(disch:=omega)only[↓RU,RV,RH,↓reduceIte,qE,reduceCtorEq,if_pos,↓RS,RG,qA,qM,qL]
 apply hK;clear hK K
 refine W.seq ?_
 refine W.r fun K hK=>?_
 simp(disch:=omega)only[↓RU,RV,RH,↓reduceIte,qE,reduceCtorEq,if_pos,↓RS,RG,qA,qM,qL]
 apply hK;clear hK K
 refine W.block ?_
 refine W.loop [0,1,5,6] (fun n vs S=>∃ i t:Nat,n=nh - i∧i≤nh∧(1≤i)∧vs=[zbj g rs,.int .i64 many,.int .i64 (ztt g many nw i),.int .i64 (i:Nat)]∧S=⟨[],t⟩) (nh - 1) ?_ ?_
 ·refine ⟨0,1,_,rfl,by omega,qR _,?_,rfl⟩
  simp [Env.put,Env.of,zaf,ybo]
 rintro n vs S - ⟨i,t,rfl,h_i,h1i,rfl,rfl⟩
 refine W.seq ?_
 refine W.r fun K hK=>?_
 simp(disch:=omega)only[↓RU,RV,RH,↓reduceIte,qE,reduceCtorEq,if_pos,qN,w64,↓RS,RG,qA,qM,qL,zaa,hl]
 refine zad.pc (zhr g rs) rfl (.inl rfl) ?_
 simp(disch:=omega)only[↓RU,RV,RH,↓reduceIte,qE,reduceCtorEq,if_pos,qN,w64,↓RS,RG,qA,qM,qL,zaa,hl]
 apply hK;clear hK K
 refine W.cond rfl (fun h=>?_) (fun h=>?_)
 ·try simp only[RL]at h
  have hpb:=ztu g many hg4 i
  refine W.skip ?_
  refine xn ?_
  refine W.seq ?_
  refine W.block ?_
  refine W.r fun K hK=>?_
  simp(disch:=omega)only[↓RU,RV,RH,↓reduceIte,qE,reduceCtorEq,if_pos,↓RS,RG,qA,qM,qL]
  apply hK;clear hK K
  refine W.block ?_
  refine W.loop [0,1,5,6,7] (fun n vs S=>∃ k t:Nat,n=nw - k∧k≤nw∧(1≤k)∧vs=[zbj g rs,.int .i64 many,.int .i64 (ztt g many nw i+zdy g many i k),.int .i64 (i:Nat),.int .i64 (k:Nat)]∧S=⟨[],t⟩) (nw - 1) ?_ ?_
  ·refine ⟨0,1,_,rfl,by omega,qR _,?_,rfl⟩
   simp [Env.put,Env.of,z0c]
  rintro n vs S - ⟨k,t,rfl,h_k,h1k,rfl,rfl⟩
  refine W.seq ?_
  refine W.r fun K hK=>?_
  simp(disch:=omega)only[↓RU,RV,RH,↓reduceIte,qE,reduceCtorEq,if_pos,qN,w64,↓RS,RG,qA,qM,qL,zaa,hrl0]
  refine zad.pc (zju hrow0 rs) rfl (.inl rfl) ?_
  simp(disch:=omega)only[↓RU,RV,RH,↓reduceIte,qE,reduceCtorEq,if_pos,qN,w64,↓RS,RG,qA,qM,qL,zaa,hrl0]
  apply hK;clear hK K
  refine W.cond rfl (fun h1=>?_) (fun h1=>?_)
  ·try simp only[RL]at h1
   have hrb:=zio g many i k
   obtain ⟨r1,hr1,hl1,hx1⟩:=hg.at_ (i:=i - 1) (j:=k - 1) (by omega) (by omega)
   obtain ⟨r1b,hr1b,-,hx2⟩:=hg.at_ (i:=i - 1) (j:=k) (by omega) (by omega)
   obtain ⟨r2,hr2,hl2,hx3⟩:=hg.at_ (i:=i) (j:=k - 1) (by omega) (by omega)
   obtain ⟨r2b,hr2b,-,hx4⟩:=hg.at_ (i:=i) (j:=k) (by omega) (by omega)
   obtain rfl:r1=r1b:=by rw [hr1]at hr1b; exact Option.some.inj hr1b
   obtain rfl:r2=r2b:=by rw [hr2]at hr2b; exact Option.some.inj hr2b
   refine W.skip ?_
   refine xn ?_
   refine W.seq ?_
   refine W.block ?_
   refine W.seq_draw (by kernel_rfl) fun K hK=>?_
   simp(disch:=omega)only[↓RU,RV,RH,↓reduceIte,qE,reduceCtorEq,if_pos,w64,↓RS,RG,qA,qM,qL,ty1,ty4,zab,ze7,zce,zdt,zaa,ze8,zdu,hr1,hx1,hx2,hr2,hx3,hx4,za8]
   apply hK;clear hK K
   refine W.r fun K hK=>?_
   simp(disch:=omega)only[↓RU,RV,RH,↓reduceIte,qE,reduceCtorEq,if_pos,qN,↓RS,RG,qA,qM,qL]
   refine zad.ev (yfw (F:=[]) (R:=[]) (l:=four g i k) rfl) ?_
   rintro _ _ ⟨rfl,z,hz1,hz2,rfl⟩
   simp(disch:=omega)only[↓RU,RV,RH,↓reduceIte,qE,reduceCtorEq,if_pos,qN,↓RS,RG,qA,qM,qL]
   apply hK;clear hK K
   have hz4:z.length=4:=hz1.length_eq
   have hdn:=ygy hz1 hz2
   refine W.r fun K hK=>?_
   simp(disch:=omega)only[↓RU,RV,RH,↓reduceIte,qE,reduceCtorEq,if_pos,qN,w64,↓RS,RG,qA,qM,qL,zab,zaa,hdn]
   refine zad.ev (zzi hz4) ?_
   rintro _ _ ⟨y,rfl,rfl⟩
   simp(disch:=omega)only[↓RU,RV,RH,↓reduceIte,qE,reduceCtorEq,if_pos,qN,w64,↓RS,RG,qA,qM,qL,zab,zaa,hdn]
   apply hK;clear hK K
   refine W.cond rfl (fun h2=>?_) (fun h2=>?_)
   ·try simp only[RL]at h2
    refine W.k fun K hK=>?_
    simp(disch:=omega)only[↓RU,RV,RH,↓reduceIte,qE,reduceCtorEq,if_pos,w64,↓RS,RG,qA,qM,qL,zaa]
    apply hK;clear hK K
    refine XbN ?_
    refine xn ?_
    refine W.k fun K hK=>?_
    simp(disch:=omega)only[↓RU,RV,RH,↓reduceIte,qE,reduceCtorEq,if_pos,w64,↓RS,RG,qA,qM,qL,zaa]
    apply hK;clear hK K
    refine xn ?_
    refine ⟨nw - (k+1),by omega,0,k+1,_,rfl,by omega,by omega,?_,rfl⟩
    simp [Env.put,Env.of,z0b h1k h2,Int.add_assoc]
   try simp only[RL]at h2
   refine W.skip ?_
   refine XbN ?_
   refine xn ?_
   refine W.k fun K hK=>?_
   simp(disch:=omega)only[↓RU,RV,RH,↓reduceIte,qE,reduceCtorEq,if_pos,w64,↓RS,RG,qA,qM,qL,zaa]
   apply hK;clear hK K
   refine xn ?_
   refine ⟨nw - (k+1),by omega,0,k+1,_,rfl,by omega,by omega,?_,rfl⟩
   simp [Env.put,Env.of,zx4 h2,Int.add_assoc]
  try simp only[RL]at h1
  obtain rfl:nw=k:=by omega
  refine W.exit ?_
  refine xe ?_
  refine xe ?_
  refine XBlock.hit ?_
  refine XbN ?_
  refine xn ?_
  refine W.k fun K hK=>?_
  simp(disch:=omega)only[↓RU,RV,RH,↓reduceIte,qE,reduceCtorEq,if_pos,w64,↓RS,RG,qA,qM,qL,zaa]
  apply hK;clear hK K
  refine xn ?_
  refine ⟨nh - (i+1),by omega,0,i+1,_,rfl,by omega,by omega,?_,rfl⟩
  simp [Env.put,Env.of,z8h h1i]
 try simp only[RL]at h
 obtain rfl:nh=i:=by omega
 refine W.exit ?_
 refine xe ?_
 refine xe ?_
 refine XBlock.hit ?_
 refine xn ?_
 refine W.r fun K hK=>?_
 simp(disch:=omega)only[↓RU,RV,RH,↓reduceIte,qE,reduceCtorEq,if_pos,↓RS,RG,qA,qM,qL]
 apply hK;clear hK K
 refine W.ret ?_
 refine Br rfl ?_
 rfl
theorem zl5 {g:List (List Int)} {nh nw:Nat} (hg:GW g nh nw) (rs:List Rect):PC Tryz.prog 53 [zbj g rs] (.bool (decide (ztt g 4 nw nh=0))) true:=by
 refine PC.of ⟨Tryz.func53,by kernel_rfl,rfl,by kernel_rfl⟩ zan mixed (by show 1≤Tryz.f53.ntmps; decide) ?_
 refine W.r fun K hK=>?_
 simp(disch:=omega)only[↓RU,RV,RH,↓reduceIte,qE,reduceCtorEq,if_pos]
 apply hK;clear hK K
 refine W.r fun K hK=>?_
 simp(disch:=omega)only[↓RU,RV,RH,↓reduceIte,qE,reduceCtorEq,if_pos,qN,w64,zaa]
 refine zad.pc (z8e hg rs 4) rfl (.inl rfl) ?_
 simp(disch:=omega)only[↓RU,RV,RH,↓reduceIte,qE,reduceCtorEq,if_pos,qN,w64,zaa]
 apply hK;clear hK K
 refine W.ret ?_
 refine Br rfl ?_
 rfl
def z7j (z:Int):UInt8:=UInt8.ofNat (97+z.toNat)
def zrr (row:List Int):Txt:=row.map z7j
def zf3 (g:List (List Int)):List Txt:=g.map zrr
theorem yhy {z:Int} (h:0≤z):IntKind.u8.wrap (97+z)=((z7j z).toNat:Int):=by
 obtain ⟨n,rfl⟩:=Int.eq_ofNat_of_zero_le h
 exact yf4
def stB (o:List Txt) (vo vb:Nat) (l:Txt) (vq t:Nat):Store :=
 match l with
 | []=>⟨[.arr vo 9 1 (o.map .str),.arr vb 122 2 [.nilp,.nils]],t⟩
 | l=>⟨[.arr vo 9 1 (o.map .str),.arr vb 122 2 [.ref 1 vb 0,.loc 2 vq 0 l.length],.arr vq 5 1 (l.map eB)],t⟩
theorem yhq {o:List Txt} {vo vb:Nat} {l:Txt} {vq t:Nat} (h:l≠[]):stB o vo vb l vq t=⟨[.arr vo 9 1 (o.map .str),.arr vb 122 2 [.ref 1 vb 0,.loc 2 vq 0 l.length],.arr vq 5 1 (l.map eB)],t⟩:=by
 cases l with
 | nil=>exact absurd rfl h
 | cons a l=>rfl
theorem yfp {S:Store} {k f:Nat} {sel:List Nat} (o:List Txt):(o.map PV.str).mapM (rn S k sel (f+1))=some (o.map PV.str):=zvp (by simp [scal])
theorem z4u {S:Store} {im:Bool} {f:Nat} (o:List Txt):(o.map PV.str).mapM (reify S im (f+1))=some (o.map PV.str):=zn1 (by simp [scal])
theorem z2z (row:List Int):(zrr row).length=row.length:=by simp [zrr]
theorem yfq {row:List Int} (h:1≤row.length):zrr row≠[]:=by
 intro e
 have:=z2z row
 rw [e]at this
 simp at this; omega
theorem z8z {row:List Int} {k:Nat} {z:Int} (h:row[k]?=some z):zrr (row.take (k+1))=zrr (row.take k)++[z7j z]:=by simp [zrr,tk h]
theorem z9q {g:List (List Int)} {o:List Txt} (hl:o.length=g.length) (h:∀ j,j<g.length→o[j]?=(zf3 g)[j]?):o=zf3 g:=by
 refine List.ext_getElem? fun j=>?_
 by_cases hj:j<g.length
 ·exact h j hj
 rw [List.getElem?_eq_none (by omega),List.getElem?_eq_none (by simp [zf3]; omega)]
theorem zm9 {g:List (List Int)} {j:Nat} {row:List Int} (h:g[j]?=some row):(zf3 g)[j]?=some (zrr row):=by simp [zf3,h]
section
open Go Go.RowKit
set_option maxHeartbeats 1000000 in
set_option maxRecDepth 100000 in
theorem zsa (b:Nat) (w:World) (h0:w.cell? ⟨b,0,none⟩=some (.pointer (some ⟨b,0,none⟩))) :
  Calls Tryz.prog 147 #[.pointer (some ⟨b,0,none⟩)] w fun e w'=>e = .returned (.tuple #[])∧w'=w:=by
 obtain ⟨j,d,z,hj,_⟩:=(zan 122 (by decide)).1
 go_enter Tryz.func147,Tryz.ntmps147
 go_wp2
 rw [Lib.run_neq_ptr_same w _ Tryz.underlying120 hj]
 go_wp2
 go_end0
 exact ⟨rfl,rfl⟩
theorem yiv (count:Nat) (hn:1≤count):liesAt Tryz.prog Tryz.prog.depth 122 count 0 122 1=true:=by
 have hc:Tryz.prog.cellsOf 122=2:=by kernel_rfl
 have hd:Tryz.prog.depth=(2*(Tryz.prog.types.size+Made.depth)+1)+1:=rfl
 rw [hd]
 simp only[liesAt,Bool.or_eq_true]
 left
 rw [hd]
 simp [rowAt,hc,hn,sameLayout]
set_option maxHeartbeats 1000000 in
set_option maxRecDepth 100000 in
theorem zqc (b n:Nat) (hn:2≤n) (w:World) (h0:w.cell? ⟨b,0,none⟩=some (.pointer none)) (hsh:w.shape? b=some (122,n)) (hfz:w.frozen? ⟨b,0,none⟩=false) :
  Calls Tryz.prog 147 #[.pointer (some ⟨b,0,none⟩)] w fun e w'=>e = .returned (.tuple #[])∧w'=w.setCell ⟨b,0,none⟩ (.pointer (some ⟨b,0,none⟩)):=by
 obtain ⟨j,d,z,hj,hd,hf,hsz,hby,hz,_⟩:=(zan 122 (by decide)).1
 have hjs:j.size≠0:=by rw [hsz]; decide
 have hlies:liesAt Tryz.prog Tryz.prog.depth 122 (n / Tryz.prog.cellsOf 122) 0 122 1=true:=by
  rw [show Tryz.prog.cellsOf 122=2 by kernel_rfl]
  exact yiv _ (by omega)
 go_enter Tryz.func147,Tryz.ntmps147
 go_wp2
 rw [Lib.run_to_unsafe w ⟨b,0,none⟩ Tryz.underlying120 Tryz.underlying169 hj hjs hsh (show 0<n by omega)]
 simp only[Result.andThen]
 rw [Oper.upon_value]
 go_wp2
 rw [run_callFunc_extern Tryz.func169 (by kernel_rfl) (by kernel_rfl) (by kernel_rfl) (e:=Extern.AbiNoEscape.same) (by kernel_rfl)]
 rw [Lib.run_noEscape]
 simp only[Result.andThen]
 rw [Oper.upon_value]
 go_wp2
 rw [Lib.run_from_unsafe w ⟨b,0,none⟩ Tryz.underlying169 Tryz.underlying120 hj hsh hlies]
 simp only[Result.andThen]
 rw [Oper.upon_value]
 go_wp2
 go_end0
 exact ⟨rfl,rfl⟩
set_option maxHeartbeats 1000000 in
set_option maxRecDepth 100000 in
theorem zuo (b g cap:Nat) (cur:Array Value) (fz:Nat × Nat) (l:List UInt8) (w:World) (hbk:w.cell? ⟨b,1,none⟩=some (.slice (some ⟨g,0,none⟩) l.length cap))
  (hg:w.heap[g]?=some (.cells cur 5 fz)) (hc:l.length≤cur.size) (hcap:cap≠0) (h63:l.length≤9223372036854775807) (h0:l≠[])
  (hl:∀ (j:Nat) x,l[j]?=some x→cur[j]?=some (.int .u8 x.toNat)) :
  Calls Tryz.prog 115 #[.pointer (some ⟨b,0,none⟩)] w fun e w'=>e = .returned (.string ⟨l.toArray⟩)∧w'=w.drew.freeze ⟨g,0,none⟩ l.length:=by
 have c1:w.drew.cell? ⟨b,1,none⟩=some (.slice (some ⟨g,0,none⟩) l.length cap):=hbk
 have hSD:(Builtin.unsafeSliceData_ #[29] 152 #[.slice (some ⟨g,0,none⟩) l.length cap]).run Tryz.prog w.drew = .ok (.pointer (some ⟨g,0,none⟩)) w.drew :=
  Lib.run_unsafeSliceData_row _ _ _ _ _ _ hcap
 have hUS:(Builtin.unsafeString_ #[152,3] 9 #[.pointer (some ⟨g,0,none⟩),.int .i64 l.length]).run Tryz.prog w.drew = .ok (.string ⟨l.toArray⟩) (w.drew.freeze ⟨g,0,none⟩ l.length):=by
  have hg':w.drew.heap[g]?=some (.cells cur 5 fz):=hg
  refine Lib.run_unsafeString_row w.drew 152 3 9 5 Tryz.underlying152 (by kernel_rfl) g cur.size (by simp [World.shape?,hg']) l h0 hc h63 ?_
  intro j x hx
  by_cases hj:j=0
  ·subst hj; simp [World.cell?,Addr.add,hg',hl 0 x hx]
  simp [World.cell?,Addr.add,hj,hg',hl j x hx]
 go_enter Tryz.func115,Tryz.ntmps115
 go_wp2
 go_region
 all_goals (go_wp2; go_ret; exact ⟨rfl,rfl⟩)
variable {F:Nat→Prop} {G:GSt} {w:World}
theorem zog {S:Store} {o ver:Nat} {c0 c1:PV} (hS:S.obs[o]?=some (.arr ver 122 2 [c0,c1])) (h0:c0 = .nilp∨c0 = .ref o ver 0) :
  Ev Tryz.prog 147 [.ref o ver 0] S fun v S'=>v = .tup []∧S'=⟨S.obs.set o (.arr ver 122 2 [.ref o ver 0,c1]),S.tick⟩:=by
 refine ⟨Fn.ent ⟨Tryz.func147,by kernel_rfl,rfl,by kernel_rfl⟩,fun F G w cargs hE hi hl hv=>?_⟩
 subst hE
 obtain ⟨c,rfl⟩:∃ c,cargs = #[c]:=by
  match cargs,hl with
  | ⟨[c]⟩,_=>exact ⟨c,rfl⟩
 have hco:G.er.cellsOf o ver=some [c0,c1]:=by simp [Store.cellsOf,hS]
 obtain ⟨et,sz,l,hG,rfl,hver⟩:=(hv 0 _ c rfl rfl).ref_at hi hco
 obtain ⟨l2,hG2⟩:=zfj hS
 rw [hG]at hG2
 cases hG2
 obtain ⟨cs,⟨fz,hb,hz⟩,hcs,hle,hcell⟩:=hi.arr o _ _ _ _ l hG
 obtain ⟨-,v0,hv0,hr0⟩:=hcell 0 c0 rfl
 obtain ⟨hc1,v1,hv1,hr1⟩:=hcell 1 c1 rfl
 have hle2:2≤cs.size:=by simp only[List.length_cons,List.length_nil]at hle; omega
 have hself:∀ (G':GSt),G.tick≤G'.tick→(∀ ob l',G'.obs[o]?=some (ob,l')→ob.ver=ver→∃ et sz cells,ob = .arr ver et sz cells∧l'=l)→VR w.heap F G' (.ref o ver 0) (.pointer (some ⟨l.blk,0,none⟩)):=by
  intro G' ht h
  refine .ref _ _ _ _ (Nat.lt_of_lt_of_le hver ht) fun ob l' h1 h2=>?_
  obtain ⟨a,b,c,d,rfl⟩:=h ob l' h1 h2
  exact ⟨a,b,c,d,rfl⟩
 have hcell0:w.cell? ⟨l.blk,0,none⟩=some v0:=by simp [World.cell?,hb,hv0]
 have put:∀ w':World,w'.os=w.os→w'.tape=w.tape→w'.output=w.output→w.drawn≤w'.drawn→w'.heap.size=w.heap.size→(∀ b,b≠l.blk→w'.heap[b]?=w.heap[b]?) →
   (∃ cs':Array Value,w'.heap[l.blk]?=some (.cells cs' 122 fz)∧cs'.size=cs.size∧cs'[0]?=some (.pointer (some ⟨l.blk,0,none⟩))∧cs'[1]?=some v1) →
   Inv F ⟨G.obs.set o (.arr ver 122 2 [.ref o ver 0,c1],l),G.tick⟩ w'∧Next F G w F ⟨G.obs.set o (.arr ver 122 2 [.ref o ver 0,c1],l),G.tick⟩ w':=by
  rintro w' h1 h2 h3 hd h4 h5 ⟨cs',k1,k2,k3,k4⟩
  refine zhs hi hG _ l G.tick w' h1 h2 h3 hd (by omega) (.inl rfl) (fun b _ hb=>h5 b hb) (qR _) (show ver<G.tick from hver) (.inl ⟨rfl,by simp [Ob.like],rfl⟩) ?_
  refine ⟨cs',⟨fz,k1,hz.of k2⟩,by omega,by simp; omega,?_⟩
  rintro (_ | _ | i) p hp
  ·simp at hp; subst hp
   exact ⟨rfl,_,k3,hself G (qR _) fun ob l' h1 h2=>by rw [hG]at h1; cases h1; exact ⟨_,_,_,rfl,rfl⟩⟩
  ·simp at hp; subst hp
   exact ⟨hc1,v1,k4,hr1⟩
  simp at hp
 have er:∀ ob,(⟨G.obs.set o (ob,l),G.tick⟩:GSt).er=⟨G.er.obs.set o ob,G.er.tick⟩:=by intro ob; simp [GSt.er,List.map_set]
 rcases h0 with rfl | rfl
 ·have hv0':v0 = .pointer none:=by cases hr0 with | imm _ _ h=>cases h; rfl
  subst hv0'
  refine (zqc l.blk cs.size hle2 w hcell0 (by simp [World.shape?,hb]) (by obtain ⟨lo,hi'⟩:=fz; simp only[World.frozen?,hb,Bool.and_eq_false_iff,decide_eq_false_iff_not]; rcases hz with h | h <;> simp only at h <;> omega)).mono ?_
  rintro e w' ⟨rfl,rfl⟩
  obtain ⟨i1,n1⟩:=put (w.setCell ⟨l.blk,0,none⟩ (.pointer (some ⟨l.blk,0,none⟩))) rfl rfl rfl (qR _) (by simp) (fun b hb=>by simp [World.setCell,Array.getElem?_modify,Ne.symm hb])
   ⟨cs.setIfInBounds 0 (.pointer (some ⟨l.blk,0,none⟩)),by simp [World.setCell,Array.getElem?_modify,hb],by simp,by rw [Array.getElem?_setIfInBounds,if_pos rfl,if_pos (by omega)],by simp [Array.getElem?_setIfInBounds,hv1]⟩
  exact ⟨_,_,F,_,rfl,⟨rfl,er _⟩,i1,n1,.tup [] #[] rfl (by simp)⟩
 have hv0':v0 = .pointer (some ⟨l.blk,0,none⟩):=by
  obtain ⟨_,_,l3,h1,h2,_⟩:=hr0.ref_at hi hco
  rw [hG]at h1; cases h1; exact h2
 subst hv0'
 refine (zsa l.blk w hcell0).mono ?_
 rintro e w' ⟨rfl,rfl⟩
 obtain ⟨i1,n1⟩:=put w' rfl rfl rfl (qR _) rfl (fun _ _=>rfl) ⟨cs,hb,rfl,hv0,hv1⟩
 exact ⟨_,_,F,_,rfl,⟨rfl,er _⟩,i1,n1,.tup [] #[] rfl (by simp)⟩
theorem zo8 {A:List Ob} {t ver vq:Nat} {c0:PV} {l:Txt} (h0:l≠[]) :
  Ev Tryz.prog 115 [.ref A.length ver 0] ⟨A++[.arr ver 122 2 [c0,.loc (A.length+1) vq 0 l.length],.arr vq 5 1 (l.map eB)],t⟩ fun v S'=>v = .str l∧S'=⟨A,t⟩:=by
 refine ⟨Fn.ent ⟨Tryz.func115,by kernel_rfl,rfl,by kernel_rfl⟩,fun F G w cargs hE hi hl hv=>?_⟩
 obtain ⟨c,rfl⟩:∃ c,cargs = #[c]:=by
  match cargs,hl with
  | ⟨[c]⟩,_=>exact ⟨c,rfl⟩
 have hobs:G.er.obs=A++[.arr ver 122 2 [c0,.loc (A.length+1) vq 0 l.length],.arr vq 5 1 (l.map eB)]:=by rw [hE]
 have htk:G.tick=t:=congrArg Store.tick hE
 have hSo:G.er.obs[A.length]?=some (.arr ver 122 2 [c0,.loc (A.length+1) vq 0 l.length]):=by rw [hobs]; simp
 have hSq:G.er.obs[A.length+1]?=some (.arr vq 5 1 (l.map eB)):=by rw [hobs]; simp
 obtain ⟨et,sz,lo,hGo,rfl,hver⟩:=(hv 0 _ c rfl rfl).ref_at hi (cells:=[c0,.loc (A.length+1) vq 0 l.length]) (by simp [Store.cellsOf,hSo])
 obtain ⟨lo2,hGo2⟩:=zfj hSo
 rw [hGo]at hGo2
 cases hGo2
 obtain ⟨lq,hGq⟩:=zfj hSq
 obtain ⟨cs,⟨fo,hb,-⟩,hcs,hle,hcell⟩:=hi.arr _ _ _ _ _ lo hGo
 obtain ⟨cq,⟨fq,hbq,-⟩,hcq,hleq,hcellq⟩:=hi.arr _ _ _ _ _ lq hGq
 obtain ⟨-,v0,hv0,hr0⟩:=hcell 0 c0 rfl
 obtain ⟨-,v1,hv1,hr1⟩:=hcell 1 _ rfl
 obtain ⟨_,_,lq2,cap,hGq2,rfl,_,hnc,hcm,hroom⟩:=hr1.loc_at hi (cells:=l.map eB) (by simp [Store.cellsOf,hSq])
 rw [hGq]at hGq2
 cases hGq2
 have hl0:l.length≠0:=by simpa using h0
 have hc1:w.cell? ⟨lo.blk,1,none⟩=some (.slice (some ⟨lq.blk,0,none⟩) l.length cap):=by simp [World.cell?,hb,hv1]
 refine (zuo lo.blk lq.blk cap cq fq l w hc1 hbq (by simp at hleq; omega) (by omega) (by unfold maxLen at hcm; omega) h0 ?_).mono ?_
 ·intro j x hx
  obtain ⟨-,v,k1,k2⟩:=hcellq j (eB x) (by simp [hx])
  rw [k1,k2.int]
 ·rintro e w' ⟨rfl,rfl⟩
  have hoth:∀ b,b≠lq.blk→(w.drew.freeze ⟨lq.blk,0,none⟩ l.length).heap[b]?=w.heap[b]?:=by
   intro b hb'
   show _=w.drew.heap[b]?
   simp only[World.freeze,if_neg hl0,Array.getElem?_modify,Ne.symm hb',if_false]
  have hsz:(w.drew.freeze ⟨lq.blk,0,none⟩ l.length).heap.size=w.heap.size:=by
   show (w.drew.freeze ⟨lq.blk,0,none⟩ l.length).heap.size=w.drew.heap.size
   simp only[World.freeze,if_neg hl0,Array.size_modify]
  have hos:∀ w2:World,(w2.freeze ⟨lq.blk,0,none⟩ l.length).os=w2.os∧(w2.freeze ⟨lq.blk,0,none⟩ l.length).tape=w2.tape∧(w2.freeze ⟨lq.blk,0,none⟩ l.length).output=w2.output:=by
   intro w2; simp [World.freeze,hl0]
  have nx:Next F G w F (G.take A.length) (w.drew.freeze ⟨lq.blk,0,none⟩ l.length) :=
   ⟨(hos _).1,(hos _).2.1,(hos _).2.2,by omega,fun _ h=>h,fun _ h => .inl h,fun o x h => .inr ⟨o,x,zcx h,rfl⟩,qR _,
    fun b _ hG=>hoth b fun e=>hG _ _ hGq e.symm,fun _ ob' _ h _=>⟨ob',zcx h,rfl,Ob.like.refl _⟩,by simp [World.freeze,hl0]⟩
  have tlt:∀ (o:Nat) x,(G.take A.length).obs[o]?=some x→o<A.length:=by
   intro o x hx
   have:=(List.getElem?_eq_some_iff.1 hx).1
   simp only[GSt.take,List.length_take]at this; omega
  refine ⟨.str l,_,F,G.take A.length,rfl,⟨rfl,?_⟩,ziw (fun b hb=>by rw [hsz]; exact hi.fr b hb) (fun o ob l' h=>hi.ver o ob l' (zcx h)) (fun o ob l' h=>hi.nF o ob l' (zcx h))
   (fun o ob l' h=>(hi.holds (zcx h)).next hi nx (hoth _ fun e=>?_)) (fun o o' x x' h h'=>hi.inj o o' x x' (zcx h) (zcx h')),nx,.imm _ _ (.str _ _ rfl)⟩
  ·rw [zjt,hE]; simp [Store.take]
  have:=hi.inj o _ _ _ (zcx h) hGq e
  have:=tlt o _ h
  omega
end
theorem zv6 {o:List Txt} {vo vb t:Nat} (x:UInt8):Ev Tryz.prog 114 [.ref 1 vb 0,eB x] ⟨[.arr vo 9 1 (o.map .str),.arr vb 122 2 [.nilp,.nils]],t⟩ fun v S=>v = .undef∧∃ vq t2:Nat,S=⟨[.arr vo 9 1 (o.map .str),.arr vb 122 2 [.ref 1 vb 0,.loc 2 vq 0 ([x]).length],.arr vq 5 1 (([x]).map eB)],t2⟩:=by
 refine Ev.of ⟨Tryz.func114,by kernel_rfl,rfl,by kernel_rfl⟩ zan mixed (by show 2≤Tryz.f114.ntmps; decide) ?_
 refine W.r fun K hK=>?_
 simp(disch:=omega)only[↓RU,RV,RH,↓reduceIte,qE,reduceCtorEq,if_pos,↓RS,RG,qA,qM,qL]
 apply hK;clear hK K
 refine W.r fun K hK=>?_
 simp(disch:=omega)only[↓RU,RV,RH,↓reduceIte,qE,reduceCtorEq,if_pos,qN,↓RS,RG,qA,qM,qL,List.set_cons_succ,List.set_cons_zero]
 refine zad.ev (zog (S:=⟨[.arr vo 9 1 (o.map .str),.arr vb 122 2 [.nilp,.nils]],t⟩) (o:=1) rfl (.inl rfl)) ?_
 rintro _ _ ⟨rfl,rfl⟩
 simp(disch:=omega)only[↓RU,RV,RH,↓reduceIte,qE,reduceCtorEq,if_pos,qN,↓RS,RG,qA,qM,qL,List.set_cons_succ,List.set_cons_zero]
 apply hK;clear hK K
 refine W.joinS [] (fun vs S=>vs=[]∧∃ vq t2:Nat,S=⟨[.arr vo 9 1 (o.map .str),.arr vb 122 2 [.ref 1 vb 0,.loc 2 vq 0 ([x]).length],.arr vq 5 1 (([x]).map eB)],t2⟩) ?_ ?_
 ·
  refine W.k fun K hK=>?_
  simp(disch:=omega)only[↓RU,RV,RH,↓reduceIte,qE,reduceCtorEq,if_pos,↓RS,RG,qA,qM,qL,ty7,ty9,yi0,yi1,zd3]
  apply hK;clear hK K
  refine xn ?_
  refine ⟨2,[3],[],⟨[.arr vo 9 1 (o.map .str),.arr vb 122 2 [.ref 1 vb 0,.loc 2 (t+2) 0 ([x]).length],.arr (t+2) 5 1 (([x]).map eB)],(t+3)⟩,?_,?_,rfl,t+2,t+3,rfl⟩
  ·simp [-qU,Env.put,Env.of,zaf,zcg,zam,zar,za1,za5,zco,zcp,zee,zcn,zbt,zcq,zed,zef,zbv,zbu,za6,zcm,zcr,zec,zbr,zbq,za4,zbs,zcl,zgf,qS,qP,qC]
  simp [-qU,Env.put,Env.of,zaf,zcg,zam,zar,za1,za5,zco,zcp,zee,zcn,zbt,zcq,zed,zef,zbv,zbu,za6,zcm,zcr,zec,zbr,zbq,za4,zbs,zcl,zgf,qS,qP,qC,yfp]
 rintro vs S - ⟨rfl,vq,t2,rfl⟩
 refine W.r fun K hK=>?_
 simp(disch:=omega)only[↓RU,RV,RH,↓reduceIte,qE,reduceCtorEq,if_pos,↓RS,RG,qA,qM,qL]
 apply hK;clear hK K
 refine W.ret ?_
 refine Br rfl ?_
 exact ⟨_,rfl,vq,t2,zai⟩
theorem zv7 {o:List Txt} {vo vb vq t:Nat} {l:Txt} (hl:l.length<2147483647) (x:UInt8):Ev Tryz.prog 114 [.ref 1 vb 0,eB x] ⟨[.arr vo 9 1 (o.map .str),.arr vb 122 2 [.ref 1 vb 0,.loc 2 vq 0 (l).length],.arr vq 5 1 ((l).map eB)],t⟩ fun v S=>v = .undef∧∃ vq t2:Nat,S=⟨[.arr vo 9 1 (o.map .str),.arr vb 122 2 [.ref 1 vb 0,.loc 2 vq 0 (l++[x]).length],.arr vq 5 1 ((l++[x]).map eB)],t2⟩:=by
 refine Ev.of ⟨Tryz.func114,by kernel_rfl,rfl,by kernel_rfl⟩ zan mixed (by show 2≤Tryz.f114.ntmps; decide) ?_
 refine W.r fun K hK=>?_
 simp(disch:=omega)only[↓RU,RV,RH,↓reduceIte,qE,reduceCtorEq,if_pos,↓RS,RG,qA,qM,qL]
 apply hK;clear hK K
 refine W.r fun K hK=>?_
 simp(disch:=omega)only[↓RU,RV,RH,↓reduceIte,qE,reduceCtorEq,if_pos,qN,↓RS,RG,qA,qM,qL,List.set_cons_succ,List.set_cons_zero]
 refine zad.ev (zog (S:=⟨[.arr vo 9 1 (o.map .str),.arr vb 122 2 [.ref 1 vb 0,.loc 2 vq 0 (l).length],.arr vq 5 1 ((l).map eB)],t⟩) (o:=1) rfl (.inr rfl)) ?_
 rintro _ _ ⟨rfl,rfl⟩
 simp(disch:=omega)only[↓RU,RV,RH,↓reduceIte,qE,reduceCtorEq,if_pos,qN,↓RS,RG,qA,qM,qL,List.set_cons_succ,List.set_cons_zero]
 apply hK;clear hK K
 refine W.r fun K hK=>?_
 simp(disch:=omega)only[↓RU,RV,RH,↓reduceIte,qE,reduceCtorEq,if_pos,↓RS,RG,qA,qM,qL,ty7,ty9,yi0,yi1,zd3]
 apply hK;clear hK K
 refine W.r fun K hK=>?_
 simp(disch:=omega)only[↓RU,RV,RH,↓reduceIte,qE,reduceCtorEq,if_pos,↓RS,RG,qA,qM,qL]
 apply hK;clear hK K
 refine W.ret ?_
 refine Br rfl ?_
 exact ⟨3,rfl,t+1,t+2,by simp [zav]⟩
theorem zy3 {o:List Txt} {vo vb vq t:Nat} {l:Txt} (hl:l.length<2147483647) (x:UInt8):Ev Tryz.prog 114 [.ref 1 vb 0,eB x] (stB o vo vb l vq t) fun v S=>v = .undef∧∃ vq2 t2:Nat,S=stB o vo vb (l++[x]) vq2 t2:=by
 cases l with
 | nil=>exact zv6 x
 | cons a l=>exact zv7 hl x
theorem z3q {o:List Txt} {vo vb vq t:Nat} {l:Txt} (h0:l≠[]):Ev Tryz.prog 115 [.ref 1 vb 0] (stB o vo vb l vq t) fun v S=>v = .str l∧S=⟨[.arr vo 9 1 (o.map .str)],t⟩:=by
 rw [yhq h0]
 exact zo8 (A:=[.arr vo 9 1 (o.map .str)]) h0
theorem z9t {g:List (List Int)} {nh nw:Nat} (hg:GW g nh nw) (rs:List Rect) (hz:∀ r∈g,∀ z∈r,0≤z∧z≤100):PC Tryz.prog 65 [zbj g rs] (zak (zf3 g)) true:=by
 have hl:=hg.1
 obtain ⟨hg1,hg2,hg3,hg4⟩:=hg.2.2
 refine PC.of ⟨Tryz.func65,by kernel_rfl,rfl,by kernel_rfl⟩ zan mixed (by show 1≤Tryz.f65.ntmps; decide) ?_
 refine W.r fun K hK=>?_
 simp(disch:=omega)only[↓RU,RV,RH,↓reduceIte,qE,reduceCtorEq,if_pos,↓RS,RG,qA,qM,qL]
 apply hK;clear hK K
 refine W.r fun K hK=>?_
 simp(disch:=omega)only[↓RU,RV,RH,↓reduceIte,qE,reduceCtorEq,if_pos,qN,↓RS,RG,qA,qM,qL,ty6,zac,hl,zeo,zps,zdk]
 refine zad.pc (zhr g rs) rfl (.inl rfl) ?_
 simp(disch:=omega)only[↓RU,RV,RH,↓reduceIte,qE,reduceCtorEq,if_pos,qN,↓RS,RG,qA,qM,qL,ty6,zac,hl,zeo,zps,zdk]
 apply hK;clear hK K
 refine W.seq ?_
 refine W.r fun K hK=>?_
 simp(disch:=omega)only[↓RU,RV,RH,↓reduceIte,qE,reduceCtorEq,if_pos,↓RS,RG,qA,qM,qL,ty1,ty4,zab,ze7,zce,zdt,zaa,ze8,zdu,hl]
 apply hK;clear hK K
 refine W.block ?_
 refine W.loop [0,3,15,16,17] (fun n vs S=>∃ (i vo t:Nat) (o:List Txt),n=nh - i∧i≤nh∧o.length=nh∧(∀ j,j<i→o[j]?=(zf3 g)[j]?)∧vs=[zbj g rs,.loc 0 vo 0 nh,zd5 g,.int .i64 nh,.int .i64 (i:Nat)]∧S=⟨[.arr vo 9 1 (o.map .str)],t⟩) nh ?_ ?_
 ·refine ⟨1,0,0,1,List.replicate nh [],rfl,Nat.zero_le _,by simp,fun j h=>absurd h (by omega),?_,?_⟩
  ·simp [Env.put,Env.of,zaf,hl]
  simp [zav,zps]
 rintro n vs S - ⟨i,vo,t,o,rfl,h_i,hol,hdone,rfl,rfl⟩
 refine W.r fun K hK=>?_
 simp(disch:=omega)only[↓RU,RV,RH,↓reduceIte,qE,reduceCtorEq,if_pos,w64,↓RS,RG,qA,qM,qL,zaa]
 apply hK;clear hK K
 refine W.seq ?_
 refine W.cond rfl (fun h=>?_) (fun h=>?_)
 ·try simp only[RL]at h
  obtain ⟨row,hrow,hrm⟩:=zae (show i<g.length by omega)
  have hrl:=hg.2.1 row hrm
  have hrz:=hz row hrm
  refine W.skip ?_
  refine xn ?_
  refine W.seq ?_
  refine W.block ?_
  refine W.r fun K hK=>?_
  simp(disch:=omega)only[↓RU,RV,RH,↓reduceIte,qE,reduceCtorEq,if_pos,↓RS,RG,qA,qM,qL,ty1,zab,zce,zaa,hrow]
  apply hK;clear hK K
  refine W.r fun K hK=>?_
  simp(disch:=omega)only[↓RU,RV,RH,↓reduceIte,qE,reduceCtorEq,if_pos,↓RS,RG,qA,qM,qL,ty7,ty9,yi0,yi1,zd3]
  apply hK;clear hK K
  refine W.seq ?_
  refine W.r fun K hK=>?_
  simp(disch:=omega)only[↓RU,RV,RH,↓reduceIte,qE,reduceCtorEq,if_pos,↓RS,RG,qA,qM,qL,zab,zaa,hrl]
  apply hK;clear hK K
  refine W.block ?_
  refine W.loop [0,3,15,16,17,4,6,22,23,24] (fun n vs S=>∃ (k vb vq t:Nat),n=nw - k∧k≤nw∧vs=[zbj g rs,.loc 0 vo 0 nh,zd5 g,.int .i64 nh,.int .i64 (i:Nat),.int .i64 (i:Nat),.ref 1 vb 0,eInts row,.int .i64 nw,.int .i64 (k:Nat)]∧S=stB o vo vb (zrr (row.take k)) vq t) nw ?_ ?_
  ·refine ⟨2,0,_,0,_,rfl,Nat.zero_le _,?_,rfl⟩
   simp [Env.put,Env.of,hrl]
  rintro n vs S - ⟨k,vb,vq,t,rfl,h_k,rfl,rfl⟩
  refine W.r fun K hK=>?_
  simp(disch:=omega)only[↓RU,RV,RH,↓reduceIte,qE,reduceCtorEq,if_pos,w64,↓RS,RG,qA,qM,qL,zaa]
  apply hK;clear hK K
  refine W.seq ?_
  refine W.cond rfl (fun h1=>?_) (fun h1=>?_)
  ·try simp only[RL]at h1
   obtain ⟨z,hzk,hzm⟩:=zae (show k<row.length by omega)
   have hzb:=hrz z hzm
   have hul:=yhy hzb.1
   refine W.skip ?_
   refine xn ?_
   refine W.seq ?_
   refine W.block ?_
   refine W.r fun K hK=>?_
   simp(disch:=omega)only[↓RU,RV,RH,↓reduceIte,qE,reduceCtorEq,if_pos,↓RS,RG,qA,qM,qL,zab,zaa,hzk]
   apply hK;clear hK K
   refine W.k fun K hK=>?_
   simp(disch:=omega)only[↓RU,RV,RH,↓reduceIte,qE,reduceCtorEq,if_pos,w64,w64,qN,↓RS,RG,qA,qM,qL,zaa,zd3,hul]
   refine zad.ev (zy3 (by rw [z2z,List.length_take]; omega) (z7j z)) ?_
   rintro _ _ ⟨rfl,vq2,t2,rfl⟩
   simp(disch:=omega)only[↓RU,RV,RH,↓reduceIte,qE,reduceCtorEq,if_pos,w64,w64,qN,↓RS,RG,qA,qM,qL,zaa,zd3,hul]
   apply hK;clear hK K
   refine XbN ?_
   refine xn ?_
   refine W.k fun K hK=>?_
   simp(disch:=omega)only[↓RU,RV,RH,↓reduceIte,qE,reduceCtorEq,if_pos,w64,↓RS,RG,qA,qM,qL,zaa]
   apply hK;clear hK K
   refine xn ?_
   refine ⟨nw - (k+1),by omega,_,k+1,vb,vq2,t2,rfl,by omega,?_,by rw [z8z hzk]; exact zai⟩
   simp [Env.put,Env.of]
  try simp only[RL]at h1
  obtain rfl:nw=k:=by omega
  refine W.exit ?_
  refine xe ?_
  refine xe ?_
  refine XBlock.hit ?_
  refine xn ?_
  refine W.k fun K hK=>?_
  have htk:row.take nw=row:=qT (by omega)
  rw [htk]
  have hne:=yfq (row:=row) (by omega)
  simp(disch:=omega)only[↓RU,RV,RH,↓reduceIte,qE,reduceCtorEq,if_pos,qN,↓RS,RG,qA,qM,qL,ty6,zac,hol,zbp,zru]
  refine zad.ev (z3q hne) ?_
  rintro _ _ ⟨rfl,rfl⟩
  simp(disch:=omega)only[↓RU,RV,RH,↓reduceIte,qE,reduceCtorEq,if_pos,qN,↓RS,RG,qA,qM,qL,ty6,zac,hol,zbp,zru]
  apply hK;clear hK K
  refine XbN ?_
  refine xn ?_
  refine W.k fun K hK=>?_
  simp(disch:=omega)only[↓RU,RV,RH,↓reduceIte,qE,reduceCtorEq,if_pos,w64,↓RS,RG,qA,qM,qL,zaa]
  apply hK;clear hK K
  refine xn ?_
  refine ⟨nh - (i+1),by omega,1,i+1,vo,t,o.set i (zrr row),rfl,by omega,by simp [hol],?_,?_,?_⟩
  ·intro j hj
   by_cases e:j=i
   ·subst e; rw [zm9 hrow,List.getElem?_set,if_pos rfl,if_pos (by omega)]
   rw [List.getElem?_set,if_neg (Ne.symm e)]; exact hdone j (by omega)
  ·simp [Env.put,Env.of]
  simp [zav]
 try simp only[RL]at h
 obtain rfl:nh=i:=by omega
 refine W.exit ?_
 refine xe ?_
 refine xe ?_
 refine XBlock.hit ?_
 refine xn ?_
 refine W.r fun K hK=>?_
 simp(disch:=omega)only[↓RU,RV,RH,↓reduceIte,qE,reduceCtorEq,if_pos,↓RS,RG,qA,qM,qL]
 apply hK;clear hK K
 refine W.ret ?_
 refine Br rfl ?_
 have hdo:=z9q (by omega) (fun j hj=>hdone j (by omega))
 subst hdo
 obtain rfl:nh=(zf3 g).length:=hol.symm
 exact zbw (k:=9) rfl (by simp) (z4u _)
def mE (ks:List Int):List (PV × PV):=ks.zipIdx.map fun q=>(.int .i64 q.1,.int .i64 ((q.2:Nat):Int))
theorem zxh (ks:List Int):(mE ks).length=ks.length:=by simp [mE]
theorem ydi (ks:List Int) (z:Int):mE (ks++[z])=mE ks++[(.int .i64 z,.int .i64 ((ks.length:Nat):Int))]:=by simp [mE,List.zipIdx_append]
theorem z0f {q:IntKind} {a b:Int}:zg7 (.int q a) (.int q b)=some (decide (a=b)):=by
 simp only[zg7]
 by_cases h:a=b <;> simp [h]
theorem znl {z:Int}:∀ (ks:List Int) (i:Nat),findKey (.int .i64 z) ((ks.zipIdx i).map fun q=>(PV.int .i64 q.1,PV.int .i64 ((q.2:Nat):Int))) i=some (if ks.idxOf z=ks.length then none else some (i+ks.idxOf z,.int .i64 ((i+ks.idxOf z:Nat):Int)))
 | [],i=>by simp [findKey]
 | a::ks,i=>by
  simp only[List.zipIdx_cons,List.map_cons,findKey,z0f]
  by_cases h:z=a
  ·subst h
   simp [List.idxOf_cons]
  have h':(a == z)=false:=by simpa using Ne.symm h
  have:=znl (z:=z) ks (i+1)
  simp only[h,decide_false]
  rw [this,List.idxOf_cons,h']
  simp only[cond_false,List.length_cons,Nat.add_right_cancel_iff]
  have e:i+1+ks.idxOf z=i+(ks.idxOf z+1):=by omega
  rw [e]
theorem zon {ks:List Int} {z:Int} (h:ks.idxOf z=ks.length):findKey (.int .i64 z) (mE ks) 0=some none:=by
 rw [mE,znl,if_pos h]
theorem zw5 {ks:List Int} {z:Int} (h:¬ ks.idxOf z=ks.length):findKey (.int .i64 z) (mE ks) 0=some (some (ks.idxOf z,.int .i64 ((ks.idxOf z:Nat):Int))):=by
 rw [mE,znl,if_neg h]; simp
def Rect.Fit (b:Rect):Prop:=0≤b.row∧0≤b.col∧1≤b.high∧1≤b.wide∧b.row+b.high≤6∧b.col+b.wide≤6
theorem Rect.Fit.in_ {b:Rect} (h:b.Fit):b.In 1000:=by unfold Rect.Fit at h; unfold Rect.In; omega
theorem Rect.Fit.both {b o:Rect} (h:b.Fit) (k:o.Fit):(b.both o).Fit:=by
 unfold Rect.Fit at *
 simp only[Rect.both]
 omega
def zgt (r c:Nat):Rect:=⟨r,c,1,1⟩
theorem zfn {r c:Nat} (hr:r<6) (hc:c<6):(zgt r c).Fit:=by unfold Rect.Fit zgt; simp only; omega
theorem zdw {r c:Nat}:(zgt r c).cells=[.int .i64 r,.int .i64 c,.int .i64 1,.int .i64 1]:=rfl
def zid (ks:List Int) (z:Int):List Int:=if ks.idxOf z=ks.length then ks++[z] else ks
def zi4 (ks:List Int) (rs:List Rect) (z:Int) (q:Rect):List Rect:=if ks.idxOf z=ks.length then rs++[q] else rs
def zpw (ks:List Int) (rs:List Rect) (z:Int) (q:Rect):List Rect:=(zi4 ks rs z q).set (ks.idxOf z) (((zi4 ks rs z q).getD (ks.idxOf z) q).both q)
def zsi (ks:List Int) (rs:List Rect):Prop:=rs.length=ks.length∧∀ b∈rs,b.Fit
theorem zsi.nil:zsi [] []:=⟨rfl,by simp⟩
theorem zgp {ks:List Int} {z:Int}:ks.idxOf z≤ks.length:=List.idxOf_le_length
theorem zsi.in_ {ks:List Int} {rs:List Rect} (h:zsi ks rs) {z:Int} {q:Rect} (hq:q.Fit):(zi4 ks rs z q).length=(zid ks z).length∧(∀ b∈zi4 ks rs z q,b.Fit)∧∃ b,(zi4 ks rs z q)[ks.idxOf z]?=some b∧b.Fit:=by
 have h1:=h.1
 have h2:=zgp (ks:=ks) (z:=z)
 have hf:∀ b∈zi4 ks rs z q,b.Fit:=by
  unfold zi4
  split
  ·intro b hb
   rcases List.mem_append.1 hb with hb | hb
   ·exact h.2 b hb
   rw [List.mem_singleton]at hb; subst hb; exact hq
  exact h.2
 have hl:(zi4 ks rs z q).length=(zid ks z).length:=by
  unfold zi4 zid; split <;> simp [h1]
 refine ⟨hl,hf,?_⟩
 obtain ⟨b,hb,hm⟩:=zae (show ks.idxOf z<(zi4 ks rs z q).length by rw [hl]; unfold zid; split <;> (try rw [List.length_append,List.length_singleton]) <;> omega)
 exact ⟨b,hb,hf b hm⟩
theorem zsi.step {ks:List Int} {rs:List Rect} (h:zsi ks rs) {z:Int} {q:Rect} (hq:q.Fit):zsi (zid ks z) (zpw ks rs z q):=by
 obtain ⟨h1,h2,b,hb,hbf⟩:=h.in_ (z:=z) hq
 refine ⟨by rw [zpw,List.length_set,h1],fun c hc=>?_⟩
 unfold zpw at hc
 rcases List.mem_or_eq_of_mem_set hc with hc | rfl
 ·exact h2 c hc
 rw [List.getD_eq_getElem?_getD,hb]; exact hbf.both hq
theorem z0g {ks:List Int} {rs:List Rect} {z:Int} {q b:Rect} (hb:(zi4 ks rs z q)[ks.idxOf z]?=some b):zpw ks rs z q=(zi4 ks rs z q).set (ks.idxOf z) (b.both q):=by
 rw [zpw,List.getD_eq_getElem?_getD,hb]; rfl
theorem zj9 {rs:List Rect} {n:Nat} {r:Rect} (h:n<rs.length):(rcs rs).take (n*4)++r.cells++(rcs rs).drop (n*4+4)=rcs (rs.set n r):=yfi h
theorem z0d {S:Store} {k f:Nat} {sel:List Nat} (ks:List Int):((mE ks).mapM fun q=>(rn S k sel (f+1) q.1).bind fun a=>(rn S k sel (f+1) q.2).map fun b=>(a,b))=some (mE ks):=by
 have:∀ l:List (PV × PV),(∀ q∈l,∃ a b:Int,q=(.int .i64 a,.int .i64 b))→(l.mapM fun q=>(rn S k sel (f+1) q.1).bind fun a=>(rn S k sel (f+1) q.2).map fun b=>(a,b))=some l:=by
  intro l
  induction l with
  | nil=>intro _; rfl
  | cons q l ih =>
   intro h
   obtain ⟨a,b,rfl⟩:=h q (by simp)
   rw [qC,ih fun x hx=>h x (by simp [hx])]
   rfl
 refine this _ fun q hq=>?_
 obtain ⟨a,_,rfl⟩:=List.mem_map.1 hq
 exact ⟨_,_,rfl⟩
theorem zt2 {S:Store} {k f:Nat} {sel:List Nat} (rs:List Rect):(rcs rs).mapM (rn S k sel (f+1))=some (rcs rs):=zvp (z25 rs)
theorem zf1 {T:Tab} {S:Store} {e:Env} {t:TypeId} {x:Operand}:zd4 T S e (.load t x)=zvb (T t) S (e.ev x):=rfl
theorem zia {T:Tab} {S:Store} {e:Env} {x:Operand}:zd4 T S e (.nilCheck x)=zg1 S (e.ev x):=rfl
theorem zny {T:Tab} {S:Store} {e:Env} {t:TypeId} {x:Operand} {f:Nat}:zd4 T S e (.fieldAddr t x f)=zfz T S t (e.ev x) f:=rfl
theorem znz {T:Tab} {S:Store} {e:Env} {t:TypeId} {x i:Operand}:zd4 T S e (.indexAddr t x i)=zf0 T S t (e.ev x) (e.ev i):=rfl
theorem z8m {r:Rect}:rcs [r]=r.cells:=by simp [rcs]
theorem ydn {rs:List Rect}:(rcs rs).take (rs.length*4)=rcs rs:=by rw [← zb8,List.take_length]
theorem za9 {r:Rect}:r.cells.length=4:=rfl
theorem zbd {r:Rect}:zb5 r.cells=True:=eq_true (by intro p hp; simp [Rect.cells]at hp; rcases hp with rfl | rfl | rfl | rfl <;> rfl)
def gcs (d:List (List Int)) (cur:PV) (m:Nat):List PV:=d.map eInts++cur::List.replicate m .nils
theorem zyh {S:Store} {k f:Nat} {sel:List Nat} {d:List (List Int)} {cur cur2:PV} {m:Nat} (h:rn S k sel (f+1) cur=some cur2):(gcs d cur m).mapM (rn S k sel (f+1))=some (gcs d cur2 m):=by
 unfold gcs
 rw [qP,zbc (l:=d.map eInts) (fun x hx=>by obtain ⟨a,_,rfl⟩:=List.mem_map.1 hx; rfl),qC,h,zbc (l:=List.replicate m PV.nils) (fun x hx=>by obtain rfl:=List.eq_of_mem_replicate hx; rfl)]
 rfl
theorem zxa {z:Int}:TK.keyed tab 3 (.int .i64 z)=true:=by simp only[TK.keyed,zaa]; rfl
theorem zrw {g d:List (List Int)} {y:List Int} {row ks:List Int} {rs:List Rect} {z:Int} {r c w m xv yv vq t:Nat} (hr:r<6) (hc:c<6) (hrow:g[r]?=some row) (hz:row[c]?=some z) (hs:zsi ks rs) (hk:ks.length≤64) (hin:¬ ks.idxOf z=ks.length):Ev Tryz.prog 144 [.int .i64 (r:Nat),.int .i64 (c:Nat),.ref 5 5 0,.ref 0 0 0,.ref 3 3 0] ⟨[.arr 0 75 1 [zd5 g],.arr 1 3 1 [.int .i64 w],.arr 2 78 2 [.nils,.loc 8 vq 0 (rs).length],.arr 3 50 1 [.ref 2 2 0],.map 4 (mE ks),.arr 5 151 1 [.mp 4 4],.arr xv 34 1 (gcs d (.loc 7 yv 0 w) m),.arr yv 3 1 (y.map (.int .i64)),.arr vq 92 4 (rcs rs)],t⟩ fun v S=>v = .int .i64 ((ks.idxOf z:Nat):Int)∧∃ vq t:Nat,S=⟨[.arr 0 75 1 [zd5 g],.arr 1 3 1 [.int .i64 w],.arr 2 78 2 [.nils,.loc 8 vq 0 ((zpw ks rs z (zgt r c))).length],.arr 3 50 1 [.ref 2 2 0],.map 4 (mE (zid ks z)),.arr 5 151 1 [.mp 4 4],.arr xv 34 1 (gcs d (.loc 7 yv 0 w) m),.arr yv 3 1 (y.map (.int .i64)),.arr vq 92 4 (rcs (zpw ks rs z (zgt r c)))],t⟩:=by
 have hrl:=za2 hrow
 have hcl:=za2 hz
 have hgl:g.length=g.length:=rfl
 obtain ⟨hi1,hi2,b,hb,hbf⟩:=hs.in_ (z:=z) (zfn hr hc)
 have hil:=zgp (ks:=ks) (z:=z)
 have hsl:=hs.1
 have hst:=hs.step (z:=z) (zfn hr hc)
 have hfs:=zw5 hin
 have hki:zid ks z=ks:=by simp [zid,hin]
 have hri:zi4 ks rs z (zgt r c)=rs:=by simp [zi4,hin]
 refine Ev.of ⟨Tryz.func144,by kernel_rfl,rfl,by kernel_rfl⟩ zan mixed (by show 5≤Tryz.f144.ntmps; decide) ?_
 refine W.r fun K hK=>?_
 simp(disch:=omega)only[↓RU,RV,RH,↓reduceIte,qE,reduceCtorEq,if_pos,↓RS,RG,qA,qM,qL]
 apply hK;clear hK K
 refine W.seq_draw (by kernel_rfl) fun K hK=>?_
 simp(disch:=omega)only[↓RU,RV,RH,↓reduceIte,qE,reduceCtorEq,if_pos,↓RS,RG,qA,qM,qL,ty1,zab,zce,zaa,ydy,hrow,hz,zxh,hfs]
 apply hK;clear hK K
 refine W.joinS [0,1,2,3,4,8] (fun vs S=>∃ vq t:Nat,vs=[.int .i64 (r:Nat),.int .i64 (c:Nat),.ref 5 5 0,.ref 0 0 0,.ref 3 3 0,.int .i64 ((ks.idxOf z:Nat):Int)]∧S=⟨[.arr 0 75 1 [zd5 g],.arr 1 3 1 [.int .i64 w],.arr 2 78 2 [.nils,.loc 8 vq 0 ((zi4 ks rs z (zgt r c))).length],.arr 3 50 1 [.ref 2 2 0],.map 4 (mE (zid ks z)),.arr 5 151 1 [.mp 4 4],.arr xv 34 1 (gcs d (.loc 7 yv 0 w) m),.arr yv 3 1 (y.map (.int .i64)),.arr vq 92 4 (rcs (zi4 ks rs z (zgt r c)))],t⟩) ?_ ?_
 ·
  refine W.r fun K hK=>?_
  simp(disch:=omega)only[↓RU,RV,RH,↓reduceIte,qE,reduceCtorEq,if_pos,↓RS,RG,qA,qM,qL]
  apply hK;clear hK K
  refine W.cond rfl (fun h=>?_) (fun h=>?_)
  ·try simp only[RL]at h
   exact absurd h (by simp)
  try simp only[RL]at h
  refine W.skip ?_
  refine xn ?_
  refine ⟨9,[],[.int .i64 (r:Nat),.int .i64 (c:Nat),.ref 5 5 0,.ref 0 0 0,.ref 3 3 0,.int .i64 ((ks.idxOf z:Nat):Int)],⟨[.arr 0 75 1 [zd5 g],.arr 1 3 1 [.int .i64 w],.arr 2 78 2 [.nils,.loc 8 vq 0 ((zi4 ks rs z (zgt r c))).length],.arr 3 50 1 [.ref 2 2 0],.map 4 (mE (zid ks z)),.arr 5 151 1 [.mp 4 4],.arr xv 34 1 (gcs d (.loc 7 yv 0 w) m),.arr yv 3 1 (y.map (.int .i64)),.arr vq 92 4 (rcs (zi4 ks rs z (zgt r c)))],(t+1)⟩,?_,?_,vq,t+1,rfl,rfl⟩
  ·simp [-qU,Env.put,Env.of,zaf,zcg,zam,zar,za1,za5,zco,zcp,zee,zcn,zbt,zcq,zed,zef,zbv,zbu,za6,zcm,zcr,zec,zbr,zbq,za4,zbs,zcl,zgf,qS,qP,qC]
  rw [hki,hri]; simp [-qU,Env.put,Env.of,zaf,zcg,zam,zar,za1,za5,zco,zcp,zee,zcn,zbt,zcq,zed,zef,zbv,zbu,za6,zcm,zcr,zec,zbr,zbq,za4,zbs,zcl,zgf,qS,qP,qC,z0d,zt2,zjm,zyh]
 rintro vs S - ⟨vq,t,rfl,rfl⟩
 have hrs2:=z0g hb
 generalize hks1:zid ks z=ks1 at hi1 hst
 generalize hrs1:zi4 ks rs z (zgt r c)=rs1 at hb hi1 hi2 hrs2
 have hbl:=za2 hb
 refine W.seq_draw (by kernel_rfl) fun K hK=>?_
 have hcell:=(zdw (r:=r) (c:=c)).symm
 have hba:PV.agg b.cells=zus b:=rfl
 simp(disch:=omega)only[↓RU,RV,RH,↓reduceIte,qE,reduceCtorEq,if_pos,qN,↓RS,RG,qA,qM,qL,ty1,ty4,zab,ty8,ze7,zce,zdt,zaa,ze8,zdu,zmr hb,zb8,← zdw,hcell,za9,zbd,zj9]
 refine zad.pc (zzd (b:=b) (o:=zgt r c) hbf.in_ (zfn hr hc).in_) rfl (.inl rfl) ?_
 simp(disch:=omega)only[↓RU,RV,RH,↓reduceIte,qE,reduceCtorEq,if_pos,qN,↓RS,RG,qA,qM,qL,ty1,ty4,zab,ty8,ze7,zce,zdt,zaa,ze8,zdu,zmr hb,zb8,← zdw,hcell,za9,zbd,zj9]
 apply hK;clear hK K
 refine W.r fun K hK=>?_
 simp(disch:=omega)only[↓RU,RV,RH,↓reduceIte,qE,reduceCtorEq,if_pos,↓RS,RG,qA,qM,qL]
 apply hK;clear hK K
 refine W.ret ?_
 refine Br rfl ?_
 refine ⟨9,rfl,vq,t,?_⟩
 rw [hrs2]
 simp [zav]
theorem zn6 {g d:List (List Int)} {y:List Int} {row ks:List Int} {rs:List Rect} {z:Int} {r c w m xv yv vq t:Nat} (hr:r<6) (hc:c<6) (hrow:g[r]?=some row) (hz:row[c]?=some z) (hs:zsi ks rs) (hk:ks.length≤64) (hn:rs=[]) (hn2:ks=[]):Ev Tryz.prog 144 [.int .i64 (r:Nat),.int .i64 (c:Nat),.ref 5 5 0,.ref 0 0 0,.ref 3 3 0] ⟨[.arr 0 75 1 [zd5 g],.arr 1 3 1 [.int .i64 w],.arr 2 78 2 [.nils,.nils],.arr 3 50 1 [.ref 2 2 0],.map 4 (mE ks),.arr 5 151 1 [.mp 4 4],.arr xv 34 1 (gcs d (.loc 7 yv 0 w) m),.arr yv 3 1 (y.map (.int .i64))],t⟩ fun v S=>v = .int .i64 ((ks.idxOf z:Nat):Int)∧∃ vq t:Nat,S=⟨[.arr 0 75 1 [zd5 g],.arr 1 3 1 [.int .i64 w],.arr 2 78 2 [.nils,.loc 8 vq 0 ((zpw ks rs z (zgt r c))).length],.arr 3 50 1 [.ref 2 2 0],.map 4 (mE (zid ks z)),.arr 5 151 1 [.mp 4 4],.arr xv 34 1 (gcs d (.loc 7 yv 0 w) m),.arr yv 3 1 (y.map (.int .i64)),.arr vq 92 4 (rcs (zpw ks rs z (zgt r c)))],t⟩:=by
 have hin:ks.idxOf z=ks.length:=by rw [hn2]; rfl
 have hrl:=za2 hrow
 have hcl:=za2 hz
 have hgl:g.length=g.length:=rfl
 obtain ⟨hi1,hi2,b,hb,hbf⟩:=hs.in_ (z:=z) (zfn hr hc)
 have hil:=zgp (ks:=ks) (z:=z)
 have hsl:=hs.1
 have hst:=hs.step (z:=z) (zfn hr hc)
 have hfn:=zon hin
 have hki:zid ks z=ks++[z]:=by simp [zid,hin]
 have hri:zi4 ks rs z (zgt r c)=rs++[zgt r c]:=by simp [zi4,hin]
 refine Ev.of ⟨Tryz.func144,by kernel_rfl,rfl,by kernel_rfl⟩ zan mixed (by show 5≤Tryz.f144.ntmps; decide) ?_
 refine W.r fun K hK=>?_
 simp(disch:=omega)only[↓RU,RV,RH,↓reduceIte,qE,reduceCtorEq,if_pos,↓RS,RG,qA,qM,qL]
 apply hK;clear hK K
 refine W.seq_draw (by kernel_rfl) fun K hK=>?_
 simp(disch:=omega)only[↓RU,RV,RH,↓reduceIte,qE,reduceCtorEq,if_pos,↓RS,RG,qA,qM,qL,ty1,zab,zce,zaa,ydy,hrow,hz,zxh,hfn]
 apply hK;clear hK K
 refine W.joinS [0,1,2,3,4,8] (fun vs S=>∃ vq t:Nat,vs=[.int .i64 (r:Nat),.int .i64 (c:Nat),.ref 5 5 0,.ref 0 0 0,.ref 3 3 0,.int .i64 ((ks.idxOf z:Nat):Int)]∧S=⟨[.arr 0 75 1 [zd5 g],.arr 1 3 1 [.int .i64 w],.arr 2 78 2 [.nils,.loc 8 vq 0 ((zi4 ks rs z (zgt r c))).length],.arr 3 50 1 [.ref 2 2 0],.map 4 (mE (zid ks z)),.arr 5 151 1 [.mp 4 4],.arr xv 34 1 (gcs d (.loc 7 yv 0 w) m),.arr yv 3 1 (y.map (.int .i64)),.arr vq 92 4 (rcs (zi4 ks rs z (zgt r c)))],t⟩) ?_ ?_
 ·
  refine W.r fun K hK=>?_
  simp(disch:=omega)only[↓RU,RV,RH,↓reduceIte,qE,reduceCtorEq,if_pos,↓RS,RG,qA,qM,qL]
  apply hK;clear hK K
  refine W.cond rfl (fun h=>?_) (fun h=>?_)
  ·try simp only[RL]at h
   refine W.r fun K hK=>?_
   simp(disch:=omega)only[↓RU,RV,RH,↓reduceIte,qE,reduceCtorEq,if_pos,↓RS,RG,qA,qM,qL,zaa,ydy,zxh]
   apply hK;clear hK K
   refine W.seq_draw (by kernel_rfl) fun K hK=>?_
   simp(disch:=omega)only[↓RU,RV,RH,↓reduceIte,qE,reduceCtorEq,if_pos,↓RS,RG,qA,qM,qL,ty1,zab,zce,zaa,ydy,hrow,hz,hfn,zxa]
   apply hK;clear hK K
   refine W.region_pk 10 [some 35,some 36,some 37,some 38,some 39] [2,3] (by decide) (by kernel_rfl) fun K hK=>?_
   simp only[List.take_succ_cons,List.take_zero,List.drop_succ_cons,List.drop_zero]
   refine zda (.ref 2 2 0) rfl rfl rfl (fun S' hS=>?_) ?_
   ·skip
    have k2:=(hS 2 (by decide)).trans (show _=some _ from rfl)
    have k3:=(hS 3 (by decide)).trans (show _=some _ from rfl)
    simp(disch:=omega)only[↓RU,RV,RH,↓reduceIte,qE,reduceCtorEq,if_pos,↓RS,RG,qA,qM,qL,ty1,ty4,zab,ty8,ze7,zce,zdt,zaa,ze8,zdu,zb8,za9,zbd,zf1,zia,zny,znz,k2,k3]
   refine zda (.ref 2 2 0) rfl rfl rfl (fun S' hS=>?_) ?_
   ·skip
    have k2:=(hS 2 (by decide)).trans (show _=some _ from rfl)
    have k3:=(hS 3 (by decide)).trans (show _=some _ from rfl)
    simp(disch:=omega)only[↓RU,RV,RH,↓reduceIte,qE,reduceCtorEq,if_pos,↓RS,RG,qA,qM,qL,ty1,ty4,zab,ty8,ze7,zce,zdt,zaa,ze8,zdu,zb8,za9,zbd,zf1,zia,zny,znz,k2,k3]
   refine zda (.ref 2 2 0) rfl rfl rfl (fun S' hS=>?_) ?_
   ·skip
    have k2:=(hS 2 (by decide)).trans (show _=some _ from rfl)
    have k3:=(hS 3 (by decide)).trans (show _=some _ from rfl)
    simp(disch:=omega)only[↓RU,RV,RH,↓reduceIte,qE,reduceCtorEq,if_pos,↓RS,RG,qA,qM,qL,ty1,ty4,zab,ty8,ze7,zce,zdt,zaa,ze8,zdu,zb8,za9,zbd,zf1,zia,zny,znz,k2,k3]
   refine zda (.ref 2 2 1) rfl rfl rfl (fun S' hS=>?_) ?_
   ·skip
    have k2:=(hS 2 (by decide)).trans (show _=some _ from rfl)
    have k3:=(hS 3 (by decide)).trans (show _=some _ from rfl)
    simp(disch:=omega)only[↓RU,RV,RH,↓reduceIte,qE,reduceCtorEq,if_pos,↓RS,RG,qA,qM,qL,ty1,ty4,zab,ty8,ze7,zce,zdt,zaa,ze8,zdu,zb8,za9,zbd,zf1,zia,zny,znz,k2,k3]
   refine zda (.nils) rfl rfl rfl (fun S' hS=>?_) ?_
   ·skip
    have k2:=(hS 2 (by decide)).trans (show _=some _ from rfl)
    have k3:=(hS 3 (by decide)).trans (show _=some _ from rfl)
    simp(disch:=omega)only[↓RU,RV,RH,↓reduceIte,qE,reduceCtorEq,if_pos,↓RS,RG,qA,qM,qL,ty1,ty4,zab,ty8,ze7,zce,zdt,zaa,ze8,zdu,zb8,za9,zbd,zf1,zia,zny,znz,k2,k3]
   refine zcw rfl ?_
   simp(disch:=omega)only[↓RU,RV,RH,↓reduceIte,qE,reduceCtorEq,if_pos,↓RS,RG,qA,qM,qL,ty1,ty4,zab,ty8,ze7,zce,zdt,zaa,ze8,zdu,zb8,za9,zbd,zbi,zb0]
   refine zcw rfl ?_
   simp(disch:=omega)only[↓RU,RV,RH,↓reduceIte,qE,reduceCtorEq,if_pos,↓RS,RG,qA,qM,qL,ty1,ty4,zab,ty8,ze7,zce,zdt,zaa,ze8,zdu,zb8,za9,zbd,zbi,zb0]
   refine zcw rfl ?_
   simp(disch:=omega)only[↓RU,RV,RH,↓reduceIte,qE,reduceCtorEq,if_pos,↓RS,RG,qA,qM,qL,ty1,ty4,zab,ty8,ze7,zce,zdt,zaa,ze8,zdu,zb8,za9,zbd,zbi,zb0]
   refine zcw rfl ?_
   simp(disch:=omega)only[↓RU,RV,RH,↓reduceIte,qE,reduceCtorEq,if_pos,↓RS,RG,qA,qM,qL,ty1,ty4,zab,ty8,ze7,zce,zdt,zaa,ze8,zdu,zb8,za9,zbd,zbi,zb0]
   refine zcw rfl ?_
   simp(disch:=omega)only[↓RU,RV,RH,↓reduceIte,qE,reduceCtorEq,if_pos,↓RS,RG,qA,qM,qL,ty1,ty4,zab,ty8,ze7,zce,zdt,zaa,ze8,zdu,zb8,za9,zbd,zbi,zb0]
   refine zl0 ?_
   simp(disch:=omega)only[↓RU,RV,RH,↓reduceIte,qE,reduceCtorEq,if_pos,↓RS,RG,qA,qM,qL,ty1,ty4,zab,ty8,ze7,zce,zdt,zaa,ze8,zdu,zb8,za9,zbd]
   apply hK;clear hK K
   refine xn ?_
   refine ⟨8,[9],[.int .i64 (r:Nat),.int .i64 (c:Nat),.ref 5 5 0,.ref 0 0 0,.ref 3 3 0,.int .i64 ((ks.idxOf z:Nat):Int)],⟨[.arr 0 75 1 [zd5 g],.arr 1 3 1 [.int .i64 w],.arr 2 78 2 [.nils,.loc 8 (t+2) 0 ((zi4 ks rs z (zgt r c))).length],.arr 3 50 1 [.ref 2 2 0],.map 4 (mE (zid ks z)),.arr 5 151 1 [.mp 4 4],.arr xv 34 1 (gcs d (.loc 7 yv 0 w) m),.arr yv 3 1 (y.map (.int .i64)),.arr (t+2) 92 4 (rcs (zi4 ks rs z (zgt r c)))],(t+3)⟩,?_,?_,(t+2),(t+3),rfl,rfl⟩
   ·rw [hin]; simp [-qU,Env.put,Env.of,zaf,zcg,zam,zar,za1,za5,zco,zcp,zee,zcn,zbt,zcq,zed,zef,zbv,zbu,za6,zcm,zcr,zec,zbr,zbq,za4,zbs,zcl,zgf,qS,qP,qC]
   rw [hki,hri,hn]; simp [-qU,Env.put,Env.of,zaf,zcg,zam,zar,za1,za5,zco,zcp,zee,zcn,zbt,zcq,zed,zef,zbv,zbu,za6,zcm,zcr,zec,zbr,zbq,za4,zbs,zcl,zgf,qS,qP,qC,z0d,zt2,zjm,zyh,ydi,zvj,z8m,zdw,ydn]
  try simp only[RL]at h
  exact absurd h (by simp)
 rintro vs S - ⟨vq,t,rfl,rfl⟩
 have hrs2:=z0g hb
 generalize hks1:zid ks z=ks1 at hi1 hst
 generalize hrs1:zi4 ks rs z (zgt r c)=rs1 at hb hi1 hi2 hrs2
 have hbl:=za2 hb
 refine W.seq_draw (by kernel_rfl) fun K hK=>?_
 have hcell:=(zdw (r:=r) (c:=c)).symm
 have hba:PV.agg b.cells=zus b:=rfl
 simp(disch:=omega)only[↓RU,RV,RH,↓reduceIte,qE,reduceCtorEq,if_pos,qN,↓RS,RG,qA,qM,qL,ty1,ty4,zab,ty8,ze7,zce,zdt,zaa,ze8,zdu,zmr hb,zb8,← zdw,hcell,za9,zbd,zj9]
 refine zad.pc (zzd (b:=b) (o:=zgt r c) hbf.in_ (zfn hr hc).in_) rfl (.inl rfl) ?_
 simp(disch:=omega)only[↓RU,RV,RH,↓reduceIte,qE,reduceCtorEq,if_pos,qN,↓RS,RG,qA,qM,qL,ty1,ty4,zab,ty8,ze7,zce,zdt,zaa,ze8,zdu,zmr hb,zb8,← zdw,hcell,za9,zbd,zj9]
 apply hK;clear hK K
 refine W.r fun K hK=>?_
 simp(disch:=omega)only[↓RU,RV,RH,↓reduceIte,qE,reduceCtorEq,if_pos,↓RS,RG,qA,qM,qL]
 apply hK;clear hK K
 refine W.ret ?_
 refine Br rfl ?_
 refine ⟨9,rfl,vq,t,?_⟩
 rw [hrs2]
 simp [zav]
theorem zrv {g d:List (List Int)} {y:List Int} {row ks:List Int} {rs:List Rect} {z:Int} {r c w m xv yv vq t:Nat} (hr:r<6) (hc:c<6) (hrow:g[r]?=some row) (hz:row[c]?=some z) (hs:zsi ks rs) (hk:ks.length≤64) (hin:ks.idxOf z=ks.length):Ev Tryz.prog 144 [.int .i64 (r:Nat),.int .i64 (c:Nat),.ref 5 5 0,.ref 0 0 0,.ref 3 3 0] ⟨[.arr 0 75 1 [zd5 g],.arr 1 3 1 [.int .i64 w],.arr 2 78 2 [.nils,.loc 8 vq 0 (rs).length],.arr 3 50 1 [.ref 2 2 0],.map 4 (mE ks),.arr 5 151 1 [.mp 4 4],.arr xv 34 1 (gcs d (.loc 7 yv 0 w) m),.arr yv 3 1 (y.map (.int .i64)),.arr vq 92 4 (rcs rs)],t⟩ fun v S=>v = .int .i64 ((ks.idxOf z:Nat):Int)∧∃ vq t:Nat,S=⟨[.arr 0 75 1 [zd5 g],.arr 1 3 1 [.int .i64 w],.arr 2 78 2 [.nils,.loc 8 vq 0 ((zpw ks rs z (zgt r c))).length],.arr 3 50 1 [.ref 2 2 0],.map 4 (mE (zid ks z)),.arr 5 151 1 [.mp 4 4],.arr xv 34 1 (gcs d (.loc 7 yv 0 w) m),.arr yv 3 1 (y.map (.int .i64)),.arr vq 92 4 (rcs (zpw ks rs z (zgt r c)))],t⟩:=by
 have hrl:=za2 hrow
 have hcl:=za2 hz
 have hgl:g.length=g.length:=rfl
 obtain ⟨hi1,hi2,b,hb,hbf⟩:=hs.in_ (z:=z) (zfn hr hc)
 have hil:=zgp (ks:=ks) (z:=z)
 have hsl:=hs.1
 have hst:=hs.step (z:=z) (zfn hr hc)
 have hfn:=zon hin
 have hki:zid ks z=ks++[z]:=by simp [zid,hin]
 have hri:zi4 ks rs z (zgt r c)=rs++[zgt r c]:=by simp [zi4,hin]
 refine Ev.of ⟨Tryz.func144,by kernel_rfl,rfl,by kernel_rfl⟩ zan mixed (by show 5≤Tryz.f144.ntmps; decide) ?_
 refine W.r fun K hK=>?_
 simp(disch:=omega)only[↓RU,RV,RH,↓reduceIte,qE,reduceCtorEq,if_pos,↓RS,RG,qA,qM,qL]
 apply hK;clear hK K
 refine W.seq_draw (by kernel_rfl) fun K hK=>?_
 simp(disch:=omega)only[↓RU,RV,RH,↓reduceIte,qE,reduceCtorEq,if_pos,↓RS,RG,qA,qM,qL,ty1,zab,zce,zaa,ydy,hrow,hz,zxh,hfn]
 apply hK;clear hK K
 refine W.joinS [0,1,2,3,4,8] (fun vs S=>∃ vq t:Nat,vs=[.int .i64 (r:Nat),.int .i64 (c:Nat),.ref 5 5 0,.ref 0 0 0,.ref 3 3 0,.int .i64 ((ks.idxOf z:Nat):Int)]∧S=⟨[.arr 0 75 1 [zd5 g],.arr 1 3 1 [.int .i64 w],.arr 2 78 2 [.nils,.loc 8 vq 0 ((zi4 ks rs z (zgt r c))).length],.arr 3 50 1 [.ref 2 2 0],.map 4 (mE (zid ks z)),.arr 5 151 1 [.mp 4 4],.arr xv 34 1 (gcs d (.loc 7 yv 0 w) m),.arr yv 3 1 (y.map (.int .i64)),.arr vq 92 4 (rcs (zi4 ks rs z (zgt r c)))],t⟩) ?_ ?_
 ·
  refine W.r fun K hK=>?_
  simp(disch:=omega)only[↓RU,RV,RH,↓reduceIte,qE,reduceCtorEq,if_pos,↓RS,RG,qA,qM,qL]
  apply hK;clear hK K
  refine W.cond rfl (fun h=>?_) (fun h=>?_)
  ·try simp only[RL]at h
   refine W.r fun K hK=>?_
   simp(disch:=omega)only[↓RU,RV,RH,↓reduceIte,qE,reduceCtorEq,if_pos,↓RS,RG,qA,qM,qL,zaa,ydy,zxh]
   apply hK;clear hK K
   refine W.seq_draw (by kernel_rfl) fun K hK=>?_
   simp(disch:=omega)only[↓RU,RV,RH,↓reduceIte,qE,reduceCtorEq,if_pos,↓RS,RG,qA,qM,qL,ty1,zab,zce,zaa,ydy,hrow,hz,hfn,zxa]
   apply hK;clear hK K
   refine W.region_pk 10 [some 35,some 36,some 37,some 38,some 39] [2,3] (by decide) (by kernel_rfl) fun K hK=>?_
   simp only[List.take_succ_cons,List.take_zero,List.drop_succ_cons,List.drop_zero]
   refine zda (.ref 2 2 0) rfl rfl rfl (fun S' hS=>?_) ?_
   ·skip
    have k2:=(hS 2 (by decide)).trans (show _=some _ from rfl)
    have k3:=(hS 3 (by decide)).trans (show _=some _ from rfl)
    simp(disch:=omega)only[↓RU,RV,RH,↓reduceIte,qE,reduceCtorEq,if_pos,↓RS,RG,qA,qM,qL,ty1,ty4,zab,ty8,ze7,zce,zdt,zaa,ze8,zdu,zb8,za9,zbd,zf1,zia,zny,znz,k2,k3]
   refine zda (.ref 2 2 0) rfl rfl rfl (fun S' hS=>?_) ?_
   ·skip
    have k2:=(hS 2 (by decide)).trans (show _=some _ from rfl)
    have k3:=(hS 3 (by decide)).trans (show _=some _ from rfl)
    simp(disch:=omega)only[↓RU,RV,RH,↓reduceIte,qE,reduceCtorEq,if_pos,↓RS,RG,qA,qM,qL,ty1,ty4,zab,ty8,ze7,zce,zdt,zaa,ze8,zdu,zb8,za9,zbd,zf1,zia,zny,znz,k2,k3]
   refine zda (.ref 2 2 0) rfl rfl rfl (fun S' hS=>?_) ?_
   ·skip
    have k2:=(hS 2 (by decide)).trans (show _=some _ from rfl)
    have k3:=(hS 3 (by decide)).trans (show _=some _ from rfl)
    simp(disch:=omega)only[↓RU,RV,RH,↓reduceIte,qE,reduceCtorEq,if_pos,↓RS,RG,qA,qM,qL,ty1,ty4,zab,ty8,ze7,zce,zdt,zaa,ze8,zdu,zb8,za9,zbd,zf1,zia,zny,znz,k2,k3]
   refine zda (.ref 2 2 1) rfl rfl rfl (fun S' hS=>?_) ?_
   ·skip
    have k2:=(hS 2 (by decide)).trans (show _=some _ from rfl)
    have k3:=(hS 3 (by decide)).trans (show _=some _ from rfl)
    simp(disch:=omega)only[↓RU,RV,RH,↓reduceIte,qE,reduceCtorEq,if_pos,↓RS,RG,qA,qM,qL,ty1,ty4,zab,ty8,ze7,zce,zdt,zaa,ze8,zdu,zb8,za9,zbd,zf1,zia,zny,znz,k2,k3]
   refine zda (.loc 8 vq 0 rs.length) rfl rfl rfl (fun S' hS=>?_) ?_
   ·skip
    have k2:=(hS 2 (by decide)).trans (show _=some _ from rfl)
    have k3:=(hS 3 (by decide)).trans (show _=some _ from rfl)
    simp(disch:=omega)only[↓RU,RV,RH,↓reduceIte,qE,reduceCtorEq,if_pos,↓RS,RG,qA,qM,qL,ty1,ty4,zab,ty8,ze7,zce,zdt,zaa,ze8,zdu,zb8,za9,zbd,zf1,zia,zny,znz,k2,k3]
   refine zcw rfl ?_
   simp(disch:=omega)only[↓RU,RV,RH,↓reduceIte,qE,reduceCtorEq,if_pos,↓RS,RG,qA,qM,qL,ty1,ty4,zab,ty8,ze7,zce,zdt,zaa,ze8,zdu,zb8,za9,zbd,zbi,zb0]
   refine zcw rfl ?_
   simp(disch:=omega)only[↓RU,RV,RH,↓reduceIte,qE,reduceCtorEq,if_pos,↓RS,RG,qA,qM,qL,ty1,ty4,zab,ty8,ze7,zce,zdt,zaa,ze8,zdu,zb8,za9,zbd,zbi,zb0]
   refine zcw rfl ?_
   simp(disch:=omega)only[↓RU,RV,RH,↓reduceIte,qE,reduceCtorEq,if_pos,↓RS,RG,qA,qM,qL,ty1,ty4,zab,ty8,ze7,zce,zdt,zaa,ze8,zdu,zb8,za9,zbd,zbi,zb0]
   refine zcw rfl ?_
   simp(disch:=omega)only[↓RU,RV,RH,↓reduceIte,qE,reduceCtorEq,if_pos,↓RS,RG,qA,qM,qL,ty1,ty4,zab,ty8,ze7,zce,zdt,zaa,ze8,zdu,zb8,za9,zbd,zbi,zb0]
   refine zcw rfl ?_
   simp(disch:=omega)only[↓RU,RV,RH,↓reduceIte,qE,reduceCtorEq,if_pos,↓RS,RG,qA,qM,qL,ty1,ty4,zab,ty8,ze7,zce,zdt,zaa,ze8,zdu,zb8,za9,zbd,zbi,zb0]
   refine zl0 ?_
   simp(disch:=omega)only[↓RU,RV,RH,↓reduceIte,qE,reduceCtorEq,if_pos,↓RS,RG,qA,qM,qL,ty1,ty4,zab,ty8,ze7,zce,zdt,zaa,ze8,zdu,zb8,za9,zbd]
   apply hK;clear hK K
   refine xn ?_
   refine ⟨9,[],[.int .i64 (r:Nat),.int .i64 (c:Nat),.ref 5 5 0,.ref 0 0 0,.ref 3 3 0,.int .i64 ((ks.idxOf z:Nat):Int)],⟨[.arr 0 75 1 [zd5 g],.arr 1 3 1 [.int .i64 w],.arr 2 78 2 [.nils,.loc 8 (t+1) 0 ((zi4 ks rs z (zgt r c))).length],.arr 3 50 1 [.ref 2 2 0],.map 4 (mE (zid ks z)),.arr 5 151 1 [.mp 4 4],.arr xv 34 1 (gcs d (.loc 7 yv 0 w) m),.arr yv 3 1 (y.map (.int .i64)),.arr (t+1) 92 4 (rcs (zi4 ks rs z (zgt r c)))],(t+3)⟩,?_,?_,(t+1),(t+3),rfl,rfl⟩
   ·rw [hin]; simp [-qU,Env.put,Env.of,zaf,zcg,zam,zar,za1,za5,zco,zcp,zee,zcn,zbt,zcq,zed,zef,zbv,zbu,za6,zcm,zcr,zec,zbr,zbq,za4,zbs,zcl,zgf,qS,qP,qC]
   rw [hki,hri]; simp [-qU,Env.put,Env.of,zaf,zcg,zam,zar,za1,za5,zco,zcp,zee,zcn,zbt,zcq,zed,zef,zbv,zbu,za6,zcm,zcr,zec,zbr,zbq,za4,zbs,zcl,zgf,qS,qP,qC,z0d,zt2,zjm,zyh,ydi,zvj,z8m,zdw,ydn]
  try simp only[RL]at h
  exact absurd h (by simp)
 rintro vs S - ⟨vq,t,rfl,rfl⟩
 have hrs2:=z0g hb
 generalize hks1:zid ks z=ks1 at hi1 hst
 generalize hrs1:zi4 ks rs z (zgt r c)=rs1 at hb hi1 hi2 hrs2
 have hbl:=za2 hb
 refine W.seq_draw (by kernel_rfl) fun K hK=>?_
 have hcell:=(zdw (r:=r) (c:=c)).symm
 have hba:PV.agg b.cells=zus b:=rfl
 simp(disch:=omega)only[↓RU,RV,RH,↓reduceIte,qE,reduceCtorEq,if_pos,qN,↓RS,RG,qA,qM,qL,ty1,ty4,zab,ty8,ze7,zce,zdt,zaa,ze8,zdu,zmr hb,zb8,← zdw,hcell,za9,zbd,zj9]
 refine zad.pc (zzd (b:=b) (o:=zgt r c) hbf.in_ (zfn hr hc).in_) rfl (.inl rfl) ?_
 simp(disch:=omega)only[↓RU,RV,RH,↓reduceIte,qE,reduceCtorEq,if_pos,qN,↓RS,RG,qA,qM,qL,ty1,ty4,zab,ty8,ze7,zce,zdt,zaa,ze8,zdu,zmr hb,zb8,← zdw,hcell,za9,zbd,zj9]
 apply hK;clear hK K
 refine W.r fun K hK=>?_
 simp(disch:=omega)only[↓RU,RV,RH,↓reduceIte,qE,reduceCtorEq,if_pos,↓RS,RG,qA,qM,qL]
 apply hK;clear hK K
 refine W.ret ?_
 refine Br rfl ?_
 refine ⟨9,rfl,vq,t,?_⟩
 rw [hrs2]
 simp [zav]
section
def prS (g:List (List Int)) (w:Nat) (rv:PV) (ks:List Int):List Ob:=[.arr 0 75 1 [zd5 g],.arr 1 3 1 [.int .i64 w],.arr 2 78 2 [.nils,rv],.arr 3 50 1 [.ref 2 2 0],.map 4 (mE ks),.arr 5 151 1 [.mp 4 4]]
def seS (g:List (List Int)) (w:Nat) (xv yv:Nat) (x y:List PV) (ks:List Int) (rs:List Rect) (vq t:Nat):Store :=
 match rs with
 | []=>⟨prS g w .nils ks++[.arr xv 34 1 x,.arr yv 3 1 y],t⟩
 | rs=>⟨prS g w (.loc 8 vq 0 rs.length) ks++[.arr xv 34 1 x,.arr yv 3 1 y,.arr vq 92 4 (rcs rs)],t⟩
theorem z9b {g:List (List Int)} {w xv yv:Nat} {x y:List PV} {ks:List Int} {vq t:Nat}:seS g w xv yv x y ks [] vq t=⟨prS g w .nils ks++[.arr xv 34 1 x,.arr yv 3 1 y],t⟩:=rfl
theorem z28 {g:List (List Int)} {w xv yv:Nat} {x y:List PV} {ks:List Int} {rs:List Rect} {vq t:Nat} (h:rs≠[]):seS g w xv yv x y ks rs vq t=⟨prS g w (.loc 8 vq 0 rs.length) ks++[.arr xv 34 1 x,.arr yv 3 1 y,.arr vq 92 4 (rcs rs)],t⟩:=by
 cases rs with
 | nil=>exact absurd rfl h
 | cons a l=>rfl
section
variable {g:List (List Int)} {w xv yv:Nat} {x y y2:List PV} {ks:List Int} {rs:List Rect} {vq t:Nat}
theorem zep:(seS g w xv yv x y ks rs vq t).obs[6]?=some (.arr xv 34 1 x):=by cases rs <;> rfl
theorem zfa:(seS g w xv yv x y ks rs vq t).obs[7]?=some (.arr yv 3 1 y):=by cases rs <;> rfl
theorem zg9:(seS g w xv yv x y ks rs vq t).set 7 (.arr yv 3 1 y2)=seS g w xv yv x y2 ks rs vq t:=by cases rs <;> rfl
end
theorem ydo {S:Store} {k f:Nat} {sel:List Nat} {n:Nat} {q:IntKind} {z:Int}:(List.replicate n (PV.int q z)).mapM (rn S k sel (f+1))=some (List.replicate n (PV.int q z)) :=
 zbc fun x hx=>by obtain rfl:=List.eq_of_mem_replicate hx; rfl
theorem yby {S:Store} {k f:Nat} {sel:List Nat} {n:Nat}:(List.replicate n PV.nils).mapM (rn S k sel (f+1))=some (List.replicate n PV.nils) :=
 zbc fun x hx=>by obtain rfl:=List.eq_of_mem_replicate hx; rfl
theorem yfn {S:Store} {k f:Nat} {sel:List Nat} {d:List (List Int)} {cur:PV} {m:Nat}:(gcs d cur m).mapM (rn S k sel (f+1))=(rn S k sel (f+1) cur).map fun c=>gcs d c m:=by
 unfold gcs
 rw [qP,zbc (l:=d.map eInts) (fun x hx=>by obtain ⟨a,_,rfl⟩:=List.mem_map.1 hx; rfl),qC,zbc (l:=List.replicate m PV.nils) (fun x hx=>by obtain rfl:=List.eq_of_mem_replicate hx; rfl)]
 cases rn S k sel (f+1) cur <;> rfl
theorem ybv {S:Store} {fr:Nat→Bool} {f:Nat} {q:IntKind} (l:List Int):(l.map (PV.int q)).mapM (rfq S fr (f+1))=some (l.map (PV.int q)) :=
 zbc fun x hx=>by obtain ⟨a,_,rfl⟩:=List.mem_map.1 hx; rfl
def seO (g:List (List Int)) (w:Nat) (xv:Nat) (x:List PV) (ks:List Int) (rs:List Rect) (vq t:Nat):Store :=
 match rs with
 | []=>⟨prS g w .nils ks++[.arr xv 34 1 x],t⟩
 | rs=>⟨prS g w (.loc 7 vq 0 rs.length) ks++[.arr xv 34 1 x,.arr vq 92 4 (rcs rs)],t⟩
theorem z89 {g:List (List Int)} {w xv:Nat} {x:List PV} {ks:List Int} {vq t:Nat}:seO g w xv x ks [] vq t=⟨prS g w .nils ks++[.arr xv 34 1 x],t⟩:=rfl
theorem z88 {g:List (List Int)} {w xv:Nat} {x:List PV} {ks:List Int} {rs:List Rect} {vq t:Nat} (h:rs≠[]):seO g w xv x ks rs vq t=⟨prS g w (.loc 7 vq 0 rs.length) ks++[.arr xv 34 1 x,.arr vq 92 4 (rcs rs)],t⟩:=by
 cases rs with
 | nil=>exact absurd rfl h
 | cons a l=>rfl
def zdp (g:List (List Int)) (i:Nat) (s:List Int × List Rect):Nat→List Int × List Rect
 | 0=>s
 | j+1=>(zid (zdp g i s j).1 (gz g i j),zpw (zdp g i s j).1 (zdp g i s j).2 (gz g i j) (zgt i j))
def zaj (g:List (List Int)) (nw:Nat):Nat→List Int × List Rect
 | 0=>([],[])
 | i+1=>zdp g i (zaj g nw i) nw
def zoc (g:List (List Int)) (i:Nat) (s:List Int × List Rect):Nat→List Int
 | 0=>[]
 | j+1=>zoc g i s j++[(((zdp g i s j).1.idxOf (gz g i j):Nat):Int)]
def ze9 (g:List (List Int)) (nw:Nat):Nat→List (List Int)
 | 0=>[]
 | i+1=>ze9 g nw i++[zoc g i (zaj g nw i) nw]
theorem zft {g:List (List Int)} {i:Nat} {s:List Int × List Rect}:∀ j,(zoc g i s j).length=j
 | 0=>rfl
 | j+1=>by simp [zoc,zft j]
theorem ycn {g:List (List Int)} {i nw j:Nat} {s:List Int × List Rect} (h:j<nw):zoc g i s (j+1)++List.replicate (nw - (j+1)) 0=(zoc g i s j++List.replicate (nw - j) 0).set j (((zdp g i s j).1.idxOf (gz g i j):Nat):Int):=by
 obtain ⟨m,hm⟩:∃ m,nw - j=m+1:=⟨nw - j - 1,by omega⟩
 rw [hm,show nw - (j+1)=m by omega,List.set_append_right _ _ (by rw [zft]; exact qR _),zft,Nat.sub_self]
 simp [zoc,List.replicate_succ]
theorem zc3 {g:List (List Int)} {nw:Nat}:∀ i,(ze9 g nw i).length=i
 | 0=>rfl
 | i+1=>by simp [ze9,zc3 i]
theorem z27 {ks:List Int} {z:Int}:(zid ks z).length≤ks.length+1∧ks.length≤(zid ks z).length∧1≤(zid ks z).length:=by
 have h:=zgp (ks:=ks) (z:=z)
 unfold zid
 split
 ·simp
 refine ⟨by omega,by omega,?_⟩
 have:ks.idxOf z≠ks.length:=by assumption
 omega
theorem zm3 {g:List (List Int)} {i:Nat} (hi:i<6) {s:List Int × List Rect} (h:zsi s.1 s.2):∀ j,j≤6→zsi (zdp g i s j).1 (zdp g i s j).2∧(zdp g i s j).1.length≤s.1.length+j∧s.1.length≤(zdp g i s j).1.length∧(1≤j→1≤(zdp g i s j).1.length)
 | 0,_=>⟨h,by simp [zdp],by simp [zdp],by omega⟩
 | j+1,hj=>by
  obtain ⟨h1,h2,h3,h4⟩:=zm3 hi h j (by omega)
  have:=z27 (ks:=(zdp g i s j).1) (z:=gz g i j)
  exact ⟨h1.step (zfn hi (by omega)),by simp only[zdp]; omega,by simp only[zdp]; omega,fun _=>by simp only[zdp]; omega⟩
theorem zg8 {g:List (List Int)} {nw:Nat} (hw:nw≤6) (hw1:1≤nw):∀ i,i≤6→zsi (zaj g nw i).1 (zaj g nw i).2∧(zaj g nw i).1.length≤6*i∧(1≤i→1≤(zaj g nw i).1.length)
 | 0,_=>⟨zsi.nil,by simp [zaj],by omega⟩
 | i+1,hi=>by
  obtain ⟨h1,h2,h3⟩:=zg8 hw hw1 i (by omega)
  obtain ⟨k1,k2,k3,k4⟩:=zm3 (g:=g) (i:=i) (by omega) h1 nw hw
  exact ⟨k1,by simp only[zaj]; omega,fun _=>by simp only[zaj]; exact k4 hw1⟩
theorem zsi.ne {ks:List Int} {rs:List Rect} (h:zsi ks rs) (h1:1≤ks.length):rs≠[]:=by
 rintro rfl
 have:=h.1
 simp at this; omega
theorem zsi.nl {ks:List Int} (h:zsi ks []):ks=[]:=List.eq_nil_of_length_eq_zero h.1.symm
theorem zfb {d:List (List Int)} {cur:PV} {m i:Nat} (h:d.length=i):(gcs d cur m)[i]?=some cur:=by subst h; simp [gcs]
theorem zfc {d:List (List Int)} {cur:PV} {m:Nat}:(gcs d cur m).length=d.length+1+m:=by simp [gcs]; omega
def gc0 (d:List (List Int)) (m:Nat):List PV:=d.map eInts++List.replicate m .nils
theorem zzr {d:List (List Int)} {m:Nat}:(gc0 d m).length=d.length+m:=by simp [gc0]
theorem zzs {d:List (List Int)} {m i:Nat} {c:PV} (h:d.length=i) (hm:1≤m):(gc0 d m).take i++[c]++(gc0 d m).drop (i+1)=gcs d c (m - 1):=by
 subst h
 obtain ⟨m,rfl⟩:∃ n,m=n+1:=⟨m - 1,by omega⟩
 simp only[gc0,gcs,Nat.add_sub_cancel]
 rw [show d.length=(d.map eInts).length by simp,List.take_left,List.drop_length_add_append]
 simp [List.replicate_succ]
theorem z6y {d:List (List Int)} {r:List Int} {m:Nat}:gcs d (eInts r) m=gc0 (d++[r]) m:=by simp [gcs,gc0]
theorem z6x {d:List (List Int)}:gc0 d 0=d.map eInts:=by simp [gc0]
theorem zuy {m:Nat}:gc0 [] m=List.replicate m .nils:=rfl
end
theorem z0i {g d:List (List Int)} {y:List Int} {row ks:List Int} {rs:List Rect} {z:Int} {r c w m xv yv vq t:Nat} (hr:r<6) (hc:c<6) (hrow:g[r]?=some row) (hz:row[c]?=some z) (hs:zsi ks rs) (hk:ks.length≤64) :
  Ev Tryz.prog 144 [.int .i64 (r:Nat),.int .i64 (c:Nat),.ref 5 5 0,.ref 0 0 0,.ref 3 3 0] (seS g w xv yv (gcs d (.loc 7 yv 0 w) m) (y.map (.int .i64)) ks rs vq t)
   fun v S=>v = .int .i64 ((ks.idxOf z:Nat):Int)∧∃ vq t:Nat,S=seS g w xv yv (gcs d (.loc 7 yv 0 w) m) (y.map (.int .i64)) (zid ks z) (zpw ks rs z (zgt r c)) vq t:=by
 have hne:zpw ks rs z (zgt r c)≠[]:=(hs.step (z:=z) (zfn hr hc)).ne z27.2.2
 simp only[z28 hne]
 by_cases h0:rs=[]
 ·subst h0
  rw [z9b]
  exact zn6 (vq:=0) hr hc hrow hz hs hk rfl hs.nl
 rw [z28 h0]
 by_cases hin:ks.idxOf z=ks.length
 ·exact zrv hr hc hrow hz hs hk hin
 exact zrw hr hc hrow hz hs hk hin
theorem yak {g:List (List Int)} {nh nw:Nat} (hg:GW g nh nw):Ev Tryz.prog 103 [.int .i64 nh,.int .i64 nw,.fn 144 [.ref 5 5 0,.ref 0 0 0,.ref 3 3 0]] ⟨prS g nw .nils [],6⟩ fun v S=>∃ xv vq t:Nat,v = .loc 6 xv 0 nh∧S=seO g nw xv ((ze9 g nw nh).map eInts) (zaj g nw nh).1 (zaj g nw nh).2 vq t:=by
 have hl:=hg.1
 obtain ⟨hg1,hg2,hg3,hg4⟩:=hg.2.2
 refine Ev.of ⟨Tryz.func103,by kernel_rfl,rfl,by kernel_rfl⟩ zan mixed (by show 3≤Tryz.f103.ntmps; decide) ?_
 refine W.r fun K hK=>?_
 simp(disch:=omega)only[↓RU,RV,RH,↓reduceIte,qE,reduceCtorEq,if_pos,↓RS,RG,qA,qM,qL,prS]
 apply hK;clear hK K
 refine W.r fun K hK=>?_
 simp(disch:=omega)only[↓RU,RV,RH,↓reduceIte,qE,reduceCtorEq,if_pos,↓RS,RG,qA,qM,qL,ty1,zab,zce,zaa,prS,zjl,zeo,zdk]
 apply hK;clear hK K
 refine W.seq ?_
 refine W.r fun K hK=>?_
 simp(disch:=omega)only[↓RU,RV,RH,↓reduceIte,qE,reduceCtorEq,if_pos,↓RS,RG,qA,qM,qL,ty1,zab,zce,zaa,prS]
 apply hK;clear hK K
 refine W.block ?_
 refine W.loopS [1,2,7,13,14] (fun n vs S=>∃ (i xv vq t:Nat),n=nh - i∧i≤nh∧vs=[.int .i64 nw,.fn 144 [.ref 5 5 0,.ref 0 0 0,.ref 3 3 0],.loc 6 xv 0 nh,.int .i64 nh,.int .i64 (i:Nat)]∧S=seO g nw xv (gc0 (ze9 g nw i) (nh - i)) (zaj g nw i).1 (zaj g nw i).2 vq t) nh ?_ ?_
 ·refine ⟨7,[],[.int .i64 nw,.fn 144 [.ref 5 5 0,.ref 0 0 0,.ref 3 3 0],.loc 6 6 0 nh,.int .i64 nh,.int .i64 (0:Nat)],seO g nw 6 (gc0 (ze9 g nw 0) (nh - 0)) (zaj g nw 0).1 (zaj g nw 0).2 0 8,?_,?_,0,6,0,8,rfl,Nat.zero_le _,rfl,rfl⟩
  ·simp [-qU,Env.put,Env.of,zaf,zcg,zam,zar,za1,za5,zco,zcp,zee,zcn,zbt,zcq,zed,zef,zbv,zbu,za6,zcm,zcr,zec,zbr,zbq,za4,zbs,zcl,zgf,qS,qP,qC]
  simp [-qU,Env.put,Env.of,zaf,zcg,zam,zar,za1,za5,zco,zcp,zee,zcn,zbt,zcq,zed,zef,zbv,zbu,za6,zcm,zcr,zec,zbr,zbq,za4,zbs,zcl,zgf,qS,qP,qC,prS,z89,zaj,ze9,zuy,yby,z0d]
 rintro n vs S - ⟨i,xv,vq,t,rfl,h_i,rfl,rfl⟩
 refine W.r fun K hK=>?_
 simp(disch:=omega)only[↓RU,RV,RH,↓reduceIte,qE,reduceCtorEq,if_pos,w64,↓RS,RG,qA,qM,qL,zaa,prS]
 apply hK;clear hK K
 refine W.seq ?_
 refine W.cond rfl (fun h=>?_) (fun h=>?_)
 ·try simp only[RL]at h
  have hzl:=zc3 (g:=g) (nw:=nw) i
  have hiw:i<nh:=by omega
  obtain ⟨hso,hsl,hsp⟩:=zg8 (g:=g) hg4 hg3 i (by omega)
  refine W.skip ?_
  refine xn ?_
  refine W.seq ?_
  refine W.block ?_
  refine W.r fun K hK=>?_
  simp(disch:=omega)only[↓RU,RV,RH,↓reduceIte,qE,reduceCtorEq,if_pos,↓RS,RG,qA,qM,qL,prS]
  apply hK;clear hK K
  refine W.joinS [1,2,7,8,13,14] (fun vs S=>∃ (yv vq t:Nat),vs=[.int .i64 nw,.fn 144 [.ref 5 5 0,.ref 0 0 0,.ref 3 3 0],.loc 6 xv 0 nh,.int .i64 (i:Nat),.int .i64 nh,.int .i64 (i:Nat)]∧S=seS g nw xv yv (gcs (ze9 g nw i) (.loc 7 yv 0 nw) (nh - i - 1)) ((List.replicate nw 0).map (.int .i64)) (zaj g nw i).1 (zaj g nw i).2 vq t) ?_ ?_
  ·
   refine W.k fun K hK=>?_
   by_cases hi0:zaj g nw i=([],[])
   ·skip
    rw [hi0,z89]
    simp(disch:=omega)only[↓RU,RV,RH,↓reduceIte,qE,reduceCtorEq,if_pos,↓RS,RG,qA,qM,qL,ty1,zab,zce,zaa,prS,zeo,zdk,zzr,zc3,zzs]
    apply hK;clear hK K
    refine xn ?_
    refine ⟨8,[],[.int .i64 nw,.fn 144 [.ref 5 5 0,.ref 0 0 0,.ref 3 3 0],.loc 6 xv 0 nh,.int .i64 (i:Nat),.int .i64 nh,.int .i64 (i:Nat)],seS g nw xv t (gcs (ze9 g nw i) (.loc 7 t 0 nw) (nh - i - 1)) ((List.replicate nw 0).map (.int .i64)) (zaj g nw i).1 (zaj g nw i).2 vq (t+2),?_,?_,t,vq,t+2,rfl,rfl⟩
    ·simp [-qU,Env.put,Env.of,zaf,zcg,zam,zar,za1,za5,zco,zcp,zee,zcn,zbt,zcq,zed,zef,zbv,zbu,za6,zcm,zcr,zec,zbr,zbq,za4,zbs,zcl,zgf,qS,qP,qC]
    rw [hi0,z9b]; simp [-qU,Env.put,Env.of,zaf,zcg,zam,zar,za1,za5,zco,zcp,zee,zcn,zbt,zcq,zed,zef,zbv,zbu,za6,zcm,zcr,zec,zbr,zbq,za4,zbs,zcl,zgf,qS,qP,qC,prS,z0d,zt2,zjm,zyh,ydo,show List.idxOf 7 [8,7]=1 from rfl]
   skip
   have hne:(zaj g nw i).2≠[]:=fun e=>hi0 (by have:=hso; rw [e]at this; rw [← Prod.eta (zaj g nw i),e,this.nl])
   rw [z88 hne]
   simp(disch:=omega)only[↓RU,RV,RH,↓reduceIte,qE,reduceCtorEq,if_pos,↓RS,RG,qA,qM,qL,ty1,zab,zce,zaa,prS,zeo,zdk,zzr,zc3,zzs]
   apply hK;clear hK K
   refine xn ?_
   refine ⟨7,[8,7],[.int .i64 nw,.fn 144 [.ref 5 5 0,.ref 0 0 0,.ref 3 3 0],.loc 6 xv 0 nh,.int .i64 (i:Nat),.int .i64 nh,.int .i64 (i:Nat)],seS g nw xv (t+1) (gcs (ze9 g nw i) (.loc 7 (t+1) 0 nw) (nh - i - 1)) ((List.replicate nw 0).map (.int .i64)) (zaj g nw i).1 (zaj g nw i).2 (t+1) (t+2),?_,?_,t+1,t+1,t+2,rfl,rfl⟩
   ·simp [-qU,Env.put,Env.of,zaf,zcg,zam,zar,za1,za5,zco,zcp,zee,zcn,zbt,zcq,zed,zef,zbv,zbu,za6,zcm,zcr,zec,zbr,zbq,za4,zbs,zcl,zgf,qS,qP,qC]
   rw [z28 hne]; simp [-qU,Env.put,Env.of,zaf,zcg,zam,zar,za1,za5,zco,zcp,zee,zcn,zbt,zcq,zed,zef,zbv,zbu,za6,zcm,zcr,zec,zbr,zbq,za4,zbs,zcl,zgf,qS,qP,qC,prS,z0d,zt2,zjm,zyh,ydo,show List.idxOf 7 [8,7]=1 from rfl]
  rintro vs S - ⟨yv,vq,t,rfl,rfl⟩
  refine W.r fun K hK=>?_
  simp(disch:=omega)only[↓RU,RV,RH,↓reduceIte,qE,reduceCtorEq,if_pos,↓RS,RG,qA,qM,qL,ty1,zab,zce,zaa,prS,zep,zfa,zfb,zfc,hzl]
  apply hK;clear hK K
  refine W.block ?_
  refine W.loop [1,2,7,8,13,14,26,27] (fun n vs S=>∃ (j vq t:Nat),n=nw - j∧j≤nw∧vs=[.int .i64 nw,.fn 144 [.ref 5 5 0,.ref 0 0 0,.ref 3 3 0],.loc 6 xv 0 nh,.int .i64 (i:Nat),.int .i64 nh,.int .i64 (i:Nat),.int .i64 nw,.int .i64 (j:Nat)]∧S=seS g nw xv yv (gcs (ze9 g nw i) (.loc 7 yv 0 nw) (nh - i - 1)) ((zoc g i (zaj g nw i) j++List.replicate (nw - j) 0).map (.int .i64)) (zdp g i (zaj g nw i) j).1 (zdp g i (zaj g nw i) j).2 vq t) nw ?_ ?_
  ·refine ⟨_,0,vq,t,rfl,Nat.zero_le _,?_,zai⟩
   simp [Env.put,Env.of]
  rintro n vs S - ⟨j,vq,t,rfl,h_j,rfl,rfl⟩
  refine W.r fun K hK=>?_
  simp(disch:=omega)only[↓RU,RV,RH,↓reduceIte,qE,reduceCtorEq,if_pos,w64,↓RS,RG,qA,qM,qL,zaa,prS]
  apply hK;clear hK K
  refine W.seq ?_
  refine W.cond rfl (fun h1=>?_) (fun h1=>?_)
  ·try simp only[RL]at h1
   have hjw:j<nw:=by omega
   obtain ⟨row,hrow,hrl,hz⟩:=hg.at_ hiw hjw
   obtain ⟨hro,hrl2,-,-⟩:=zm3 (g:=g) (i:=i) (by omega) hso j (by omega)
   have hYl:(zoc g i (zaj g nw i) j++List.replicate (nw - j) 0).length=nw:=by simp only[List.length_append,List.length_replicate,zft]; omega
   generalize hY:zoc g i (zaj g nw i) j++List.replicate (nw - j) 0=Y at hYl
   refine W.skip ?_
   refine xn ?_
   refine W.seq ?_
   refine W.block ?_
   refine W.r fun K hK=>?_
   simp(disch:=omega)only[↓RU,RV,RH,↓reduceIte,qE,reduceCtorEq,if_pos,↓RS,RG,qA,qM,qL,prS]
   apply hK;clear hK K
   refine W.region_pk 9 [some 32,some 33] [6] (by decide) (by kernel_rfl) fun K hK=>?_
   simp only[List.take_succ_cons,List.take_zero,List.drop_succ_cons,List.drop_zero]
   refine zcw rfl ?_
   simp(disch:=omega)only[↓RU,RV,RH,↓reduceIte,qE,reduceCtorEq,if_pos,qN,↓RS,RG,qA,qM,qL,ty1,zab,zce,zaa,prS,zep,zfa,zfb,zfc,hzl,zg9,zbp,zc8,hYl,zbi,zb0]
   refine zcw rfl ?_
   simp(disch:=omega)only[↓RU,RV,RH,↓reduceIte,qE,reduceCtorEq,if_pos,qN,↓RS,RG,qA,qM,qL,ty1,zab,zce,zaa,prS,zep,zfa,zfb,zfc,hzl,zg9,zbp,zc8,hYl,zbi,zb0]
   refine zda (.ref 6 xv i) rfl rfl rfl (fun S' hS=>?_) ?_
   ·skip
    have k6:=(hS 6 (by decide)).trans zep
    simp(disch:=omega)only[↓RU,RV,RH,↓reduceIte,qE,reduceCtorEq,if_pos,qN,↓RS,RG,qA,qM,qL,ty1,zab,zce,zaa,prS,zep,zfa,zfb,zfc,hzl,zg9,zbp,zc8,hYl,zf1,zia,zny,znz,k6]
   refine zda (.loc 7 yv 0 nw) rfl rfl rfl (fun S' hS=>?_) ?_
   ·skip
    have k6:=(hS 6 (by decide)).trans zep
    simp(disch:=omega)only[↓RU,RV,RH,↓reduceIte,qE,reduceCtorEq,if_pos,qN,↓RS,RG,qA,qM,qL,ty1,zab,zce,zaa,prS,zep,zfa,zfb,zfc,hzl,zg9,zbp,zc8,hYl,zf1,zia,zny,znz,k6]
   refine zcw rfl ?_
   simp(disch:=omega)only[↓RU,RV,RH,↓reduceIte,qE,reduceCtorEq,if_pos,qN,↓RS,RG,qA,qM,qL,ty1,zab,zce,zaa,prS,zep,zfa,zfb,zfc,hzl,zg9,zbp,zc8,hYl,zbi,zb0]
   refine zcw rfl ?_
   simp(disch:=omega)only[↓RU,RV,RH,↓reduceIte,qE,reduceCtorEq,if_pos,qN,↓RS,RG,qA,qM,qL,ty1,zab,zce,zaa,prS,zep,zfa,zfb,zfc,hzl,zg9,zbp,zc8,hYl,zbi,zb0]
   refine zcw rfl ?_
   simp(disch:=omega)only[↓RU,RV,RH,↓reduceIte,qE,reduceCtorEq,if_pos,qN,↓RS,RG,qA,qM,qL,ty1,zab,zce,zaa,prS,zep,zfa,zfb,zfc,hzl,zg9,zbp,zc8,hYl,zbi,zb0]
   refine zcw rfl ?_
   simp(disch:=omega)only[↓RU,RV,RH,↓reduceIte,qE,reduceCtorEq,if_pos,qN,↓RS,RG,qA,qM,qL,ty1,zab,zce,zaa,prS,zep,zfa,zfb,zfc,hzl,zg9,zbp,zc8,hYl,zbi,zb0]
   refine zcw rfl ?_
   simp(disch:=omega)only[↓RU,RV,RH,↓reduceIte,qE,reduceCtorEq,if_pos,qN,↓RS,RG,qA,qM,qL,ty1,zab,zce,zaa,prS,zep,zfa,zfb,zfc,hzl,zg9,zbp,zc8,hYl,zbi,zb0]
   refine zad.ev (z0i (y:=Y) (by omega) (by omega) hrow hz hro (by omega)) ?_
   rintro _ _ ⟨rfl,vq2,t2,rfl⟩
   simp(disch:=omega)only[↓RU,RV,RH,↓reduceIte,qE,reduceCtorEq,if_pos,qN,↓RS,RG,qA,qM,qL,ty1,zab,zce,zaa,prS,zep,zfa,zfb,zfc,hzl,zg9,zbp,zc8,hYl,zbi,zb0]
   refine zl0 ?_
   simp(disch:=omega)only[↓RU,RV,RH,↓reduceIte,qE,reduceCtorEq,if_pos,qN,↓RS,RG,qA,qM,qL,ty1,zab,zce,zaa,prS,zep,zfa,zfb,zfc,hzl,zg9,zbp,zc8,hYl]
   apply hK;clear hK K
   refine XbN ?_
   refine xn ?_
   refine W.k fun K hK=>?_
   simp(disch:=omega)only[↓RU,RV,RH,↓reduceIte,qE,reduceCtorEq,if_pos,w64,↓RS,RG,qA,qM,qL,zaa,prS]
   apply hK;clear hK K
   refine xn ?_
   refine ⟨nw - (j+1),by omega,_,j+1,vq2,t2,rfl,by omega,?_,zal ?_⟩
   rotate_left
   ·rw [show zoc g i (zaj g nw i) (j+1)++List.replicate (nw - (j+1)) 0=(zoc g i (zaj g nw i) j++List.replicate (nw - j) 0).set j (((zdp g i (zaj g nw i) j).1.idxOf (gz g i j):Nat):Int) from ycn hjw,hY]; rfl
   simp [Env.put,Env.of]
  try simp only[RL]at h1
  obtain rfl:nw=j:=by omega
  obtain ⟨hro,hrl2,-,hro4⟩:=zm3 (g:=g) (i:=i) (by omega) hso nw hg4
  have hne:=hro.ne (hro4 hg3)
  have hY:zoc g i (zaj g nw i) nw++List.replicate (nw - nw) 0=zoc g i (zaj g nw i) nw:=by rw [Nat.sub_self]; exact qN _
  have hYl:=zft (g:=g) (i:=i) (s:=zaj g nw i) nw
  rw [hY,z28 hne]
  generalize hYe:zoc g i (zaj g nw i) nw=Y at hYl
  have hYt:(Y.map (PV.int .i64)).take nw=Y.map (PV.int .i64):=qT (by rw [List.length_map]; omega)
  have hYE:eInts Y=PV.sl (Y.map (PV.int .i64)) nw:=by rw [← hYl]
  have hsr:zdp g i (zaj g nw i) nw=zaj g nw (i+1):=rfl
  rw [hsr]at hne ⊢
  have hzs:ze9 g nw (i+1)=ze9 g nw i++[Y]:=by rw [← hYe]; rfl
  refine W.exit ?_
  refine xe ?_
  refine xe ?_
  refine XBlock.hit ?_
  refine XbN ?_
  refine xn ?_
  refine W.k fun K hK=>?_
  simp(disch:=omega)only[↓RU,RV,RH,↓reduceIte,qE,reduceCtorEq,if_pos,w64,↓RS,RG,qA,qM,qL,zaa,prS]
  apply hK;clear hK K
  refine xn ?_
  refine ⟨nh - (i+1),by omega,7,[8],[.int .i64 nw,.fn 144 [.ref 5 5 0,.ref 0 0 0,.ref 3 3 0],.loc 6 xv 0 nh,.int .i64 nh,.int .i64 ((i+1:Nat):Int)],seO g nw xv (gc0 (ze9 g nw (i+1)) (nh - (i+1))) (zaj g nw (i+1)).1 (zaj g nw (i+1)).2 t (t+1),?_,?_,i+1,xv,t+0,t+1,rfl,by omega,rfl,rfl⟩
  ·simp [-qU,Env.put,Env.of,zaf,zcg,zam,zar,za1,za5,zco,zcp,zee,zcn,zbt,zcq,zed,zef,zbv,zbu,za6,zcm,zcr,zec,zbr,zbq,za4,zbs,zcl,zgf,qS,qP,qC]
  rw [z88 hne,hzs,← z6y]; simp [-qU,Env.put,Env.of,zaf,zcg,zam,zar,za1,za5,zco,zcp,zee,zcn,zbt,zcq,zed,zef,zbv,zbu,za6,zcm,zcr,zec,zbr,zbq,za4,zbs,zcl,zgf,qS,qP,qC,prS,z0d,zt2,zjm,yfn,hYl,hYt,hYE,ybv,show nh - i - 1=nh - (i+1) by omega,show List.idxOf 8 [8]=0 from rfl]
 try simp only[RL]at h
 obtain rfl:nh=i:=by omega
 refine W.exit ?_
 refine xe ?_
 refine xe ?_
 refine XBlock.hit ?_
 refine xn ?_
 refine W.r fun K hK=>?_
 simp(disch:=omega)only[↓RU,RV,RH,↓reduceIte,qE,reduceCtorEq,if_pos,↓RS,RG,qA,qM,qL,prS]
 apply hK;clear hK K
 refine W.ret ?_
 refine Br rfl ?_
 rw [Nat.sub_self,z6x]
 exact ⟨_,xv,vq,t,rfl,zai⟩
def w0 (g:List (List Int)):Nat:=(g[0]?.getD []).length
def okG (g:List (List Int)):Bool:=decide (1≤g.length) && decide (g.length≤6) && decide (1≤w0 g) && decide (w0 g≤6) && !(g.any fun r=>decide ((r.length:Int)≠(w0 g:Nat)))
def stG (g:List (List Int)):List Int × List Rect:=zaj g (w0 g) g.length
def zG (g:List (List Int)):List (List Int):=ze9 g (w0 g) g.length
def z5e (rs:List Rect):Int:=rs.foldl (fun s b=>s+b.high*b.wide) 0
def okS (g:List (List Int)):Bool:=okG g && decide ((stG g).2.length≤9)
def zhq (g:List (List Int)):Bool:=decide (z5e (stG g).2=((g.length*w0 g:Nat):Int))
def ze3 (g:List (List Int)):PV:=if okS g then .tup [zbj (zG g) (stG g).2,.bool (zhq g)] else .tup [.nilp,.bool false]
theorem ycf {g:List (List Int)} {row:List Int} (h:g[0]?=some row):w0 g=row.length:=by simp [w0,h]
theorem znu {g:List (List Int)}:okG g=true↔GW g g.length (w0 g):=by
 unfold okG GW
 simp only[qB,decide_eq_true_eq,Bool.not_eq_true',List.any_eq_false,decide_eq_true_eq,ne_eq,Decidable.not_not]
 constructor
 ·rintro ⟨⟨⟨⟨h1,h2⟩,h3⟩,h4⟩,h5⟩
  exact ⟨trivial,fun r hr=>by have:=h5 r hr; omega,h1,h2,h3,h4⟩
 rintro ⟨_,h5,h1,h2,h3,h4⟩
 exact ⟨⟨⟨⟨h1,h2⟩,h3⟩,h4⟩,fun r hr=>by have:=h5 r hr; omega⟩
theorem zr2 {rs:List Rect} {k:Nat} {b:Rect} (h:rs[k]?=some b):z5e (rs.take (k+1))=z5e (rs.take k)+b.high*b.wide:=by
 unfold z5e; rw [ze1 h]
theorem Rect.Fit.area {b:Rect} (h:b.Fit):1≤b.high*b.wide∧b.high*b.wide≤36:=by
 unfold Rect.Fit at h
 obtain ⟨h1,h2,h3,h4,h5,h6⟩:=h
 obtain ⟨m,hm⟩:∃ m:Nat,b.high=m:=⟨b.high.toNat,by omega⟩
 obtain ⟨n,hn⟩:∃ n:Nat,b.wide=n:=⟨b.wide.toNat,by omega⟩
 rw [hm,hn]
 have h7:=Nat.mul_le_mul (show m≤6 by omega) (show n≤6 by omega)
 have h8:=Nat.mul_le_mul (show 1≤m by omega) (show 1≤n by omega)
 have:((m*n:Nat):Int)=(m:Int)*n:=by simp
 omega
theorem zt9 {rs:List Rect} (h:∀ b∈rs,b.Fit):∀ k,0≤z5e (rs.take k)∧z5e (rs.take k)≤36*k
 | 0=>by simp [z5e]
 | k+1=>by
  have ih:=zt9 h k
  by_cases hk:k<rs.length
  ·obtain ⟨b,hb,hm⟩:=zae hk
   rw [zr2 hb]
   have:=(h b hm).area
   omega
  rw [qT (by omega)]at ih ⊢
  omega
theorem zke {g:List (List Int)} {nw:Nat}:∀ {i k:Nat},k<i→(ze9 g nw i)[k]?=some (zoc g k (zaj g nw k) nw)
 | 0,k,h=>by omega
 | i+1,k,h=>by
  unfold ze9
  by_cases e:k=i
  ·subst e; rw [List.getElem?_append_right (by rw [zc3]; exact qR _),zc3]; simp
  rw [List.getElem?_append_left (by rw [zc3]; omega)]; exact zke (by omega)
theorem yh6 {g:List (List Int)} {nh nw:Nat} (hg:GW g nh nw):GW (ze9 g nw nh) nh nw:=by
 refine ⟨zc3 _,fun r hr=>?_,hg.2.2⟩
 obtain ⟨k,hk⟩:=List.getElem?_of_mem hr
 have hkl:=za2 hk
 rw [zc3]at hkl
 rw [zke hkl]at hk
 cases hk
 exact zft _
theorem zlg {S:Store} {xv vq nh f:Nat} {Z:List (List Int)} {rs:List Rect} (h2:S.obs[2]?=some (.arr 2 78 2 [.loc 6 xv 0 nh,.loc 7 vq 0 rs.length])) (h6:S.obs[6]?=some (.arr xv 34 1 (Z.map eInts))) (hZ:Z.length=nh)
  (h7:S.obs[7]?=some (.arr vq 92 4 (rcs rs))):reify S true (f+4) (.ref 2 2 0)=some (zbj Z rs):=by
 have e1:reify S true (f+3) (.loc 6 xv 0 nh)=some (zd5 Z):=by
  rw [← hZ]
  exact zbw (k:=f+2) h6 (by simp) (zj3 _)
 have e2:reify S true (f+3) (.loc 7 vq 0 rs.length)=some (ycz rs):=zbw (k:=f+2) h7 (zb8 _) (zn1 (z25 _))
 have hc:S.cellsOf 2 2=some [.loc 6 xv 0 nh,.loc 7 vq 0 rs.length]:=by simp [Store.cellsOf,h2]
 have e0:reify S true (f+4) (.ref 2 2 0)=(S.cellsOf 2 2).bind fun cells=>(cells.mapM (reify S true (f+3))).map (.ip · 0):=rfl
 rw [e0,hc,Option.bind_some,qC,e1,qC,e2]
 rfl
theorem zt5 {g:List (List Int)} (hsm:g.length<2147483648) (hsr:∀ r∈g,r.length<2147483648):PC Tryz.prog 108 [zd5 g] (ze3 g) false:=by
 refine PC.of ⟨Tryz.func108,by kernel_rfl,rfl,by kernel_rfl⟩ zan mixed (by show 1≤Tryz.f108.ntmps; decide) ?_
 refine W.r fun K hK=>?_
 simp(disch:=omega)only[↓RU,RV,RH,↓reduceIte,qE,reduceCtorEq,if_pos,↓RS,RG,qA,qM,qL,ty1,zab,zce,zaa]
 apply hK;clear hK K
 refine W.seq ?_
 refine W.r fun K hK=>?_
 have hcase:g.length<1∨6<g.length∨∃ row:List Int,g[0]?=some row∧row∈g∧(1≤g.length∧g.length≤6)∧(row.length<1∨6<row.length∨(1≤row.length∧row.length≤6)):=by
  by_cases h1:g.length<1
  ·exact .inl h1
  obtain ⟨row,h2,h3⟩:=zae (show 0<g.length by omega)
  by_cases h4:6<g.length
  ·exact .inr (.inl h4)
  exact .inr (.inr ⟨row,h2,h3,by omega,by omega⟩)
 rcases hcase with hb | hb | ⟨row,hrow,hrm,hgl,hb | hb | hb⟩
 ·skip
  have hd:decide ((g.length:Int)<1)=true:=decide_eq_true (by omega)
  simp(disch:=omega)only[↓RU,RV,RH,↓reduceIte,qE,reduceCtorEq,if_pos,w64,↓RS,RG,qA,qM,qL,ty1,zab,zce,zaa,hd]
  apply hK;clear hK K
  refine W.cond rfl (fun h=>?_) (fun h=>?_)
  ·try simp only[RL]at h
   refine W.r fun K hK=>?_
   simp(disch:=omega)only[↓RU,RV,RH,↓reduceIte,qE,reduceCtorEq,if_pos,↓RS,RG,qA,qM,qL]
   apply hK;clear hK K
   refine W.ret ?_
   refine XThen.ret ?_
   refine Br rfl ?_
   have hok:okS g=false:=by simp [okS,okG]; omega
   rw [ze3,hok]
   rfl
  try simp only[RL]at h
  exact absurd h (by simp)
 ·skip
  have hd:decide ((g.length:Int)<1)=false:=decide_eq_false (by omega)
  have hd2:decide ((g.length:Int)>6)=true:=decide_eq_true (by omega)
  simp(disch:=omega)only[↓RU,RV,RH,↓reduceIte,qE,reduceCtorEq,if_pos,w64,↓RS,RG,qA,qM,qL,ty1,zab,zce,zaa,hd,hd2]
  apply hK;clear hK K
  refine W.cond rfl (fun h=>?_) (fun h=>?_)
  ·try simp only[RL]at h
   refine W.r fun K hK=>?_
   simp(disch:=omega)only[↓RU,RV,RH,↓reduceIte,qE,reduceCtorEq,if_pos,↓RS,RG,qA,qM,qL]
   apply hK;clear hK K
   refine W.ret ?_
   refine XThen.ret ?_
   refine Br rfl ?_
   have hok:okS g=false:=by simp [okS,okG]; omega
   rw [ze3,hok]
   rfl
  try simp only[RL]at h
  exact absurd h (by simp)
 ·skip
  have hrl:=hsr row hrm
  have hw0:=ycf hrow
  have hd:decide ((g.length:Int)<1)=false:=decide_eq_false (by omega)
  have hd2:decide ((g.length:Int)>6)=false:=decide_eq_false (by omega)
  have hd3:decide ((row.length:Int)<1)=true:=decide_eq_true (by omega)
  simp(disch:=omega)only[↓RU,RV,RH,↓reduceIte,qE,reduceCtorEq,if_pos,w64,↓RS,RG,qA,qM,qL,ty1,zab,zce,zaa,hd,hd2,hd3,hrow,Int.toNat_zero,Nat.zero_mul,qZ]
  apply hK;clear hK K
  refine W.cond rfl (fun h=>?_) (fun h=>?_)
  ·try simp only[RL]at h
   refine W.r fun K hK=>?_
   simp(disch:=omega)only[↓RU,RV,RH,↓reduceIte,qE,reduceCtorEq,if_pos,↓RS,RG,qA,qM,qL]
   apply hK;clear hK K
   refine W.ret ?_
   refine XThen.ret ?_
   refine Br rfl ?_
   have hok:okS g=false:=by simp [okS,okG]; omega
   rw [ze3,hok]
   rfl
  try simp only[RL]at h
  exact absurd h (by simp)
 ·skip
  have hrl:=hsr row hrm
  have hw0:=ycf hrow
  have hd:decide ((g.length:Int)<1)=false:=decide_eq_false (by omega)
  have hd2:decide ((g.length:Int)>6)=false:=decide_eq_false (by omega)
  have hd3:decide ((row.length:Int)<1)=false:=decide_eq_false (by omega)
  have hd4:decide ((row.length:Int)>6)=true:=decide_eq_true (by omega)
  simp(disch:=omega)only[↓RU,RV,RH,↓reduceIte,qE,reduceCtorEq,if_pos,w64,↓RS,RG,qA,qM,qL,ty1,zab,zce,zaa,hd,hd2,hd3,hd4,hrow,Int.toNat_zero,Nat.zero_mul,qZ]
  apply hK;clear hK K
  refine W.cond rfl (fun h=>?_) (fun h=>?_)
  ·try simp only[RL]at h
   refine W.r fun K hK=>?_
   simp(disch:=omega)only[↓RU,RV,RH,↓reduceIte,qE,reduceCtorEq,if_pos,↓RS,RG,qA,qM,qL]
   apply hK;clear hK K
   refine W.ret ?_
   refine XThen.ret ?_
   refine Br rfl ?_
   have hok:okS g=false:=by simp [okS,okG]; omega
   rw [ze3,hok]
   rfl
  try simp only[RL]at h
  exact absurd h (by simp)
 skip
 have hrl:=hsr row hrm
 have hw0:=ycf hrow
 have hd:decide ((g.length:Int)<1)=false:=decide_eq_false (by omega)
 have hd2:decide ((g.length:Int)>6)=false:=decide_eq_false (by omega)
 have hd3:decide ((row.length:Int)<1)=false:=decide_eq_false (by omega)
 have hd4:decide ((row.length:Int)>6)=false:=decide_eq_false (by omega)
 simp(disch:=omega)only[↓RU,RV,RH,↓reduceIte,qE,reduceCtorEq,if_pos,w64,↓RS,RG,qA,qM,qL,ty1,zab,zce,zaa,hd,hd2,hd3,hd4,hrow,Int.toNat_zero,Nat.zero_mul,qZ]
 apply hK;clear hK K
 refine W.cond rfl (fun h=>?_) (fun h=>?_)
 ·try simp only[RL]at h
  exact absurd h (by simp)
 try simp only[RL]at h
 refine W.skip ?_
 refine xn ?_
 refine W.r fun K hK=>?_
 simp(disch:=omega)only[↓RU,RV,RH,↓reduceIte,qE,reduceCtorEq,if_pos,↓RS,RG,qA,qM,qL,ty1,zab,zce,zaa,hrow,Int.toNat_zero,Nat.zero_mul,qZ]
 apply hK;clear hK K
 refine W.seq ?_
 refine W.r fun K hK=>?_
 simp(disch:=omega)only[↓RU,RV,RH,↓reduceIte,qE,reduceCtorEq,if_pos,qN,↓RS,RG,qA,qM,qL,ty1,zab,zce,zaa,hrow]
 refine zad.pc (zr9 (l:=g) hsm (g:=143) (cap:=[.ip [.int .i64 row.length] 0]) rfl rfl (test:=fun r=>decide ((r.length:Int)≠(row.length:Nat))) (fun r hr=>z0h r _ (hsr r hr))) rfl (.inl rfl) ?_
 simp(disch:=omega)only[↓RU,RV,RH,↓reduceIte,qE,reduceCtorEq,if_pos,qN,↓RS,RG,qA,qM,qL,ty1,zab,zce,zaa,hrow]
 apply hK;clear hK K
 refine W.cond rfl (fun h1=>?_) (fun h1=>?_)
 ·try simp only[RL]at h1
  refine W.r fun K hK=>?_
  simp(disch:=omega)only[↓RU,RV,RH,↓reduceIte,qE,reduceCtorEq,if_pos,↓RS,RG,qA,qM,qL]
  apply hK;clear hK K
  refine W.ret ?_
  refine XThen.ret ?_
  refine Br rfl ?_
  have hok:okS g=false:=by unfold okS okG; rw [hw0,h1]; simp
  rw [ze3,hok]
  rfl
 try simp only[RL]at h1
 have hg:GW g g.length row.length:=by have:=znu (g:=g); rw [hw0]at this; refine this.1 ?_; unfold okG; rw [hw0,h1]; simp; omega
 obtain ⟨hso,hsl,hs1⟩:=zg8 (g:=g) (nw:=row.length) (by omega) (by omega) g.length (by omega)
 have hne:=hso.ne (hs1 (by omega))
 refine W.skip ?_
 refine xn ?_
 refine W.r fun K hK=>?_
 simp(disch:=omega)only[↓RU,RV,RH,↓reduceIte,qE,reduceCtorEq,if_pos,↓RS,RG,qA,qM,qL,ty1,ty4,zab,ty8,ze7,zce,zdt,zaa,ze8,zdu]
 apply hK;clear hK K
 refine W.r fun K hK=>?_
 simp(disch:=omega)only[↓RU,RV,RH,↓reduceIte,qE,reduceCtorEq,if_pos,↓RS,RG,qA,qM,qL,zaa,ydy]
 apply hK;clear hK K
 refine W.seq_pk 6 [some 42] [3] (by decide) (by kernel_rfl) fun K hK=>?_
 simp only[List.take_succ_cons,List.take_zero,List.drop_succ_cons,List.drop_zero]
 refine zda (.ref 2 2 0) rfl rfl rfl (fun S' hS=>?_) ?_
 ·skip
  have k3:=(hS 3 (by decide)).trans (show _=some _ from rfl)
  simp(disch:=omega)only[↓RU,RV,RH,↓reduceIte,qE,reduceCtorEq,if_pos,qN,↓RS,RG,qA,qM,qL,ty1,ty4,zab,ty8,ze7,zce,zdt,zaa,ze8,zdu,zf1,zia,zny,znz,k3]
 refine zcw rfl ?_
 simp(disch:=omega)only[↓RU,RV,RH,↓reduceIte,qE,reduceCtorEq,if_pos,qN,↓RS,RG,qA,qM,qL,ty1,ty4,zab,ty8,ze7,zce,zdt,zaa,ze8,zdu,zbi,zb0]
 refine zcw rfl ?_
 simp(disch:=omega)only[↓RU,RV,RH,↓reduceIte,qE,reduceCtorEq,if_pos,qN,↓RS,RG,qA,qM,qL,ty1,ty4,zab,ty8,ze7,zce,zdt,zaa,ze8,zdu,zbi,zb0]
 refine zcw rfl ?_
 simp(disch:=omega)only[↓RU,RV,RH,↓reduceIte,qE,reduceCtorEq,if_pos,qN,↓RS,RG,qA,qM,qL,ty1,ty4,zab,ty8,ze7,zce,zdt,zaa,ze8,zdu,zbi,zb0]
 refine zcw rfl ?_
 simp(disch:=omega)only[↓RU,RV,RH,↓reduceIte,qE,reduceCtorEq,if_pos,qN,↓RS,RG,qA,qM,qL,ty1,ty4,zab,ty8,ze7,zce,zdt,zaa,ze8,zdu,zbi,zb0]
 refine zcw rfl ?_
 simp(disch:=omega)only[↓RU,RV,RH,↓reduceIte,qE,reduceCtorEq,if_pos,qN,↓RS,RG,qA,qM,qL,ty1,ty4,zab,ty8,ze7,zce,zdt,zaa,ze8,zdu,zbi,zb0]
 refine zad.ev (yak hg) ?_
 rintro _ _ ⟨xv,vq,t,rfl,rfl⟩
 rw [z88 hne]
 simp only[prS]
 simp(disch:=omega)only[↓RU,RV,RH,↓reduceIte,qE,reduceCtorEq,if_pos,qN,↓RS,RG,qA,qM,qL,ty1,ty4,zab,ty8,ze7,zce,zdt,zaa,ze8,zdu,zbi,zb0]
 refine zl0 ?_
 simp(disch:=omega)only[↓RU,RV,RH,↓reduceIte,qE,reduceCtorEq,if_pos,qN,↓RS,RG,qA,qM,qL,ty1,ty4,zab,ty8,ze7,zce,zdt,zaa,ze8,zdu]
 apply hK;clear hK K
 refine W.seq ?_
 refine W.r fun K hK=>?_
 simp(disch:=omega)only[↓RU,RV,RH,↓reduceIte,qE,reduceCtorEq,if_pos,w64,↓RS,RG,qA,qM,qL,ty1,ty4,zab,ty8,ze7,zce,zdt,zaa,ze8,zdu]
 apply hK;clear hK K
 refine W.cond rfl (fun h2=>?_) (fun h2=>?_)
 ·try simp only[RL]at h2
  refine W.r fun K hK=>?_
  simp(disch:=omega)only[↓RU,RV,RH,↓reduceIte,qE,reduceCtorEq,if_pos,↓RS,RG,qA,qM,qL]
  apply hK;clear hK K
  refine W.ret ?_
  refine XThen.ret ?_
  refine Br rfl ?_
  have hok:okS g=false:=by unfold okS stG; rw [hw0]; simp only[Bool.and_eq_false_iff]; right; exact decide_eq_false (by omega)
  rw [ze3,hok]
  rfl
 try simp only[RL]at h2
 refine W.skip ?_
 refine xn ?_
 refine W.r fun K hK=>?_
 simp(disch:=omega)only[↓RU,RV,RH,↓reduceIte,qE,reduceCtorEq,if_pos,↓RS,RG,qA,qM,qL]
 apply hK;clear hK K
 refine W.seq ?_
 refine W.r fun K hK=>?_
 simp(disch:=omega)only[↓RU,RV,RH,↓reduceIte,qE,reduceCtorEq,if_pos,↓RS,RG,qA,qM,qL,ty1,ty4,zab,ty8,ze7,zce,zdt,zaa,ze8,zdu]
 apply hK;clear hK K
 refine W.block ?_
 refine W.loop [5,7,59,60,61] (fun n vs S=>∃ k t:Nat,n=(zaj g row.length g.length).2.length - k∧k≤(zaj g row.length g.length).2.length∧vs=[.ref 3 3 0,.int .i64 (z5e ((zaj g row.length g.length).2.take k)),.loc 7 vq 0 (zaj g row.length g.length).2.length,.int .i64 (zaj g row.length g.length).2.length,.int .i64 (k:Nat)]∧S=⟨[.arr 0 75 1 [zd5 g],.arr 1 3 1 [.int .i64 row.length],.arr 2 78 2 [.loc 6 xv 0 g.length,.loc 7 vq 0 (zaj g row.length g.length).2.length],.arr 3 50 1 [.ref 2 2 0],.map 4 (mE (zaj g row.length g.length).1),.arr 5 151 1 [.mp 4 4],.arr xv 34 1 ((ze9 g row.length g.length).map eInts),.arr vq 92 4 (rcs (zaj g row.length g.length).2)],t⟩) (zaj g row.length g.length).2.length ?_ ?_
 ·refine ⟨8,0,t,rfl,Nat.zero_le _,?_,?_⟩
  ·simp [Env.put,Env.of,zaf,z5e]
  simp [zav]
 rintro n vs S - ⟨k,t,rfl,h_k,rfl,rfl⟩
 refine W.r fun K hK=>?_
 simp(disch:=omega)only[↓RU,RV,RH,↓reduceIte,qE,reduceCtorEq,if_pos,w64,↓RS,RG,qA,qM,qL,zaa]
 apply hK;clear hK K
 refine W.seq ?_
 refine W.cond rfl (fun h3=>?_) (fun h3=>?_)
 ·try simp only[RL]at h3
  obtain ⟨b,hb2,hbm⟩:=zae (show k<(zaj g row.length g.length).2.length by omega)
  have hbf:=hso.2 b hbm
  have hba:=hbf.area
  have hsb:=zt9 hso.2 k
  refine W.skip ?_
  refine xn ?_
  refine W.seq ?_
  refine W.block ?_
  refine W.r fun K hK=>?_
  simp(disch:=omega)only[↓RU,RV,RH,↓reduceIte,qE,reduceCtorEq,if_pos,↓RS,RG,qA,qM,qL,ty4,zdt,zaa,zdu,zmr hb2,zb8,za9,zbd]
  apply hK;clear hK K
  refine W.k fun K hK=>?_
  simp(disch:=omega)only[↓RU,RV,RH,↓reduceIte,qE,reduceCtorEq,if_pos,qN,w64,↓RS,RG,qA,qM,qL,zdt,zaa,zdu,zmr hb2,za9,zb8]
  refine zad.pc (yd9 (r:=b) (by omega) (by omega)) rfl (.inl rfl) ?_
  simp(disch:=omega)only[↓RU,RV,RH,↓reduceIte,qE,reduceCtorEq,if_pos,qN,w64,↓RS,RG,qA,qM,qL,zdt,zaa,zdu,zmr hb2,za9,zb8]
  apply hK;clear hK K
  refine XbN ?_
  refine xn ?_
  refine W.k fun K hK=>?_
  simp(disch:=omega)only[↓RU,RV,RH,↓reduceIte,qE,reduceCtorEq,if_pos,w64,↓RS,RG,qA,qM,qL,zaa]
  apply hK;clear hK K
  refine xn ?_
  refine ⟨(zaj g row.length g.length).2.length - (k+1),by omega,8,k+1,_,rfl,by omega,?_,rfl⟩
  simp [Env.put,Env.of,zr2 hb2]
 try simp only[RL]at h3
 obtain rfl:k=(zaj g row.length g.length).2.length:=by omega
 rw [List.take_length]
 refine W.exit ?_
 refine xe ?_
 refine xe ?_
 refine XBlock.hit ?_
 refine xn ?_
 refine W.seq_draw (by kernel_rfl) fun K hK=>?_
 obtain ⟨zr,hzr,hzl,-⟩:=(yh6 hg).at_ (i:=0) (j:=0) (by omega) (by omega)
 have hZl:=zc3 (g:=g) (nw:=row.length) g.length
 have hpr:=Nat.mul_le_mul hgl.2 hb.2
 simp(disch:=omega)only[↓RU,RV,RH,↓reduceIte,qE,reduceCtorEq,if_pos,qN,w64,↓RS,RG,qA,qM,qL,ty8,zaa,hZl,hzl]
 refine zad.pc (zhr (ze9 g row.length g.length) (zaj g row.length g.length).2) (zcd (zlg (f:=6) rfl rfl (zc3 _) rfl) rfl) (.inl rfl) ?_
 simp(disch:=omega)only[↓RU,RV,RH,↓reduceIte,qE,reduceCtorEq,if_pos,qN,w64,↓RS,RG,qA,qM,qL,ty8,zaa,hZl,hzl]
 refine zad.pc (zju (g:=(ze9 g row.length g.length)) hzr (zaj g row.length g.length).2) (zcd (zlg (f:=6) rfl rfl (zc3 _) rfl) rfl) (.inl rfl) ?_
 simp(disch:=omega)only[↓RU,RV,RH,↓reduceIte,qE,reduceCtorEq,if_pos,qN,w64,↓RS,RG,qA,qM,qL,ty8,zaa,hZl,hzl]
 apply hK;clear hK K
 refine W.ret ?_
 refine Br rfl ?_
 have hok:okS g=true:=by unfold okS stG; rw [hw0,znu.2 (by rw [hw0]; exact hg)]; simp; omega
 rw [ze3,hok,if_pos rfl]
 unfold stG zG zhq stG
 rw [hw0]
 refine zic (k:=9) (zlg (f:=5) rfl rfl (zc3 _) rfl) ?_
 have he:(z5e (zaj g row.length g.length).2 == (g.length:Int)*row.length)=decide (z5e (zaj g row.length g.length).2=((g.length*row.length:Nat):Int)):=by rw [Int.natCast_mul]; rfl
 rw [← he]
 rfl
def zr7 (t:Txt):List Int:=t.map fun c=>(c.toNat:Int)
def za7 (p:List Txt):List (List Int):=p.map zr7
def zhh (p:List Txt):Bool:=p.all fun r=>r.all zc6
def zvk (p:List Txt):PV:=if zhh p then ze3 (za7 p) else .tup [.nilp,.bool false]
def okB (p:List Txt):Bool:=zhh p && okS (za7 p)
def gP (p:List Txt):List (List Int):=zG (za7 p)
def rP (p:List Txt):List Rect:=(stG (za7 p)).2
theorem zkc (t:Txt):(zr7 t).length=t.length:=by simp [zr7]
theorem z80 {t:Txt} {k:Nat} {c:UInt8} (h:t[k]?=some c):zr7 (t.take (k+1))=zr7 (t.take k)++[(c.toNat:Int)]:=by simp [zr7,tk h]
theorem z4o {p:List Txt} {i:Nat} {t:Txt} (h:p[i]?=some t):za7 (p.take (i+1))=za7 (p.take i)++[zr7 t]:=by simp [za7,tk h]
theorem zdn (p:List Txt):(za7 p).length=p.length:=by simp [za7]
theorem zqw {p:List Txt} {r:Txt} {c:UInt8} (hr:r∈p) (hc:c∈r) (h:zc6 c=false):zhh p=false:=by
 unfold zhh
 rw [List.all_eq_false]
 refine ⟨r,hr,?_⟩
 rw [Bool.not_eq_true,List.all_eq_false]
 exact ⟨c,hc,by rw [h]; exact Bool.false_ne_true⟩
theorem zuh {g:List (List Int)} {i:Nat} (hi:i<6) {s:List Int × List Rect} (hs:zsi s.1 s.2) {n:Nat} (hn:n≤6):∀ j,j≤n→∀ z∈zoc g i s j,0≤z∧z≤s.1.length+n
 | 0,_,z,h=>by simp [zoc]at h
 | j+1,hj,z,h=>by
  simp only[zoc,List.mem_append,List.mem_singleton]at h
  rcases h with h | rfl
  ·exact zuh hi hs hn j (by omega) z h
  have h1:=zgp (ks:=(zdp g i s j).1) (z:=gz g i j)
  obtain ⟨-,h2,-,-⟩:=zm3 (g:=g) hi hs j (by omega)
  omega
theorem ziu {g:List (List Int)} {nw:Nat} (hw:nw≤6) (hw1:1≤nw):∀ i,i≤6→∀ r∈ze9 g nw i,∀ z∈r,0≤z∧z≤100
 | 0,_,r,h=>by simp [ze9]at h
 | i+1,hi,r,h=>by
  simp only[ze9,List.mem_append,List.mem_singleton]at h
  rcases h with h | rfl
  ·exact ziu hw hw1 i (by omega) r h
  intro z hz
  obtain ⟨h1,h2,-⟩:=zg8 (g:=g) hw hw1 i (by omega)
  have:=zuh (g:=g) (i:=i) (by omega) h1 hw nw (qR _) z hz
  omega
theorem z70 {g:List (List Int)} (h:okS g=true):GW g g.length (w0 g):=by
 unfold okS at h
 rw [qB]at h
 exact znu.1 h.1
theorem yi4 {g:List (List Int)} (h:okS g=true):GW (zG g) g.length (w0 g):=yh6 (z70 h)
theorem ycm {g:List (List Int)} (h:okS g=true):∀ r∈zG g,∀ z∈r,0≤z∧z≤100:=by
 obtain ⟨-,-,h1,h2,h3,h4⟩:=z70 h
 exact ziu h4 h3 _ h2
theorem zlm {g:List (List Int)} (h:okS g=false):ze3 g = .tup [.nilp,.bool false]:=by rw [ze3,h]; rfl
theorem zjr {g:List (List Int)} (h:okS g=true):ze3 g = .tup [zbj (zG g) (stG g).2,.bool (zhq g)]:=by rw [ze3,h]; rfl
theorem z4x {S:Store} {lo k:Nat} (l:List (List Int)):(l.map eInts).mapM (rfz S lo (k+1))=some (l.map eInts):=zrk (fun _=>rfl) l
theorem ybs {p:List Txt} (h:okB p=false):zvk p = .tup [.nilp,.bool false]:=by
 unfold okB at h
 unfold zvk
 cases hl:zhh p with
 | false=>rfl
 | true=>rw [hl,Bool.true_and]at h; rw [if_pos rfl,zlm h]
theorem z8n {p:List Txt} (h:okB p=true):zvk p = .tup [zbj (gP p) (rP p),.bool (zhq (za7 p))]:=by
 unfold okB at h
 rw [qB]at h
 rw [zvk,if_pos h.1,zjr h.2]
 rfl
theorem zov {p:List Txt} (h:okB p=true):GW (gP p) p.length (w0 (za7 p)):=by
 unfold okB at h
 rw [qB]at h
 have:=yi4 h.2
 rwa [zdn]at this
theorem z7z {p:List Txt} (h:okB p=true):∀ r∈gP p,∀ z∈r,0≤z∧z≤100:=by
 unfold okB at h
 rw [qB]at h
 exact ycm h.2
theorem zyx (g:List (List Int)):(zf3 g).length=g.length:=by simp [zf3]
def zoo (p:List Txt):Bool:=zhq (za7 p) && decide (zf3 (gP p)=p)
def ze5 (p:List Txt):Bool:=okB p && zoo p
def zcz (p:List Txt):Bool:=ze5 p && decide (ztt (gP p) 4 (w0 (za7 p)) p.length=0)
theorem zfm {p:List Txt} (h:okB p=true):(rP p).length≤9:=by
 unfold okB okS at h
 simp only[qB,decide_eq_true_eq]at h
 exact h.2.2
theorem zh7 {p:List Txt} (h:okB p=true):1≤(rP p).length:=by
 unfold okB at h
 rw [qB]at h
 obtain ⟨-,-,h1,h2,h3,h4⟩:=z70 h.2
 obtain ⟨k1,-,k3⟩:=zg8 (g:=za7 p) h4 h3 _ h2
 have:=k1.1
 have:=k3 h1
 unfold rP stG
 omega
theorem z44 {g:List (List Int)} (hsm:g.length<2147483648) (hsr:∀ r∈g,r.length<2147483648) (h:okS g=false):PC Tryz.prog 108 [zd5 g] (.tup [.nilp,.bool false]) false:=by
 rw [← zlm h]; exact zt5 hsm hsr
theorem zln {g:List (List Int)} (hsm:g.length<2147483648) (hsr:∀ r∈g,r.length<2147483648) (h:okS g=true):PC Tryz.prog 108 [zd5 g] (.tup [zbj (zG g) (stG g).2,.bool (zhq g)]) false:=by
 rw [← zjr h]; exact zt5 hsm hsr
theorem z8o {p:List Txt} (hs:Sm p):PC Tryz.prog 116 [zak p] (zvk p) false:=by
 have hp:=hs.rows
 refine PC.of ⟨Tryz.func116,by kernel_rfl,rfl,by kernel_rfl⟩ zan mixed (by show 1≤Tryz.f116.ntmps; decide) ?_
 refine W.r fun K hK=>?_
 simp(disch:=omega)only[↓RU,RV,RH,↓reduceIte,qE,reduceCtorEq,if_pos,↓RS,RG,qA,qM,qL]
 apply hK;clear hK K
 refine W.r fun K hK=>?_
 simp(disch:=omega)only[↓RU,RV,RH,↓reduceIte,qE,reduceCtorEq,if_pos,↓RS,RG,qA,qM,qL,ty1,zab,zce,zaa]
 apply hK;clear hK K
 refine W.joinZ [4] (fun vs S=>∃ tk:Nat,zhh p=true∧vs=[zd5 (za7 p)]∧S=⟨[],tk⟩) ?_ ?_
 ·
  refine W.r fun K hK=>?_
  simp(disch:=omega)only[↓RU,RV,RH,↓reduceIte,qE,reduceCtorEq,if_pos,↓RS,RG,qA,qM,qL,ty6,zac]
  apply hK;clear hK K
  refine W.block ?_
  refine W.loopZ [4,11,12,13] (fun n vs S=>∃ i v0 tk:Nat,n=p.length - i∧i≤p.length∧((p.take i).all (fun r=>r.all zc6)=true)∧vs=[.loc 0 v0 0 i,zak p,.int .i64 p.length,.int .i64 i]∧S=⟨[.arr v0 34 1 ((za7 (p.take i)).map eInts)],tk⟩) (p.length) ?_ ?_
  ·refine ⟨1,[.loc 0 0 0 0,zak p,.int .i64 p.length,.int .i64 0],⟨[.arr 0 34 1 ((za7 (p.take 0)).map eInts)],1⟩,?_,?_,0,0,1,rfl,by omega,rfl,rfl,rfl⟩
   ·rfl
   rfl
  rintro n vs S - ⟨i,v0,tk,rfl,h_i,hall,rfl,rfl⟩
  refine W.r fun K hK=>?_
  simp(disch:=omega)only[↓RU,RV,RH,↓reduceIte,qE,reduceCtorEq,if_pos,w64,↓RS,RG,qA,qM,qL,zaa]
  apply hK;clear hK K
  refine W.seq ?_
  refine W.cond rfl (fun h=>?_) (fun h=>?_)
  ·try simp only[RL]at h
   obtain ⟨row,hrow,hrm⟩:=zae (show i<p.length by omega)
   have hrl:=hs.cols row hrm
   have hgk:(za7 (p.take i)).length=i:=by rw [zdn,List.length_take]; omega
   have hgt:((za7 (p.take i)).map eInts).take i=(za7 (p.take i)).map eInts:=qT (by rw [List.length_map]; omega)
   refine W.skip ?_
   refine xn ?_
   refine W.seq ?_
   refine W.block ?_
   refine W.r fun K hK=>?_
   simp(disch:=omega)only[↓RU,RV,RH,↓reduceIte,qE,reduceCtorEq,if_pos,↓RS,RG,qA,qM,qL,ty6,zac,hrow]
   apply hK;clear hK K
   refine W.r fun K hK=>?_
   simp(disch:=omega)only[↓RU,RV,RH,↓reduceIte,qE,reduceCtorEq,if_pos,↓RS,RG,qA,qM,qL,zab,zaa]
   apply hK;clear hK K
   refine W.seq ?_
   refine W.r fun K hK=>?_
   simp(disch:=omega)only[↓RU,RV,RH,↓reduceIte,qE,reduceCtorEq,if_pos,w64,↓RS,RG,qA,qM,qL,ty7,zac,zd3]
   apply hK;clear hK K
   refine W.block ?_
   refine W.loop [4,11,12,13,7,19,20,21] (fun n vs S=>∃ k v1 t:Nat,n=row.length - k∧k≤row.length∧((row.take k).all zc6=true)∧vs=[.loc 0 v0 0 i,zak p,.int .i64 p.length,.int .i64 i,.loc 1 v1 0 k,.sl (row.map eB) row.length,.int .i64 row.length,.int .i64 k]∧S=⟨[.arr v0 34 1 ((za7 (p.take i)).map eInts),.arr v1 3 1 ((zr7 (row.take k)).map (.int .i64))],t⟩) (row.length) ?_ ?_
   ·refine ⟨2,0,_,_,rfl,Nat.zero_le _,rfl,?_,rfl⟩
    simp [Env.put,Env.of]
   rintro n vs S - ⟨k,v1,t,rfl,h_k,hrk,rfl,rfl⟩
   refine W.r fun K hK=>?_
   simp(disch:=omega)only[↓RU,RV,RH,↓reduceIte,qE,reduceCtorEq,if_pos,w64,↓RS,RG,qA,qM,qL,zaa]
   apply hK;clear hK K
   refine W.seq ?_
   refine W.cond rfl (fun h1=>?_) (fun h1=>?_)
   ·try simp only[RL]at h1
    obtain ⟨c,hc,hcm⟩:=zae (show k<row.length by omega)
    have hcb:=c.toNat_lt
    have hrowk:(zr7 (row.take k)).length=k:=by rw [zkc,List.length_take]; omega
    have hrowt:((zr7 (row.take k)).map (PV.int .i64)).take k=(zr7 (row.take k)).map (PV.int .i64):=qT (by rw [List.length_map]; omega)
    refine W.skip ?_
    refine xn ?_
    refine W.seq ?_
    refine W.block ?_
    refine W.r fun K hK=>?_
    simp(disch:=omega)only[↓RU,RV,RH,↓reduceIte,qE,reduceCtorEq,if_pos,↓RS,RG,qA,qM,qL,ty7,zd3,hc]
    apply hK;clear hK K
    refine W.seq ?_
    refine W.r fun K hK=>?_
    rcases (show (c.toNat:Int)<97∨(c.toNat:Int)>122∨(97≤c.toNat∧c.toNat≤122) by omega) with hb | hb | hb
    ·skip
     have hd:decide ((c.toNat:Int)<97)=true:=decide_eq_true hb
     have hlc:zc6 c=false:=by unfold zc6; rw [decide_eq_false (by omega)]; rfl
     simp(disch:=omega)only[↓RU,RV,RH,↓reduceIte,qE,reduceCtorEq,if_pos,w64,↓RS,RG,qA,qM,qL,zd3,hd]
     apply hK;clear hK K
     refine W.cond rfl (fun h2=>?_) (fun h2=>?_)
     ·try simp only[RL]at h2
      refine W.r fun K hK=>?_
      simp(disch:=omega)only[↓RU,RV,RH,↓reduceIte,qE,reduceCtorEq,if_pos,↓RS,RG,qA,qM,qL]
      apply hK;clear hK K
      refine W.ret ?_
      refine XThen.ret ?_
      refine XBlock.ret ?_
      refine XThen.ret ?_
      refine XThen.ret ?_
      refine XBlock.ret ?_
      refine XThen.ret ?_
      refine XBlock.ret ?_
      refine XThen.ret ?_
      refine XThen.ret ?_
      refine XBlock.ret ?_
      refine XThen.ret ?_
      refine Br rfl ?_
      rw [zvk,zqw hrm hcm hlc]
      rfl
     try simp only[RL]at h2
     exact absurd h2 (by simp)
    ·skip
     have hd:decide ((c.toNat:Int)<97)=false:=decide_eq_false (by omega)
     have hd2:decide ((c.toNat:Int)>122)=true:=decide_eq_true hb
     have hlc:zc6 c=false:=by unfold zc6; rw [decide_eq_false (p:=c.toNat≤122) (by omega),Bool.and_false]
     simp(disch:=omega)only[↓RU,RV,RH,↓reduceIte,qE,reduceCtorEq,if_pos,w64,↓RS,RG,qA,qM,qL,zd3,hd,hd2]
     apply hK;clear hK K
     refine W.cond rfl (fun h2=>?_) (fun h2=>?_)
     ·try simp only[RL]at h2
      refine W.r fun K hK=>?_
      simp(disch:=omega)only[↓RU,RV,RH,↓reduceIte,qE,reduceCtorEq,if_pos,↓RS,RG,qA,qM,qL]
      apply hK;clear hK K
      refine W.ret ?_
      refine XThen.ret ?_
      refine XBlock.ret ?_
      refine XThen.ret ?_
      refine XThen.ret ?_
      refine XBlock.ret ?_
      refine XThen.ret ?_
      refine XBlock.ret ?_
      refine XThen.ret ?_
      refine XThen.ret ?_
      refine XBlock.ret ?_
      refine XThen.ret ?_
      refine Br rfl ?_
      rw [zvk,zqw hrm hcm hlc]
      rfl
     try simp only[RL]at h2
     exact absurd h2 (by simp)
    skip
    have hd:decide ((c.toNat:Int)<97)=false:=decide_eq_false (by omega)
    have hd2:decide ((c.toNat:Int)>122)=false:=decide_eq_false (by omega)
    have hlc:zc6 c=true:=by unfold zc6; rw [decide_eq_true hb.1,decide_eq_true hb.2]; rfl
    simp(disch:=omega)only[↓RU,RV,RH,↓reduceIte,qE,reduceCtorEq,if_pos,w64,↓RS,RG,qA,qM,qL,zd3,hd,hd2]
    apply hK;clear hK K
    refine W.cond rfl (fun h2=>?_) (fun h2=>?_)
    ·try simp only[RL]at h2
     exact absurd h2 (by simp)
    try simp only[RL]at h2
    refine W.skip ?_
    refine xn ?_
    refine W.k fun K hK=>?_
    simp(disch:=omega)only[↓RU,RV,RH,↓reduceIte,qE,reduceCtorEq,if_pos,w64,↓RS,RG,qA,qM,qL,zab,zaa,zd3,hrowk,hrowt,qR]
    apply hK;clear hK K
    refine XbN ?_
    refine xn ?_
    refine W.k fun K hK=>?_
    simp(disch:=omega)only[↓RU,RV,RH,↓reduceIte,qE,reduceCtorEq,if_pos,w64,↓RS,RG,qA,qM,qL,zaa]
    apply hK;clear hK K
    refine xn ?_
    refine ⟨row.length - (k+1),by omega,2,k+1,t+1,t+2,rfl,by omega,z0z hc hrk hlc,?_,?_⟩
    ·simp [Env.put,Env.of]
    simp [zav,z80 hc]
   try simp only[RL]at h1
   obtain rfl:k=row.length:=by omega
   have hra:row.all zc6=true:=by rw [List.take_length]at hrk; exact hrk
   have hrz:=zkc row
   rw [List.take_length]
   generalize hYe:zr7 row=Y at hrz
   have hYt:(Y.map (PV.int .i64)).take row.length=Y.map (PV.int .i64):=qT (by rw [List.length_map]; omega)
   have hYE:eInts Y=PV.sl (Y.map (PV.int .i64)) row.length:=by rw [← hrz]
   refine W.exit ?_
   refine xe ?_
   refine xe ?_
   refine XBlock.hit ?_
   refine xn ?_
   refine W.k fun K hK=>?_
   simp(disch:=omega)only[↓RU,RV,RH,↓reduceIte,qE,reduceCtorEq,if_pos,↓RS,RG,qA,qM,qL,ty1,zab,zce,zaa,hgk,hgt,qR]
   apply hK;clear hK K
   refine XbN ?_
   refine xn ?_
   refine W.k fun K hK=>?_
   simp(disch:=omega)only[↓RU,RV,RH,↓reduceIte,qE,reduceCtorEq,if_pos,w64,↓RS,RG,qA,qM,qL,zaa]
   apply hK;clear hK K
   refine xn ?_
   refine ⟨p.length - (i+1),by omega,1,[.loc 0 (t+1) 0 (i+1),zak p,.int .i64 p.length,.int .i64 (i+1)],⟨[.arr (t+1) 34 1 ((za7 (p.take (i+1))).map eInts)],(t+2)⟩,?_,?_,(i+1),(t+1),(t+2),rfl,by omega,z0z hrow hall hra,rfl,rfl⟩
   ·simp [-qU,Store.frz,zbz,zci,zap,zbb,zba,zbe,zcb,zax,zau,zay,zao,zaq,zbh,zaz,zbf,zaw,Env.put,Env.of,zaf,zbg,qP,qC]
   simp [-qU,Store.frz,zbz,zci,zap,zbb,zba,zbe,zcb,zax,zau,zay,zao,zaq,zbh,zaz,zbf,zaw,Env.put,Env.of,zaf,zbg,qP,qC,z4o hrow,hYe,hYt,hYE,hrz]
  try simp only[RL]at h
  refine W.exit ?_
  refine xe ?_
  refine xe ?_
  refine XBlock.hit ?_
  refine xn ?_
  obtain rfl:i=p.length:=by omega
  rw [List.take_length]at hall ⊢
  have hgt2:((za7 p).map eInts).take p.length=(za7 p).map eInts:=qT (by simp [za7])
  have hgE:zd5 (za7 p)=PV.sl ((za7 p).map eInts) p.length:=by rw [← zdn p]
  refine ⟨0,[zd5 (za7 p)],⟨[],tk⟩,?_,?_,tk,hall,rfl,rfl⟩
  ·simp [-qU,Store.frz,zbz,zci,zap,zbb,zba,zbe,zcb,zax,zau,zay,zao,zaq,zbh,zaz,zbf,zaw,Env.put,Env.of,zaf,zbg,qP,qC,hgt2,hgE,zdn,z4x]
  simp [-qU,Store.frz,zbz,zci,zap,zbb,zba,zbe,zcb,zax,zau,zay,zao,zaq,zbh,zaz,zbf,zaw,Env.put,Env.of,zaf,zbg,qP,qC]
 rintro vs S - ⟨tk,hlet,rfl,rfl⟩
 refine W.r fun K hK=>?_
 cases hok:okS (za7 p)
 ·skip
  simp(disch:=omega)only[↓RU,RV,RH,↓reduceIte,qE,reduceCtorEq,if_pos,qN,↓RS,RG,qA,qM,qL]
  refine zad.pc (z44 (g:=za7 p) (by rw [zdn]; omega) (fun r hr=>by obtain ⟨t,ht,rfl⟩:=List.mem_map.1 hr; rw [zkc]; exact hs.cols t ht) hok) rfl (.inr rfl) ?_
  simp(disch:=omega)only[↓RU,RV,RH,↓reduceIte,qE,reduceCtorEq,if_pos,qN,↓RS,RG,qA,qM,qL]
  apply hK;clear hK K
  refine W.ret ?_
  refine Br rfl ?_
  rw [zvk,hlet,if_pos rfl,zlm hok]
  rfl
 skip
 simp(disch:=omega)only[↓RU,RV,RH,↓reduceIte,qE,reduceCtorEq,if_pos,qN,↓RS,RG,qA,qM,qL]
 refine zad.pc (zln (g:=za7 p) (by rw [zdn]; omega) (fun r hr=>by obtain ⟨t,ht,rfl⟩:=List.mem_map.1 hr; rw [zkc]; exact hs.cols t ht) hok) rfl (.inr rfl) ?_
 simp(disch:=omega)only[↓RU,RV,RH,↓reduceIte,qE,reduceCtorEq,if_pos,qN,↓RS,RG,qA,qM,qL]
 apply hK;clear hK K
 refine W.ret ?_
 refine Br rfl ?_
 rw [zvk,hlet,if_pos rfl,zjr hok]
 rfl
theorem yfj {p:List Txt} (hs:Sm p) (h:okB p=false):PC Tryz.prog 116 [zak p] (.tup [.nilp,.bool false]) false:=by
 rw [← ybs h]; exact z8o hs
theorem ybt {p:List Txt} (hs:Sm p) (h:okB p=true):PC Tryz.prog 116 [zak p] (.tup [zbj (gP p) (rP p),.bool (zhq (za7 p))]) false:=by
 rw [← z8n h]; exact z8o hs
theorem z3x {p:List Txt} (hs:Sm p) (h:okB p=false):PC Tryz.prog 71 [zak p] (.tup [.nilp,.bool false]) false:=by
 refine PC.of ⟨Tryz.func71,by kernel_rfl,rfl,by kernel_rfl⟩ zan mixed (by show 1≤Tryz.f71.ntmps; decide) ?_
 refine W.r fun K hK=>?_
 simp(disch:=omega)only[↓RU,RV,RH,↓reduceIte,qE,reduceCtorEq,if_pos]
 apply hK;clear hK K
 refine W.r fun K hK=>?_
 simp(disch:=omega)only[↓RU,RV,RH,↓reduceIte,qE,reduceCtorEq,if_pos,qN]
 refine zad.pc (yfj hs h) rfl (.inr rfl) ?_
 simp(disch:=omega)only[↓RU,RV,RH,↓reduceIte,qE,reduceCtorEq,if_pos,qN]
 apply hK;clear hK K
 refine W.r fun K hK=>?_
 simp(disch:=omega)only[↓RU,RV,RH,↓reduceIte,qE,reduceCtorEq,if_pos,qN]
 apply hK;clear hK K
 refine W.ret ?_
 refine Br rfl ?_
 rfl
theorem zzp {p:List Txt} (hs:Sm p) (h:okB p=true):PC Tryz.prog 71 [zak p] (.tup [zbj (gP p) (rP p),.bool (zoo p)]) false:=by
 have hg:=zov h
 have hz:=z7z h
 have hrows:=hs.rows
 refine PC.of ⟨Tryz.func71,by kernel_rfl,rfl,by kernel_rfl⟩ zan mixed (by show 1≤Tryz.f71.ntmps; decide) ?_
 refine W.r fun K hK=>?_
 simp(disch:=omega)only[↓RU,RV,RH,↓reduceIte,qE,reduceCtorEq,if_pos]
 apply hK;clear hK K
 refine W.r fun K hK=>?_
 simp(disch:=omega)only[↓RU,RV,RH,↓reduceIte,qE,reduceCtorEq,if_pos,qN]
 refine zad.pc (ybt hs h) rfl (.inr rfl) ?_
 simp(disch:=omega)only[↓RU,RV,RH,↓reduceIte,qE,reduceCtorEq,if_pos,qN]
 apply hK;clear hK K
 refine W.r fun K hK=>?_
 cases hf:zhq (za7 p)
 ·skip
  simp(disch:=omega)only[↓RU,RV,RH,↓reduceIte,qE,reduceCtorEq,if_pos,qN]
  apply hK;clear hK K
  refine W.ret ?_
  refine Br rfl ?_
  rw [zoo,hf]
  rfl
 skip
 simp(disch:=omega)only[↓RU,RV,RH,↓reduceIte,qE,reduceCtorEq,if_pos,qN,hf]
 refine zad.pc (z9t hg (rP p) hz) rfl (.inl rfl) ?_
 simp(disch:=omega)only[↓RU,RV,RH,↓reduceIte,qE,reduceCtorEq,if_pos,qN,hf]
 refine zad.pc (zw1 (p:=zf3 (gP p)) (q:=p) (by rw [zyx,hg.1]; omega) hs.rows) rfl (.inl rfl) ?_
 simp(disch:=omega)only[↓RU,RV,RH,↓reduceIte,qE,reduceCtorEq,if_pos,qN,hf]
 apply hK;clear hK K
 refine W.ret ?_
 refine Br rfl ?_
 rw [zoo,hf]
 rfl
theorem zs2 {p:List Txt} (hs:Sm p):∃ x,PC Tryz.prog 71 [zak p] (.tup [x,.bool (ze5 p)]) false∧(ze5 p=true→x=zbj (gP p) (rP p))∧∀ (S:Store) (k:Nat),reify S true (k+1) x=some x:=by
 unfold ze5
 cases h:okB p with
 | false=>exact ⟨_,z3x hs h,(fun h=>by cases h),fun _ _=>rfl⟩
 | true=>exact ⟨_,zzp hs h,fun _=>rfl,fun _ _=>rfl⟩
theorem zz7 {p:List Txt} (hs:Sm p) {x:PV} (hx:PC Tryz.prog 71 [zak p] (.tup [x,.bool (ze5 p)]) false) (hy:ze5 p=true→x=zbj (gP p) (rP p)) (hr:∀ (S:Store) (k:Nat),reify S true (k+1) x=some x):PC Tryz.prog 47 [zak p] (.tup [x,.bool (zcz p)]) false:=by
 refine PC.of ⟨Tryz.func47,by kernel_rfl,rfl,by kernel_rfl⟩ zan mixed (by show 1≤Tryz.f47.ntmps; decide) ?_
 refine W.r fun K hK=>?_
 simp(disch:=omega)only[↓RU,RV,RH,↓reduceIte,qE,reduceCtorEq,if_pos]
 apply hK;clear hK K
 refine W.r fun K hK=>?_
 simp(disch:=omega)only[↓RU,RV,RH,↓reduceIte,qE,reduceCtorEq,if_pos,qN]
 refine zad.pc (hx) rfl (.inr rfl) ?_
 simp(disch:=omega)only[↓RU,RV,RH,↓reduceIte,qE,reduceCtorEq,if_pos,qN]
 apply hK;clear hK K
 refine W.r fun K hK=>?_
 cases hf:ze5 p
 ·skip
  simp(disch:=omega)only[↓RU,RV,RH,↓reduceIte,qE,reduceCtorEq,if_pos,qN]
  apply hK;clear hK K
  refine W.ret ?_
  refine Br rfl ?_
  rw [zcz,hf]
  exact zic (k:=9) (hr _ 8) rfl
 skip
 have hxe:=hy hf
 subst hxe
 have hok:okB p=true:=by unfold ze5 at hf; rw [qB]at hf; exact hf.1
 have hg:=zov hok
 simp(disch:=omega)only[↓RU,RV,RH,↓reduceIte,qE,reduceCtorEq,if_pos,qN,hf]
 refine zad.pc (zl5 hg (rP p)) rfl (.inl rfl) ?_
 simp(disch:=omega)only[↓RU,RV,RH,↓reduceIte,qE,reduceCtorEq,if_pos,qN,hf]
 apply hK;clear hK K
 refine W.ret ?_
 refine Br rfl ?_
 rw [zcz,hf]
 rfl
theorem zg2 {p:List Txt} (h:zcz p=true):okB p=true∧zcz p=true:=by
 refine ⟨?_,h⟩
 unfold zcz ze5 at h
 simp only[qB]at h
 exact h.1.1
theorem zj7 {p:List Txt} (hs:Sm p):∃ x,PC Tryz.prog 47 [zak p] (.tup [x,.bool (zcz p)]) false∧(zcz p=true→x=zbj (gP p) (rP p))∧∀ (S:Store) (k:Nat),reify S true (k+1) x=some x:=by
 obtain ⟨x,h1,h2,h3⟩:=zs2 hs
 refine ⟨x,zz7 hs h1 h2 h3,fun h=>h2 ?_,h3⟩
 unfold zcz at h
 rw [qB]at h
 exact h.1
def Same (n:Nat) (M:List (List Bool)) (ms:List Nat):Prop:=Sq n M∧ms.length=n∧∀ a b,a<n→b<n→zc4 M a b=zp8 ms a b
theorem zl7 {n:Nat} {M:List (List Bool)} (h:Sq n M) {a b x y:Nat} {v:Bool} (ha:a<n) (hb:b<n):zc4 (z43 M a b v) x y=if x=a∧y=b then v else zc4 M x y:=by
 obtain ⟨row,hr,hl,-⟩:=h.at_ ha hb
 rw [zha hr]
 unfold zc4
 rw [List.getElem?_set]
 by_cases hx:a=x
 ·subst hx
  rw [if_pos rfl,if_pos (by rw [h.1]; exact ha),Option.getD_some,List.getElem?_set,hr]
  by_cases hy:b=y
  ·subst hy
   rw [if_pos rfl,if_pos (by omega),if_pos ⟨rfl,rfl⟩]; rfl
  rw [if_neg hy,if_neg (fun h=>hy h.2.symm)]; rfl
 rw [if_neg hx,if_neg (fun h=>hx h.1.symm)]
theorem z04 {n:Nat} {M:List (List Bool)} (h:Sq n M) {k a:Nat} (hk:k<n) (ha:a<n):∀ i,i≤n→Sq n ((List.range i).foldl (clB k a) M) ∧
  ∀ x y,x<n→y<n→zc4 ((List.range i).foldl (clB k a) M) x y=if x=a∧y<i then zc4 M a y || (zc4 M a k && zc4 M k y) else zc4 M x y
 | 0,_=>⟨h,fun x y _ _=>by simp⟩
 | i+1,hi=>by
  obtain ⟨h1,h2⟩:=z04 h hk ha i (by omega)
  rw [zck]
  generalize (List.range i).foldl (clB k a) M=X at h1 h2 ⊢
  refine ⟨h1.clB ha,fun x y hx hy=>?_⟩
  unfold clB
  rw [zl7 h1 ha (by omega),h2 a i ha (by omega),h2 a k ha hk,h2 k i hk (by omega),h2 x y hx hy]
  have e1:(if a=a∧k<i then zc4 M a k || (zc4 M a k && zc4 M k k) else zc4 M a k)=zc4 M a k:=by
   split
   ·cases zc4 M a k <;> simp
   rfl
  have e2:(if k=a∧i<i then zc4 M a i || (zc4 M a k && zc4 M k i) else zc4 M k i)=zc4 M k i:=by rw [if_neg (by omega)]
  have e3:(if a=a∧i<i then zc4 M a i || (zc4 M a k && zc4 M k i) else zc4 M a i)=zc4 M a i:=by rw [if_neg (by omega)]
  rw [e1,e2,e3]
  by_cases hxa:x=a
  ·subst hxa
   by_cases hyi:y=i
   ·subst hyi; rw [if_pos ⟨rfl,rfl⟩,if_pos ⟨rfl,by omega⟩]
   rw [if_neg (fun h=>hyi h.2)]
   by_cases hlt:y<i
   ·rw [if_pos ⟨rfl,hlt⟩,if_pos ⟨rfl,by omega⟩]
   rw [if_neg (fun h=>hlt h.2),if_neg (fun h=>hlt (by have:=h.2; omega))]
  rw [if_neg (fun h=>hxa h.1),if_neg (fun h=>hxa h.1),if_neg (fun h=>hxa h.1)]
theorem zwf {ms:List Nat} {a m x y:Nat} (ha:a<ms.length):zp8 (ms.set a m) x y=if x=a then m.testBit y else zp8 ms x y:=by
 unfold zp8
 rw [List.getElem?_set]
 by_cases h:a=x
 ·subst h; rw [if_pos rfl,if_pos ha,if_pos rfl]; rfl
 rw [if_neg h,if_neg (Ne.symm h)]
theorem yac {c a:Nat} {ms:List Nat}:(allA c ms a).length=ms.length:=by unfold allA; split <;> simp
theorem Same.clA {n:Nat} {M:List (List Bool)} {ms:List Nat} (h:Same n M ms) {k a:Nat} (hk:k<n) (ha:a<n):Same n (clA n k M a) (allA k ms a):=by
 obtain ⟨h1,h2,h3⟩:=h
 obtain ⟨k1,k2⟩:=z04 h1 hk ha n (qR _)
 refine ⟨k1,by rw [yac,h2],fun x y hx hy=>?_⟩
 unfold Fw.clA
 rw [k2 x y hx hy]
 obtain ⟨m,hm,-⟩:=zae (show a<ms.length by omega)
 obtain ⟨c,hc,-⟩:=zae (show k<ms.length by omega)
 have hak:zc4 M a k=m.testBit k:=by rw [h3 a k ha hk,zig hm]
 cases hb:m.testBit k with
 | true =>
  rw [z0y hm hc hb,zwf (by omega),hak,hb]
  by_cases hxa:x=a
  ·subst hxa
   rw [if_pos ⟨rfl,hy⟩,if_pos rfl,Nat.testBit_or,h3 x y hx hy,h3 k y hk hy,zig hm,zig hc,Bool.true_and]
  rw [if_neg (fun h=>hxa h.1),if_neg hxa,h3 x y hx hy]
 | false =>
  rw [z5x hm hb,hak,hb]
  by_cases hxa:x=a
  ·subst hxa; rw [if_pos ⟨rfl,hy⟩,Bool.false_and,Bool.or_false,h3 x y hx hy]
  rw [if_neg (fun h=>hxa h.1),h3 x y hx hy]
theorem Same.fold {n:Nat} {f:List (List Bool)→Nat→List (List Bool)} {g:List Nat→Nat→List Nat}:∀ (i:Nat) {M:List (List Bool)} {ms:List Nat},i≤n→(∀ M ms j,j<n→Same n M ms→Same n (f M j) (g ms j))→Same n M ms→Same n ((List.range i).foldl f M) ((List.range i).foldl g ms)
 | 0,_,_,_,_,h=>h
 | i+1,M,ms,hi,hs,h=>by
  rw [zck,zck]
  exact hs _ _ i (by omega) (Same.fold i (by omega) hs h)
theorem Same.close {p:List Txt} {kind:Int} {n:Nat} {M:List (List Bool)} (h:Same n M (just p kind)):Same n (zf8 M) (zwc p kind):=by
 unfold zf8 zwc
 rw [h.1.1,h.2.1]
 exact Same.fold n (qR _) (fun _ _ k hk h=>Same.fold n (qR _) (fun _ _ a ha h=>h.clA hk ha) h) h
section
theorem zpd {α:Type} {f g:α→Bool}:∀ {l:List α},(∀ x∈l,f x=true→g x=true)→(∃ x∈l,g x=true∧f x=false)→l.countP f<l.countP g
 | [],_,h=>by obtain ⟨x,hx,_⟩:=h; simp at hx
 | a::l,h1,h2=>by
  have hle:l.countP f≤l.countP g:=List.countP_mono_left fun x hx=>h1 x (by simp [hx])
  have ha:=h1 a (by simp)
  rw [List.countP_cons,List.countP_cons]
  obtain ⟨x,hx,k1,k2⟩:=h2
  rcases List.mem_cons.1 hx with rfl | hx
  ·rw [k1,k2]; simp; omega
  have:=zpd (l:=l) (fun x hx=>h1 x (by simp [hx])) ⟨x,hx,k1,k2⟩
  cases hf:f a with
  | false=>simp; omega
  | true=>rw [ha hf]; simp; omega
def ahead (n:Nat) (rk:Nat→Nat) (b:Nat):Nat:=(List.range n).countP fun a=>decide (rk a<rk b)
theorem zpb {n:Nat} {rk:Nat→Nat} {a b:Nat} (ha:a<n) (h:rk a<rk b):ahead n rk a<ahead n rk b :=
 zpd (fun x _ hx=>by simp at hx ⊢; omega) ⟨a,by simpa using ha,by simpa using h,by simp⟩
theorem zy8 {n:Nat} {rk:Nat→Nat} {b:Nat} (hb:b<n):ahead n rk b<n:=by
 have:=zpd (l:=List.range n) (f:=fun a=>decide (rk a<rk b)) (g:=fun _=>true) (fun _ _ _=>rfl) ⟨b,by simpa using hb,rfl,by simp⟩
 simpa [ahead] using this
section
variable {M:List (List Bool)} {ms:List Nat} {ws:List Int} {n:Nat} {rk:Nat→Nat}
def beg (M:List (List Bool)) (ws:List Int) (n b:Nat):Int:=hvF M (HB M ws n) b n
def Ge (n:Nat) (o out:List Int):Prop:=∀ b,b<n→zor o b≤zor out b
theorem Ge.refl (o:List Int):Ge n o o:=fun _ _=>Int.le_refl _
theorem Ge.trans {a b c:List Int} (h:Ge n a b) (k:Ge n b c):Ge n a c:=fun x hx=>Int.le_trans (h x hx) (k x hx)
theorem ya0 {l:List Int} {b y:Nat} {v:Int} (hb:b<l.length):zor (l.set b v) y=if y=b then v else zor l y:=by
 unfold zor
 rw [List.getElem?_set]
 by_cases h:b=y
 ·subst h; rw [if_pos rfl,if_pos hb,if_pos rfl]; rfl
 rw [if_neg h,if_neg (Ne.symm h)]
theorem ycp (hu:Up M n rk) {b:Nat} (hb:b<n):HB M ws n b=beg M ws n b+zor ws b:=yib hu hb
theorem z64 {g:Nat→Int} {b:Nat}:∀ i,0≤hvF M g b i
 | 0=>by simp [hvF]
 | i+1=>by
  have:=z64 (g:=g) (b:=b) i
  rw [zpj]
  split <;> omega
end
end
def kk (lv:Bool):Int:=if lv then 1 else 0
def zv9 (w:Wall):List Int:=[kk w.level,w.line,w.fr,w.long]
def zvc (L:Nat) (f:Int) (i:Nat):List (List Int):=if 0≤f then [[(L:Int),f,(i:Int) - f]] else []
theorem zug {g:List (List Int)} {q:List Txt} {lv:Bool} {L P:Nat} (hd:∀ j,j<P→zk2 g lv L j=zhe q L j) {ws0:List Wall} {pre s0:List (List Int)} (h0:ws0.map zv9=pre++s0.map (kk lv :: ·)):∀ i,i≤P →
  -1≤(zfv q L s0 i).1∧(zb2 g lv L ws0 i).2=decide (0≤(zfv q L s0 i).1) ∧
  (zb2 g lv L ws0 i).1.map zv9=pre++((zfv q L s0 i).2++zvc L (zfv q L s0 i).1 i).map (kk lv :: ·)
 | 0,_=>by
  refine ⟨by simp [zfv],by simp [zlv,zfv],?_⟩
  rw [zlv]
  simpa [zfv,zvc] using h0
 | i+1,hi=>by
  obtain ⟨h1,h2,h3⟩:=zug hd h0 i (by omega)
  have hdi:=hd i (by omega)
  rw [zeg]
  unfold zfv zgo
  rw [hdi]
  generalize zb2 g lv L ws0 i=s at h2 h3 ⊢
  obtain ⟨ws,op⟩:=s
  generalize zfv q L s0 i=u at h1 h2 h3 ⊢
  obtain ⟨f,l⟩:=u
  simp only at h1 h2 h3 ⊢
  cases hw:zhe q L i with
  | false =>
   simp only[zex,Bool.false_and,qF,if_false,Bool.not_false,Bool.true_and,decide_eq_true_eq]
   by_cases hf:0≤f
   ·rw [if_pos hf]
    refine ⟨by simp,by simp,?_⟩
    rw [h3]
    simp [zvc,hf]
   rw [if_neg hf]
   refine ⟨h1,by simp [hf],?_⟩
   rw [h3]
   simp [zvc,hf]
  | true =>
   simp only[zex,Bool.true_and,Bool.not_true,Bool.false_and,qF,if_false,if_true,decide_eq_true_eq]
   by_cases hf:0≤f
   ·have hop:op=true:=by rw [h2]; simpa using hf
    rw [if_pos hop,if_neg (show ¬ f<0 by omega)]
    refine ⟨h1,by simp [hf],?_⟩
    have hne:ws≠[]:=by
     rintro rfl
     simp [zvc,hf]at h3
    obtain ⟨ws,w,rfl⟩:=z7g hne
    simp only[zvc,hf,if_true,List.map_append,List.map_cons,List.map_nil,← List.append_assoc]at h3 ⊢
    obtain ⟨e1,e2⟩:=List.append_inj' h3 rfl
    simp only[List.dropLast_concat,List.getLast?_append,List.getLast?_singleton,Option.some_or,qO,Option.toList_some,List.map_append,List.map_cons,List.map_nil,e1]
    simp only[List.cons.injEq,and_true]at e2
    have e3:w.level=lv∧w.line=L∧w.fr=f∧w.long=i - f:=by
     simp only[zv9,List.cons.injEq,and_true]at e2
     refine ⟨?_,e2.2.1,e2.2.2.1,e2.2.2.2⟩
     have:=e2.1
     unfold kk at this
     cases hwl:w.level <;> cases hlv:lv <;> simp [hwl,hlv]at this ⊢
    obtain ⟨e4,e5,e6,e7⟩:=e3
    simp only[zv9,e4,e5,e6,e7,List.append_cancel_left_eq,List.cons.injEq,true_and,and_true]
    omega
   have hop:op=false:=by rw [h2]; simpa using hf
   rw [if_neg (show ¬ op=true by rw [hop]; exact Bool.false_ne_true),if_pos (show f<0 by omega)]
   refine ⟨by omega,by simp,?_⟩
   simp only[zvc,hf,if_false,qN]at h3
   simp only[zvc,List.map_append,h3,List.map_cons,List.map_nil]
   rw [if_pos (by omega)]
   simp [zv9]
   omega
theorem z5o {g:List (List Int)} {q:List Txt} {lv:Bool} {L:Nat} (hd:∀ j,j<q.length→zk2 g lv L j=zhe q L j) {ws0:List Wall} {pre s0:List (List Int)} (h0:ws0.map zv9=pre++s0.map (kk lv :: ·)) :
  (zb2 g lv L ws0 q.length).1.map zv9=pre++(zfv q L s0 (q.length+1)).2.map (kk lv :: ·):=by
 obtain ⟨h1,-,h3⟩:=zug hd h0 q.length (qR _)
 rw [h3]
 congr 2
 have e:zfv q L s0 (q.length+1)=zgo (zhe q L q.length) L q.length (zfv q L s0 q.length):=rfl
 rw [e,z93]
 clear e h3 h1
 generalize zfv q L s0 q.length=u
 obtain ⟨f,l⟩:=u
 unfold zgo
 simp only[Bool.false_and,qF,if_false,Bool.not_false,Bool.true_and,decide_eq_true_eq,zvc]
 split <;> simp
theorem zlr {g:List (List Int)} {q:List Txt} {lv:Bool} {n:Nat} (hd:∀ L j,1≤L→L<n→j<q.length→zk2 g lv L j=zhe q L j) {ws0:List Wall}:∀ i,i≤n →
  (zb6 g lv q.length ws0 i).map zv9=ws0.map zv9++(zdq q i).map (kk lv :: ·)
 | 0,_=>by simp [zb6,zdq]
 | i+1,hi=>by
  have ih:=zlr hd (ws0:=ws0) i (by omega)
  by_cases h1:1≤i
  ·rw [zew h1,zoa h1]
   exact z5o (fun j hj=>hd i j h1 (by omega) hj) ih
  obtain rfl:i=0:=by omega
  simpa [zb6,zdq] using ih
theorem z5l {g:List (List Int)} {p:List Txt} (hg:zcu p=true) (hz:∀ i j,i<p.length→j<(zag p).length→gz g i j=zby p i j):(zcv g p.length (zag p).length).map zv9=walls p:=by
 have hsm:=zct hg
 obtain ⟨row0,hrow0,hrm0⟩:=zae hsm.1
 have hhd:=zc2 hrow0
 have hw1:=zg5 hg hrow0
 have htl:=zna (p:=p)
 have hth:=zpy (p:=p) (by rw [hhd]; omega)
 have d0:∀ L j,1≤L→L<(zag p).length→j<p.length→zk2 g false L j=zhe p L j:=by
  intro L j h1 h2 h3
  unfold zk2 zch zhe
  simp only[qF,if_false]
  rw [hz j (L - 1) h3 (by omega),hz j L h3 h2]
  simp [h3]
 have d1:∀ L j,1≤L→L<p.length→j<(zc7 p).length→zk2 g true L j=zhe (zc7 p) L j:=by
  intro L j h1 h2 h3
  have h3':=h3
  rw [htl]at h3'
  unfold zk2 zch zhe
  simp only[if_true]
  rw [hz (L - 1) j (by omega) h3',hz L j h2 h3',zih (by omega) h3',zih h2 h3']
  simp [h3]
 unfold zcv
 have e1:=zlr (lv:=true) d1 (ws0:=zb6 g false p.length [] (zag p).length) p.length (qR _)
 have e0:=zlr (lv:=false) d0 (ws0:=[]) (zag p).length (qR _)
 rw [htl]at e1
 rw [e1,e0]
 unfold walls uprights
 rw [hth]
 simp [kk]
theorem Same.orBit {n:Nat} {M:List (List Bool)} {ms:List Nat} (h:Same n M ms) {a b:Nat} (ha:a<n) (hb:b<n):Same n (z43 M a b true) (orBit ms a b):=by
 obtain ⟨h1,h2,h3⟩:=h
 obtain ⟨m,hm,-⟩:=zae (show a<ms.length by omega)
 rw [z14 hm]
 refine ⟨h1.set ha,by simp [h2],fun x y hx hy=>?_⟩
 rw [zl7 h1 ha hb,zwf (by omega)]
 by_cases hxa:x=a
 ·subst hxa
  rw [if_pos rfl,Nat.testBit_or,Nat.testBit_two_pow,h3 x y hx hy,zig hm]
  by_cases hyb:y=b
  ·subst hyb; simp
  rw [if_neg (fun h=>hyb h.2),decide_eq_false (fun h=>hyb h.symm),Bool.or_false]
 rw [if_neg (fun h=>hxa h.1),if_neg hxa,h3 x y hx hy]
def Rm (n:Nat) (l:List Int):Prop:=∀ x∈l,0≤x∧x<n
theorem Same.relB {n:Nat} {a:Int} (ha:0≤a∧a<n):∀ {bs:List Int} {M:List (List Bool)} {ms:List Nat},Rm n bs→Same n M ms→Same n (relB a bs M) (justB a.toNat ms bs)
 | [],_,_,_,h=>h
 | b::bs,M,ms,hb,h=>by
  have hb0:=hb b (by simp)
  exact Same.relB ha (bs:=bs) (fun x hx=>hb x (by simp [hx])) (h.orBit (by omega) (by omega))
theorem Same.relW {n:Nat} {bs:List Int} (hb:Rm n bs):∀ {la:List Int} {M:List (List Bool)} {ms:List Nat},Rm n la→Same n M ms→Same n (relW M la bs) (justA bs ms la)
 | [],_,_,_,h=>h
 | a::la,M,ms,ha,h=>Same.relW hb (la:=la) (fun x hx=>ha x (by simp [hx])) (h.relB (ha a (by simp)) hb)
theorem z08 {l:List Int} {x:Int}:ddp (l++[x])=zi3 (ddp l) x:=by simp [ddp,List.foldl_append]
theorem z3d {g:List (List Int)} {p:List Txt} {lv:Bool} {L fr:Nat}:∀ n,(∀ j,fr≤j→j<fr+n→zch g lv L j=if lv then (zby p (L - 1) j,zby p L j) else (zby p j (L - 1),zby p j L)) →
  (ddp (zbm g lv L fr n).1,ddp (zbm g lv L fr n).2)=zdh p (kk lv).toNat L fr n
 | 0,_=>by simp [zbm,ddp,zdh]
 | n+1,h=>by
  have ih:=z3d n fun j a b=>h j a (by omega)
  have hx:=h (fr+n) (by omega) (by omega)
  rw [zf6,zf7,z08,z08,hx]
  unfold zdh
  rw [← ih]
  cases lv <;> simp [kk]
theorem zn7 {g:List (List Int)} {p:List Txt} (hz:∀ i j,i<p.length→j<(zag p).length→gz g i j=zby p i j) {w:Wall} (hw:zul g p.length (zag p).length w):za0 g w=zcs p (zv9 w):=by
 obtain ⟨line,fr,long,he,hl,hin⟩:=hw
 obtain ⟨lv,wl,wf,wg⟩:=w
 simp only[Wall.mk.injEq,true_and]at he hin
 obtain ⟨rfl,rfl,rfl⟩:=he
 unfold za0 zcs zv9
 simp only[Int.toNat_natCast]
 refine z3d long fun j a b=>?_
 obtain ⟨⟨h1,h2⟩,-⟩:=hin j a b
 unfold zch
 cases lv with
 | false =>
  simp only[qF,if_false]at h2 ⊢
  rw [hz j (line - 1) h2.2 (by omega),hz j line h2.2 h2.1]
 | true =>
  simp only[if_true]at h2 ⊢
  rw [hz (line - 1) j (by omega) h2.2,hz line j h2.1 h2.2]
theorem Same.empty {n:Nat}:Same n (zb3 n) (List.replicate n 0):=by
 refine ⟨ze4 n,by simp,fun a b ha hb=>?_⟩
 simp [zc4,zb3,zp8,ha,hb]
theorem z24 {g:List (List Int)} {p:List Txt} {n:Nat} (hz:∀ i j,i<p.length→j<(zag p).length→gz g i j=zby p i j) (hrm:zv8 g p.length (zag p).length n):∀ (ws:List Wall),(∀ w∈ws,zul g p.length (zag p).length w) →
  ∀ {M:List (List Bool) × List (List Bool)} {m0 m1:List Nat},Same n M.1 m0→Same n M.2 m1→Same n (ws.foldl (znd g) M).1 ((ws.map zv9).foldl (justW p 0) m0)∧Same n (ws.foldl (znd g) M).2 ((ws.map zv9).foldl (justW p 1) m1)
 | [],_,_,_,_,h0,h1=>⟨h0,h1⟩
 | w::ws,hws,M,m0,m1,h0,h1=>by
  have hw:=hws w (by simp)
  obtain ⟨hr1,hr2⟩:=zfr hrm hw
  rw [zn7 hz hw]at hr1 hr2
  rw [List.foldl_cons,List.map_cons,List.foldl_cons,List.foldl_cons]
  refine z24 hz hrm ws (fun w hw=>hws w (by simp [hw])) ?_ ?_
  ·unfold znd justW
   rw [zn7 hz hw]
   cases hlv:w.level with
   | false=>simpa [zv9,kk,hlv] using h0.relW hr2 hr1
   | true=>simpa [zv9,kk,hlv] using h0
  unfold znd justW
  rw [zn7 hz hw]
  cases hlv:w.level with
  | false=>simpa [zv9,kk,hlv] using h1
  | true=>simpa [zv9,kk,hlv] using h1.relW hr2 hr1
theorem yb1 {g:List (List Int)} {p:List Txt} {n:Nat} (hg:zcu p=true) (hn:(zas p).toNat=n) (hz:∀ i j,i<p.length→j<(zag p).length→gz g i j=zby p i j) (hrm:zv8 g p.length (zag p).length n) :
  Same n (zxf g p.length (zag p).length n) (zwc p 0)∧Same n (zod g p.length (zag p).length n) (zwc p 1):=by
 obtain ⟨h0,h1⟩:=z24 hz hrm (zcv g p.length (zag p).length) zd0 (M:=(zb3 n,zb3 n)) Same.empty Same.empty
 rw [z5l hg hz]at h0 h1
 have e:List.replicate n 0=List.replicate (zas p).toNat 0:=by rw [hn]
 rw [e]at h0 h1
 exact ⟨h0.close,h1.close⟩
def sN:Nat→(Nat→Nat)→Nat
 | 0,_=>0
 | n+1,f=>sN n f+f n
theorem ze2 {f g:Nat→Nat}:∀ {n:Nat},(∀ i,i<n→f i=g i)→sN n f=sN n g
 | 0,_=>rfl
 | n+1,h=>by rw [sN,sN,ze2 (n:=n) fun i hi=>h i (by omega),h n (by omega)]
theorem z40 {f g:Nat→Nat}:∀ {n:Nat},(∀ i,i<n→f i≤g i)→sN n f≤sN n g
 | 0,_=>qR _
 | n+1,h=>by
  have:=z40 (n:=n) fun i hi=>h i (by omega)
  have:=h n (by omega)
  simp only[sN]; omega
theorem ybz {f g:Nat→Nat}:∀ {n:Nat},(∀ i,i<n→f i≤g i)→sN n f=sN n g→∀ i,i<n→f i=g i
 | 0,_,_,i,hi=>by omega
 | n+1,h,e,i,hi=>by
  have h1:=z40 (n:=n) fun i hi=>h i (by omega)
  have h2:=h n (by omega)
  simp only[sN]at e
  by_cases hin:i=n
  ·subst hin; omega
  exact ybz (n:=n) (fun i hi=>h i (by omega)) (by omega) i (by omega)
theorem zrt:∀ n,sN n (fun _=>0)=0
 | 0=>rfl
 | n+1=>by rw [sN,zrt n]
theorem z23:∀ n,sN n (fun _=>1)=n
 | 0=>rfl
 | n+1=>by rw [sN,z23 n]
theorem z22 (c:Nat):∀ n,sN n (fun _=>c)=n*c
 | 0=>by simp [sN]
 | n+1=>by rw [sN,z22 c n,Nat.succ_mul]
theorem ydp {f g:Nat→Nat}:∀ n,sN n (fun i=>f i+g i)=sN n f+sN n g
 | 0=>rfl
 | n+1=>by rw [sN,sN,sN,ydp n]; omega
theorem zvt {f:Nat→Nat→Nat} {m:Nat}:∀ n,sN n (fun i=>sN m (fun j=>f i j))=sN m (fun j=>sN n (fun i=>f i j))
 | 0=>by simp only[sN]; rw [zrt]
 | n+1=>by
  simp only[sN]
  rw [zvt n,ydp]
theorem z84 {f:Nat→Nat} {c:Nat}:∀ n,sN n (fun i=>f i*c)=sN n f*c
 | 0=>by simp [sN]
 | n+1=>by rw [sN,sN,z84 n,Nat.add_mul]
def b1 (b:Bool):Nat:=if b then 1 else 0
def cnt (H W:Nat) (f:Nat→Nat→Bool):Nat:=sN H fun i=>sN W fun j=>b1 (f i j)
theorem yea {a b:Bool} (h:a=true→b=true):b1 a≤b1 b:=by
 cases a with
 | false=>simp [b1]
 | true=>rw [h rfl]; exact qR _
theorem ygk {a b:Bool} (h:b1 a=b1 b):a=b:=by cases a <;> cases b <;> simp [b1]at h ⊢
theorem ygw {H W:Nat} {f g:Nat→Nat→Bool} (h:∀ i j,i<H→j<W→f i j=true→g i j=true):cnt H W f≤cnt H W g :=
 z40 fun i hi=>z40 fun j hj=>yea (h i j hi hj)
theorem ygv {H W:Nat} {f g:Nat→Nat→Bool} (h:∀ i j,i<H→j<W→f i j=true→g i j=true) (e:cnt H W f=cnt H W g):∀ i j,i<H→j<W→f i j=g i j:=by
 intro i j hi hj
 have h1:=ybz (n:=H) (fun i hi=>z40 fun j hj=>yea (h i j hi hj)) e i hi
 exact ygk (ybz (n:=W) (fun j hj=>yea (h i j hi hj)) h1 j hj)
theorem zwk {H W:Nat} {f g:Nat→Nat→Bool} (h:∀ i j,i<H→j<W→f i j=g i j):cnt H W f=cnt H W g :=
 ze2 fun i hi=>ze2 fun j hj=>by rw [h i j hi hj]
theorem zyo {a k:Nat}:∀ {n:Nat},a+k≤n→sN n (fun i=>b1 (decide (a≤i) && decide (i<a+k)))=k
 | 0,h=>by simp [sN]; omega
 | n+1,h=>by
  rw [sN]
  by_cases hn:a+k≤n
  ·rw [zyo hn,decide_eq_false (p:=n<a+k) (by omega),Bool.and_false]; rfl
  have hnk:n+1=a+k:=by omega
  cases k with
  | zero =>
   have:sN n (fun i=>b1 (decide (a≤i) && decide (i<a+0)))=sN n (fun _=>0):=ze2 fun i hi=>by
    rw [decide_eq_false (p:=a≤i) (by omega)]; rfl
   rw [this,zrt,decide_eq_false (p:=a≤n) (by omega)]; rfl
  | succ k =>
   have e:sN n (fun i=>b1 (decide (a≤i) && decide (i<a+(k+1))))=sN n (fun i=>b1 (decide (a≤i) && decide (i<a+k))):=ze2 fun i hi=>by
    congr 2
    apply decide_eq_decide.2; omega
   rw [e,zyo (k:=k) (by omega),decide_eq_true (p:=a≤n) (by omega),decide_eq_true (p:=n<a+(k+1)) (by omega)]
   rfl
def inR (t l h w i j:Nat):Bool:=(decide (t≤i) && decide (i<t+h)) && (decide (l≤j) && decide (j<l+w))
theorem ygj {a b:Bool}:b1 (a && b)=b1 a*b1 b:=by cases a <;> cases b <;> rfl
theorem yap {H W t l h w:Nat} (h1:t+h≤H) (h2:l+w≤W):cnt H W (inR t l h w)=h*w:=by
 unfold cnt inR
 have e:(fun i=>sN W fun j=>b1 ((decide (t≤i) && decide (i<t+h)) && (decide (l≤j) && decide (j<l+w))))=fun i=>b1 (decide (t≤i) && decide (i<t+h))*w:=by
  funext i
  have:(fun j=>b1 ((decide (t≤i) && decide (i<t+h)) && (decide (l≤j) && decide (j<l+w))))=fun j=>b1 (decide (l≤j) && decide (j<l+w))*b1 (decide (t≤i) && decide (i<t+h)):=by
   funext j; rw [ygj,Nat.mul_comm]
  rw [this,z84,zyo h2,Nat.mul_comm]
 rw [e,z84,zyo h1]
theorem zzg {H W n:Nat} {z:Nat→Nat→Nat} (hz:∀ i j,i<H→j<W→z i j<n):sN n (fun r=>cnt H W fun i j=>decide (z i j=r))=H*W:=by
 unfold cnt
 rw [zvt]
 have:sN H (fun i=>sN n fun r=>sN W fun j=>b1 (decide (z i j=r)))=sN H (fun _=>W):=ze2 fun i hi=>by
  rw [zvt]
  have:sN W (fun j=>sN n fun r=>b1 (decide (z i j=r)))=sN W (fun _=>1):=ze2 fun j hj=>by
   have h1:=hz i j hi hj
   have e:sN n (fun r=>b1 (decide (z i j=r)))=sN n (fun r=>b1 (decide (z i j≤r) && decide (r<z i j+1))):=ze2 fun r hr=>by
    congr 1
    rw [Bool.eq_iff_iff]
    simp only[qB,decide_eq_true_eq]
    omega
   rw [e,zyo (by omega)]
  rw [this,z23]
 rw [this,z22]
structure Hull (pr:Nat→Nat→Prop) (t l lo ri:Int):Prop where
 inn:∀ a b,pr a b→t≤a∧(a:Int)≤lo∧l≤b∧(b:Int)≤ri
 at_:∃ a b:Nat,pr a b∧(a:Int)=t
 al:∃ a b:Nat,pr a b∧(b:Int)=l
 ao:∃ a b:Nat,pr a b∧(a:Int)=lo
 ar:∃ a b:Nat,pr a b∧(b:Int)=ri
theorem Hull.uniq {pr:Nat→Nat→Prop} {t l lo ri t' l' lo' ri':Int} (h:Hull pr t l lo ri) (k:Hull pr t' l' lo' ri'):t=t'∧l=l'∧lo=lo'∧ri=ri':=by
 obtain ⟨a1,b1,p1,e1⟩:=h.at_
 obtain ⟨a2,b2,p2,e2⟩:=h.al
 obtain ⟨a3,b3,p3,e3⟩:=h.ao
 obtain ⟨a4,b4,p4,e4⟩:=h.ar
 obtain ⟨a5,b5,p5,e5⟩:=k.at_
 obtain ⟨a6,b6,p6,e6⟩:=k.al
 obtain ⟨a7,b7,p7,e7⟩:=k.ao
 obtain ⟨a8,b8,p8,e8⟩:=k.ar
 have q1:=k.inn _ _ p1
 have q2:=k.inn _ _ p2
 have q3:=k.inn _ _ p3
 have q4:=k.inn _ _ p4
 have q5:=h.inn _ _ p5
 have q6:=h.inn _ _ p6
 have q7:=h.inn _ _ p7
 have q8:=h.inn _ _ p8
 omega
theorem Hull.congr {pr pr':Nat→Nat→Prop} {t l lo ri:Int} (h:Hull pr t l lo ri) (e:∀ a b,pr a b↔pr' a b):Hull pr' t l lo ri:=by
 have:pr=pr':=by funext a b; exact propext (e a b)
 exact this ▸ h
theorem Hull.add {pr:Nat→Nat→Prop} {t l lo ri:Int} (h:Hull pr t l lo ri) (i j:Nat):Hull (fun a b=>pr a b∨(a=i∧b=j)) (min t i) (min l j) (max lo i) (max ri j):=by
 refine ⟨?_,?_,?_,?_,?_⟩
 ·rintro a b (p | ⟨rfl,rfl⟩)
  ·have:=h.inn a b p; omega
  omega
 ·by_cases e:t≤i
  ·obtain ⟨a,b,p,q⟩:=h.at_; exact ⟨a,b,.inl p,by omega⟩
  exact ⟨i,j,.inr ⟨rfl,rfl⟩,by omega⟩
 ·by_cases e:l≤j
  ·obtain ⟨a,b,p,q⟩:=h.al; exact ⟨a,b,.inl p,by omega⟩
  exact ⟨i,j,.inr ⟨rfl,rfl⟩,by omega⟩
 ·by_cases e:(i:Int)≤lo
  ·obtain ⟨a,b,p,q⟩:=h.ao; exact ⟨a,b,.inl p,by omega⟩
  exact ⟨i,j,.inr ⟨rfl,rfl⟩,by omega⟩
 by_cases e:(j:Int)≤ri
 ·obtain ⟨a,b,p,q⟩:=h.ar; exact ⟨a,b,.inl p,by omega⟩
 exact ⟨i,j,.inr ⟨rfl,rfl⟩,by omega⟩
theorem Hull.one {pr:Nat→Nat→Prop} (h:∀ a b,¬ pr a b) (i j:Nat):Hull (fun a b=>pr a b∨(a=i∧b=j)) i j i j:=by
 refine ⟨?_,⟨i,j,.inr ⟨rfl,rfl⟩,rfl⟩,⟨i,j,.inr ⟨rfl,rfl⟩,rfl⟩,⟨i,j,.inr ⟨rfl,rfl⟩,rfl⟩,⟨i,j,.inr ⟨rfl,rfl⟩,rfl⟩⟩
 rintro a b (p | ⟨rfl,rfl⟩)
 ·exact absurd p (h a b)
 omega
def Gone (W i j a b:Nat):Prop:=b<W∧(a<i∨(a=i∧b<j))
theorem zl8 {W i j a b:Nat} (hj:j<W):Gone W i (j+1) a b↔Gone W i j a b∨(a=i∧b=j):=by unfold Gone; omega
theorem z1t {W i a b:Nat}:Gone W i W a b↔Gone W (i+1) 0 a b:=by unfold Gone; omega
def Val (z:Nat→Nat→Int) (W i j:Nat) (v:Int) (a b:Nat):Prop:=z a b=v∧Gone W i j a b
theorem z0q {z:Nat→Nat→Int} {W i j:Nat} {v:Int} (hj:j<W) (h:z i j=v) (a b:Nat):(Val z W i j v a b∨(a=i∧b=j))↔Val z W i (j+1) v a b:=by
 unfold Val
 rw [zl8 hj]
 constructor
 ·rintro (⟨h1,h2⟩ | ⟨rfl,rfl⟩)
  ·exact ⟨h1,.inl h2⟩
  exact ⟨h,.inr ⟨rfl,rfl⟩⟩
 rintro ⟨h1,h2 | h2⟩
 ·exact .inl ⟨h1,h2⟩
 exact .inr h2
theorem zv3 {z:Nat→Nat→Int} {W i j:Nat} {v:Int} (hj:j<W) (h:z i j≠v) (a b:Nat):Val z W i j v a b↔Val z W i (j+1) v a b:=by
 unfold Val
 rw [zl8 hj]
 constructor
 ·rintro ⟨h1,h2⟩; exact ⟨h1,.inl h2⟩
 rintro ⟨h1,h2 | ⟨rfl,rfl⟩⟩
 ·exact ⟨h1,h2⟩
 exact absurd h1 h
theorem z92 {z:Nat→Nat→Int} {W i:Nat} {v:Int} (a b:Nat):Val z W i W v a b↔Val z W (i+1) 0 v a b:=by unfold Val; rw [z1t]
def zlx (pr:Nat→Nat→Prop) (b:Rect):Prop:=Hull pr b.row b.col (b.row+b.high - 1) (b.col+b.wide - 1)
theorem zlx.both {pr:Nat→Nat→Prop} {b:Rect} (h:zlx pr b) (i j:Nat):zlx (fun a c=>pr a c∨(a=i∧c=j)) (b.both (zgt i j)):=by
 have:=Hull.add h i j
 unfold zlx Rect.both zgt
 simp only
 rw [show min b.row (i:Int)+(max (b.row+b.high) ((i:Int)+1) - min b.row (i:Int)) - 1=max (b.row+b.high - 1) i by omega,show min b.col (j:Int)+(max (b.col+b.wide) ((j:Int)+1) - min b.col (j:Int)) - 1=max (b.col+b.wide - 1) j by omega]
 exact this
theorem ybe {i j:Nat}:(zgt i j).both (zgt i j)=zgt i j:=by
 unfold Rect.both zgt
 simp only[Rect.mk.injEq]
 omega
theorem zlx.one {pr:Nat→Nat→Prop} (h:∀ a b,¬ pr a b) (i j:Nat):zlx (fun a b=>pr a b∨(a=i∧b=j)) (zgt i j):=by
 have:=Hull.one h i j
 unfold zlx zgt
 simp only
 rw [show (i:Int)+1 - 1=i by omega,show (j:Int)+1 - 1=j by omega]
 exact this
theorem zlx.congr {pr pr':Nat→Nat→Prop} {b:Rect} (h:zlx pr b) (e:∀ a c,pr a c↔pr' a c):zlx pr' b:=Hull.congr h e
structure SeInv (z:Nat→Nat→Int) (W i j:Nat) (ks:List Int) (rs:List Rect):Prop where
 nd:ks.Nodup
 len:rs.length=ks.length
 mem:∀ a b,Gone W i j a b→z a b∈ks
 hull:∀ (m:Nat) v b,ks[m]?=some v→rs[m]?=some b→zlx (Val z W i j v) b
theorem zji {l:List Int} (h:l.Nodup) {a b:Nat} {v:Int} (ha:l[a]?=some v) (hb:l[b]?=some v):a=b:=by
 obtain ⟨p1,q1⟩:=List.getElem?_eq_some_iff.1 ha
 obtain ⟨p2,q2⟩:=List.getElem?_eq_some_iff.1 hb
 have:=List.pairwise_iff_getElem.1 h
 rcases Nat.lt_trichotomy a b with hlt | heq | hgt
 ·exact absurd (q1.trans q2.symm) (this a b p1 p2 hlt)
 ·exact heq
 exact absurd (q2.trans q1.symm) (this b a p2 p1 hgt)
theorem zg0 {ks:List Int} {z:Int} (h:¬ ks.idxOf z=ks.length):ks[ks.idxOf z]?=some z:=by
 have hl:=zgp (ks:=ks) (z:=z)
 have:z∈ks:=by rw [← List.idxOf_lt_length_iff]; omega
 rw [List.getElem?_eq_getElem (List.idxOf_lt_length_iff.2 this),List.getElem_idxOf]
theorem zqq {ks:List Int} {z:Int} (h:ks.idxOf z=ks.length):z ∉ ks:=by
 intro hm
 have:=List.idxOf_lt_length_iff.2 hm
 omega
theorem SeInv.step {z:Nat→Nat→Int} {W i j:Nat} {ks:List Int} {rs:List Rect} (h:SeInv z W i j ks rs) (hj:j<W):SeInv z W i (j+1) (zid ks (z i j)) (zpw ks rs (z i j) (zgt i j)):=by
 have hlen:=h.len
 by_cases hin:ks.idxOf (z i j)=ks.length
 ·have hnm:=zqq hin
  have e1:zid ks (z i j)=ks++[z i j]:=by simp [zid,hin]
  have e2:zpw ks rs (z i j) (zgt i j)=rs++[zgt i j]:=by
   unfold zpw zi4
   rw [if_pos hin,hin,← hlen,List.getD_eq_getElem?_getD]
   simp [ybe]
  rw [e1,e2]
  refine ⟨?_,by simp [hlen],?_,?_⟩
  ·rw [List.nodup_append]
   refine ⟨h.nd,by simp,?_⟩
   intro a ha b hb
   rw [List.mem_singleton]at hb
   rintro rfl
   exact hnm (hb ▸ ha)
  ·intro a b hab
   rw [zl8 hj]at hab
   rcases hab with hab | ⟨rfl,rfl⟩
   ·exact List.mem_append_left _ (h.mem a b hab)
   simp
  intro m v b hm hb
  by_cases hml:m<ks.length
  ·rw [List.getElem?_append_left hml]at hm
   rw [List.getElem?_append_left (by omega)]at hb
   have hv:z i j≠v:=fun e=>hnm (e ▸ List.mem_of_getElem? hm)
   exact (h.hull m v b hm hb).congr (zv3 hj hv)
  have hml2:=za2 hm
  simp only[List.length_append,List.length_singleton]at hml2
  obtain rfl:m=ks.length:=by omega
  rw [List.getElem?_append_right (qR _),Nat.sub_self]at hm
  rw [← hlen,List.getElem?_append_right (qR _),Nat.sub_self]at hb
  simp only[List.getElem?_cons_zero,Option.some.injEq]at hm hb
  subst hm hb
  exact (zlx.one (pr:=Val z W i j (z i j)) (fun a b hab=>hnm (hab.1 ▸ h.mem a b hab.2)) i j).congr (z0q hj rfl)
 have hk:=zg0 hin
 have hkl:=za2 hk
 have e1:zid ks (z i j)=ks:=by simp [zid,hin]
 obtain ⟨b0,hb0,-⟩:=zae (show ks.idxOf (z i j)<rs.length by omega)
 have e2:zpw ks rs (z i j) (zgt i j)=rs.set (ks.idxOf (z i j)) (b0.both (zgt i j)):=by
  unfold zpw zi4
  rw [if_neg hin,List.getD_eq_getElem?_getD,hb0]; rfl
 rw [e1,e2]
 refine ⟨h.nd,by simp [hlen],?_,?_⟩
 ·intro a b hab
  rw [zl8 hj]at hab
  rcases hab with hab | ⟨rfl,rfl⟩
  ·exact h.mem a b hab
  exact List.mem_of_getElem? hk
 intro m v b hm hb
 rw [List.getElem?_set]at hb
 by_cases e:ks.idxOf (z i j)=m
 ·subst e
  rw [if_pos rfl,if_pos (by omega)]at hb
  cases hb
  rw [hk]at hm
  cases hm
  exact ((h.hull _ _ _ hk hb0).both i j).congr (z0q hj rfl)
 rw [if_neg e]at hb
 have hv:z i j≠v:=by
  rintro rfl
  exact e (zji h.nd hk hm)
 exact (h.hull m v b hm hb).congr (zv3 hj hv)
theorem SeInv.nil {z:Nat→Nat→Int} {W:Nat}:SeInv z W 0 0 [] []:=by
 refine ⟨by simp,rfl,?_,by simp⟩
 intro a b h
 unfold Gone at h; omega
theorem SeInv.row {g:List (List Int)} {W i:Nat} {s:List Int × List Rect} (h:SeInv (gz g) W i 0 s.1 s.2):∀ j,j≤W→SeInv (gz g) W i j (zdp g i s j).1 (zdp g i s j).2
 | 0,_=>h
 | j+1,hj=>(SeInv.row h j (by omega)).step (by omega)
theorem SeInv.rows {g:List (List Int)} {W:Nat}:∀ i,SeInv (gz g) W i 0 (zaj g W i).1 (zaj g W i).2
 | 0=>SeInv.nil
 | i+1=>by
  have h:=(SeInv.rows (g:=g) (W:=W) i).row W (qR _)
  refine ⟨h.nd,h.len,fun a b hab=>h.mem a b (z1t.2 hab),fun m v b hm hb=>(h.hull m v b hm hb).congr (fun a c=>z92 a c)⟩
theorem zm4 {g:List (List Int)} {i:Nat} {s:List Int × List Rect}:∀ {j k:Nat},j≤k→∃ r,(zdp g i s k).1=(zdp g i s j).1++r
 | j,0,h=>by
  have hj:j=0:=by omega
  subst hj; exact ⟨[],by simp⟩
 | j,k+1,h=>by
  by_cases e:j=k+1
  ·subst e; exact ⟨[],by simp⟩
  obtain ⟨r,hr⟩:=zm4 (g:=g) (i:=i) (s:=s) (show j≤k by omega)
  simp only[zdp,zid]
  split
  ·exact ⟨r++[gz g i k],by rw [hr,List.append_assoc]⟩
  exact ⟨r,hr⟩
theorem zn5 {g:List (List Int)} {W:Nat}:∀ {i k:Nat},i≤k→∃ r,(zaj g W k).1=(zaj g W i).1++r
 | i,0,h=>by
  have hi:i=0:=by omega
  subst hi; exact ⟨[],by simp⟩
 | i,k+1,h=>by
  by_cases e:i=k+1
  ·subst e; exact ⟨[],by simp⟩
  obtain ⟨r,hr⟩:=zn5 (g:=g) (W:=W) (show i≤k by omega)
  obtain ⟨r2,hr2⟩:=zm4 (g:=g) (i:=k) (s:=zaj g W k) (Nat.zero_le W)
  simp only[zaj]
  refine ⟨r++r2,?_⟩
  rw [hr2,← List.append_assoc,← hr]; rfl
theorem zqp {l r:List Int} {x:Int} (h:¬ l.idxOf x=l.length):(l++r).idxOf x=l.idxOf x:=by
 have hl:=zgp (ks:=l) (z:=x)
 have hm:x∈l:=by rw [← List.idxOf_lt_length_iff]; omega
 rw [List.idxOf_append,if_pos hm]
theorem z7a {l r:List Int} {x:Int} (h:l.idxOf x=l.length):(l++[x]++r).idxOf x=l.length:=by
 have hm:x ∉ l:=zqq h
 rw [List.append_assoc,List.idxOf_append,if_neg hm]
 simp
theorem yi6 {g:List (List Int)} {W nh i j:Nat} (hi:i<nh) (hj:j<W):((zdp g i (zaj g W i) j).1.idxOf (gz g i j))=(zaj g W nh).1.idxOf (gz g i j):=by
 obtain ⟨r,hr⟩:=zn5 (g:=g) (W:=W) (show i+1≤nh by omega)
 obtain ⟨r2,hr2⟩:=zm4 (g:=g) (i:=i) (s:=zaj g W i) (show j+1≤W by omega)
 have e:(zaj g W nh).1=zid (zdp g i (zaj g W i) j).1 (gz g i j)++(r2++r):=by
  rw [hr,← List.append_assoc]
  congr 1
 rw [e]
 generalize (zdp g i (zaj g W i) j).1=ks
 unfold zid
 by_cases hin:ks.idxOf (gz g i j)=ks.length
 ·rw [if_pos hin,z7a hin,hin]
 rw [if_neg hin,zqp hin]
def inZ (p:List Txt) (r:Int) (i j:Nat):Bool:=decide (zby p i j=r)
theorem zw7 {p:List Txt} {i k:Nat} {row:Txt} {c:UInt8} {r:Int} (h:p[i]?=some row) (hc:row[k]?=some c):zks r c=inZ p r i k:=by
 unfold zks inZ; rw [zc1 h hc]
theorem zof {p:List Txt} {i:Nat} {row:Txt} {r:Int} (h:p[i]?=some row) (n:Int):∀ k,k≤row.length→zdi r n (row.take k)=n+sN k fun j=>b1 (inZ p r i j)
 | 0,_=>by simp [zdi,sN]
 | k+1,hk=>by
  obtain ⟨c,hc,-⟩:=zae (show k<row.length by omega)
  have ih:=zof (r:=r) h n k (by omega)
  unfold zdi at ih ⊢
  rw [ze1 hc,ih,sN,zw7 h hc]
  cases inZ p r i k <;> simp [b1]
  omega
theorem zqt {p:List Txt} {W:Nat} (hW:∀ row∈p,row.length=W) {r:Int}:∀ i,i≤p.length→(p.take i).foldl (zdi r) 0=((sN i fun i=>sN W fun j=>b1 (inZ p r i j):Nat):Int)
 | 0,_=>by simp [sN]
 | i+1,hi=>by
  obtain ⟨row,hr,hm⟩:=zae (show i<p.length by omega)
  have ih:=zqt hW (r:=r) i (by omega)
  have hl:=hW row hm
  have:=zof (r:=r) hr (((sN i fun i=>sN W fun j=>b1 (inZ p r i j):Nat):Int)) W (by omega)
  rw [qT (by omega)]at this
  rw [ze1 hr,ih,this,sN]
  simp
theorem z33 {p:List Txt} {W:Nat} (hW:∀ row∈p,row.length=W) {r:Int}:zfx p r=((cnt p.length W (inZ p r):Nat):Int):=by
 have:=zqt hW (r:=r) p.length (qR _)
 rwa [List.take_length]at this
def zkk (H W:Nat) (pr:Nat→Nat→Prop) (b:Box):Prop:=((∀ a c,¬ pr a c)∧b=⟨H,W,-1,-1⟩)∨Hull pr b.top b.left b.low b.right
theorem zkk.congr {H W:Nat} {pr pr':Nat→Nat→Prop} {b:Box} (h:zkk H W pr b) (e:∀ a c,pr a c↔pr' a c):zkk H W pr' b:=by
 have:pr=pr':=by funext a b; exact propext (e a b)
 exact this ▸ h
theorem zkk.add {H W:Nat} {pr:Nat→Nat→Prop} {b:Box} (h:zkk H W pr b) {i k:Nat} (hi:i<H) (hk:k<W):zkk H W (fun a c=>pr a c∨(a=i∧c=k)) ⟨min b.top i,min b.left k,max b.low i,max b.right k⟩:=by
 rcases h with ⟨h1,rfl⟩ | h
 ·right
  have:=Hull.one h1 i k
  simp only
  rw [show min (H:Int) i=i by omega,show min (W:Int) k=k by omega,show max (-1:Int) i=i by omega,show max (-1:Int) k=k by omega]
  exact this
 exact .inr (Hull.add h i k)
theorem zyl {p:List Txt} {H W i:Nat} {row:Txt} {r:Int} (hr:p[i]?=some row) (hW:row.length=W) (hi:i<H) {b:Box} (h:zkk H W (Val (zby p) W i 0 r) b):∀ k,k≤W→zkk H W (Val (zby p) W i k r) (zmz r i b row k)
 | 0,_=>by simpa [zmz] using h
 | k+1,hk=>by
  obtain ⟨c,hc,-⟩:=zae (show k<row.length by omega)
  have ih:=zyl hr hW hi h k (by omega)
  rw [zkb hc]
  unfold zkz
  simp only
  rw [zw7 hr hc]
  by_cases e:zby p i k=r
  ·rw [if_pos (by unfold inZ; exact decide_eq_true e)]
   exact (ih.add hi (by omega)).congr (z0q (by omega) e)
  rw [if_neg (by unfold inZ; rw [decide_eq_false e]; exact Bool.false_ne_true)]
  exact ih.congr (zv3 (by omega) e)
theorem zwg {p:List Txt} {W:Nat} (hW:∀ row∈p,row.length=W) (hh:(zag p).length=W) {r:Int}:∀ i,i≤p.length→zkk p.length W (Val (zby p) W i 0 r) (ziy p r i)
 | 0,_=>by
  left
  refine ⟨fun a c h=>?_,by simp [ziy,hh]⟩
  have:=h.2
  unfold Gone at this; omega
 | i+1,hi=>by
  obtain ⟨row,hr,hm⟩:=zae (show i<p.length by omega)
  rw [znh hr]
  have:=zyl (r:=r) hr (hW row hm) (by omega) (zwg hW hh i (by omega)) W (qR _)
  rw [hW row hm]
  exact this.congr fun a c=>z92 a c
theorem z55 {p:List Txt} {W:Nat} (hW:∀ row∈p,row.length=W) (hh:(zag p).length=W) {r:Int}:zkk p.length W (Val (zby p) W p.length 0 r) (zgv p r):=by
 rw [← zlz]; exact zwg hW hh p.length (qR _)
theorem Hull.nat {z:Nat→Nat→Int} {H W:Nat} {v:Int} {t l lo ri:Int} (h:Hull (Val z W H 0 v) t l lo ri):∃ t' l' h' w':Nat,t=t'∧l=l'∧lo=t'+h' - 1∧ri=l'+w' - 1∧1≤h'∧1≤w'∧t'+h'≤H∧l'+w'≤W ∧
  ∀ i j,i<H→j<W→z i j=v→inR t' l' h' w' i j=true:=by
 obtain ⟨a1,b1,p1,e1⟩:=h.at_
 obtain ⟨a2,b2,p2,e2⟩:=h.al
 obtain ⟨a3,b3,p3,e3⟩:=h.ao
 obtain ⟨a4,b4,p4,e4⟩:=h.ar
 have q1:=h.inn _ _ p1
 have q2:=h.inn _ _ p2
 obtain ⟨-,g3,g3'⟩:=p3
 obtain ⟨-,g4,g4'⟩:=p4
 refine ⟨a1,b2,a3+1 - a1,b4+1 - b2,e1.symm,e2.symm,by omega,by omega,by omega,by omega,by omega,by omega,fun i j hi hj hv=>?_⟩
 have:=h.inn i j ⟨hv,by unfold Gone; omega⟩
 unfold inR
 simp only[qB,decide_eq_true_eq]
 omega
def u8I (c:UInt8):Int:=(c.toNat:Int)
theorem yf3 {a b:UInt8} (h:u8I a=u8I b):a=b:=by
 unfold u8I at h
 exact UInt8.toNat_inj.1 (by omega)
theorem zw6 {α β:Type} [DecidableEq α] [DecidableEq β] {f:α→β} (hf:∀ a b,f a=f b→a=b) {c:α}:∀ (l:List α),(l.map f).idxOf (f c)=l.idxOf c
 | []=>rfl
 | a::l=>by
  rw [List.map_cons,List.idxOf_cons,List.idxOf_cons,zw6 hf l]
  by_cases e:a=c
  ·subst e; simp
  have e2:f a≠f c:=fun h=>e (hf _ _ h)
  rw [show (f a == f c)=false by simpa using e2,show (a == c)=false by simpa using e]
theorem yet {p:List Txt} {i k:Nat} {row:Txt} {c:UInt8} (h:p[i]?=some row) (hc:row[k]?=some c):gz (za7 p) i k=u8I c:=by
 simp [gz,za7,zr7,h,hc,u8I]
theorem zte {p:List Txt} {i:Nat} {row:Txt} (h:p[i]?=some row) {o:List UInt8} {s:List Int × List Rect} (ho:o.map u8I=s.1):∀ j,j≤row.length →
  ((row.take j).foldl zea (o,[])).1.map u8I=(zdp (za7 p) i s j).1∧((row.take j).foldl zea (o,[])).2=zrr (zoc (za7 p) i s j)
 | 0,_=>⟨by simpa [zdp] using ho,by simp [zoc,zrr]⟩
 | j+1,hj=>by
  obtain ⟨c,hc,-⟩:=zae (show j<row.length by omega)
  obtain ⟨h1,h2⟩:=zte h ho j (by omega)
  rw [ze1 hc]
  generalize (row.take j).foldl zea (o,[])=q at h1 h2 ⊢
  have hz:=yet h hc
  have hi:(zdp (za7 p) i s j).1.idxOf (gz (za7 p) i j)=q.1.idxOf c:=by rw [← h1,hz,zw6 fun a b=>yf3]
  have hl:(zdp (za7 p) i s j).1.length=q.1.length:=by rw [← h1,List.length_map]
  constructor
  ·simp only[zea,zdp,zid]
   rw [hi,hl]
   split
   ·rw [List.map_append,h1,hz]; rfl
   exact h1
  simp only[zea,zoc]
  rw [hi,h2]
  simp [zrr,z7j]
theorem z10 {p:List Txt} {W:Nat} (hW:∀ row∈p,row.length=W):∀ i,i≤p.length →
  ((p.take i).foldl zou ([],[])).1.map u8I=(zaj (za7 p) W i).1∧((p.take i).foldl zou ([],[])).2=zf3 (ze9 (za7 p) W i)
 | 0,_=>by simp [zaj,ze9,zf3]
 | i+1,hi=>by
  obtain ⟨row,hr,hm⟩:=zae (show i<p.length by omega)
  obtain ⟨h1,h2⟩:=z10 hW i (by omega)
  rw [ze1 hr]
  generalize (p.take i).foldl zou ([],[])=q at h1 h2 ⊢
  have hl:=hW row hm
  obtain ⟨k1,k2⟩:=zte hr h1 row.length (qR _)
  rw [List.take_length,hl]at k1 k2
  constructor
  ·simp only[zou,zqy,zaj]; exact k1
  simp only[zou,zqy,ze9,zf3,List.map_append,List.map_cons,List.map_nil]
  rw [k2,h2]
  rfl
theorem zfd {p:List Txt}:w0 (za7 p)=(zag p).length:=by
 cases p with
 | nil=>rfl
 | cons a p=>simp [w0,za7,zr7,zag]
theorem zl9 {p:List Txt} (hg:zcu p=true):∀ row∈p,row.length=(zag p).length:=by
 intro row hm
 obtain ⟨i,hi⟩:=List.getElem?_of_mem hm
 exact zdv hg hi
theorem zh6 {p:List Txt} (hg:zcu p=true):names p=zf3 (gP p):=by
 have:=(z10 (zl9 hg) p.length (qR _)).2
 rw [List.take_length]at this
 unfold names zu7 gP zG
 rw [this,zfd,zdn]
theorem zuz {p:List Txt}:zcu p=(zhh p && okG (za7 p)):=by
 rw [Bool.eq_iff_iff,qB,znu,zdn,zfd]
 unfold zcu zhh GW zsg
 simp only[qB,decide_eq_true_eq,List.all_eq_true,zdn,true_and]
 constructor
 ·rintro ⟨⟨h1,h2⟩,h3⟩
  obtain ⟨row0,hr0,hm0⟩:=zae (show 0<p.length by omega)
  have hh:=zc2 hr0
  have h4:=h1 row0 hm0
  refine ⟨fun r hr=>(h1 r hr).2,fun r hr=>?_,h2,h3,by rw [hh]; omega,by rw [hh]; omega⟩
  obtain ⟨t,ht,rfl⟩:=List.mem_map.1 hr
  rw [zkc]; exact (h1 t ht).1.1.1
 rintro ⟨h1,h2,h3,h4,h5,h6⟩
 refine ⟨⟨fun r hr=>?_,h3⟩,h4⟩
 have:=h2 (zr7 r) (List.mem_map.2 ⟨r,hr,rfl⟩)
 rw [zkc]at this
 exact ⟨⟨⟨this,by omega⟩,by omega⟩,h1 r hr⟩
theorem z0u {g:List (List Int)} {i:Nat} {s:List Int × List Rect}:∀ {j k:Nat},k<j→(zoc g i s j)[k]?=some (((zdp g i s k).1.idxOf (gz g i k):Nat):Int)
 | 0,k,h=>by omega
 | j+1,k,h=>by
  unfold zoc
  by_cases e:k=j
  ·subst e; rw [List.getElem?_append_right (by rw [zft]; exact qR _),zft]; simp
  rw [List.getElem?_append_left (by rw [zft]; omega)]; exact z0u (by omega)
def keys (p:List Txt):List Int:=(zaj (za7 p) (zag p).length p.length).1
theorem z31 {p:List Txt}:gP p=ze9 (za7 p) (zag p).length p.length:=by unfold gP zG; rw [zfd,zdn]
theorem ybq {p:List Txt}:rP p=(zaj (za7 p) (zag p).length p.length).2:=by unfold rP stG; rw [zfd,zdn]
theorem z6w {p:List Txt} {i j:Nat} (hi:i<p.length) (hj:j<(zag p).length):gz (gP p) i j=(((keys p).idxOf (gz (za7 p) i j):Nat):Int):=by
 rw [z31]
 unfold gz
 rw [zke hi,Option.getD_some,z0u hj,Option.getD_some]
 congr 1
 exact yi6 hi hj
theorem zfl (p:List Txt):SeInv (gz (za7 p)) (zag p).length p.length 0 (keys p) (rP p):=by
 rw [ybq]; exact SeInv.rows p.length
theorem zim {H W i j:Nat} (hi:i<H) (hj:j<W):Gone W H 0 i j:=⟨hj,.inl hi⟩
theorem zes {p:List Txt}:zv8 (gP p) p.length (zag p).length (rP p).length:=by
 intro i j hi hj
 rw [z6w hi hj]
 have hm:=(zfl p).mem i j (zim hi hj)
 have hl:=(zfl p).len
 have:=List.idxOf_lt_length_iff.2 hm
 omega
structure Named (p:List Txt):Prop where
 hg:zcu p=true
 ht:zf3 (gP p)=p
theorem Named.cell {p:List Txt} (h:Named p) {i j:Nat} (hi:i<p.length) (hj:j<(zag p).length):gz (gP p) i j=zby p i j:=by
 have hgz:=z6w hi hj
 have hm:=(zfl p).mem i j (zim hi hj)
 have hsm:=zct h.hg
 obtain ⟨row0,hr0,hm0⟩:=zae hsm.1
 have hh:=zc2 hr0
 have hw6:=hsm.2.2 row0 hm0
 have hw1:=zg5 h.hg hr0
 rw [← hh]at hw6 hw1
 have hb:=ziu (g:=za7 p) hw6 hw1 p.length hsm.2.1
 rw [← z31]at hb
 have hrl:(gP p).length=p.length:=by rw [z31]; exact zc3 _
 obtain ⟨zr,hzr,hzm⟩:=zae (show i<(gP p).length by omega)
 have hzl:zr.length=(zag p).length:=by
  have e:=hzr
  rw [z31,zke hi]at e
  cases e
  exact zft _
 obtain ⟨z,hz,hzm2⟩:=zae (show j<zr.length by omega)
 have hz1:=hb zr hzm z hzm2
 have e1:gz (gP p) i j=z:=by simp [gz,hzr,hz]
 have e2:p[i]?=some (zrr zr):=by
  have:=zm9 hzr
  rwa [h.ht]at this
 have e3:(zrr zr)[j]?=some (z7j z):=by simp [zrr,hz]
 rw [e1,zc1 e2 e3]
 unfold z7j
 rw [UInt8.toNat_ofNat_of_lt' (by show 97+z.toNat<256; omega)]
 omega
theorem Named.room {p:List Txt} (h:Named p) {i j:Nat} (hi:i<p.length) (hj:j<(zag p).length):0≤zby p i j∧zby p i j<(rP p).length:=by
 rw [← h.cell hi hj]; exact zes i j hi hj
theorem Named.key {p:List Txt} (h:Named p) {m:Nat} {v:Int} (hm:(keys p)[m]?=some v) (a b:Nat):Val (gz (za7 p)) (zag p).length p.length 0 v a b↔Val (zby p) (zag p).length p.length 0 m a b:=by
 unfold Val
 constructor
 ·rintro ⟨h1,h2⟩
  refine ⟨?_,h2⟩
  obtain ⟨hb,ha⟩:=h2
  have ha':a<p.length:=by omega
  rw [← h.cell ha' hb,z6w ha' hb,h1]
  congr 1
  have hv:=List.mem_of_getElem? hm
  have hlt:=List.idxOf_lt_length_iff.2 hv
  have:=zg0 (ks:=keys p) (z:=v) (by omega)
  exact zji (zfl p).nd this hm
 rintro ⟨h1,h2⟩
 refine ⟨?_,h2⟩
 obtain ⟨hb,ha⟩:=h2
 have ha':a<p.length:=by omega
 have hmem:=(zfl p).mem a b (zim ha' hb)
 have hlt:=List.idxOf_lt_length_iff.2 hmem
 rw [← h.cell ha' hb,z6w ha' hb]at h1
 have:=zg0 (ks:=keys p) (z:=gz (za7 p) a b) (by omega)
 rw [show (keys p).idxOf (gz (za7 p) a b)=m by omega,hm]at this
 cases this; rfl
theorem Named.rect {p:List Txt} (h:Named p) {m:Nat} {b:Rect} (hb:(rP p)[m]?=some b):zlx (Val (zby p) (zag p).length p.length 0 m) b:=by
 have hi:=zfl p
 have hml:=za2 hb
 rw [hi.len]at hml
 obtain ⟨v,hv,-⟩:=zae hml
 exact (hi.hull m v b hv hb).congr (h.key hv)
theorem Named.box {p:List Txt} (h:Named p) {m:Nat} {b:Rect} (hb:(rP p)[m]?=some b):b.row=(zgv p m).top∧b.col=(zgv p m).left∧b.high=zeh p m∧b.wide=zd1 p m:=by
 have h1:=h.rect hb
 have h2:=z55 (zl9 h.hg) rfl (r:=(m:Int))
 rcases h2 with ⟨h2,-⟩ | h2
 ·obtain ⟨a,c,q,-⟩:=h1.at_
  exact absurd q (h2 a c)
 have:=Hull.uniq h1 h2
 unfold zeh zd1
 omega
theorem zop {f:UInt8→Int} {B:Int}:∀ (row:Txt) (n:Int),n≤B→(∀ c∈row,f c≤B)→row.foldl (fun n c=>max n (f c)) n≤B
 | [],n,h,_=>h
 | c::row,n,h,hc=>zop row _ (by have:=hc c (by simp); show max n (f c)≤B; omega) fun d hd=>hc d (by simp [hd])
theorem z2y {B:Int}:∀ (p:List Txt) (n:Int),n≤B→(∀ row∈p,∀ c∈row,(c.toNat:Int) - 97+1≤B)→p.foldl zgn n≤B
 | [],n,h,_=>h
 | row::p,n,h,hc=>z2y p _ (zop row n h (hc row (by simp))) fun r hr=>hc r (by simp [hr])
theorem Named.rooms {p:List Txt} (h:Named p):zas p=(rP p).length:=by
 have hi:=zfl p
 have hl:=hi.len
 apply Int.le_antisymm
 ·refine z2y p 0 (by omega) fun row hr c hc=>?_
  obtain ⟨i,hrow⟩:=List.getElem?_of_mem hr
  obtain ⟨j,hcol⟩:=List.getElem?_of_mem hc
  have hil:=za2 hrow
  have hjl:=za2 hcol
  have:=h.room hil (by rw [← zdv h.hg hrow]; exact hjl)
  rw [zc1 hrow hcol]at this
  omega
 by_cases h0:(rP p).length=0
 ·have:=(zdl p).1; omega
 obtain ⟨b,hb,-⟩:=zae (show (rP p).length - 1<(rP p).length by omega)
 obtain ⟨a,c,⟨q1,q2⟩,-⟩:=(h.rect hb).at_
 obtain ⟨hc,ha⟩:=q2
 have ha':a<p.length:=by omega
 obtain ⟨row,hrow,hrm⟩:=zae ha'
 have hrl:=zdv h.hg hrow
 obtain ⟨d,hd,-⟩:=zae (show c<row.length by omega)
 have:=(zt3 p 0).2 a c row d hrow hd
 rw [zc1 hrow hd]at q1
 unfold zas
 omega
def inB (b:Rect) (i j:Nat):Bool:=(decide (b.row≤i) && decide ((i:Int)<b.row+b.high)) && (decide (b.col≤j) && decide ((j:Int)<b.col+b.wide))
theorem zmt {z:Nat→Nat→Int} {H W:Nat} {v:Int} {b:Rect} (h:zlx (Val z W H 0 v) b):((cnt H W (inB b):Nat):Int)=b.high*b.wide∧∀ i j,i<H→j<W→z i j=v→inB b i j=true:=by
 obtain ⟨t,l,hh,w,e1,e2,e3,e4,h1,h2,h3,h4,h5⟩:=Hull.nat h
 have e5:b.high=hh:=by omega
 have e6:b.wide=w:=by omega
 have e:∀ i j,inB b i j=inR t l hh w i j:=by
  intro i j
  unfold inB inR
  rw [e1,e2,e5,e6,Bool.eq_iff_iff]
  simp only[qB,decide_eq_true_eq]
  omega
 have e7:inB b=inR t l hh w:=by funext i j; exact e i j
 rw [e7,yap h3 h4,e5,e6]
 exact ⟨by simp,h5⟩
def arN (p:List Txt) (m:Nat):Nat :=
 match (rP p)[m]? with
 | some b=>cnt p.length (zag p).length (inB b)
 | none=>0
theorem zwe {p:List Txt} {m:Nat} {b:Rect} (h:(rP p)[m]?=some b):arN p m=cnt p.length (zag p).length (inB b):=by simp [arN,h]
theorem z9o {p:List Txt} (h:Named p):∀ k,k≤(rP p).length→z5e ((rP p).take k)=((sN k (arN p):Nat):Int)
 | 0,_=>by simp [z5e,sN]
 | k+1,hk=>by
  obtain ⟨b,hb,-⟩:=zae (show k<(rP p).length by omega)
  rw [zr2 hb,z9o h k (by omega),sN,zwe hb,← (zmt (h.rect hb)).1]
  simp
theorem Named.cells_le {p:List Txt} (h:Named p) {m:Nat} (hm:m<(rP p).length):cnt p.length (zag p).length (inZ p m)≤arN p m:=by
 obtain ⟨b,hb,-⟩:=zae hm
 rw [zwe hb]
 exact ygw fun i j hi hj hz=>(zmt (h.rect hb)).2 i j hi hj (by unfold inZ at hz; simpa using hz)
theorem Named.all {p:List Txt} (h:Named p):sN (rP p).length (fun m=>cnt p.length (zag p).length (inZ p m))=p.length*(zag p).length:=by
 rw [← zzg (H:=p.length) (W:=(zag p).length) (n:=(rP p).length) (z:=fun i j=>(zby p i j).toNat) fun i j hi hj=>by have:=h.room hi hj; omega]
 refine ze2 fun m hm=>zwk fun i j hi hj=>?_
 unfold inZ
 have:=h.room hi hj
 apply decide_eq_decide.2
 omega
theorem yay {p:List Txt} (h:Named p):zhq (za7 p)=decide (sN (rP p).length (arN p)=p.length*(zag p).length):=by
 have:=z9o h (rP p).length (qR _)
 rw [List.take_length]at this
 unfold zhq
 rw [show (stG (za7 p)).2=rP p from rfl,this,zdn,zfd]
 apply decide_eq_decide.2
 omega
theorem Named.area {p:List Txt} (h:Named p) {m:Nat} (hm:m<(rP p).length):(zfx p m=zeh p m*zd1 p m)↔cnt p.length (zag p).length (inZ p m)=arN p m:=by
 obtain ⟨b,hb,-⟩:=zae hm
 obtain ⟨-,-,e1,e2⟩:=h.box hb
 rw [z33 (zl9 h.hg),← e1,← e2,← (zmt (h.rect hb)).1,zwe hb]
 omega
theorem Named.full {p:List Txt} (h:Named p):zhq (za7 p)=true↔∀ m,m<(rP p).length→cnt p.length (zag p).length (inZ p m)=arN p m:=by
 rw [yay h,decide_eq_true_eq,← h.all]
 constructor
 ·intro e m hm
  exact ybz (fun m hm=>h.cells_le hm) e.symm m hm
 intro e
 exact ze2 fun m hm=>(e m hm).symm
theorem Named.fill {p:List Txt} (h:Named p) (hf:zhq (za7 p)=true) {m:Nat} {b:Rect} (hb:(rP p)[m]?=some b) {i j:Nat} (hi:i<p.length) (hj:j<(zag p).length):inB b i j=decide (zby p i j=m):=by
 have e:=h.full.1 hf m (za2 hb)
 rw [zwe hb]at e
 exact (ygv (fun i j hi hj hz=>(zmt (h.rect hb)).2 i j hi hj (by unfold inZ at hz; simpa using hz)) e i j hi hj).symm
theorem zd6 {p:List Txt}:ze5 p=zb1 p:=by
 unfold ze5 zoo okB okS zb1
 rw [Bool.eq_iff_iff]
 simp only[qB,decide_eq_true_eq,List.all_eq_true,List.mem_range]
 have hgi:=zuz (p:=p)
 constructor
 ·rintro ⟨⟨h1,h2,h3⟩,h4,h5⟩
  have hg:zcu p=true:=by rw [hgi,h1,h2]; rfl
  have hN:Named p:=⟨hg,h5⟩
  have hr:=hN.rooms
  have h3':(rP p).length≤9:=h3
  refine ⟨⟨⟨hg,by rw [zh6 hg]; exact h5⟩,by omega⟩,fun m hm=>?_⟩
  have hm':m<(rP p).length:=by omega
  exact (hN.area hm').2 (hN.full.1 h4 m hm')
 rintro ⟨⟨⟨hg,h2⟩,h3⟩,h4⟩
 have h5:zf3 (gP p)=p:=by rw [← zh6 hg]; exact h2
 have hN:Named p:=⟨hg,h5⟩
 have hr:=hN.rooms
 rw [hgi,qB]at hg
 have h3':(rP p).length≤9:=by omega
 exact ⟨⟨hg.1,hg.2,h3'⟩,hN.full.2 fun m hm=>(hN.area hm).1 (h4 m (by omega)),h5⟩
theorem zel {p:List Txt} (h:zb1 p=true):Named p:=by
 have h2:=h
 rw [← zd6]at h2
 unfold ze5 zoo at h2
 simp only[qB,decide_eq_true_eq]at h2
 exact ⟨zek h,h2.2.2⟩
theorem zrf {p:List Txt} (h:zb1 p=true):zhq (za7 p)=true:=by
 rw [← zd6]at h
 unfold ze5 zoo at h
 simp only[qB,decide_eq_true_eq]at h
 exact h.2.1
def cz (c:UInt8):Int:=(c.toNat:Int) - 97
theorem ygx {a b:UInt8}:(cz a=cz b)=(a=b):=by
 rw [yf5]
 unfold cz
 apply propext; omega
theorem yeg (a b c d:UInt8):((dn [cz a,cz b,cz c,cz d]:Nat):Int)=zgj [a,b,c,d] 4:=by
 simp only[dn,zgj,z7q,zsd,List.mem_cons,List.not_mem_nil,or_false,ygx]
 by_cases h1:a=b <;> by_cases h2:a=c <;> by_cases h3:a=d <;> by_cases h4:b=c <;> by_cases h5:b=d <;> by_cases h6:c=d <;> simp_all [eq_comm]
theorem z3z {p:List Txt} (h:Named p) {i k:Nat} (hi:1≤i) (hi2:i<p.length) (hk:1≤k) (hk2:k<(zag p).length):((dn (four (gP p) i k):Nat):Int)=zjh p i k:=by
 obtain ⟨r1,hr1,-⟩:=zae (show i - 1<p.length by omega)
 obtain ⟨r2,hr2,-⟩:=zae hi2
 have l1:=zdv h.hg hr1
 have l2:=zdv h.hg hr2
 obtain ⟨a,ha,-⟩:=zae (show k - 1<r1.length by omega)
 obtain ⟨b,hb,-⟩:=zae (show k<r1.length by omega)
 obtain ⟨c,hc,-⟩:=zae (show k - 1<r2.length by omega)
 obtain ⟨d,hd,-⟩:=zae (show k<r2.length by omega)
 unfold four zjh
 rw [h.cell (by omega) (by omega),h.cell (by omega) (by omega),h.cell (by omega) (by omega),h.cell (by omega) (by omega),zc1 hr1 ha,zc1 hr1 hb,zc1 hr2 hc,zc1 hr2 hd]
 simp only[hr1,hr2,ha,hb,hc,hd]
 exact yeg a b c d
theorem zx5 {p:List Txt} (h:Named p) {many:Int} {i:Nat} (hi:1≤i) (hi2:i<p.length):∀ k,k≤(zag p).length→zdy (gP p) many i k=zgk p many i k
 | 0,_=>rfl
 | k+1,hk=>by
  unfold zdy zgk
  rw [zx5 h hi hi2 k (by omega)]
  by_cases h1:1≤k
  ·rw [z3z h hi hi2 h1 (by omega)]
  rw [if_neg (fun e=>h1 e.1),if_neg (fun e=>h1 e.1)]
theorem ydm {p:List Txt} (h:Named p) {many:Int}:∀ i,i≤p.length→ztt (gP p) many (zag p).length i=zi2 p many (zag p).length i
 | 0,_=>rfl
 | i+1,hi=>by
  unfold ztt zi2
  rw [ydm h i (by omega)]
  by_cases h1:1≤i
  ·rw [zx5 h h1 (by omega) _ (qR _)]
  rw [if_neg h1,if_neg h1]
theorem zbl {p:List Txt}:zcz p=za3 p:=by
 unfold zcz za3
 rw [zd6]
 cases hp:zb1 p with
 | false=>rfl
 | true =>
  rw [zfd,ydm (zel hp) p.length (qR _)]
  rfl
theorem zc0 {p:List Txt} (h:za3 p=true):zb1 p=true:=by
 unfold za3 at h
 rw [qB]at h
 exact h.1
theorem zns {l:List Int} {x:Int}:x∈ddp l↔x∈l:=by
 have:∀ (l m:List Int),x∈l.foldl zi3 m↔x∈m∨x∈l:=by
  intro l
  induction l with
  | nil=>intro m; simp
  | cons a l ih=>intro m; rw [List.foldl_cons,ih,z1z,List.mem_cons,or_assoc]
 unfold ddp
 rw [this]
 simp
def Rise (n:Nat) (rk:Nat→Nat) (M:List (List Bool)):Prop:=Sq n M∧∀ a b,a<n→b<n→zc4 M a b=true→rk a<rk b
theorem Rise.clA {n:Nat} {rk:Nat→Nat} {M:List (List Bool)} (h:Rise n rk M) {k a:Nat} (hk:k<n) (ha:a<n):Rise n rk (clA n k M a):=by
 obtain ⟨h1,h2⟩:=z04 h.1 hk ha n (qR _)
 refine ⟨h1,fun x y hx hy hxy=>?_⟩
 unfold Fw.clA at hxy
 rw [h2 x y hx hy]at hxy
 split at hxy
 ·rename_i e
  obtain ⟨rfl,-⟩:=e
  rw [Bool.or_eq_true,qB]at hxy
  rcases hxy with hxy | ⟨h3,h4⟩
  ·exact h.2 x y hx hy hxy
  exact Nat.lt_trans (h.2 x k hx hk h3) (h.2 k y hk hy h4)
 exact h.2 x y hx hy hxy
theorem Rise.fold {n:Nat} {rk:Nat→Nat} {f:List (List Bool)→Nat→List (List Bool)}:∀ (i:Nat) {M:List (List Bool)},i≤n→(∀ M j,j<n→Rise n rk M→Rise n rk (f M j))→Rise n rk M→Rise n rk ((List.range i).foldl f M)
 | 0,_,_,_,h=>h
 | i+1,M,hi,hs,h=>by
  rw [zck]
  exact hs _ i (by omega) (Rise.fold i (by omega) hs h)
theorem Rise.close {n:Nat} {rk:Nat→Nat} {M:List (List Bool)} (h:Rise n rk M):Rise n rk (zf8 M):=by
 unfold zf8
 rw [h.1.1]
 exact Rise.fold n (qR _) (fun _ k hk h=>Rise.fold n (qR _) (fun _ a ha h=>h.clA hk ha) h) h
theorem Rise.relB {n:Nat} {rk:Nat→Nat} {a:Int} (ha:0≤a∧a<n):∀ {bs:List Int} {M:List (List Bool)},Rm n bs→(∀ b∈bs,rk a.toNat<rk b.toNat)→Rise n rk M→Rise n rk (relB a bs M)
 | [],_,_,_,h=>h
 | b::bs,M,hb,hr,h=>by
  have hb0:=hb b (by simp)
  refine Rise.relB ha (bs:=bs) (fun x hx=>hb x (by simp [hx])) (fun x hx=>hr x (by simp [hx])) ⟨h.1.set (by omega),fun x y hx hy hxy=>?_⟩
  rw [zl7 h.1 (by omega) (by omega)]at hxy
  split at hxy
  ·rename_i e
   rw [e.1,e.2]; exact hr b (by simp)
  exact h.2 x y hx hy hxy
theorem Rise.relW {n:Nat} {rk:Nat→Nat} {bs:List Int} (hb:Rm n bs):∀ {la:List Int} {M:List (List Bool)},Rm n la→(∀ a∈la,∀ b∈bs,rk a.toNat<rk b.toNat)→Rise n rk M→Rise n rk (relW M la bs)
 | [],_,_,_,h=>h
 | a::la,M,ha,hr,h=>Rise.relW hb (la:=la) (fun x hx=>ha x (by simp [hx])) (fun x hx=>hr x (by simp [hx])) (h.relB (ha a (by simp)) hb (hr a (by simp)))
theorem Rise.empty {n:Nat} {rk:Nat→Nat}:Rise n rk (zb3 n):=by
 refine ⟨ze4 n,fun a b ha hb h=>?_⟩
 simp [zc4,zb3,ha,hb]at h
theorem Rise.ord {g:List (List Int)} {nh nw n:Nat} {r0 r1:Nat→Nat} (hrm:zv8 g nh nw n) (h0:∀ w,zul g nh nw w→w.level=false→∀ a∈(za0 g w).1,∀ b∈(za0 g w).2,r0 a.toNat<r0 b.toNat)
  (h1:∀ w,zul g nh nw w→w.level=true→∀ a∈(za0 g w).1,∀ b∈(za0 g w).2,r1 a.toNat<r1 b.toNat):∀ (ws:List Wall),(∀ w∈ws,zul g nh nw w)→∀ {M:List (List Bool) × List (List Bool)},Rise n r0 M.1→Rise n r1 M.2 →
  Rise n r0 (ws.foldl (znd g) M).1∧Rise n r1 (ws.foldl (znd g) M).2
 | [],_,_,k0,k1=>⟨k0,k1⟩
 | w::ws,hws,M,k0,k1=>by
  have hw:=hws w (by simp)
  obtain ⟨hr1,hr2⟩:=zfr hrm hw
  rw [List.foldl_cons]
  refine Rise.ord hrm h0 h1 ws (fun w hw=>hws w (by simp [hw])) ?_ ?_
  ·unfold znd
   cases hlv:w.level with
   | false=>simpa using k0.relW hr2 hr1 (h0 w hw hlv)
   | true=>simpa using k0
  unfold znd
  cases hlv:w.level with
  | false=>simpa using k1
  | true=>simpa using k1.relW hr2 hr1 (h1 w hw hlv)
theorem yhn {g:List (List Int)} {nh nw:Nat} {w:Wall} (hw:zul g nh nw w) {x:Int} (hx:x∈(za0 g w).1):∃ line j:Nat,w.line=line∧x=(zch g w.level line j).1∧InL nh nw w.level line j∧zk2 g w.level line j=true:=by
 obtain ⟨line,fr,long,e,h1,h2⟩:=hw
 have e1:w.line.toNat=line:=by rw [e]; simp
 have e2:w.fr.toNat=fr:=by rw [e]; simp
 have e3:w.long.toNat=long:=by rw [e]; simp
 simp only[za0,e1,e2,e3]at hx
 have:=zns.1 hx
 simp only[zbm,List.mem_map,List.mem_range]at this
 obtain ⟨j,hj,rfl⟩:=this
 have h3:=h2 (fr+j) (by omega) (by omega)
 exact ⟨line,fr+j,by rw [e],rfl,h3.1,h3.2⟩
theorem yho {g:List (List Int)} {nh nw:Nat} {w:Wall} (hw:zul g nh nw w) {x:Int} (hx:x∈(za0 g w).2):∃ line j:Nat,w.line=line∧x=(zch g w.level line j).2∧InL nh nw w.level line j∧zk2 g w.level line j=true:=by
 obtain ⟨line,fr,long,e,h1,h2⟩:=hw
 have e1:w.line.toNat=line:=by rw [e]; simp
 have e2:w.fr.toNat=fr:=by rw [e]; simp
 have e3:w.long.toNat=long:=by rw [e]; simp
 simp only[za0,e1,e2,e3]at hx
 have:=zns.1 hx
 simp only[zbm,List.mem_map,List.mem_range]at this
 obtain ⟨j,hj,rfl⟩:=this
 have h3:=h2 (fr+j) (by omega) (by omega)
 exact ⟨line,fr+j,by rw [e],rfl,h3.1,h3.2⟩
def rkL (p:List Txt) (a:Nat):Nat:=match (rP p)[a]? with | some b=>b.col.toNat | none=>0
def rkA (p:List Txt) (a:Nat):Nat:=match (rP p)[a]? with | some b=>b.row.toNat | none=>0
theorem zh9 {p:List Txt} (hp:zb1 p=true) {i j:Nat} (hi:i<p.length) (hj:j<(zag p).length):∃ b,(rP p)[(zby p i j).toNat]?=some b∧inB b i j=true∧b.Fit∧∀ k l,k<p.length→l<(zag p).length→inB b k l=true→zby p k l=zby p i j:=by
 have hN:=zel hp
 have hr:=hN.room hi hj
 obtain ⟨b,hb,hbm⟩:=zae (show (zby p i j).toNat<(rP p).length by omega)
 have hf:=zrf hp
 have hsm:=zct hN.hg
 obtain ⟨row0,hr0,hm0⟩:=zae hsm.1
 have hh:=zc2 hr0
 have hw6:=hsm.2.2 row0 hm0
 have hw1:=zg5 hN.hg hr0
 rw [← hh]at hw6 hw1
 have hok:=(zg8 (g:=za7 p) hw6 hw1 p.length hsm.2.1).1
 rw [← ybq]at hok
 refine ⟨b,hb,?_,hok.2 b hbm,fun k l hk hl hkl=>?_⟩
 ·rw [hN.fill hf hb hi hj]; exact decide_eq_true (by omega)
 rw [hN.fill hf hb hk hl]at hkl
 have:=of_decide_eq_true hkl
 omega
theorem z8c {p:List Txt} (hp:zb1 p=true) {w:Wall} (hw:zul (gP p) p.length (zag p).length w) (hl:w.level=false):∀ a∈(za0 (gP p) w).1,∀ b∈(za0 (gP p) w).2,rkL p a.toNat<rkL p b.toNat:=by
 intro a ha b hb
 have hN:=zel hp
 obtain ⟨L,j,e1,rfl,⟨h1,h2⟩,h3⟩:=yhn hw ha
 obtain ⟨L',j',e2,rfl,⟨k1,k2⟩,k3⟩:=yho hw hb
 obtain rfl:L=L':=by omega
 simp only[hl,qF,if_false]at h2 k2
 unfold zk2 at k3
 simp only[hl,zch,qF,if_false,decide_eq_true_eq]at k3 ⊢
 rw [hN.cell k2.2 (by omega),hN.cell k2.2 k2.1]at k3
 rw [hN.cell h2.2 (by omega),hN.cell k2.2 k2.1]
 obtain ⟨r1,hr1,q1,f1,-⟩:=zh9 hp h2.2 (show L - 1<(zag p).length by omega)
 obtain ⟨r2,hr2,q2,f2,c2⟩:=zh9 hp k2.2 k2.1
 unfold rkL
 rw [hr1,hr2]
 simp only
 have c3:=c2 j' (L - 1) k2.2 (by omega)
 unfold inB at q1 q2 c3
 unfold Rect.Fit at f1 f2
 simp only[qB,decide_eq_true_eq]at q1 q2 c3
 by_cases hc:r2.col<(L:Int)
 ·exact absurd (c3 (by omega)) k3
 omega
theorem z4k {p:List Txt} (hp:zb1 p=true) {w:Wall} (hw:zul (gP p) p.length (zag p).length w) (hl:w.level=true):∀ a∈(za0 (gP p) w).1,∀ b∈(za0 (gP p) w).2,rkA p a.toNat<rkA p b.toNat:=by
 intro a ha b hb
 have hN:=zel hp
 obtain ⟨L,j,e1,rfl,⟨h1,h2⟩,h3⟩:=yhn hw ha
 obtain ⟨L',j',e2,rfl,⟨k1,k2⟩,k3⟩:=yho hw hb
 obtain rfl:L=L':=by omega
 simp only[hl,if_true]at h2 k2
 unfold zk2 at k3
 simp only[hl,zch,if_true,decide_eq_true_eq]at k3 ⊢
 rw [hN.cell (by omega) k2.2,hN.cell k2.1 k2.2]at k3
 rw [hN.cell (by omega) h2.2,hN.cell k2.1 k2.2]
 obtain ⟨r1,hr1,q1,f1,-⟩:=zh9 hp (show L - 1<p.length by omega) h2.2
 obtain ⟨r2,hr2,q2,f2,c2⟩:=zh9 hp k2.1 k2.2
 unfold rkA
 rw [hr1,hr2]
 simp only
 have c3:=c2 (L - 1) j' (by omega) k2.2
 unfold inB at q1 q2 c3
 unfold Rect.Fit at f1 f2
 simp only[qB,decide_eq_true_eq]at q1 q2 c3
 by_cases hc:r2.row<(L:Int)
 ·exact absurd (c3 (by omega)) k3
 omega
theorem yhj {p:List Txt} (hp:zb1 p=true) (b:Nat):rkL p b≤100∧rkA p b≤100:=by
 have hN:=zel hp
 have hsm:=zct hN.hg
 obtain ⟨row0,hr0,hm0⟩:=zae hsm.1
 have hh:=zc2 hr0
 have hw6:=hsm.2.2 row0 hm0
 have hw1:=zg5 hN.hg hr0
 rw [← hh]at hw6 hw1
 have hok:=(zg8 (g:=za7 p) hw6 hw1 p.length hsm.2.1).1
 rw [← ybq]at hok
 unfold rkL rkA
 cases hb:(rP p)[b]? with
 | none=>simp
 | some r =>
  have:=hok.2 r (List.mem_of_getElem? hb)
  unfold Rect.Fit at this
  simp only
  omega
theorem yfg {p:List Txt} (hp:zb1 p=true):Up (zxf (gP p) p.length (zag p).length (rP p).length) (rP p).length (rkL p)∧Up (zod (gP p) p.length (zag p).length (rP p).length) (rP p).length (rkA p):=by
 have h:=Rise.ord (r0:=rkL p) (r1:=rkA p) (zes (p:=p)) (fun w hw hl=>z8c hp hw hl) (fun w hw hl=>z4k hp hw hl) (zcv (gP p) p.length (zag p).length) zd0 (M:=(zb3 (rP p).length,zb3 (rP p).length)) Rise.empty Rise.empty
 have h0:=h.1.close
 have h1:=h.2.close
 exact ⟨⟨h0.1,h0.2,fun b=>(yhj hp b).1⟩,⟨h1.1,h1.2,fun b=>(yhj hp b).2⟩⟩
theorem zj8 {p:List Txt} (hp:zcz p=true):zv8 (gP p) p.length (w0 (za7 p)) (rP p).length∧(∃ rk,Up (zxf (gP p) p.length (w0 (za7 p)) (rP p).length) (rP p).length rk)∧∃ rk,Up (zod (gP p) p.length (w0 (za7 p)) (rP p).length) (rP p).length rk:=by
 rw [zbl]at hp
 have h:=yfg (zc0 hp)
 rw [zfd]
 exact ⟨zes,⟨_,h.1⟩,⟨_,h.2⟩⟩
section
open Go Go.ChangeShapes Go.WideShapes Go.ChangeAt Go.RowKit
set_option maxRecDepth 100000 in
theorem yb7 {W:World} {base:Nat} {t e:TypeId} {a:Addr} {len cap:Nat} (ht:Tryz.prog.underlying t=some (.slice e)) (hval:Value.okWide Tryz.prog W .any base t (.slice (some a) len cap)):a.spot=none∧a.block<W.heap.size:=by
 simp only[Value.okWide,ht,Cell.okWide,Cell.ok]at hval
 obtain ⟨-,-,-,hsp,row,cells,hsh,-⟩:=hval
 refine ⟨hsp,?_⟩
 unfold World.shape? at hsh
 rcases Nat.lt_or_ge a.block W.heap.size with h | h
 ·exact h
 rw [Array.getElem?_eq_none h]at hsh; cases hsh
end
section
open Go Go.ChangeShapes Go.WideShapes Go.ChangeAt Go.RowKit
set_option maxRecDepth 100000 in
theorem yce {H:Type} {enc:TypeId × Value→H} {W:World} {base:Nat} {v:Value} {d:DataW H} {ps:List MemPlace} (hval:Value.okWide Tryz.prog W .any base 29 v) (h:DataW.Trod enc Tryz.prog W 0 (fun _=>true) true 29 v d ps) :
  ∃ p:Txt,VI W.heap (fun b=>b<W.heap.size) (.sl (p.map eB) p.length) v∧p.length≤9223372036854775807:=by
 obtain ⟨a0,len,cap,rfl⟩:=okWide_slice Tryz.underlying29 hval
 obtain ⟨fuel,hf⟩:=h
 rcases open_ints Tryz.underlying29 Tryz.underlying5 (by kernel_rfl) hf with ⟨hcs,hx⟩ | ⟨a,len',cap',zs,hcs,-,hl,hm,hz,hx,hcell,hwf⟩
 ·simp [Value.cells]at hcs
  obtain ⟨rfl,rfl,rfl⟩:=hcs
  exact ⟨[],.sl0,by simp⟩
 simp [Value.cells]at hcs
 obtain ⟨rfl,rfl,rfl⟩:=hcs
 obtain ⟨hsp,hlt⟩:=yb7 Tryz.underlying29 hval
 obtain ⟨b,off,spot⟩:=a
 simp only at hsp hlt
 subst hsp
 simp only[if_true]at hz
 have hml:maxLen≤9223372036854775807:=by decide
 have hlen:((zs.take len).map fun n:Int=>UInt8.ofNat n.toNat).length=len:=by simp; omega
 have hget:∀ (i:Nat) c,((zs.take len).map fun n:Int=>UInt8.ofNat n.toNat)[i]?=some c→i<len∧(c.toNat:Int)=zs.getD i 0:=by
  intro i c hc
  rw [List.getElem?_map,qI]at hc
  obtain ⟨z,hz1,rfl⟩:=hc
  have hi:=za2 hz1
  simp only[List.length_take]at hi
  rw [List.getElem?_take_of_lt (by omega)]at hz1
  refine ⟨by omega,?_⟩
  rw [List.getD_eq_getElem?_getD,hz1,Option.getD_some]
  have hw:=hwf z (List.mem_of_getElem? hz1)
  have hz8:0≤z∧z<256:=by
   have e:IntKind.u8.min≤z∧z≤IntKind.u8.max:=by simpa [Lit.wf] using hw
   have e1:IntKind.u8.min=0:=by decide
   have e2:IntKind.u8.max=255:=by decide
   omega
  have e3:(UInt8.ofNat z.toNat).toNat=z.toNat % 256:=rfl
  rw [e3]
  omega
 refine ⟨(zs.take len).map fun n:Int=>UInt8.ofNat n.toNat,?_,by rw [hlen]; omega⟩
 rw [hlen]
 refine .sl _ _ b off cap (fun i => .int .u8 (zs.getD i 0)) (fun _=>hlt) hl (fun i q hq=>?_) (fun i q hq=>?_)
 ·rw [List.getElem?_map,qI]at hq
  obtain ⟨c,hc,rfl⟩:=hq
  obtain ⟨hi,-⟩:=hget i c hc
  refine ⟨rfl,?_⟩
  rw [← zf4]
  have:=hcell i (by omega)
  rwa [add_lit]at this
 rw [List.getElem?_map,qI]at hq
 obtain ⟨c,hc,rfl⟩:=hq
 obtain ⟨-,e⟩:=hget i c hc
 show VI _ _ (.int .u8 (c.toNat:Int)) _
 rw [e]
 exact .int _ _
end
section
structure Pl (c:Nat→Nat→Nat) (H W:Nat):Prop where
 rect:∀ {i j i' j':Nat} (k l:Nat),i<H→i'<H→j<W→j'<W→c i j=c i' j'→min i i'≤k→k≤max i i'→min j j'≤l→l≤max j j'→c k l=c i j
 plain:∀ {i j:Nat},i+1<H→j+1<W→c i j≠c i (j+1)→c (i+1) j≠c (i+1) (j+1)→c i j≠c (i+1) j→c i (j+1)=c (i+1) (j+1)
def DL (c:Nat→Nat→Nat) (H W a b:Nat):Prop:=∃ j i1 i2,j+1<W∧i1<H∧i2<H∧(∀ r,min i1 i2≤r→r≤max i1 i2→c r j≠c r (j+1))∧a=c i1 j∧b=c i2 (j+1)
def DU (c:Nat→Nat→Nat) (H W a b:Nat):Prop:=∃ i j1 j2,i+1<H∧j1<W∧j2<W∧(∀ k,min j1 j2≤k→k≤max j1 j2→c i k≠c (i+1) k)∧a=c i j1∧b=c (i+1) j2
theorem zu6 {P:Nat→Prop}:∀ {n:Nat},P n→∃ m,m≤n∧P m∧∀ k,k<m→¬ P k:=by
 intro n
 induction n using Nat.strongRecOn with
 | _ n ih =>
  intro h
  by_cases c:∃ k,k<n∧P k
  ·obtain ⟨k,hk,hp⟩:=c
   obtain ⟨m,h1,h2,h3⟩:=ih k hk hp
   exact ⟨m,by omega,h2,h3⟩
  exact ⟨n,qR _,h,fun k hk hp=>c ⟨k,hk,hp⟩⟩
theorem zzo {P:Nat→Prop} {i:Nat}:∀ {n:Nat},i≤n→P i→¬ P n→∃ e,i≤e∧e+1≤n∧P e∧¬ P (e+1)
 | 0,h,h1,h2=>by
    obtain rfl:i=0:=by omega
    exact absurd h1 h2
 | n+1,h,h1,h2=>by
  by_cases c:P n
  ·by_cases e:i=n+1
   ·subst e; exact absurd h1 h2
   exact ⟨n,by omega,qR _,c,h2⟩
  by_cases e:i=n+1
  ·subst e; exact absurd h1 h2
  obtain ⟨m,k1,k2,k3⟩:=zzo (P:=P) (i:=i) (n:=n) (by omega) h1 c
  exact ⟨m,k1,by omega,k3⟩
section
variable {c:Nat→Nat→Nat} {H W:Nat}
def Stair (c:Nat→Nat→Nat) (H W:Nat) (Z:Nat→Prop):Prop:=∀ {i j:Nat} (i' j':Nat),i<H→j<W→i'≤i→j'≤j→Z (c i j)→Z (c i' j')
def Free (c:Nat→Nat→Nat) (H W:Nat) (Z:Nat→Prop):Prop:=∃ i j,i<H∧j<W∧¬ Z (c i j)∧(∀ a,DL c H W a (c i j)∨DU c H W a (c i j)→Z a)∧Stair c H W fun x=>Z x∨x=c i j
theorem z6u (h:Pl c H W) {Z:Nat→Prop} (hZ:Stair c H W Z) {i j:Nat} (hi:i<H) (hj:j<W) (hn:¬ Z (c i j)) (hu:∀ i',i'+1=i→Z (c i' j)) (hl:∀ j',j'+1=j→Z (c i j'))
  (hN:∀ i',i'+1=i→∀ k,j≤k→k<W→(∀ l,j≤l→l≤k→c i' l≠c i l)→Z (c i' k))
  (hA:∀ j',j'+1=j→∀ k,i≤k→k<H→(∀ r,i≤r→r≤k→c r j'≠c r j)→Z (c k j')):Free c H W Z:=by
 have up:∀ {i2 j2:Nat},i2<H→j2<W→c i2 j2=c i j→i≤i2:=by
  intro i2 j2 h1 h2 h3
  by_cases q:i≤i2
  ·exact q
  have h4:=hu (i - 1) (by omega)
  rw [h.rect (i - 1) j h1 hi h2 hj h3 (by omega) (by omega) (by omega) (by omega),h3]at h4
  exact absurd h4 hn
 have lf:∀ {i2 j2:Nat},i2<H→j2<W→c i2 j2=c i j→j≤j2:=by
  intro i2 j2 h1 h2 h3
  by_cases q:j≤j2
  ·exact q
  have h4:=hl (j - 1) (by omega)
  rw [h.rect i (j - 1) h1 hi h2 hj h3 (by omega) (by omega) (by omega) (by omega),h3]at h4
  exact absurd h4 hn
 have runL:∀ {i2 j2 r j':Nat},i2<H→j2<W→c i2 j2=c i j→j'+1=j→i≤r→r≤i2→c r j'≠c r j:=by
  intro i2 j2 r j' h1 h2 h3 h4 h5 h6 h7
  have h8:=lf h1 h2 h3
  have e1:c r j=c i j:=by
   rw [h.rect r j h1 hi h2 hj h3 (by omega) (by omega) (by omega) (by omega),h3]
  have h9:=lf (i2:=r) (j2:=j') (by omega) (by omega) (by rw [h7,e1])
  omega
 have runU:∀ {i2 j2 l i':Nat},i2<H→j2<W→c i2 j2=c i j→i'+1=i→j≤l→l≤j2→c i' l≠c i l:=by
  intro i2 j2 l i' h1 h2 h3 h4 h5 h6 h7
  have h8:=up h1 h2 h3
  have e1:c i l=c i j:=by
   rw [h.rect i l h1 hi h2 hj h3 (by omega) (by omega) (by omega) (by omega),h3]
  have h9:=up (i2:=i') (j2:=l) (by omega) (by omega) (by rw [h7,e1])
  omega
 refine ⟨i,j,hi,hj,hn,?_,?_⟩
 ·rintro a (⟨j0,i1,i2,k1,k2,k3,run,rfl,k4⟩ | ⟨i0,j1,j2,k1,k2,k3,run,rfl,k4⟩)
  ·have h1:=lf k3 k1 k4.symm
   have e:j0+1=j:=by
    by_cases q:j0+1=j
    ·exact q
    have:=h.rect i2 j0 k3 hi k1 hj k4.symm (by omega) (by omega) (by omega) (by omega)
    exact absurd this (run i2 (by omega) (by omega))
   subst e
   have h2:=up k3 k1 k4.symm
   by_cases q:i1<i
   ·exact hZ i1 j0 hi (by omega) (by omega) (qR _) (hl j0 rfl)
   refine hA j0 rfl i1 (by omega) k2 fun r r1 r2=>?_
   by_cases q2:min i1 i2≤r
   ·exact run r q2 (by omega)
   exact runL k3 k1 k4.symm rfl r1 (by omega)
  have h1:=up k1 k3 k4.symm
  have e:i0+1=i:=by
   by_cases q:i0+1=i
   ·exact q
   have:=h.rect i0 j2 k1 hi k3 hj k4.symm (by omega) (by omega) (by omega) (by omega)
   exact absurd this (run j2 (by omega) (by omega))
  subst e
  have h2:=lf k1 k3 k4.symm
  by_cases q:j1<j
  ·exact hZ i0 j1 (by omega) hj (qR _) (by omega) (hu i0 rfl)
  refine hN i0 rfl j1 (by omega) k2 fun r r1 r2=>?_
  by_cases q2:min j1 j2≤r
  ·exact run r q2 (by omega)
  exact runU k1 k3 k4.symm rfl r1 (by omega)
 intro i2 k2 i' j' h1 h2 h3 h4 h5
 rcases h5 with h5 | h5
 ·exact .inl (hZ i' j' h1 h2 h3 h4 h5)
 have q1:=up h1 h2 h5
 have q2:=lf h1 h2 h5
 by_cases q3:i'<i
 ·left
  refine hZ i' j' (show i - 1<H by omega) h2 (by omega) h4 (hN (i - 1) (by omega) k2 q2 h2 fun l l1 l2=>runU h1 h2 h5 (by omega) l1 l2)
 by_cases q4:j'<j
 ·left
  exact hZ i' j' h1 (show j - 1<W by omega) h3 (by omega) (hA (j - 1) (by omega) i2 q1 h1 fun r r1 r2=>runL h1 h2 h5 (by omega) r1 r2)
 right
 rw [h.rect i' j' h1 hi h2 hj h5 (by omega) (by omega) (by omega) (by omega),h5]
theorem z6t (h:Pl c H W) {Z:Nat→Prop} (hZ:Stair c H W Z):∀ (j i:Nat),i<H→j<W→¬ Z (c i j)→(∀ i',i'+1=i→Z (c i' j))→(∀ j',j'+1=j→Z (c i j')) →
  (∀ i',i'+1=i→∀ k,j≤k→k<W→(∀ l,j≤l→l≤k→c i' l≠c i l)→Z (c i' k))→Free c H W Z:=by
 intro j
 induction j using Nat.strongRecOn with
 | _ j ih =>
  intro i hi hj hn hu hl hN
  by_cases hA:∀ j',j'+1=j→∀ k,i≤k→k<H→(∀ r,i≤r→r≤k→c r j'≠c r j)→Z (c k j')
  ·exact z6u h hZ hi hj hn hu hl hN hA
  simp only[Classical.not_forall]at hA
  obtain ⟨j',rfl,k,h1,h2,run,h3⟩:=hA
  obtain ⟨e,e1,e2,e3,e4⟩:=zzo (P:=fun r=>Z (c r j')) h1 (hl j' rfl) h3
  obtain ⟨m,m1,m2,m3⟩:=zu6 (P:=fun l=>¬ Z (c (e+1) l)) e4
  refine ih m (by omega) (e+1) (by omega) (by omega) m2 ?_ ?_ ?_
  ·intro i' hi'
   obtain rfl:i'=e:=by omega
   exact hZ i' m (by omega) (by omega) (qR _) m1 e3
  ·intro l hl'
   exact Classical.not_not.1 (m3 l (by omega))
  intro i' hi' k2 k3 k4 k5
  obtain rfl:i'=e:=by omega
  by_cases q:k2≤j'
  ·exact hZ i' k2 (by omega) (by omega) (qR _) q e3
  have q1:=k5 (j'+1) (by omega) (by omega)
  have q2:=h.plain (i:=i') (j:=j') (by omega) hj (run i' (by omega) (by omega)) (run (i'+1) (by omega) (by omega)) (fun q3=>e4 (by rw [← q3]; exact e3))
  exact absurd q2 q1
theorem yem (h:Pl c H W) {Z:Nat→Prop} (hZ:Stair c H W Z) (hx:∃ i j,i<H∧j<W∧¬ Z (c i j)):Free c H W Z:=by
 obtain ⟨i,hx⟩:=hx
 obtain ⟨i,-,⟨j,h1,h2,h3⟩,h4⟩:=zu6 (P:=fun i=>∃ j,i<H∧j<W∧¬ Z (c i j)) hx
 obtain ⟨j,j1,j2,j3⟩:=zu6 (P:=fun j=>¬ Z (c i j)) h3
 have all:∀ i',i'+1=i→∀ k,k<W→Z (c i' k):=fun i' e k hk=>Classical.byContradiction fun q=>h4 i' (by omega) ⟨k,by omega,hk,q⟩
 exact z6t h hZ j i h1 (by omega) j2 (fun i' e=>all i' e j (by omega)) (fun j' e=>Classical.not_not.1 (j3 j' (by omega))) (fun i' e k _ hk _=>all i' e k hk)
theorem z4f (h:Pl c H W) {n:Nat} (hc:∀ i j,i<H→j<W→c i j<n):∀ (m:Nat) (Z:Nat→Bool),Stair c H W (fun x=>Z x=true)→(List.range n).countP (fun x => !Z x)≤m→∃ f:Nat→Nat,∀ a b,Z a=false→Z b=false→DL c H W a b∨DU c H W a b→f a<f b:=by
 have cell:∀ {a b:Nat},DL c H W a b∨DU c H W a b→∃ i j,i<H∧j<W∧a=c i j:=by
  rintro a b (⟨j0,i1,i2,k1,k2,k3,run,rfl,k4⟩ | ⟨i0,j1,j2,k1,k2,k3,run,rfl,k4⟩)
  ·exact ⟨i1,j0,k2,by omega,rfl⟩
  exact ⟨i0,j1,by omega,k2,rfl⟩
 intro m
 induction m with
 | zero =>
  intro Z hZ hm
  refine ⟨fun _=>0,fun a b ha hb hd=>?_⟩
  obtain ⟨i,j,hi,hj,rfl⟩:=cell hd
  have h0:(List.range n).countP (fun x => !Z x)=0:=by omega
  rw [List.countP_eq_zero]at h0
  exact absurd (show (!Z (c i j))=true by rw [ha]; rfl) (h0 _ (by simpa using hc i j hi hj))
 | succ m ih =>
  intro Z hZ hm
  by_cases hx:∃ i j,i<H∧j<W∧¬ (Z (c i j)=true)
  ·obtain ⟨i,j,hi,hj,hn,hp,hs⟩:=yem h (Z:=fun x=>Z x=true) hZ hx
   have hZ':Stair c H W (fun x=>(Z x || x == c i j)=true):=by
    intro i1 j1 i' j' h1 h2 h3 h4 h5
    have h6:=hs i' j' h1 h2 h3 h4 (by simpa using h5)
    simpa using h6
   have hlt:(List.range n).countP (fun x => !(Z x || x == c i j))<(List.range n).countP (fun x => !Z x):=by
    refine zpd (fun x _ hx=>?_) ⟨c i j,by simpa using hc i j hi hj,by simpa using hn,by simp⟩
    cases hz:Z x with
    | false=>rfl
    | true=>rw [hz]at hx; simp at hx
   obtain ⟨f,hf⟩:=ih (fun x=>Z x || x == c i j) hZ' (by omega)
   refine ⟨fun x=>if x=c i j then 0 else f x+1,fun a b ha hb hd=>?_⟩
   have hbA:b≠c i j:=by
    rintro rfl
    have q:Z a=true:=hp a hd
    rw [ha]at q; cases q
   simp only[if_neg hbA]
   by_cases haA:a=c i j
   ·simp only[if_pos haA]; omega
   simp only[if_neg haA]
   have:=hf a b (by simp [ha,haA]) (by simp [hb,hbA]) hd
   omega
  refine ⟨fun _=>0,fun a b ha hb hd=>?_⟩
  obtain ⟨i,j,hi,hj,rfl⟩:=cell hd
  exact absurd ⟨i,j,hi,hj,by rw [ha]; exact Bool.false_ne_true⟩ hx
theorem z16 (h:Pl c H W) {n:Nat} (hc:∀ i j,i<H→j<W→c i j<n):∃ f:Nat→Nat,∀ a b,DL c H W a b∨DU c H W a b→f a<f b:=by
 obtain ⟨f,hf⟩:=z4f h hc _ (fun _=>false) (fun _ _ _ _ _ _ h=>h) (qR _)
 exact ⟨f,fun a b hd=>hf a b rfl rfl hd⟩
def fl (c:Nat→Nat→Nat) (H i j:Nat):Nat:=c (H - 1 - i) j
def tr (c:Nat→Nat→Nat) (i j:Nat):Nat:=c j i
theorem Pl.dn (h:Pl c H W):Pl (fl c H) H W:=by
 refine ⟨fun k l h1 h2 h3 h4 h5 h6 h7 h8 h9=>?_,fun {i j} h1 h2 h3 h4 h5=>?_⟩
 ·exact h.rect _ _ (by omega) (by omega) h3 h4 h5 (by omega) (by omega) h8 h9
 unfold Fw.fl at *
 obtain ⟨k,rfl⟩:∃ k,H=i+2+k:=⟨H - (i+2),by omega⟩
 rw [show i+2+k - 1 - i=k+1 by omega,show i+2+k - 1 - (i+1)=k by omega] at *
 exact (h.plain (i:=k) (j:=j) (by omega) h2 h4 h3 (Ne.symm h5)).symm
theorem Pl.ex (h:Pl c H W):Pl (tr c) W H :=
 ⟨fun k l h1 h2 h3 h4 h5 h6 h7 h8 h9=>h.rect l k h3 h4 h1 h2 h5 h8 h9 h6 h7,fun {i j} h1 h2 h3 h4 h5=>by
  unfold Fw.tr at *
  by_cases q:c j i=c j (i+1)
  ·exact absurd q h5
  by_cases q2:c (j+1) i=c (j+1) (i+1)
  ·exact q2
  exact absurd (h.plain (i:=j) (j:=i) h2 h1 h5 q2 h3) h4⟩
theorem DL.ex {a b:Nat} (h:DL (tr c) W H a b):DU c H W a b:=h
theorem DU.ex {a b:Nat} (h:DU (tr c) W H a b):DL c H W a b:=h
theorem DL.dn {a b:Nat} (h:DL (fl c H) H W a b):DL c H W a b:=by
 obtain ⟨j,i1,i2,h1,h2,h3,run,rfl,rfl⟩:=h
 refine ⟨j,H - 1 - i1,H - 1 - i2,h1,by omega,by omega,fun r r1 r2=>?_,rfl,rfl⟩
 have:=run (H - 1 - r) (by omega) (by omega)
 unfold Fw.fl at this
 rwa [show H - 1 - (H - 1 - r)=r by omega]at this
theorem DL.unfl {a b:Nat} (h:DL c H W a b):DL (fl c H) H W a b:=by
 obtain ⟨j,i1,i2,h1,h2,h3,run,rfl,rfl⟩:=h
 refine ⟨j,H - 1 - i1,H - 1 - i2,h1,by omega,by omega,fun r r1 r2=>?_,?_,?_⟩
 ·exact run (H - 1 - r) (by omega) (by omega)
 ·unfold Fw.fl; rw [show H - 1 - (H - 1 - i1)=i1 by omega]
 unfold Fw.fl; rw [show H - 1 - (H - 1 - i2)=i2 by omega]
theorem DU.dn {a b:Nat} (h:DU (fl c H) H W a b):DU c H W b a:=by
 obtain ⟨i,j1,j2,h1,h2,h3,run,rfl,rfl⟩:=h
 refine ⟨H - 1 - (i+1),j2,j1,by omega,h3,h2,fun k k1 k2=>?_,?_,?_⟩
 ·have:=run k (by omega) (by omega)
  unfold Fw.fl at this
  rw [show H - 1 - (i+1)+1=H - 1 - i by omega]
  exact Ne.symm this
 ·rfl
 unfold Fw.fl; rw [show H - 1 - (i+1)+1=H - 1 - i by omega]
theorem DU.unfl {a b:Nat} (h:DU c H W a b):DU (fl c H) H W b a:=by
 obtain ⟨i,j1,j2,h1,h2,h3,run,rfl,rfl⟩:=h
 refine ⟨H - 1 - (i+1),j2,j1,by omega,h3,h2,fun k k1 k2=>?_,?_,?_⟩
 ·unfold Fw.fl
  rw [show H - 1 - (H - 1 - (i+1))=i+1 by omega,show H - 1 - (H - 1 - (i+1)+1)=i by omega]
  exact Ne.symm (run k (by omega) (by omega))
 ·unfold Fw.fl; rw [show H - 1 - (H - 1 - (i+1))=i+1 by omega]
 unfold Fw.fl; rw [show H - 1 - (H - 1 - (i+1)+1)=i by omega]
theorem z73 (h:Pl c H W) {n:Nat} (hc:∀ i j,i<H→j<W→c i j<n):∃ f:Nat→Nat,∀ a b,DL c H W a b∨DU c H W b a→f a<f b:=by
 obtain ⟨f,hf⟩:=z16 h.dn (n:=n) (fun i j hi hj=>hc _ j (by omega) hj)
 refine ⟨f,fun a b hd=>hf a b ?_⟩
 rcases hd with hd | hd
 ·exact .inl hd.unfl
 exact .inr hd.unfl
inductive TC (R:Nat→Nat→Prop):Nat→Nat→Prop
 | one {a b:Nat}:R a b→TC R a b
 | tail {a b d:Nat}:TC R a b→R b d→TC R a d
theorem TC.mono {R S:Nat→Nat→Prop} (h:∀ a b,R a b→S a b) {a b:Nat} (k:TC R a b):TC S a b:=by
 induction k with
 | one k=>exact .one (h _ _ k)
 | tail _ k ih=>exact .tail ih (h _ _ k)
theorem TC.trans {R:Nat→Nat→Prop} {a b d:Nat} (h:TC R a b) (k:TC R b d):TC R a d:=by
 induction k with
 | one k=>exact .tail h k
 | tail _ k ih=>exact .tail ih k
theorem TC.rev {R S:Nat→Nat→Prop} (h:∀ a b,R a b→S b a) {a b:Nat} (k:TC R a b):TC S b a:=by
 induction k with
 | one k=>exact .one (h _ _ k)
 | tail _ k ih=>exact (TC.one (h _ _ k)).trans ih
theorem TC.last {R:Nat→Nat→Prop} {a b:Nat} (h:TC R a b):∃ x,(x=a∨TC R a x)∧R x b:=by
 cases h with
 | one k=>exact ⟨a,.inl rfl,k⟩
 | tail h k=>exact ⟨_,.inr h,k⟩
theorem TC.rise {R:Nat→Nat→Prop} {f:Nat→Nat} (h:∀ a b,R a b→f a<f b) {a b:Nat} (k:TC R a b):f a<f b:=by
 induction k with
 | one k=>exact h _ _ k
 | tail _ k ih=>exact Nat.lt_trans ih (h _ _ k)
theorem zpv {i:Nat} (hi:i<H) {j1:Nat}:∀ {j2:Nat},j1≤j2→j2<W→c i j1≠c i j2→TC (DL c H W) (c i j1) (c i j2)
 | 0,h1,_,h3=>by
    obtain rfl:j1=0:=by omega
    exact absurd rfl h3
 | j2+1,h1,h2,h3=>by
  by_cases e:j1=j2+1
  ·subst e; exact absurd rfl h3
  by_cases q:c i j2=c i (j2+1)
  ·rw [← q]at h3 ⊢
   exact zpv hi (by omega) (by omega) h3
  have hd:DL c H W (c i j2) (c i (j2+1)):=⟨j2,i,i,h2,hi,hi,fun r r1 r2=>by
  obtain rfl:r=i:=by omega
  exact q,rfl,rfl⟩
  by_cases q2:c i j1=c i j2
  ·rw [q2]; exact .one hd
  exact .tail (zpv hi (by omega) (by omega) q2) hd
theorem yaq {j:Nat} (hj:j<W) {i1 i2:Nat} (h1:i1≤i2) (h2:i2<H) (h3:c i1 j≠c i2 j):TC (DU c H W) (c i1 j) (c i2 j) :=
 (zpv (c:=tr c) (H:=W) (W:=H) hj h1 h2 h3).mono fun _ _ h=>h.ex
theorem pass (h:Pl c H W) {r q A:Nat} (hr:r+1<H) (hq:q+1<W) (hNP:c r q=c (r+1) q) (hP:c (r+1) q≠c (r+1) (q+1)) (hQ:c r (q+1)≠c (r+1) (q+1))
  (h1:c (r+1) q=A∨TC (DL c H W) A (c (r+1) q)∨TC (DU c H W) A (c (r+1) q)) (h2:c r (q+1)=A∨TC (DL c H W) A (c r (q+1))∨TC (DU c H W) A (c r (q+1))) :
  TC (DL c H W) A (c (r+1) (q+1))∨TC (DU c H W) A (c (r+1) (q+1)):=by
 have hNQ:c r q≠c r (q+1):=by
  intro e
  have:=h.rect (i:=r+1) (j:=q) (i':=r) (j':=q+1) (r+1) (q+1) hr (by omega) (by omega) hq (by rw [← hNP,e]) (by omega) (by omega) (by omega) (by omega)
  exact hP this.symm
 have dP:DL c H W (c (r+1) q) (c (r+1) (q+1)):=⟨q,r+1,r+1,hq,hr,hr,fun x x1 x2=>by
    obtain rfl:x=r+1:=by omega
    exact hP,rfl,rfl⟩
 have dQ:DU c H W (c r (q+1)) (c (r+1) (q+1)):=⟨r,q+1,q+1,hr,hq,hq,fun x x1 x2=>by
    obtain rfl:x=q+1:=by omega
    exact hQ,rfl,rfl⟩
 rcases h1 with rfl | h1 | h1
 ·exact .inl (.one dP)
 ·exact .inl (.tail h1 dP)
 rcases h2 with rfl | h2 | h2
 ·exact .inr (.one dQ)
 ·left
  obtain ⟨x,hx,j0,i1,i2,k1,k2,k3,run,rfl,k4⟩:=h2.last
  have e:j0=q:=by
   by_cases q1:j0<q
   ·have:=h.rect r q k3 (show r<H by omega) k1 hq k4.symm (by omega) (by omega) (by omega) (by omega)
    rw [← k4]at this
    exact absurd this hNQ
   by_cases q2:q<j0
   ·have:=h.rect i2 j0 k3 (show r<H by omega) k1 hq k4.symm (by omega) (by omega) (by omega) (by omega)
    exact absurd this (run i2 (by omega) (by omega))
   omega
  subst e
  have hd:DL c H W (c i1 j0) (c (r+1) (j0+1)):=by
   refine ⟨j0,i1,r+1,hq,k2,hr,fun x x1 x2=>?_,rfl,rfl⟩
   by_cases q1:min i1 i2≤x∧x≤max i1 i2
   ·exact run x q1.1 q1.2
   by_cases q2:x=r+1
   ·subst q2; exact hP
   intro q3
   have e1:=h.rect x (j0+1) k3 (show r<H by omega) k1 hq k4.symm (by omega) (by omega) (by omega) (by omega)
   rw [← k4]at e1
   have e2:=h.rect (i:=x) (j:=j0) (i':=r) (j':=j0+1) r j0 (by omega) (by omega) (by omega) hq (by rw [q3,e1]) (by omega) (by omega) (by omega) (by omega)
   rw [q3,e1]at e2
   exact hNQ e2
  rcases hx with hx | hx
  ·rw [hx]at hd; exact .one hd
  exact .tail hx hd
 exact .inr (.tail h2 dQ)
theorem z0x (h:Pl c H W) {x y:Nat}:∀ (s:Nat) {i j:Nat},i+j≤s→x≤i→y≤j→i<H→j<W→c x y≠c i j→TC (DL c H W) (c x y) (c i j)∨TC (DU c H W) (c x y) (c i j):=by
 intro s
 induction s with
 | zero =>
  intro i j h1 h2 h3 h4 h5 h6
  obtain rfl:i=0:=by omega
  obtain rfl:j=0:=by omega
  obtain rfl:x=0:=by omega
  obtain rfl:y=0:=by omega
  exact absurd rfl h6
 | succ s ih =>
  intro i j h1 h2 h3 h4 h5 h6
  by_cases e1:x=i
  ·subst e1; exact .inl (zpv h4 h3 h5 h6)
  by_cases e2:y=j
  ·subst e2; exact .inr (yaq h5 h2 h4 h6)
  obtain ⟨r,rfl⟩:∃ r,i=r+1:=⟨i - 1,by omega⟩
  obtain ⟨q,rfl⟩:∃ q,j=q+1:=⟨j - 1,by omega⟩
  by_cases e3:c r (q+1)=c (r+1) (q+1)
  ·rw [← e3]at h6 ⊢
   exact ih (by omega) (by omega) h3 (by omega) h5 h6
  by_cases e4:c (r+1) q=c (r+1) (q+1)
  ·rw [← e4]at h6 ⊢
   exact ih (by omega) h2 (by omega) h4 (by omega) h6
  have iP:c (r+1) q=c x y∨TC (DL c H W) (c x y) (c (r+1) q)∨TC (DU c H W) (c x y) (c (r+1) q):=by
   by_cases k:c x y=c (r+1) q
   ·exact .inl k.symm
   exact .inr (ih (by omega) h2 (by omega) h4 (by omega) k)
  have iQ:c r (q+1)=c x y∨TC (DL c H W) (c x y) (c r (q+1))∨TC (DU c H W) (c x y) (c r (q+1)):=by
   by_cases k:c x y=c r (q+1)
   ·exact .inl k.symm
   exact .inr (ih (by omega) (by omega) h3 (by omega) h5 k)
  by_cases hNP:c r q=c (r+1) q
  ·exact pass h h4 h5 hNP e4 e3 iP iQ
  by_cases hNQ:c r q=c r (q+1)
  ·have:=pass (c:=tr c) (H:=W) (W:=H) h.ex (r:=q) (q:=r) (A:=c x y) h5 h4 hNQ e3 e4 ?_ ?_
   ·rcases this with k | k
    ·exact .inr (k.mono fun _ _ h=>h.ex)
    exact .inl (k.mono fun _ _ h=>h.ex)
   ·rcases iQ with k | k | k
    ·exact .inl k
    ·exact .inr (.inr k)
    exact .inr (.inl k)
   rcases iP with k | k | k
   ·exact .inl k
   ·exact .inr (.inr k)
   exact .inr (.inl k)
  exact absurd (h.plain h4 h5 hNQ e4 hNP) e3
theorem yca (h:Pl c H W) {x y i j:Nat} (hx:x<H) (hy:y<W) (hi:i<H) (hj:j<W) (hne:c x y≠c i j) :
  TC (DL c H W) (c x y) (c i j)∨TC (DL c H W) (c i j) (c x y)∨TC (DU c H W) (c x y) (c i j)∨TC (DU c H W) (c i j) (c x y):=by
 have key:∀ {x y i j:Nat},x<H→y<W→i<H→j<W→c x y≠c i j→x≤i→TC (DL c H W) (c x y) (c i j)∨TC (DL c H W) (c i j) (c x y)∨TC (DU c H W) (c x y) (c i j)∨TC (DU c H W) (c i j) (c x y):=by
  intro x y i j hx hy hi hj hne hle
  by_cases q:y≤j
  ·rcases z0x h _ (qR _) hle q hi hj hne with k | k
   ·exact .inl k
   exact .inr (.inr (.inl k))
  have e1:fl c H (H - 1 - i) j=c i j:=by unfold fl; rw [show H - 1 - (H - 1 - i)=i by omega]
  have e2:fl c H (H - 1 - x) y=c x y:=by unfold fl; rw [show H - 1 - (H - 1 - x)=x by omega]
  have:=z0x h.dn (x:=H - 1 - i) (y:=j) _ (i:=H - 1 - x) (j:=y) (qR _) (by omega) (by omega) (by omega) hy (by rw [e1,e2]; exact Ne.symm hne)
  rw [e1,e2]at this
  rcases this with k | k
  ·exact .inr (.inl (k.mono fun _ _ h=>h.dn))
  exact .inr (.inr (.inl (k.rev fun _ _ h=>h.dn)))
 by_cases q:x≤i
 ·exact key hx hy hi hj hne q
 rcases key hi hj hx hy (Ne.symm hne) (by omega) with k | k | k | k
 ·exact .inr (.inl k)
 ·exact .inl k
 ·exact .inr (.inr (.inr k))
 exact .inr (.inr (.inl k))
end
end
section
section
variable {n:Nat} {M:List (List Bool)}
theorem absorb {p q:Bool}:(p || (q && p))=p:=by cases p <;> cases q <;> rfl
theorem z6b (h:Sq n M) {k:Nat} (hk:k<n):∀ i,i≤n→Sq n ((List.range i).foldl (clA n k) M) ∧
  ∀ x y,x<n→y<n→zc4 ((List.range i).foldl (clA n k) M) x y=if x<i then zc4 M x y || (zc4 M x k && zc4 M k y) else zc4 M x y
 | 0,_=>⟨h,fun x y _ _=>by simp⟩
 | i+1,hi=>by
  obtain ⟨h1,h2⟩:=z6b h hk i (by omega)
  rw [zck]
  generalize (List.range i).foldl (clA n k) M=X at h1 h2 ⊢
  obtain ⟨h3,h4⟩:=z04 h1 hk (show i<n by omega) n (qR _)
  refine ⟨h3,fun x y hx hy=>?_⟩
  unfold clA
  rw [h4 x y hx hy]
  by_cases e:x=i
  ·subst e
   have e1:zc4 X x y=zc4 M x y:=by rw [h2 x y hx hy,if_neg (Nat.lt_irrefl _)]
   have e2:zc4 X x k=zc4 M x k:=by rw [h2 x k hx hk,if_neg (Nat.lt_irrefl _)]
   have e3:zc4 X k y=zc4 M k y:=by
    rw [h2 k y hk hy]
    split
    ·exact absorb
    rfl
   rw [if_pos ⟨rfl,hy⟩,if_pos (by omega),e1,e2,e3]
  rw [if_neg (fun q=>e q.1),h2 x y hx hy]
  by_cases e2:x<i
  ·rw [if_pos e2,if_pos (by omega)]
  rw [if_neg e2,if_neg (by omega)]
theorem yed (h:Sq n M) {k:Nat} (hk:k<n) {x y:Nat} (hx:x<n) (hy:y<n):zc4 (clK n M k) x y=(zc4 M x y || (zc4 M x k && zc4 M k y)):=by
 have:=(z6b h hk n (qR _)).2 x y hx hy
 rw [if_pos hx]at this
 exact this
theorem z07 (h:Sq n M):∀ i,i≤n→Sq n ((List.range i).foldl (clK n) M) ∧
  (∀ a b,a<n→b<n→zc4 M a b=true→zc4 ((List.range i).foldl (clK n) M) a b=true) ∧
  (∀ m a b,m<i→a<n→b<n→zc4 ((List.range i).foldl (clK n) M) a m=true→zc4 ((List.range i).foldl (clK n) M) m b=true→zc4 ((List.range i).foldl (clK n) M) a b=true) ∧
  (∀ T:Nat→Nat→Prop,(∀ a b d,T a b→T b d→T a d)→(∀ a b,a<n→b<n→zc4 M a b=true→T a b)→∀ a b,a<n→b<n→zc4 ((List.range i).foldl (clK n) M) a b=true→T a b)
 | 0,_=>⟨h,fun a b _ _ k=>k,fun m a b k=>by omega,fun T _ k=>k⟩
 | i+1,hi=>by
  obtain ⟨h1,h2,h3,h4⟩:=z07 h i (by omega)
  rw [zck]
  generalize (List.range i).foldl (clK n) M=X at h1 h2 h3 h4 ⊢
  have hin:i<n:=by omega
  have g:∀ {x y:Nat},x<n→y<n→(zc4 (clK n X i) x y=true↔zc4 X x y=true∨(zc4 X x i=true∧zc4 X i y=true)):=by
   intro x y hx hy
   rw [yed h1 hin hx hy]; simp
  refine ⟨(z6b h1 hin n (qR _)).1,fun a b ha hb k=>(g ha hb).2 (.inl (h2 a b ha hb k)),fun m a b hm ha hb k1 k2=>?_,fun T tr hT a b ha hb k=>?_⟩
  ·have hmn:m<n:=by omega
   rw [g ha hmn]at k1
   rw [g hmn hb]at k2
   rw [g ha hb]
   by_cases e:m=i
   ·subst e
    rcases k1 with k1 | k1 <;> rcases k2 with k2 | k2
    ·exact .inr ⟨k1,k2⟩
    ·exact .inr ⟨k1,k2.2⟩
    ·exact .inr ⟨k1.1,k2⟩
    exact .inr ⟨k1.1,k2.2⟩
   have hmi:m<i:=by omega
   rcases k1 with k1 | k1 <;> rcases k2 with k2 | k2
   ·exact .inl (h3 m a b hmi ha hb k1 k2)
   ·exact .inr ⟨h3 m a i hmi ha hin k1 k2.1,k2.2⟩
   ·exact .inr ⟨k1.1,h3 m i b hmi hin hb k1.2 k2⟩
   exact .inr ⟨k1.1,k2.2⟩
  rw [g ha hb]at k
  rcases k with k | k
  ·exact h4 T tr hT a b ha hb k
  exact tr a i b (h4 T tr hT a i ha hin k.1) (h4 T tr hT i b hin hb k.2)
def MR (n:Nat) (M:List (List Bool)) (a b:Nat):Prop:=a<n∧b<n∧zc4 M a b=true
theorem z06 (h:Sq n M) {a b:Nat} (ha:a<n) (hb:b<n):zc4 (zf8 M) a b=true↔TC (MR n M) a b:=by
 obtain ⟨h1,h2,h3,h4⟩:=z07 h n (qR _)
 have e:zf8 M=(List.range n).foldl (clK n) M:=by unfold zf8; rw [h.1]
 rw [e]
 constructor
 ·exact h4 (TC (MR n M)) (fun _ _ _ p q=>p.trans q) (fun a b ha hb k => .one ⟨ha,hb,k⟩) a b ha hb
 intro k
 induction k with
 | one k=>exact h2 _ _ k.1 k.2.1 k.2.2
 | tail _ k ih=>exact h3 _ _ _ k.1 ha k.2.1 (ih k.1) (h2 _ _ k.1 k.2.1 k.2.2)
end
def Cov (ws:List Wall) (level:Bool) (line i1 i2:Nat):Prop:=∃ w∈ws,w.level=level∧w.line=line∧w.fr≤i1∧(i2:Int)<w.fr+w.long
theorem Cov.app {ws vs:List Wall} {level:Bool} {line i1 i2:Nat} (h:Cov ws level line i1 i2):Cov (ws++vs) level line i1 i2:=by
 obtain ⟨w,hw,k⟩:=h
 exact ⟨w,List.mem_append_left _ hw,k⟩
theorem Cov.long {ws:List Wall} {w:Wall} {level:Bool} {line i1 i2:Nat} (h:Cov (ws++[w]) level line i1 i2):Cov (ws++[{ w with long:=w.long+1 }]) level line i1 i2:=by
 obtain ⟨v,hv,k1,k2,k3,k4⟩:=h
 rcases List.mem_append.1 hv with hv | hv
 ·exact ⟨v,List.mem_append_left _ hv,k1,k2,k3,k4⟩
 rw [List.mem_singleton]at hv
 subst hv
 exact ⟨_,List.mem_append_right _ (List.mem_singleton.2 rfl),k1,k2,k3,by simp only; omega⟩
def Run (g:List (List Int)) (level:Bool) (line i1 i2:Nat):Prop:=∀ j,i1≤j→j≤i2→zk2 g level line j=true
theorem zuf {g:List (List Int)} {level:Bool} {line:Nat} {ws:List Wall}:∀ n,(∀ lv ln i1 i2,Cov ws lv ln i1 i2→Cov (zb2 g level line ws n).1 lv ln i1 i2) ∧
  (∀ i1 i2,i1≤i2→i2<n→Run g level line i1 i2→Cov (zb2 g level line ws n).1 level line i1 i2) ∧
  ((zb2 g level line ws n).2=false→∀ m,n=m+1→zk2 g level line m=false) ∧
  ((zb2 g level line ws n).2=true→∃ (ws0:List Wall) (w:Wall),(zb2 g level line ws n).1=ws0++[w]∧w.level=level∧w.line=(line:Int)∧w.fr+w.long=(n:Int)∧1≤w.long∧∀ i:Nat,i<n→Run g level line i (n - 1)→w.fr≤(i:Int))
 | 0=>by
  rw [zlv]
  exact ⟨fun _ _ _ _ h=>h,fun i1 i2 _ h=>by omega,fun _ m h=>by omega,fun h=>by cases h⟩
 | n+1=>by
  obtain ⟨h1,h2,h3,h4⟩:=zuf (g:=g) (level:=level) (line:=line) (ws:=ws) n
  rw [zeg]
  generalize zb2 g level line ws n=s at h1 h2 h3 h4
  obtain ⟨l,op⟩:=s
  simp only at h1 h2 h3 h4
  cases hd:zk2 g level line n with
  | false =>
   have e:zex false level line n (l,op)=(l,false):=by simp [zex]
   rw [e]
   refine ⟨h1,fun i1 i2 k1 k2 k3=>?_,fun _ m hm=>(by have e0:m=n:=(by omega); rw [e0]; exact hd),fun h=>by cases h⟩
   by_cases e2:i2=n
   ·subst e2
    have:=k3 i2 k1 (qR _)
    rw [hd]at this; cases this
   exact h2 i1 i2 k1 (by omega) k3
  | true =>
   cases op with
   | false =>
    have e:zex true level line n (l,false)=(l++[⟨level,line,n,1⟩],true):=by simp [zex]
    rw [e]
    have hno:∀ m,n=m+1→zk2 g level line m=false:=h3 rfl
    have first:∀ i,i<n+1→Run g level line i n→i=n:=by
     intro i hi hr
     by_cases e2:i=n
     ·exact e2
     have:=hr (n - 1) (by omega) (by omega)
     rw [hno (n - 1) (by omega)]at this; cases this
    refine ⟨fun lv ln i1 i2 k=>(h1 lv ln i1 i2 k).app,fun i1 i2 k1 k2 k3=>?_,fun h=>(by cases h),fun _=>⟨l,_,rfl,rfl,rfl,by simp,by simp,fun i hi hr=>?_⟩⟩
    ·by_cases e2:i2=n
     ·subst e2
      obtain rfl:=first i1 (by omega) k3
      exact ⟨_,List.mem_append_right _ (List.mem_singleton.2 rfl),rfl,rfl,Int.le_refl _,by simp only; omega⟩
     exact (h2 i1 i2 k1 (by omega) k3).app
    have:=first i hi hr
    simp only; omega
   | true =>
    obtain ⟨ws0,w,rfl,w1,w2,w3,w4,w5⟩:=h4 rfl
    have e:zex true level line n (ws0++[w],true)=(ws0++[{ w with long:=w.long+1 }],true):=by simp [zex]
    rw [e]
    have hfr:∀ i:Nat,i<n+1→Run g level line i n→w.fr≤(i:Int):=by
     intro i hi hr
     by_cases e2:i=n
     ·omega
     exact w5 i (by omega) fun j j1 j2=>hr j j1 (by omega)
    refine ⟨fun lv ln i1 i2 k=>(h1 lv ln i1 i2 k).long,fun i1 i2 k1 k2 k3=>?_,fun h=>(by cases h),fun _=>⟨ws0,_,rfl,w1,w2,by simp only; omega,by simp only; omega,fun i hi hr=>hfr i hi hr⟩⟩
    by_cases e2:i2=n
    ·subst e2
     have:=hfr i1 (by omega) k3
     exact ⟨_,List.mem_append_right _ (List.mem_singleton.2 rfl),w1,w2,this,by simp only; omega⟩
    exact (h2 i1 i2 k1 (by omega) k3).long
theorem zlq {g:List (List Int)} {level:Bool} {places:Nat} {ws:List Wall}:∀ lines,(∀ lv ln i1 i2,Cov ws lv ln i1 i2→Cov (zb6 g level places ws lines) lv ln i1 i2) ∧
  (∀ line i1 i2,1≤line→line<lines→i1≤i2→i2<places→Run g level line i1 i2→Cov (zb6 g level places ws lines) level line i1 i2)
 | 0=>⟨fun _ _ _ _ h=>h,fun line _ _ _ h=>by omega⟩
 | k+1=>by
  obtain ⟨h1,h2⟩:=zlq (g:=g) (level:=level) (places:=places) (ws:=ws) k
  by_cases hk:1≤k
  ·rw [zew hk]
   obtain ⟨l1,l2,-,-⟩:=zuf (g:=g) (level:=level) (line:=k) (ws:=zb6 g level places ws k) places
   refine ⟨fun lv ln i1 i2 q=>l1 _ _ _ _ (h1 _ _ _ _ q),fun line i1 i2 q1 q2 q3 q4 q5=>?_⟩
   by_cases e:line=k
   ·subst e; exact l2 i1 i2 q3 q4 q5
   exact l1 _ _ _ _ (h2 line i1 i2 q1 (by omega) q3 q4 q5)
  obtain rfl:k=0:=by omega
  rw [zls]
  exact ⟨fun _ _ _ _ h=>h,fun line _ _ q1 q2=>by omega⟩
theorem zud {g:List (List Int)} {H W:Nat} {level:Bool} {line i1 i2:Nat} (h1:1≤line) (h2:line<if level then H else W) (h3:i1≤i2) (h4:i2<if level then W else H) (hr:Run g level line i1 i2):Cov (zcv g H W) level line i1 i2:=by
 unfold zcv
 obtain ⟨a1,a2⟩:=zlq (g:=g) (level:=false) (places:=H) (ws:=[]) W
 obtain ⟨b1,b2⟩:=zlq (g:=g) (level:=true) (places:=W) (ws:=zb6 g false H [] W) H
 cases level with
 | false=>exact b1 _ _ _ _ (a2 line i1 i2 h1 h2 h3 h4 hr)
 | true=>exact b2 line i1 i2 h1 h2 h3 h4 hr
section
variable {n:Nat}
theorem z2w {a:Int} (ha:0≤a∧a<n):∀ {bs:List Int} {M:List (List Bool)},Rm n bs→Sq n M→Sq n (relB a bs M)∧∀ x y,zc4 (relB a bs M) x y=true↔zc4 M x y=true∨(x=a.toNat∧∃ b∈bs,y=b.toNat)
 | [],M,_,h=>⟨h,fun x y=>by simp [relB]⟩
 | b::bs,M,hb,h=>by
  have hb0:=hb b (by simp)
  obtain ⟨k1,k2⟩:=z2w ha (bs:=bs) (M:=z43 M a.toNat b.toNat true) (fun x hx=>hb x (by simp [hx])) (h.set (by omega))
  refine ⟨k1,fun x y=>?_⟩
  have e:relB a (b::bs) M=relB a bs (z43 M a.toNat b.toNat true):=rfl
  rw [e,k2,zl7 h (by omega) (by omega)]
  by_cases q:x=a.toNat∧y=b.toNat
  ·rw [if_pos q]; simp [q.1,q.2]
  rw [if_neg q]
  constructor
  ·rintro (k | ⟨k,c,hc,rfl⟩)
   ·exact .inl k
   exact .inr ⟨k,c,by simp [hc],rfl⟩
  rintro (k | ⟨k,c,hc,rfl⟩)
  ·exact .inl k
  rcases List.mem_cons.1 hc with rfl | hc
  ·exact absurd ⟨k,rfl⟩ q
  exact .inr ⟨k,c,hc,rfl⟩
theorem zvl {bs:List Int} (hb:Rm n bs):∀ {la:List Int} {M:List (List Bool)},Rm n la→Sq n M→Sq n (relW M la bs)∧∀ x y,zc4 (relW M la bs) x y=true↔zc4 M x y=true∨(∃ a∈la,x=a.toNat)∧∃ b∈bs,y=b.toNat
 | [],M,_,h=>⟨h,fun x y=>by simp [relW]⟩
 | a::la,M,ha,h=>by
  obtain ⟨j1,j2⟩:=z2w (ha a (by simp)) hb h
  obtain ⟨k1,k2⟩:=zvl hb (la:=la) (M:=relB a bs M) (fun x hx=>ha x (by simp [hx])) j1
  refine ⟨k1,fun x y=>?_⟩
  have e:relW M (a::la) bs=relW (relB a bs M) la bs:=rfl
  rw [e,k2,j2]
  constructor
  ·rintro ((k | ⟨k,q⟩) | ⟨⟨c,hc,k⟩,q⟩)
   ·exact .inl k
   ·exact .inr ⟨⟨a,by simp,k⟩,q⟩
   exact .inr ⟨⟨c,by simp [hc],k⟩,q⟩
  rintro (k | ⟨⟨c,hc,k⟩,q⟩)
  ·exact .inl (.inl k)
  rcases List.mem_cons.1 hc with rfl | hc
  ·exact .inl (.inr ⟨k,q⟩)
  exact .inr ⟨⟨c,hc,k⟩,q⟩
def By (g:List (List Int)) (ws:List Wall) (lv:Bool) (x y:Nat):Prop:=∃ w∈ws,w.level=lv∧(∃ a∈(za0 g w).1,x=a.toNat)∧∃ b∈(za0 g w).2,y=b.toNat
theorem By.cons {g:List (List Int)} {w:Wall} {ws:List Wall} {lv:Bool} {x y:Nat}:By g (w::ws) lv x y↔(w.level=lv∧(∃ a∈(za0 g w).1,x=a.toNat)∧∃ b∈(za0 g w).2,y=b.toNat)∨By g ws lv x y:=by
 unfold By; simp
theorem zva {g:List (List Int)} {nh nw:Nat} (hrm:zv8 g nh nw n):∀ (ws:List Wall),(∀ w∈ws,zul g nh nw w)→∀ {M:List (List Bool) × List (List Bool)},Sq n M.1→Sq n M.2 →
  (Sq n (ws.foldl (znd g) M).1∧∀ x y,zc4 (ws.foldl (znd g) M).1 x y=true↔zc4 M.1 x y=true∨By g ws false x y) ∧
  (Sq n (ws.foldl (znd g) M).2∧∀ x y,zc4 (ws.foldl (znd g) M).2 x y=true↔zc4 M.2 x y=true∨By g ws true x y)
 | [],_,M,h0,h1=>⟨⟨h0,fun x y=>by simp [By]⟩,⟨h1,fun x y=>by simp [By]⟩⟩
 | w::ws,hws,M,h0,h1=>by
  obtain ⟨r1,r2⟩:=zfr hrm (hws w (by simp))
  rw [List.foldl_cons]
  cases hlv:w.level with
  | false =>
   obtain ⟨k1,k2⟩:=zvl r2 r1 h0
   have e:znd g M w=(relW M.1 (za0 g w).1 (za0 g w).2,M.2):=by unfold znd; rw [hlv]; rfl
   rw [e]
   obtain ⟨⟨a1,a2⟩,⟨b1,b2⟩⟩:=zva hrm ws (fun w hw=>hws w (by simp [hw])) (M:=(relW M.1 (za0 g w).1 (za0 g w).2,M.2)) k1 h1
   refine ⟨⟨a1,fun x y=>?_⟩,⟨b1,fun x y=>?_⟩⟩
   ·rw [a2,k2,By.cons,hlv]; simp only[true_and,or_assoc]
   rw [b2,By.cons,hlv]; simp
  | true =>
   obtain ⟨k1,k2⟩:=zvl r2 r1 h1
   have e:znd g M w=(M.1,relW M.2 (za0 g w).1 (za0 g w).2):=by unfold znd; rw [hlv]; rfl
   rw [e]
   obtain ⟨⟨a1,a2⟩,⟨b1,b2⟩⟩:=zva hrm ws (fun w hw=>hws w (by simp [hw])) (M:=(M.1,relW M.2 (za0 g w).1 (za0 g w).2)) h0 k1
   refine ⟨⟨a1,fun x y=>?_⟩,⟨b1,fun x y=>?_⟩⟩
   ·rw [a2,By.cons,hlv]; simp
   rw [b2,k2,By.cons,hlv]; simp only[true_and,or_assoc]
theorem zwz {x y:Nat}:zc4 (zb3 n) x y=false:=by
 unfold zc4 zb3
 rw [List.getElem?_replicate]
 split
 ·rw [Option.getD_some,List.getElem?_replicate]; split <;> rfl
 rfl
def cn (g:List (List Int)) (i j:Nat):Nat:=(gz g i j).toNat
theorem zv8.ne {g:List (List Int)} {nh nw:Nat} (h:zv8 g nh nw n) {i j i' j':Nat} (h1:i<nh) (h2:j<nw) (h3:i'<nh) (h4:j'<nw):gz g i j≠gz g i' j'↔cn g i j≠cn g i' j':=by
 have a:=h i j h1 h2
 have b:=h i' j' h3 h4
 unfold cn
 omega
theorem zyr {g:List (List Int)} {level:Bool} {line fr long j:Nat} (h1:fr≤j) (h2:j<fr+long):(zch g level line j).1∈(za0 g ⟨level,line,fr,long⟩).1:=by
 simp only[za0,Int.toNat_natCast]
 rw [zns]
 simp only[zbm,List.mem_map,List.mem_range]
 exact ⟨j - fr,by omega,by rw [show fr+(j - fr)=j by omega]⟩
theorem zys {g:List (List Int)} {level:Bool} {line fr long j:Nat} (h1:fr≤j) (h2:j<fr+long):(zch g level line j).2∈(za0 g ⟨level,line,fr,long⟩).2:=by
 simp only[za0,Int.toNat_natCast]
 rw [zns]
 simp only[zbm,List.mem_map,List.mem_range]
 exact ⟨j - fr,by omega,by rw [show fr+(j - fr)=j by omega]⟩
theorem z3b {g:List (List Int)} {level:Bool} {line fr long:Nat} {x:Int} (h:x∈(za0 g ⟨level,line,fr,long⟩).1):∃ j,fr≤j∧j<fr+long∧x=(zch g level line j).1:=by
 simp only[za0,Int.toNat_natCast]at h
 rw [zns]at h
 simp only[zbm,List.mem_map,List.mem_range]at h
 obtain ⟨j,hj,rfl⟩:=h
 exact ⟨fr+j,by omega,by omega,rfl⟩
theorem z3c {g:List (List Int)} {level:Bool} {line fr long:Nat} {x:Int} (h:x∈(za0 g ⟨level,line,fr,long⟩).2):∃ j,fr≤j∧j<fr+long∧x=(zch g level line j).2:=by
 simp only[za0,Int.toNat_natCast]at h
 rw [zns]at h
 simp only[zbm,List.mem_map,List.mem_range]at h
 obtain ⟨j,hj,rfl⟩:=h
 exact ⟨fr+j,by omega,by omega,rfl⟩
theorem yec {g:List (List Int)} {nh nw:Nat} (h:zv8 g nh nw n) {x y:Nat}:By g (zcv g nh nw) false x y↔DL (cn g) nh nw x y:=by
 constructor
 ·rintro ⟨w,hw,hlv,⟨a,ha,rfl⟩,b,hb,rfl⟩
  obtain ⟨line,fr,long,he,hl,hin⟩:=zd0 w hw
  rw [hlv]at he hin
  subst he
  obtain ⟨j1,p1,p2,rfl⟩:=z3b ha
  obtain ⟨j2,q1,q2,rfl⟩:=z3c hb
  have i1:=(hin j1 p1 p2).1
  have i2:=(hin j2 q1 q2).1
  unfold InL at i1 i2
  simp only[qF,if_false]at i1 i2
  obtain ⟨L,rfl⟩:∃ L,line=L+1:=⟨line - 1,by omega⟩
  refine ⟨L,j1,j2,i1.2.1,i1.2.2,i2.2.2,fun r r1 r2=>?_,?_,?_⟩
  ·have hr:=hin r (by omega) (by omega)
   have hr1:=hr.1
   unfold InL at hr1
   simp only[qF,if_false]at hr1
   have hr2:=hr.2
   unfold zk2 zch at hr2
   simp only[qF,if_false,decide_eq_true_eq,Nat.add_sub_cancel]at hr2
   exact (h.ne hr1.2.2 (by omega) hr1.2.2 hr1.2.1).1 hr2
  ·simp [zch,cn]
  simp [zch,cn]
 rintro ⟨L,i1,i2,h1,h2,h3,run,rfl,rfl⟩
 have hrun:Run g false (L+1) (min i1 i2) (max i1 i2):=by
  intro r r1 r2
  have:=run r r1 r2
  rw [← h.ne (by omega) (by omega) (by omega) h1]at this
  unfold zk2 zch
  simpa using this
 obtain ⟨w,hw,w1,w2,w3,w4⟩:=zud (g:=g) (H:=nh) (W:=nw) (level:=false) (line:=L+1) (by omega) (by simpa using h1) (by omega) (by simp only[qF,if_false]; omega) hrun
 obtain ⟨line,fr,long,he,hl,hin⟩:=zd0 w hw
 rw [w1]at he
 subst he
 simp only at w2 w3 w4
 obtain rfl:line=L+1:=by omega
 refine ⟨_,hw,rfl,⟨_,zyr (j:=i1) (by omega) (by omega),?_⟩,_,zys (j:=i2) (by omega) (by omega),?_⟩
 ·simp [zch,cn]
 simp [zch,cn]
theorem yam {g:List (List Int)} {nh nw:Nat} (h:zv8 g nh nw n) {x y:Nat}:By g (zcv g nh nw) true x y↔DU (cn g) nh nw x y:=by
 constructor
 ·rintro ⟨w,hw,hlv,⟨a,ha,rfl⟩,b,hb,rfl⟩
  obtain ⟨line,fr,long,he,hl,hin⟩:=zd0 w hw
  rw [hlv]at he hin
  subst he
  obtain ⟨j1,p1,p2,rfl⟩:=z3b ha
  obtain ⟨j2,q1,q2,rfl⟩:=z3c hb
  have i1:=(hin j1 p1 p2).1
  have i2:=(hin j2 q1 q2).1
  unfold InL at i1 i2
  simp only[if_true]at i1 i2
  obtain ⟨L,rfl⟩:∃ L,line=L+1:=⟨line - 1,by omega⟩
  refine ⟨L,j1,j2,i1.2.1,i1.2.2,i2.2.2,fun r r1 r2=>?_,?_,?_⟩
  ·have hr:=hin r (by omega) (by omega)
   have hr1:=hr.1
   unfold InL at hr1
   simp only[if_true]at hr1
   have hr2:=hr.2
   unfold zk2 zch at hr2
   simp only[if_true,decide_eq_true_eq,Nat.add_sub_cancel]at hr2
   exact (h.ne (by omega) hr1.2.2 hr1.2.1 hr1.2.2).1 hr2
  ·simp [zch,cn]
  simp [zch,cn]
 rintro ⟨L,i1,i2,h1,h2,h3,run,rfl,rfl⟩
 have hrun:Run g true (L+1) (min i1 i2) (max i1 i2):=by
  intro r r1 r2
  have:=run r r1 r2
  rw [← h.ne (by omega) (by omega) h1 (by omega)]at this
  unfold zk2 zch
  simpa using this
 obtain ⟨w,hw,w1,w2,w3,w4⟩:=zud (g:=g) (H:=nh) (W:=nw) (level:=true) (line:=L+1) (by omega) (by simpa using h1) (by omega) (by simp only[if_true]; omega) hrun
 obtain ⟨line,fr,long,he,hl,hin⟩:=zd0 w hw
 rw [w1]at he
 subst he
 simp only at w2 w3 w4
 obtain rfl:line=L+1:=by omega
 refine ⟨_,hw,rfl,⟨_,zyr (j:=i1) (by omega) (by omega),?_⟩,_,zys (j:=i2) (by omega) (by omega),?_⟩
 ·simp [zch,cn]
 simp [zch,cn]
theorem zni {g:List (List Int)} {nh nw:Nat} (h:zv8 g nh nw n) {i j:Nat} (hi:i<nh) (hj:j<nw):cn g i j<n:=by
 have:=h i j hi hj
 unfold cn; omega
theorem ye0 {g:List (List Int)} {nh nw:Nat} (h:zv8 g nh nw n) {a b:Nat} (ha:a<n) (hb:b<n):zc4 (zxf g nh nw n) a b=true↔TC (DL (cn g) nh nw) a b:=by
 obtain ⟨⟨k1,k2⟩,-⟩:=zva h (zcv g nh nw) zd0 (M:=(zb3 n,zb3 n)) (ze4 n) (ze4 n)
 have hd:∀ x y,zc4 (ybf g nh nw n).1 x y=true↔DL (cn g) nh nw x y:=fun x y=>by
  unfold ybf; rw [k2,yec h]; simp [zwz]
 unfold zxf
 have k3:Sq n (ybf g nh nw n).1:=k1
 rw [z06 k3 ha hb]
 constructor
 ·exact TC.mono fun x y q=>(hd x y).1 q.2.2
 refine TC.mono fun x y q=>⟨?_,?_,(hd x y).2 q⟩
 ·obtain ⟨j,i1,i2,q1,q2,q3,-,rfl,-⟩:=q
  exact zni h q2 (by omega)
 obtain ⟨j,i1,i2,q1,q2,q3,-,-,rfl⟩:=q
 exact zni h q3 q1
theorem yab {g:List (List Int)} {nh nw:Nat} (h:zv8 g nh nw n) {a b:Nat} (ha:a<n) (hb:b<n):zc4 (zod g nh nw n) a b=true↔TC (DU (cn g) nh nw) a b:=by
 obtain ⟨-,⟨k1,k2⟩⟩:=zva h (zcv g nh nw) zd0 (M:=(zb3 n,zb3 n)) (ze4 n) (ze4 n)
 have hd:∀ x y,zc4 (ybf g nh nw n).2 x y=true↔DU (cn g) nh nw x y:=fun x y=>by
  unfold ybf; rw [k2,yam h]; simp [zwz]
 unfold zod
 have k3:Sq n (ybf g nh nw n).2:=k1
 rw [z06 k3 ha hb]
 constructor
 ·exact TC.mono fun x y q=>(hd x y).1 q.2.2
 refine TC.mono fun x y q=>⟨?_,?_,(hd x y).2 q⟩
 ·obtain ⟨j,i1,i2,q1,q2,q3,-,rfl,-⟩:=q
  exact zni h (by omega) q2
 obtain ⟨j,i1,i2,q1,q2,q3,-,-,rfl⟩:=q
 exact zni h q1 q3
end
end
end Fw
end Go.Proofs.YtddhgiafpmghpaaGreat
