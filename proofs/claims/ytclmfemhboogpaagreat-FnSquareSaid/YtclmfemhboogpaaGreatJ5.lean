/- Parts of the framework and of the proof: Least shapes by the program and the laws of shapes, gone through; The least shapes in plain words; Best shapes: stairs of shapes; the program's and the specification's are the same; The order of shapes, gone through; slices.SortFunc on shapes: the kit's contract laid at this program; slices.SortFunc on shapes, in the framework's words; Plans in which no four rooms meet: two orders of rooms go on without end, and each two rooms are in one; The program's closures and walls in words of cells: left of is going on from just left of, above is going on from just above; Orders of a plain plan: each two rooms are in just one; Rooms put in a row by how many are ahead of them; The two orders are orders of all rooms; the places of the second order in the first one; Sizes in plain words: areas, places, slacks, longest rows; What the laws of sizes ask, of plans in plain words; Longest rows of rooms, as the specification finds them, in plain words; Longest growing parts of the permutation of a plan are longest rows of its rooms; Grids that are made of cells told by a function, gone through; Grids whose cells are alike are numbered alike; the text of a numbered grid is named as it should be; Orders of plans that are made of other plans: rows and columns exchanged, turned, seen from behind, made wide or tight; Plans that are made of other plans: their orders, their permutations and their least sizes; Upright cuts are where the permutation falls apart; Plans made of plans, gone through; The framework, part z: a region in which the bytes of a text become a new row that is written later; Drawing: the reader, gone through; Plans that are cut, in plain words; Plans cut in two, gone through; Drawing plans, gone through; Drawing plans, gone through, continued; Drawing needs, gone through; Areas, gone through; The law of areas, gone through; Orders of two rooms, gone through; The laws of left and above, gone through; The law of places, gone through; Sorting by a function, gone through; Rooms in order by the program, gone through; The first and the second order, gone through; The orders by the specification, gone through; Permutations by the program and by the specification, gone through; Permutations of plans, gone through; The orders and permutations: the exported functions, gone through; The law of upright cuts, gone through. -/
import Derived.Test.YtclmfemhboogpaaGreatJ4
import Derived.Test.YtclmfemhboogpaaGreatJ3
import Derived.Shelf.SlSortCmp.WholeK
import Derived.Ground.SlsfProg
import Derived.Test.YtclmfemhboogpaaGreatProg
import Derived.Test.YtclmfemhboogpaaGreatJ1
import Derived.Lib.ConvBytes
import Derived.Test.YtclmfemhboogpaaGreatJ2
set_option linter.all false
namespace Go.Proofs.YtclmfemhboogpaaGreat
namespace Fw
open Go
open Nat (reduceEqDiff reduceLeDiff reduceAdd reduceMul)
def ofX (φ : Int × Int → Int) (X : List (Int × Int)) (s : Nat) : Int := φ (X[s]?.getD (0,0))
theorem ofX_is {φ : Int × Int → Int} {X : List (Int × Int)} {s : Nat} {x : Int × Int} (h : X[s]? = some x) : ofX φ X s = φ x := by unfold ofX; rw [h]; rfl
theorem bst_in {f : Nat → Int} {i n : Nat} (h : i < n) : bst f i < n := by
 cases i with
 | zero => exact h
 | succ i => have := bst_lt (f := f) (k := i + 1) (by omega); omega
theorem leastOf_no {p : List Txt} {ws ht : List Int} {f : FuncId} (htr : PC Tryz.prog 90 [eStrs p,eInts ws,eInts ht] (.tup [.sl [] 0,.bool false]) true) : PC Tryz.prog 103 [eStrs p,eInts ws,eInts ht,.fn f []] (.tup [.int .i64 0,.int .i64 0,.bool false]) true := by
 refine PC.of ⟨Tryz.func103,by kernel_rfl,rfl,by kernel_rfl⟩ tabOk mixed (by show 4 ≤ Tryz.f103.ntmps; decide) ?_
 refine W.r fun K hK => ?_
 simp (disch := omega) only [↓RU,RV,RH,↓reduceIte,reduceEqDiff,reduceCtorEq,if_pos,↓RS,RG,reduceAdd,reduceMul,reduceLeDiff]
 refine hK _ _ ?_;clear hK K
 refine W.r fun K hK => ?_
 simp (disch := omega) only [↓RU,RV,RH,↓reduceIte,reduceEqDiff,reduceCtorEq,if_pos,List.append_nil,↓RS,RG,reduceAdd,reduceMul,reduceLeDiff]
 refine CallR.pc (htr) rfl (.inl rfl) ?_
 simp (disch := omega) only [↓RU,RV,RH,↓reduceIte,reduceEqDiff,reduceCtorEq,if_pos,List.append_nil,↓RS,RG,reduceAdd,reduceMul,reduceLeDiff]
 refine hK _ _ ?_;clear hK K
 refine W.seq ?_
 refine W.r fun K hK => ?_
 simp (disch := omega) only [↓RU,RV,RH,↓reduceIte,reduceEqDiff,reduceCtorEq,if_pos,↓RS,RG,reduceAdd,reduceMul,reduceLeDiff]
 refine hK _ _ ?_;clear hK K
 refine W.cond rfl (fun h => ?_) (fun h => ?_)
 ·try simp only [RL] at h
  refine W.r fun K hK => ?_
  simp (disch := omega) only [↓RU,RV,RH,↓reduceIte,reduceEqDiff,reduceCtorEq,if_pos,↓RS,RG,reduceAdd,reduceMul,reduceLeDiff]
  refine hK _ _ ?_;clear hK K
  refine W.ret ?_
  refine XThen.ret ?_
  refine Br rfl ?_
  rfl
 ·try simp only [RL] at h
  exact absurd h (by simp)
theorem leastOf_yes {p : List Txt} {ws ht : List Int} {f : FuncId} {φ : Int × Int → Int} {X : List (Int × Int)} (htr : PC Tryz.prog 90 [eStrs p,eInts ws,eInts ht] (.tup [eShl X,.bool true]) true) (hX1 : 1 ≤ X.length) (hXl : X.length ≤ 256) (hφ : ∀ x ∈ X,PC Tryz.prog f [.agg (eShp x)] (.int .i64 (φ x)) true) : PC Tryz.prog 103 [eStrs p,eInts ws,eInts ht,.fn f []] (.tup [.int .i64 (bst (ofX φ X) X.length : Nat),.int .i64 (ofX φ X (bst (ofX φ X) X.length)),.bool true]) true := by
 have hsl := scs_len X
 refine PC.of ⟨Tryz.func103,by kernel_rfl,rfl,by kernel_rfl⟩ tabOk mixed (by show 4 ≤ Tryz.f103.ntmps; decide) ?_
 refine W.r fun K hK => ?_
 simp (disch := omega) only [↓RU,RV,RH,↓reduceIte,reduceEqDiff,reduceCtorEq,if_pos,↓RS,RG,reduceAdd,reduceMul,reduceLeDiff]
 refine hK _ _ ?_;clear hK K
 refine W.r fun K hK => ?_
 simp (disch := omega) only [↓RU,RV,RH,↓reduceIte,reduceEqDiff,reduceCtorEq,if_pos,List.append_nil,↓RS,RG,reduceAdd,reduceMul,reduceLeDiff]
 refine CallR.pc (htr) rfl (.inl rfl) ?_
 simp (disch := omega) only [↓RU,RV,RH,↓reduceIte,reduceEqDiff,reduceCtorEq,if_pos,List.append_nil,↓RS,RG,reduceAdd,reduceMul,reduceLeDiff]
 refine hK _ _ ?_;clear hK K
 refine W.seq ?_
 refine W.r fun K hK => ?_
 simp (disch := omega) only [↓RU,RV,RH,↓reduceIte,reduceEqDiff,reduceCtorEq,if_pos,↓RS,RG,reduceAdd,reduceMul,reduceLeDiff]
 refine hK _ _ ?_;clear hK K
 refine W.cond rfl (fun h => ?_) (fun h => ?_)
 ·try simp only [RL] at h
  exact absurd h (by simp)
 ·try simp only [RL] at h
  refine W.skip ?_
  refine xn ?_
  refine W.r fun K hK => ?_
  simp (disch := omega) only [↓RU,RV,RH,↓reduceIte,reduceEqDiff,reduceCtorEq,if_pos,↓RS,RG,reduceAdd,reduceMul,reduceLeDiff]
  refine hK _ _ ?_;clear hK K
  refine W.seq ?_
  refine W.r fun K hK => ?_
  simp (disch := omega) only [↓RU,RV,RH,↓reduceIte,reduceEqDiff,reduceCtorEq,if_pos,↓RS,RG,reduceAdd,reduceMul,reduceLeDiff,ty4,ty16,tyint,ty27]
  refine hK _ _ ?_;clear hK K
  refine W.block ?_
  refine W.loop [3,11,13,25,26,27] (fun n vs S => ∃ i tk : Nat,n = X.length - i ∧ i ≤ X.length ∧ vs = [.fn f [],eShl X,.int .i64 (bst (ofX φ X) i : Nat),eShl X,.int .i64 X.length,.int .i64 i] ∧ S = ⟨[],tk⟩) X.length ?_ ?_
  ·refine ⟨0,0,0,rfl,by omega,?_,rfl⟩
   simp [Env.put,Env.of,argEnv,bst]
  rintro n vs S - ⟨i,tk,rfl,h_i,rfl,rfl⟩
  refine W.r fun K hK => ?_
  simp (disch := omega) only [↓RU,RV,RH,↓reduceIte,reduceEqDiff,reduceCtorEq,if_pos,w64,↓RS,RG,reduceAdd,reduceMul,reduceLeDiff,tyint]
  refine hK _ _ ?_;clear hK K
  refine W.seq ?_
  refine W.cond rfl (fun h1 => ?_) (fun h1 => ?_)
  ·try simp only [RL] at h1
   obtain ⟨x,hx,hxm⟩ := get_of (show i < X.length by omega)
   have hb := bst_in (f := (ofX φ X)) (show i < X.length by omega)
   obtain ⟨y,hy,hym⟩ := get_of hb
   have fx : ofX φ X i = φ x := ofX_is hx
   have fy : ofX φ X (bst (ofX φ X) i) = φ y := ofX_is hy
   have px : ((scs X).drop (i * 2)).take 2 = [.int .i64 x.1,.int .i64 x.2] := scs_at hx
   have py : ((scs X).drop (bst (ofX φ X) i * 2)).take 2 = [.int .i64 y.1,.int .i64 y.2] := scs_at hy
   refine W.skip ?_
   refine xn ?_
   refine W.seq ?_
   refine W.block ?_
   refine W.r fun K hK => ?_
   simp (disch := omega) only [↓RU,RV,RH,↓reduceIte,reduceEqDiff,reduceCtorEq,if_pos,↓RS,RG,reduceAdd,reduceMul,reduceLeDiff,ty4,ty16,tyint,ty27,px,hsl,scs_len]
   refine hK _ _ ?_;clear hK K
   refine W.seq_draw (by kernel_rfl) fun K hK => ?_
   simp (disch := omega) only [↓RU,RV,RH,↓reduceIte,reduceEqDiff,reduceCtorEq,if_pos,List.append_nil,w64,↓RS,RG,reduceAdd,reduceMul,reduceLeDiff,ty4,ty16,tyint,ty27,px,py,hsl,scs_len]
   refine CallR.pc (hφ x hxm) rfl (.inl rfl) ?_
   simp (disch := omega) only [↓RU,RV,RH,↓reduceIte,reduceEqDiff,reduceCtorEq,if_pos,List.append_nil,w64,↓RS,RG,reduceAdd,reduceMul,reduceLeDiff,ty4,ty16,tyint,ty27,px,py,hsl,scs_len]
   refine CallR.pc (hφ y hym) rfl (.inl rfl) ?_
   simp (disch := omega) only [↓RU,RV,RH,↓reduceIte,reduceEqDiff,reduceCtorEq,if_pos,List.append_nil,w64,↓RS,RG,reduceAdd,reduceMul,reduceLeDiff,ty4,ty16,tyint,ty27,px,py,hsl,scs_len]
   refine hK _ _ ?_;clear hK K
   refine W.cond rfl (fun h2 => ?_) (fun h2 => ?_)
   ·try simp only [RL] at h2
    refine W.k fun K hK => ?_
    simp (disch := omega) only [↓RU,RV,RH,↓reduceIte,reduceEqDiff,reduceCtorEq,if_pos,↓RS,RG,reduceAdd,reduceMul,reduceLeDiff]
    refine hK _ _ ?_;clear hK K
    refine XbN ?_
    refine xn ?_
    refine W.k fun K hK => ?_
    simp (disch := omega) only [↓RU,RV,RH,↓reduceIte,reduceEqDiff,reduceCtorEq,if_pos,w64,↓RS,RG,reduceAdd,reduceMul,reduceLeDiff,tyint]
    refine hK _ _ ?_;clear hK K
    refine xn ?_
    refine ⟨X.length - (i + 1),by omega,0,i + 1,_,rfl,by omega,?_,rfl⟩
    simp [Env.put,Env.of,bst,fx,fy,h2]
   ·try simp only [RL] at h2
    refine W.skip ?_
    refine XbN ?_
    refine xn ?_
    refine W.k fun K hK => ?_
    simp (disch := omega) only [↓RU,RV,RH,↓reduceIte,reduceEqDiff,reduceCtorEq,if_pos,w64,↓RS,RG,reduceAdd,reduceMul,reduceLeDiff,tyint]
    refine hK _ _ ?_;clear hK K
    refine xn ?_
    refine ⟨X.length - (i + 1),by omega,0,i + 1,_,rfl,by omega,?_,rfl⟩
    simp [Env.put,Env.of,bst,fx,fy,h2]
  ·try simp only [RL] at h1
   obtain rfl : i = X.length := by omega
   have hb := bst_lt (f := (ofX φ X)) hX1
   obtain ⟨y,hy,hym⟩ := get_of hb
   have fy : ofX φ X (bst (ofX φ X) X.length) = φ y := ofX_is hy
   have py : ((scs X).drop (bst (ofX φ X) X.length * 2)).take 2 = [.int .i64 y.1,.int .i64 y.2] := scs_at hy
   refine W.exit ?_
   refine xe ?_
   refine xe ?_
   refine XBlock.hit ?_
   refine xn ?_
   refine W.r fun K hK => ?_
   simp (disch := omega) only [↓RU,RV,RH,↓reduceIte,reduceEqDiff,reduceCtorEq,if_pos,List.append_nil,↓RS,RG,reduceAdd,reduceMul,reduceLeDiff,ty4,ty16,tyint,ty27,py,hsl,scs_len]
   refine CallR.pc (hφ y hym) rfl (.inl rfl) ?_
   simp (disch := omega) only [↓RU,RV,RH,↓reduceIte,reduceEqDiff,reduceCtorEq,if_pos,List.append_nil,↓RS,RG,reduceAdd,reduceMul,reduceLeDiff,ty4,ty16,tyint,ty27,py,hsl,scs_len]
   refine hK _ _ ?_;clear hK K
   refine W.ret ?_
   refine Br rfl ?_
   rw [fy]
   rfl
theorem shapeTry_no {p : List Txt} {ws ht : List Int} (htr : PC Tryz.prog 90 [eStrs p,eInts ws,eInts ht] (.tup [.sl [] 0,.bool false]) true) : PC Tryz.prog 48 [eStrs p,eInts ws,eInts ht] (.tup [.int .i64 0,.bool false]) true := by
 refine PC.of ⟨Tryz.func48,by kernel_rfl,rfl,by kernel_rfl⟩ tabOk mixed (by show 3 ≤ Tryz.f48.ntmps; decide) ?_
 refine W.r fun K hK => ?_
 simp (disch := omega) only [↓RU,RV,RH,↓reduceIte,reduceEqDiff,reduceCtorEq,if_pos,↓RS,RG,reduceAdd,reduceMul,reduceLeDiff]
 refine hK _ _ ?_;clear hK K
 refine W.r fun K hK => ?_
 simp (disch := omega) only [↓RU,RV,RH,↓reduceIte,reduceEqDiff,reduceCtorEq,if_pos,List.append_nil,↓RS,RG,reduceAdd,reduceMul,reduceLeDiff]
 refine CallR.pc (leastOf_no (f := 104) htr) rfl (.inl rfl) ?_
 simp (disch := omega) only [↓RU,RV,RH,↓reduceIte,reduceEqDiff,reduceCtorEq,if_pos,List.append_nil,↓RS,RG,reduceAdd,reduceMul,reduceLeDiff]
 refine hK _ _ ?_;clear hK K
 refine W.r fun K hK => ?_
 simp (disch := omega) only [↓RU,RV,RH,↓reduceIte,reduceEqDiff,reduceCtorEq,if_pos,↓RS,RG,reduceAdd,reduceMul,reduceLeDiff]
 refine hK _ _ ?_;clear hK K
 refine W.ret ?_
 refine Br rfl ?_
 rfl
theorem shapeTry_yes {p : List Txt} {ws ht : List Int} {X : List (Int × Int)} (htr : PC Tryz.prog 90 [eStrs p,eInts ws,eInts ht] (.tup [eShl X,.bool true]) true) (hX1 : 1 ≤ X.length) (hXl : X.length ≤ 256) (hb : ∀ x ∈ X,(0 ≤ x.1 ∧ x.1 ≤ 10000) ∧ (0 ≤ x.2 ∧ x.2 ≤ 10000)) : PC Tryz.prog 48 [eStrs p,eInts ws,eInts ht] (.tup [.int .i64 ((ofX (fun x => x.1 * x.2) X) (bst (ofX (fun x => x.1 * x.2) X) X.length)),.bool true]) true := by
 refine PC.of ⟨Tryz.func48,by kernel_rfl,rfl,by kernel_rfl⟩ tabOk mixed (by show 3 ≤ Tryz.f48.ntmps; decide) ?_
 refine W.r fun K hK => ?_
 simp (disch := omega) only [↓RU,RV,RH,↓reduceIte,reduceEqDiff,reduceCtorEq,if_pos,↓RS,RG,reduceAdd,reduceMul,reduceLeDiff]
 refine hK _ _ ?_;clear hK K
 refine W.r fun K hK => ?_
 simp (disch := omega) only [↓RU,RV,RH,↓reduceIte,reduceEqDiff,reduceCtorEq,if_pos,List.append_nil,↓RS,RG,reduceAdd,reduceMul,reduceLeDiff]
 refine CallR.pc (leastOf_yes (f := 104) (φ := (fun x => x.1 * x.2)) htr hX1 hXl (fun x hx => product_pc (hb x hx).1 (hb x hx).2)) rfl (.inl rfl) ?_
 simp (disch := omega) only [↓RU,RV,RH,↓reduceIte,reduceEqDiff,reduceCtorEq,if_pos,List.append_nil,↓RS,RG,reduceAdd,reduceMul,reduceLeDiff]
 refine hK _ _ ?_;clear hK K
 refine W.r fun K hK => ?_
 simp (disch := omega) only [↓RU,RV,RH,↓reduceIte,reduceEqDiff,reduceCtorEq,if_pos,↓RS,RG,reduceAdd,reduceMul,reduceLeDiff]
 refine hK _ _ ?_;clear hK K
 refine W.ret ?_
 refine Br rfl ?_
 rfl
theorem shapeSquare_no {p : List Txt} {ws ht : List Int} (htr : PC Tryz.prog 90 [eStrs p,eInts ws,eInts ht] (.tup [.sl [] 0,.bool false]) true) : PC Tryz.prog 52 [eStrs p,eInts ws,eInts ht] (.tup [.int .i64 0,.bool false]) true := by
 refine PC.of ⟨Tryz.func52,by kernel_rfl,rfl,by kernel_rfl⟩ tabOk mixed (by show 3 ≤ Tryz.f52.ntmps; decide) ?_
 refine W.r fun K hK => ?_
 simp (disch := omega) only [↓RU,RV,RH,↓reduceIte,reduceEqDiff,reduceCtorEq,if_pos,↓RS,RG,reduceAdd,reduceMul,reduceLeDiff]
 refine hK _ _ ?_;clear hK K
 refine W.r fun K hK => ?_
 simp (disch := omega) only [↓RU,RV,RH,↓reduceIte,reduceEqDiff,reduceCtorEq,if_pos,List.append_nil,↓RS,RG,reduceAdd,reduceMul,reduceLeDiff]
 refine CallR.pc (leastOf_no (f := 106) htr) rfl (.inl rfl) ?_
 simp (disch := omega) only [↓RU,RV,RH,↓reduceIte,reduceEqDiff,reduceCtorEq,if_pos,List.append_nil,↓RS,RG,reduceAdd,reduceMul,reduceLeDiff]
 refine hK _ _ ?_;clear hK K
 refine W.r fun K hK => ?_
 simp (disch := omega) only [↓RU,RV,RH,↓reduceIte,reduceEqDiff,reduceCtorEq,if_pos,↓RS,RG,reduceAdd,reduceMul,reduceLeDiff]
 refine hK _ _ ?_;clear hK K
 refine W.ret ?_
 refine Br rfl ?_
 rfl
theorem shapeSquare_yes {p : List Txt} {ws ht : List Int} {X : List (Int × Int)} (htr : PC Tryz.prog 90 [eStrs p,eInts ws,eInts ht] (.tup [eShl X,.bool true]) true) (hX1 : 1 ≤ X.length) (hXl : X.length ≤ 256) : PC Tryz.prog 52 [eStrs p,eInts ws,eInts ht] (.tup [.int .i64 ((ofX sideF X) (bst (ofX sideF X) X.length)),.bool true]) true := by
 refine PC.of ⟨Tryz.func52,by kernel_rfl,rfl,by kernel_rfl⟩ tabOk mixed (by show 3 ≤ Tryz.f52.ntmps; decide) ?_
 refine W.r fun K hK => ?_
 simp (disch := omega) only [↓RU,RV,RH,↓reduceIte,reduceEqDiff,reduceCtorEq,if_pos,↓RS,RG,reduceAdd,reduceMul,reduceLeDiff]
 refine hK _ _ ?_;clear hK K
 refine W.r fun K hK => ?_
 simp (disch := omega) only [↓RU,RV,RH,↓reduceIte,reduceEqDiff,reduceCtorEq,if_pos,List.append_nil,↓RS,RG,reduceAdd,reduceMul,reduceLeDiff]
 refine CallR.pc (leastOf_yes (f := 106) (φ := sideF) htr hX1 hXl (fun x _ => side_pc)) rfl (.inl rfl) ?_
 simp (disch := omega) only [↓RU,RV,RH,↓reduceIte,reduceEqDiff,reduceCtorEq,if_pos,List.append_nil,↓RS,RG,reduceAdd,reduceMul,reduceLeDiff]
 refine hK _ _ ?_;clear hK K
 refine W.r fun K hK => ?_
 simp (disch := omega) only [↓RU,RV,RH,↓reduceIte,reduceEqDiff,reduceCtorEq,if_pos,↓RS,RG,reduceAdd,reduceMul,reduceLeDiff]
 refine hK _ _ ?_;clear hK K
 refine W.ret ?_
 refine Br rfl ?_
 rfl
section
theorem needs_is {p : List Txt} {ws : List Int} : needsB p ws = needV p [ws] := (needV_needs).symm
theorem given_eq {p : List Txt} {ws ht : List Int} : given8 p ws ht = givenI p ws ht := by
 unfold given8
 rw [needs_is,needs_is]
 unfold givenI
 cases h1 : needV p [ws] with
 | false =>
  have : needV p [ws,ht] = false := by
   unfold needV at h1 ⊢
   simp only [List.all_cons,List.all_nil,Bool.and_true] at h1 ⊢
   cases ha : plainI p <;> cases hb : needW p ws <;> simp_all
  rw [this]; simp
 | true =>
  cases h2 : needV p [ht] with
  | false =>
   have : needV p [ws,ht] = false := by
    unfold needV at h2 ⊢
    simp only [List.all_cons,List.all_nil,Bool.and_true] at h2 ⊢
    cases ha : plainI p <;> cases hb : needW p ht <;> simp_all
   rw [this]; simp
  | true =>
   have h3 := (needV_one h1).2.1
   have : needV p [ws,ht] = true := by
    unfold needV at h1 h2 ⊢
    simp only [List.all_cons,List.all_nil,Bool.and_true,Bool.and_eq_true] at h1 h2 ⊢
    exact ⟨h1.1,h1.2,h2.2⟩
   rw [this,h3]; simp
section
variable {p : List Txt} {ws ht : List Int}
def X8 (p : List Txt) (ws ht : List Int) : List (Int × Int) := shL (leftG (gP p) p.length (w0 (readG p)) (rP p).length) (aboveG (gP p) p.length (w0 (readG p)) (rP p).length) (rP p).length ws ht (2 ^ (rP p).length)
theorem X8_len : (X8 p ws ht).length = 2 ^ (rP p).length := shL_len
theorem X8_at (h : givenI p ws ht = true) {s : Nat} (hs : s < 2 ^ (rP p).length) : (X8 p ws ht)[s]? = some (shS p ws ht s) := by
 obtain ⟨h1,h2,-⟩ := givenI_ok h
 unfold X8
 rw [shL_at hs,sh_eq h1 h2]
theorem X8_rooms (h : givenI p ws ht = true) : (X8 p ws ht).length = 2 ^ ws.length ∧ 1 ≤ (X8 p ws ht).length ∧ (X8 p ws ht).length ≤ 256 := by
 obtain ⟨h1,-,h3⟩ := givenI_ok h
 have h4 := (needV_one h1).2.1
 rw [X8_len]
 have := pow8 h3
 exact ⟨by rw [h4],this.1,this.2⟩
theorem X8_bnd (h : givenI p ws ht = true) : ∀ x ∈ X8 p ws ht,(0 ≤ x.1 ∧ x.1 ≤ 10000) ∧ (0 ≤ x.2 ∧ x.2 ≤ 10000) := by
 intro x hx
 obtain ⟨s,hs,rfl⟩ := List.getElem_of_mem hx
 have hs2 : s < 2 ^ (rP p).length := by rw [← X8_len (p := p) (ws := ws) (ht := ht)]; exact hs
 have e := X8_at h hs2
 rw [List.getElem?_eq_getElem hs] at e
 rw [Option.some.inj e]
 obtain ⟨h1,h2,-⟩ := givenI_ok h
 rw [← needs_is] at h1 h2
 obtain ⟨a,b,c,d⟩ := shS_bnd h1 h2 s
 exact ⟨⟨a,by omega⟩,c,by omega⟩
theorem X8_of (h : givenI p ws ht = true) (φ : Int × Int → Int) {s : Nat} (hs : s < (X8 p ws ht).length) : ofX φ (X8 p ws ht) s = φ (shS p ws ht s) := ofX_is (X8_at h (by rw [← X8_len (p := p) (ws := ws) (ht := ht)]; exact hs))
theorem X8_best (h : givenI p ws ht = true) : bst (ofX (fun x => x.1 * x.2) (X8 p ws ht)) (X8 p ws ht).length = bestS p ws ht := by
 unfold bestS
 rw [← (X8_rooms h).1]
 exact bst_congr fun s hs => X8_of h _ hs
theorem X8_area (h : givenI p ws ht = true) : ofX (fun x => x.1 * x.2) (X8 p ws ht) (bst (ofX (fun x => x.1 * x.2) (X8 p ws ht)) (X8 p ws ht).length) = areaF p ws ht (bestS p ws ht) := by
 have hb := bst_lt (f := ofX (fun x => x.1 * x.2) (X8 p ws ht)) (X8_rooms h).2.1
 rw [X8_of h _ hb,X8_best h]; rfl
theorem X8_side (h : givenI p ws ht = true) : ofX sideF (X8 p ws ht) (bst (ofX sideF (X8 p ws ht)) (X8 p ws ht).length) = minS (allP (shS p ws ht) (2 ^ ws.length)) := by
 obtain ⟨e,h1,-⟩ := X8_rooms h
 have hb := bst_lt (f := ofX sideF (X8 p ws ht)) h1
 rw [X8_of h _ hb,← e,square_eq h1]
 rw [bst_congr (g := fun s => sideF (shS p ws ht s)) fun s hs => X8_of h _ hs]
end
end
abbrev Shp := Int × Int
def Stc (l : List Shp) : Prop := l.Pairwise fun x y => x.1 < y.1 ∧ y.2 < x.2
def Dom (l : List Shp) (x : Shp) : Prop := ∃ y ∈ l,y.1 ≤ x.1 ∧ y.2 ≤ x.2
theorem pw_or {α : Type} {R : α → α → Prop} : ∀ {l : List α},l.Pairwise R → ∀ {x y : α},x ∈ l → y ∈ l → x = y ∨ R x y ∨ R y x
 | [],_,x,y,h,_ => by simp at h
 | a :: l,hp,x,y,hx,hy => by
  obtain ⟨h1,h2⟩ := List.pairwise_cons.1 hp
  rcases List.mem_cons.1 hx with ex | ex
  ·rcases List.mem_cons.1 hy with ey | ey
   ·exact .inl (ex.trans ey.symm)
   ·rw [ex]; exact .inr (.inl (h1 _ ey))
  ·rcases List.mem_cons.1 hy with ey | ey
   ·rw [ey]; exact .inr (.inr (h1 _ ex))
   ·exact pw_or h2 ex ey
theorem Stc.one {l : List Shp} (h : Stc l) {x y : Shp} (hx : x ∈ l) (hy : y ∈ l) (h1 : x.1 ≤ y.1) (h2 : x.2 ≤ y.2) : x = y := by
 rcases pw_or h hx hy with e | e | e
 ·exact e
 ·omega
 ·omega
theorem stc_mem : ∀ {B C : List Shp},Stc B → Stc C → (∀ x,x ∈ B ↔ x ∈ C) → B = C
 | [],[],_,_,_ => rfl
 | [],c :: C,_,_,h => by have := (h c).2 (by simp); simp at this
 | b :: B,[],_,_,h => by have := (h b).1 (by simp); simp at this
 | b :: B,c :: C,hB,hC,h => by
  obtain ⟨b1,b2⟩ := List.pairwise_cons.1 hB
  obtain ⟨c1,c2⟩ := List.pairwise_cons.1 hC
  have e : b = c := by
   rcases List.mem_cons.1 ((h b).1 (by simp)) with e | e
   ·exact e
   ·rcases List.mem_cons.1 ((h c).2 (by simp)) with e2 | e2
    ·exact e2.symm
    ·have := c1 b e; have := b1 c e2; omega
  subst e
  congr 1
  refine stc_mem b2 c2 fun x => ⟨fun hx => ?_,fun hx => ?_⟩
  ·rcases List.mem_cons.1 ((h x).1 (List.mem_cons_of_mem _ hx)) with e | e
   ·subst e; have := b1 x hx; omega
   ·exact e
  ·rcases List.mem_cons.1 ((h x).2 (List.mem_cons_of_mem _ hx)) with e | e
   ·subst e; have := c1 x hx; omega
   ·exact e
theorem stc_uniq {B C : List Shp} (hB : Stc B) (hC : Stc C) (h1 : ∀ x ∈ B,Dom C x) (h2 : ∀ x ∈ C,Dom B x) : B = C := by
 have key : ∀ {B C : List Shp},Stc B → (∀ x ∈ B,Dom C x) → (∀ x ∈ C,Dom B x) → ∀ x ∈ B,x ∈ C := by
  intro B C hB h1 h2 x hx
  obtain ⟨y,hy,y1,y2⟩ := h1 x hx
  obtain ⟨z,hz,z1,z2⟩ := h2 y hy
  have e := hB.one hz hx (by omega) (by omega)
  subst e
  have e2 : y = z := Prod.ext (by omega) (by omega)
  rw [← e2]; exact hy
 exact stc_mem hB hC fun x => ⟨key hB h1 h2 x,key hC h2 h1 x⟩
structure Best (l B : List Shp) : Prop where
 st : Stc B
 sub : ∀ x ∈ B,x ∈ l
 dom : ∀ x ∈ l,Dom B x
theorem Best.uniq {l B C : List Shp} (h : Best l B) (k : Best l C) : B = C := stc_uniq h.st k.st (fun x hx => k.dom x (h.sub x hx)) fun x hx => h.dom x (k.sub x hx)
theorem Best.mem {l m B : List Shp} (h : Best l B) (e : ∀ x,x ∈ l ↔ x ∈ m) : Best m B := ⟨h.st,fun x hx => (e x).1 (h.sub x hx),fun x hx => h.dom x ((e x).2 hx)⟩
def bsS (out : List Shp) (s : Shp) : List Shp :=
 match out.getLast? with
 | none => [s]
 | some q => if s.2 < q.2 then out ++ [s] else out
def bsF (z : List Shp) : List Shp := z.foldl bsS []
theorem bsF_succ {z : List Shp} {i : Nat} {x : Shp} (h : z[i]? = some x) : bsF (z.take (i + 1)) = bsS (bsF (z.take i)) x := foldl_tk h
def LexLe (x y : Shp) : Prop := x.1 < y.1 ∨ (x.1 = y.1 ∧ x.2 ≤ y.2)
theorem bsS_len {o : List Shp} {s : Shp} : (bsS o s).length ≤ o.length + 1 := by
 unfold bsS
 split
 ·simp
 ·split <;> simp
theorem bsF_len (z : List Shp) : ∀ i,i ≤ z.length → (bsF (z.take i)).length ≤ i
 | 0,_ => by simp [bsF]
 | i + 1,hi => by
  obtain ⟨x,hx,-⟩ := get_of (show i < z.length by omega)
  have := bsF_len z i (by omega)
  rw [bsF_succ hx]
  have := bsS_len (o := bsF (z.take i)) (s := x)
  omega
theorem bsF_inv {z : List Shp} (hz : z.Pairwise LexLe) : ∀ i,i ≤ z.length → Best (z.take i) (bsF (z.take i)) ∧ ∀ q,(bsF (z.take i)).getLast? = some q → ∀ x ∈ z.take i,q.2 ≤ x.2
 | 0,_ => by
  refine ⟨⟨?_,?_,?_⟩,?_⟩
  ·simp [bsF,Stc]
  ·simp [bsF]
  ·simp
  ·simp
 | i + 1,hi => by
  obtain ⟨⟨h1,h2,h3⟩,h4⟩ := bsF_inv hz i (by omega)
  obtain ⟨s,hs,-⟩ := get_of (show i < z.length by omega)
  have et : z.take (i + 1) = z.take i ++ [s] := tk hs
  rw [bsF_succ hs,et]
  have hlex : ∀ x ∈ z.take i,LexLe x s := by
   have := List.pairwise_iff_getElem.1 hz
   intro x hx
   obtain ⟨j,hj⟩ := List.getElem?_of_mem hx
   have hjl := len_of hj
   rw [List.length_take] at hjl
   rw [List.getElem?_take_of_lt (by omega)] at hj
   obtain ⟨a1,a2⟩ := List.getElem?_eq_some_iff.1 hj
   obtain ⟨b1,b2⟩ := List.getElem?_eq_some_iff.1 hs
   rw [← a2,← b2]
   exact this j i a1 b1 (by omega)
  generalize bsF (z.take i) = o at h1 h2 h3 h4
  unfold bsS
  cases ho : o.getLast? with
  | none =>
   have e : o = [] := List.getLast?_eq_none_iff.1 ho
   subst e
   have en : z.take i = [] := by
    cases hq : z.take i with
    | nil => rfl
    | cons a l => obtain ⟨y,hy,-⟩ := h3 a (by rw [hq]; simp); simp at hy
   rw [en]
   simp only [List.nil_append]
   refine ⟨⟨List.pairwise_singleton _ _,fun x hx => hx,fun x hx => ⟨x,hx,Int.le_refl _,Int.le_refl _⟩⟩,fun q hq x hx => ?_⟩
   simp at hq hx; subst hq; subst hx; exact Int.le_refl _
  | some q =>
   have hqm : q ∈ o := List.mem_of_getLast? ho
   have hql := hlex q (h2 q hqm)
   simp only
   by_cases c : s.2 < q.2
   ·rw [if_pos c]
    have hq1 : q.1 < s.1 := by rcases hql with e | ⟨e,e2⟩ <;> omega
    have hall : ∀ y ∈ o,y.1 < s.1 ∧ s.2 < y.2 := by
     intro y hy
     have hyq : q.2 ≤ y.2 := h4 q ho y (h2 y hy)
     rcases hlex y (h2 y hy) with e | ⟨e,e2⟩ <;> omega
    refine ⟨⟨List.pairwise_append.2 ⟨h1,List.pairwise_singleton _ _,fun y hy x hx => by simp at hx; subst hx; exact hall y hy⟩,fun x hx => ?_,fun x hx => ?_⟩,fun r hr x hx => ?_⟩
    ·rcases List.mem_append.1 hx with e | e
     ·exact List.mem_append_left _ (h2 x e)
     ·exact List.mem_append_right _ e
    ·rcases List.mem_append.1 hx with e | e
     ·obtain ⟨y,hy,k⟩ := h3 x e; exact ⟨y,List.mem_append_left _ hy,k⟩
     ·exact ⟨x,List.mem_append_right _ e,Int.le_refl _,Int.le_refl _⟩
    ·simp at hr; subst hr
     rcases List.mem_append.1 hx with e | e
     ·have := h4 q ho x e; omega
     ·simp at e; subst e; exact Int.le_refl _
   ·rw [if_neg c]
    refine ⟨⟨h1,fun x hx => List.mem_append_left _ (h2 x hx),fun x hx => ?_⟩,fun r hr x hx => ?_⟩
    ·rcases List.mem_append.1 hx with e | e
     ·exact h3 x e
     ·simp at e; subst e
      exact ⟨q,hqm,by rcases hql with e | ⟨e,-⟩ <;> omega,by omega⟩
    ·rw [ho] at hr; cases hr
     rcases List.mem_append.1 hx with e | e
     ·exact h4 q ho x e
     ·simp at e; subst e; omega
theorem bs_best {z l : List Shp} (hz : z.Pairwise LexLe) (hp : z.Perm l) : Best l (bsF z) := by
 have h := (bsF_inv hz z.length (Nat.le_refl _)).1
 rw [List.take_length] at h
 exact h.mem fun x => hp.mem_iff
theorem put_stc {l : List Shp} (hl : Stc l) {w h : Int} : Stc (put l w h) := by
 unfold put
 by_cases hd : l.any (fun x => domB x w h) = true
 ·rw [if_pos hd]; exact hl
 ·rw [if_neg hd]
  have hno : ∀ x ∈ l,w < x.1 ∨ h < x.2 := by
   intro x hx
   have := hd
   rw [List.any_eq_true] at this
   refine Classical.byContradiction fun hn => this ⟨x,hx,?_⟩
   unfold domB
   simp only [Bool.and_eq_true,decide_eq_true_eq]
   omega
  have key : ∀ i,i ≤ l.length → Stc (putF (l.take i) w h).1 ∧ (∀ y ∈ (putF (l.take i) w h).1,(y ∈ l.take i ∧ ¬ (w ≤ y.1 ∧ h ≤ y.2)) ∨ (y = (w,h) ∧ (putF (l.take i) w h).2 = true)) ∧
    ((putF (l.take i) w h).2 = false → ∀ y ∈ (putF (l.take i) w h).1,y.1 < w ∧ h < y.2) ∧ ((putF (l.take i) w h).2 = true → ∃ x ∈ l.take i,w < x.1) := by
   intro i
   induction i with
   | zero => intro _; simp [putF,Stc]
   | succ i ih =>
    intro hi
    obtain ⟨k1,k2,k3,k4⟩ := ih (by omega)
    obtain ⟨x,hx,hxm⟩ := get_of (show i < l.length by omega)
    have e : putF (l.take (i + 1)) w h = putStep w h (putF (l.take i) w h) x := foldl_tk hx
    have et : l.take (i + 1) = l.take i ++ [x] := tk hx
    have hlt : ∀ y ∈ l.take i,y.1 < x.1 ∧ x.2 < y.2 := by
     have := List.pairwise_iff_getElem.1 hl
     intro y hy
     obtain ⟨j,hj⟩ := List.getElem?_of_mem hy
     have hjl := len_of hj
     rw [List.length_take] at hjl
     rw [List.getElem?_take_of_lt (by omega)] at hj
     obtain ⟨a1,a2⟩ := List.getElem?_eq_some_iff.1 hj
     obtain ⟨b1,b2⟩ := List.getElem?_eq_some_iff.1 hx
     rw [← a2,← b2]
     exact this j i a1 b1 (by omega)
    have hnx := hno x hxm
    rw [e,et]
    generalize putF (l.take i) w h = s at k1 k2 k3 k4
    obtain ⟨o,d⟩ := s
    unfold putStep
    simp only at k1 k2 k3 k4 ⊢
    by_cases c1 : w ≤ x.1 ∧ h ≤ x.2
    ·rw [if_pos c1]
     refine ⟨k1,fun y hy => ?_,k3,fun hd => ?_⟩
     ·rcases k2 y hy with ⟨a,b⟩ | b
      ·exact .inl ⟨List.mem_append_left _ a,b⟩
      ·exact .inr b
     ·obtain ⟨z,hz,hzw⟩ := k4 hd; exact ⟨z,List.mem_append_left _ hz,hzw⟩
    ·rw [if_neg c1]
     by_cases c2 : d = false ∧ w < x.1
     ·rw [if_pos c2]
      obtain ⟨rfl,c3⟩ := c2
      have k5 := k3 rfl
      refine ⟨?_,fun y hy => ?_,fun hd => by simp at hd,fun _ => ⟨x,by simp,c3⟩⟩
      ·refine List.pairwise_append.2 ⟨k1,?_,fun y hy z hz => ?_⟩
       ·refine List.pairwise_cons.2 ⟨fun z hz => ?_,List.pairwise_singleton _ _⟩
        simp at hz; subst hz
        exact ⟨c3,by omega⟩
       ·simp at hz
        have hy5 := k5 y hy
        rcases hz with rfl | rfl
        ·exact hy5
        ·rcases k2 y hy with ⟨a,b⟩ | ⟨-,b⟩
         ·exact hlt y a
         ·cases b
      ·simp only [List.mem_append,List.mem_cons,List.not_mem_nil,or_false] at hy
       rcases hy with a | a | a
       ·rcases k2 y a with ⟨q,r⟩ | ⟨-,q⟩
        ·exact .inl ⟨List.mem_append_left _ q,r⟩
        ·cases q
       ·exact .inr ⟨a,rfl⟩
       ·subst a; exact .inl ⟨by simp,c1⟩
     ·rw [if_neg c2]
      refine ⟨?_,fun y hy => ?_,fun hd => ?_,fun hd => ?_⟩
      ·refine List.pairwise_append.2 ⟨k1,List.pairwise_singleton _ _,fun y hy z hz => ?_⟩
       simp at hz; subst hz
       rcases k2 y hy with ⟨a,b⟩ | ⟨a,b⟩
       ·exact hlt y a
       ·subst a
        obtain ⟨q,hq,hqw⟩ := k4 b
        have := hlt q hq
        simp only
        omega
      ·rcases List.mem_append.1 hy with a | a
       ·rcases k2 y a with ⟨q,r⟩ | q
        ·exact .inl ⟨List.mem_append_left _ q,r⟩
        ·exact .inr q
       ·simp at a; subst a; exact .inl ⟨by simp,c1⟩
      ·intro y hy
       rcases List.mem_append.1 hy with a | a
       ·exact k3 hd y a
       ·simp at a; subst a
        have : ¬ w < y.1 := fun q => c2 ⟨hd,q⟩
        omega
      ·obtain ⟨z,hz,hzw⟩ := k4 hd; exact ⟨z,List.mem_append_left _ hz,hzw⟩
  obtain ⟨k1,k2,k3,k4⟩ := key l.length (Nat.le_refl _)
  rw [List.take_length] at k1 k2 k3 k4
  cases hd2 : (putF l w h).2 with
  | true => rw [if_pos rfl]; exact k1
  | false =>
   rw [if_neg (by simp)]
   refine List.pairwise_append.2 ⟨k1,List.pairwise_singleton _ _,fun y hy z hz => ?_⟩
   simp at hz; subst hz
   exact k3 hd2 y hy
theorem all_best {sh : Nat → Int × Int} (k : Nat) : Best ((List.range k).map sh) (allP sh k) := by
 obtain ⟨h1,h2,-⟩ := allP_inv (sh := sh) k
 refine ⟨?_,fun x hx => ?_,fun x hx => ?_⟩
 ·have : ∀ k,Stc (allP sh k) := by
   intro k
   induction k with
   | zero => simp [allP,Stc]
   | succ k ih => rw [allP_succ]; exact put_stc ih
  exact this k
 ·obtain ⟨s,hs,rfl⟩ := h1 x hx
  exact List.mem_map.2 ⟨s,List.mem_range.2 hs,rfl⟩
 ·obtain ⟨s,hs,rfl⟩ := List.mem_map.1 hx
  exact h2 s (List.mem_range.1 hs)
theorem best_same {z : List Shp} {sh : Nat → Int × Int} {k : Nat} (hz : z.Pairwise LexLe) (hp : z.Perm ((List.range k).map sh)) : bsF z = allP sh k := (bs_best hz hp).uniq (all_best k)
def cmpI (a b : Int) : Int := if a < b then -1 else if b < a then 1 else 0
def orI (l : List Int) : Int := (l.find? fun x => decide (x ≠ 0)).getD 0
def cmpSh (x y : Shp) : Int := orI [cmpI x.1 y.1,cmpI x.2 y.2]
theorem orI_0 {l : List Int} : orI (0 :: l) = orI l := by simp [orI]
theorem orI_n {l : List Int} {x : Int} (h : x ≠ 0) : orI (x :: l) = x := by simp [orI,h]
theorem dropc {l : List Int} {i : Nat} {x : Int} (h : l[i]? = some x) : l.drop i = x :: l.drop (i + 1) := by
 obtain ⟨hi,rfl⟩ := List.getElem?_eq_some_iff.1 h
 exact List.drop_eq_getElem_cons hi
theorem compare_pc {x y : Int} : PC Tryz.prog 145 [.int .i64 x,.int .i64 y] (.int .i64 (cmpI x y)) true := by
 refine PC.of ⟨Tryz.func145,by kernel_rfl,rfl,by kernel_rfl⟩ tabOk mixed (by show 2 ≤ Tryz.f145.ntmps; decide) ?_
 refine W.r fun K hK => ?_
 simp (disch := omega) only [↓RU,RV,RH,↓reduceIte,reduceEqDiff,reduceCtorEq,if_pos]
 refine hK _ _ ?_;clear hK K
 refine W.r fun K hK => ?_
 simp (disch := omega) only [↓RU,RV,RH,↓reduceIte,reduceEqDiff,reduceCtorEq,if_pos,List.append_nil]
 refine CallR.pc (isNaN_pc) rfl (.inl rfl) ?_
 simp (disch := omega) only [↓RU,RV,RH,↓reduceIte,reduceEqDiff,reduceCtorEq,if_pos,List.append_nil]
 refine hK _ _ ?_;clear hK K
 refine W.r fun K hK => ?_
 simp (disch := omega) only [↓RU,RV,RH,↓reduceIte,reduceEqDiff,reduceCtorEq,if_pos,List.append_nil]
 refine CallR.pc (isNaN_pc) rfl (.inl rfl) ?_
 simp (disch := omega) only [↓RU,RV,RH,↓reduceIte,reduceEqDiff,reduceCtorEq,if_pos,List.append_nil]
 refine hK _ _ ?_;clear hK K
 refine W.seq ?_
 refine W.r fun K hK => ?_
 simp (disch := omega) only [↓RU,RV,RH,↓reduceIte,reduceEqDiff,reduceCtorEq,if_pos]
 refine hK _ _ ?_;clear hK K
 refine W.cond rfl (fun h => ?_) (fun h => ?_)
 ·try simp only [RL] at h
  exact absurd h (by simp)
 ·try simp only [RL] at h
  refine W.skip ?_
  refine xn ?_
  refine W.seq ?_
  refine W.r fun K hK => ?_
  simp (disch := omega) only [↓RU,RV,RH,↓reduceIte,reduceEqDiff,reduceCtorEq,if_pos]
  refine hK _ _ ?_;clear hK K
  refine W.cond rfl (fun h1 => ?_) (fun h1 => ?_)
  ·try simp only [RL] at h1
   exact absurd h1 (by simp)
  ·try simp only [RL] at h1
   refine W.skip ?_
   refine xn ?_
   refine W.seq ?_
   refine W.r fun K hK => ?_
   simp (disch := omega) only [↓RU,RV,RH,↓reduceIte,reduceEqDiff,reduceCtorEq,if_pos,w64,tyint]
   refine hK _ _ ?_;clear hK K
   refine W.cond rfl (fun h3 => ?_) (fun h3 => ?_)
   ·try simp only [RL] at h3
    refine W.r fun K hK => ?_
    simp (disch := omega) only [↓RU,RV,RH,↓reduceIte,reduceEqDiff,reduceCtorEq,if_pos]
    refine hK _ _ ?_;clear hK K
    refine W.ret ?_
    refine XThen.ret ?_
    refine Br rfl ?_
    rw [cmpI,if_pos (by simpa using h3)]
    rfl
   ·try simp only [RL] at h3
    refine W.skip ?_
    refine xn ?_
    refine W.seq ?_
    refine W.r fun K hK => ?_
    simp (disch := omega) only [↓RU,RV,RH,↓reduceIte,reduceEqDiff,reduceCtorEq,if_pos,w64,tyint]
    refine hK _ _ ?_;clear hK K
    refine W.cond rfl (fun h4 => ?_) (fun h4 => ?_)
    ·try simp only [RL] at h4
     refine W.r fun K hK => ?_
     simp (disch := omega) only [↓RU,RV,RH,↓reduceIte,reduceEqDiff,reduceCtorEq,if_pos]
     refine hK _ _ ?_;clear hK K
     refine W.ret ?_
     refine XThen.ret ?_
     refine Br rfl ?_
     rw [cmpI,if_neg (by simpa using h3),if_pos (by simpa using h4)]
     rfl
    ·try simp only [RL] at h4
     refine W.skip ?_
     refine xn ?_
     refine W.r fun K hK => ?_
     simp (disch := omega) only [↓RU,RV,RH,↓reduceIte,reduceEqDiff,reduceCtorEq,if_pos]
     refine hK _ _ ?_;clear hK K
     refine W.ret ?_
     refine Br rfl ?_
     rw [cmpI,if_neg (by simpa using h3),if_neg (by simpa using h4)]
     rfl
theorem or_pc {l : List Int} (hl : l.length ≤ 1048576) : PC Tryz.prog 144 [eInts l] (.int .i64 (orI l)) true := by
 refine PC.of ⟨Tryz.func144,by kernel_rfl,rfl,by kernel_rfl⟩ tabOk mixed (by show 1 ≤ Tryz.f144.ntmps; decide) ?_
 refine W.r fun K hK => ?_
 simp (disch := omega) only [↓RU,RV,RH,↓reduceIte,reduceEqDiff,reduceCtorEq,if_pos]
 refine hK _ _ ?_;clear hK K
 refine W.r fun K hK => ?_
 simp (disch := omega) only [↓RU,RV,RH,↓reduceIte,reduceEqDiff,reduceCtorEq,if_pos]
 refine hK _ _ ?_;clear hK K
 refine W.seq ?_
 refine W.r fun K hK => ?_
 simp (disch := omega) only [↓RU,RV,RH,↓reduceIte,reduceEqDiff,reduceCtorEq,if_pos,tyLint,tyint]
 refine hK _ _ ?_;clear hK K
 refine W.block ?_
 refine W.loop [0,3,6,7,8] (fun n vs S => ∃ i : Nat,n = l.length - i ∧ i ≤ l.length ∧ (orI l = orI (l.drop i)) ∧ vs = [eInts l,.int .i64 0,eInts l,.int .i64 l.length,.int .i64 i] ∧ S = ⟨[],0⟩) (l.length) ?_ ?_
 ·refine ⟨0,0,rfl,Nat.zero_le _,rfl,?_,rfl⟩
  simp [Env.put,Env.of,argEnv]
 rintro n vs S - ⟨i,rfl,h_i,he,rfl,rfl⟩
 refine W.r fun K hK => ?_
 simp (disch := omega) only [↓RU,RV,RH,↓reduceIte,reduceEqDiff,reduceCtorEq,if_pos,w64,tyint]
 refine hK _ _ ?_;clear hK K
 refine W.seq ?_
 refine W.cond rfl (fun h => ?_) (fun h => ?_)
 ·try simp only [RL] at h
  obtain ⟨x,hx,-⟩ := get_of (show i < l.length by omega)
  refine W.skip ?_
  refine xn ?_
  refine W.seq ?_
  refine W.block ?_
  refine W.r fun K hK => ?_
  simp (disch := omega) only [↓RU,RV,RH,↓reduceIte,reduceEqDiff,reduceCtorEq,if_pos,tyLint,tyint,hx]
  refine hK _ _ ?_;clear hK K
  refine W.r fun K hK => ?_
  simp (disch := omega) only [↓RU,RV,RH,↓reduceIte,reduceEqDiff,reduceCtorEq,if_pos,w64,tyint]
  refine hK _ _ ?_;clear hK K
  refine W.cond rfl (fun h1 => ?_) (fun h1 => ?_)
  ·try simp only [RL] at h1
   refine W.r fun K hK => ?_
   simp (disch := omega) only [↓RU,RV,RH,↓reduceIte,reduceEqDiff,reduceCtorEq,if_pos]
   refine hK _ _ ?_;clear hK K
   refine W.ret ?_
   refine XBlock.ret ?_
   refine XThen.ret ?_
   refine XThen.ret ?_
   refine XBlock.ret ?_
   refine XThen.ret ?_
   refine Br rfl ?_
   rw [he,dropc hx,orI_n (by simpa using h1)]
   rfl
  ·try simp only [RL] at h1
   have h1z : x = 0 := by simpa using h1
   refine W.skip ?_
   refine XbN ?_
   refine xn ?_
   refine W.k fun K hK => ?_
   simp (disch := omega) only [↓RU,RV,RH,↓reduceIte,reduceEqDiff,reduceCtorEq,if_pos,w64,tyint]
   refine hK _ _ ?_;clear hK K
   refine xn ?_
   refine ⟨l.length - (i + 1),by omega,0,i + 1,rfl,by omega,by rw [he,dropc hx,h1z,orI_0],?_,rfl⟩
   simp [Env.put,Env.of]
 ·try simp only [RL] at h
  obtain rfl : i = l.length := by omega
  refine W.exit ?_
  refine xe ?_
  refine xe ?_
  refine XBlock.hit ?_
  refine xn ?_
  refine W.r fun K hK => ?_
  simp (disch := omega) only [↓RU,RV,RH,↓reduceIte,reduceEqDiff,reduceCtorEq,if_pos]
  refine hK _ _ ?_;clear hK K
  refine W.ret ?_
  refine Br rfl ?_
  rw [he,List.drop_length]
  rfl
theorem bestc_pc {x y : Shp} : PC Tryz.prog 143 [.agg (eShp x),.agg (eShp y)] (.int .i64 (cmpSh x y)) true := by
 unfold eShp
 refine PC.of ⟨Tryz.func143,by kernel_rfl,rfl,by kernel_rfl⟩ tabOk mixed (by show 2 ≤ Tryz.f143.ntmps; decide) ?_
 refine W.r fun K hK => ?_
 simp (disch := omega) only [↓RU,RV,RH,↓reduceIte,reduceEqDiff,reduceCtorEq,if_pos,↓RS,RG,reduceAdd,reduceMul,reduceLeDiff,ty16,tyint,ty27]
 refine hK _ _ ?_;clear hK K
 refine W.seq_draw (by kernel_rfl) fun K hK => ?_
 simp (disch := omega) only [↓RU,RV,RH,↓reduceIte,reduceEqDiff,reduceCtorEq,if_pos,List.append_nil,↓RS,RG,reduceAdd,reduceMul,reduceLeDiff,tyLint,ty16,tyint,ty27]
 refine CallR.pc (compare_pc) rfl (.inl rfl) ?_
 simp (disch := omega) only [↓RU,RV,RH,↓reduceIte,reduceEqDiff,reduceCtorEq,if_pos,List.append_nil,↓RS,RG,reduceAdd,reduceMul,reduceLeDiff,tyLint,ty16,tyint,ty27]
 refine CallR.pc (compare_pc) rfl (.inl rfl) ?_
 simp (disch := omega) only [↓RU,RV,RH,↓reduceIte,reduceEqDiff,reduceCtorEq,if_pos,List.append_nil,↓RS,RG,reduceAdd,reduceMul,reduceLeDiff,tyLint,ty16,tyint,ty27]
 refine CallR.pc (or_pc (l := [cmpI x.1 y.1,cmpI x.2 y.2]) (by simp)) (mapM_one (reify_ints_n (k := 8) (l := [cmpI x.1 y.1,cmpI x.2 y.2]) rfl rfl) rfl) (.inl rfl) ?_
 simp (disch := omega) only [↓RU,RV,RH,↓reduceIte,reduceEqDiff,reduceCtorEq,if_pos,List.append_nil,↓RS,RG,reduceAdd,reduceMul,reduceLeDiff,tyLint,ty16,tyint,ty27]
 refine hK _ _ ?_;clear hK K
 refine W.ret ?_
 refine Br rfl ?_
 rfl
end Fw
end Go.Proofs.YtclmfemhboogpaaGreat
namespace Go.Proofs.YtclmfemhboogpaaGreat
open Go Go.Proofs
open Go.Shelf
def layS_ren : Go.Shelf.Ren := ⟨fun | 6 => 142 | 15 => 173 | 14 => 172 | 28 => 198 | 29 => 199 | 20 => 190 | 21 => 191 | 22 => 192 | 23 => 193 | 24 => 194 | 25 => 195 | 26 => 196 | 27 => 197 | 46 => 214 | 47 => 215 | 48 => 216 | 49 => 217 | 50 => 218 | 57 => 226 | n => n,fun | 22 => 101 | 24 => 142 | 25 => 145 | 3 => 3 | 39 => 172 | 0 => 0 | 53 => 189 | 55 => 191 | 4 => 4 | 46 => 183 | 45 => 182 | 50 => 27 | 5 => 5 | 9 => 9 | 66 => 203 | 70 => 207 | 76 => 215 | 77 => 115 | n => n,fun | n => n⟩
theorem layS : Go.Proofs.SlLaysF0.n6 Tryz.prog layS_ren := {
 mixed := by kernel_rfl
 f6 := ⟨Tryz.f142.name,by decide,Tryz.func142.trans (congrArg some (by kernel_rfl))⟩
 f14 := ⟨Tryz.f172.name,by decide,Tryz.func172.trans (congrArg some (by kernel_rfl))⟩
 f15 := Tryz.func173.trans (congrArg some (by kernel_rfl))
 f20 := ⟨Tryz.f190.name,by decide,Tryz.func190.trans (congrArg some (by kernel_rfl))⟩
 f21 := ⟨Tryz.f191.name,by decide,Tryz.func191.trans (congrArg some (by kernel_rfl))⟩
 f22 := ⟨Tryz.f192.name,by decide,Tryz.func192.trans (congrArg some (by kernel_rfl))⟩
 f23 := ⟨Tryz.f193.name,by decide,Tryz.func193.trans (congrArg some (by kernel_rfl))⟩
 f24 := ⟨Tryz.f194.name,by decide,Tryz.func194.trans (congrArg some (by kernel_rfl))⟩
 f25 := ⟨Tryz.f195.name,by decide,Tryz.func195.trans (congrArg some (by kernel_rfl))⟩
 f26 := ⟨Tryz.f196.name,by decide,Tryz.func196.trans (congrArg some (by kernel_rfl))⟩
 f27 := ⟨Tryz.f197.name,by decide,Tryz.func197.trans (congrArg some (by kernel_rfl))⟩
 f28 := Tryz.func198.trans (congrArg some (by kernel_rfl))
 f29 := Tryz.func199.trans (congrArg some (by kernel_rfl))
 f46 := ⟨Tryz.f214.name,by decide,Tryz.func214.trans (congrArg some (by kernel_rfl))⟩
 f47 := Tryz.func215.trans (congrArg some (by kernel_rfl))
 f48 := Tryz.func216.trans (congrArg some (by kernel_rfl))
 f49 := ⟨Tryz.f217.name,by decide,Tryz.func217.trans (congrArg some (by kernel_rfl))⟩
 f50 := ⟨Tryz.f218.name,by decide,Tryz.func218.trans (congrArg some (by kernel_rfl))⟩
 f57 := ⟨Tryz.f226.name,by decide,Tryz.func226.trans (congrArg some (by kernel_rfl))⟩
 t0 := Tryz.underlying0
 a0 := Tryz.isAgg0
 z0 := Tryz.sizeOf0
 v0 := Tryz.zeroValue0
 t3 := Tryz.underlying3
 a3 := Tryz.isAgg3
 z3 := Tryz.sizeOf3
 v3 := Tryz.zeroValue3
 t4 := Tryz.underlying4
 a4 := Tryz.isAgg4
 z4 := Tryz.sizeOf4
 v4 := Tryz.zeroValue4
 t5 := Tryz.underlying5
 a5 := Tryz.isAgg5
 z5 := Tryz.sizeOf5
 v5 := Tryz.zeroValue5
 t9 := Tryz.underlying9
 a9 := Tryz.isAgg9
 z9 := Tryz.sizeOf9
 v9 := Tryz.zeroValue9
 t22 := Tryz.underlying101
 a22 := Tryz.isAgg101
 z22 := Tryz.sizeOf101
 v22 := Tryz.zeroValue101
 t25 := Tryz.underlying145
 a25 := Tryz.isAgg145
 z25 := Tryz.sizeOf145
 v25 := Tryz.zeroValue145
 t39 := Tryz.underlying172
 a39 := Tryz.isAgg172
 z39 := Tryz.sizeOf172
 v39 := Tryz.zeroValue172
 t45 := Tryz.underlying182
 a45 := Tryz.isAgg182
 z45 := Tryz.sizeOf182
 v45 := Tryz.zeroValue182
 t46 := Tryz.underlying183
 a46 := Tryz.isAgg183
 z46 := Tryz.sizeOf183
 v46 := Tryz.zeroValue183
 t50 := Tryz.underlying27
 a50 := Tryz.isAgg27
 z50 := Tryz.sizeOf27
 v50 := Tryz.zeroValue27
 t53 := Tryz.underlying189
 a53 := Tryz.isAgg189
 z53 := Tryz.sizeOf189
 v53 := Tryz.zeroValue189
 t55 := Tryz.underlying191
 a55 := Tryz.isAgg191
 z55 := Tryz.sizeOf191
 v55 := Tryz.zeroValue191
 t66 := Tryz.underlying203
 a66 := Tryz.isAgg203
 z66 := Tryz.sizeOf203
 v66 := Tryz.zeroValue203
 t70 := Tryz.underlying207
 a70 := Tryz.isAgg207
 z70 := Tryz.sizeOf207
 v70 := Tryz.zeroValue207
 t76 := Tryz.underlying215
 a76 := Tryz.isAgg215
 z76 := Tryz.sizeOf215
 v76 := Tryz.zeroValue215
 t77 := Tryz.underlying115
 a77 := Tryz.isAgg115
 z77 := Tryz.sizeOf115
 v77 := Tryz.zeroValue115 }
end Go.Proofs.YtclmfemhboogpaaGreat
namespace Go.Proofs.YtclmfemhboogpaaGreat
namespace Fw
open Go
open Nat (reduceEqDiff reduceLeDiff reduceAdd reduceMul)
section
open Go Go.RowKit
theorem cmpSh_lt {x y : Shp} : decide (cmpSh x y < 0) = decide (x.1 < y.1 ∨ (x.1 = y.1 ∧ x.2 < y.2)) := by
 apply decide_eq_decide.2
 unfold cmpSh
 by_cases h1 : x.1 < y.1
 ·rw [cmpI,if_pos h1,orI_n (by decide)]; simp [h1]
 ·by_cases h2 : y.1 < x.1
  ·rw [cmpI,if_neg h1,if_pos h2,orI_n (by decide)]; omega
  ·have e : x.1 = y.1 := by omega
   rw [cmpI,if_neg h1,if_neg h2,orI_0]
   by_cases h3 : x.2 < y.2
   ·rw [cmpI,if_pos h3,orI_n (by decide)]; omega
   ·by_cases h4 : y.2 < x.2
    ·rw [cmpI,if_neg h3,if_pos h4,orI_n (by decide)]; omega
    ·rw [cmpI,if_neg h3,if_neg h4,orI_0]; simp [orI]; omega
theorem cmpSh_swo : Sort.SWO (ltOf cmpSh) := by
 refine ⟨fun x => ?_,fun x y z h1 h2 => ?_,fun x y z h1 h2 => ?_⟩ <;> simp only [ltOf,cmpSh_lt,decide_eq_true_eq,decide_eq_false_iff_not] at * <;> omega
def encS (x : Shp) : List Value := [.int .i64 x.1,.int .i64 x.2]
theorem scs_flat : ∀ (l : List Shp) (j : Nat),j < l.length * 2 → ∃ n : Int,(scs l)[j]? = some (.int .i64 n) ∧ (encS l.toArray[j / 2]!)[j % 2]! = .int .i64 n
 | [],j,h => by simp at h
 | x :: l,0,_ => ⟨x.1,rfl,rfl⟩
 | x :: l,1,_ => ⟨x.2,rfl,rfl⟩
 | x :: l,j + 2,h => by
  obtain ⟨n,h1,h2⟩ := scs_flat l j (by simp at h; omega)
  refine ⟨n,by rw [scs_cons]; simpa [eShp] using h1,?_⟩
  rw [show (j + 2) / 2 = j / 2 + 1 by omega,show (j + 2) % 2 = j % 2 by omega]
  simpa using h2
theorem VI.fn_none {H : Array Obj} {F : Nat → Prop} {G : GSt} {f : FuncId} {v : Value} (h : VR H F G (.fn f []) v) : v = .func (.func f) #[] #[] := by
 cases h with
 | imm _ _ h => cases h with | fn _ _ vs e _ => rw [show vs = #[] from Array.eq_empty_of_size_eq_zero (by simpa using e.symm)]
 | fn _ _ vs e _ => rw [show vs = #[] from Array.eq_empty_of_size_eq_zero (by simpa using e.symm)]
theorem blw_grow {w w' : World} (h : Blw w w') : ∃ q os',w' = Sort.grow (w.drewN q) os' := by
 obtain ⟨⟨h1,h2,h3,h4,h5⟩,h6⟩ := h
 refine ⟨w'.drawn - w.drawn,w'.heap.extract w.heap.size w'.heap.size,?_⟩
 have hh : w'.heap = w.heap ++ w'.heap.extract w.heap.size w'.heap.size := by
  apply Array.ext_getElem?
  intro k
  rw [Array.getElem?_append]
  by_cases hk : k < w.heap.size
  ·rw [if_pos hk,h5 k hk]
  ·rw [if_neg hk,Array.getElem?_extract]
   by_cases hk2 : k < w'.heap.size
   ·rw [if_pos (by omega)]; congr 1; omega
   ·rw [if_neg (by omega),Array.getElem?_eq_none (by omega)]
 have hd : w.drawn + (w'.drawn - w.drawn) = w'.drawn := by omega
 have e1 : w' = { w with heap := w'.heap,drawn := w'.drawn } := by
  cases w'; cases w
  simp only at h1 h2 h3
  subst h1; subst h2; subst h3
  rfl
 rw [Sort.grow,World.drewN,hd]
 exact e1.trans (by rw [← hh])
set_option maxHeartbeats 1000000 in
theorem sortSh_ev {F R : List Ob} {ver t : Nat} {l : List Shp} (hl : l.length < 2147483648) :
  Ev Tryz.prog 142 [.loc F.length ver 0 l.length,.fn 143 []] ⟨F ++ .arr ver 142 2 (scs l) :: R,t⟩
   fun v S => v = .tup [] ∧ ∃ z : List Shp,z.Perm l ∧ z.Pairwise LexLe ∧ S = ⟨F ++ .arr ver 142 2 (scs z) :: R,t⟩ := by
 refine ⟨Fn.ent ⟨Tryz.func142,by kernel_rfl,rfl,by kernel_rfl⟩,fun F' G w cargs hE hi hlen hv => ?_⟩
 obtain ⟨c,d,rfl⟩ : ∃ c d,cargs = #[c,d] := by
  match cargs,hlen with
  | ⟨[c,d]⟩,_ => exact ⟨c,d,rfl⟩
 have hobs : G.er.obs = F ++ .arr ver 142 2 (scs l) :: R := by rw [hE]
 have hSo : G.er.obs[F.length]? = some (.arr ver 142 2 (scs l)) := by rw [hobs]; simp
 obtain ⟨et,sz,lo,cap,hG,rfl,hver,hn,hcm,hroom⟩ := (hv 0 _ c rfl rfl).loc_at hi (cells := scs l) (by simp [Store.cellsOf,hSo])
 obtain ⟨lo2,hG2⟩ := er_get hSo
 rw [hG] at hG2
 cases hG2
 obtain rfl := VI.fn_none (hv 1 _ d rfl rfl)
 obtain ⟨cs,⟨fz,hb,hz⟩,hcs,hle,hcell⟩ := hi.arr _ _ _ _ _ lo hG
 rw [scs_len] at hle
 have hblk : lo.blk < w.heap.size := hi.blk_lt hG
 have hH : Sort.HoldsK encS 2 w lo.blk 0 l.toArray := by
  intro j hj
  rw [Sort.size_flatK,List.size_toArray] at hj
  obtain ⟨n,h1,h2⟩ := scs_flat l j hj
  rw [Sort.get_flatK _ _ _ _ (by simpa using hj),h2]
  obtain ⟨-,u,k1,k2⟩ := hcell j _ h1
  rw [k2.int] at k1
  refine ⟨by simp [World.cell?,hb,k1],?_⟩
  obtain ⟨a,b⟩ := fz
  simp only [World.frozen?,hb,Bool.and_eq_false_iff,decide_eq_false_iff_not,Nat.zero_add]
  rcases hz with h | h <;> simp only at h <;> omega
 have hcmp : CmpLays Tryz.prog 143 #[] encS 2 cmpSh lo.blk 0 l.toArray.size w := by
  intro m os dk _ x y
  generalize sortWorldK encS 2 w lo.blk 0 m dk os = W
  refine ((bestc_pc (x := x) (y := y)).run (fun _ => False) W #[.agg (encS x).toArray,.agg (encS y).toArray] (fun _ h => h.elim) rfl ?_).mono ?_
  ·have ag : ∀ x : Shp,VI W.heap (fun _ => False) (.agg (eShp x)) (.agg (encS x).toArray) := fun x => by
    refine .agg _ _ rfl ?_
    rintro (_ | _ | i) p v h1 h2
    ·simp [eShp] at h1; simp [encS] at h2; subst h1; subst h2; exact .int _ _
    ·simp [eShp] at h1; simp [encS] at h2; subst h1; subst h2; exact .int _ _
    ·simp [eShp] at h1
   rintro (_ | _ | i) p v h1 h2
   ·simp at h1 h2; subst h1; subst h2; exact ag x
   ·simp at h1 h2; subst h1; subst h2; exact ag y
   ·simp at h1
  ·rintro e w' ⟨cv,rfl,hB,hr⟩
   cases hr
   exact ⟨rfl,blw_grow hB⟩
 refine (AnyQ.slices_SortFunc layS 2 Tryz.isAgg142 Tryz.sizeOf142 encS (fun _ => rfl) (fun x v hv => by simp [encS] at hv; rcases hv with rfl | rfl <;> rfl) cmpSh cmpSh_swo 143 #[] lo.blk 0 cap l.toArray w (fun _ _ => (bestc_pc (x := (0,0)) (y := (0,0))).ent _ _) hcmp hH hblk (by simp; omega)).mono ?_
 rintro e w' ⟨rfl,d',n,os,⟨hds,-,hdp⟩,hsorted,rfl⟩
 have hds : d'.size = l.length := hds
 obtain ⟨z,hz'⟩ : ∃ z : List Shp,d' = z.toArray := ⟨d'.toList,rfl⟩
 subst hz'
 have hds : z.length = l.length := hds
 have hp : z.Perm l := by
  have e1 : ∀ x : List Shp,x.length = l.length → (x.toArray.extract 0 l.toArray.size).toList = x := fun x hx => by simp [← hx]
  rw [e1 z hds,e1 l rfl] at hdp
  exact hdp
 have hs : z.Pairwise LexLe := by
  rw [List.pairwise_iff_getElem]
  intro i j hi hj hij
  have h := hsorted i j (Nat.zero_le _) hij (by simp; omega)
  rw [getElem!_pos _ j (by simpa using hj),getElem!_pos _ i (by simpa using hi)] at h
  simp only [ltOf,cmpSh_lt,decide_eq_false_iff_not,List.getElem_toArray] at h
  unfold LexLe; omega
 have hw1 : (Sort.putRowK encS 2 (Sort.ahead w n) lo.blk 0 z.toArray).heap[lo.blk]? = some (.cells (Sort.putCells id 0 (Sort.flatK encS 2 z.toArray) cs) 142 fz) := by
  simp [Sort.putRowK,Sort.putRow,Sort.mapBlock,Sort.ahead,Array.getElem?_modify,hb,Sort.onCells]
 have hsz : (Sort.putRowK encS 2 (Sort.ahead w n) lo.blk 0 z.toArray).heap.size = w.heap.size := by simp [Sort.putRowK,Sort.putRow,Sort.mapBlock,Sort.ahead]
 obtain ⟨i1,n1⟩ := put_obj hi hG (.arr ver 142 2 (scs z)) lo G.tick (Sort.putRowK encS 2 (Sort.ahead w n) lo.blk 0 z.toArray) rfl rfl rfl
  (show w.drawn ≤ w.drawn + n from Nat.le_add_right _ _) (by omega) (.inl rfl) (fun b _ hb' => by simp [Sort.putRowK,Sort.putRow,Sort.mapBlock,Sort.ahead,Array.getElem?_modify,Ne.symm hb']) (Nat.le_refl _) (show ver < G.tick from hver) (.inl ⟨rfl,by simp [Ob.like],rfl⟩) (by
   refine ⟨_,⟨fz,hw1,hz.of (by simp [Sort.putCells])⟩,by simpa [Sort.putCells] using hcs,by rw [scs_len]; omega,fun i p hp => ?_⟩
   have hi2 : i < z.length * 2 := by rw [← scs_len]; exact (List.getElem?_eq_some_iff.1 hp).1
   obtain ⟨m,h1,h2⟩ := scs_flat z i hi2
   rw [h1] at hp
   cases hp
   refine ⟨rfl,.int .i64 m,?_,.imm _ _ (.int _ _)⟩
   simp only [Sort.putCells,Array.getElem?_mapIdx]
   rw [Array.getElem?_eq_getElem (show i < cs.size by omega),Option.map_some,if_pos ⟨Nat.zero_le _,by simp [Sort.size_flatK]; omega⟩]
   simp only [Nat.sub_zero,id]
   rw [Sort.get_flatK _ _ _ _ (by simpa using hi2),h2])
 obtain ⟨i2,n2⟩ := below_step i1 (w' := sortWorldK encS 2 w lo.blk 0 n z.toArray os) ⟨⟨rfl,rfl,rfl,by simp [sortWorldK,Sort.grow],fun k hk => by simp [sortWorldK,Sort.grow,Array.getElem?_append,hk]⟩,Nat.le_refl _⟩
 refine ⟨.tup [],_,_,_,rfl,⟨rfl,z,hp,hs,?_⟩,i2,n1.trans n2,.tup [] #[] rfl (by simp)⟩
 have : ∀ ob,(⟨G.obs.set F.length (ob,lo),G.tick⟩ : GSt).er = ⟨G.er.obs.set F.length ob,G.er.tick⟩ := by intro ob; simp [GSt.er,List.map_set]
 rw [this,hE]
 simp
end
section
structure Pl (c : Nat → Nat → Nat) (H W : Nat) : Prop where
 rect : ∀ {i j i' j' : Nat} (k l : Nat),i < H → i' < H → j < W → j' < W → c i j = c i' j' → min i i' ≤ k → k ≤ max i i' → min j j' ≤ l → l ≤ max j j' → c k l = c i j
 plain : ∀ {i j : Nat},i + 1 < H → j + 1 < W → c i j ≠ c i (j + 1) → c (i + 1) j ≠ c (i + 1) (j + 1) → c i j ≠ c (i + 1) j → c i (j + 1) = c (i + 1) (j + 1)
def DL (c : Nat → Nat → Nat) (H W a b : Nat) : Prop := ∃ j i1 i2,j + 1 < W ∧ i1 < H ∧ i2 < H ∧ (∀ r,min i1 i2 ≤ r → r ≤ max i1 i2 → c r j ≠ c r (j + 1)) ∧ a = c i1 j ∧ b = c i2 (j + 1)
def DU (c : Nat → Nat → Nat) (H W a b : Nat) : Prop := ∃ i j1 j2,i + 1 < H ∧ j1 < W ∧ j2 < W ∧ (∀ k,min j1 j2 ≤ k → k ≤ max j1 j2 → c i k ≠ c (i + 1) k) ∧ a = c i j1 ∧ b = c (i + 1) j2
theorem flip_of {P : Nat → Prop} {i : Nat} : ∀ {n : Nat},i ≤ n → P i → ¬ P n → ∃ e,i ≤ e ∧ e + 1 ≤ n ∧ P e ∧ ¬ P (e + 1)
 | 0,h,h1,h2 => by
    obtain rfl : i = 0 := by omega
    exact absurd h1 h2
 | n + 1,h,h1,h2 => by
  by_cases c : P n
  ·by_cases e : i = n + 1
   ·subst e; exact absurd h1 h2
   ·exact ⟨n,by omega,Nat.le_refl _,c,h2⟩
  ·by_cases e : i = n + 1
   ·subst e; exact absurd h1 h2
   ·obtain ⟨m,k1,k2,k3⟩ := flip_of (P := P) (i := i) (n := n) (by omega) h1 c
    exact ⟨m,k1,by omega,k3⟩
section
variable {c : Nat → Nat → Nat} {H W : Nat}
def tr (c : Nat → Nat → Nat) (i j : Nat) : Nat := c j i
theorem Pl.ex (h : Pl c H W) : Pl (tr c) W H :=
 ⟨fun k l h1 h2 h3 h4 h5 h6 h7 h8 h9 => h.rect l k h3 h4 h1 h2 h5 h8 h9 h6 h7,fun {i j} h1 h2 h3 h4 h5 => by
  unfold Fw.tr at *
  by_cases q : c j i = c j (i + 1)
  ·exact absurd q h5
  ·by_cases q2 : c (j + 1) i = c (j + 1) (i + 1)
   ·exact q2
   ·exact absurd (h.plain (i := j) (j := i) h2 h1 h5 q2 h3) h4⟩
theorem DL.ex {a b : Nat} (h : DL (tr c) W H a b) : DU c H W a b := h
theorem DU.ex {a b : Nat} (h : DU (tr c) W H a b) : DL c H W a b := h
inductive TC (R : Nat → Nat → Prop) : Nat → Nat → Prop
 | one {a b : Nat} : R a b → TC R a b
 | tail {a b d : Nat} : TC R a b → R b d → TC R a d
theorem TC.mono {R S : Nat → Nat → Prop} (h : ∀ a b,R a b → S a b) {a b : Nat} (k : TC R a b) : TC S a b := by
 induction k with
 | one k => exact .one (h _ _ k)
 | tail _ k ih => exact .tail ih (h _ _ k)
theorem TC.trans {R : Nat → Nat → Prop} {a b d : Nat} (h : TC R a b) (k : TC R b d) : TC R a d := by
 induction k with
 | one k => exact .tail h k
 | tail _ k ih => exact .tail ih k
theorem TC.last {R : Nat → Nat → Prop} {a b : Nat} (h : TC R a b) : ∃ x,(x = a ∨ TC R a x) ∧ R x b := by
 cases h with
 | one k => exact ⟨a,.inl rfl,k⟩
 | tail h k => exact ⟨_,.inr h,k⟩
end
end
section
section
variable {n : Nat} {M : List (List Bool)}
theorem absorb {p q : Bool} : (p || (q && p)) = p := by cases p <;> cases q <;> rfl
theorem clK_to (h : Sq n M) {k : Nat} (hk : k < n) : ∀ i,i ≤ n → Sq n ((List.range i).foldl (clA n k) M) ∧
  ∀ x y,x < n → y < n → getB ((List.range i).foldl (clA n k) M) x y = if x < i then getB M x y || (getB M x k && getB M k y) else getB M x y
 | 0,_ => ⟨h,fun x y _ _ => by simp⟩
 | i + 1,hi => by
  obtain ⟨h1,h2⟩ := clK_to h hk i (by omega)
  rw [foldl_rg]
  generalize (List.range i).foldl (clA n k) M = X at h1 h2 ⊢
  obtain ⟨h3,h4⟩ := clA_to h1 hk (show i < n by omega) n (Nat.le_refl _)
  refine ⟨h3,fun x y hx hy => ?_⟩
  unfold clA
  rw [h4 x y hx hy]
  by_cases e : x = i
  ·subst e
   have e1 : getB X x y = getB M x y := by rw [h2 x y hx hy,if_neg (Nat.lt_irrefl _)]
   have e2 : getB X x k = getB M x k := by rw [h2 x k hx hk,if_neg (Nat.lt_irrefl _)]
   have e3 : getB X k y = getB M k y := by
    rw [h2 k y hk hy]
    split
    ·exact absorb
    ·rfl
   rw [if_pos ⟨rfl,hy⟩,if_pos (by omega),e1,e2,e3]
  ·rw [if_neg (fun q => e q.1),h2 x y hx hy]
   by_cases e2 : x < i
   ·rw [if_pos e2,if_pos (by omega)]
   ·rw [if_neg e2,if_neg (by omega)]
theorem clK_get (h : Sq n M) {k : Nat} (hk : k < n) {x y : Nat} (hx : x < n) (hy : y < n) : getB (clK n M k) x y = (getB M x y || (getB M x k && getB M k y)) := by
 have := (clK_to h hk n (Nat.le_refl _)).2 x y hx hy
 rw [if_pos hx] at this
 exact this
theorem close_to (h : Sq n M) : ∀ i,i ≤ n → Sq n ((List.range i).foldl (clK n) M) ∧
  (∀ a b,a < n → b < n → getB M a b = true → getB ((List.range i).foldl (clK n) M) a b = true) ∧
  (∀ m a b,m < i → a < n → b < n → getB ((List.range i).foldl (clK n) M) a m = true → getB ((List.range i).foldl (clK n) M) m b = true → getB ((List.range i).foldl (clK n) M) a b = true) ∧
  (∀ T : Nat → Nat → Prop,(∀ a b d,T a b → T b d → T a d) → (∀ a b,a < n → b < n → getB M a b = true → T a b) → ∀ a b,a < n → b < n → getB ((List.range i).foldl (clK n) M) a b = true → T a b)
 | 0,_ => ⟨h,fun a b _ _ k => k,fun m a b k => by omega,fun T _ k => k⟩
 | i + 1,hi => by
  obtain ⟨h1,h2,h3,h4⟩ := close_to h i (by omega)
  rw [foldl_rg]
  generalize (List.range i).foldl (clK n) M = X at h1 h2 h3 h4 ⊢
  have hin : i < n := by omega
  have g : ∀ {x y : Nat},x < n → y < n → (getB (clK n X i) x y = true ↔ getB X x y = true ∨ (getB X x i = true ∧ getB X i y = true)) := by
   intro x y hx hy
   rw [clK_get h1 hin hx hy]; simp
  refine ⟨(clK_to h1 hin n (Nat.le_refl _)).1,fun a b ha hb k => (g ha hb).2 (.inl (h2 a b ha hb k)),fun m a b hm ha hb k1 k2 => ?_,fun T tr hT a b ha hb k => ?_⟩
  ·have hmn : m < n := by omega
   rw [g ha hmn] at k1
   rw [g hmn hb] at k2
   rw [g ha hb]
   by_cases e : m = i
   ·subst e
    rcases k1 with k1 | k1 <;> rcases k2 with k2 | k2
    ·exact .inr ⟨k1,k2⟩
    ·exact .inr ⟨k1,k2.2⟩
    ·exact .inr ⟨k1.1,k2⟩
    ·exact .inr ⟨k1.1,k2.2⟩
   ·have hmi : m < i := by omega
    rcases k1 with k1 | k1 <;> rcases k2 with k2 | k2
    ·exact .inl (h3 m a b hmi ha hb k1 k2)
    ·exact .inr ⟨h3 m a i hmi ha hin k1 k2.1,k2.2⟩
    ·exact .inr ⟨k1.1,h3 m i b hmi hin hb k1.2 k2⟩
    ·exact .inr ⟨k1.1,k2.2⟩
  ·rw [g ha hb] at k
   rcases k with k | k
   ·exact h4 T tr hT a b ha hb k
   ·exact tr a i b (h4 T tr hT a i ha hin k.1) (h4 T tr hT i b hin hb k.2)
def MR (n : Nat) (M : List (List Bool)) (a b : Nat) : Prop := a < n ∧ b < n ∧ getB M a b = true
theorem close_tc (h : Sq n M) {a b : Nat} (ha : a < n) (hb : b < n) : getB (closeM M) a b = true ↔ TC (MR n M) a b := by
 obtain ⟨h1,h2,h3,h4⟩ := close_to h n (Nat.le_refl _)
 have e : closeM M = (List.range n).foldl (clK n) M := by unfold closeM; rw [h.1]
 rw [e]
 constructor
 ·exact h4 (TC (MR n M)) (fun _ _ _ p q => p.trans q) (fun a b ha hb k => .one ⟨ha,hb,k⟩) a b ha hb
 ·intro k
  induction k with
  | one k => exact h2 _ _ k.1 k.2.1 k.2.2
  | tail _ k ih => exact h3 _ _ _ k.1 ha k.2.1 (ih k.1) (h2 _ _ k.1 k.2.1 k.2.2)
end
def Cov (ws : List Wall) (level : Bool) (line i1 i2 : Nat) : Prop := ∃ w ∈ ws,w.level = level ∧ w.line = line ∧ w.fr ≤ i1 ∧ (i2 : Int) < w.fr + w.long
theorem Cov.app {ws vs : List Wall} {level : Bool} {line i1 i2 : Nat} (h : Cov ws level line i1 i2) : Cov (ws ++ vs) level line i1 i2 := by
 obtain ⟨w,hw,k⟩ := h
 exact ⟨w,List.mem_append_left _ hw,k⟩
theorem Cov.long {ws : List Wall} {w : Wall} {level : Bool} {line i1 i2 : Nat} (h : Cov (ws ++ [w]) level line i1 i2) : Cov (ws ++ [{ w with long := w.long + 1 }]) level line i1 i2 := by
 obtain ⟨v,hv,k1,k2,k3,k4⟩ := h
 rcases List.mem_append.1 hv with hv | hv
 ·exact ⟨v,List.mem_append_left _ hv,k1,k2,k3,k4⟩
 ·rw [List.mem_singleton] at hv
  subst hv
  exact ⟨_,List.mem_append_right _ (List.mem_singleton.2 rfl),k1,k2,k3,by simp only; omega⟩
def Run (g : List (List Int)) (level : Bool) (line i1 i2 : Nat) : Prop := ∀ j,i1 ≤ j → j ≤ i2 → difG g level line j = true
theorem wlLine_cov {g : List (List Int)} {level : Bool} {line : Nat} {ws : List Wall} : ∀ n,(∀ lv ln i1 i2,Cov ws lv ln i1 i2 → Cov (wlLine g level line ws n).1 lv ln i1 i2) ∧
  (∀ i1 i2,i1 ≤ i2 → i2 < n → Run g level line i1 i2 → Cov (wlLine g level line ws n).1 level line i1 i2) ∧
  ((wlLine g level line ws n).2 = false → ∀ m,n = m + 1 → difG g level line m = false) ∧
  ((wlLine g level line ws n).2 = true → ∃ (ws0 : List Wall) (w : Wall),(wlLine g level line ws n).1 = ws0 ++ [w] ∧ w.level = level ∧ w.line = (line : Int) ∧ w.fr + w.long = (n : Int) ∧ 1 ≤ w.long ∧ ∀ i : Nat,i < n → Run g level line i (n - 1) → w.fr ≤ (i : Int))
 | 0 => by
  rw [wlLine_zero]
  exact ⟨fun _ _ _ _ h => h,fun i1 i2 _ h => by omega,fun _ m h => by omega,fun h => by cases h⟩
 | n + 1 => by
  obtain ⟨h1,h2,h3,h4⟩ := wlLine_cov (g := g) (level := level) (line := line) (ws := ws) n
  rw [wlLine_succ]
  generalize wlLine g level line ws n = s at h1 h2 h3 h4
  obtain ⟨l,op⟩ := s
  simp only at h1 h2 h3 h4
  cases hd : difG g level line n with
  | false =>
   have e : wlStep false level line n (l,op) = (l,false) := by simp [wlStep]
   rw [e]
   refine ⟨h1,fun i1 i2 k1 k2 k3 => ?_,fun _ m hm => (by have e0 : m = n := (by omega); rw [e0]; exact hd),fun h => by cases h⟩
   by_cases e2 : i2 = n
   ·subst e2
    have := k3 i2 k1 (Nat.le_refl _)
    rw [hd] at this; cases this
   ·exact h2 i1 i2 k1 (by omega) k3
  | true =>
   cases op with
   | false =>
    have e : wlStep true level line n (l,false) = (l ++ [⟨level,line,n,1⟩],true) := by simp [wlStep]
    rw [e]
    have hno : ∀ m,n = m + 1 → difG g level line m = false := h3 rfl
    have first : ∀ i,i < n + 1 → Run g level line i n → i = n := by
     intro i hi hr
     by_cases e2 : i = n
     ·exact e2
     ·have := hr (n - 1) (by omega) (by omega)
      rw [hno (n - 1) (by omega)] at this; cases this
    refine ⟨fun lv ln i1 i2 k => (h1 lv ln i1 i2 k).app,fun i1 i2 k1 k2 k3 => ?_,fun h => (by cases h),fun _ => ⟨l,_,rfl,rfl,rfl,by simp,by simp,fun i hi hr => ?_⟩⟩
    ·by_cases e2 : i2 = n
     ·subst e2
      obtain rfl := first i1 (by omega) k3
      exact ⟨_,List.mem_append_right _ (List.mem_singleton.2 rfl),rfl,rfl,Int.le_refl _,by simp only; omega⟩
     ·exact (h2 i1 i2 k1 (by omega) k3).app
    ·have := first i hi hr
     simp only; omega
   | true =>
    obtain ⟨ws0,w,rfl,w1,w2,w3,w4,w5⟩ := h4 rfl
    have e : wlStep true level line n (ws0 ++ [w],true) = (ws0 ++ [{ w with long := w.long + 1 }],true) := by simp [wlStep]
    rw [e]
    have hfr : ∀ i : Nat,i < n + 1 → Run g level line i n → w.fr ≤ (i : Int) := by
     intro i hi hr
     by_cases e2 : i = n
     ·omega
     ·exact w5 i (by omega) fun j j1 j2 => hr j j1 (by omega)
    refine ⟨fun lv ln i1 i2 k => (h1 lv ln i1 i2 k).long,fun i1 i2 k1 k2 k3 => ?_,fun h => (by cases h),fun _ => ⟨ws0,_,rfl,w1,w2,by simp only; omega,by simp only; omega,fun i hi hr => hfr i hi hr⟩⟩
    by_cases e2 : i2 = n
    ·subst e2
     have := hfr i1 (by omega) k3
     exact ⟨_,List.mem_append_right _ (List.mem_singleton.2 rfl),w1,w2,this,by simp only; omega⟩
    ·exact (h2 i1 i2 k1 (by omega) k3).long
theorem wlLevel_cov {g : List (List Int)} {level : Bool} {places : Nat} {ws : List Wall} : ∀ lines,(∀ lv ln i1 i2,Cov ws lv ln i1 i2 → Cov (wlLevel g level places ws lines) lv ln i1 i2) ∧
  (∀ line i1 i2,1 ≤ line → line < lines → i1 ≤ i2 → i2 < places → Run g level line i1 i2 → Cov (wlLevel g level places ws lines) level line i1 i2)
 | 0 => ⟨fun _ _ _ _ h => h,fun line _ _ _ h => by omega⟩
 | k + 1 => by
  obtain ⟨h1,h2⟩ := wlLevel_cov (g := g) (level := level) (places := places) (ws := ws) k
  by_cases hk : 1 ≤ k
  ·rw [wlLevel_succ hk]
   obtain ⟨l1,l2,-,-⟩ := wlLine_cov (g := g) (level := level) (line := k) (ws := wlLevel g level places ws k) places
   refine ⟨fun lv ln i1 i2 q => l1 _ _ _ _ (h1 _ _ _ _ q),fun line i1 i2 q1 q2 q3 q4 q5 => ?_⟩
   by_cases e : line = k
   ·subst e; exact l2 i1 i2 q3 q4 q5
   ·exact l1 _ _ _ _ (h2 line i1 i2 q1 (by omega) q3 q4 q5)
  ·obtain rfl : k = 0 := by omega
   rw [wlLevel_one]
   exact ⟨fun _ _ _ _ h => h,fun line _ _ q1 q2 => by omega⟩
theorem wallsG_cov {g : List (List Int)} {H W : Nat} {level : Bool} {line i1 i2 : Nat} (h1 : 1 ≤ line) (h2 : line < if level then H else W) (h3 : i1 ≤ i2) (h4 : i2 < if level then W else H) (hr : Run g level line i1 i2) : Cov (wallsG g H W) level line i1 i2 := by
 unfold wallsG
 obtain ⟨a1,a2⟩ := wlLevel_cov (g := g) (level := false) (places := H) (ws := []) W
 obtain ⟨b1,b2⟩ := wlLevel_cov (g := g) (level := true) (places := W) (ws := wlLevel g false H [] W) H
 cases level with
 | false => exact b1 _ _ _ _ (a2 line i1 i2 h1 h2 h3 h4 hr)
 | true => exact b2 line i1 i2 h1 h2 h3 h4 hr
section
variable {n : Nat}
theorem relB_get {a : Int} (ha : 0 ≤ a ∧ a < n) : ∀ {bs : List Int} {M : List (List Bool)},Rm n bs → Sq n M → Sq n (relB a bs M) ∧ ∀ x y,getB (relB a bs M) x y = true ↔ getB M x y = true ∨ (x = a.toNat ∧ ∃ b ∈ bs,y = b.toNat)
 | [],M,_,h => ⟨h,fun x y => by simp [relB]⟩
 | b :: bs,M,hb,h => by
  have hb0 := hb b (by simp)
  obtain ⟨k1,k2⟩ := relB_get ha (bs := bs) (M := setB M a.toNat b.toNat true) (fun x hx => hb x (by simp [hx])) (h.set (by omega))
  refine ⟨k1,fun x y => ?_⟩
  have e : relB a (b :: bs) M = relB a bs (setB M a.toNat b.toNat true) := rfl
  rw [e,k2,getB_setB h (by omega) (by omega)]
  by_cases q : x = a.toNat ∧ y = b.toNat
  ·rw [if_pos q]; simp [q.1,q.2]
  ·rw [if_neg q]
   constructor
   ·rintro (k | ⟨k,c,hc,rfl⟩)
    ·exact .inl k
    ·exact .inr ⟨k,c,by simp [hc],rfl⟩
   ·rintro (k | ⟨k,c,hc,rfl⟩)
    ·exact .inl k
    ·rcases List.mem_cons.1 hc with rfl | hc
     ·exact absurd ⟨k,rfl⟩ q
     ·exact .inr ⟨k,c,hc,rfl⟩
theorem relW_get {bs : List Int} (hb : Rm n bs) : ∀ {la : List Int} {M : List (List Bool)},Rm n la → Sq n M → Sq n (relW M la bs) ∧ ∀ x y,getB (relW M la bs) x y = true ↔ getB M x y = true ∨ (∃ a ∈ la,x = a.toNat) ∧ ∃ b ∈ bs,y = b.toNat
 | [],M,_,h => ⟨h,fun x y => by simp [relW]⟩
 | a :: la,M,ha,h => by
  obtain ⟨j1,j2⟩ := relB_get (ha a (by simp)) hb h
  obtain ⟨k1,k2⟩ := relW_get hb (la := la) (M := relB a bs M) (fun x hx => ha x (by simp [hx])) j1
  refine ⟨k1,fun x y => ?_⟩
  have e : relW M (a :: la) bs = relW (relB a bs M) la bs := rfl
  rw [e,k2,j2]
  constructor
  ·rintro ((k | ⟨k,q⟩) | ⟨⟨c,hc,k⟩,q⟩)
   ·exact .inl k
   ·exact .inr ⟨⟨a,by simp,k⟩,q⟩
   ·exact .inr ⟨⟨c,by simp [hc],k⟩,q⟩
  ·rintro (k | ⟨⟨c,hc,k⟩,q⟩)
   ·exact .inl (.inl k)
   ·rcases List.mem_cons.1 hc with rfl | hc
    ·exact .inl (.inr ⟨k,q⟩)
    ·exact .inr ⟨⟨c,hc,k⟩,q⟩
def By (g : List (List Int)) (ws : List Wall) (lv : Bool) (x y : Nat) : Prop := ∃ w ∈ ws,w.level = lv ∧ (∃ a ∈ (sidesOf g w).1,x = a.toNat) ∧ ∃ b ∈ (sidesOf g w).2,y = b.toNat
theorem By.cons {g : List (List Int)} {w : Wall} {ws : List Wall} {lv : Bool} {x y : Nat} : By g (w :: ws) lv x y ↔ (w.level = lv ∧ (∃ a ∈ (sidesOf g w).1,x = a.toNat) ∧ ∃ b ∈ (sidesOf g w).2,y = b.toNat) ∨ By g ws lv x y := by
 unfold By; simp
theorem ord_get {g : List (List Int)} {nh nw : Nat} (hrm : RmOk g nh nw n) : ∀ (ws : List Wall),(∀ w ∈ ws,WlOk g nh nw w) → ∀ {M : List (List Bool) × List (List Bool)},Sq n M.1 → Sq n M.2 →
  (Sq n (ws.foldl (ordW g) M).1 ∧ ∀ x y,getB (ws.foldl (ordW g) M).1 x y = true ↔ getB M.1 x y = true ∨ By g ws false x y) ∧
  (Sq n (ws.foldl (ordW g) M).2 ∧ ∀ x y,getB (ws.foldl (ordW g) M).2 x y = true ↔ getB M.2 x y = true ∨ By g ws true x y)
 | [],_,M,h0,h1 => ⟨⟨h0,fun x y => by simp [By]⟩,⟨h1,fun x y => by simp [By]⟩⟩
 | w :: ws,hws,M,h0,h1 => by
  obtain ⟨r1,r2⟩ := sidesOf_rooms hrm (hws w (by simp))
  rw [List.foldl_cons]
  cases hlv : w.level with
  | false =>
   obtain ⟨k1,k2⟩ := relW_get r2 r1 h0
   have e : ordW g M w = (relW M.1 (sidesOf g w).1 (sidesOf g w).2,M.2) := by unfold ordW; rw [hlv]; rfl
   rw [e]
   obtain ⟨⟨a1,a2⟩,⟨b1,b2⟩⟩ := ord_get hrm ws (fun w hw => hws w (by simp [hw])) (M := (relW M.1 (sidesOf g w).1 (sidesOf g w).2,M.2)) k1 h1
   refine ⟨⟨a1,fun x y => ?_⟩,⟨b1,fun x y => ?_⟩⟩
   ·rw [a2,k2,By.cons,hlv]; simp only [true_and,or_assoc]
   ·rw [b2,By.cons,hlv]; simp
  | true =>
   obtain ⟨k1,k2⟩ := relW_get r2 r1 h1
   have e : ordW g M w = (M.1,relW M.2 (sidesOf g w).1 (sidesOf g w).2) := by unfold ordW; rw [hlv]; rfl
   rw [e]
   obtain ⟨⟨a1,a2⟩,⟨b1,b2⟩⟩ := ord_get hrm ws (fun w hw => hws w (by simp [hw])) (M := (M.1,relW M.2 (sidesOf g w).1 (sidesOf g w).2)) h0 k1
   refine ⟨⟨a1,fun x y => ?_⟩,⟨b1,fun x y => ?_⟩⟩
   ·rw [a2,By.cons,hlv]; simp
   ·rw [b2,k2,By.cons,hlv]; simp only [true_and,or_assoc]
theorem emptyM_no {x y : Nat} : getB (emptyM n) x y = false := by
 unfold getB emptyM
 rw [List.getElem?_replicate]
 split
 ·rw [Option.getD_some,List.getElem?_replicate]; split <;> rfl
 ·rfl
def cn (g : List (List Int)) (i j : Nat) : Nat := (gz g i j).toNat
theorem RmOk.ne {g : List (List Int)} {nh nw : Nat} (h : RmOk g nh nw n) {i j i' j' : Nat} (h1 : i < nh) (h2 : j < nw) (h3 : i' < nh) (h4 : j' < nw) : gz g i j ≠ gz g i' j' ↔ cn g i j ≠ cn g i' j' := by
 have a := h i j h1 h2
 have b := h i' j' h3 h4
 unfold cn
 omega
theorem side_mem1 {g : List (List Int)} {level : Bool} {line fr long j : Nat} (h1 : fr ≤ j) (h2 : j < fr + long) : (sidesG g level line j).1 ∈ (sidesOf g ⟨level,line,fr,long⟩).1 := by
 simp only [sidesOf,Int.toNat_natCast]
 rw [mem_ddp]
 simp only [alongG,List.mem_map,List.mem_range]
 exact ⟨j - fr,by omega,by rw [show fr + (j - fr) = j by omega]⟩
theorem side_mem2 {g : List (List Int)} {level : Bool} {line fr long j : Nat} (h1 : fr ≤ j) (h2 : j < fr + long) : (sidesG g level line j).2 ∈ (sidesOf g ⟨level,line,fr,long⟩).2 := by
 simp only [sidesOf,Int.toNat_natCast]
 rw [mem_ddp]
 simp only [alongG,List.mem_map,List.mem_range]
 exact ⟨j - fr,by omega,by rw [show fr + (j - fr) = j by omega]⟩
theorem side_of1 {g : List (List Int)} {level : Bool} {line fr long : Nat} {x : Int} (h : x ∈ (sidesOf g ⟨level,line,fr,long⟩).1) : ∃ j,fr ≤ j ∧ j < fr + long ∧ x = (sidesG g level line j).1 := by
 simp only [sidesOf,Int.toNat_natCast] at h
 rw [mem_ddp] at h
 simp only [alongG,List.mem_map,List.mem_range] at h
 obtain ⟨j,hj,rfl⟩ := h
 exact ⟨fr + j,by omega,by omega,rfl⟩
theorem side_of2 {g : List (List Int)} {level : Bool} {line fr long : Nat} {x : Int} (h : x ∈ (sidesOf g ⟨level,line,fr,long⟩).2) : ∃ j,fr ≤ j ∧ j < fr + long ∧ x = (sidesG g level line j).2 := by
 simp only [sidesOf,Int.toNat_natCast] at h
 rw [mem_ddp] at h
 simp only [alongG,List.mem_map,List.mem_range] at h
 obtain ⟨j,hj,rfl⟩ := h
 exact ⟨fr + j,by omega,by omega,rfl⟩
theorem by_left {g : List (List Int)} {nh nw : Nat} (h : RmOk g nh nw n) {x y : Nat} : By g (wallsG g nh nw) false x y ↔ DL (cn g) nh nw x y := by
 constructor
 ·rintro ⟨w,hw,hlv,⟨a,ha,rfl⟩,b,hb,rfl⟩
  obtain ⟨line,fr,long,he,hl,hin⟩ := wallsG_ok w hw
  rw [hlv] at he hin
  subst he
  obtain ⟨j1,p1,p2,rfl⟩ := side_of1 ha
  obtain ⟨j2,q1,q2,rfl⟩ := side_of2 hb
  have i1 := (hin j1 p1 p2).1
  have i2 := (hin j2 q1 q2).1
  unfold InL at i1 i2
  simp only [Bool.false_eq_true,if_false] at i1 i2
  obtain ⟨L,rfl⟩ : ∃ L,line = L + 1 := ⟨line - 1,by omega⟩
  refine ⟨L,j1,j2,i1.2.1,i1.2.2,i2.2.2,fun r r1 r2 => ?_,?_,?_⟩
  ·have hr := hin r (by omega) (by omega)
   have hr1 := hr.1
   unfold InL at hr1
   simp only [Bool.false_eq_true,if_false] at hr1
   have hr2 := hr.2
   unfold difG sidesG at hr2
   simp only [Bool.false_eq_true,if_false,decide_eq_true_eq,Nat.add_sub_cancel] at hr2
   exact (h.ne hr1.2.2 (by omega) hr1.2.2 hr1.2.1).1 hr2
  ·simp [sidesG,cn]
  ·simp [sidesG,cn]
 ·rintro ⟨L,i1,i2,h1,h2,h3,run,rfl,rfl⟩
  have hrun : Run g false (L + 1) (min i1 i2) (max i1 i2) := by
   intro r r1 r2
   have := run r r1 r2
   rw [← h.ne (by omega) (by omega) (by omega) h1] at this
   unfold difG sidesG
   simpa using this
  obtain ⟨w,hw,w1,w2,w3,w4⟩ := wallsG_cov (g := g) (H := nh) (W := nw) (level := false) (line := L + 1) (by omega) (by simpa using h1) (by omega) (by simp only [Bool.false_eq_true,if_false]; omega) hrun
  obtain ⟨line,fr,long,he,hl,hin⟩ := wallsG_ok w hw
  rw [w1] at he
  subst he
  simp only at w2 w3 w4
  obtain rfl : line = L + 1 := by omega
  refine ⟨_,hw,rfl,⟨_,side_mem1 (j := i1) (by omega) (by omega),?_⟩,_,side_mem2 (j := i2) (by omega) (by omega),?_⟩
  ·simp [sidesG,cn]
  ·simp [sidesG,cn]
theorem by_above {g : List (List Int)} {nh nw : Nat} (h : RmOk g nh nw n) {x y : Nat} : By g (wallsG g nh nw) true x y ↔ DU (cn g) nh nw x y := by
 constructor
 ·rintro ⟨w,hw,hlv,⟨a,ha,rfl⟩,b,hb,rfl⟩
  obtain ⟨line,fr,long,he,hl,hin⟩ := wallsG_ok w hw
  rw [hlv] at he hin
  subst he
  obtain ⟨j1,p1,p2,rfl⟩ := side_of1 ha
  obtain ⟨j2,q1,q2,rfl⟩ := side_of2 hb
  have i1 := (hin j1 p1 p2).1
  have i2 := (hin j2 q1 q2).1
  unfold InL at i1 i2
  simp only [if_true] at i1 i2
  obtain ⟨L,rfl⟩ : ∃ L,line = L + 1 := ⟨line - 1,by omega⟩
  refine ⟨L,j1,j2,i1.2.1,i1.2.2,i2.2.2,fun r r1 r2 => ?_,?_,?_⟩
  ·have hr := hin r (by omega) (by omega)
   have hr1 := hr.1
   unfold InL at hr1
   simp only [if_true] at hr1
   have hr2 := hr.2
   unfold difG sidesG at hr2
   simp only [if_true,decide_eq_true_eq,Nat.add_sub_cancel] at hr2
   exact (h.ne (by omega) hr1.2.2 hr1.2.1 hr1.2.2).1 hr2
  ·simp [sidesG,cn]
  ·simp [sidesG,cn]
 ·rintro ⟨L,i1,i2,h1,h2,h3,run,rfl,rfl⟩
  have hrun : Run g true (L + 1) (min i1 i2) (max i1 i2) := by
   intro r r1 r2
   have := run r r1 r2
   rw [← h.ne (by omega) (by omega) h1 (by omega)] at this
   unfold difG sidesG
   simpa using this
  obtain ⟨w,hw,w1,w2,w3,w4⟩ := wallsG_cov (g := g) (H := nh) (W := nw) (level := true) (line := L + 1) (by omega) (by simpa using h1) (by omega) (by simp only [if_true]; omega) hrun
  obtain ⟨line,fr,long,he,hl,hin⟩ := wallsG_ok w hw
  rw [w1] at he
  subst he
  simp only at w2 w3 w4
  obtain rfl : line = L + 1 := by omega
  refine ⟨_,hw,rfl,⟨_,side_mem1 (j := i1) (by omega) (by omega),?_⟩,_,side_mem2 (j := i2) (by omega) (by omega),?_⟩
  ·simp [sidesG,cn]
  ·simp [sidesG,cn]
theorem cn_lt {g : List (List Int)} {nh nw : Nat} (h : RmOk g nh nw n) {i j : Nat} (hi : i < nh) (hj : j < nw) : cn g i j < n := by
 have := h i j hi hj
 unfold cn; omega
theorem left_tc {g : List (List Int)} {nh nw : Nat} (h : RmOk g nh nw n) {a b : Nat} (ha : a < n) (hb : b < n) : getB (leftG g nh nw n) a b = true ↔ TC (DL (cn g) nh nw) a b := by
 obtain ⟨⟨k1,k2⟩,-⟩ := ord_get h (wallsG g nh nw) wallsG_ok (M := (emptyM n,emptyM n)) (emptyM_sq n) (emptyM_sq n)
 have hd : ∀ x y,getB (ordM g nh nw n).1 x y = true ↔ DL (cn g) nh nw x y := fun x y => by
  unfold ordM; rw [k2,by_left h]; simp [emptyM_no]
 unfold leftG
 have k3 : Sq n (ordM g nh nw n).1 := k1
 rw [close_tc k3 ha hb]
 constructor
 ·exact TC.mono fun x y q => (hd x y).1 q.2.2
 ·refine TC.mono fun x y q => ⟨?_,?_,(hd x y).2 q⟩
  ·obtain ⟨j,i1,i2,q1,q2,q3,-,rfl,-⟩ := q
   exact cn_lt h q2 (by omega)
  ·obtain ⟨j,i1,i2,q1,q2,q3,-,-,rfl⟩ := q
   exact cn_lt h q3 q1
theorem above_tc {g : List (List Int)} {nh nw : Nat} (h : RmOk g nh nw n) {a b : Nat} (ha : a < n) (hb : b < n) : getB (aboveG g nh nw n) a b = true ↔ TC (DU (cn g) nh nw) a b := by
 obtain ⟨-,⟨k1,k2⟩⟩ := ord_get h (wallsG g nh nw) wallsG_ok (M := (emptyM n,emptyM n)) (emptyM_sq n) (emptyM_sq n)
 have hd : ∀ x y,getB (ordM g nh nw n).2 x y = true ↔ DU (cn g) nh nw x y := fun x y => by
  unfold ordM; rw [k2,by_above h]; simp [emptyM_no]
 unfold aboveG
 have k3 : Sq n (ordM g nh nw n).2 := k1
 rw [close_tc k3 ha hb]
 constructor
 ·exact TC.mono fun x y q => (hd x y).1 q.2.2
 ·refine TC.mono fun x y q => ⟨?_,?_,(hd x y).2 q⟩
  ·obtain ⟨j,i1,i2,q1,q2,q3,-,rfl,-⟩ := q
   exact cn_lt h (by omega) q2
  ·obtain ⟨j,i1,i2,q1,q2,q3,-,-,rfl⟩ := q
   exact cn_lt h q1 q3
end
end
section
def lfM (p : List Txt) : List (List Bool) := leftG (gP p) p.length (hdRow p).length (rP p).length
def abM (p : List Txt) : List (List Bool) := aboveG (gP p) p.length (hdRow p).length (rP p).length
def Lf (p : List Txt) (a b : Nat) : Prop := getB (lfM p) a b = true
def Ab (p : List Txt) (a b : Nat) : Prop := getB (abM p) a b = true
section
variable {p : List Txt} {a b d : Nat}
theorem Lf.iff (ha : a < (rP p).length) (hb : b < (rP p).length) : Lf p a b ↔ TC (DL (cn (gP p)) p.length (hdRow p).length) a b := left_tc gP_room ha hb
theorem Ab.iff (ha : a < (rP p).length) (hb : b < (rP p).length) : Ab p a b ↔ TC (DU (cn (gP p)) p.length (hdRow p).length) a b := above_tc gP_room ha hb
theorem Lf.trans (ha : a < (rP p).length) (hb : b < (rP p).length) (hd : d < (rP p).length) (h : Lf p a b) (k : Lf p b d) : Lf p a d := by
 rw [Lf.iff ha hd]; exact ((Lf.iff ha hb).1 h).trans ((Lf.iff hb hd).1 k)
theorem Ab.trans (ha : a < (rP p).length) (hb : b < (rP p).length) (hd : d < (rP p).length) (h : Ab p a b) (k : Ab p b d) : Ab p a d := by
 rw [Ab.iff ha hd]; exact ((Ab.iff ha hb).1 h).trans ((Ab.iff hb hd).1 k)
end
end
section
def rooms (n : Nat) : List Int := (List.range n).map fun i : Nat => (i : Int)
section
variable {n : Nat} {f : Nat → Nat}
end
end
section
section
variable {p : List Txt} {below : Bool}
end
end
section
section
variable {M : List (List Bool)} {ws : List Int} {n : Nat} {rk : Nat → Nat}
end
end

section
variable {M : List (List Bool)} {ms : List Nat} {n : Nat} {rk : Nat → Nat} {ws out : List Int}
abbrev ones (n : Nat) : List Int := List.replicate n 1
def RB (M : List (List Bool)) (n b : Nat) : Int := HB (revM n M) (ones n) n b
def LgOk (M : List (List Bool)) (n : Nat) (out : List Int) : Prop := out.length = n ∧ ∀ a,a < n → 0 ≤ getI out a ∧ getI out a ≤ RB M n a
theorem LgOk.set (h : LgOk M n out) {a : Nat} {v : Int} (ha : a < n) (h0 : 0 ≤ v) (h1 : v ≤ RB M n a) : LgOk M n (out.set a v) := by
 refine ⟨by simp [h.1],fun y hy => ?_⟩
 rw [getI_set (by rw [h.1]; exact ha)]
 split
 ·rename_i e; subst e; exact ⟨h0,h1⟩
 ·exact h.2 y hy
end
section
variable {p : List Txt}
end

def Pat (g1 g2 : List (List Int)) (H W : Nat) : Prop := ∀ i j i' j',i < H → j < W → i' < H → j' < W → (gz g1 i j = gz g1 i' j' ↔ gz g2 i j = gz g2 i' j')
theorem Pat.symm {g1 g2 : List (List Int)} {H W : Nat} (h : Pat g1 g2 H W) : Pat g2 g1 H W := fun i j i' j' a b c d => (h i j i' j' a b c d).symm
theorem Pat.trans {g1 g2 g3 : List (List Int)} {H W : Nat} (h : Pat g1 g2 H W) (k : Pat g2 g3 H W) : Pat g1 g3 H W := fun i j i' j' a b c d => (h i j i' j' a b c d).trans (k i j i' j' a b c d)
structure KC (g1 g2 : List (List Int)) (H W : Nat) (k1 k2 : List Int) : Prop where
 len : k1.length = k2.length
 at_ : ∀ i j,i < H → j < W → k1.idxOf (gz g1 i j) = k2.idxOf (gz g2 i j)
theorem idxOf_snoc {l : List Int} {z x : Int} (h : l.idxOf x = l.length) : (l ++ [z]).idxOf x = if x = z then l.length else l.length + 1 := by
 have hn := idxOf_not h
 rw [List.idxOf_append,if_neg hn]
 by_cases e : x = z
 ·subst e; simp
 ·rw [if_neg e]
  have e2 : (z == x) = false := by simpa using fun h => e h.symm
  simp [List.idxOf_cons,e2]
  omega
theorem KC.step {g1 g2 : List (List Int)} {H W : Nat} (hp : Pat g1 g2 H W) {k1 k2 : List Int} (h : KC g1 g2 H W k1 k2) {a b : Nat} (ha : a < H) (hb : b < W) : KC g1 g2 H W (seKs k1 (gz g1 a b)) (seKs k2 (gz g2 a b)) := by
 have h1 := h.at_ a b ha hb
 unfold seKs
 by_cases e : k1.idxOf (gz g1 a b) = k1.length
 ·have e2 : k2.idxOf (gz g2 a b) = k2.length := by rw [← h1,e,h.len]
  rw [if_pos e,if_pos e2]
  refine ⟨by simp [h.len],fun i j hi hj => ?_⟩
  have h2 := h.at_ i j hi hj
  have hpt := hp i j a b hi hj ha hb
  by_cases q : k1.idxOf (gz g1 i j) = k1.length
  ·have q2 : k2.idxOf (gz g2 i j) = k2.length := by rw [← h2,q,h.len]
   rw [idxOf_snoc q,idxOf_snoc q2,h.len]
   by_cases r : gz g1 i j = gz g1 a b
   ·rw [if_pos r,if_pos (hpt.1 r)]
   ·rw [if_neg r,if_neg fun x => r (hpt.2 x)]
  ·have q2 : ¬ k2.idxOf (gz g2 i j) = k2.length := by rw [← h2,← h.len]; exact q
   rw [idxOf_app q,idxOf_app q2,h2]
 ·have e2 : ¬ k2.idxOf (gz g2 a b) = k2.length := by rw [← h1,← h.len]; exact e
  rw [if_neg e,if_neg e2]
  exact h
theorem seRs_same {k1 k2 rs : List Int} {R : List Rect} {z1 z2 : Int} {q : Rect} (hl : k1.length = k2.length) (hi : k1.idxOf z1 = k2.idxOf z2) : seRs k1 R z1 q = seRs k2 R z2 q := by
 unfold seRs seIn
 rw [hl,hi]
theorem seRow_same {g1 g2 : List (List Int)} {H W : Nat} (hp : Pat g1 g2 H W) {i : Nat} (hi : i < H) {s1 s2 : List Int × List Rect} (h : KC g1 g2 H W s1.1 s2.1) (hr : s1.2 = s2.2) : ∀ j,j ≤ W →
  KC g1 g2 H W (seRow g1 i s1 j).1 (seRow g2 i s2 j).1 ∧ (seRow g1 i s1 j).2 = (seRow g2 i s2 j).2
 | 0,_ => ⟨h,hr⟩
 | j + 1,hj => by
  obtain ⟨h1,h2⟩ := seRow_same hp hi h hr j (by omega)
  unfold seRow
  refine ⟨h1.step hp hi (by omega),?_⟩
  show seRs _ _ _ _ = seRs _ _ _ _
  rw [h2]
  exact seRs_same (rs := []) h1.len (h1.at_ i j hi (by omega))
theorem seRows_same {g1 g2 : List (List Int)} {H W : Nat} (hp : Pat g1 g2 H W) : ∀ i,i ≤ H → KC g1 g2 H W (seRows g1 W i).1 (seRows g2 W i).1 ∧ (seRows g1 W i).2 = (seRows g2 W i).2
 | 0,_ => ⟨⟨rfl,fun _ _ _ _ => rfl⟩,rfl⟩
 | i + 1,hi => by
  obtain ⟨h1,h2⟩ := seRows_same hp i (by omega)
  exact seRow_same hp (by omega) h1 h2 W (Nat.le_refl _)
theorem zRow_same {g1 g2 : List (List Int)} {H W : Nat} (hp : Pat g1 g2 H W) {i : Nat} (hi : i < H) {s1 s2 : List Int × List Rect} (h : KC g1 g2 H W s1.1 s2.1) (hr : s1.2 = s2.2) : ∀ j,j ≤ W → zRow g1 i s1 j = zRow g2 i s2 j
 | 0,_ => rfl
 | j + 1,hj => by
  unfold zRow
  rw [zRow_same hp hi h hr j (by omega),(seRow_same hp hi h hr j (by omega)).1.at_ i j hi (by omega)]
theorem zRows_same {g1 g2 : List (List Int)} {H W : Nat} (hp : Pat g1 g2 H W) : ∀ i,i ≤ H → zRows g1 W i = zRows g2 W i
 | 0,_ => rfl
 | i + 1,hi => by
  obtain ⟨h1,h2⟩ := seRows_same hp i (by omega)
  unfold zRows
  rw [zRows_same hp i (by omega),zRow_same hp (by omega) h1 h2 W (Nat.le_refl _)]
theorem GW.w0 {g : List (List Int)} {H W : Nat} (h : GW g H W) : w0 g = W := by
 obtain ⟨row,hrow,hl,-⟩ := h.at_ (show 0 < H by have := h.2.2.1; omega) (show 0 < W by have := h.2.2.2.2.1; omega)
 rw [w0_is hrow,hl]
theorem GW.zG {g : List (List Int)} {H W : Nat} (h : GW g H W) : zG g = zRows g W H ∧ stG g = seRows g W H := by
 unfold Fw.zG stG; rw [h.w0,h.1]; exact ⟨rfl,rfl⟩
theorem zG_at {g : List (List Int)} {H W i j : Nat} (h : GW g H W) (hi : i < H) (hj : j < W) : gz (zG g) i j = (((seRows g W H).1.idxOf (gz g i j) : Nat) : Int) := by
 rw [h.zG.1]
 unfold gz
 rw [zRows_at hi,Option.getD_some,zRow_at hj,Option.getD_some]
 congr 1
 exact zNum hi hj
theorem zG_gw2 {g : List (List Int)} {H W : Nat} (h : GW g H W) : GW (zG g) H W := by
 rw [h.zG.1]
 refine ⟨zRows_len _,fun r hr => ?_,h.2.2⟩
 obtain ⟨k,hk⟩ := List.getElem?_of_mem hr
 have := len_of hk
 rw [zRows_len] at this
 rw [zRows_at this] at hk
 cases hk
 exact zRow_len _
theorem zG_mem {g : List (List Int)} {H W i j : Nat} (hi : i < H) (hj : j < W) : gz g i j ∈ (seRows g W H).1 := (SeInv.rows (g := g) (W := W) H).mem i j (gone_all hi hj)
theorem zG_pat {g : List (List Int)} {H W : Nat} (h : GW g H W) : Pat (zG g) g H W := by
 intro i j i' j' hi hj hi' hj'
 rw [zG_at h hi hj,zG_at h hi' hj']
 constructor
 ·intro e
  have h1 := idxOf_mem (ks := (seRows g W H).1) (z := gz g i j) (by have := List.idxOf_lt_length_iff.2 (zG_mem (g := g) hi hj); omega)
  have h2 := idxOf_mem (ks := (seRows g W H).1) (z := gz g i' j') (by have := List.idxOf_lt_length_iff.2 (zG_mem (g := g) hi' hj'); omega)
  rw [show (seRows g W H).1.idxOf (gz g i j) = (seRows g W H).1.idxOf (gz g i' j') by omega,h2] at h1
  exact (Option.some.inj h1).symm
 ·intro e; rw [e]
theorem zG_lt {g : List (List Int)} {H W i j : Nat} (h : GW g H W) (hi : i < H) (hj : j < W) : 0 ≤ gz (zG g) i j ∧ gz (zG g) i j < (seRows g W H).2.length := by
 rw [zG_at h hi hj]
 have h1 := List.idxOf_lt_length_iff.2 (zG_mem (g := g) hi hj)
 have h2 := (SeInv.rows (g := g) (W := W) H).len
 omega
theorem readG_text {g : List (List Int)} {H W i j : Nat} (h : GW g H W) (hi : i < H) (hj : j < W) (h0 : 0 ≤ gz g i j) (h1 : gz g i j ≤ 100) : gz (readG (textG g)) i j = gz g i j + 97 := by
 obtain ⟨row,hrow,hl,hx⟩ := h.at_ hi hj
 have e1 : (readG (textG g))[i]? = some (rowZ (rowT row)) := by simp [readG,textG_at hrow]
 have e2 : (rowZ (rowT row))[j]? = some ((letZ (gz g i j)).toNat : Int) := by simp [rowZ,rowT,hx]
 have e3 : gz (readG (textG g)) i j = ((letZ (gz g i j)).toNat : Int) := by
  conv => lhs; unfold gz
  rw [e1,Option.getD_some,e2,Option.getD_some]
 rw [e3]
 unfold letZ
 rw [UInt8.toNat_ofNat_of_lt' (by show 97 + (gz g i j).toNat < 256; omega)]
 omega
theorem text_hd {g : List (List Int)} {H W : Nat} (h : GW g H W) : (textG g).length = H ∧ (hdRow (textG g)).length = W := by
 refine ⟨by rw [textG_len,h.1],?_⟩
 obtain ⟨row,hrow,hl,-⟩ := h.at_ (show 0 < H by have := h.2.2.1; omega) (show 0 < W by have := h.2.2.2.2.1; omega)
 rw [hdRow_of (textG_at hrow)]
 simp [rowT,hl]
theorem text_grid {g : List (List Int)} {H W : Nat} (h : GW g H W) (hz : ∀ i j,i < H → j < W → 0 ≤ gz g i j ∧ gz g i j < 26) : gridB (textG g) = true := by
 obtain ⟨t1,t2⟩ := text_hd h
 unfold gridB
 rw [t1,t2]
 have h2 := h.2.2
 have : (textG g).all (rowB W) = true := by
  rw [List.all_eq_true]
  intro r hr
  obtain ⟨i,hi⟩ := List.getElem?_of_mem hr
  have hil := len_of hi
  rw [t1] at hil
  obtain ⟨row,hrow,hrm⟩ := get_of (show i < g.length by rw [h.1]; exact hil)
  have hrl := h.2.1 row hrm
  rw [textG_at hrow] at hi
  cases hi
  unfold rowB
  simp only [Bool.and_eq_true,decide_eq_true_eq,List.all_eq_true]
  refine ⟨⟨⟨by simp [rowT,hrl],by simp [rowT]; omega⟩,by simp [rowT]; omega⟩,fun c hc => ?_⟩
  obtain ⟨z,hzm,rfl⟩ := List.mem_map.1 hc
  obtain ⟨j,hj⟩ := List.getElem?_of_mem hzm
  have hjl := len_of hj
  have e : gz g i j = z := by simp [gz,hrow,hj]
  have := hz i j hil (by omega)
  rw [e] at this
  unfold letterB letZ
  rw [UInt8.toNat_ofNat_of_lt' (by show 97 + z.toNat < 256; omega)]
  simp only [Bool.and_eq_true,decide_eq_true_eq]
  omega
 rw [this]
 simp only [Bool.true_and,Bool.and_eq_true,decide_eq_true_eq]
 omega
def nm (g : List (List Int)) : List Txt := textG (zG g)
structure NmOk (g : List (List Int)) (H W : Nat) : Prop where
 gw : GW g H W
 le : (seRows g W H).2.length ≤ 9
theorem NmOk.bound {g : List (List Int)} {H W : Nat} (h : NmOk g H W) {i j : Nat} (hi : i < H) (hj : j < W) : 0 ≤ gz (zG g) i j ∧ gz (zG g) i j ≤ 8 := by
 have h1 := zG_lt h.gw hi hj
 have h2 := h.le
 omega
theorem NmOk.hd {g : List (List Int)} {H W : Nat} (h : NmOk g H W) : (nm g).length = H ∧ (hdRow (nm g)).length = W := text_hd (zG_gw2 h.gw)
theorem NmOk.pat {g : List (List Int)} {H W : Nat} (h : NmOk g H W) : Pat (readG (nm g)) g H W := by
 refine Pat.trans (fun i j i' j' hi hj hi' hj' => ?_) (zG_pat h.gw)
 have b1 := h.bound hi hj
 have b2 := h.bound hi' hj'
 unfold nm
 rw [readG_text (zG_gw2 h.gw) hi hj b1.1 (by omega),readG_text (zG_gw2 h.gw) hi' hj' b2.1 (by omega)]
 constructor <;> intro e <;> omega
theorem NmOk.gP {g : List (List Int)} {H W : Nat} (h : NmOk g H W) : gP (nm g) = zG g ∧ rP (nm g) = (seRows g W H).2 := by
 rw [gP_eq,rP_eq,h.hd.1,h.hd.2,h.gw.zG.1]
 exact ⟨zRows_same h.pat H (Nat.le_refl _),(seRows_same h.pat H (Nat.le_refl _)).2⟩
theorem NmOk.named {g : List (List Int)} {H W : Nat} (h : NmOk g H W) : Named (nm g) := by
 refine ⟨text_grid (zG_gw2 h.gw) fun i j hi hj => by have := h.bound hi hj; omega,?_⟩
 rw [h.gP.1]; rfl
theorem NmOk.cell {g : List (List Int)} {H W : Nat} (h : NmOk g H W) {i j : Nat} (hi : i < H) (hj : j < W) : cellZ (nm g) i j = gz (zG g) i j := by
 rw [← h.named.cell (by rw [h.hd.1]; exact hi) (by rw [h.hd.2]; exact hj),h.gP.1]
structure Cells (c : Nat → Nat → Nat) (g : List (List Int)) (H W : Nat) : Prop where
 gw : GW g H W
 at_ : ∀ i j,i < H → j < W → gz g i j = ((c i j : Nat) : Int)
structure Ren (c : Nat → Nat → Nat) (H W : Nat) (t : List Txt) : Prop where
 hl : t.length = H
 wl : (hdRow t).length = W
 pat : ∀ i j i' j',i < H → j < W → i' < H → j' < W → (cn (gP t) i j = cn (gP t) i' j' ↔ c i j = c i' j')
section
variable {c c' : Nat → Nat → Nat} {H W : Nat}
theorem TC.map {R S : Nat → Nat → Prop} {f : Nat → Nat} (h : ∀ a b,R a b → S (f a) (f b)) {a b : Nat} (k : TC R a b) : TC S (f a) (f b) := by
 induction k with
 | one k => exact .one (h _ _ k)
 | tail _ k ih => exact .tail ih (h _ _ k)
structure Iso (p t : List Txt) (L U : Nat → Nat → Prop) (σ : Nat → Nat) : Prop where
 pl : plainB t = true
 n : (rP t).length = (rP p).length
 lt : ∀ a,a < (rP p).length → σ a < (rP p).length
 inj : ∀ a b,a < (rP p).length → b < (rP p).length → σ a = σ b → a = b
 lf : ∀ a b,a < (rP p).length → b < (rP p).length → (Lf t (σ a) (σ b) ↔ L a b)
 ab : ∀ a b,a < (rP p).length → b < (rP p).length → (Ab t (σ a) (σ b) ↔ U a b)
theorem Iso.imp {p t : List Txt} {L U L' U' : Nat → Nat → Prop} {σ : Nat → Nat} (h : Iso p t L U σ) (hL : ∀ a b,a < (rP p).length → b < (rP p).length → (L a b ↔ L' a b)) (hU : ∀ a b,a < (rP p).length → b < (rP p).length → (U a b ↔ U' a b)) : Iso p t L' U' σ :=
 ⟨h.pl,h.n,h.lt,h.inj,fun a b ha hb => (h.lf a b ha hb).trans (hL a b ha hb),fun a b ha hb => (h.ab a b ha hb).trans (hU a b ha hb)⟩
structure Fold1 (f : Nat → Nat) (m n : Nat) : Prop where
 pos : 1 ≤ m
 z : f 0 = 0
 s : ∀ i,i + 1 < m → f (i + 1) = f i ∨ f (i + 1) = f i + 1
 e : f (m - 1) + 1 = n
theorem Fold1.mono {f : Nat → Nat} {m n : Nat} (h : Fold1 f m n) : ∀ {i j : Nat},i ≤ j → j < m → f i ≤ f j := by
 intro i j hij
 induction j with
 | zero => intro _; rw [show i = 0 by omega]; exact Nat.le_refl _
 | succ j ih =>
  intro hj
  by_cases e : i = j + 1
  ·subst e; exact Nat.le_refl _
  ·have h1 := ih (by omega) (by omega)
   have := h.s j hj
   omega
theorem Fold1.lt {f : Nat → Nat} {m n i : Nat} (h : Fold1 f m n) (hi : i < m) : f i < n := by
 have := h.mono (i := i) (j := m - 1) (by omega) (by have := h.pos; omega)
 have := h.e
 omega
theorem Fold1.mid {f : Nat → Nat} {m n i : Nat} (h : Fold1 f m n) {v : Nat} : ∀ {j : Nat},i ≤ j → j < m → f i ≤ v → v ≤ f j → ∃ r,i ≤ r ∧ r ≤ j ∧ f r = v := by
 intro j
 induction j with
 | zero => intro h1 h2 h3 h4; exact ⟨0,by omega,Nat.le_refl _,by rw [show i = 0 by omega] at h3; omega⟩
 | succ j ih =>
  intro h1 h2 h3 h4
  by_cases e : f (j + 1) = v
  ·exact ⟨j + 1,h1,Nat.le_refl _,e⟩
  ·by_cases e2 : i = j + 1
   ·subst e2; omega
   ·have := h.s j h2
    obtain ⟨r,r1,r2,r3⟩ := ih (by omega) (by omega) h3 (by omega)
    exact ⟨r,r1,by omega,r3⟩
theorem Fold1.last {f : Nat → Nat} {m n v : Nat} (h : Fold1 f m n) (hv : v + 1 < n) : ∃ r,r + 1 < m ∧ f r = v ∧ f (r + 1) = v + 1 := by
 have hp := h.pos
 have he := h.e
 obtain ⟨e,h1,h2,h3,h4⟩ := flip_of (P := fun r => f r ≤ v) (i := 0) (n := m - 1) (by omega) (by rw [h.z]; omega) (by omega)
 have := h.s e (by omega)
 exact ⟨e,by omega,by omega,by omega⟩
theorem DL.fold {f g : Nat → Nat} {H' W' : Nat} (hf : Fold1 f H H') (hg : Fold1 g W W') (hc : ∀ i j,i < H → j < W → c i j = c' (f i) (g j)) {a b : Nat} : DL c H W a b ↔ DL c' H' W' a b := by
 constructor
 ·rintro ⟨j,i1,i2,h1,h2,h3,run,rfl,rfl⟩
  have hgj : g (j + 1) = g j + 1 := by
   rcases hg.s j h1 with e | e
   ·have := run i1 (by omega) (by omega)
    rw [hc i1 j h2 (by omega),hc i1 (j + 1) h2 h1,e] at this
    exact absurd rfl this
   ·exact e
  have hlt := hg.lt h1
  refine ⟨g j,f i1,f i2,by omega,hf.lt h2,hf.lt h3,fun r r1 r2 => ?_,hc _ _ h2 (by omega),by rw [hc _ _ h3 h1,hgj]⟩
  have : ∃ r0,min i1 i2 ≤ r0 ∧ r0 ≤ max i1 i2 ∧ f r0 = r := by
   rcases Nat.le_total i1 i2 with q | q
   ·have := hf.mono q h3
    obtain ⟨r0,q1,q2,q3⟩ := hf.mid (v := r) q h3 (by omega) (by omega)
    exact ⟨r0,by omega,by omega,q3⟩
   ·have := hf.mono q h2
    obtain ⟨r0,q1,q2,q3⟩ := hf.mid (v := r) q h2 (by omega) (by omega)
    exact ⟨r0,by omega,by omega,q3⟩
  obtain ⟨r0,q1,q2,rfl⟩ := this
  have := run r0 q1 q2
  rw [hc r0 j (by omega) (by omega),hc r0 (j + 1) (by omega) h1,hgj] at this
  exact this
 ·rintro ⟨j,i1,i2,h1,h2,h3,run,rfl,rfl⟩
  obtain ⟨j0,k1,k2,k3⟩ := hg.last h1
  have hfe := hf.e
  have hfp := hf.pos
  obtain ⟨r1,-,q2,q3⟩ := hf.mid (i := 0) (j := H - 1) (v := i1) (by omega) (by omega) (by rw [hf.z]; omega) (by omega)
  obtain ⟨r2,-,q5,q6⟩ := hf.mid (i := 0) (j := H - 1) (v := i2) (by omega) (by omega) (by rw [hf.z]; omega) (by omega)
  refine ⟨j0,r1,r2,k1,by omega,by omega,fun r s1 s2 => ?_,by rw [hc _ _ (by omega) (by omega),q3,k2],by rw [hc _ _ (by omega) (by omega),q6,k3]⟩
  rw [hc r j0 (by omega) (by omega),hc r (j0 + 1) (by omega) k1,k2,k3]
  refine run (f r) ?_ ?_
  ·rcases Nat.le_total r1 r2 with q | q
   ·have := hf.mono (show r1 ≤ r by omega) (show r < H by omega); omega
   ·have := hf.mono (show r2 ≤ r by omega) (show r < H by omega); omega
  ·rcases Nat.le_total r1 r2 with q | q
   ·have := hf.mono (show r ≤ r2 by omega) (show r2 < H by omega); omega
   ·have := hf.mono (show r ≤ r1 by omega) (show r1 < H by omega); omega
theorem DU.fold {f g : Nat → Nat} {H' W' : Nat} (hf : Fold1 f H H') (hg : Fold1 g W W') (hc : ∀ i j,i < H → j < W → c i j = c' (f i) (g j)) {a b : Nat} : DU c H W a b ↔ DU c' H' W' a b :=
 DL.fold (c := tr c) (c' := tr c') hg hf fun i j hi hj => hc j i hj hi
theorem TC.iff {R S : Nat → Nat → Prop} (h : ∀ a b,R a b ↔ S a b) {a b : Nat} : TC R a b ↔ TC S a b := ⟨TC.mono fun a b => (h a b).1,TC.mono fun a b => (h a b).2⟩
end
section
variable {p t : List Txt} {L U : Nat → Nat → Prop} {σ : Nat → Nat}
end
section
variable {c : Nat → Nat → Nat} {H W : Nat}
theorem DL.cols (h : Pl c H W) {i j i' j' : Nat} (hi : i < H) (hj : j < W) (hi' : i' < H) (hj' : j' < W) (hd : DL c H W (c i j) (c i' j')) : j < j' := by
 obtain ⟨k,i1,i2,h1,h2,h3,run,e1,e2⟩ := hd
 have a1 : j ≤ k := by
  refine Classical.byContradiction fun hn => ?_
  have := h.rect (i := i1) (j := k) (i' := i) (j' := j) i1 (k + 1) h2 hi (by omega) hj e1.symm (by omega) (by omega) (by omega) (by omega)
  exact run i1 (by omega) (by omega) this.symm
 have a2 : k + 1 ≤ j' := by
  refine Classical.byContradiction fun hn => ?_
  have := h.rect (i := i2) (j := k + 1) (i' := i') (j' := j') i2 k h3 hi' h1 hj' e2.symm (by omega) (by omega) (by omega) (by omega)
  exact run i2 (by omega) (by omega) this
 omega
theorem DL.cells {a b : Nat} (hd : DL c H W a b) : (∃ i j,i < H ∧ j < W ∧ c i j = a) ∧ ∃ i j,i < H ∧ j < W ∧ c i j = b := by
 obtain ⟨k,i1,i2,h1,h2,h3,run,e1,e2⟩ := hd
 exact ⟨⟨i1,k,h2,by omega,e1.symm⟩,i2,k + 1,h3,h1,e2.symm⟩
theorem TC.cols (h : Pl c H W) {a b : Nat} (hd : TC (DL c H W) a b) : ∀ {i j i' j' : Nat},i < H → j < W → i' < H → j' < W → c i j = a → c i' j' = b → j < j' := by
 induction hd with
 | one hd => intro i j i' j' h1 h2 h3 h4 e1 e2; subst e1; subst e2; exact hd.cols h h1 h2 h3 h4
 | tail _ hd ih =>
  intro i j i' j' h1 h2 h3 h4 e1 e2
  obtain ⟨⟨x,y,hx,hy,e3⟩,-⟩ := hd.cells
  have q1 := ih h1 h2 hx hy e1 e3
  subst e2; rw [← e3] at hd
  have q2 := hd.cols h hx hy h3 h4
  omega
variable {p : List Txt}
end
structure Made (c : Nat → Nat → Nat) (H W : Nat) (g : List (List Int)) : Prop where
 gw : GW g H W
 ok : okS g = true
 full : fullG g = true
 plan : planB (nm g) = true
 ren : Ren c H W (nm g)
section
section
variable {P : Program} {T : Tab} {F : Nat → Prop} {G : GSt} {w : World} {e : Env} {a : Act} {F0 : Nat → Prop} {G0 : GSt} {w0 : World} {N : Nat}
theorem conv_new (hT : TabOk P T) (hi : Inv F G w) (he : EnvR w.heap F G e a) {o : Oper} {s d el : TypeId} {x : Operand} {str : List UInt8} (hop : o.op = .convert s d x) (hs : (T s).kd = .str) (hd : (T d).kd = .slice el) (hu8 : (T el).kd = .int .u8)
  (hx0 : e.ev x = .str str) (hlen63 : str.length ≤ 1048576) {K : PV → Store → Prop} (h : K (.loc G.er.obs.length G.er.tick 0 str.length) (G.er.push el 1 (str.map eB))) {next : Act → World → Prop} {Q : Exit → Act → World → Prop}
  (hk : Goes F G w K fun cv w' => next (a.put o.dst cv) w') : o.wp P a w next Q := by
 have hx := he.ev x
 rw [hx0] at hx
 obtain ⟨b,ex,hb⟩ := hx.str
 have hr : (execOp a.eval o).run P w = .ok (.value (.slice (some ⟨w.heap.size,0,none⟩) b.size (grownCap w b.size 0 el))) (Lib.bytesWorld w el b) := by
  simp only [execOp,hop,ex]
  rw [Sem.run_bind,Lib.run_convert_string_bytes w s d el b (kd_str hT hs) (kd_slice hT hd) (kd_int hT hu8)]
  rfl
 have hlen : str.length = b.size := by rw [← hb]; simp
 have hsz : (Lib.bytesWorld w el b).heap.size = w.heap.size + 1 := Lib.bytesWorld_size w el b
 have hge := grownCap_ge w b.size 0 el
 have hcs : (Lib.bytesCells w el b).size = grownCap w b.size 0 el := by
  simp [Lib.bytesCells]; omega
 have hpush : (Lib.bytesWorld w el b).heap = w.heap.push (.cells (Lib.bytesCells w el b) el ((Lib.bytesCells w el b).size,(Lib.bytesCells w el b).size + 1)) := by
  apply Array.ext_getElem?
  intro j
  rw [Array.getElem?_push]
  by_cases hj : j = w.heap.size
  ·subst hj; rw [if_pos rfl]; exact Lib.bytesWorld_at_new w el b
  ·rw [if_neg hj]
   by_cases hj2 : j < w.heap.size
   ·exact Lib.bytesWorld_at_old w el b j hj2
   ·rw [Array.getElem?_eq_none (by omega),Array.getElem?_eq_none (by omega)]
 obtain ⟨k1,k2⟩ := push_obj hi (.arr G.tick el 1 (str.map eB)) (Lib.bytesCells w el b).size (Lib.bytesWorld w el b) (w.drawn + 1) rfl (Nat.le_succ _) ⟨_,hpush⟩ rfl
  ⟨_,⟨_,Lib.bytesWorld_at_new w el b,.inr (Nat.le_refl _)⟩,rfl,by show (str.map eB).length ≤ (Lib.bytesCells w el b).size; rw [List.length_map,hcs]; omega,fun i p hp => by
   have hil : i < str.length := by have := (List.getElem?_eq_some_iff.1 hp).1; simpa using this
   rw [List.getElem?_map,List.getElem?_eq_getElem hil] at hp
   cases hp
   refine ⟨rfl,.int .u8 (str[i].toNat : Int),?_,.imm _ _ (.int _ _)⟩
   have := Lib.bytesWorld_cell w el b i (by omega)
   simp only [World.cell?,Lib.bytesWorld_at_new,Option.isSome_none,Bool.false_eq_true,if_false] at this
   rw [this,hb,List.getD_eq_getElem?_getD,List.getElem?_eq_getElem hil]
   rfl⟩
 unfold Oper.wp
 rw [hr]
 refine hk (.loc G.er.obs.length G.er.tick 0 str.length) _ _ _ _ (by rw [er_push]; exact h) k1 k2 ?_
 rw [hlen]
 exact new_loc (et := el) (sz := 1) (cells := str.map eB) (l := ⟨w.heap.size,(Lib.bytesCells w el b).size⟩) _ _ _ (by simp) (Nat.lt_succ_self _) rfl hge (grownCap_le_maxLen w _ _ _ (by unfold maxLen; omega)) (by rw [Nat.mul_one]; exact hcs.symm)
def pOpsT (P : Program) (T : Tab) (ops : Array Oper) (Q : Env → Store → Prop) : Nat → List Oper → Env → Store → Prop
 | _,[],e,S => Q e S
 | 0,o :: l,e,S => ∃ (s d el : TypeId) (x : Operand) (str : List UInt8),o.guard = none ∧ o.op = .convert s d x ∧ (T s).kd = .str ∧ (T d).kd = .slice el ∧ (T el).kd = .int .u8 ∧ e.ev x = .str str ∧ str.length ≤ 1048576 ∧
   pOps P T ops Q l (e.put o.dst (.loc S.obs.length S.tick 0 str.length)) (S.push el 1 (str.map eB))
 | k + 1,o :: l,e,S => o.guard = none ∧ pOp P T e S o.op fun v S' => pOpsT P T ops Q k l (e.put o.dst v) S'
theorem pOpsT_sound (hT : TabOk P T) {ops : Array Oper} {Q : Env → Store → Prop} : ∀ (k : Nat) (l : List Oper) {e : Env} {F : Nat → Prop} {G : GSt} {a : Act} {w : World},pOpsT P T ops Q k l e G.er → Inv F G w → EnvR w.heap F G e a →
  Next F0 G0 w0 F G w → a.tmps.size = N → a.defers = [] → (∀ o ∈ l,∀ d,o.dst = some d → d < N) → wpList P ops (Sto F0 G0 w0 N (Nrm Q)) l a w
 | _,[],e,F,G,a,w,h,hi,he,hn,hs,hd,_ => by
  have h' : Q e G.er := by unfold pOpsT at h; exact h
  exact ⟨e,F,G,h',hi,he,hn,hs,hd⟩
 | 0,o :: l,e,F,G,a,w,h,hi,he,hn,hs,hd,hdst => by
  have ho : ∀ t,o.dst = some t → t < a.tmps.size := fun t ht => by rw [hs]; exact hdst o (by simp) t ht
  have hl : ∀ o ∈ l,∀ d,o.dst = some d → d < N := fun o' h' => hdst o' (by simp [h'])
  unfold pOpsT at h
  obtain ⟨s,d,el,x,str,hg,hop,q1,q2,q3,q4,q5,h⟩ := h
  unfold wpList
  have hw : Region.wanted o (yielded ops a.tmps) = true := by unfold Region.wanted; rw [hg]
  rw [if_pos hw]
  refine .inl (conv_new hT hi he hop q1 q2 q3 q4 q5 (K := fun v S' => v = .loc G.er.obs.length G.er.tick 0 str.length ∧ S' = G.er.push el 1 (str.map eB)) ⟨rfl,rfl⟩ ?_)
  rintro v cv F' G' w' ⟨rfl,hE⟩ i1 i2 i3
  refine pOps_sound hT l (by rw [hE]; exact h) i1 ((he.next hi i2).put _ ho i3) (hn.trans i2) (by rw [put_size]; exact hs) (by rw [put_defers']; exact hd) hl
 | k + 1,o :: l,e,F,G,a,w,h,hi,he,hn,hs,hd,hdst => by
  have ho : ∀ t,o.dst = some t → t < a.tmps.size := fun t ht => by rw [hs]; exact hdst o (by simp) t ht
  have hl : ∀ o ∈ l,∀ d,o.dst = some d → d < N := fun o' h' => hdst o' (by simp [h'])
  unfold pOpsT at h
  obtain ⟨hg,h⟩ := h
  unfold wpList
  have hw : Region.wanted o (yielded ops a.tmps) = true := by unfold Region.wanted; rw [hg]
  rw [if_pos hw]
  refine .inl (op_sound hT hi he h ?_)
  intro v cv F' G' w' hK i1 i2 i3
  exact pOpsT_sound hT k l hK i1 ((he.next hi i2).put _ ho i3) (hn.trans i2) (by rw [put_size]; exact hs) (by rw [put_defers']; exact hd) hl
end
section
variable {P : Program} {T : Tab} {Q : Exit → Env → Store → Prop} {e : Env} {S : Store} {b : Code}
theorem W.region_t (k : Nat) {id : Nat} {ops : Array Oper} (h : pOpsT P T ops (Q .normal) k ops.toList e S) : W P T (.region id ops false) Q e S := by
 refine ⟨?_⟩
 intro hT hm F0 G0 w0 N F G a w h3 h4 h5 h6 h7 h8 h9
 subst h3
 refine wp_mono (wp_region_list (pOpsT_sound hT k _ h h4 h5 h6 h7 h8 (dst_all h9))) ?_
 exact nrm_le
def ThawR (P : Program) (T : Tab) (ds : List (Option Tmp)) (o : Oper) (l : List Oper) (e : Env) (S : Store) (K : Env → Store → Prop) : Prop :=
 ∃ (s d el : TypeId) (x : Operand) (str : List UInt8),o.guard = none ∧ o.op = .convert s d x ∧ (T s).kd = .str ∧ (T d).kd = .slice el ∧ (T el).kd = .int .u8 ∧ e.ev x = .str str ∧ str.length ≤ 1048576 ∧
  eRun false P T ds l (e.put o.dst (.loc S.obs.length S.tick 0 str.length)) (S.push el 1 (str.map eB)) K
theorem pOps_mono {ops : Array Oper} {K K' : Env → Store → Prop} (h : ∀ e S,K e S → K' e S) : ∀ (l : List Oper) {e : Env} {S : Store},pOps P T ops K l e S → pOps P T ops K' l e S
 | [],e,S,k => h e S k
 | o :: l,e,S,k => by
  unfold pOps pGuard at k ⊢
  cases hg : gdec ops o e with
  | none => rw [hg] at k; exact k.elim
  | some b =>
   rw [hg] at k
   cases b with
   | true => exact pOp_mono (fun v S' k => pOps_mono h l k) k
   | false => exact pOps_mono h l k
theorem pOps_thaw {ops : Array Oper} {K : Env → Store → Prop} {o : Oper} {l2 : List Oper} : ∀ (l1 : List Oper) {e : Env} {S : Store},l1.all (fun o => o.guard.isNone) = true →
  pOps P T ops (fun e S => ∃ (s d el : TypeId) (x : Operand) (str : List UInt8),o.guard = none ∧ o.op = .convert s d x ∧ (T s).kd = .str ∧ (T d).kd = .slice el ∧ (T el).kd = .int .u8 ∧ e.ev x = .str str ∧ str.length ≤ 1048576 ∧
   pOps P T ops K l2 (e.put o.dst (.loc S.obs.length S.tick 0 str.length)) (S.push el 1 (str.map eB))) l1 e S → pOpsT P T ops K l1.length (l1 ++ o :: l2) e S
 | [],e,S,_,h => h
 | q :: l1,e,S,hg,h => by
  simp only [List.all_cons,Bool.and_eq_true,Option.isNone_iff_eq_none] at hg
  show q.guard = none ∧ _
  refine ⟨hg.1,?_⟩
  unfold pOps pGuard gdec at h
  rw [hg.1] at h
  exact pOp_mono (fun v S' h => pOps_thaw l1 hg.2 h) h
theorem W.seq_thaw {id : Nat} {l1 l2 : List Oper} {o : Oper} (hg : l1.all (fun o => o.guard.isNone) = true) (h : ∀ K : Env → Store → Prop,(∀ e S,W P T b Q e S → K e S) → eRun false P T (dsts (l1 ++ o :: l2)) l1 e S fun e S => ThawR P T (dsts (l1 ++ o :: l2)) o l2 e S K) :
  W P T (.seq (.region id (l1 ++ o :: l2).toArray false) b) Q e S := by
 refine W.seq (W.region_t l1.length ?_)
 have h1 := eRun_pOps l1 e S (h _ fun _ _ h => h)
 refine pOps_thaw l1 hg (pOps_mono ?_ l1 h1)
 rintro e S ⟨s,d,el,x,str,q1,q2,q3,q4,q5,q6,q7,q8⟩
 exact ⟨s,d,el,x,str,q1,q2,q3,q4,q5,q6,q7,eRun_pOps l2 _ _ q8⟩
end
end
abbrev eBy (l : Txt) : PV := .sl (l.map eB) l.length
theorem tmod_nn {a b : Nat} : ((a : Nat) : Int).tmod ((b : Nat) : Int) = ((a % b : Nat) : Int) := (Int.ofNat_tmod a b).symm
theorem tdiv_nn {a b : Nat} : ((a : Nat) : Int).tdiv ((b : Nat) : Int) = ((a / b : Nat) : Int) := (Int.ofNat_tdiv a b).symm
theorem w_xor {a b : Nat} (ha : a < 1099511627776) (hb : b < 1099511627776) : IntKind.i64.wrap ((BitVec.ofInt IntKind.i64.bits (a : Int) ^^^ BitVec.ofInt IntKind.i64.bits (b : Int)).toNat : Int) = ((a ^^^ b : Nat) : Int) := by
 have h1 : (BitVec.ofInt 64 (a : Int)).toNat = a := by simp [BitVec.toNat_ofInt]; omega
 have h2 : (BitVec.ofInt 64 (b : Int)).toNat = b := by simp [BitVec.toNat_ofInt]; omega
 have h3 : (BitVec.ofInt IntKind.i64.bits (a : Int) ^^^ BitVec.ofInt IntKind.i64.bits (b : Int)).toNat = a ^^^ b := by
  show (BitVec.ofInt 64 (a : Int) ^^^ BitVec.ofInt 64 (b : Int)).toNat = _
  rw [BitVec.toNat_xor,h1,h2]
 have h4 : a ^^^ b < 1099511627776 := Nat.xor_lt_two_pow (n := 40) ha hb
 rw [h3]
 exact w64 (by omega) (by omega)
theorem tdiv64 {k : Nat} : ((k : Nat) : Int).tdiv 64 = ((k / 64 : Nat) : Int) := (Int.ofNat_tdiv k 64).symm
theorem sf0 : ((64 : Int) = 0) = False := by simp
def rdO (vr : Nat) (code : Txt) (q : Nat) : Ob := .arr vr 147 2 [eBy code,.int .i64 (q : Int)]
theorem l6Open_pn {code : Txt} (hc : code.length ≤ 1048576) : PN Tryz.prog 95 [eBy code] (.ref 0 0 0) [rdO 0 (code.take 2000) 0] true := by
 refine PN.of ⟨Tryz.func95,by kernel_rfl,rfl,by kernel_rfl⟩ tabOk mixed (by show 1 ≤ Tryz.f95.ntmps; decide) ?_
 refine W.r fun K hK => ?_
 simp (disch := omega) only [↓RU,RV,RH,↓reduceIte,reduceEqDiff,reduceCtorEq,if_pos,↓RS,RG,reduceAdd,reduceMul,reduceLeDiff]
 refine hK _ _ ?_;clear hK K
 refine W.seq ?_
 refine W.r fun K hK => ?_
 simp (disch := omega) only [↓RU,RV,RH,↓reduceIte,reduceEqDiff,reduceCtorEq,if_pos,w64,↓RS,RG,reduceAdd,reduceMul,reduceLeDiff,ty7,tyint,ty29]
 refine hK _ _ ?_;clear hK K
 refine W.cond rfl (fun h => ?_) (fun h => ?_)
 ·try simp only [RL] at h
  refine W.k fun K hK => ?_
  simp (disch := omega) only [↓RU,RV,RH,↓reduceIte,reduceEqDiff,reduceCtorEq,if_pos,Option.map_none,↓RS,RG,reduceAdd,reduceMul,reduceLeDiff,ty7,ty29]
  refine hK _ _ ?_;clear hK K
  refine xn ?_
  refine W.r fun K hK => ?_
  simp (disch := omega) only [↓RU,RV,RH,↓reduceIte,reduceEqDiff,reduceCtorEq,if_pos,↓RS,RG,reduceAdd,reduceMul,reduceLeDiff,ty7,tyint,ty19,ty22,ty29]
  refine hK _ _ ?_;clear hK K
  refine W.ret ?_
  refine Br rfl ?_
  have e : (code.take 2000).length = 2000 := by rw [List.length_take]; omega
  refine ⟨1,rfl,?_⟩
  simp [Store.take,shObs,shOb,sh,rdO,eBy,e,List.map_take]
 ·try simp only [RL] at h
  refine W.skip ?_
  refine xn ?_
  refine W.r fun K hK => ?_
  simp (disch := omega) only [↓RU,RV,RH,↓reduceIte,reduceEqDiff,reduceCtorEq,if_pos,↓RS,RG,reduceAdd,reduceMul,reduceLeDiff,ty7,tyint,ty19,ty22,ty29]
  refine hK _ _ ?_;clear hK K
  refine W.ret ?_
  refine Br rfl ?_
  have e : code.take 2000 = code := List.take_of_length_le (by omega)
  refine ⟨1,rfl,?_⟩
  simp [Store.take,shObs,shOb,sh,rdO,eBy,e]
theorem pick_ev0 {code : Txt} {q vr t : Nat} {R : List Ob} (hc : code.length ≤ 1048576) (hq : q ≤ 1000000) (n : Int) (hn : n ≤ 1000000) (hn0 : -1000000 ≤ n) : Ev Tryz.prog 98 [.ref 0 vr 0,.int .i64 n] ⟨.arr vr 147 2 [eBy code,.int .i64 (q : Int)] :: R,t⟩ fun v S => ∃ k : Nat,v = .int .i64 (k : Int) ∧ (n < 1 → k = 0) ∧ (1 ≤ n → (k : Int) < n) ∧ S = ⟨.arr vr 147 2 [eBy code,.int .i64 ((q : Int) + 1)] :: R,t⟩ := by
 refine Ev.of ⟨Tryz.func98,by kernel_rfl,rfl,by kernel_rfl⟩ tabOk mixed (by show 2 ≤ Tryz.f98.ntmps; decide) ?_
 refine W.r fun K hK => ?_
 simp (disch := omega) only [↓RU,RV,RH,↓reduceIte,reduceEqDiff,reduceCtorEq,if_pos,↓RS,RG,reduceAdd,reduceMul,reduceLeDiff]
 refine hK _ _ ?_;clear hK K
 refine W.r fun K hK => ?_
 simp (disch := omega) only [↓RU,RV,RH,↓reduceIte,reduceEqDiff,reduceCtorEq,if_pos,w64,↓RS,RG,reduceAdd,reduceMul,reduceLeDiff,ty7,tyint,ty19,ty22,ty29]
 refine hK _ _ ?_;clear hK K
 refine W.seq ?_
 refine W.r fun K hK => ?_
 by_cases hn1 : n < 1
 ·skip
  have hd : decide (n < 1) = true := decide_eq_true hn1
  simp (disch := omega) only [↓RU,RV,RH,↓reduceIte,reduceEqDiff,reduceCtorEq,if_pos,w64,↓RS,RG,reduceAdd,reduceMul,reduceLeDiff,ty7,tyint,ty19,ty22,ty29,hd]
  refine hK _ _ ?_;clear hK K
  refine W.cond rfl (fun h0 => ?_) (fun h0 => ?_)
  ·try simp only [RL] at h0
   refine W.r fun K hK => ?_
   simp (disch := omega) only [↓RU,RV,RH,↓reduceIte,reduceEqDiff,reduceCtorEq,if_pos,↓RS,RG,reduceAdd,reduceMul,reduceLeDiff]
   refine hK _ _ ?_;clear hK K
   refine W.ret ?_
   refine XThen.ret ?_
   refine Br rfl ?_
   exact ⟨_,0,rfl,fun _ => rfl,fun h9 => by omega,take_all⟩
  ·try simp only [RL] at h0
   exact absurd h0 (by simp)
 ·skip
  have hd : decide (n < 1) = false := decide_eq_false hn1
  obtain ⟨m,rfl⟩ : ∃ m : Nat,n = m := ⟨n.toNat,by omega⟩
  simp (disch := omega) only [↓RU,RV,RH,↓reduceIte,reduceEqDiff,reduceCtorEq,if_pos,w64,↓RS,RG,reduceAdd,reduceMul,reduceLeDiff,ty7,tyint,ty19,ty22,ty29,hd]
  refine hK _ _ ?_;clear hK K
  refine W.cond rfl (fun h0 => ?_) (fun h0 => ?_)
  ·try simp only [RL] at h0
   have hl0 : code.length = 0 := by simpa using h0
   refine W.r fun K hK => ?_
   simp (disch := omega) only [↓RU,RV,RH,↓reduceIte,reduceEqDiff,reduceCtorEq,if_pos,↓RS,RG,reduceAdd,reduceMul,reduceLeDiff]
   refine hK _ _ ?_;clear hK K
   refine W.ret ?_
   refine XThen.ret ?_
   refine Br rfl ?_
   exact ⟨_,0,rfl,fun _ => rfl,fun h9 => by omega,take_all⟩
  ·try simp only [RL] at h0
   have hl0 : code.length ≠ 0 := by intro h9; rw [h9] at h0; simp at h0
   obtain ⟨L,hL⟩ : ∃ L : Nat,code.length = L := ⟨_,rfl⟩
   have hLi : ((L : Int) = 0) = False := by simp; omega
   have hmi : ((m : Int) = 0) = False := by simp; omega
   rw [hL] at hl0 hc
   refine W.skip ?_
   refine xn ?_
   refine W.r fun K hK => ?_
   simp (disch := omega) only [↓RU,RV,RH,↓reduceIte,reduceEqDiff,reduceCtorEq,if_pos,w64,↓RS,RG,reduceAdd,reduceMul,reduceLeDiff,ty7,tyint,ty19,ty22,ty29]
   refine hK _ _ ?_;clear hK K
   simp only [show ((q : Int) + 1 - 1) = (q : Int) from by omega]
   refine W.seq ?_
   refine W.r fun K hK => ?_
   simp (disch := omega) only [↓RU,RV,RH,↓reduceIte,reduceEqDiff,reduceCtorEq,if_pos,w64,↓RS,RG,reduceAdd,reduceMul,reduceLeDiff,ty7,tyint,ty19,ty22,ty29,hL]
   refine hK _ _ ?_;clear hK K
   refine W.cond rfl (fun h1 => ?_) (fun h1 => ?_)
   ·try simp only [RL] at h1
    obtain ⟨c,hcq,-⟩ := get_of (show q < code.length by omega)
    have hc8 := c.toNat_lt
    refine W.r fun K hK => ?_
    simp (disch := omega) only [↓RU,RV,RH,↓reduceIte,reduceEqDiff,reduceCtorEq,if_pos,w64,w64,↓RS,RG,reduceAdd,reduceMul,reduceLeDiff,ty7,tyint,ty19,ty22,ty29,hcq,hmi,tmod_nn]
    refine hK _ _ ?_;clear hK K
    refine W.ret ?_
    refine XThen.ret ?_
    refine Br rfl ?_
    exact ⟨_,_,rfl,fun h9 => by omega,fun _ => by have := Nat.mod_lt c.toNat (show 0 < m by omega); omega,take_all⟩
   ·try simp only [RL] at h1
    obtain ⟨c1,hc1,-⟩ := get_of (show q % L < code.length by rw [hL]; exact Nat.mod_lt _ (by omega))
    obtain ⟨c2,hc2,-⟩ := get_of (show (q * 7 + 3) % L < code.length by rw [hL]; exact Nat.mod_lt _ (by omega))
    have hb1 := c1.toNat_lt
    have hb2 := c2.toNat_lt
    have hq7 : (q : Int) * 7 + 3 = ((q * 7 + 3 : Nat) : Int) := by omega
    obtain ⟨d,hd⟩ : ∃ d,q / L = d := ⟨_,rfl⟩
    have hqL : d ≤ q := hd ▸ Nat.div_le_self _ _
    have hml1 := Nat.mod_lt q (show 0 < L by omega)
    have hml2 := Nat.mod_lt (q * 7 + 3) (show 0 < L by omega)
    refine W.skip ?_
    refine xn ?_
    refine W.seq_draw (by kernel_rfl) fun K hK => ?_
    simp (disch := omega) only [↓RU,RV,RH,↓reduceIte,reduceEqDiff,reduceCtorEq,if_pos,w64,w64,↓RS,RG,reduceAdd,reduceMul,reduceLeDiff,ty7,tyint,ty19,ty22,ty29,hL,hLi,tmod_nn,tdiv_nn,hc1,hc2,hq7,hd]
    refine hK _ _ ?_;clear hK K
    obtain ⟨Y,hY⟩ : ∃ Y : Nat,(c1.toNat : Int) * 131 + (c2.toNat : Int) * 1117 + (q : Int) * 29 + (d : Int) * 53 = Y := ⟨c1.toNat * 131 + c2.toNat * 1117 + q * 29 + d * 53,by omega⟩
    have hYb : Y < 1099511627776 := by omega
    have hYd : Y / 64 < 1099511627776 := by omega
    simp only [hY]
    refine W.r fun K hK => ?_
    simp (disch := omega) only [↓RU,RV,RH,↓reduceIte,reduceEqDiff,reduceCtorEq,if_pos,w64,↓RS,RG,reduceAdd,reduceMul,reduceLeDiff,tyint,sf0,tdiv64,w_xor hYb hYd]
    refine hK _ _ ?_;clear hK K
    refine W.r fun K hK => ?_
    simp (disch := omega) only [↓RU,RV,RH,↓reduceIte,reduceEqDiff,reduceCtorEq,if_pos,w64,↓RS,RG,reduceAdd,reduceMul,reduceLeDiff,tyint,hmi,tmod_nn]
    refine hK _ _ ?_;clear hK K
    refine W.ret ?_
    refine Br rfl ?_
    exact ⟨_,_,rfl,fun h9 => by omega,fun _ => by have := Nat.mod_lt (Y ^^^ Y / 64) (show 0 < m by omega); omega,take_all⟩
section
def rowPut (row : Txt) (l : Nat) (c : UInt8) (k : Nat) : Txt := (List.range row.length).map fun x => if l ≤ x ∧ x < k then c else row.getD x 0
theorem rowPut_len {row : Txt} {l k : Nat} {c : UInt8} : (rowPut row l c k).length = row.length := by simp [rowPut]
theorem rowPut_zero {row : Txt} {l : Nat} {c : UInt8} : rowPut row l c l = row := by
 apply List.ext_getElem?
 intro j
 unfold rowPut
 rw [List.getElem?_map]
 by_cases hj : j < row.length
 ·rw [List.getElem?_range hj,Option.map_some,if_neg (by omega),List.getD_eq_getElem?_getD,List.getElem?_eq_getElem hj]; rfl
 ·rw [List.getElem?_eq_none (by simpa using hj),List.getElem?_eq_none (by omega)]; rfl
theorem rowPut_succ {row : Txt} {l k : Nat} {c : UInt8} (h1 : l ≤ k) (h2 : k < row.length) : (rowPut row l c k).set k c = rowPut row l c (k + 1) := by
 apply List.ext_getElem?
 intro j
 rw [List.getElem?_set,rowPut_len]
 unfold rowPut
 rw [List.getElem?_map,List.getElem?_map]
 by_cases hj : j < row.length
 ·rw [List.getElem?_range hj,Option.map_some,Option.map_some]
  by_cases e : k = j
  ·subst e; rw [if_pos rfl,if_pos h2,if_pos (by omega)]
  ·rw [if_neg e]
   by_cases q : l ≤ j ∧ j < k
   ·rw [if_pos q,if_pos (by omega)]
   ·rw [if_neg q,if_neg (by omega)]
 ·rw [if_neg (by omega),List.getElem?_eq_none (by simpa using hj)]; rfl
def putTo (p : List Txt) (t l w : Nat) (c : UInt8) (i : Nat) : List Txt := (List.range p.length).map fun j => if t ≤ j ∧ j < i then rowPut (p.getD j []) l c (l + w) else p.getD j []
theorem putTo_len {p : List Txt} {t l w i : Nat} {c : UInt8} : (putTo p t l w c i).length = p.length := by simp [putTo]
theorem putTo_at {p : List Txt} {t l w i : Nat} {c : UInt8} {row : Txt} (h : p[i]? = some row) : (putTo p t l w c i)[i]? = some row := by
 have hi := len_of h
 unfold putTo
 rw [List.getElem?_map,List.getElem?_range hi,Option.map_some,if_neg (by omega),List.getD_eq_getElem?_getD,h]; rfl
theorem putTo_zero {p : List Txt} {t l w : Nat} {c : UInt8} : putTo p t l w c t = p := by
 apply List.ext_getElem?
 intro j
 unfold putTo
 rw [List.getElem?_map]
 by_cases hj : j < p.length
 ·rw [List.getElem?_range hj,Option.map_some,if_neg (by omega),List.getD_eq_getElem?_getD,List.getElem?_eq_getElem hj]; rfl
 ·rw [List.getElem?_eq_none (by simpa using hj),List.getElem?_eq_none (by omega)]; rfl
theorem putTo_succ {p : List Txt} {t l w i : Nat} {c : UInt8} {row : Txt} (h1 : t ≤ i) (h : p[i]? = some row) : (putTo p t l w c i).set i (rowPut row l c (l + w)) = putTo p t l w c (i + 1) := by
 have hi := len_of h
 apply List.ext_getElem?
 intro j
 rw [List.getElem?_set,putTo_len]
 unfold putTo
 rw [List.getElem?_map,List.getElem?_map]
 by_cases hj : j < p.length
 ·rw [List.getElem?_range hj,Option.map_some,Option.map_some]
  by_cases e : i = j
  ·subst e; rw [if_pos rfl,if_pos hi,if_pos (by omega),List.getD_eq_getElem?_getD,h]; rfl
  ·rw [if_neg e]
   by_cases q : t ≤ j ∧ j < i
   ·rw [if_pos q,if_pos (by omega)]
   ·rw [if_neg q,if_neg (by omega)]
 ·rw [if_neg (by omega),List.getElem?_eq_none (by simpa using hj)]; rfl
theorem putTo_sm {p : List Txt} (hs : Sm p) {t l w i : Nat} {c : UInt8} : Sm (putTo p t l w c i) := by
 refine ⟨by rw [putTo_len]; exact hs.1,fun r hr => ?_⟩
 obtain ⟨j,hj,rfl⟩ := List.mem_map.1 hr
 have hjl : j < p.length := by simpa using hj
 have hm : p.getD j [] ∈ p := by
  rw [List.getD_eq_getElem?_getD,List.getElem?_eq_getElem hjl]; exact List.getElem_mem hjl
 have := hs.2 _ hm
 split
 ·rw [rowPut_len]; exact this
 ·exact this
def doneP (p : List Txt) : List Txt × Bool := if gridB p && planB (names p) then (names p,true) else ([],false)
theorem names_len {p : List Txt} (hg : gridB p = true) : (names p).length = p.length := by
 rw [names_text hg]
 have hr : (gP p).length = p.length := by rw [gP_eq]; exact zRows_len _
 unfold textG
 rw [List.length_map,hr]
theorem doneP_ok {p : List Txt} (h : (doneP p).2 = true) : planB (doneP p).1 = true ∧ (doneP p).1.length = p.length := by
 unfold doneP at h ⊢
 split at h
 ·rename_i hq
  rw [if_pos hq]
  simp only [Bool.and_eq_true] at hq
  exact ⟨hq.2,names_len hq.1⟩
 ·cases h
def splitP (p : List Txt) (room : Int) (s : Txt) (k : Int) : List Txt × Bool :=
 if planB p && (decide (0 ≤ room) && decide (room ≤ l1Rooms p - 1)) then
  if (s == [104]) && (decide (1 ≤ k) && decide (k ≤ highOf p room - 1)) then doneP (putTo p ((boxOf p room).top + k).toNat (boxOf p room).left.toNat (wideOf p room).toNat 122 ((boxOf p room).top + k + (highOf p room - k)).toNat)
  else if (s == [118]) && (decide (1 ≤ k) && decide (k ≤ wideOf p room - 1)) then doneP (putTo p (boxOf p room).top.toNat ((boxOf p room).left + k).toNat (wideOf p room - k).toNat 122 ((boxOf p room).top + highOf p room).toNat)
  else ([],false)
 else ([],false)
theorem splitP_ok {p : List Txt} {room k : Int} {s : Txt} (h : (splitP p room s k).2 = true) : planB (splitP p room s k).1 = true ∧ (splitP p room s k).1.length = p.length := by
 unfold splitP at h ⊢
 by_cases h1 : (planB p && (decide (0 ≤ room) && decide (room ≤ l1Rooms p - 1))) = true
 ·rw [if_pos h1] at h ⊢
  by_cases h2 : ((s == [104]) && (decide (1 ≤ k) && decide (k ≤ highOf p room - 1))) = true
  ·rw [if_pos h2] at h ⊢
   have := doneP_ok h
   rw [putTo_len] at this
   exact this
  ·rw [if_neg h2] at h ⊢
   by_cases h3 : ((s == [118]) && (decide (1 ≤ k) && decide (k ≤ wideOf p room - 1))) = true
   ·rw [if_pos h3] at h ⊢
    have := doneP_ok h
    rw [putTo_len] at this
    exact this
   ·rw [if_neg h3] at h; cases h
 ·rw [if_neg h1] at h; cases h
section
variable {p : List Txt} {room : Int} {s : Txt} {t l h w k : Nat}
theorem splitP_g {k : Int} (hgv : (planB p && (decide (0 ≤ room) && decide (room ≤ l1Rooms p - 1))) = false) : splitP p room s k = ([],false) := by
 unfold splitP; rw [hgv]; rfl
theorem splitP_no {k : Int} (h1 : ((s == [104]) && (decide (1 ≤ k) && decide (k ≤ highOf p room - 1))) = false) (h2 : ((s == [118]) && (decide (1 ≤ k) && decide (k ≤ wideOf p room - 1))) = false) : splitP p room s k = ([],false) := by
 unfold splitP; rw [h1,h2]; split <;> rfl
theorem splitP_h (hgv : (planB p && (decide (0 ≤ room) && decide (room ≤ l1Rooms p - 1))) = true) (e1 : (boxOf p room).top = t) (e2 : (boxOf p room).left = l) (e3 : highOf p room = h) (e4 : wideOf p room = w)
  (hb : ((s == [104]) && (decide (1 ≤ (k : Int)) && decide ((k : Int) ≤ highOf p room - 1))) = true) : splitP p room s k = doneP (putTo p (t + k) l w 122 (t + k + (h - k))) := by
 have hk : (k : Int) ≤ h - 1 := by simp only [Bool.and_eq_true,decide_eq_true_eq,e3] at hb; exact hb.2.2
 unfold splitP
 rw [if_pos hgv,if_pos hb,e1,e2,e3,e4]
 have a1 : ((t : Int) + (k : Int)).toNat = t + k := by omega
 have a2 : ((t : Int) + (k : Int) + ((h : Int) - (k : Int))).toNat = t + k + (h - k) := by omega
 rw [a1,a2,Int.toNat_natCast,Int.toNat_natCast]
theorem splitP_v (hgv : (planB p && (decide (0 ≤ room) && decide (room ≤ l1Rooms p - 1))) = true) (e1 : (boxOf p room).top = t) (e2 : (boxOf p room).left = l) (e3 : highOf p room = h) (e4 : wideOf p room = w)
  (ha : ((s == [104]) && (decide (1 ≤ (k : Int)) && decide ((k : Int) ≤ highOf p room - 1))) = false) (hb : ((s == [118]) && (decide (1 ≤ (k : Int)) && decide ((k : Int) ≤ wideOf p room - 1))) = true) : splitP p room s k = doneP (putTo p t (l + k) (w - k) 122 (t + h)) := by
 have hk : (k : Int) ≤ w - 1 := by simp only [Bool.and_eq_true,decide_eq_true_eq,e4] at hb; exact hb.2.2
 unfold splitP
 rw [if_pos hgv,ha,if_neg Bool.false_ne_true,if_pos hb,e1,e2,e3,e4]
 have a1 : ((l : Int) + (k : Int)).toNat = l + k := by omega
 have a2 : ((t : Int) + (h : Int)).toNat = t + h := by omega
 have a3 : ((w : Int) - (k : Int)).toNat = w - k := by omega
 rw [a1,a2,a3,Int.toNat_natCast]
end
theorem plan_box {p : List Txt} (hp : planB p = true) {room : Int} (h0 : 0 ≤ room) (h1 : room ≤ l1Rooms p - 1) : ∃ t l h w : Nat,(boxOf p room).top = t ∧ (boxOf p room).left = l ∧ highOf p room = h ∧ wideOf p room = w ∧ 1 ≤ h ∧ 1 ≤ w ∧ t + h ≤ p.length ∧ l + w ≤ (hdRow p).length := by
 have hN := plan_named hp
 have hr := hN.rooms
 obtain ⟨m,rfl⟩ : ∃ m : Nat,room = m := ⟨room.toNat,by omega⟩
 have hm : m < (rP p).length := by omega
 obtain ⟨b,hb,-⟩ := get_of hm
 have hi := keys_inv p
 obtain ⟨v,hv,-⟩ := get_of (show m < (keys p).length by rw [← hi.len]; exact hm)
 obtain ⟨e1,e2,e3,e4⟩ := hN.box hb
 obtain ⟨t,l,h,w,q1,q2,q3,q4,q5,q6,q7,q8,-⟩ := Hull.nat (hi.hull m v b hv hb)
 exact ⟨t,l,h,w,by omega,by omega,by omega,by omega,q5,q6,q7,q8⟩
theorem rows_wide {p : List Txt} (hp : planB p = true) {i : Nat} {row : Txt} (h : p[i]? = some row) : row.length = (hdRow p).length := grid_row (planB_grid hp) h
theorem plan_small {p : List Txt} (hp : planB p = true) : p.length ≤ 6 ∧ 1 ≤ p.length ∧ ∀ row ∈ p,1 ≤ row.length ∧ row.length ≤ 6 := by
 have hg := planB_grid hp
 have h := grid_small hg
 refine ⟨h.2.1,h.1,fun row hr => ⟨?_,h.2.2 row hr⟩⟩
 obtain ⟨i,hi,rfl⟩ := List.getElem_of_mem hr
 exact row_pos hg (List.getElem?_eq_getElem hi)
end
theorem set_eB {l : Txt} {a : Nat} {c : UInt8} : (l.map eB).set a (.int .u8 (c.toNat : Int)) = (l.set a c).map eB := by rw [List.map_set]
theorem bytesOf_eB (l : Txt) : bytesOf (l.map eB) = some l := bytesOf_map l
theorem l1None_pc  : PC Tryz.prog 147 [] (.tup [eStrs [],.bool false]) true := by
 refine PC.of ⟨Tryz.func147,by kernel_rfl,rfl,by kernel_rfl⟩ tabOk mixed (by show 0 ≤ Tryz.f147.ntmps; decide) ?_
 refine W.r fun K hK => ?_
 simp (disch := omega) only [↓RU,RV,RH,↓reduceIte,reduceEqDiff,reduceCtorEq,if_pos,↓RS,RG,reduceAdd,reduceMul,reduceLeDiff]
 refine hK _ _ ?_;clear hK K
 refine W.r fun K hK => ?_
 simp (disch := omega) only [↓RU,RV,RH,↓reduceIte,reduceEqDiff,reduceCtorEq,if_pos,↓RS,RG,reduceAdd,reduceMul,reduceLeDiff,ty6,tystring]
 refine hK _ _ ?_;clear hK K
 refine W.ret ?_
 refine Br rfl ?_
 exact reify_tup2 (k := 9) (reify_loc (k := 8) (n := 0) rfl rfl rfl) rfl
theorem l1Put_pc {p : List Txt} (hs : Sm p) {tp lf hg wd : Nat} {c : UInt8} (h1 : tp + hg ≤ p.length) (h2 : ∀ row ∈ p,lf + wd ≤ row.length) : PC Tryz.prog 228 [eStrs p,.int .i64 tp,.int .i64 lf,.int .i64 hg,.int .i64 wd,eB c] (eStrs (putTo p tp lf wd c (tp + hg))) true := by
 obtain ⟨hs1,hs2⟩ := hs
 refine PC.of ⟨Tryz.func228,by kernel_rfl,rfl,by kernel_rfl⟩ tabOk mixed (by show 6 ≤ Tryz.f228.ntmps; decide) ?_
 refine W.r fun K hK => ?_
 simp (disch := omega) only [↓RU,RV,RH,↓reduceIte,reduceEqDiff,reduceCtorEq,if_pos,↓RS,RG,reduceAdd,reduceMul,reduceLeDiff]
 refine hK _ _ ?_;clear hK K
 refine W.r fun K hK => ?_
 simp (disch := omega) only [↓RU,RV,RH,↓reduceIte,reduceEqDiff,reduceCtorEq,if_pos,↓RS,RG,reduceAdd,reduceMul,reduceLeDiff,ty6,tystring]
 refine hK _ _ ?_;clear hK K
 refine W.seq ?_
 refine W.r fun K hK => ?_
 simp (disch := omega) only [↓RU,RV,RH,↓reduceIte,reduceEqDiff,reduceCtorEq,if_pos,↓RS,RG,reduceAdd,reduceMul,reduceLeDiff]
 refine hK _ _ ?_;clear hK K
 refine W.block ?_
 refine W.loop [0,1,2,3,4,5,13,14] (fun n vs S => ∃ j t v : Nat,n = hg - j ∧ j ≤ hg ∧ vs = [eStrs p,.int .i64 tp,.int .i64 lf,.int .i64 hg,.int .i64 wd,eB c,.loc 0 v 0 p.length,.int .i64 ((tp + j : Nat) : Int)] ∧ S = ⟨[.arr v 9 1 ((putTo p tp lf wd c (tp + j)).map .str)],t⟩) hg ?_ ?_
 ·refine ⟨1,0,2,1,rfl,by omega,?_,?_⟩
  ·simp [Env.put,Env.of,argEnv]
  ·simp [take_eq,putTo_zero]
 rintro n vs S - ⟨j,t,v,rfl,h_j,rfl,rfl⟩
 refine W.seq ?_
 refine W.r fun K hK => ?_
 simp (disch := omega) only [↓RU,RV,RH,↓reduceIte,reduceEqDiff,reduceCtorEq,if_pos,w64,↓RS,RG,reduceAdd,reduceMul,reduceLeDiff,tyint]
 refine hK _ _ ?_;clear hK K
 refine W.cond rfl (fun h => ?_) (fun h => ?_)
 ·try simp only [RL] at h
  obtain ⟨i,hi⟩ : ∃ i,tp + j = i := ⟨_,rfl⟩
  simp only [hi]
  obtain ⟨row,hrow0,hrm⟩ := get_of (show i < p.length by omega)
  have hrow := putTo_at (t := tp) (l := lf) (w := wd) (c := c) hrow0
  have hlen := putTo_len (p := p) (t := tp) (l := lf) (w := wd) (c := c) (i := i)
  have hr1 := hs2 row hrm
  have hr2 := h2 row hrm
  refine W.skip ?_
  refine xn ?_
  refine W.seq ?_
  refine W.block ?_
  refine W.seq_thaw (l1 := [_,_,_,_]) (o := _) (l2 := [_]) rfl fun K hK => ?_
  simp (disch := omega) only [↓RU,RV,RH,↓reduceIte,reduceEqDiff,reduceCtorEq,if_pos,w64,↓RS,RG,reduceAdd,reduceMul,reduceLeDiff,ty6,ty7,tystring,ty29,hrow,hlen]
  refine ⟨_,_,_,_,_,rfl,rfl,rfl,rfl,rfl,rfl,by omega,?_⟩
  simp (disch := omega) only [↓RU,RV,RH,↓reduceIte,reduceEqDiff,reduceCtorEq,if_pos,w64,↓RS,RG,reduceAdd,reduceMul,reduceLeDiff,ty6,ty7,tystring,ty29,hrow,hlen]
  refine hK _ _ ?_;clear hK K
  refine W.seq ?_
  refine W.r fun K hK => ?_
  simp (disch := omega) only [↓RU,RV,RH,↓reduceIte,reduceEqDiff,reduceCtorEq,if_pos,↓RS,RG,reduceAdd,reduceMul,reduceLeDiff]
  refine hK _ _ ?_;clear hK K
  refine W.block ?_
  refine W.loop [0,1,2,3,4,5,13,14,15,16] (fun n vs S => ∃ k t2 : Nat,n = wd - k ∧ k ≤ wd ∧ vs = [eStrs p,.int .i64 tp,.int .i64 lf,.int .i64 hg,.int .i64 wd,eB c,.loc 0 v 0 p.length,.int .i64 (i : Int),.loc 1 t 0 row.length,.int .i64 ((lf + k : Nat) : Int)] ∧ S = ⟨[.arr v 9 1 ((putTo p tp lf wd c i).map .str),.arr t 5 1 ((rowPut row lf c (lf + k)).map eB)],t2⟩) wd ?_ ?_
  ·refine ⟨2,0,t + 1,rfl,by omega,?_,?_⟩
   ·simp [Env.put,Env.of]
   ·simp [take_eq,rowPut_zero]
  rintro n vs S - ⟨k,t2,rfl,h_k,rfl,rfl⟩
  refine W.seq ?_
  refine W.r fun K hK => ?_
  simp (disch := omega) only [↓RU,RV,RH,↓reduceIte,reduceEqDiff,reduceCtorEq,if_pos,w64,↓RS,RG,reduceAdd,reduceMul,reduceLeDiff,tyint]
  refine hK _ _ ?_;clear hK K
  refine W.cond rfl (fun h3 => ?_) (fun h3 => ?_)
  ·try simp only [RL] at h3
   have hrl := rowPut_len (row := row) (l := lf) (k := lf + k) (c := c)
   refine W.skip ?_
   refine xn ?_
   refine W.seq ?_
   refine W.block ?_
   refine W.k fun K hK => ?_
   simp (disch := omega) only [↓RU,RV,RH,↓reduceIte,reduceEqDiff,reduceCtorEq,if_pos,↓RS,RG,reduceAdd,reduceMul,reduceLeDiff,ty7,ty29,hrl,set_spl,set_eB]
   refine hK _ _ ?_;clear hK K
   refine XbN ?_
   refine xn ?_
   refine W.k fun K hK => ?_
   simp (disch := omega) only [↓RU,RV,RH,↓reduceIte,reduceEqDiff,reduceCtorEq,if_pos,w64,↓RS,RG,reduceAdd,reduceMul,reduceLeDiff,tyint]
   refine hK _ _ ?_;clear hK K
   refine xn ?_
   refine ⟨wd - (k + 1),by omega,2,k + 1,t2,rfl,by omega,?_,?_⟩
   ·simp [Env.put,Env.of]; omega
   ·simp only [take_eq]; rw [rowPut_succ (by omega) (by omega)]; rfl
  ·try simp only [RL] at h3
   obtain rfl : k = wd := by omega
   have hrl := rowPut_len (row := row) (l := lf) (k := lf + k) (c := c)
   have htk : ((rowPut row lf c (lf + k)).map eB).take row.length = (rowPut row lf c (lf + k)).map eB := List.take_of_length_le (by simp [hrl])
   refine W.exit ?_
   refine xe ?_
   refine xe ?_
   refine XBlock.hit ?_
   refine xn ?_
   refine W.k fun K hK => ?_
   simp (disch := omega) only [↓RU,RV,RH,↓reduceIte,reduceEqDiff,reduceCtorEq,if_pos,w64,↓RS,RG,reduceAdd,reduceMul,reduceLeDiff,ty6,ty7,tystring,ty29,hrl,htk,bytesOf_eB,hlen,set_spl,set_str,cells_str,List.length_cons,List.length_nil,Option.map_some]
   refine hK _ _ ?_;clear hK K
   refine XbN ?_
   refine xn ?_
   refine W.k fun K hK => ?_
   simp (disch := omega) only [↓RU,RV,RH,↓reduceIte,reduceEqDiff,reduceCtorEq,if_pos,w64,↓RS,RG,reduceAdd,reduceMul,reduceLeDiff,tyint]
   refine hK _ _ ?_;clear hK K
   refine xn ?_
   refine ⟨hg - (j + 1),by omega,1,j + 1,t2,v,rfl,by omega,?_,?_⟩
   ·subst hi; simp [Env.put,Env.of]; omega
   ·subst hi; simp only [take_eq,List.take_succ_cons,List.take_zero]; rw [putTo_succ (by omega) hrow0]; rfl
 ·try simp only [RL] at h
  refine W.exit ?_
  refine xe ?_
  refine xe ?_
  refine XBlock.hit ?_
  refine xn ?_
  refine W.r fun K hK => ?_
  simp (disch := omega) only [↓RU,RV,RH,↓reduceIte,reduceEqDiff,reduceCtorEq,if_pos,↓RS,RG,reduceAdd,reduceMul,reduceLeDiff]
  refine hK _ _ ?_;clear hK K
  refine W.ret ?_
  refine Br rfl ?_
  obtain rfl : j = hg := by omega
  exact (reify_loc (k := 9) rfl (by simp [putTo_len]) (mapM_str _)).trans (by simp [putTo_len])
theorem l1Done_pc {p : List Txt} (hs : Sm p) : PC Tryz.prog 148 [eStrs p] (.tup [eStrs (doneP p).1,.bool (doneP p).2]) false := by
 refine PC.of ⟨Tryz.func148,by kernel_rfl,rfl,by kernel_rfl⟩ tabOk mixed (by show 1 ≤ Tryz.f148.ntmps; decide) ?_
 refine W.r fun K hK => ?_
 simp (disch := omega) only [↓RU,RV,RH,↓reduceIte,reduceEqDiff,reduceCtorEq,if_pos,↓RS,RG,reduceAdd,reduceMul,reduceLeDiff]
 refine hK _ _ ?_;clear hK K
 refine W.seq ?_
 refine W.r fun K hK => ?_
 rcases hgg : (gridB p,planB (names p)) with ⟨_ | _,_ | _⟩
 ·skip
  simp only [Prod.mk.injEq] at hgg
  obtain ⟨hg1,hg2⟩ := hgg
  simp (disch := omega) only [↓RU,RV,RH,↓reduceIte,reduceEqDiff,reduceCtorEq,if_pos,List.append_nil,↓RS,RG,reduceAdd,reduceMul,reduceLeDiff,hg1,hg2]
  refine CallR.pc (l1Grid_pc hs) rfl (.inl rfl) ?_
  simp (disch := omega) only [↓RU,RV,RH,↓reduceIte,reduceEqDiff,reduceCtorEq,if_pos,List.append_nil,↓RS,RG,reduceAdd,reduceMul,reduceLeDiff,hg1,hg2]
  refine hK _ _ ?_;clear hK K
  refine W.cond rfl (fun h => ?_) (fun h => ?_)
  ·try simp only [RL] at h
   refine W.r fun K hK => ?_
   simp (disch := omega) only [↓RU,RV,RH,↓reduceIte,reduceEqDiff,reduceCtorEq,if_pos,List.append_nil,↓RS,RG,reduceAdd,reduceMul,reduceLeDiff]
   refine CallR.pc (l1None_pc) rfl (.inl rfl) ?_
   simp (disch := omega) only [↓RU,RV,RH,↓reduceIte,reduceEqDiff,reduceCtorEq,if_pos,List.append_nil,↓RS,RG,reduceAdd,reduceMul,reduceLeDiff]
   refine hK _ _ ?_;clear hK K
   refine W.ret ?_
   refine XThen.ret ?_
   refine Br rfl ?_
   rw [show doneP p = ([],false) by unfold doneP; rw [hg1]; rfl]
   rfl
  ·try simp only [RL] at h
   exact absurd h (by simp)
 ·skip
  simp only [Prod.mk.injEq] at hgg
  obtain ⟨hg1,hg2⟩ := hgg
  simp (disch := omega) only [↓RU,RV,RH,↓reduceIte,reduceEqDiff,reduceCtorEq,if_pos,List.append_nil,↓RS,RG,reduceAdd,reduceMul,reduceLeDiff,hg1,hg2]
  refine CallR.pc (l1Grid_pc hs) rfl (.inl rfl) ?_
  simp (disch := omega) only [↓RU,RV,RH,↓reduceIte,reduceEqDiff,reduceCtorEq,if_pos,List.append_nil,↓RS,RG,reduceAdd,reduceMul,reduceLeDiff,hg1,hg2]
  refine hK _ _ ?_;clear hK K
  refine W.cond rfl (fun h => ?_) (fun h => ?_)
  ·try simp only [RL] at h
   refine W.r fun K hK => ?_
   simp (disch := omega) only [↓RU,RV,RH,↓reduceIte,reduceEqDiff,reduceCtorEq,if_pos,List.append_nil,↓RS,RG,reduceAdd,reduceMul,reduceLeDiff]
   refine CallR.pc (l1None_pc) rfl (.inl rfl) ?_
   simp (disch := omega) only [↓RU,RV,RH,↓reduceIte,reduceEqDiff,reduceCtorEq,if_pos,List.append_nil,↓RS,RG,reduceAdd,reduceMul,reduceLeDiff]
   refine hK _ _ ?_;clear hK K
   refine W.ret ?_
   refine XThen.ret ?_
   refine Br rfl ?_
   rw [show doneP p = ([],false) by unfold doneP; rw [hg1]; rfl]
   rfl
  ·try simp only [RL] at h
   exact absurd h (by simp)
 ·skip
  simp only [Prod.mk.injEq] at hgg
  obtain ⟨hg1,hg2⟩ := hgg
  simp (disch := omega) only [↓RU,RV,RH,↓reduceIte,reduceEqDiff,reduceCtorEq,if_pos,List.append_nil,↓RS,RG,reduceAdd,reduceMul,reduceLeDiff,hg1,hg2]
  refine CallR.pc (l1Grid_pc hs) rfl (.inl rfl) ?_
  simp (disch := omega) only [↓RU,RV,RH,↓reduceIte,reduceEqDiff,reduceCtorEq,if_pos,List.append_nil,↓RS,RG,reduceAdd,reduceMul,reduceLeDiff,hg1,hg2]
  refine CallR.pc (l1Names_pc hs) rfl (.inl rfl) ?_
  simp (disch := omega) only [↓RU,RV,RH,↓reduceIte,reduceEqDiff,reduceCtorEq,if_pos,List.append_nil,↓RS,RG,reduceAdd,reduceMul,reduceLeDiff,hg1,hg2]
  refine CallR.pc (sPlanIn_pc hs.names) rfl (.inl rfl) ?_
  simp (disch := omega) only [↓RU,RV,RH,↓reduceIte,reduceEqDiff,reduceCtorEq,if_pos,List.append_nil,↓RS,RG,reduceAdd,reduceMul,reduceLeDiff,hg1,hg2]
  refine hK _ _ ?_;clear hK K
  refine W.cond rfl (fun h => ?_) (fun h => ?_)
  ·try simp only [RL] at h
   refine W.r fun K hK => ?_
   simp (disch := omega) only [↓RU,RV,RH,↓reduceIte,reduceEqDiff,reduceCtorEq,if_pos,List.append_nil,↓RS,RG,reduceAdd,reduceMul,reduceLeDiff]
   refine CallR.pc (l1None_pc) rfl (.inl rfl) ?_
   simp (disch := omega) only [↓RU,RV,RH,↓reduceIte,reduceEqDiff,reduceCtorEq,if_pos,List.append_nil,↓RS,RG,reduceAdd,reduceMul,reduceLeDiff]
   refine hK _ _ ?_;clear hK K
   refine W.ret ?_
   refine XThen.ret ?_
   refine Br rfl ?_
   rw [show doneP p = ([],false) by unfold doneP; rw [hg1,hg2]; rfl]
   rfl
  ·try simp only [RL] at h
   exact absurd h (by simp)
 ·skip
  simp only [Prod.mk.injEq] at hgg
  obtain ⟨hg1,hg2⟩ := hgg
  simp (disch := omega) only [↓RU,RV,RH,↓reduceIte,reduceEqDiff,reduceCtorEq,if_pos,List.append_nil,↓RS,RG,reduceAdd,reduceMul,reduceLeDiff,hg1,hg2]
  refine CallR.pc (l1Grid_pc hs) rfl (.inl rfl) ?_
  simp (disch := omega) only [↓RU,RV,RH,↓reduceIte,reduceEqDiff,reduceCtorEq,if_pos,List.append_nil,↓RS,RG,reduceAdd,reduceMul,reduceLeDiff,hg1,hg2]
  refine CallR.pc (l1Names_pc hs) rfl (.inl rfl) ?_
  simp (disch := omega) only [↓RU,RV,RH,↓reduceIte,reduceEqDiff,reduceCtorEq,if_pos,List.append_nil,↓RS,RG,reduceAdd,reduceMul,reduceLeDiff,hg1,hg2]
  refine CallR.pc (sPlanIn_pc hs.names) rfl (.inl rfl) ?_
  simp (disch := omega) only [↓RU,RV,RH,↓reduceIte,reduceEqDiff,reduceCtorEq,if_pos,List.append_nil,↓RS,RG,reduceAdd,reduceMul,reduceLeDiff,hg1,hg2]
  refine hK _ _ ?_;clear hK K
  refine W.cond rfl (fun h => ?_) (fun h => ?_)
  ·try simp only [RL] at h
   exact absurd h (by simp)
  ·try simp only [RL] at h
   refine W.skip ?_
   refine xn ?_
   refine W.r fun K hK => ?_
   simp (disch := omega) only [↓RU,RV,RH,↓reduceIte,reduceEqDiff,reduceCtorEq,if_pos,List.append_nil,↓RS,RG,reduceAdd,reduceMul,reduceLeDiff]
   refine CallR.pc (l1Names_pc hs) rfl (.inl rfl) ?_
   simp (disch := omega) only [↓RU,RV,RH,↓reduceIte,reduceEqDiff,reduceCtorEq,if_pos,List.append_nil,↓RS,RG,reduceAdd,reduceMul,reduceLeDiff]
   refine hK _ _ ?_;clear hK K
   refine W.ret ?_
   refine Br rfl ?_
   rw [show doneP p = (names p,true) by unfold doneP; rw [hg1,hg2]; rfl]
   rfl
theorem planSplit_pc {p : List Txt} (hs : Sm p) (room : Int) {s : Txt} (hsl : s.length ≤ 1048576) (k : Int) : PC Tryz.prog 219 [eStrs p,.int .i64 room,.str s,.int .i64 k] (.tup [eStrs (splitP p room s k).1,.bool (splitP p room s k).2]) false := by
 have hrb := l1Rooms_bound p
 refine PC.of ⟨Tryz.func219,by kernel_rfl,rfl,by kernel_rfl⟩ tabOk mixed (by show 4 ≤ Tryz.f219.ntmps; decide) ?_
 refine W.r fun K hK => ?_
 simp (disch := omega) only [↓RU,RV,RH,↓reduceIte,reduceEqDiff,reduceCtorEq,if_pos,↓RS,RG,reduceAdd,reduceMul,reduceLeDiff]
 refine hK _ _ ?_;clear hK K
 refine W.seq ?_
 refine W.r fun K hK => ?_
 simp (disch := omega) only [↓RU,RV,RH,↓reduceIte,reduceEqDiff,reduceCtorEq,if_pos,List.append_nil,↓RS,RG,reduceAdd,reduceMul,reduceLeDiff]
 refine CallR.pc (l1Given_pc hs room) rfl (.inl rfl) ?_
 simp (disch := omega) only [↓RU,RV,RH,↓reduceIte,reduceEqDiff,reduceCtorEq,if_pos,List.append_nil,↓RS,RG,reduceAdd,reduceMul,reduceLeDiff]
 refine hK _ _ ?_;clear hK K
 refine W.cond rfl (fun h0 => ?_) (fun h0 => ?_)
 ·try simp only [RL] at h0
  have hgv : (planB p && (decide (0 ≤ room) && decide (room ≤ l1Rooms p - 1))) = false := by simpa using h0
  refine W.r fun K hK => ?_
  simp (disch := omega) only [↓RU,RV,RH,↓reduceIte,reduceEqDiff,reduceCtorEq,if_pos,List.append_nil,↓RS,RG,reduceAdd,reduceMul,reduceLeDiff]
  refine CallR.pc (l1None_pc) rfl (.inl rfl) ?_
  simp (disch := omega) only [↓RU,RV,RH,↓reduceIte,reduceEqDiff,reduceCtorEq,if_pos,List.append_nil,↓RS,RG,reduceAdd,reduceMul,reduceLeDiff]
  refine hK _ _ ?_;clear hK K
  refine W.ret ?_
  refine XThen.ret ?_
  refine Br rfl ?_
  first | (rw [splitP_g hgv]; rfl) | (rw [splitP_h hgv e1 e2 e3 e4 hB1]; rfl) | (rw [splitP_v hgv e1 e2 e3 e4 hB1 hB2]; rfl) | (rw [splitP_no hB1 hB2]; rfl)
 ·try simp only [RL] at h0
  have hgv : (planB p && (decide (0 ≤ room) && decide (room ≤ l1Rooms p - 1))) = true := by simpa using h0
  have hgv2 := hgv
  simp only [Bool.and_eq_true,decide_eq_true_eq] at hgv2
  obtain ⟨hp,hr0,hr1⟩ := hgv2
  obtain ⟨t,l,h,w,e1,e2,e3,e4,q1,q2,q3,q4⟩ := plan_box hp hr0 hr1
  obtain ⟨ps1,ps2,ps3⟩ := plan_small hp
  have hrw : ∀ row ∈ p,row.length = (hdRow p).length := fun row hr => by obtain ⟨i,hi,rfl⟩ := List.getElem_of_mem hr; exact rows_wide hp (List.getElem?_eq_getElem hi)
  have hw6 : (hdRow p).length ≤ 6 := by obtain ⟨row,hrow,hrm⟩ := get_of ps2; rw [← hrw row hrm]; exact (ps3 row hrm).2
  refine W.skip ?_
  refine xn ?_
  refine W.r fun K hK => ?_
  simp (disch := omega) only [↓RU,RV,RH,↓reduceIte,reduceEqDiff,reduceCtorEq,if_pos,List.append_nil,↓RS,RG,reduceAdd,reduceMul,reduceLeDiff,e1,e2,e3,e4]
  refine CallR.pc (l1Room_pc hs (by omega) room) rfl (.inl rfl) ?_
  simp (disch := omega) only [↓RU,RV,RH,↓reduceIte,reduceEqDiff,reduceCtorEq,if_pos,List.append_nil,↓RS,RG,reduceAdd,reduceMul,reduceLeDiff,e1,e2,e3,e4]
  refine hK _ _ ?_;clear hK K
  refine W.seq ?_
  refine W.block ?_
  refine W.r fun K hK => ?_
  cases hb1 : (s == ([104] : Txt))
  ·skip
   have hB1 : ((s == [104]) && (decide (1 ≤ k) && decide (k ≤ highOf p room - 1))) = false := by rw [hb1]; rfl
   simp (disch := omega) only [↓RU,RV,RH,↓reduceIte,reduceEqDiff,reduceCtorEq,if_pos,w64,List.append_nil,↓RS,RG,reduceAdd,reduceMul,reduceLeDiff,tyint,tystring,hb1,pStr]
   refine hK _ _ ?_;clear hK K
   refine W.cond rfl (fun h1 => ?_) (fun h1 => ?_)
   ·try simp only [RL] at h1
    exact absurd h1 (by simp)
   ·try simp only [RL] at h1
    refine W.r fun K hK => ?_
    cases hb2 : (s == ([118] : Txt))
    ·skip
     have hB2 : ((s == [118]) && (decide (1 ≤ k) && decide (k ≤ wideOf p room - 1))) = false := by rw [hb2]; rfl
     simp (disch := omega) only [↓RU,RV,RH,↓reduceIte,reduceEqDiff,reduceCtorEq,if_pos,w64,List.append_nil,↓RS,RG,reduceAdd,reduceMul,reduceLeDiff,tyint,tystring,hb2,pStr]
     refine hK _ _ ?_;clear hK K
     refine W.cond rfl (fun h2 => ?_) (fun h2 => ?_)
     ·try simp only [RL] at h2
      exact absurd h2 (by simp)
     ·try simp only [RL] at h2
      refine W.skip ?_
      refine XbN ?_
      refine xn ?_
      refine W.r fun K hK => ?_
      simp (disch := omega) only [↓RU,RV,RH,↓reduceIte,reduceEqDiff,reduceCtorEq,if_pos,List.append_nil,↓RS,RG,reduceAdd,reduceMul,reduceLeDiff]
      refine CallR.pc (l1None_pc) rfl (.inl rfl) ?_
      simp (disch := omega) only [↓RU,RV,RH,↓reduceIte,reduceEqDiff,reduceCtorEq,if_pos,List.append_nil,↓RS,RG,reduceAdd,reduceMul,reduceLeDiff]
      refine hK _ _ ?_;clear hK K
      refine W.ret ?_
      refine Br rfl ?_
      first | (rw [splitP_g hgv]; rfl) | (rw [splitP_h hgv e1 e2 e3 e4 hB1]; rfl) | (rw [splitP_v hgv e1 e2 e3 e4 hB1 hB2]; rfl) | (rw [splitP_no hB1 hB2]; rfl)
    ·skip
     simp (disch := omega) only [↓RU,RV,RH,↓reduceIte,reduceEqDiff,reduceCtorEq,if_pos,w64,List.append_nil,↓RS,RG,reduceAdd,reduceMul,reduceLeDiff,tyint,tystring,hb2,pStr]
     refine CallR.pc (l6In_pc _ _ _) rfl (.inl rfl) ?_
     simp (disch := omega) only [↓RU,RV,RH,↓reduceIte,reduceEqDiff,reduceCtorEq,if_pos,w64,List.append_nil,↓RS,RG,reduceAdd,reduceMul,reduceLeDiff,tyint,tystring,hb2,pStr]
     refine hK _ _ ?_;clear hK K
     refine W.cond rfl (fun h2 => ?_) (fun h2 => ?_)
     ·try simp only [RL] at h2
      have hB2 : ((s == [118]) && (decide (1 ≤ k) && decide (k ≤ wideOf p room - 1))) = true := by rw [hb2,e4]; exact h2
      have hk := h2
      simp only [Bool.and_eq_true,decide_eq_true_eq] at hk
      obtain ⟨kn,rfl⟩ : ∃ kn : Nat,k = kn := ⟨k.toNat,by omega⟩
      refine W.r fun K hK => ?_
      simp (disch := omega) only [↓RU,RV,RH,↓reduceIte,reduceEqDiff,reduceCtorEq,if_pos,w64,List.append_nil,↓RS,RG,reduceAdd,reduceMul,reduceLeDiff,tyint,show ((l : Int) + (kn : Int)) = ((l + kn : Nat) : Int) from by omega,show ((w : Int) - (kn : Int)) = ((w - kn : Nat) : Int) from by omega]
      refine CallR.pc (l1Put_pc hs (tp := t) (lf := l + kn) (hg := h) (wd := w - kn) (c := 122) (by omega) (fun row hr => by rw [hrw row hr]; omega)) rfl (.inl rfl) ?_
      simp (disch := omega) only [↓RU,RV,RH,↓reduceIte,reduceEqDiff,reduceCtorEq,if_pos,w64,List.append_nil,↓RS,RG,reduceAdd,reduceMul,reduceLeDiff,tyint,show ((l : Int) + (kn : Int)) = ((l + kn : Nat) : Int) from by omega,show ((w : Int) - (kn : Int)) = ((w - kn : Nat) : Int) from by omega]
      refine CallR.pc (l1Done_pc (putTo_sm hs)) rfl (.inr rfl) ?_
      simp (disch := omega) only [↓RU,RV,RH,↓reduceIte,reduceEqDiff,reduceCtorEq,if_pos,w64,List.append_nil,↓RS,RG,reduceAdd,reduceMul,reduceLeDiff,tyint,show ((l : Int) + (kn : Int)) = ((l + kn : Nat) : Int) from by omega,show ((w : Int) - (kn : Int)) = ((w - kn : Nat) : Int) from by omega]
      refine hK _ _ ?_;clear hK K
      refine W.ret ?_
      refine XBlock.ret ?_
      refine XThen.ret ?_
      refine Br rfl ?_
      first | (rw [splitP_g hgv]; rfl) | (rw [splitP_h hgv e1 e2 e3 e4 hB1]; rfl) | (rw [splitP_v hgv e1 e2 e3 e4 hB1 hB2]; rfl) | (rw [splitP_no hB1 hB2]; rfl)
     ·try simp only [RL] at h2
      have hB2 : ((s == [118]) && (decide (1 ≤ k) && decide (k ≤ wideOf p room - 1))) = false := by rw [hb2,e4]; exact h2
      refine W.skip ?_
      refine XbN ?_
      refine xn ?_
      refine W.r fun K hK => ?_
      simp (disch := omega) only [↓RU,RV,RH,↓reduceIte,reduceEqDiff,reduceCtorEq,if_pos,List.append_nil,↓RS,RG,reduceAdd,reduceMul,reduceLeDiff]
      refine CallR.pc (l1None_pc) rfl (.inl rfl) ?_
      simp (disch := omega) only [↓RU,RV,RH,↓reduceIte,reduceEqDiff,reduceCtorEq,if_pos,List.append_nil,↓RS,RG,reduceAdd,reduceMul,reduceLeDiff]
      refine hK _ _ ?_;clear hK K
      refine W.ret ?_
      refine Br rfl ?_
      first | (rw [splitP_g hgv]; rfl) | (rw [splitP_h hgv e1 e2 e3 e4 hB1]; rfl) | (rw [splitP_v hgv e1 e2 e3 e4 hB1 hB2]; rfl) | (rw [splitP_no hB1 hB2]; rfl)
  ·skip
   simp (disch := omega) only [↓RU,RV,RH,↓reduceIte,reduceEqDiff,reduceCtorEq,if_pos,w64,List.append_nil,↓RS,RG,reduceAdd,reduceMul,reduceLeDiff,tyint,tystring,hb1,pStr]
   refine CallR.pc (l6In_pc _ _ _) rfl (.inl rfl) ?_
   simp (disch := omega) only [↓RU,RV,RH,↓reduceIte,reduceEqDiff,reduceCtorEq,if_pos,w64,List.append_nil,↓RS,RG,reduceAdd,reduceMul,reduceLeDiff,tyint,tystring,hb1,pStr]
   refine hK _ _ ?_;clear hK K
   refine W.cond rfl (fun h1 => ?_) (fun h1 => ?_)
   ·try simp only [RL] at h1
    have hB1 : ((s == [104]) && (decide (1 ≤ k) && decide (k ≤ highOf p room - 1))) = true := by rw [hb1,e3]; exact h1
    have hk := h1
    simp only [Bool.and_eq_true,decide_eq_true_eq] at hk
    obtain ⟨kn,rfl⟩ : ∃ kn : Nat,k = kn := ⟨k.toNat,by omega⟩
    refine W.r fun K hK => ?_
    simp (disch := omega) only [↓RU,RV,RH,↓reduceIte,reduceEqDiff,reduceCtorEq,if_pos,w64,List.append_nil,↓RS,RG,reduceAdd,reduceMul,reduceLeDiff,tyint,show ((t : Int) + (kn : Int)) = ((t + kn : Nat) : Int) from by omega,show ((h : Int) - (kn : Int)) = ((h - kn : Nat) : Int) from by omega]
    refine CallR.pc (l1Put_pc hs (tp := t + kn) (lf := l) (hg := h - kn) (wd := w) (c := 122) (by omega) (fun row hr => by rw [hrw row hr]; omega)) rfl (.inl rfl) ?_
    simp (disch := omega) only [↓RU,RV,RH,↓reduceIte,reduceEqDiff,reduceCtorEq,if_pos,w64,List.append_nil,↓RS,RG,reduceAdd,reduceMul,reduceLeDiff,tyint,show ((t : Int) + (kn : Int)) = ((t + kn : Nat) : Int) from by omega,show ((h : Int) - (kn : Int)) = ((h - kn : Nat) : Int) from by omega]
    refine CallR.pc (l1Done_pc (putTo_sm hs)) rfl (.inr rfl) ?_
    simp (disch := omega) only [↓RU,RV,RH,↓reduceIte,reduceEqDiff,reduceCtorEq,if_pos,w64,List.append_nil,↓RS,RG,reduceAdd,reduceMul,reduceLeDiff,tyint,show ((t : Int) + (kn : Int)) = ((t + kn : Nat) : Int) from by omega,show ((h : Int) - (kn : Int)) = ((h - kn : Nat) : Int) from by omega]
    refine hK _ _ ?_;clear hK K
    refine W.ret ?_
    refine XBlock.ret ?_
    refine XThen.ret ?_
    refine Br rfl ?_
    first | (rw [splitP_g hgv]; rfl) | (rw [splitP_h hgv e1 e2 e3 e4 hB1]; rfl) | (rw [splitP_v hgv e1 e2 e3 e4 hB1 hB2]; rfl) | (rw [splitP_no hB1 hB2]; rfl)
   ·try simp only [RL] at h1
    have hB1 : ((s == [104]) && (decide (1 ≤ k) && decide (k ≤ highOf p room - 1))) = false := by rw [hb1,e3]; exact h1
    refine W.r fun K hK => ?_
    cases hb2 : (s == ([118] : Txt))
    ·skip
     have hB2 : ((s == [118]) && (decide (1 ≤ k) && decide (k ≤ wideOf p room - 1))) = false := by rw [hb2]; rfl
     simp (disch := omega) only [↓RU,RV,RH,↓reduceIte,reduceEqDiff,reduceCtorEq,if_pos,w64,List.append_nil,↓RS,RG,reduceAdd,reduceMul,reduceLeDiff,tyint,tystring,hb2,pStr]
     refine hK _ _ ?_;clear hK K
     refine W.cond rfl (fun h2 => ?_) (fun h2 => ?_)
     ·try simp only [RL] at h2
      exact absurd h2 (by simp)
     ·try simp only [RL] at h2
      refine W.skip ?_
      refine XbN ?_
      refine xn ?_
      refine W.r fun K hK => ?_
      simp (disch := omega) only [↓RU,RV,RH,↓reduceIte,reduceEqDiff,reduceCtorEq,if_pos,List.append_nil,↓RS,RG,reduceAdd,reduceMul,reduceLeDiff]
      refine CallR.pc (l1None_pc) rfl (.inl rfl) ?_
      simp (disch := omega) only [↓RU,RV,RH,↓reduceIte,reduceEqDiff,reduceCtorEq,if_pos,List.append_nil,↓RS,RG,reduceAdd,reduceMul,reduceLeDiff]
      refine hK _ _ ?_;clear hK K
      refine W.ret ?_
      refine Br rfl ?_
      first | (rw [splitP_g hgv]; rfl) | (rw [splitP_h hgv e1 e2 e3 e4 hB1]; rfl) | (rw [splitP_v hgv e1 e2 e3 e4 hB1 hB2]; rfl) | (rw [splitP_no hB1 hB2]; rfl)
    ·skip
     simp (disch := omega) only [↓RU,RV,RH,↓reduceIte,reduceEqDiff,reduceCtorEq,if_pos,w64,List.append_nil,↓RS,RG,reduceAdd,reduceMul,reduceLeDiff,tyint,tystring,hb2,pStr]
     refine CallR.pc (l6In_pc _ _ _) rfl (.inl rfl) ?_
     simp (disch := omega) only [↓RU,RV,RH,↓reduceIte,reduceEqDiff,reduceCtorEq,if_pos,w64,List.append_nil,↓RS,RG,reduceAdd,reduceMul,reduceLeDiff,tyint,tystring,hb2,pStr]
     refine hK _ _ ?_;clear hK K
     refine W.cond rfl (fun h2 => ?_) (fun h2 => ?_)
     ·try simp only [RL] at h2
      have hB2 : ((s == [118]) && (decide (1 ≤ k) && decide (k ≤ wideOf p room - 1))) = true := by rw [hb2,e4]; exact h2
      have hk := h2
      simp only [Bool.and_eq_true,decide_eq_true_eq] at hk
      obtain ⟨kn,rfl⟩ : ∃ kn : Nat,k = kn := ⟨k.toNat,by omega⟩
      refine W.r fun K hK => ?_
      simp (disch := omega) only [↓RU,RV,RH,↓reduceIte,reduceEqDiff,reduceCtorEq,if_pos,w64,List.append_nil,↓RS,RG,reduceAdd,reduceMul,reduceLeDiff,tyint,show ((l : Int) + (kn : Int)) = ((l + kn : Nat) : Int) from by omega,show ((w : Int) - (kn : Int)) = ((w - kn : Nat) : Int) from by omega]
      refine CallR.pc (l1Put_pc hs (tp := t) (lf := l + kn) (hg := h) (wd := w - kn) (c := 122) (by omega) (fun row hr => by rw [hrw row hr]; omega)) rfl (.inl rfl) ?_
      simp (disch := omega) only [↓RU,RV,RH,↓reduceIte,reduceEqDiff,reduceCtorEq,if_pos,w64,List.append_nil,↓RS,RG,reduceAdd,reduceMul,reduceLeDiff,tyint,show ((l : Int) + (kn : Int)) = ((l + kn : Nat) : Int) from by omega,show ((w : Int) - (kn : Int)) = ((w - kn : Nat) : Int) from by omega]
      refine CallR.pc (l1Done_pc (putTo_sm hs)) rfl (.inr rfl) ?_
      simp (disch := omega) only [↓RU,RV,RH,↓reduceIte,reduceEqDiff,reduceCtorEq,if_pos,w64,List.append_nil,↓RS,RG,reduceAdd,reduceMul,reduceLeDiff,tyint,show ((l : Int) + (kn : Int)) = ((l + kn : Nat) : Int) from by omega,show ((w : Int) - (kn : Int)) = ((w - kn : Nat) : Int) from by omega]
      refine hK _ _ ?_;clear hK K
      refine W.ret ?_
      refine XBlock.ret ?_
      refine XThen.ret ?_
      refine Br rfl ?_
      first | (rw [splitP_g hgv]; rfl) | (rw [splitP_h hgv e1 e2 e3 e4 hB1]; rfl) | (rw [splitP_v hgv e1 e2 e3 e4 hB1 hB2]; rfl) | (rw [splitP_no hB1 hB2]; rfl)
     ·try simp only [RL] at h2
      have hB2 : ((s == [118]) && (decide (1 ≤ k) && decide (k ≤ wideOf p room - 1))) = false := by rw [hb2,e4]; exact h2
      refine W.skip ?_
      refine XbN ?_
      refine xn ?_
      refine W.r fun K hK => ?_
      simp (disch := omega) only [↓RU,RV,RH,↓reduceIte,reduceEqDiff,reduceCtorEq,if_pos,List.append_nil,↓RS,RG,reduceAdd,reduceMul,reduceLeDiff]
      refine CallR.pc (l1None_pc) rfl (.inl rfl) ?_
      simp (disch := omega) only [↓RU,RV,RH,↓reduceIte,reduceEqDiff,reduceCtorEq,if_pos,List.append_nil,↓RS,RG,reduceAdd,reduceMul,reduceLeDiff]
      refine hK _ _ ?_;clear hK K
      refine W.ret ?_
      refine Br rfl ?_
      first | (rw [splitP_g hgv]; rfl) | (rw [splitP_h hgv e1 e2 e3 e4 hB1]; rfl) | (rw [splitP_v hgv e1 e2 e3 e4 hB1 hB2]; rfl) | (rw [splitP_no hB1 hB2]; rfl)
theorem pick_ev {code : Txt} {q vr t : Nat} {R : List Ob} (hc : code.length ≤ 1048576) (hq : q ≤ 1000000) (n : Int) (hn : n ≤ 1000000) (hn0 : -1000000 ≤ n) :
  Ev Tryz.prog 98 [.ref 0 vr 0,.int .i64 n] ⟨.arr vr 147 2 [eBy code,.int .i64 (q : Int)] :: R,t⟩ fun v S => ∃ k : Nat,v = .int .i64 (k : Int) ∧ (n < 1 → k = 0) ∧ (1 ≤ n → (k : Int) < n) ∧ S = ⟨.arr vr 147 2 [eBy code,.int .i64 ((q + 1 : Nat) : Int)] :: R,t⟩ :=
 pick_ev0 hc hq n hn hn0
theorem of_ev {code : Txt} {q vr t v1 : Nat} {R : List Ob} {l : List Txt} (hc : code.length ≤ 1048576) (hq : q ≤ 1000000) (hl : 1 ≤ l.length) (hl2 : l.length ≤ 1000) : Ev Tryz.prog 220 [.ref 0 vr 0,.loc 1 v1 0 l.length] ⟨.arr vr 147 2 [eBy code,.int .i64 (q : Int)] :: .arr v1 9 1 (l.map .str) :: R,t⟩ fun v S => ∃ s,s ∈ l ∧ v = .str s ∧ S = ⟨.arr vr 147 2 [eBy code,.int .i64 ((q + 1 : Nat) : Int)] :: .arr v1 9 1 (l.map .str) :: R,t⟩ := by
 refine Ev.of ⟨Tryz.func220,by kernel_rfl,rfl,by kernel_rfl⟩ tabOk mixed (by show 2 ≤ Tryz.f220.ntmps; decide) ?_
 refine W.r fun K hK => ?_
 simp (disch := omega) only [↓RU,RV,RH,↓reduceIte,reduceEqDiff,reduceCtorEq,if_pos,↓RS,RG,reduceAdd,reduceMul,reduceLeDiff]
 refine hK _ _ ?_;clear hK K
 refine W.r fun K hK => ?_
 simp (disch := omega) only [↓RU,RV,RH,↓reduceIte,reduceEqDiff,reduceCtorEq,if_pos,List.append_nil,↓RS,RG,reduceAdd,reduceMul,reduceLeDiff,ty6,tystring]
 refine CallR.ev (pick_ev hc hq (l.length : Int) (by omega) (by omega)) ?_
 rintro _ _ ⟨k,rfl,-,hk,rfl⟩
 have hk2 := hk (by omega)
 obtain ⟨s,hsk,hsm⟩ := get_of (show k < l.length by omega)
 simp (disch := omega) only [↓RU,RV,RH,↓reduceIte,reduceEqDiff,reduceCtorEq,if_pos,List.append_nil,↓RS,RG,reduceAdd,reduceMul,reduceLeDiff,ty6,tystring,hsk]
 refine hK _ _ ?_;clear hK K
 refine W.ret ?_
 refine Br rfl ?_
 exact ⟨_,s,hsm,rfl,take_all⟩
theorem l91Empty_pc {nh nw : Nat} (hn : nh ≤ 100) (hm : nw ≤ 100) : PC Tryz.prog 201 [.int .i64 nh,.int .i64 nw] (eStrs (List.replicate nh (List.replicate nw (97 : UInt8)))) true := by
 refine PC.of ⟨Tryz.func201,by kernel_rfl,rfl,by kernel_rfl⟩ tabOk mixed (by show 2 ≤ Tryz.f201.ntmps; decide) ?_
 refine W.r fun K hK => ?_
 simp (disch := omega) only [↓RU,RV,RH,↓reduceIte,reduceEqDiff,reduceCtorEq,if_pos,↓RS,RG,reduceAdd,reduceMul,reduceLeDiff]
 refine hK _ _ ?_;clear hK K
 refine W.r fun K hK => ?_
 simp (disch := omega) only [↓RU,RV,RH,↓reduceIte,reduceEqDiff,reduceCtorEq,if_pos,↓RS,RG,reduceAdd,reduceMul,reduceLeDiff,ty6,tystring]
 refine hK _ _ ?_;clear hK K
 refine W.seq ?_
 refine W.r fun K hK => ?_
 simp (disch := omega) only [↓RU,RV,RH,↓reduceIte,reduceEqDiff,reduceCtorEq,if_pos,↓RS,RG,reduceAdd,reduceMul,reduceLeDiff]
 refine hK _ _ ?_;clear hK K
 refine W.block ?_
 refine W.loop [0,1,5,6] (fun n vs S => ∃ i v0 tk : Nat,n = nh - i ∧ i ≤ nh ∧ vs = [.int .i64 nh,.int .i64 nw,.loc 0 v0 0 i,.int .i64 i] ∧ S = ⟨[.arr v0 9 1 ((List.replicate i (List.replicate nw (97 : UInt8))).map .str)],tk⟩) (nh) ?_ ?_
 ·refine ⟨1,0,0,1,rfl,Nat.zero_le _,?_,rfl⟩
  simp [Env.put,Env.of,argEnv]
 rintro n vs S - ⟨i,v0,tk,rfl,h_i,rfl,rfl⟩
 refine W.seq ?_
 refine W.r fun K hK => ?_
 simp (disch := omega) only [↓RU,RV,RH,↓reduceIte,reduceEqDiff,reduceCtorEq,if_pos,w64,↓RS,RG,reduceAdd,reduceMul,reduceLeDiff,tyint]
 refine hK _ _ ?_;clear hK K
 refine W.cond rfl (fun h => ?_) (fun h => ?_)
 ·try simp only [RL] at h
  refine W.skip ?_
  refine xn ?_
  refine W.seq ?_
  refine W.block ?_
  refine W.r fun K hK => ?_
  simp (disch := omega) only [↓RU,RV,RH,↓reduceIte,reduceEqDiff,reduceCtorEq,if_pos,↓RS,RG,reduceAdd,reduceMul,reduceLeDiff,ty7,ty29]
  refine hK _ _ ?_;clear hK K
  refine W.seq ?_
  refine W.r fun K hK => ?_
  simp (disch := omega) only [↓RU,RV,RH,↓reduceIte,reduceEqDiff,reduceCtorEq,if_pos,↓RS,RG,reduceAdd,reduceMul,reduceLeDiff]
  refine hK _ _ ?_;clear hK K
  refine W.block ?_
  refine W.loop [0,1,5,6,7,8] (fun n vs S => ∃ k v1 tk : Nat,n = nw - k ∧ k ≤ nw ∧ vs = [.int .i64 nh,.int .i64 nw,.loc 0 v0 0 i,.int .i64 i,.loc 1 v1 0 k,.int .i64 k] ∧ S = ⟨[.arr v0 9 1 ((List.replicate i (List.replicate nw (97 : UInt8))).map .str),.arr v1 5 1 ((List.replicate k (97 : UInt8)).map eB)],tk⟩) (nw) ?_ ?_
  ·refine ⟨2,0,tk,tk + 1,rfl,Nat.zero_le _,?_,rfl⟩
   simp [Env.put,Env.of]
  rintro n vs S - ⟨k,v1,tk,rfl,h_k,rfl,rfl⟩
  refine W.seq ?_
  refine W.r fun K hK => ?_
  simp (disch := omega) only [↓RU,RV,RH,↓reduceIte,reduceEqDiff,reduceCtorEq,if_pos,w64,↓RS,RG,reduceAdd,reduceMul,reduceLeDiff,tyint]
  refine hK _ _ ?_;clear hK K
  refine W.cond rfl (fun h1 => ?_) (fun h1 => ?_)
  ·try simp only [RL] at h1
   refine W.skip ?_
   refine xn ?_
   refine W.seq ?_
   refine W.block ?_
   refine W.k fun K hK => ?_
   simp (disch := omega) only [↓RU,RV,RH,↓reduceIte,reduceEqDiff,reduceCtorEq,if_pos,↓RS,RG,reduceAdd,reduceMul,reduceLeDiff,ty7,ty29,List.length_replicate]
   refine hK _ _ ?_;clear hK K
   refine XbN ?_
   refine xn ?_
   refine W.k fun K hK => ?_
   simp (disch := omega) only [↓RU,RV,RH,↓reduceIte,reduceEqDiff,reduceCtorEq,if_pos,w64,↓RS,RG,reduceAdd,reduceMul,reduceLeDiff,tyint]
   refine hK _ _ ?_;clear hK K
   refine xn ?_
   refine ⟨nw - (k + 1),by omega,2,k + 1,tk + 1,tk + 2,rfl,by omega,?_,?_⟩
   all_goals simp [Env.put,Env.of,take_eq,tk_le,List.replicate_succ',List.map_append]
  ·try simp only [RL] at h1
   obtain rfl : k = nw := by omega
   have hbo := bytesOf_eB (List.replicate k (97 : UInt8))
   have htk : ((List.replicate k (97 : UInt8)).map eB).take k = (List.replicate k (97 : UInt8)).map eB := List.take_of_length_le (by simp)
   refine W.exit ?_
   refine xe ?_
   refine xe ?_
   refine XBlock.hit ?_
   refine xn ?_
   refine W.k fun K hK => ?_
   simp (disch := omega) only [↓RU,RV,RH,↓reduceIte,reduceEqDiff,reduceCtorEq,if_pos,w64,↓RS,RG,reduceAdd,reduceMul,reduceLeDiff,ty6,ty7,tystring,ty29,List.length_replicate,htk,hbo]
   refine hK _ _ ?_;clear hK K
   refine XbN ?_
   refine xn ?_
   refine W.k fun K hK => ?_
   simp (disch := omega) only [↓RU,RV,RH,↓reduceIte,reduceEqDiff,reduceCtorEq,if_pos,w64,↓RS,RG,reduceAdd,reduceMul,reduceLeDiff,tyint]
   refine hK _ _ ?_;clear hK K
   refine xn ?_
   refine ⟨nh - (i + 1),by omega,1,i + 1,tk + 1,tk + 2,rfl,by omega,?_,?_⟩
   all_goals simp [Env.put,Env.of,take_eq,tk_le,List.replicate_succ',List.map_append]
 ·try simp only [RL] at h
  obtain rfl : i = nh := by omega
  refine W.exit ?_
  refine xe ?_
  refine xe ?_
  refine XBlock.hit ?_
  refine xn ?_
  refine W.r fun K hK => ?_
  simp (disch := omega) only [↓RU,RV,RH,↓reduceIte,reduceEqDiff,reduceCtorEq,if_pos,↓RS,RG,reduceAdd,reduceMul,reduceLeDiff]
  refine hK _ _ ?_;clear hK K
  refine W.ret ?_
  refine Br rfl ?_
  exact (reify_loc (k := 9) rfl (by simp) (mapM_str _)).trans (by simp)
theorem frz_ref0 {S : Store} {k ver off : Nat} : frz S 1 (k + 1) (.ref 0 ver off) = some (.ref 0 ver off) := by simp [frz]
theorem tk_strs (p : List Txt) : List.take p.length (p.map PV.str) = p.map .str := List.take_of_length_le (by simp)
theorem rfz_tstr {S : Store} {lo k : Nat} (l : List Txt) : (l.map PV.str).mapM (rfz S lo (k + 1)) = some (l.map PV.str) := rfz_map (fun _ => rfl) l
theorem plan_sm {p : List Txt} (h : planB p = true) : Sm p := by
 obtain ⟨h1,-,h3⟩ := plan_small h
 exact ⟨by omega,fun r hr => by have := (h3 r hr).2; omega⟩
theorem plan_rooms9 {p : List Txt} (h : planB p = true) : l1Rooms p ≤ 9 := by
 unfold planB at h; simp only [Bool.and_eq_true,decide_eq_true_eq] at h; omega
theorem hv_len {s : Txt} (h : s ∈ ([[104],[118]] : List Txt)) : s.length ≤ 1048576 := by
 simp only [List.mem_cons,List.not_mem_nil,or_false] at h
 rcases h with rfl | rfl <;> simp
theorem l91Cut_ev {code : Txt} {q vr t : Nat} {R : List Ob} (hc : code.length ≤ 1048576) (hq : q ≤ 900000) {p : List Txt} (hp : planB p = true) {many : Nat} (hm : many ≤ 1000) : Ev Tryz.prog 200 [.ref 0 vr 0,eStrs p,.int .i64 many] ⟨.arr vr 147 2 [eBy code,.int .i64 (q : Int)] :: R,t⟩ fun v S => ∃ (p2 : List Txt) (q2 t2 : Nat),v = eStrs p2 ∧ planB p2 = true ∧ p2.length = p.length ∧ q2 ≤ q + 3 * many ∧ S = ⟨[.arr vr 147 2 [eBy code,.int .i64 (q2 : Int)]],t2⟩ := by
 refine Ev.of ⟨Tryz.func200,by kernel_rfl,rfl,by kernel_rfl⟩ tabOk mixed (by show 3 ≤ Tryz.f200.ntmps; decide) ?_
 refine W.r fun K hK => ?_
 simp (disch := omega) only [↓RU,RV,RH,↓reduceIte,reduceEqDiff,reduceCtorEq,if_pos,↓RS,RG,reduceAdd,reduceMul,reduceLeDiff]
 refine hK _ _ ?_;clear hK K
 refine W.seq ?_
 refine W.r fun K hK => ?_
 simp (disch := omega) only [↓RU,RV,RH,↓reduceIte,reduceEqDiff,reduceCtorEq,if_pos,↓RS,RG,reduceAdd,reduceMul,reduceLeDiff]
 refine hK _ _ ?_;clear hK K
 refine W.block ?_
 refine W.loopZ [0,1,2,7] (fun n vs S => ∃ (i : Nat) (p2 : List Txt) (q2 tk : Nat),n = many - i ∧ i ≤ many ∧ planB p2 = true ∧ p2.length = p.length ∧ q2 ≤ q + 3 * i ∧ vs = [.ref 0 vr 0,eStrs p2,.int .i64 many,.int .i64 i] ∧ S = ⟨[.arr vr 147 2 [eBy code,.int .i64 (q2 : Int)]],tk⟩) many ?_ ?_
 ·refine ⟨1,[.ref 0 vr 0,eStrs p,.int .i64 many,.int .i64 (0 : Nat)],⟨[.arr vr 147 2 [eBy code,.int .i64 (q : Int)]],t⟩,?_,?_,0,p,q,t,rfl,by omega,hp,rfl,by omega,rfl,rfl⟩
  ·simp [-List.mapM_map,Store.frz,frzObs,frzOb,frz_eInts,frz_loc,rfz_loc,frz_int,frz_sl,frz_ints,rfz_ints,frz_strs,frz_bytes,rfz_bytes,rfz_str,rfz_bool,frz_str,frz_bool,Env.put,Env.of,argEnv,rfz_int,List.mapM_append,List.mapM_cons,frz_ref0,tk_strs,rfz_tstr]
  ·simp [-List.mapM_map,Store.frz,frzObs,frzOb,frz_eInts,frz_loc,rfz_loc,frz_int,frz_sl,frz_ints,rfz_ints,frz_strs,frz_bytes,rfz_bytes,rfz_str,rfz_bool,frz_str,frz_bool,Env.put,Env.of,argEnv,rfz_int,List.mapM_append,List.mapM_cons,frz_ref0,tk_strs,rfz_tstr]
 rintro n vs S - ⟨i,p2,q2,tk,rfl,h_i,hp2,hl2,hq2,rfl,rfl⟩
 refine W.seq ?_
 refine W.r fun K hK => ?_
 simp (disch := omega) only [↓RU,RV,RH,↓reduceIte,reduceEqDiff,reduceCtorEq,if_pos,w64,↓RS,RG,reduceAdd,reduceMul,reduceLeDiff,tyint]
 refine hK _ _ ?_;clear hK K
 refine W.cond rfl (fun h => ?_) (fun h => ?_)
 ·try simp only [RL] at h
  have hs2 := plan_sm hp2
  have hr9 := plan_rooms9 hp2
  have hrb := l1Rooms_bound p2
  refine W.skip ?_
  refine xn ?_
  refine W.seq ?_
  refine W.block ?_
  refine W.r fun K hK => ?_
  simp (disch := omega) only [↓RU,RV,RH,↓reduceIte,reduceEqDiff,reduceCtorEq,if_pos,List.append_nil,↓RS,RG,reduceAdd,reduceMul,reduceLeDiff]
  refine CallR.pc (l1Rooms_pc hs2) rfl (.inl rfl) ?_
  simp (disch := omega) only [↓RU,RV,RH,↓reduceIte,reduceEqDiff,reduceCtorEq,if_pos,List.append_nil,↓RS,RG,reduceAdd,reduceMul,reduceLeDiff]
  refine CallR.ev (pick_ev hc (by omega) (l1Rooms p2) (by omega) (by omega)) ?_
  rintro _ _ ⟨k1,rfl,-,-,rfl⟩
  simp (disch := omega) only [↓RU,RV,RH,↓reduceIte,reduceEqDiff,reduceCtorEq,if_pos,List.append_nil,↓RS,RG,reduceAdd,reduceMul,reduceLeDiff]
  refine hK _ _ ?_;clear hK K
  refine W.r fun K hK => ?_
  simp (disch := omega) only [↓RU,RV,RH,↓reduceIte,reduceEqDiff,reduceCtorEq,if_pos,List.append_nil,w64,↓RS,RG,reduceAdd,reduceMul,reduceLeDiff,ty6,tyint,tystring]
  refine CallR.ev (of_ev (R := []) (l := [[104],[118]]) hc (by omega) (by simp) (by simp)) ?_
  rintro _ _ ⟨s,hsm,rfl,rfl⟩
  have hsl := hv_len hsm
  simp (disch := omega) only [↓RU,RV,RH,↓reduceIte,reduceEqDiff,reduceCtorEq,if_pos,List.append_nil,w64,↓RS,RG,reduceAdd,reduceMul,reduceLeDiff,ty6,tyint,tystring]
  refine CallR.ev (pick_ev (q := q2 + 1 + 1) hc (by omega) 3 (by omega) (by omega)) ?_
  rintro _ _ ⟨k2,rfl,-,hk2,rfl⟩
  have hk3 := hk2 (by omega)
  simp (disch := omega) only [↓RU,RV,RH,↓reduceIte,reduceEqDiff,reduceCtorEq,if_pos,List.append_nil,w64,↓RS,RG,reduceAdd,reduceMul,reduceLeDiff,ty6,tyint,tystring]
  refine CallR.pc (planSplit_pc hs2 k1 hsl (1 + k2)) rfl (.inr rfl) ?_
  simp (disch := omega) only [↓RU,RV,RH,↓reduceIte,reduceEqDiff,reduceCtorEq,if_pos,List.append_nil,w64,↓RS,RG,reduceAdd,reduceMul,reduceLeDiff,ty6,tyint,tystring]
  refine hK _ _ ?_;clear hK K
  refine W.r fun K hK => ?_
  simp (disch := omega) only [↓RU,RV,RH,↓reduceIte,reduceEqDiff,reduceCtorEq,if_pos,↓RS,RG,reduceAdd,reduceMul,reduceLeDiff]
  refine hK _ _ ?_;clear hK K
  refine W.cond rfl (fun h1 => ?_) (fun h1 => ?_)
  ·try simp only [RL] at h1
   obtain ⟨ho1,ho2⟩ := splitP_ok h1
   refine W.k fun K hK => ?_
   simp (disch := omega) only [↓RU,RV,RH,↓reduceIte,reduceEqDiff,reduceCtorEq,if_pos,↓RS,RG,reduceAdd,reduceMul,reduceLeDiff]
   refine hK _ _ ?_;clear hK K
   refine XbN ?_
   refine xn ?_
   refine W.k fun K hK => ?_
   simp (disch := omega) only [↓RU,RV,RH,↓reduceIte,reduceEqDiff,reduceCtorEq,if_pos,w64,↓RS,RG,reduceAdd,reduceMul,reduceLeDiff,tyint]
   refine hK _ _ ?_;clear hK K
   refine xn ?_
   refine ⟨many - (i + 1),by omega,1,[.ref 0 vr 0,eStrs (splitP p2 k1 s (1 + k2)).1,.int .i64 many,.int .i64 ((i + 1 : Nat) : Int)],⟨[.arr vr 147 2 [eBy code,.int .i64 ((q2 + 1 + 1 + 1 : Nat) : Int)]],tk + 1⟩,?_,?_,i + 1,(splitP p2 k1 s (1 + k2)).1,q2 + 1 + 1 + 1,tk + 1,rfl,by omega,ho1,ho2.trans hl2,by omega,rfl,rfl⟩
   ·simp [-List.mapM_map,Store.frz,frzObs,frzOb,frz_eInts,frz_loc,rfz_loc,frz_int,frz_sl,frz_ints,rfz_ints,frz_strs,frz_bytes,rfz_bytes,rfz_str,rfz_bool,frz_str,frz_bool,Env.put,Env.of,argEnv,rfz_int,List.mapM_append,List.mapM_cons,frz_ref0,tk_strs,rfz_tstr]
   ·simp [-List.mapM_map,Store.frz,frzObs,frzOb,frz_eInts,frz_loc,rfz_loc,frz_int,frz_sl,frz_ints,rfz_ints,frz_strs,frz_bytes,rfz_bytes,rfz_str,rfz_bool,frz_str,frz_bool,Env.put,Env.of,argEnv,rfz_int,List.mapM_append,List.mapM_cons,frz_ref0,tk_strs,rfz_tstr]
  ·try simp only [RL] at h1
   refine W.skip ?_
   refine XbN ?_
   refine xn ?_
   refine W.k fun K hK => ?_
   simp (disch := omega) only [↓RU,RV,RH,↓reduceIte,reduceEqDiff,reduceCtorEq,if_pos,w64,↓RS,RG,reduceAdd,reduceMul,reduceLeDiff,tyint]
   refine hK _ _ ?_;clear hK K
   refine xn ?_
   refine ⟨many - (i + 1),by omega,1,[.ref 0 vr 0,eStrs p2,.int .i64 many,.int .i64 ((i + 1 : Nat) : Int)],⟨[.arr vr 147 2 [eBy code,.int .i64 ((q2 + 1 + 1 + 1 : Nat) : Int)]],tk + 1⟩,?_,?_,i + 1,p2,q2 + 1 + 1 + 1,tk + 1,rfl,by omega,hp2,hl2,by omega,rfl,rfl⟩
   ·simp [-List.mapM_map,Store.frz,frzObs,frzOb,frz_eInts,frz_loc,rfz_loc,frz_int,frz_sl,frz_ints,rfz_ints,frz_strs,frz_bytes,rfz_bytes,rfz_str,rfz_bool,frz_str,frz_bool,Env.put,Env.of,argEnv,rfz_int,List.mapM_append,List.mapM_cons,frz_ref0,tk_strs,rfz_tstr]
   ·simp [-List.mapM_map,Store.frz,frzObs,frzOb,frz_eInts,frz_loc,rfz_loc,frz_int,frz_sl,frz_ints,rfz_ints,frz_strs,frz_bytes,rfz_bytes,rfz_str,rfz_bool,frz_str,frz_bool,Env.put,Env.of,argEnv,rfz_int,List.mapM_append,List.mapM_cons,frz_ref0,tk_strs,rfz_tstr]
 ·try simp only [RL] at h
  obtain rfl : i = many := by omega
  refine W.exit ?_
  refine xe ?_
  refine xe ?_
  refine XBlock.hit ?_
  refine xn ?_
  refine W.r fun K hK => ?_
  simp (disch := omega) only [↓RU,RV,RH,↓reduceIte,reduceEqDiff,reduceCtorEq,if_pos,↓RS,RG,reduceAdd,reduceMul,reduceLeDiff]
  refine hK _ _ ?_;clear hK K
  refine W.ret ?_
  refine Br rfl ?_
  exact ⟨_,p2,q2,tk,rfl,hp2,hl2,by omega,take_all⟩
theorem l91Cut_loc {code : Txt} {q vr t v1 : Nat} {R : List Ob} (hc : code.length ≤ 1048576) (hq : q ≤ 900000) {p : List Txt} (hp : planB p = true) {many : Nat} (hm : many ≤ 1000) : Ev Tryz.prog 200 [.ref 0 vr 0,.loc 1 v1 0 p.length,.int .i64 many] ⟨.arr vr 147 2 [eBy code,.int .i64 (q : Int)] :: .arr v1 9 1 (p.map .str) :: R,t⟩ fun v S => ∃ (p2 : List Txt) (q2 t2 : Nat),v = eStrs p2 ∧ planB p2 = true ∧ p2.length = p.length ∧ q2 ≤ q + 3 * many ∧ S = ⟨[.arr vr 147 2 [eBy code,.int .i64 (q2 : Int)]],t2⟩ := by
 refine Ev.of ⟨Tryz.func200,by kernel_rfl,rfl,by kernel_rfl⟩ tabOk mixed (by show 3 ≤ Tryz.f200.ntmps; decide) ?_
 refine W.r fun K hK => ?_
 simp (disch := omega) only [↓RU,RV,RH,↓reduceIte,reduceEqDiff,reduceCtorEq,if_pos,↓RS,RG,reduceAdd,reduceMul,reduceLeDiff]
 refine hK _ _ ?_;clear hK K
 refine W.seq ?_
 refine W.r fun K hK => ?_
 simp (disch := omega) only [↓RU,RV,RH,↓reduceIte,reduceEqDiff,reduceCtorEq,if_pos,↓RS,RG,reduceAdd,reduceMul,reduceLeDiff]
 refine hK _ _ ?_;clear hK K
 refine W.block ?_
 refine W.loopZ [0,1,2,7] (fun n vs S => ∃ (i : Nat) (p2 : List Txt) (q2 tk : Nat),n = many - i ∧ i ≤ many ∧ planB p2 = true ∧ p2.length = p.length ∧ q2 ≤ q + 3 * i ∧ vs = [.ref 0 vr 0,eStrs p2,.int .i64 many,.int .i64 i] ∧ S = ⟨[.arr vr 147 2 [eBy code,.int .i64 (q2 : Int)]],tk⟩) many ?_ ?_
 ·refine ⟨1,[.ref 0 vr 0,eStrs p,.int .i64 many,.int .i64 (0 : Nat)],⟨[.arr vr 147 2 [eBy code,.int .i64 (q : Int)]],t⟩,?_,?_,0,p,q,t,rfl,by omega,hp,rfl,by omega,rfl,rfl⟩
  ·simp [-List.mapM_map,Store.frz,frzObs,frzOb,frz_eInts,frz_loc,rfz_loc,frz_int,frz_sl,frz_ints,rfz_ints,frz_strs,frz_bytes,rfz_bytes,rfz_str,rfz_bool,frz_str,frz_bool,Env.put,Env.of,argEnv,rfz_int,List.mapM_append,List.mapM_cons,frz_ref0,tk_strs,rfz_tstr]
  ·simp [-List.mapM_map,Store.frz,frzObs,frzOb,frz_eInts,frz_loc,rfz_loc,frz_int,frz_sl,frz_ints,rfz_ints,frz_strs,frz_bytes,rfz_bytes,rfz_str,rfz_bool,frz_str,frz_bool,Env.put,Env.of,argEnv,rfz_int,List.mapM_append,List.mapM_cons,frz_ref0,tk_strs,rfz_tstr]
 rintro n vs S - ⟨i,p2,q2,tk,rfl,h_i,hp2,hl2,hq2,rfl,rfl⟩
 refine W.seq ?_
 refine W.r fun K hK => ?_
 simp (disch := omega) only [↓RU,RV,RH,↓reduceIte,reduceEqDiff,reduceCtorEq,if_pos,w64,↓RS,RG,reduceAdd,reduceMul,reduceLeDiff,tyint]
 refine hK _ _ ?_;clear hK K
 refine W.cond rfl (fun h => ?_) (fun h => ?_)
 ·try simp only [RL] at h
  have hs2 := plan_sm hp2
  have hr9 := plan_rooms9 hp2
  have hrb := l1Rooms_bound p2
  refine W.skip ?_
  refine xn ?_
  refine W.seq ?_
  refine W.block ?_
  refine W.r fun K hK => ?_
  simp (disch := omega) only [↓RU,RV,RH,↓reduceIte,reduceEqDiff,reduceCtorEq,if_pos,List.append_nil,↓RS,RG,reduceAdd,reduceMul,reduceLeDiff]
  refine CallR.pc (l1Rooms_pc hs2) rfl (.inl rfl) ?_
  simp (disch := omega) only [↓RU,RV,RH,↓reduceIte,reduceEqDiff,reduceCtorEq,if_pos,List.append_nil,↓RS,RG,reduceAdd,reduceMul,reduceLeDiff]
  refine CallR.ev (pick_ev hc (by omega) (l1Rooms p2) (by omega) (by omega)) ?_
  rintro _ _ ⟨k1,rfl,-,-,rfl⟩
  simp (disch := omega) only [↓RU,RV,RH,↓reduceIte,reduceEqDiff,reduceCtorEq,if_pos,List.append_nil,↓RS,RG,reduceAdd,reduceMul,reduceLeDiff]
  refine hK _ _ ?_;clear hK K
  refine W.r fun K hK => ?_
  simp (disch := omega) only [↓RU,RV,RH,↓reduceIte,reduceEqDiff,reduceCtorEq,if_pos,List.append_nil,w64,↓RS,RG,reduceAdd,reduceMul,reduceLeDiff,ty6,tyint,tystring]
  refine CallR.ev (of_ev (R := []) (l := [[104],[118]]) hc (by omega) (by simp) (by simp)) ?_
  rintro _ _ ⟨s,hsm,rfl,rfl⟩
  have hsl := hv_len hsm
  simp (disch := omega) only [↓RU,RV,RH,↓reduceIte,reduceEqDiff,reduceCtorEq,if_pos,List.append_nil,w64,↓RS,RG,reduceAdd,reduceMul,reduceLeDiff,ty6,tyint,tystring]
  refine CallR.ev (pick_ev (q := q2 + 1 + 1) hc (by omega) 3 (by omega) (by omega)) ?_
  rintro _ _ ⟨k2,rfl,-,hk2,rfl⟩
  have hk3 := hk2 (by omega)
  simp (disch := omega) only [↓RU,RV,RH,↓reduceIte,reduceEqDiff,reduceCtorEq,if_pos,List.append_nil,w64,↓RS,RG,reduceAdd,reduceMul,reduceLeDiff,ty6,tyint,tystring]
  refine CallR.pc (planSplit_pc hs2 k1 hsl (1 + k2)) rfl (.inr rfl) ?_
  simp (disch := omega) only [↓RU,RV,RH,↓reduceIte,reduceEqDiff,reduceCtorEq,if_pos,List.append_nil,w64,↓RS,RG,reduceAdd,reduceMul,reduceLeDiff,ty6,tyint,tystring]
  refine hK _ _ ?_;clear hK K
  refine W.r fun K hK => ?_
  simp (disch := omega) only [↓RU,RV,RH,↓reduceIte,reduceEqDiff,reduceCtorEq,if_pos,↓RS,RG,reduceAdd,reduceMul,reduceLeDiff]
  refine hK _ _ ?_;clear hK K
  refine W.cond rfl (fun h1 => ?_) (fun h1 => ?_)
  ·try simp only [RL] at h1
   obtain ⟨ho1,ho2⟩ := splitP_ok h1
   refine W.k fun K hK => ?_
   simp (disch := omega) only [↓RU,RV,RH,↓reduceIte,reduceEqDiff,reduceCtorEq,if_pos,↓RS,RG,reduceAdd,reduceMul,reduceLeDiff]
   refine hK _ _ ?_;clear hK K
   refine XbN ?_
   refine xn ?_
   refine W.k fun K hK => ?_
   simp (disch := omega) only [↓RU,RV,RH,↓reduceIte,reduceEqDiff,reduceCtorEq,if_pos,w64,↓RS,RG,reduceAdd,reduceMul,reduceLeDiff,tyint]
   refine hK _ _ ?_;clear hK K
   refine xn ?_
   refine ⟨many - (i + 1),by omega,1,[.ref 0 vr 0,eStrs (splitP p2 k1 s (1 + k2)).1,.int .i64 many,.int .i64 ((i + 1 : Nat) : Int)],⟨[.arr vr 147 2 [eBy code,.int .i64 ((q2 + 1 + 1 + 1 : Nat) : Int)]],tk + 1⟩,?_,?_,i + 1,(splitP p2 k1 s (1 + k2)).1,q2 + 1 + 1 + 1,tk + 1,rfl,by omega,ho1,ho2.trans hl2,by omega,rfl,rfl⟩
   ·simp [-List.mapM_map,Store.frz,frzObs,frzOb,frz_eInts,frz_loc,rfz_loc,frz_int,frz_sl,frz_ints,rfz_ints,frz_strs,frz_bytes,rfz_bytes,rfz_str,rfz_bool,frz_str,frz_bool,Env.put,Env.of,argEnv,rfz_int,List.mapM_append,List.mapM_cons,frz_ref0,tk_strs,rfz_tstr]
   ·simp [-List.mapM_map,Store.frz,frzObs,frzOb,frz_eInts,frz_loc,rfz_loc,frz_int,frz_sl,frz_ints,rfz_ints,frz_strs,frz_bytes,rfz_bytes,rfz_str,rfz_bool,frz_str,frz_bool,Env.put,Env.of,argEnv,rfz_int,List.mapM_append,List.mapM_cons,frz_ref0,tk_strs,rfz_tstr]
  ·try simp only [RL] at h1
   refine W.skip ?_
   refine XbN ?_
   refine xn ?_
   refine W.k fun K hK => ?_
   simp (disch := omega) only [↓RU,RV,RH,↓reduceIte,reduceEqDiff,reduceCtorEq,if_pos,w64,↓RS,RG,reduceAdd,reduceMul,reduceLeDiff,tyint]
   refine hK _ _ ?_;clear hK K
   refine xn ?_
   refine ⟨many - (i + 1),by omega,1,[.ref 0 vr 0,eStrs p2,.int .i64 many,.int .i64 ((i + 1 : Nat) : Int)],⟨[.arr vr 147 2 [eBy code,.int .i64 ((q2 + 1 + 1 + 1 : Nat) : Int)]],tk + 1⟩,?_,?_,i + 1,p2,q2 + 1 + 1 + 1,tk + 1,rfl,by omega,hp2,hl2,by omega,rfl,rfl⟩
   ·simp [-List.mapM_map,Store.frz,frzObs,frzOb,frz_eInts,frz_loc,rfz_loc,frz_int,frz_sl,frz_ints,rfz_ints,frz_strs,frz_bytes,rfz_bytes,rfz_str,rfz_bool,frz_str,frz_bool,Env.put,Env.of,argEnv,rfz_int,List.mapM_append,List.mapM_cons,frz_ref0,tk_strs,rfz_tstr]
   ·simp [-List.mapM_map,Store.frz,frzObs,frzOb,frz_eInts,frz_loc,rfz_loc,frz_int,frz_sl,frz_ints,rfz_ints,frz_strs,frz_bytes,rfz_bytes,rfz_str,rfz_bool,frz_str,frz_bool,Env.put,Env.of,argEnv,rfz_int,List.mapM_append,List.mapM_cons,frz_ref0,tk_strs,rfz_tstr]
 ·try simp only [RL] at h
  obtain rfl : i = many := by omega
  refine W.exit ?_
  refine xe ?_
  refine xe ?_
  refine XBlock.hit ?_
  refine xn ?_
  refine W.r fun K hK => ?_
  simp (disch := omega) only [↓RU,RV,RH,↓reduceIte,reduceEqDiff,reduceCtorEq,if_pos,↓RS,RG,reduceAdd,reduceMul,reduceLeDiff]
  refine hK _ _ ?_;clear hK K
  refine W.ret ?_
  refine Br rfl ?_
  exact ⟨_,p2,q2,tk,rfl,hp2,hl2,by omega,take_all⟩
theorem empty_plan {nh nw : Nat} (h1 : 1 ≤ nh) (h2 : nh ≤ 6) (w1 : 1 ≤ nw) (w2 : nw ≤ 6) : planB (List.replicate nh (List.replicate nw (97 : UInt8))) = true := by
 rcases (show nh = 1 ∨ nh = 2 ∨ nh = 3 ∨ nh = 4 ∨ nh = 5 ∨ nh = 6 by omega) with rfl | rfl | rfl | rfl | rfl | rfl <;>
 rcases (show nw = 1 ∨ nw = 2 ∨ nw = 3 ∨ nw = 4 ∨ nw = 5 ∨ nw = 6 by omega) with rfl | rfl | rfl | rfl | rfl | rfl <;> decide +kernel
def wheel3 : List Txt := [[97,97,98],[99,100,98],[99,101,101]]
def wheel4 : List Txt := [[97,97,97,98],[99,100,100,98],[99,100,100,98],[99,101,101,101]]
theorem wheel3_plan : planB wheel3 = true := by decide +kernel
theorem wheel4_plan : planB wheel4 = true := by decide +kernel
theorem l91Plan_ev {code : Txt} {q vr t : Nat} (hc : code.length ≤ 1048576) (hq : q ≤ 800000) {nh nw : Nat} (h1 : 1 ≤ nh) (h2 : nh ≤ 6) (w1 : 1 ≤ nw) (w2 : nw ≤ 6) : Ev Tryz.prog 175 [.ref 0 vr 0,.int .i64 nh,.int .i64 nw] ⟨[.arr vr 147 2 [eBy code,.int .i64 (q : Int)]],t⟩ fun v S => ∃ (p2 : List Txt) (q2 t2 : Nat),v = eStrs p2 ∧ planB p2 = true ∧ p2.length = nh ∧ q2 ≤ q + 100 ∧ S = ⟨[.arr vr 147 2 [eBy code,.int .i64 (q2 : Int)]],t2⟩ := by
 refine Ev.of ⟨Tryz.func175,by kernel_rfl,rfl,by kernel_rfl⟩ tabOk mixed (by show 3 ≤ Tryz.f175.ntmps; decide) ?_
 refine W.r fun K hK => ?_
 simp (disch := omega) only [↓RU,RV,RH,↓reduceIte,reduceEqDiff,reduceCtorEq,if_pos,↓RS,RG,reduceAdd,reduceMul,reduceLeDiff]
 refine hK _ _ ?_;clear hK K
 refine W.seq ?_
 refine W.join [0,1,2,17] (fun vs S => ∃ (q2 : Nat) (b : Bool),q2 ≤ q + 1 ∧ (b = true → nh = 3) ∧ vs = [.ref 0 vr 0,.int .i64 nh,.int .i64 nw,.bool b] ∧ S = ⟨[.arr vr 147 2 [eBy code,.int .i64 (q2 : Int)]],t⟩) ?_ ?_
 ·
  refine W.k fun K hK => ?_
  rcases hd : (((nh : Int) == 3),((nw : Int) == 3)) with ⟨_ | _,_ | _⟩
  ·skip
   simp only [Prod.mk.injEq] at hd
   obtain ⟨hd1,hd2⟩ := hd
   simp (disch := omega) only [↓RU,RV,RH,↓reduceIte,reduceEqDiff,reduceCtorEq,if_pos,w64,List.append_nil,↓RS,RG,reduceAdd,reduceMul,reduceLeDiff,tyint,hd1,hd2]
   refine hK _ _ ?_;clear hK K
   refine xn ?_
   refine ⟨_,q,false,by omega,fun h9 => (by cases h9),?_,take_all⟩
   simp [Env.put,Env.of,argEnv]
  ·skip
   simp only [Prod.mk.injEq] at hd
   obtain ⟨hd1,hd2⟩ := hd
   simp (disch := omega) only [↓RU,RV,RH,↓reduceIte,reduceEqDiff,reduceCtorEq,if_pos,w64,List.append_nil,↓RS,RG,reduceAdd,reduceMul,reduceLeDiff,tyint,hd1,hd2]
   refine hK _ _ ?_;clear hK K
   refine xn ?_
   refine ⟨_,q,false,by omega,fun h9 => (by cases h9),?_,take_all⟩
   simp [Env.put,Env.of,argEnv]
  ·skip
   simp only [Prod.mk.injEq] at hd
   obtain ⟨hd1,hd2⟩ := hd
   simp (disch := omega) only [↓RU,RV,RH,↓reduceIte,reduceEqDiff,reduceCtorEq,if_pos,w64,List.append_nil,↓RS,RG,reduceAdd,reduceMul,reduceLeDiff,tyint,hd1,hd2]
   refine hK _ _ ?_;clear hK K
   refine xn ?_
   refine ⟨_,q,false,by omega,fun h9 => (by cases h9),?_,take_all⟩
   simp [Env.put,Env.of,argEnv]
  ·skip
   simp only [Prod.mk.injEq] at hd
   obtain ⟨hd1,hd2⟩ := hd
   simp (disch := omega) only [↓RU,RV,RH,↓reduceIte,reduceEqDiff,reduceCtorEq,if_pos,w64,List.append_nil,↓RS,RG,reduceAdd,reduceMul,reduceLeDiff,tyint,hd1,hd2]
   refine CallR.ev (pick_ev (q := q) hc (by omega) 2 (by omega) (by omega)) ?_
   rintro _ _ ⟨k1,rfl,-,hk1,rfl⟩
   have hk1b := hk1 (by omega)
   simp (disch := omega) only [↓RU,RV,RH,↓reduceIte,reduceEqDiff,reduceCtorEq,if_pos,w64,List.append_nil,↓RS,RG,reduceAdd,reduceMul,reduceLeDiff,tyint,hd1,hd2]
   refine hK _ _ ?_;clear hK K
   refine xn ?_
   refine ⟨_,q + 1,((k1 : Int) == 0),by omega,fun _ => (by have := beq_iff_eq.1 hd1; omega),?_,take_all⟩
   simp [Env.put,Env.of,argEnv]
 rintro vs S - ⟨qa,b3,hqa,hb3,rfl,rfl⟩
 refine W.cond rfl (fun h3 => ?_) (fun h3 => ?_)
 ·try simp only [RL] at h3
  refine W.r fun K hK => ?_
  simp (disch := omega) only [↓RU,RV,RH,↓reduceIte,reduceEqDiff,reduceCtorEq,if_pos,List.append_nil,↓RS,RG,reduceAdd,reduceMul,reduceLeDiff,ty6,tystring]
  refine CallR.ev (pick_ev (q := qa) hc (by omega) 2 (by omega) (by omega)) ?_
  rintro _ _ ⟨k1,rfl,-,hk1,rfl⟩
  have hk1b := hk1 (by omega)
  simp (disch := omega) only [↓RU,RV,RH,↓reduceIte,reduceEqDiff,reduceCtorEq,if_pos,List.append_nil,↓RS,RG,reduceAdd,reduceMul,reduceLeDiff,ty6,tystring]
  refine CallR.ev (l91Cut_loc (q := qa + 1) (R := []) hc (by omega) wheel3_plan (many := k1) (by omega)) ?_
  rintro _ _ ⟨p2,q2,t2,rfl,hp2,hl2,hq2,rfl⟩
  simp (disch := omega) only [↓RU,RV,RH,↓reduceIte,reduceEqDiff,reduceCtorEq,if_pos,List.append_nil,↓RS,RG,reduceAdd,reduceMul,reduceLeDiff,ty6,tystring]
  refine hK _ _ ?_;clear hK K
  refine W.ret ?_
  refine XThen.ret ?_
  refine Br rfl ?_
  exact ⟨_,p2,q2,t2,rfl,hp2,hl2.trans (hb3 h3).symm,by omega,take_all⟩
 ·try simp only [RL] at h3
  refine W.skip ?_
  refine xn ?_
  refine W.seq ?_
  refine W.join [0,1,2,33] (fun vs S => ∃ (q2 : Nat) (b : Bool),q2 ≤ q + 2 ∧ (b = true → nh = 4) ∧ vs = [.ref 0 vr 0,.int .i64 nh,.int .i64 nw,.bool b] ∧ S = ⟨[.arr vr 147 2 [eBy code,.int .i64 (q2 : Int)]],t⟩) ?_ ?_
  ·
   refine W.k fun K hK => ?_
   rcases hd : (((nh : Int) == 4),((nw : Int) == 4)) with ⟨_ | _,_ | _⟩
   ·skip
    simp only [Prod.mk.injEq] at hd
    obtain ⟨hd1,hd2⟩ := hd
    simp (disch := omega) only [↓RU,RV,RH,↓reduceIte,reduceEqDiff,reduceCtorEq,if_pos,w64,List.append_nil,↓RS,RG,reduceAdd,reduceMul,reduceLeDiff,tyint,hd1,hd2]
    refine hK _ _ ?_;clear hK K
    refine xn ?_
    refine ⟨_,qa,false,by omega,fun h9 => (by cases h9),?_,take_all⟩
    simp [Env.put,Env.of,argEnv]
   ·skip
    simp only [Prod.mk.injEq] at hd
    obtain ⟨hd1,hd2⟩ := hd
    simp (disch := omega) only [↓RU,RV,RH,↓reduceIte,reduceEqDiff,reduceCtorEq,if_pos,w64,List.append_nil,↓RS,RG,reduceAdd,reduceMul,reduceLeDiff,tyint,hd1,hd2]
    refine hK _ _ ?_;clear hK K
    refine xn ?_
    refine ⟨_,qa,false,by omega,fun h9 => (by cases h9),?_,take_all⟩
    simp [Env.put,Env.of,argEnv]
   ·skip
    simp only [Prod.mk.injEq] at hd
    obtain ⟨hd1,hd2⟩ := hd
    simp (disch := omega) only [↓RU,RV,RH,↓reduceIte,reduceEqDiff,reduceCtorEq,if_pos,w64,List.append_nil,↓RS,RG,reduceAdd,reduceMul,reduceLeDiff,tyint,hd1,hd2]
    refine hK _ _ ?_;clear hK K
    refine xn ?_
    refine ⟨_,qa,false,by omega,fun h9 => (by cases h9),?_,take_all⟩
    simp [Env.put,Env.of,argEnv]
   ·skip
    simp only [Prod.mk.injEq] at hd
    obtain ⟨hd1,hd2⟩ := hd
    simp (disch := omega) only [↓RU,RV,RH,↓reduceIte,reduceEqDiff,reduceCtorEq,if_pos,w64,List.append_nil,↓RS,RG,reduceAdd,reduceMul,reduceLeDiff,tyint,hd1,hd2]
    refine CallR.ev (pick_ev (q := qa) hc (by omega) 2 (by omega) (by omega)) ?_
    rintro _ _ ⟨k1,rfl,-,hk1,rfl⟩
    have hk1b := hk1 (by omega)
    simp (disch := omega) only [↓RU,RV,RH,↓reduceIte,reduceEqDiff,reduceCtorEq,if_pos,w64,List.append_nil,↓RS,RG,reduceAdd,reduceMul,reduceLeDiff,tyint,hd1,hd2]
    refine hK _ _ ?_;clear hK K
    refine xn ?_
    refine ⟨_,qa + 1,((k1 : Int) == 0),by omega,fun _ => (by have := beq_iff_eq.1 hd1; omega),?_,take_all⟩
    simp [Env.put,Env.of,argEnv]
  rintro vs S - ⟨qb,b4,hqb,hb4,rfl,rfl⟩
  refine W.cond rfl (fun h4 => ?_) (fun h4 => ?_)
  ·try simp only [RL] at h4
   refine W.r fun K hK => ?_
   simp (disch := omega) only [↓RU,RV,RH,↓reduceIte,reduceEqDiff,reduceCtorEq,if_pos,List.append_nil,↓RS,RG,reduceAdd,reduceMul,reduceLeDiff,ty6,tystring]
   refine CallR.ev (pick_ev (q := qb) hc (by omega) 4 (by omega) (by omega)) ?_
   rintro _ _ ⟨k2,rfl,-,hk2,rfl⟩
   have hk2b := hk2 (by omega)
   simp (disch := omega) only [↓RU,RV,RH,↓reduceIte,reduceEqDiff,reduceCtorEq,if_pos,List.append_nil,↓RS,RG,reduceAdd,reduceMul,reduceLeDiff,ty6,tystring]
   refine CallR.ev (l91Cut_loc (q := qb + 1) (R := []) hc (by omega) wheel4_plan (many := k2) (by omega)) ?_
   rintro _ _ ⟨p2,q2,t2,rfl,hp2,hl2,hq2,rfl⟩
   simp (disch := omega) only [↓RU,RV,RH,↓reduceIte,reduceEqDiff,reduceCtorEq,if_pos,List.append_nil,↓RS,RG,reduceAdd,reduceMul,reduceLeDiff,ty6,tystring]
   refine hK _ _ ?_;clear hK K
   refine W.ret ?_
   refine XThen.ret ?_
   refine Br rfl ?_
   exact ⟨_,p2,q2,t2,rfl,hp2,hl2.trans (hb4 h4).symm,by omega,take_all⟩
  ·try simp only [RL] at h4
   refine W.skip ?_
   refine xn ?_
   refine W.r fun K hK => ?_
   simp (disch := omega) only [↓RU,RV,RH,↓reduceIte,reduceEqDiff,reduceCtorEq,if_pos,List.append_nil,↓RS,RG,reduceAdd,reduceMul,reduceLeDiff]
   refine CallR.pc (l91Empty_pc (nh := nh) (nw := nw) (by omega) (by omega)) rfl (.inl rfl) ?_
   simp (disch := omega) only [↓RU,RV,RH,↓reduceIte,reduceEqDiff,reduceCtorEq,if_pos,List.append_nil,↓RS,RG,reduceAdd,reduceMul,reduceLeDiff]
   refine CallR.ev (pick_ev (q := qb) hc (by omega) 9 (by omega) (by omega)) ?_
   rintro _ _ ⟨k3,rfl,-,hk3,rfl⟩
   have hk3b := hk3 (by omega)
   simp (disch := omega) only [↓RU,RV,RH,↓reduceIte,reduceEqDiff,reduceCtorEq,if_pos,List.append_nil,↓RS,RG,reduceAdd,reduceMul,reduceLeDiff]
   refine CallR.ev (l91Cut_ev (q := qb + 1) (R := []) hc (by omega) (empty_plan h1 h2 w1 w2) (many := k3) (by omega)) ?_
   rintro _ _ ⟨p2,q2,t2,rfl,hp2,hl2,hq2,rfl⟩
   simp (disch := omega) only [↓RU,RV,RH,↓reduceIte,reduceEqDiff,reduceCtorEq,if_pos,List.append_nil,↓RS,RG,reduceAdd,reduceMul,reduceLeDiff]
   refine hK _ _ ?_;clear hK K
   refine W.ret ?_
   refine Br rfl ?_
   exact ⟨_,p2,q2,t2,rfl,hp2,by simpa using hl2,by omega,take_all⟩
theorem sm_set {p : List Txt} (h : Sm p) {i : Nat} {r : Txt} (hr : r.length ≤ 1048576) : Sm (p.set i r) := by
 refine ⟨by rw [List.length_set]; exact h.1,fun x hx => ?_⟩
 rcases List.mem_or_eq_of_mem_set hx with k | rfl
 ·exact h.2 x k
 ·exact hr
theorem set_hd {p : List Txt} {x : Txt} (h : 0 < p.length) : PV.str x :: List.drop 1 (p.map PV.str) = (p.set 0 x).map .str := by cases p with | nil => simp at h | cons a p => simp
theorem one_add {k : Nat} : (1 : Int) + (k : Int) = ((1 + k : Nat) : Int) := by omega
theorem l91Some_ev {code : Txt} {q vr t : Nat} (hc : code.length ≤ 1048576) (hq : q ≤ 700000) {rows cols : Nat} (h1 : 1 ≤ rows) (h2 : rows ≤ 6) (w1 : 1 ≤ cols) (w2 : cols ≤ 6) : Ev Tryz.prog 146 [.ref 0 vr 0,.int .i64 rows,.int .i64 cols] ⟨[.arr vr 147 2 [eBy code,.int .i64 (q : Int)]],t⟩ fun v S => ∃ (p2 : List Txt) (q2 t2 : Nat),v = eStrs p2 ∧ Sm p2 ∧ p2.length ≤ 6 ∧ q2 ≤ q + 200 ∧ S = ⟨[.arr vr 147 2 [eBy code,.int .i64 (q2 : Int)]],t2⟩ := by
 refine Ev.of ⟨Tryz.func146,by kernel_rfl,rfl,by kernel_rfl⟩ tabOk mixed (by show 3 ≤ Tryz.f146.ntmps; decide) ?_
 refine W.r fun K hK => ?_
 simp (disch := omega) only [↓RU,RV,RH,↓reduceIte,reduceEqDiff,reduceCtorEq,if_pos,↓RS,RG,reduceAdd,reduceMul,reduceLeDiff]
 refine hK _ _ ?_;clear hK K
 refine W.r fun K hK => ?_
 simp (disch := omega) only [↓RU,RV,RH,↓reduceIte,reduceEqDiff,reduceCtorEq,if_pos,List.append_nil,w64,↓RS,RG,reduceAdd,reduceMul,reduceLeDiff,tyint]
 refine CallR.ev (pick_ev hc (by omega) (rows : Int) (by omega) (by omega)) ?_
 rintro _ _ ⟨k1,rfl,-,hk1,rfl⟩
 have hk1b := hk1 (by omega)
 simp (disch := omega) only [↓RU,RV,RH,↓reduceIte,reduceEqDiff,reduceCtorEq,if_pos,List.append_nil,w64,↓RS,RG,reduceAdd,reduceMul,reduceLeDiff,tyint,one_add]
 refine hK _ _ ?_;clear hK K
 refine W.r fun K hK => ?_
 simp (disch := omega) only [↓RU,RV,RH,↓reduceIte,reduceEqDiff,reduceCtorEq,if_pos,List.append_nil,w64,↓RS,RG,reduceAdd,reduceMul,reduceLeDiff,tyint]
 refine CallR.ev (pick_ev hc (by omega) (cols : Int) (by omega) (by omega)) ?_
 rintro _ _ ⟨k2,rfl,-,hk2,rfl⟩
 have hk2b := hk2 (by omega)
 simp (disch := omega) only [↓RU,RV,RH,↓reduceIte,reduceEqDiff,reduceCtorEq,if_pos,List.append_nil,w64,↓RS,RG,reduceAdd,reduceMul,reduceLeDiff,tyint,one_add]
 refine CallR.ev (l91Plan_ev (q := q + 1 + 1) hc (by omega) (nh := 1 + k1) (nw := 1 + k2) (by omega) (by omega) (by omega) (by omega)) ?_
 rintro _ _ ⟨p2,q2,t2,rfl,hp2,hl2,hq2,rfl⟩
 simp (disch := omega) only [↓RU,RV,RH,↓reduceIte,reduceEqDiff,reduceCtorEq,if_pos,List.append_nil,w64,↓RS,RG,reduceAdd,reduceMul,reduceLeDiff,tyint]
 refine hK _ _ ?_;clear hK K
 obtain ⟨ps1,ps2,ps3⟩ := plan_small hp2
 have hsm := plan_sm hp2
 obtain ⟨nh,hnh⟩ : ∃ nh : Nat,1 + k1 = nh := ⟨_,rfl⟩
 simp only [hnh] at hl2 ⊢
 refine W.joinZ [8] (fun vs S => ∃ (p3 : List Txt) (q3 tk : Nat),Sm p3 ∧ p3.length ≤ 6 ∧ q3 ≤ q + 200 ∧ vs = [eStrs p3] ∧ S = ⟨[.arr vr 147 2 [eBy code,.int .i64 (q3 : Int)]],tk⟩) ?_ ?_
 ·
  refine W.r fun K hK => ?_
  simp (disch := omega) only [↓RU,RV,RH,↓reduceIte,reduceEqDiff,reduceCtorEq,if_pos,List.append_nil,↓RS,RG,reduceAdd,reduceMul,reduceLeDiff]
  refine CallR.ev (pick_ev hc (by omega) 50 (by omega) (by omega)) ?_
  rintro _ _ ⟨k3,rfl,-,hk3,rfl⟩
  simp (disch := omega) only [↓RU,RV,RH,↓reduceIte,reduceEqDiff,reduceCtorEq,if_pos,List.append_nil,↓RS,RG,reduceAdd,reduceMul,reduceLeDiff]
  refine hK _ _ ?_;clear hK K
  refine W.block ?_
  refine W.r fun K hK => ?_
  simp (disch := omega) only [↓RU,RV,RH,↓reduceIte,reduceEqDiff,reduceCtorEq,if_pos,w64,↓RS,RG,reduceAdd,reduceMul,reduceLeDiff,tyint]
  refine hK _ _ ?_;clear hK K
  refine W.cond rfl (fun h0 => ?_) (fun h0 => ?_)
  ·try simp only [RL] at h0
   obtain ⟨row,hrow,hrm⟩ := get_of (show nh - 1 < p2.length by omega)
   have hr6 := (ps3 row hrm).2
   refine W.r fun K hK => ?_
   simp (disch := omega) only [↓RU,RV,RH,↓reduceIte,reduceEqDiff,reduceCtorEq,if_pos,↓RS,RG,reduceAdd,reduceMul,reduceLeDiff,ty6,tystring]
   refine hK _ _ ?_;clear hK K
   refine W.k fun K hK => ?_
   simp (disch := omega) only [↓RU,RV,RH,↓reduceIte,reduceEqDiff,reduceCtorEq,if_pos,w64,↓RS,RG,reduceAdd,reduceMul,reduceLeDiff,ty6,tyint,tystring,toNat_pred,hrow,pStr,set_spl,set_str,cells_str,List.length_cons,List.length_nil]
   refine hK _ _ ?_;clear hK K
   refine XbN ?_
   refine xn ?_
   have hPs : Sm (p2.set (nh - 1) (row ++ [97])) := sm_set hsm (by simp; omega)
   have hPl : (p2.set (nh - 1) (row ++ [97])).length = p2.length := by simp
   generalize p2.set (nh - 1) (row ++ [97]) = P at hPs hPl ⊢
   have htk : (P.map PV.str).take p2.length = P.map .str := List.take_of_length_le (by simp [hPl])
   refine ⟨1,[eStrs P],⟨[.arr vr 147 2 [eBy code,.int .i64 ((q2 + 1 : Nat) : Int)]],t2 + 1 + 1⟩,?_,?_,P,q2 + 1,t2 + 1 + 1,hPs,by omega,by omega,rfl,rfl⟩
   ·simp [-List.mapM_map,Store.frz,frzObs,frzOb,frz_eInts,frz_loc,rfz_loc,frz_int,frz_sl,frz_ints,rfz_ints,frz_strs,frz_bytes,rfz_bytes,rfz_str,rfz_bool,frz_str,frz_bool,Env.put,Env.of,argEnv,rfz_int,List.mapM_append,List.mapM_cons,frz_ref0,tk_strs,rfz_tstr,htk,hPl]
   ·simp [-List.mapM_map,Store.frz,frzObs,frzOb,frz_eInts,frz_loc,rfz_loc,frz_int,frz_sl,frz_ints,rfz_ints,frz_strs,frz_bytes,rfz_bytes,rfz_str,rfz_bool,frz_str,frz_bool,Env.put,Env.of,argEnv,rfz_int,List.mapM_append,List.mapM_cons,frz_ref0,tk_strs,rfz_tstr]
  ·try simp only [RL] at h0
   refine W.r fun K hK => ?_
   simp (disch := omega) only [↓RU,RV,RH,↓reduceIte,reduceEqDiff,reduceCtorEq,if_pos,w64,↓RS,RG,reduceAdd,reduceMul,reduceLeDiff,tyint]
   refine hK _ _ ?_;clear hK K
   refine W.cond rfl (fun h1 => ?_) (fun h1 => ?_)
   ·try simp only [RL] at h1
    obtain ⟨row,hrow,hrm⟩ := get_of (show 0 < p2.length by omega)
    have hr6 := ps3 row hrm
    have hdl : (row.drop 1).length ≤ 6 := by rw [List.length_drop]; omega
    refine W.r fun K hK => ?_
    simp (disch := omega) only [↓RU,RV,RH,↓reduceIte,reduceEqDiff,reduceCtorEq,if_pos,↓RS,RG,reduceAdd,reduceMul,reduceLeDiff,ty6,tystring]
    refine hK _ _ ?_;clear hK K
    refine W.k fun K hK => ?_
    simp (disch := omega) only [↓RU,RV,RH,↓reduceIte,reduceEqDiff,reduceCtorEq,if_pos,Option.map_none,w64,↓RS,RG,reduceAdd,reduceMul,reduceLeDiff,ty6,tystring,hrow,pStr,set_spl,set_str,cells_str,List.length_cons,List.length_nil,Int.toNat_zero,Int.reduceToNat,List.take_length,Nat.zero_mul,Nat.zero_add]
    refine hK _ _ ?_;clear hK K
    rw [set_hd (show 0 < p2.length by omega)]
    refine XbN ?_
    refine xn ?_
    have hPs : Sm (p2.set 0 (122 :: row.drop 1)) := sm_set hsm (by simp; omega)
    have hPl : (p2.set 0 (122 :: row.drop 1)).length = p2.length := by simp
    generalize p2.set 0 (122 :: row.drop 1) = P at hPs hPl ⊢
    have htk : (P.map PV.str).take p2.length = P.map .str := List.take_of_length_le (by simp [hPl])
    refine ⟨1,[eStrs P],⟨[.arr vr 147 2 [eBy code,.int .i64 ((q2 + 1 : Nat) : Int)]],t2 + 1 + 1⟩,?_,?_,P,q2 + 1,t2 + 1 + 1,hPs,by omega,by omega,rfl,rfl⟩
    ·simp [-List.mapM_map,Store.frz,frzObs,frzOb,frz_eInts,frz_loc,rfz_loc,frz_int,frz_sl,frz_ints,rfz_ints,frz_strs,frz_bytes,rfz_bytes,rfz_str,rfz_bool,frz_str,frz_bool,Env.put,Env.of,argEnv,rfz_int,List.mapM_append,List.mapM_cons,frz_ref0,tk_strs,rfz_tstr,htk,hPl]
    ·simp [-List.mapM_map,Store.frz,frzObs,frzOb,frz_eInts,frz_loc,rfz_loc,frz_int,frz_sl,frz_ints,rfz_ints,frz_strs,frz_bytes,rfz_bytes,rfz_str,rfz_bool,frz_str,frz_bool,Env.put,Env.of,argEnv,rfz_int,List.mapM_append,List.mapM_cons,frz_ref0,tk_strs,rfz_tstr]
   ·try simp only [RL] at h1
    refine W.skip ?_
    refine XbN ?_
    refine xn ?_
    have hPs := hsm
    have hPl : p2.length = p2.length := rfl
    have htk : True := trivial
    refine ⟨1,[eStrs p2],⟨[.arr vr 147 2 [eBy code,.int .i64 ((q2 + 1 : Nat) : Int)]],t2⟩,?_,?_,p2,q2 + 1,t2,hPs,by omega,by omega,rfl,rfl⟩
    ·simp [-List.mapM_map,Store.frz,frzObs,frzOb,frz_eInts,frz_loc,rfz_loc,frz_int,frz_sl,frz_ints,rfz_ints,frz_strs,frz_bytes,rfz_bytes,rfz_str,rfz_bool,frz_str,frz_bool,Env.put,Env.of,argEnv,rfz_int,List.mapM_append,List.mapM_cons,frz_ref0,tk_strs,rfz_tstr,htk,hPl]
    ·simp [-List.mapM_map,Store.frz,frzObs,frzOb,frz_eInts,frz_loc,rfz_loc,frz_int,frz_sl,frz_ints,rfz_ints,frz_strs,frz_bytes,rfz_bytes,rfz_str,rfz_bool,frz_str,frz_bool,Env.put,Env.of,argEnv,rfz_int,List.mapM_append,List.mapM_cons,frz_ref0,tk_strs,rfz_tstr]
 rintro vs S - ⟨p3,q3,tk,hs3,hl3,hq3,rfl,rfl⟩
 refine W.r fun K hK => ?_
 simp (disch := omega) only [↓RU,RV,RH,↓reduceIte,reduceEqDiff,reduceCtorEq,if_pos,↓RS,RG,reduceAdd,reduceMul,reduceLeDiff]
 refine hK _ _ ?_;clear hK K
 refine W.ret ?_
 refine Br rfl ?_
 exact ⟨_,p3,q3,tk,rfl,hs3,hl3,hq3,take_all⟩
theorem l91Plain_ev {code : Txt} {q vr t : Nat} (hc : code.length ≤ 1048576) (hq : q ≤ 600000) {rows cols : Nat} (h1 : 1 ≤ rows) (h2 : rows ≤ 6) (w1 : 1 ≤ cols) (w2 : cols ≤ 6) : Ev Tryz.prog 96 [.ref 0 vr 0,.int .i64 rows,.int .i64 cols] ⟨[.arr vr 147 2 [eBy code,.int .i64 (q : Int)]],t⟩ fun v S => ∃ (p2 : List Txt) (q2 t2 : Nat),v = eStrs p2 ∧ Sm p2 ∧ p2.length ≤ 6 ∧ q2 ≤ q + 1000 ∧ S = ⟨[.arr vr 147 2 [eBy code,.int .i64 (q2 : Int)]],t2⟩ := by
 refine Ev.of ⟨Tryz.func96,by kernel_rfl,rfl,by kernel_rfl⟩ tabOk mixed (by show 3 ≤ Tryz.f96.ntmps; decide) ?_
 refine W.r fun K hK => ?_
 simp (disch := omega) only [↓RU,RV,RH,↓reduceIte,reduceEqDiff,reduceCtorEq,if_pos,↓RS,RG,reduceAdd,reduceMul,reduceLeDiff]
 refine hK _ _ ?_;clear hK K
 refine W.r fun K hK => ?_
 simp (disch := omega) only [↓RU,RV,RH,↓reduceIte,reduceEqDiff,reduceCtorEq,if_pos,List.append_nil,↓RS,RG,reduceAdd,reduceMul,reduceLeDiff]
 refine CallR.ev (l91Some_ev (q := q) hc (by omega) h1 h2 w1 w2) ?_
 rintro _ _ ⟨p3,q3,t3,rfl,hs3,hl3,hq3,rfl⟩
 simp (disch := omega) only [↓RU,RV,RH,↓reduceIte,reduceEqDiff,reduceCtorEq,if_pos,List.append_nil,↓RS,RG,reduceAdd,reduceMul,reduceLeDiff]
 refine hK _ _ ?_;clear hK K
 refine W.seq ?_
 refine W.r fun K hK => ?_
 simp (disch := omega) only [↓RU,RV,RH,↓reduceIte,reduceEqDiff,reduceCtorEq,if_pos,↓RS,RG,reduceAdd,reduceMul,reduceLeDiff]
 refine hK _ _ ?_;clear hK K
 refine W.block ?_
 refine W.loop [0,1,2,7,8] (fun n vs S => ∃ (i : Nat) (p2 : List Txt) (q2 tk : Nat),n = 3 - i ∧ i ≤ 3 ∧ Sm p2 ∧ p2.length ≤ 6 ∧ q2 ≤ q + 200 + 200 * i ∧ vs = [.ref 0 vr 0,.int .i64 rows,.int .i64 cols,eStrs p2,.int .i64 i] ∧ S = ⟨[.arr vr 147 2 [eBy code,.int .i64 (q2 : Int)]],tk⟩) 3 ?_ ?_
 ·refine ⟨1,0,p3,q3,t3,rfl,by omega,hs3,hl3,by omega,?_,rfl⟩
  simp [Env.put,Env.of,argEnv]
 rintro n vs S - ⟨i,p2,q2,tk,rfl,h_i,hs2,hl2,hq2,rfl,rfl⟩
 refine W.seq ?_
 refine W.r fun K hK => ?_
 by_cases hi3 : i < 3
 ·skip
  have hd : decide ((i : Int) < 3) = true := decide_eq_true (by omega)
  simp (disch := omega) only [↓RU,RV,RH,↓reduceIte,reduceEqDiff,reduceCtorEq,if_pos,w64,List.append_nil,↓RS,RG,reduceAdd,reduceMul,reduceLeDiff,tyint,hd]
  refine CallR.pc (sWallPlain_pc hs2) rfl (.inl rfl) ?_
  simp (disch := omega) only [↓RU,RV,RH,↓reduceIte,reduceEqDiff,reduceCtorEq,if_pos,w64,List.append_nil,↓RS,RG,reduceAdd,reduceMul,reduceLeDiff,tyint,hd]
  refine hK _ _ ?_;clear hK K
  refine W.cond rfl (fun h => ?_) (fun h => ?_)
  ·try simp only [RL] at h
   refine W.skip ?_
   refine xn ?_
   refine W.seq ?_
   refine W.block ?_
   refine W.k fun K hK => ?_
   simp (disch := omega) only [↓RU,RV,RH,↓reduceIte,reduceEqDiff,reduceCtorEq,if_pos,List.append_nil,↓RS,RG,reduceAdd,reduceMul,reduceLeDiff]
   refine CallR.ev (l91Some_ev (q := q2) hc (by omega) h1 h2 w1 w2) ?_
   rintro _ _ ⟨p3,q3,t3,rfl,hs3,hl3,hq3,rfl⟩
   simp (disch := omega) only [↓RU,RV,RH,↓reduceIte,reduceEqDiff,reduceCtorEq,if_pos,List.append_nil,↓RS,RG,reduceAdd,reduceMul,reduceLeDiff]
   refine hK _ _ ?_;clear hK K
   refine XbN ?_
   refine xn ?_
   refine W.k fun K hK => ?_
   simp (disch := omega) only [↓RU,RV,RH,↓reduceIte,reduceEqDiff,reduceCtorEq,if_pos,w64,↓RS,RG,reduceAdd,reduceMul,reduceLeDiff,tyint]
   refine hK _ _ ?_;clear hK K
   refine xn ?_
   refine ⟨3 - (i + 1),by omega,1,i + 1,p3,q3,t3,rfl,by omega,hs3,hl3,by omega,?_,rfl⟩
   simp [Env.put,Env.of]
  ·try simp only [RL] at h
   refine W.exit ?_
   refine xe ?_
   refine xe ?_
   refine XBlock.hit ?_
   refine xn ?_
   refine W.r fun K hK => ?_
   simp (disch := omega) only [↓RU,RV,RH,↓reduceIte,reduceEqDiff,reduceCtorEq,if_pos,↓RS,RG,reduceAdd,reduceMul,reduceLeDiff]
   refine hK _ _ ?_;clear hK K
   refine W.ret ?_
   refine Br rfl ?_
   exact ⟨_,p2,q2,tk,rfl,hs2,hl2,by omega,take_all⟩
 ·skip
  have hd : decide ((i : Int) < 3) = false := decide_eq_false (by omega)
  simp (disch := omega) only [↓RU,RV,RH,↓reduceIte,reduceEqDiff,reduceCtorEq,if_pos,w64,List.append_nil,↓RS,RG,reduceAdd,reduceMul,reduceLeDiff,tyint,hd]
  refine hK _ _ ?_;clear hK K
  refine W.cond rfl (fun h => ?_) (fun h => ?_)
  ·try simp only [RL] at h
   exact absurd h (by simp)
  ·try simp only [RL] at h
   refine W.exit ?_
   refine xe ?_
   refine xe ?_
   refine XBlock.hit ?_
   refine xn ?_
   refine W.r fun K hK => ?_
   simp (disch := omega) only [↓RU,RV,RH,↓reduceIte,reduceEqDiff,reduceCtorEq,if_pos,↓RS,RG,reduceAdd,reduceMul,reduceLeDiff]
   refine hK _ _ ?_;clear hK K
   refine W.ret ?_
   refine Br rfl ?_
   exact ⟨_,p2,q2,tk,rfl,hs2,hl2,by omega,take_all⟩
theorem tdiv39 {k : Nat} : ((k : Nat) : Int).tdiv 39 = ((k / 39 : Nat) : Int) := (Int.ofNat_tdiv k 39).symm
theorem tdiv59 {k : Nat} : ((k : Nat) : Int).tdiv 59 = ((k / 59 : Nat) : Int) := (Int.ofNat_tdiv k 59).symm
theorem tw39 : ((39 : Int) = 0) = False := by simp
theorem tw59 : ((59 : Int) = 0) = False := by simp
theorem tk_ints {l : List Int} {q : IntKind} : (l.map (PV.int q)).take l.length = l.map (.int q) := List.take_of_length_le (by simp)
theorem tk_i {l : List Int} {q : IntKind} {i : Nat} (h : l.length = i) : (l.map (PV.int q)).take i = l.map (.int q) := List.take_of_length_le (by simp [h])
theorem l92Needs_ev {code : Txt} {q vr t : Nat} (hc : code.length ≤ 1048576) (hq : q ≤ 700000) {p : List Txt} (hs : Sm p) : Ev Tryz.prog 107 [.ref 0 vr 0,eStrs p] ⟨[.arr vr 147 2 [eBy code,.int .i64 (q : Int)]],t⟩ fun v S => ∃ (l : List Int) (q2 t2 v1 : Nat),v = .loc 1 v1 0 l.length ∧ l.length ≤ 400 ∧ q2 ≤ q + 1000 ∧ S = ⟨[.arr vr 147 2 [eBy code,.int .i64 (q2 : Int)],.arr v1 3 1 (l.map (.int .i64))],t2⟩ := by
 have hrb := l1Rooms_bound p
 refine Ev.of ⟨Tryz.func107,by kernel_rfl,rfl,by kernel_rfl⟩ tabOk mixed (by show 2 ≤ Tryz.f107.ntmps; decide) ?_
 refine W.r fun K hK => ?_
 simp (disch := omega) only [↓RU,RV,RH,↓reduceIte,reduceEqDiff,reduceCtorEq,if_pos,↓RS,RG,reduceAdd,reduceMul,reduceLeDiff]
 refine hK _ _ ?_;clear hK K
 refine W.r fun K hK => ?_
 simp (disch := omega) only [↓RU,RV,RH,↓reduceIte,reduceEqDiff,reduceCtorEq,if_pos,↓RS,RG,reduceAdd,reduceMul,reduceLeDiff,tyLint,tyint]
 refine hK _ _ ?_;clear hK K
 refine W.r fun K hK => ?_
 simp (disch := omega) only [↓RU,RV,RH,↓reduceIte,reduceEqDiff,reduceCtorEq,if_pos,List.append_nil,w64,↓RS,RG,reduceAdd,reduceMul,reduceLeDiff,tyint]
 refine CallR.pc (l1Rooms_pc hs) rfl (.inl rfl) ?_
 simp (disch := omega) only [↓RU,RV,RH,↓reduceIte,reduceEqDiff,reduceCtorEq,if_pos,List.append_nil,w64,↓RS,RG,reduceAdd,reduceMul,reduceLeDiff,tyint]
 refine CallR.ev (pick_ev (q := q) hc (by omega) 40 (by omega) (by omega)) ?_
 rintro _ _ ⟨k0,rfl,hk0z,hk0,rfl⟩
 have hk0b := hk0 (by omega)
 simp (disch := omega) only [↓RU,RV,RH,↓reduceIte,reduceEqDiff,reduceCtorEq,if_pos,List.append_nil,w64,↓RS,RG,reduceAdd,reduceMul,reduceLeDiff,tyint,tdiv39,tw39,tdiv59,tw59]
 refine hK _ _ ?_;clear hK K
 obtain ⟨N,hN⟩ : ∃ N : Nat,l1Rooms p + ((k0 / 39 : Nat) : Int) = N := ⟨(l1Rooms p + ((k0 / 39 : Nat) : Int)).toNat,by omega⟩
 have hN2 : N ≤ 300 := by omega
 simp only [hN]
 refine W.seq ?_
 refine W.r fun K hK => ?_
 simp (disch := omega) only [↓RU,RV,RH,↓reduceIte,reduceEqDiff,reduceCtorEq,if_pos,↓RS,RG,reduceAdd,reduceMul,reduceLeDiff]
 refine hK _ _ ?_;clear hK K
 refine W.block ?_
 refine W.loop [0,1,5,6,7] (fun n vs S => ∃ (i q2 v1 t2 : Nat) (l : List Int),n = N - i ∧ i ≤ N ∧ l.length = i ∧ q2 ≤ q + 1 + 2 * i ∧ vs = [.ref 0 vr 0,eStrs p,.loc 1 v1 0 i,.int .i64 N,.int .i64 i] ∧ S = ⟨[.arr vr 147 2 [eBy code,.int .i64 (q2 : Int)],.arr v1 3 1 (l.map (.int .i64))],t2⟩) N ?_ ?_
 ·refine ⟨2,0,q + 1,t,t + 1,[],rfl,by omega,rfl,by omega,?_,rfl⟩
  simp [Env.put,Env.of,argEnv]
 rintro n vs S - ⟨i,q2,v1,t2,l,rfl,h_i,hll,hq2,rfl,rfl⟩
 refine W.seq ?_
 refine W.r fun K hK => ?_
 simp (disch := omega) only [↓RU,RV,RH,↓reduceIte,reduceEqDiff,reduceCtorEq,if_pos,w64,↓RS,RG,reduceAdd,reduceMul,reduceLeDiff,tyint]
 refine hK _ _ ?_;clear hK K
 refine W.cond rfl (fun h => ?_) (fun h => ?_)
 ·try simp only [RL] at h
  refine W.skip ?_
  refine xn ?_
  refine W.seq ?_
  refine W.block ?_
  refine W.k fun K hK => ?_
  simp (disch := omega) only [↓RU,RV,RH,↓reduceIte,reduceEqDiff,reduceCtorEq,if_pos,List.append_nil,w64,↓RS,RG,reduceAdd,reduceMul,reduceLeDiff,tyLint,tyint,tk_i hll]
  refine CallR.ev (pick_ev (q := q2) hc (by omega) 6 (by omega) (by omega)) ?_
  rintro _ _ ⟨k1,rfl,hk1z,hk1,rfl⟩
  have hk1b := hk1 (by omega)
  simp (disch := omega) only [↓RU,RV,RH,↓reduceIte,reduceEqDiff,reduceCtorEq,if_pos,List.append_nil,w64,↓RS,RG,reduceAdd,reduceMul,reduceLeDiff,tyLint,tyint,tk_i hll,tdiv39,tw39,tdiv59,tw59]
  refine CallR.ev (pick_ev (q := q2 + 1) hc (by omega) 60 (by omega) (by omega)) ?_
  rintro _ _ ⟨k2,rfl,hk2z,hk2,rfl⟩
  have hk2b := hk2 (by omega)
  simp (disch := omega) only [↓RU,RV,RH,↓reduceIte,reduceEqDiff,reduceCtorEq,if_pos,List.append_nil,w64,↓RS,RG,reduceAdd,reduceMul,reduceLeDiff,tyLint,tyint,tk_i hll,tdiv39,tw39,tdiv59,tw59]
  refine hK _ _ ?_;clear hK K
  refine XbN ?_
  refine xn ?_
  refine W.k fun K hK => ?_
  simp (disch := omega) only [↓RU,RV,RH,↓reduceIte,reduceEqDiff,reduceCtorEq,if_pos,w64,↓RS,RG,reduceAdd,reduceMul,reduceLeDiff,tyint]
  refine hK _ _ ?_;clear hK K
  refine xn ?_
  refine ⟨N - (i + 1),by omega,2,i + 1,q2 + 1 + 1,t2 + 1,t2 + 2,l ++ [1 + (k1 : Int) + ((k2 / 59 : Nat) : Int) * 9],rfl,by omega,by simp [hll],by omega,?_,?_⟩
  all_goals simp [Env.put,Env.of,take_eq,tk_le,hll,tk_i hll]
 ·try simp only [RL] at h
  obtain rfl : i = N := by omega
  refine W.exit ?_
  refine xe ?_
  refine xe ?_
  refine XBlock.hit ?_
  refine xn ?_
  refine W.r fun K hK => ?_
  simp (disch := omega) only [↓RU,RV,RH,↓reduceIte,reduceEqDiff,reduceCtorEq,if_pos,↓RS,RG,reduceAdd,reduceMul,reduceLeDiff]
  refine hK _ _ ?_;clear hK K
  refine W.ret ?_
  refine Br rfl ?_
  exact ⟨_,l,q2,t2,v1,by rw [hll]; rfl,by omega,by omega,take_all⟩
theorem l92Sized_ev {code : Txt} (hc : code.length ≤ 1048576) : Ev Tryz.prog 54 [eBy code] ⟨[],0⟩ fun v S => ∃ (p : List Txt) (ws : List Int) (t : Nat),Sm p ∧ ws.length ≤ 400 ∧ v = .tup [eStrs p,eInts ws] ∧ S = ⟨[],t⟩ := by
 refine Ev.of ⟨Tryz.func54,by kernel_rfl,rfl,by kernel_rfl⟩ tabOk mixed (by show 1 ≤ Tryz.f54.ntmps; decide) ?_
 refine W.r fun K hK => ?_
 simp (disch := omega) only [↓RU,RV,RH,↓reduceIte,reduceEqDiff,reduceCtorEq,if_pos,↓RS,RG,reduceAdd,reduceMul,reduceLeDiff]
 refine hK _ _ ?_;clear hK K
 refine W.r fun K hK => ?_
 simp (disch := omega) only [↓RU,RV,RH,↓reduceIte,reduceEqDiff,reduceCtorEq,if_pos,List.append_nil,↓RS,RG,reduceAdd,reduceMul,reduceLeDiff,rdO]
 refine CallR.pn (l6Open_pn hc) rfl (.inr rfl) ?_
 simp (disch := omega) only [↓RU,RV,RH,↓reduceIte,reduceEqDiff,reduceCtorEq,if_pos,List.append_nil,↓RS,RG,reduceAdd,reduceMul,reduceLeDiff,rdO,rdO,RN]
 refine hK _ _ ?_;clear hK K
 refine W.r fun K hK => ?_
 have hc2 : (code.take 2000).length ≤ 1048576 := by rw [List.length_take]; omega
 generalize code.take 2000 = code2 at hc2 ⊢
 simp (disch := omega) only [↓RU,RV,RH,↓reduceIte,reduceEqDiff,reduceCtorEq,if_pos,List.append_nil,↓RS,RG,reduceAdd,reduceMul,reduceLeDiff]
 refine CallR.ev (l91Plain_ev (q := 0) (code := code2) hc2 (by omega) (rows := 5) (cols := 5) (by omega) (by omega) (by omega) (by omega)) ?_
 rintro _ _ ⟨p,q,t,rfl,hs,hl,hq,rfl⟩
 simp (disch := omega) only [↓RU,RV,RH,↓reduceIte,reduceEqDiff,reduceCtorEq,if_pos,List.append_nil,↓RS,RG,reduceAdd,reduceMul,reduceLeDiff]
 refine hK _ _ ?_;clear hK K
 refine W.joinZ [2,3] (fun vs S => ∃ (ws : List Int) (tk : Nat),ws.length ≤ 400 ∧ vs = [eStrs p,eInts ws] ∧ S = ⟨[],tk⟩) ?_ ?_
 ·
  refine W.k fun K hK => ?_
  simp (disch := omega) only [↓RU,RV,RH,↓reduceIte,reduceEqDiff,reduceCtorEq,if_pos,List.append_nil,↓RS,RG,reduceAdd,reduceMul,reduceLeDiff]
  refine CallR.ev (l92Needs_ev (q := q) hc2 (by omega) hs) ?_
  rintro _ _ ⟨ws,q2,t2,v1,rfl,hwsl,hq2,rfl⟩
  simp (disch := omega) only [↓RU,RV,RH,↓reduceIte,reduceEqDiff,reduceCtorEq,if_pos,List.append_nil,↓RS,RG,reduceAdd,reduceMul,reduceLeDiff]
  refine hK _ _ ?_;clear hK K
  refine xn ?_
  refine ⟨0,[eStrs p,eInts ws],⟨[],t2⟩,?_,?_,ws,t2,hwsl,rfl,rfl⟩
  ·simp [-List.mapM_map,Store.frz,frzObs,frzOb,frz_eInts,frz_loc,rfz_loc,frz_int,frz_sl,frz_ints,rfz_ints,frz_strs,frz_bytes,rfz_bytes,rfz_str,rfz_bool,frz_str,frz_bool,Env.put,Env.of,argEnv,rfz_int,List.mapM_append,List.mapM_cons,frz_ref0,tk_strs,rfz_tstr,tk_ints,← frz_eInts]
  ·simp [-List.mapM_map,Store.frz,frzObs,frzOb,frz_eInts,frz_loc,rfz_loc,frz_int,frz_sl,frz_ints,rfz_ints,frz_strs,frz_bytes,rfz_bytes,rfz_str,rfz_bool,frz_str,frz_bool,Env.put,Env.of,argEnv,rfz_int,List.mapM_append,List.mapM_cons,frz_ref0,tk_strs,rfz_tstr,tk_ints]
 rintro vs S - ⟨ws,tk,hwsl,rfl,rfl⟩
 refine W.ret ?_
 refine Br rfl ?_
 exact ⟨0,p,ws,tk,hs,hwsl,rfl,rfl⟩
theorem l92Shaped_ev {code : Txt} (hc : code.length ≤ 1048576) : Ev Tryz.prog 102 [eBy code] ⟨[],0⟩ fun v S => ∃ (p : List Txt) (ws ht : List Int) (t : Nat),Sm p ∧ ws.length ≤ 400 ∧ ht.length ≤ 400 ∧ v = .tup [eStrs p,eInts ws,eInts ht] ∧ S = ⟨[],t⟩ := by
 refine Ev.of ⟨Tryz.func102,by kernel_rfl,rfl,by kernel_rfl⟩ tabOk mixed (by show 1 ≤ Tryz.f102.ntmps; decide) ?_
 refine W.r fun K hK => ?_
 simp (disch := omega) only [↓RU,RV,RH,↓reduceIte,reduceEqDiff,reduceCtorEq,if_pos,↓RS,RG,reduceAdd,reduceMul,reduceLeDiff]
 refine hK _ _ ?_;clear hK K
 refine W.r fun K hK => ?_
 simp (disch := omega) only [↓RU,RV,RH,↓reduceIte,reduceEqDiff,reduceCtorEq,if_pos,List.append_nil,↓RS,RG,reduceAdd,reduceMul,reduceLeDiff,rdO]
 refine CallR.pn (l6Open_pn hc) rfl (.inr rfl) ?_
 simp (disch := omega) only [↓RU,RV,RH,↓reduceIte,reduceEqDiff,reduceCtorEq,if_pos,List.append_nil,↓RS,RG,reduceAdd,reduceMul,reduceLeDiff,rdO,rdO,RN]
 refine hK _ _ ?_;clear hK K
 refine W.r fun K hK => ?_
 have hc2 : (code.take 2000).length ≤ 1048576 := by rw [List.length_take]; omega
 generalize code.take 2000 = code2 at hc2 ⊢
 simp (disch := omega) only [↓RU,RV,RH,↓reduceIte,reduceEqDiff,reduceCtorEq,if_pos,List.append_nil,↓RS,RG,reduceAdd,reduceMul,reduceLeDiff]
 refine CallR.ev (l91Plain_ev (q := 0) (code := code2) hc2 (by omega) (rows := 3) (cols := 4) (by omega) (by omega) (by omega) (by omega)) ?_
 rintro _ _ ⟨p,q,t,rfl,hs,hl,hq,rfl⟩
 simp (disch := omega) only [↓RU,RV,RH,↓reduceIte,reduceEqDiff,reduceCtorEq,if_pos,List.append_nil,↓RS,RG,reduceAdd,reduceMul,reduceLeDiff]
 refine hK _ _ ?_;clear hK K
 refine W.seq ?_
 refine W.r fun K hK => ?_
 simp (disch := omega) only [↓RU,RV,RH,↓reduceIte,reduceEqDiff,reduceCtorEq,if_pos,↓RS,RG,reduceAdd,reduceMul,reduceLeDiff]
 refine hK _ _ ?_;clear hK K
 refine W.block ?_
 refine W.loop [5,6,7] (fun n vs S => ∃ (i : Nat) (p2 : List Txt) (q2 tk : Nat),n = 3 - i ∧ i ≤ 3 ∧ Sm p2 ∧ q2 ≤ 1000 + 1000 * i ∧ vs = [.ref 0 0 0,eStrs p2,.int .i64 i] ∧ S = ⟨[.arr 0 147 2 [eBy code2,.int .i64 (q2 : Int)]],tk⟩) 3 ?_ ?_
 ·refine ⟨1,0,p,q,t,rfl,by omega,hs,by omega,?_,rfl⟩
  simp [Env.put,Env.of,argEnv]
 rintro n vs S - ⟨i,p2,q2,tk,rfl,h_i,hs2,hq2,rfl,rfl⟩
 refine W.seq ?_
 refine W.r fun K hK => ?_
 by_cases hi3 : i < 3
 ·skip
  have hd : decide ((i : Int) < 3) = true := decide_eq_true (by omega)
  simp (disch := omega) only [↓RU,RV,RH,↓reduceIte,reduceEqDiff,reduceCtorEq,if_pos,w64,List.append_nil,↓RS,RG,reduceAdd,reduceMul,reduceLeDiff,tyint,hd]
  refine CallR.pc (l1Rooms_pc hs2) rfl (.inl rfl) ?_
  simp (disch := omega) only [↓RU,RV,RH,↓reduceIte,reduceEqDiff,reduceCtorEq,if_pos,w64,List.append_nil,↓RS,RG,reduceAdd,reduceMul,reduceLeDiff,tyint,hd]
  refine hK _ _ ?_;clear hK K
  refine W.cond rfl (fun h => ?_) (fun h => ?_)
  ·try simp only [RL] at h
   refine W.skip ?_
   refine xn ?_
   refine W.seq ?_
   refine W.block ?_
   refine W.k fun K hK => ?_
   simp (disch := omega) only [↓RU,RV,RH,↓reduceIte,reduceEqDiff,reduceCtorEq,if_pos,List.append_nil,↓RS,RG,reduceAdd,reduceMul,reduceLeDiff]
   refine CallR.ev (l91Plain_ev (q := q2) (code := code2) hc2 (by omega) (rows := 3) (cols := 3) (by omega) (by omega) (by omega) (by omega)) ?_
   rintro _ _ ⟨p3,q3,t3,rfl,hs3,hl3,hq3,rfl⟩
   simp (disch := omega) only [↓RU,RV,RH,↓reduceIte,reduceEqDiff,reduceCtorEq,if_pos,List.append_nil,↓RS,RG,reduceAdd,reduceMul,reduceLeDiff]
   refine hK _ _ ?_;clear hK K
   refine XbN ?_
   refine xn ?_
   refine W.k fun K hK => ?_
   simp (disch := omega) only [↓RU,RV,RH,↓reduceIte,reduceEqDiff,reduceCtorEq,if_pos,w64,↓RS,RG,reduceAdd,reduceMul,reduceLeDiff,tyint]
   refine hK _ _ ?_;clear hK K
   refine xn ?_
   have hq9 : q3 ≤ 1000 + 1000 * (i + 1) := Nat.le_trans hq3 (Nat.le_trans (Nat.add_le_add_right hq2 1000) (Nat.le_of_eq (by rw [Nat.mul_succ,Nat.add_assoc])))
   refine ⟨3 - (i + 1),by omega,1,i + 1,p3,q3,t3,rfl,by omega,hs3,hq9,?_,rfl⟩
   simp [Env.put,Env.of]
  ·try simp only [RL] at h
   refine W.exit ?_
   refine xe ?_
   refine xe ?_
   refine XBlock.hit ?_
   refine xn ?_
   refine W.joinZ [5,6,8] (fun vs S => ∃ (ws : List Int) (q3 tk : Nat),ws.length ≤ 400 ∧ q3 ≤ 6000 ∧ vs = [.ref 0 0 0,eStrs p2,eInts ws] ∧ S = ⟨[.arr 0 147 2 [eBy code2,.int .i64 (q3 : Int)]],tk⟩) ?_ ?_
   ·
    refine W.k fun K hK => ?_
    simp (disch := omega) only [↓RU,RV,RH,↓reduceIte,reduceEqDiff,reduceCtorEq,if_pos,List.append_nil,↓RS,RG,reduceAdd,reduceMul,reduceLeDiff]
    refine CallR.ev (l92Needs_ev (q := q2) hc2 (by omega) hs2) ?_
    rintro _ _ ⟨ws,qa,ta,v1,rfl,hwsl,hqa,rfl⟩
    simp (disch := omega) only [↓RU,RV,RH,↓reduceIte,reduceEqDiff,reduceCtorEq,if_pos,List.append_nil,↓RS,RG,reduceAdd,reduceMul,reduceLeDiff]
    refine hK _ _ ?_;clear hK K
    refine xn ?_
    refine ⟨1,[.ref 0 0 0,eStrs p2,eInts ws],⟨[.arr 0 147 2 [eBy code2,.int .i64 (qa : Int)]],ta⟩,?_,?_,ws,qa,ta,hwsl,by omega,rfl,rfl⟩
    ·simp [-List.mapM_map,Store.frz,frzObs,frzOb,frz_eInts,frz_loc,rfz_loc,frz_int,frz_sl,frz_ints,rfz_ints,frz_strs,frz_bytes,rfz_bytes,rfz_str,rfz_bool,frz_str,frz_bool,Env.put,Env.of,argEnv,rfz_int,List.mapM_append,List.mapM_cons,frz_ref0,tk_strs,rfz_tstr,tk_ints,← frz_eInts]
    ·simp [-List.mapM_map,Store.frz,frzObs,frzOb,frz_eInts,frz_loc,rfz_loc,frz_int,frz_sl,frz_ints,rfz_ints,frz_strs,frz_bytes,rfz_bytes,rfz_str,rfz_bool,frz_str,frz_bool,Env.put,Env.of,argEnv,rfz_int,List.mapM_append,List.mapM_cons,frz_ref0,tk_strs,rfz_tstr,tk_ints]
   rintro vs S - ⟨ws,qb,tk,hwsl,hqb,rfl,rfl⟩
   refine W.joinZ [2,3,4] (fun vs S => ∃ (ht : List Int) (tk : Nat),ht.length ≤ 400 ∧ vs = [eStrs p2,eInts ws,eInts ht] ∧ S = ⟨[],tk⟩) ?_ ?_
   ·
    refine W.k fun K hK => ?_
    simp (disch := omega) only [↓RU,RV,RH,↓reduceIte,reduceEqDiff,reduceCtorEq,if_pos,List.append_nil,↓RS,RG,reduceAdd,reduceMul,reduceLeDiff]
    refine CallR.ev (l92Needs_ev (q := qb) hc2 (by omega) hs2) ?_
    rintro _ _ ⟨ht,qc,tc,v2,rfl,hhtl,hqc,rfl⟩
    simp (disch := omega) only [↓RU,RV,RH,↓reduceIte,reduceEqDiff,reduceCtorEq,if_pos,List.append_nil,↓RS,RG,reduceAdd,reduceMul,reduceLeDiff]
    refine hK _ _ ?_;clear hK K
    refine xn ?_
    refine ⟨0,[eStrs p2,eInts ws,eInts ht],⟨[],tc⟩,?_,?_,ht,tc,hhtl,rfl,rfl⟩
    ·simp [-List.mapM_map,Store.frz,frzObs,frzOb,frz_eInts,frz_loc,rfz_loc,frz_int,frz_sl,frz_ints,rfz_ints,frz_strs,frz_bytes,rfz_bytes,rfz_str,rfz_bool,frz_str,frz_bool,Env.put,Env.of,argEnv,rfz_int,List.mapM_append,List.mapM_cons,frz_ref0,tk_strs,rfz_tstr,tk_ints,← frz_eInts]
    ·simp [-List.mapM_map,Store.frz,frzObs,frzOb,frz_eInts,frz_loc,rfz_loc,frz_int,frz_sl,frz_ints,rfz_ints,frz_strs,frz_bytes,rfz_bytes,rfz_str,rfz_bool,frz_str,frz_bool,Env.put,Env.of,argEnv,rfz_int,List.mapM_append,List.mapM_cons,frz_ref0,tk_strs,rfz_tstr,tk_ints]
   rintro vs S - ⟨ht,tk,hhtl,rfl,rfl⟩
   refine W.ret ?_
   refine Br rfl ?_
   exact ⟨0,p2,ws,ht,tk,hs2,hwsl,hhtl,rfl,rfl⟩
 ·skip
  have hd : decide ((i : Int) < 3) = false := decide_eq_false (by omega)
  simp (disch := omega) only [↓RU,RV,RH,↓reduceIte,reduceEqDiff,reduceCtorEq,if_pos,w64,List.append_nil,↓RS,RG,reduceAdd,reduceMul,reduceLeDiff,tyint,hd]
  refine hK _ _ ?_;clear hK K
  refine W.cond rfl (fun h => ?_) (fun h => ?_)
  ·try simp only [RL] at h
   exact absurd h (by simp)
  ·try simp only [RL] at h
   refine W.exit ?_
   refine xe ?_
   refine xe ?_
   refine XBlock.hit ?_
   refine xn ?_
   refine W.joinZ [5,6,8] (fun vs S => ∃ (ws : List Int) (q3 tk : Nat),ws.length ≤ 400 ∧ q3 ≤ 6000 ∧ vs = [.ref 0 0 0,eStrs p2,eInts ws] ∧ S = ⟨[.arr 0 147 2 [eBy code2,.int .i64 (q3 : Int)]],tk⟩) ?_ ?_
   ·
    refine W.k fun K hK => ?_
    simp (disch := omega) only [↓RU,RV,RH,↓reduceIte,reduceEqDiff,reduceCtorEq,if_pos,List.append_nil,↓RS,RG,reduceAdd,reduceMul,reduceLeDiff]
    refine CallR.ev (l92Needs_ev (q := q2) hc2 (by omega) hs2) ?_
    rintro _ _ ⟨ws,qa,ta,v1,rfl,hwsl,hqa,rfl⟩
    simp (disch := omega) only [↓RU,RV,RH,↓reduceIte,reduceEqDiff,reduceCtorEq,if_pos,List.append_nil,↓RS,RG,reduceAdd,reduceMul,reduceLeDiff]
    refine hK _ _ ?_;clear hK K
    refine xn ?_
    refine ⟨1,[.ref 0 0 0,eStrs p2,eInts ws],⟨[.arr 0 147 2 [eBy code2,.int .i64 (qa : Int)]],ta⟩,?_,?_,ws,qa,ta,hwsl,by omega,rfl,rfl⟩
    ·simp [-List.mapM_map,Store.frz,frzObs,frzOb,frz_eInts,frz_loc,rfz_loc,frz_int,frz_sl,frz_ints,rfz_ints,frz_strs,frz_bytes,rfz_bytes,rfz_str,rfz_bool,frz_str,frz_bool,Env.put,Env.of,argEnv,rfz_int,List.mapM_append,List.mapM_cons,frz_ref0,tk_strs,rfz_tstr,tk_ints,← frz_eInts]
    ·simp [-List.mapM_map,Store.frz,frzObs,frzOb,frz_eInts,frz_loc,rfz_loc,frz_int,frz_sl,frz_ints,rfz_ints,frz_strs,frz_bytes,rfz_bytes,rfz_str,rfz_bool,frz_str,frz_bool,Env.put,Env.of,argEnv,rfz_int,List.mapM_append,List.mapM_cons,frz_ref0,tk_strs,rfz_tstr,tk_ints]
   rintro vs S - ⟨ws,qb,tk,hwsl,hqb,rfl,rfl⟩
   refine W.joinZ [2,3,4] (fun vs S => ∃ (ht : List Int) (tk : Nat),ht.length ≤ 400 ∧ vs = [eStrs p2,eInts ws,eInts ht] ∧ S = ⟨[],tk⟩) ?_ ?_
   ·
    refine W.k fun K hK => ?_
    simp (disch := omega) only [↓RU,RV,RH,↓reduceIte,reduceEqDiff,reduceCtorEq,if_pos,List.append_nil,↓RS,RG,reduceAdd,reduceMul,reduceLeDiff]
    refine CallR.ev (l92Needs_ev (q := qb) hc2 (by omega) hs2) ?_
    rintro _ _ ⟨ht,qc,tc,v2,rfl,hhtl,hqc,rfl⟩
    simp (disch := omega) only [↓RU,RV,RH,↓reduceIte,reduceEqDiff,reduceCtorEq,if_pos,List.append_nil,↓RS,RG,reduceAdd,reduceMul,reduceLeDiff]
    refine hK _ _ ?_;clear hK K
    refine xn ?_
    refine ⟨0,[eStrs p2,eInts ws,eInts ht],⟨[],tc⟩,?_,?_,ht,tc,hhtl,rfl,rfl⟩
    ·simp [-List.mapM_map,Store.frz,frzObs,frzOb,frz_eInts,frz_loc,rfz_loc,frz_int,frz_sl,frz_ints,rfz_ints,frz_strs,frz_bytes,rfz_bytes,rfz_str,rfz_bool,frz_str,frz_bool,Env.put,Env.of,argEnv,rfz_int,List.mapM_append,List.mapM_cons,frz_ref0,tk_strs,rfz_tstr,tk_ints,← frz_eInts]
    ·simp [-List.mapM_map,Store.frz,frzObs,frzOb,frz_eInts,frz_loc,rfz_loc,frz_int,frz_sl,frz_ints,rfz_ints,frz_strs,frz_bytes,rfz_bytes,rfz_str,rfz_bool,frz_str,frz_bool,Env.put,Env.of,argEnv,rfz_int,List.mapM_append,List.mapM_cons,frz_ref0,tk_strs,rfz_tstr,tk_ints]
   rintro vs S - ⟨ht,tk,hhtl,rfl,rfl⟩
   refine W.ret ?_
   refine Br rfl ?_
   exact ⟨0,p2,ws,ht,tk,hs2,hwsl,hhtl,rfl,rfl⟩
theorem drawShapeSquare_ev {code : Txt} (hc : code.length ≤ 1048576) : Ev Tryz.prog 51 [eBy code] ⟨[],0⟩ fun v S => ∃ (p : List Txt) (ws ht : List Int) (t : Nat),Sm p ∧ ws.length ≤ 400 ∧ ht.length ≤ 400 ∧ v = .tup [eStrs p,eInts ws,eInts ht] ∧ S = ⟨[],t⟩ := by
 refine Ev.of ⟨Tryz.func51,by kernel_rfl,rfl,by kernel_rfl⟩ tabOk mixed (by show 1 ≤ Tryz.f51.ntmps; decide) ?_
 refine W.r fun K hK => ?_
 simp (disch := omega) only [↓RU,RV,RH,↓reduceIte,reduceEqDiff,reduceCtorEq,if_pos,↓RS,RG,reduceAdd,reduceMul,reduceLeDiff]
 refine hK _ _ ?_;clear hK K
 refine W.r fun K hK => ?_
 simp (disch := omega) only [↓RU,RV,RH,↓reduceIte,reduceEqDiff,reduceCtorEq,if_pos,List.append_nil,↓RS,RG,reduceAdd,reduceMul,reduceLeDiff]
 refine CallR.ev (l92Shaped_ev hc) ?_
 rintro _ _ ⟨p,ws,ht,t,hs,hwsl,hhtl,rfl,rfl⟩
 simp (disch := omega) only [↓RU,RV,RH,↓reduceIte,reduceEqDiff,reduceCtorEq,if_pos,List.append_nil,↓RS,RG,reduceAdd,reduceMul,reduceLeDiff]
 refine hK _ _ ?_;clear hK K
 refine W.ret ?_
 refine Br rfl ?_
 exact ⟨0,p,ws,ht,_,hs,hwsl,hhtl,rfl,rfl⟩

theorem pEq_bb {S : Store} {a b : Bool} : pEq tab S 4 (.bool a) (.bool b) = some (a == b) := rfl




section
section
variable {S : Store} {fr : Nat → Bool} {f : Nat}
end
end





def slR (rows : List (List Int)) (v : Nat) : PV := match rows with | [] => .nils | _ => .loc 0 v 0 rows.length
def stR (rows : List (List Int)) (v t : Nat) : Store := match rows with | [] => ⟨[],t⟩ | _ => ⟨[.arr v 24 1 (rows.map eInts)],t⟩
theorem slR_nil {v : Nat} : slR [] v = .nils := rfl
theorem stR_nil {v t : Nat} : stR [] v t = ⟨[],t⟩ := rfl
theorem slR_ne {rows : List (List Int)} {v : Nat} (h : rows ≠ []) : slR rows v = .loc 0 v 0 rows.length := by cases rows with | nil => exact absurd rfl h | cons a l => rfl
theorem stR_ne {rows : List (List Int)} {v t : Nat} (h : rows ≠ []) : stR rows v t = ⟨[.arr v 24 1 (rows.map eInts)],t⟩ := by cases rows with | nil => exact absurd rfl h | cons a l => rfl
theorem rn_eIntss {S : Store} {k f : Nat} {sel : List Nat} (l : List (List Int)) : (l.map eInts).mapM (rn S k sel (f + 1)) = some (l.map eInts) :=
 mapM_same fun x hx => by obtain ⟨a,_,rfl⟩ := List.mem_map.1 hx; rfl
theorem reify_slR {rows : List (List Int)} {v t : Nat} : reify (stR rows v t) true 9 (slR rows v) = some (eGrid rows) := by
 by_cases h : rows = []
 ·subst h; rfl
 ·rw [slR_ne h,stR_ne h]
  exact reify_loc rfl (by simp) (mapM_ints2 _)
end Fw
end Go.Proofs.YtclmfemhboogpaaGreat
