/- Parts of the framework and of the proof: Reading plans, gone through; The two closures of relations are the same; The heaviest sums and the least sizes are the same; The program's walls and orders are the specification's; The program's direct orders are the specification's; Sums and counts of cells; The least rectangle around cells, by the program; The least rectangle around a room and its cells, by the specification; Plans that are read are the specification's: grids and names; Plans that are read are the specification's: numbers of rooms and rectangles; Plans that are read are the specification's: rooms fill their rectangles; Areas by the program are the specification's; Areas by the program are the specification's, joined; Arguments of laws as plain data; Sizes by the program, gone through; Sizes, gone through; the small functions of the statements; Heaviest sums, gone through; Where rooms begin and how far they may be moved: the program's lists are the specification's; Marks, gone through; Places and slack by the specification, gone through; Shapes in plain words: the program's least shapes are the specification's; Shapes by the specification, gone through; Best shapes by the specification, gone through; A relation the other way round, place by place; Places and slack by the program, gone through; Shapes by the program, gone through. -/
import Derived.Test.YtclmfemhboogpaaGreatJ3
import Derived.Test.YtclmfemhboogpaaGreatRows
import Derived.ProofKit
import Derived.SliceStrings
import Derived.Test.YtclmfemhboogpaaGreatJ2
set_option linter.all false
namespace Go.Proofs.YtclmfemhboogpaaGreat
namespace Fw
open Go
open Nat (reduceEqDiff reduceLeDiff reduceAdd reduceMul)
theorem settled_no {g : List (List Int)} (hsm : g.length < 2147483648) (hsr : ∀ r ∈ g,r.length < 2147483648) (h : okS g = false) : PC Tryz.prog 158 [eGrid g] (.tup [.nilp,.bool false]) false := by
 rw [← settledV_no h]; exact settled_pc hsm hsr
theorem settled_yes {g : List (List Int)} (hsm : g.length < 2147483648) (hsr : ∀ r ∈ g,r.length < 2147483648) (h : okS g = true) : PC Tryz.prog 158 [eGrid g] (.tup [eFloor (zG g) (stG g).2,.bool (fullG g)]) false := by
 rw [← settledV_yes h]; exact settled_pc hsm hsr
theorem read_pc {p : List Txt} (hs : Sm p) : PC Tryz.prog 133 [eStrs p] (readV p) false := by
 have hp := hs.rows
 refine PC.of ⟨Tryz.func133,by kernel_rfl,rfl,by kernel_rfl⟩ tabOk mixed (by show 1 ≤ Tryz.f133.ntmps; decide) ?_
 refine W.r fun K hK => ?_
 simp (disch := omega) only [↓RU,RV,RH,↓reduceIte,reduceEqDiff,reduceCtorEq,if_pos,↓RS,RG,reduceAdd,reduceMul,reduceLeDiff]
 refine hK _ _ ?_;clear hK K
 refine W.r fun K hK => ?_
 simp (disch := omega) only [↓RU,RV,RH,↓reduceIte,reduceEqDiff,reduceCtorEq,if_pos,↓RS,RG,reduceAdd,reduceMul,reduceLeDiff,ty1,tyLint,ty12,tyint]
 refine hK _ _ ?_;clear hK K
 refine W.joinZ [4] (fun vs S => ∃ tk : Nat,lettersB p = true ∧ vs = [eGrid (readG p)] ∧ S = ⟨[],tk⟩) ?_ ?_
 ·
  refine W.r fun K hK => ?_
  simp (disch := omega) only [↓RU,RV,RH,↓reduceIte,reduceEqDiff,reduceCtorEq,if_pos,↓RS,RG,reduceAdd,reduceMul,reduceLeDiff,ty6,tystring]
  refine hK _ _ ?_;clear hK K
  refine W.block ?_
  refine W.loopZ [4,11,12,13] (fun n vs S => ∃ i v0 tk : Nat,n = p.length - i ∧ i ≤ p.length ∧ ((p.take i).all (fun r => r.all letterB) = true) ∧ vs = [.loc 0 v0 0 i,eStrs p,.int .i64 p.length,.int .i64 i] ∧ S = ⟨[.arr v0 24 1 ((readG (p.take i)).map eInts)],tk⟩) (p.length) ?_ ?_
  ·refine ⟨1,[.loc 0 0 0 0,eStrs p,.int .i64 p.length,.int .i64 0],⟨[.arr 0 24 1 ((readG (p.take 0)).map eInts)],1⟩,?_,?_,0,0,1,rfl,by omega,rfl,rfl,rfl⟩
   ·rfl
   ·rfl
  rintro n vs S - ⟨i,v0,tk,rfl,h_i,hall,rfl,rfl⟩
  refine W.r fun K hK => ?_
  simp (disch := omega) only [↓RU,RV,RH,↓reduceIte,reduceEqDiff,reduceCtorEq,if_pos,w64,↓RS,RG,reduceAdd,reduceMul,reduceLeDiff,tyint]
  refine hK _ _ ?_;clear hK K
  refine W.seq ?_
  refine W.cond rfl (fun h => ?_) (fun h => ?_)
  ·try simp only [RL] at h
   obtain ⟨row,hrow,hrm⟩ := get_of (show i < p.length by omega)
   have hrl := hs.cols row hrm
   have hgk : (readG (p.take i)).length = i := by rw [readG_len,List.length_take]; omega
   have hgt : ((readG (p.take i)).map eInts).take i = (readG (p.take i)).map eInts := List.take_of_length_le (by rw [List.length_map]; omega)
   refine W.skip ?_
   refine xn ?_
   refine W.seq ?_
   refine W.block ?_
   refine W.r fun K hK => ?_
   simp (disch := omega) only [↓RU,RV,RH,↓reduceIte,reduceEqDiff,reduceCtorEq,if_pos,↓RS,RG,reduceAdd,reduceMul,reduceLeDiff,ty6,tystring,hrow]
   refine hK _ _ ?_;clear hK K
   refine W.r fun K hK => ?_
   simp (disch := omega) only [↓RU,RV,RH,↓reduceIte,reduceEqDiff,reduceCtorEq,if_pos,↓RS,RG,reduceAdd,reduceMul,reduceLeDiff,tyLint,tyint]
   refine hK _ _ ?_;clear hK K
   refine W.seq ?_
   refine W.r fun K hK => ?_
   simp (disch := omega) only [↓RU,RV,RH,↓reduceIte,reduceEqDiff,reduceCtorEq,if_pos,w64,↓RS,RG,reduceAdd,reduceMul,reduceLeDiff,ty7,tystring,ty27]
   refine hK _ _ ?_;clear hK K
   refine W.block ?_
   refine W.loop [4,11,12,13,7,19,20,21] (fun n vs S => ∃ k v1 t : Nat,n = row.length - k ∧ k ≤ row.length ∧ ((row.take k).all letterB = true) ∧ vs = [.loc 0 v0 0 i,eStrs p,.int .i64 p.length,.int .i64 i,.loc 1 v1 0 k,.sl (row.map eB) row.length,.int .i64 row.length,.int .i64 k] ∧ S = ⟨[.arr v0 24 1 ((readG (p.take i)).map eInts),.arr v1 3 1 ((rowZ (row.take k)).map (.int .i64))],t⟩) (row.length) ?_ ?_
   ·refine ⟨2,0,_,_,rfl,Nat.zero_le _,rfl,?_,rfl⟩
    simp [Env.put,Env.of]
   rintro n vs S - ⟨k,v1,t,rfl,h_k,hrk,rfl,rfl⟩
   refine W.r fun K hK => ?_
   simp (disch := omega) only [↓RU,RV,RH,↓reduceIte,reduceEqDiff,reduceCtorEq,if_pos,w64,↓RS,RG,reduceAdd,reduceMul,reduceLeDiff,tyint]
   refine hK _ _ ?_;clear hK K
   refine W.seq ?_
   refine W.cond rfl (fun h1 => ?_) (fun h1 => ?_)
   ·try simp only [RL] at h1
    obtain ⟨c,hc,hcm⟩ := get_of (show k < row.length by omega)
    have hcb := c.toNat_lt
    have hrowk : (rowZ (row.take k)).length = k := by rw [rowZ_len,List.length_take]; omega
    have hrowt : ((rowZ (row.take k)).map (PV.int .i64)).take k = (rowZ (row.take k)).map (PV.int .i64) := List.take_of_length_le (by rw [List.length_map]; omega)
    refine W.skip ?_
    refine xn ?_
    refine W.seq ?_
    refine W.block ?_
    refine W.r fun K hK => ?_
    simp (disch := omega) only [↓RU,RV,RH,↓reduceIte,reduceEqDiff,reduceCtorEq,if_pos,↓RS,RG,reduceAdd,reduceMul,reduceLeDiff,ty7,ty27,hc]
    refine hK _ _ ?_;clear hK K
    refine W.seq ?_
    refine W.r fun K hK => ?_
    rcases (show (c.toNat : Int) < 97 ∨ (c.toNat : Int) > 122 ∨ (97 ≤ c.toNat ∧ c.toNat ≤ 122) by omega) with hb | hb | hb
    ·skip
     have hd : decide ((c.toNat : Int) < 97) = true := decide_eq_true hb
     have hlc : letterB c = false := by unfold letterB; rw [decide_eq_false (by omega)]; rfl
     simp (disch := omega) only [↓RU,RV,RH,↓reduceIte,reduceEqDiff,reduceCtorEq,if_pos,w64,↓RS,RG,reduceAdd,reduceMul,reduceLeDiff,ty27,hd]
     refine hK _ _ ?_;clear hK K
     refine W.cond rfl (fun h2 => ?_) (fun h2 => ?_)
     ·try simp only [RL] at h2
      refine W.r fun K hK => ?_
      simp (disch := omega) only [↓RU,RV,RH,↓reduceIte,reduceEqDiff,reduceCtorEq,if_pos,↓RS,RG,reduceAdd,reduceMul,reduceLeDiff]
      refine hK _ _ ?_;clear hK K
      refine W.ret ?_
      refine XThen.ret ?_
      refine XBlock.ret ?_
      refine XThen.ret ?_
      refine XThen.ret ?_
      refine XBlock.ret ?_
      refine XThen.ret ?_
      refine XBlock.ret ?_
      refine XThen.ret ?_
      refine XThen.ret ?_
      refine XBlock.ret ?_
      refine XThen.ret ?_
      refine Br rfl ?_
      rw [readV,letters_bad hrm hcm hlc]
      rfl
     ·try simp only [RL] at h2
      exact absurd h2 (by simp)
    ·skip
     have hd : decide ((c.toNat : Int) < 97) = false := decide_eq_false (by omega)
     have hd2 : decide ((c.toNat : Int) > 122) = true := decide_eq_true hb
     have hlc : letterB c = false := by unfold letterB; rw [decide_eq_false (p := c.toNat ≤ 122) (by omega),Bool.and_false]
     simp (disch := omega) only [↓RU,RV,RH,↓reduceIte,reduceEqDiff,reduceCtorEq,if_pos,w64,↓RS,RG,reduceAdd,reduceMul,reduceLeDiff,ty27,hd,hd2]
     refine hK _ _ ?_;clear hK K
     refine W.cond rfl (fun h2 => ?_) (fun h2 => ?_)
     ·try simp only [RL] at h2
      refine W.r fun K hK => ?_
      simp (disch := omega) only [↓RU,RV,RH,↓reduceIte,reduceEqDiff,reduceCtorEq,if_pos,↓RS,RG,reduceAdd,reduceMul,reduceLeDiff]
      refine hK _ _ ?_;clear hK K
      refine W.ret ?_
      refine XThen.ret ?_
      refine XBlock.ret ?_
      refine XThen.ret ?_
      refine XThen.ret ?_
      refine XBlock.ret ?_
      refine XThen.ret ?_
      refine XBlock.ret ?_
      refine XThen.ret ?_
      refine XThen.ret ?_
      refine XBlock.ret ?_
      refine XThen.ret ?_
      refine Br rfl ?_
      rw [readV,letters_bad hrm hcm hlc]
      rfl
     ·try simp only [RL] at h2
      exact absurd h2 (by simp)
    ·skip
     have hd : decide ((c.toNat : Int) < 97) = false := decide_eq_false (by omega)
     have hd2 : decide ((c.toNat : Int) > 122) = false := decide_eq_false (by omega)
     have hlc : letterB c = true := by unfold letterB; rw [decide_eq_true hb.1,decide_eq_true hb.2]; rfl
     simp (disch := omega) only [↓RU,RV,RH,↓reduceIte,reduceEqDiff,reduceCtorEq,if_pos,w64,↓RS,RG,reduceAdd,reduceMul,reduceLeDiff,ty27,hd,hd2]
     refine hK _ _ ?_;clear hK K
     refine W.cond rfl (fun h2 => ?_) (fun h2 => ?_)
     ·try simp only [RL] at h2
      exact absurd h2 (by simp)
     ·try simp only [RL] at h2
      refine W.skip ?_
      refine xn ?_
      refine W.k fun K hK => ?_
      simp (disch := omega) only [↓RU,RV,RH,↓reduceIte,reduceEqDiff,reduceCtorEq,if_pos,w64,↓RS,RG,reduceAdd,reduceMul,reduceLeDiff,tyLint,tyint,ty27,hrowk,hrowt,Nat.le_refl]
      refine hK _ _ ?_;clear hK K
      refine XbN ?_
      refine xn ?_
      refine W.k fun K hK => ?_
      simp (disch := omega) only [↓RU,RV,RH,↓reduceIte,reduceEqDiff,reduceCtorEq,if_pos,w64,↓RS,RG,reduceAdd,reduceMul,reduceLeDiff,tyint]
      refine hK _ _ ?_;clear hK K
      refine xn ?_
      refine ⟨row.length - (k + 1),by omega,2,k + 1,t + 1,t + 2,rfl,by omega,all_tk hc hrk hlc,?_,?_⟩
      ·simp [Env.put,Env.of]
      ·simp [take_eq,rowZ_succ hc]
   ·try simp only [RL] at h1
    obtain rfl : k = row.length := by omega
    have hra : row.all letterB = true := by rw [List.take_length] at hrk; exact hrk
    have hrz := rowZ_len row
    rw [List.take_length]
    generalize hYe : rowZ row = Y at hrz
    have hYt : (Y.map (PV.int .i64)).take row.length = Y.map (PV.int .i64) := List.take_of_length_le (by rw [List.length_map]; omega)
    have hYE : eInts Y = PV.sl (Y.map (PV.int .i64)) row.length := by rw [← hrz]
    refine W.exit ?_
    refine xe ?_
    refine xe ?_
    refine XBlock.hit ?_
    refine xn ?_
    refine W.k fun K hK => ?_
    simp (disch := omega) only [↓RU,RV,RH,↓reduceIte,reduceEqDiff,reduceCtorEq,if_pos,↓RS,RG,reduceAdd,reduceMul,reduceLeDiff,ty1,tyLint,ty12,tyint,hgk,hgt,Nat.le_refl]
    refine hK _ _ ?_;clear hK K
    refine XbN ?_
    refine xn ?_
    refine W.k fun K hK => ?_
    simp (disch := omega) only [↓RU,RV,RH,↓reduceIte,reduceEqDiff,reduceCtorEq,if_pos,w64,↓RS,RG,reduceAdd,reduceMul,reduceLeDiff,tyint]
    refine hK _ _ ?_;clear hK K
    refine xn ?_
    refine ⟨p.length - (i + 1),by omega,1,[.loc 0 (t + 1) 0 (i + 1),eStrs p,.int .i64 p.length,.int .i64 (i + 1)],⟨[.arr (t + 1) 24 1 ((readG (p.take (i + 1))).map eInts)],(t + 2)⟩,?_,?_,(i + 1),(t + 1),(t + 2),rfl,by omega,all_tk hrow hall hra,rfl,rfl⟩
    ·simp [-List.mapM_map,Store.frz,frzObs,frzOb,frz_eInts,frz_loc,rfz_loc,frz_int,frz_sl,frz_ints,rfz_ints,frz_strs,frz_bytes,rfz_bytes,rfz_str,rfz_bool,frz_str,frz_bool,Env.put,Env.of,argEnv,rfz_int,List.mapM_append,List.mapM_cons]
    ·simp [-List.mapM_map,Store.frz,frzObs,frzOb,frz_eInts,frz_loc,rfz_loc,frz_int,frz_sl,frz_ints,rfz_ints,frz_strs,frz_bytes,rfz_bytes,rfz_str,rfz_bool,frz_str,frz_bool,Env.put,Env.of,argEnv,rfz_int,List.mapM_append,List.mapM_cons,readG_succ hrow,hYe,hYt,hYE,hrz]
  ·try simp only [RL] at h
   refine W.exit ?_
   refine xe ?_
   refine xe ?_
   refine XBlock.hit ?_
   refine xn ?_
   obtain rfl : i = p.length := by omega
   rw [List.take_length] at hall ⊢
   have hgt2 : ((readG p).map eInts).take p.length = (readG p).map eInts := List.take_of_length_le (by simp [readG])
   have hgE : eGrid (readG p) = PV.sl ((readG p).map eInts) p.length := by rw [← readG_len p]
   refine ⟨0,[eGrid (readG p)],⟨[],tk⟩,?_,?_,tk,hall,rfl,rfl⟩
   ·simp [-List.mapM_map,Store.frz,frzObs,frzOb,frz_eInts,frz_loc,rfz_loc,frz_int,frz_sl,frz_ints,rfz_ints,frz_strs,frz_bytes,rfz_bytes,rfz_str,rfz_bool,frz_str,frz_bool,Env.put,Env.of,argEnv,rfz_int,List.mapM_append,List.mapM_cons,hgt2,hgE,readG_len,rfz_eIntss]
   ·simp [-List.mapM_map,Store.frz,frzObs,frzOb,frz_eInts,frz_loc,rfz_loc,frz_int,frz_sl,frz_ints,rfz_ints,frz_strs,frz_bytes,rfz_bytes,rfz_str,rfz_bool,frz_str,frz_bool,Env.put,Env.of,argEnv,rfz_int,List.mapM_append,List.mapM_cons]
 rintro vs S - ⟨tk,hlet,rfl,rfl⟩
 refine W.r fun K hK => ?_
 cases hok : okS (readG p)
 ·skip
  simp (disch := omega) only [↓RU,RV,RH,↓reduceIte,reduceEqDiff,reduceCtorEq,if_pos,List.append_nil,↓RS,RG,reduceAdd,reduceMul,reduceLeDiff]
  refine CallR.pc (settled_no (g := readG p) (by rw [readG_len]; omega) (fun r hr => by obtain ⟨t,ht,rfl⟩ := List.mem_map.1 hr; rw [rowZ_len]; exact hs.cols t ht) hok) rfl (.inr rfl) ?_
  simp (disch := omega) only [↓RU,RV,RH,↓reduceIte,reduceEqDiff,reduceCtorEq,if_pos,List.append_nil,↓RS,RG,reduceAdd,reduceMul,reduceLeDiff]
  refine hK _ _ ?_;clear hK K
  refine W.ret ?_
  refine Br rfl ?_
  rw [readV,hlet,if_pos rfl,settledV_no hok]
  rfl
 ·skip
  simp (disch := omega) only [↓RU,RV,RH,↓reduceIte,reduceEqDiff,reduceCtorEq,if_pos,List.append_nil,↓RS,RG,reduceAdd,reduceMul,reduceLeDiff]
  refine CallR.pc (settled_yes (g := readG p) (by rw [readG_len]; omega) (fun r hr => by obtain ⟨t,ht,rfl⟩ := List.mem_map.1 hr; rw [rowZ_len]; exact hs.cols t ht) hok) rfl (.inr rfl) ?_
  simp (disch := omega) only [↓RU,RV,RH,↓reduceIte,reduceEqDiff,reduceCtorEq,if_pos,List.append_nil,↓RS,RG,reduceAdd,reduceMul,reduceLeDiff]
  refine hK _ _ ?_;clear hK K
  refine W.ret ?_
  refine Br rfl ?_
  rw [readV,hlet,if_pos rfl,settledV_yes hok]
  rfl
theorem read_no {p : List Txt} (hs : Sm p) (h : okB p = false) : PC Tryz.prog 133 [eStrs p] (.tup [.nilp,.bool false]) false := by
 rw [← readV_no h]; exact read_pc hs
theorem read_yes {p : List Txt} (hs : Sm p) (h : okB p = true) : PC Tryz.prog 133 [eStrs p] (.tup [eFloor (gP p) (rP p),.bool (fullG (readG p))]) false := by
 rw [← readV_yes h]; exact read_pc hs
theorem floorOf_no {p : List Txt} (hs : Sm p) (h : okB p = false) : PC Tryz.prog 74 [eStrs p] (.tup [.nilp,.bool false]) false := by
 refine PC.of ⟨Tryz.func74,by kernel_rfl,rfl,by kernel_rfl⟩ tabOk mixed (by show 1 ≤ Tryz.f74.ntmps; decide) ?_
 refine W.r fun K hK => ?_
 simp (disch := omega) only [↓RU,RV,RH,↓reduceIte,reduceEqDiff,reduceCtorEq,if_pos]
 refine hK _ _ ?_;clear hK K
 refine W.r fun K hK => ?_
 simp (disch := omega) only [↓RU,RV,RH,↓reduceIte,reduceEqDiff,reduceCtorEq,if_pos,List.append_nil]
 refine CallR.pc (read_no hs h) rfl (.inr rfl) ?_
 simp (disch := omega) only [↓RU,RV,RH,↓reduceIte,reduceEqDiff,reduceCtorEq,if_pos,List.append_nil]
 refine hK _ _ ?_;clear hK K
 refine W.r fun K hK => ?_
 simp (disch := omega) only [↓RU,RV,RH,↓reduceIte,reduceEqDiff,reduceCtorEq,if_pos,List.append_nil]
 refine hK _ _ ?_;clear hK K
 refine W.ret ?_
 refine Br rfl ?_
 rfl
theorem floorOf_yes {p : List Txt} (hs : Sm p) (h : okB p = true) : PC Tryz.prog 74 [eStrs p] (.tup [eFloor (gP p) (rP p),.bool (floorV p)]) false := by
 have hg := okB_gw h
 have hz := okB_bound h
 have hrows := hs.rows
 refine PC.of ⟨Tryz.func74,by kernel_rfl,rfl,by kernel_rfl⟩ tabOk mixed (by show 1 ≤ Tryz.f74.ntmps; decide) ?_
 refine W.r fun K hK => ?_
 simp (disch := omega) only [↓RU,RV,RH,↓reduceIte,reduceEqDiff,reduceCtorEq,if_pos]
 refine hK _ _ ?_;clear hK K
 refine W.r fun K hK => ?_
 simp (disch := omega) only [↓RU,RV,RH,↓reduceIte,reduceEqDiff,reduceCtorEq,if_pos,List.append_nil]
 refine CallR.pc (read_yes hs h) rfl (.inr rfl) ?_
 simp (disch := omega) only [↓RU,RV,RH,↓reduceIte,reduceEqDiff,reduceCtorEq,if_pos,List.append_nil]
 refine hK _ _ ?_;clear hK K
 refine W.r fun K hK => ?_
 cases hf : fullG (readG p)
 ·skip
  simp (disch := omega) only [↓RU,RV,RH,↓reduceIte,reduceEqDiff,reduceCtorEq,if_pos,List.append_nil]
  refine hK _ _ ?_;clear hK K
  refine W.ret ?_
  refine Br rfl ?_
  rw [floorV,hf]
  rfl
 ·skip
  simp (disch := omega) only [↓RU,RV,RH,↓reduceIte,reduceEqDiff,reduceCtorEq,if_pos,List.append_nil,hf]
  refine CallR.pc (text_pc hg (rP p) hz) rfl (.inl rfl) ?_
  simp (disch := omega) only [↓RU,RV,RH,↓reduceIte,reduceEqDiff,reduceCtorEq,if_pos,List.append_nil,hf]
  refine CallR.pc (equalStrs_pc (p := textG (gP p)) (q := p) (by rw [textG_len,hg.1]; omega) hs.rows) rfl (.inl rfl) ?_
  simp (disch := omega) only [↓RU,RV,RH,↓reduceIte,reduceEqDiff,reduceCtorEq,if_pos,List.append_nil,hf]
  refine hK _ _ ?_;clear hK K
  refine W.ret ?_
  refine Br rfl ?_
  rw [floorV,hf]
  rfl
theorem floorOf_ex {p : List Txt} (hs : Sm p) : ∃ x,PC Tryz.prog 74 [eStrs p] (.tup [x,.bool (floorI p)]) false ∧ (floorI p = true → x = eFloor (gP p) (rP p)) ∧ ∀ (S : Store) (k : Nat),reify S true (k + 1) x = some x := by
 unfold floorI
 cases h : okB p with
 | false => exact ⟨_,floorOf_no hs h,(fun h => by cases h),fun _ _ => rfl⟩
 | true => exact ⟨_,floorOf_yes hs h,fun _ => rfl,fun _ _ => rfl⟩
theorem plainOf_ex0 {p : List Txt} (hs : Sm p) {x : PV} (hx : PC Tryz.prog 74 [eStrs p] (.tup [x,.bool (floorI p)]) false) (hy : floorI p = true → x = eFloor (gP p) (rP p)) (hr : ∀ (S : Store) (k : Nat),reify S true (k + 1) x = some x) : PC Tryz.prog 108 [eStrs p] (.tup [x,.bool (plainI p)]) false := by
 refine PC.of ⟨Tryz.func108,by kernel_rfl,rfl,by kernel_rfl⟩ tabOk mixed (by show 1 ≤ Tryz.f108.ntmps; decide) ?_
 refine W.r fun K hK => ?_
 simp (disch := omega) only [↓RU,RV,RH,↓reduceIte,reduceEqDiff,reduceCtorEq,if_pos]
 refine hK _ _ ?_;clear hK K
 refine W.r fun K hK => ?_
 simp (disch := omega) only [↓RU,RV,RH,↓reduceIte,reduceEqDiff,reduceCtorEq,if_pos,List.append_nil]
 refine CallR.pc (hx) rfl (.inr rfl) ?_
 simp (disch := omega) only [↓RU,RV,RH,↓reduceIte,reduceEqDiff,reduceCtorEq,if_pos,List.append_nil]
 refine hK _ _ ?_;clear hK K
 refine W.r fun K hK => ?_
 cases hf : floorI p
 ·skip
  simp (disch := omega) only [↓RU,RV,RH,↓reduceIte,reduceEqDiff,reduceCtorEq,if_pos,List.append_nil]
  refine hK _ _ ?_;clear hK K
  refine W.ret ?_
  refine Br rfl ?_
  rw [plainI,hf]
  exact reify_tup2 (k := 9) (hr _ 8) rfl
 ·skip
  have hxe := hy hf
  subst hxe
  have hok : okB p = true := by unfold floorI at hf; rw [Bool.and_eq_true] at hf; exact hf.1
  have hg := okB_gw hok
  simp (disch := omega) only [↓RU,RV,RH,↓reduceIte,reduceEqDiff,reduceCtorEq,if_pos,List.append_nil,hf]
  refine CallR.pc (fplain_pc hg (rP p)) rfl (.inl rfl) ?_
  simp (disch := omega) only [↓RU,RV,RH,↓reduceIte,reduceEqDiff,reduceCtorEq,if_pos,List.append_nil,hf]
  refine hK _ _ ?_;clear hK K
  refine W.ret ?_
  refine Br rfl ?_
  rw [plainI,hf]
  rfl
theorem plain_okB {p : List Txt} (h : plainI p = true) : okB p = true ∧ plainI p = true := by
 refine ⟨?_,h⟩
 unfold plainI floorI at h
 simp only [Bool.and_eq_true] at h
 exact h.1.1
theorem plainOf_ex {p : List Txt} (hs : Sm p) : ∃ x,PC Tryz.prog 108 [eStrs p] (.tup [x,.bool (plainI p)]) false ∧ (plainI p = true → x = eFloor (gP p) (rP p)) ∧ ∀ (S : Store) (k : Nat),reify S true (k + 1) x = some x := by
 obtain ⟨x,h1,h2,h3⟩ := floorOf_ex hs
 refine ⟨x,plainOf_ex0 hs h1 h2 h3,fun h => h2 ?_,h3⟩
 unfold plainI at h
 rw [Bool.and_eq_true] at h
 exact h.1
def Same (n : Nat) (M : List (List Bool)) (ms : List Nat) : Prop := Sq n M ∧ ms.length = n ∧ ∀ a b,a < n → b < n → getB M a b = bitOf ms a b
theorem getB_setB {n : Nat} {M : List (List Bool)} (h : Sq n M) {a b x y : Nat} {v : Bool} (ha : a < n) (hb : b < n) : getB (setB M a b v) x y = if x = a ∧ y = b then v else getB M x y := by
 obtain ⟨row,hr,hl,-⟩ := h.at_ ha hb
 rw [setB_is hr]
 unfold getB
 rw [List.getElem?_set]
 by_cases hx : a = x
 ·subst hx
  rw [if_pos rfl,if_pos (by rw [h.1]; exact ha),Option.getD_some,List.getElem?_set,hr]
  by_cases hy : b = y
  ·subst hy
   rw [if_pos rfl,if_pos (by omega),if_pos ⟨rfl,rfl⟩]; rfl
  ·rw [if_neg hy,if_neg (fun h => hy h.2.symm)]; rfl
 ·rw [if_neg hx,if_neg (fun h => hx h.1.symm)]
theorem clA_to {n : Nat} {M : List (List Bool)} (h : Sq n M) {k a : Nat} (hk : k < n) (ha : a < n) : ∀ i,i ≤ n → Sq n ((List.range i).foldl (clB k a) M) ∧
  ∀ x y,x < n → y < n → getB ((List.range i).foldl (clB k a) M) x y = if x = a ∧ y < i then getB M a y || (getB M a k && getB M k y) else getB M x y
 | 0,_ => ⟨h,fun x y _ _ => by simp⟩
 | i + 1,hi => by
  obtain ⟨h1,h2⟩ := clA_to h hk ha i (by omega)
  rw [foldl_rg]
  generalize (List.range i).foldl (clB k a) M = X at h1 h2 ⊢
  refine ⟨h1.clB ha,fun x y hx hy => ?_⟩
  unfold clB
  rw [getB_setB h1 ha (by omega),h2 a i ha (by omega),h2 a k ha hk,h2 k i hk (by omega),h2 x y hx hy]
  have e1 : (if a = a ∧ k < i then getB M a k || (getB M a k && getB M k k) else getB M a k) = getB M a k := by
   split
   ·cases getB M a k <;> simp
   ·rfl
  have e2 : (if k = a ∧ i < i then getB M a i || (getB M a k && getB M k i) else getB M k i) = getB M k i := by rw [if_neg (by omega)]
  have e3 : (if a = a ∧ i < i then getB M a i || (getB M a k && getB M k i) else getB M a i) = getB M a i := by rw [if_neg (by omega)]
  rw [e1,e2,e3]
  by_cases hxa : x = a
  ·subst hxa
   by_cases hyi : y = i
   ·subst hyi; rw [if_pos ⟨rfl,rfl⟩,if_pos ⟨rfl,by omega⟩]
   ·rw [if_neg (fun h => hyi h.2)]
    by_cases hlt : y < i
    ·rw [if_pos ⟨rfl,hlt⟩,if_pos ⟨rfl,by omega⟩]
    ·rw [if_neg (fun h => hlt h.2),if_neg (fun h => hlt (by have := h.2; omega))]
  ·rw [if_neg (fun h => hxa h.1),if_neg (fun h => hxa h.1),if_neg (fun h => hxa h.1)]
theorem bitOf_set {ms : List Nat} {a m x y : Nat} (ha : a < ms.length) : bitOf (ms.set a m) x y = if x = a then m.testBit y else bitOf ms x y := by
 unfold bitOf
 rw [List.getElem?_set]
 by_cases h : a = x
 ·subst h; rw [if_pos rfl,if_pos ha,if_pos rfl]; rfl
 ·rw [if_neg h,if_neg (Ne.symm h)]
theorem allA_len {c a : Nat} {ms : List Nat} : (allA c ms a).length = ms.length := by unfold allA; split <;> simp
theorem Same.clA {n : Nat} {M : List (List Bool)} {ms : List Nat} (h : Same n M ms) {k a : Nat} (hk : k < n) (ha : a < n) : Same n (clA n k M a) (allA k ms a) := by
 obtain ⟨h1,h2,h3⟩ := h
 obtain ⟨k1,k2⟩ := clA_to h1 hk ha n (Nat.le_refl _)
 refine ⟨k1,by rw [allA_len,h2],fun x y hx hy => ?_⟩
 unfold Fw.clA
 rw [k2 x y hx hy]
 obtain ⟨m,hm,-⟩ := get_of (show a < ms.length by omega)
 obtain ⟨c,hc,-⟩ := get_of (show k < ms.length by omega)
 have hak : getB M a k = m.testBit k := by rw [h3 a k ha hk,bitOf_is hm]
 cases hb : m.testBit k with
 | true =>
  rw [allA_yes hm hc hb,bitOf_set (by omega),hak,hb]
  by_cases hxa : x = a
  ·subst hxa
   rw [if_pos ⟨rfl,hy⟩,if_pos rfl,Nat.testBit_or,h3 x y hx hy,h3 k y hk hy,bitOf_is hm,bitOf_is hc,Bool.true_and]
  ·rw [if_neg (fun h => hxa h.1),if_neg hxa,h3 x y hx hy]
 | false =>
  rw [allA_no hm hb,hak,hb]
  by_cases hxa : x = a
  ·subst hxa; rw [if_pos ⟨rfl,hy⟩,Bool.false_and,Bool.or_false,h3 x y hx hy]
  ·rw [if_neg (fun h => hxa h.1),h3 x y hx hy]
theorem Same.fold {n : Nat} {f : List (List Bool) → Nat → List (List Bool)} {g : List Nat → Nat → List Nat} : ∀ (i : Nat) {M : List (List Bool)} {ms : List Nat},i ≤ n → (∀ M ms j,j < n → Same n M ms → Same n (f M j) (g ms j)) → Same n M ms → Same n ((List.range i).foldl f M) ((List.range i).foldl g ms)
 | 0,_,_,_,_,h => h
 | i + 1,M,ms,hi,hs,h => by
  rw [foldl_rg,foldl_rg]
  exact hs _ _ i (by omega) (Same.fold i (by omega) hs h)
theorem Same.close {p : List Txt} {kind : Int} {n : Nat} {M : List (List Bool)} (h : Same n M (just p kind)) : Same n (closeM M) (allS p kind) := by
 unfold closeM allS
 rw [h.1.1,h.2.1]
 exact Same.fold n (Nat.le_refl _) (fun _ _ k hk h => Same.fold n (Nat.le_refl _) (fun _ _ a ha h => h.clA hk ha) h) h
section
theorem count_lt {α : Type} {f g : α → Bool} : ∀ {l : List α},(∀ x ∈ l,f x = true → g x = true) → (∃ x ∈ l,g x = true ∧ f x = false) → l.countP f < l.countP g
 | [],_,h => by obtain ⟨x,hx,_⟩ := h; simp at hx
 | a :: l,h1,h2 => by
  have hle : l.countP f ≤ l.countP g := List.countP_mono_left fun x hx => h1 x (by simp [hx])
  have ha := h1 a (by simp)
  rw [List.countP_cons,List.countP_cons]
  obtain ⟨x,hx,k1,k2⟩ := h2
  rcases List.mem_cons.1 hx with rfl | hx
  ·rw [k1,k2]; simp; omega
  ·have := count_lt (l := l) (fun x hx => h1 x (by simp [hx])) ⟨x,hx,k1,k2⟩
   cases hf : f a with
   | false => simp; omega
   | true => rw [ha hf]; simp; omega
def ahead (n : Nat) (rk : Nat → Nat) (b : Nat) : Nat := (List.range n).countP fun a => decide (rk a < rk b)
theorem ahead_lt {n : Nat} {rk : Nat → Nat} {a b : Nat} (ha : a < n) (h : rk a < rk b) : ahead n rk a < ahead n rk b :=
 count_lt (fun x _ hx => by simp at hx ⊢; omega) ⟨a,by simpa using ha,by simpa using h,by simp⟩
theorem ahead_n {n : Nat} {rk : Nat → Nat} {b : Nat} (hb : b < n) : ahead n rk b < n := by
 have := count_lt (l := List.range n) (f := fun a => decide (rk a < rk b)) (g := fun _ => true) (fun _ _ _ => rfl) ⟨b,by simpa using hb,rfl,by simp⟩
 simpa [ahead] using this
section
variable {M : List (List Bool)} {ms : List Nat} {ws : List Int} {n : Nat} {rk : Nat → Nat}
def beg (M : List (List Bool)) (ws : List Int) (n b : Nat) : Int := hvF M (HB M ws n) b n
def Low (M : List (List Bool)) (ws : List Int) (n : Nat) (out : List Int) : Prop := out.length = n ∧ ∀ b,b < n → 0 ≤ getI out b ∧ getI out b ≤ beg M ws n b
def Ge (n : Nat) (o out : List Int) : Prop := ∀ b,b < n → getI o b ≤ getI out b
theorem Ge.refl (o : List Int) : Ge n o o := fun _ _ => Int.le_refl _
theorem Ge.trans {a b c : List Int} (h : Ge n a b) (k : Ge n b c) : Ge n a c := fun x hx => Int.le_trans (h x hx) (k x hx)
theorem getI_set {l : List Int} {b y : Nat} {v : Int} (hb : b < l.length) : getI (l.set b v) y = if y = b then v else getI l y := by
 unfold getI
 rw [List.getElem?_set]
 by_cases h : b = y
 ·subst h; rw [if_pos rfl,if_pos hb,if_pos rfl]; rfl
 ·rw [if_neg h,if_neg (Ne.symm h)]
theorem HB_beg (hu : Up M n rk) {b : Nat} (hb : b < n) : HB M ws n b = beg M ws n b + getI ws b := HB_eq hu hb
theorem plB_step (hs : Same n M ms) (hu : Up M n rk) {out : List Int} (h : Low M ws n out) {a b : Nat} (ha : a < n) (hb : b < n) :
  Low M ws n (plB ms ws a out b) ∧ Ge n out (plB ms ws a out b) ∧ (bitOf ms a b = true → getI out a + getI ws a ≤ getI (plB ms ws a out b) b) := by
 unfold plB
 cases hbit : bitOf ms a b with
 | false => exact ⟨h,Ge.refl _,fun h => by cases h⟩
 | true =>
  have hM : getB M a b = true := by rw [hs.2.2 a b ha hb]; exact hbit
  have hge := hvF_ge (M := M) (g := HB M ws n) (b := b) ha hM
  have h1 := h.2 a ha
  have h2 := h.2 b hb
  have h3 := HB_beg (ws := ws) hu ha
  rw [if_pos rfl]
  refine ⟨⟨by simp [h.1],fun y hy => ?_⟩,fun y hy => ?_,fun _ => ?_⟩
  ·rw [getI_set (by rw [h.1]; exact hb)]
   split
   ·rename_i e; subst e
    unfold beg at *
    omega
   ·exact h.2 y hy
  ·rw [getI_set (by rw [h.1]; exact hb)]
   split
   ·rename_i e; subst e; omega
   ·exact Int.le_refl _
  ·rw [getI_set (by rw [h.1]; exact hb),if_pos rfl]; omega
theorem plA_step (hs : Same n M ms) (hu : Up M n rk) {out : List Int} (h : Low M ws n out) {a : Nat} (ha : a < n) : ∀ i,i ≤ n →
  Low M ws n ((List.range i).foldl (plB ms ws a) out) ∧ Ge n out ((List.range i).foldl (plB ms ws a) out) ∧ ∀ b,b < i → bitOf ms a b = true → getI out a + getI ws a ≤ getI ((List.range i).foldl (plB ms ws a) out) b
 | 0,_ => ⟨h,Ge.refl _,fun b hb => by omega⟩
 | i + 1,hi => by
  obtain ⟨h1,h2,h3⟩ := plA_step hs hu h ha i (by omega)
  rw [foldl_rg]
  generalize (List.range i).foldl (plB ms ws a) out = X at h1 h2 h3 ⊢
  obtain ⟨k1,k2,k3⟩ := plB_step hs hu h1 ha (show i < n by omega)
  refine ⟨k1,h2.trans k2,fun b hb hbit => ?_⟩
  by_cases e : b = i
  ·subst e
   have := k3 hbit
   have := h2 a ha
   omega
  ·have := h3 b (by omega) hbit
   have := k2 b (by omega)
   omega
theorem plN_step (hs : Same n M ms) (hu : Up M n rk) (hl : ws.length = n) {out : List Int} (h : Low M ws n out) : ∀ i,i ≤ n →
  Low M ws n ((List.range i).foldl (plA ms ws) out) ∧ Ge n out ((List.range i).foldl (plA ms ws) out) ∧ ∀ a b,a < i → b < n → bitOf ms a b = true → getI out a + getI ws a ≤ getI ((List.range i).foldl (plA ms ws) out) b
 | 0,_ => ⟨h,Ge.refl _,fun a b ha => by omega⟩
 | i + 1,hi => by
  obtain ⟨h1,h2,h3⟩ := plN_step hs hu hl h i (by omega)
  rw [foldl_rg]
  generalize (List.range i).foldl (plA ms ws) out = X at h1 h2 h3 ⊢
  obtain ⟨k1,k2,k3⟩ := plA_step hs hu h1 (show i < n by omega) n (Nat.le_refl _)
  have e : plA ms ws X i = (List.range n).foldl (plB ms ws i) X := by unfold plA; rw [hl]
  rw [e]
  refine ⟨k1,h2.trans k2,fun a b ha hb hbit => ?_⟩
  by_cases e2 : a = i
  ·subst e2
   have := k3 b hb hbit
   have := h2 a (by omega)
   omega
  ·have := h3 a b (by omega) hb hbit
   have := k2 b hb
   omega
theorem hvF_le {g : Nat → Int} {b : Nat} {B : Int} (hB : 0 ≤ B) : ∀ {i : Nat},(∀ a,a < i → getB M a b = true → g a ≤ B) → hvF M g b i ≤ B := fun h => (hvF_bound hB h).2
theorem hvF_pos {g : Nat → Int} {b : Nat} : ∀ i,0 ≤ hvF M g b i
 | 0 => by simp [hvF]
 | i + 1 => by
  have := hvF_pos (g := g) (b := b) i
  rw [hvF_succ]
  split <;> omega
theorem places_done (hs : Same n M ms) (hu : Up M n rk) (hl : ws.length = n) : ∀ k,k ≤ n → Low M ws n ((List.range k).foldl (plN ms ws) (List.replicate n 0)) ∧
  ∀ b,b < n → ahead n rk b < k → getI ((List.range k).foldl (plN ms ws) (List.replicate n 0)) b = beg M ws n b
 | 0,_ => by
  refine ⟨⟨by simp,fun b hb => ?_⟩,fun b hb h => by omega⟩
  have : getI (List.replicate n 0) b = 0 := by simp [getI,hb]
  have h0 := hvF_pos (M := M) (g := HB M ws n) (b := b) n
  unfold beg
  simp only [List.range_zero,List.foldl_nil]
  omega
 | k + 1,hk => by
  obtain ⟨h1,h2⟩ := places_done hs hu hl k (by omega)
  rw [foldl_rg]
  generalize (List.range k).foldl (plN ms ws) (List.replicate n 0) = X at h1 h2 ⊢
  have e : plN ms ws X k = (List.range n).foldl (plA ms ws) X := by unfold plN; rw [hl]
  rw [e]
  obtain ⟨k1,k2,k3⟩ := plN_step hs hu hl h1 n (Nat.le_refl _)
  refine ⟨k1,fun b hb hc => ?_⟩
  have hlo := k1.2 b hb
  have : beg M ws n b ≤ getI ((List.range n).foldl (plA ms ws) X) b := by
   unfold beg
   refine hvF_le hlo.1 fun a ha hab => ?_
   have hrk := hu.up a b ha hb hab
   have hca := ahead_lt ha hrk
   have h4 := h2 a ha (by omega)
   have h5 := k3 a b ha hb (by rw [← hs.2.2 a b ha hb]; exact hab)
   rw [h4,← HB_beg hu ha] at h5
   exact h5
  omega
theorem foldl_max_map {f : Nat → Int} {l : List Nat} {m : Int} : (l.map f).foldl max m = l.foldl (fun m a => max m (f a)) m := by
 rw [List.foldl_map]
theorem foldl_congr {α β : Type} {f g : β → α → β} : ∀ {l : List α} {z : β},(∀ x ∈ l,∀ z,f z x = g z x) → l.foldl f z = l.foldl g z
 | [],_,_ => rfl
 | a :: l,z,h => by
  rw [List.foldl_cons,List.foldl_cons,h a (by simp)]
  exact foldl_congr fun x hx => h x (by simp [hx])
theorem least_heaviest (hs : Same n M ms) (hu : Up M n rk) (hl : ws.length = n) (hn : 1 ≤ n) (hw : NeedOk ws) : least ms ws = maxL (heaviest M ws n) := by
 obtain ⟨h1,h2⟩ := places_done (ws := ws) hs hu hl n (Nat.le_refl _)
 have hp : places ms ws = (List.range n).foldl (plN ms ws) (List.replicate n 0) := by unfold places; rw [hl]
 have e : least ms ws = (List.range n).foldl (fun m a => max m (HB M ws n a)) 0 := by
  unfold least
  rw [hl,hp]
  refine foldl_congr fun b hb z => ?_
  have hbn : b < n := by simpa using hb
  rw [h2 b hbn (ahead_n hbn),← HB_beg hu hbn]
 rw [e,← foldl_max_map]
 show (heaviest M ws n).foldl max 0 = _
 have hlen := heaviest_len (M := M) (ws := ws) (n := n)
 have hpos : ∀ x ∈ heaviest M ws n,0 ≤ x := by
  intro x hx
  unfold heaviest at hx
  obtain ⟨b,_,rfl⟩ := List.mem_map.1 hx
  exact (HB_bound hw b).1
 generalize heaviest M ws n = l at hlen hpos
 cases l with
 | nil => simp at hlen; omega
 | cons a l =>
  have := hpos a (by simp)
  show l.foldl max (max 0 a) = l.foldl max a
  rw [show max 0 a = a by omega]
end
end
def kk (lv : Bool) : Int := if lv then 1 else 0
def encW (w : Wall) : List Int := [kk w.level,w.line,w.fr,w.long]
def pendW (L : Nat) (f : Int) (i : Nat) : List (List Int) := if 0 ≤ f then [[(L : Int),f,(i : Int) - f]] else []
theorem wlLine_enc {g : List (List Int)} {q : List Txt} {lv : Bool} {L P : Nat} (hd : ∀ j,j < P → difG g lv L j = wallB q L j) {ws0 : List Wall} {pre s0 : List (List Int)} (h0 : ws0.map encW = pre ++ s0.map (kk lv :: ·)) : ∀ i,i ≤ P →
  -1 ≤ (upTo q L s0 i).1 ∧ (wlLine g lv L ws0 i).2 = decide (0 ≤ (upTo q L s0 i).1) ∧
  (wlLine g lv L ws0 i).1.map encW = pre ++ ((upTo q L s0 i).2 ++ pendW L (upTo q L s0 i).1 i).map (kk lv :: ·)
 | 0,_ => by
  refine ⟨by simp [upTo],by simp [wlLine_zero,upTo],?_⟩
  rw [wlLine_zero]
  simpa [upTo,pendW] using h0
 | i + 1,hi => by
  obtain ⟨h1,h2,h3⟩ := wlLine_enc hd h0 i (by omega)
  have hdi := hd i (by omega)
  rw [wlLine_succ]
  unfold upTo upStep
  rw [hdi]
  generalize wlLine g lv L ws0 i = s at h2 h3 ⊢
  obtain ⟨ws,op⟩ := s
  generalize upTo q L s0 i = u at h1 h2 h3 ⊢
  obtain ⟨f,l⟩ := u
  simp only at h1 h2 h3 ⊢
  cases hw : wallB q L i with
  | false =>
   simp only [wlStep,Bool.false_and,Bool.false_eq_true,if_false,Bool.not_false,Bool.true_and,decide_eq_true_eq]
   by_cases hf : 0 ≤ f
   ·rw [if_pos hf]
    refine ⟨by simp,by simp,?_⟩
    rw [h3]
    simp [pendW,hf]
   ·rw [if_neg hf]
    refine ⟨h1,by simp [hf],?_⟩
    rw [h3]
    simp [pendW,hf]
  | true =>
   simp only [wlStep,Bool.true_and,Bool.not_true,Bool.false_and,Bool.false_eq_true,if_false,if_true,decide_eq_true_eq]
   by_cases hf : 0 ≤ f
   ·have hop : op = true := by rw [h2]; simpa using hf
    rw [if_pos hop,if_neg (show ¬ f < 0 by omega)]
    refine ⟨h1,by simp [hf],?_⟩
    have hne : ws ≠ [] := by
     rintro rfl
     simp [pendW,hf] at h3
    obtain ⟨ws,w,rfl⟩ := last_of hne
    simp only [pendW,hf,if_true,List.map_append,List.map_cons,List.map_nil,← List.append_assoc] at h3 ⊢
    obtain ⟨e1,e2⟩ := List.append_inj' h3 rfl
    simp only [List.dropLast_concat,List.getLast?_append,List.getLast?_singleton,Option.some_or,Option.map_some,Option.toList_some,List.map_append,List.map_cons,List.map_nil,e1]
    simp only [List.cons.injEq,and_true] at e2
    have e3 : w.level = lv ∧ w.line = L ∧ w.fr = f ∧ w.long = i - f := by
     simp only [encW,List.cons.injEq,and_true] at e2
     refine ⟨?_,e2.2.1,e2.2.2.1,e2.2.2.2⟩
     have := e2.1
     unfold kk at this
     cases hwl : w.level <;> cases hlv : lv <;> simp [hwl,hlv] at this ⊢
    obtain ⟨e4,e5,e6,e7⟩ := e3
    simp only [encW,e4,e5,e6,e7,List.append_cancel_left_eq,List.cons.injEq,true_and,and_true]
    omega
   ·have hop : op = false := by rw [h2]; simpa using hf
    rw [if_neg (show ¬ op = true by rw [hop]; exact Bool.false_ne_true),if_pos (show f < 0 by omega)]
    refine ⟨by omega,by simp,?_⟩
    simp only [pendW,hf,if_false,List.append_nil] at h3
    simp only [pendW,List.map_append,h3,List.map_cons,List.map_nil]
    rw [if_pos (by omega)]
    simp [encW]
    omega
theorem wlLine_all {g : List (List Int)} {q : List Txt} {lv : Bool} {L : Nat} (hd : ∀ j,j < q.length → difG g lv L j = wallB q L j) {ws0 : List Wall} {pre s0 : List (List Int)} (h0 : ws0.map encW = pre ++ s0.map (kk lv :: ·)) :
  (wlLine g lv L ws0 q.length).1.map encW = pre ++ (upTo q L s0 (q.length + 1)).2.map (kk lv :: ·) := by
 obtain ⟨h1,-,h3⟩ := wlLine_enc hd h0 q.length (Nat.le_refl _)
 rw [h3]
 congr 2
 have e : upTo q L s0 (q.length + 1) = upStep (wallB q L q.length) L q.length (upTo q L s0 q.length) := rfl
 rw [e,wallB_end]
 clear e h3 h1
 generalize upTo q L s0 q.length = u
 obtain ⟨f,l⟩ := u
 unfold upStep
 simp only [Bool.false_and,Bool.false_eq_true,if_false,Bool.not_false,Bool.true_and,decide_eq_true_eq,pendW]
 split <;> simp
theorem wlLevel_enc {g : List (List Int)} {q : List Txt} {lv : Bool} {n : Nat} (hd : ∀ L j,1 ≤ L → L < n → j < q.length → difG g lv L j = wallB q L j) {ws0 : List Wall} : ∀ i,i ≤ n →
  (wlLevel g lv q.length ws0 i).map encW = ws0.map encW ++ (upsTo q i).map (kk lv :: ·)
 | 0,_ => by simp [wlLevel,upsTo]
 | i + 1,hi => by
  have ih := wlLevel_enc hd (ws0 := ws0) i (by omega)
  by_cases h1 : 1 ≤ i
  ·rw [wlLevel_succ h1,upsTo_succ h1]
   exact wlLine_all (fun j hj => hd i j h1 (by omega) hj) ih
  ·obtain rfl : i = 0 := by omega
   simpa [wlLevel,upsTo] using ih
theorem wallsG_enc {g : List (List Int)} {p : List Txt} (hg : gridB p = true) (hz : ∀ i j,i < p.length → j < (hdRow p).length → gz g i j = cellZ p i j) : (wallsG g p.length (hdRow p).length).map encW = walls p := by
 have hsm := grid_small hg
 obtain ⟨row0,hrow0,hrm0⟩ := get_of hsm.1
 have hhd := hdRow_of hrow0
 have hw1 := row_pos hg hrow0
 have htl := trans_len (p := p)
 have hth := trans_hd (p := p) (by rw [hhd]; omega)
 have d0 : ∀ L j,1 ≤ L → L < (hdRow p).length → j < p.length → difG g false L j = wallB p L j := by
  intro L j h1 h2 h3
  unfold difG sidesG wallB
  simp only [Bool.false_eq_true,if_false]
  rw [hz j (L - 1) h3 (by omega),hz j L h3 h2]
  simp [h3]
 have d1 : ∀ L j,1 ≤ L → L < p.length → j < (transP p).length → difG g true L j = wallB (transP p) L j := by
  intro L j h1 h2 h3
  have h3' := h3
  rw [htl] at h3'
  unfold difG sidesG wallB
  simp only [if_true]
  rw [hz (L - 1) j (by omega) h3',hz L j h2 h3',cellZ_trans (by omega) h3',cellZ_trans h2 h3']
  simp [h3]
 unfold wallsG
 have e1 := wlLevel_enc (lv := true) d1 (ws0 := wlLevel g false p.length [] (hdRow p).length) p.length (Nat.le_refl _)
 have e0 := wlLevel_enc (lv := false) d0 (ws0 := []) (hdRow p).length (Nat.le_refl _)
 rw [htl] at e1
 rw [e1,e0]
 unfold walls uprights
 rw [hth]
 simp [kk]
theorem Same.orBit {n : Nat} {M : List (List Bool)} {ms : List Nat} (h : Same n M ms) {a b : Nat} (ha : a < n) (hb : b < n) : Same n (setB M a b true) (orBit ms a b) := by
 obtain ⟨h1,h2,h3⟩ := h
 obtain ⟨m,hm,-⟩ := get_of (show a < ms.length by omega)
 rw [orBit_is hm]
 refine ⟨h1.set ha,by simp [h2],fun x y hx hy => ?_⟩
 rw [getB_setB h1 ha hb,bitOf_set (by omega)]
 by_cases hxa : x = a
 ·subst hxa
  rw [if_pos rfl,Nat.testBit_or,Nat.testBit_two_pow,h3 x y hx hy,bitOf_is hm]
  by_cases hyb : y = b
  ·subst hyb; simp
  ·rw [if_neg (fun h => hyb h.2),decide_eq_false (fun h => hyb h.symm),Bool.or_false]
 ·rw [if_neg (fun h => hxa h.1),if_neg hxa,h3 x y hx hy]
def Rm (n : Nat) (l : List Int) : Prop := ∀ x ∈ l,0 ≤ x ∧ x < n
theorem Same.relB {n : Nat} {a : Int} (ha : 0 ≤ a ∧ a < n) : ∀ {bs : List Int} {M : List (List Bool)} {ms : List Nat},Rm n bs → Same n M ms → Same n (relB a bs M) (justB a.toNat ms bs)
 | [],_,_,_,h => h
 | b :: bs,M,ms,hb,h => by
  have hb0 := hb b (by simp)
  exact Same.relB ha (bs := bs) (fun x hx => hb x (by simp [hx])) (h.orBit (by omega) (by omega))
theorem Same.relW {n : Nat} {bs : List Int} (hb : Rm n bs) : ∀ {la : List Int} {M : List (List Bool)} {ms : List Nat},Rm n la → Same n M ms → Same n (relW M la bs) (justA bs ms la)
 | [],_,_,_,h => h
 | a :: la,M,ms,ha,h => Same.relW hb (la := la) (fun x hx => ha x (by simp [hx])) (h.relB (ha a (by simp)) hb)
theorem ddp_snoc {l : List Int} {x : Int} : ddp (l ++ [x]) = putL (ddp l) x := by simp [ddp,List.foldl_append]
theorem sides_eq {g : List (List Int)} {p : List Txt} {lv : Bool} {L fr : Nat} : ∀ n,(∀ j,fr ≤ j → j < fr + n → sidesG g lv L j = if lv then (cellZ p (L - 1) j,cellZ p L j) else (cellZ p j (L - 1),cellZ p j L)) →
  (ddp (alongG g lv L fr n).1,ddp (alongG g lv L fr n).2) = sidesTo p (kk lv).toNat L fr n
 | 0,_ => by simp [alongG,ddp,sidesTo]
 | n + 1,h => by
  have ih := sides_eq n fun j a b => h j a (by omega)
  have hx := h (fr + n) (by omega) (by omega)
  rw [alongG_succ1,alongG_succ2,ddp_snoc,ddp_snoc,hx]
  unfold sidesTo
  rw [← ih]
  cases lv <;> simp [kk]
theorem sidesOf_eq {g : List (List Int)} {p : List Txt} (hz : ∀ i j,i < p.length → j < (hdRow p).length → gz g i j = cellZ p i j) {w : Wall} (hw : WlOk g p.length (hdRow p).length w) : sidesOf g w = sidesW p (encW w) := by
 obtain ⟨line,fr,long,he,hl,hin⟩ := hw
 obtain ⟨lv,wl,wf,wg⟩ := w
 simp only [Wall.mk.injEq,true_and] at he hin
 obtain ⟨rfl,rfl,rfl⟩ := he
 unfold sidesOf sidesW encW
 simp only [Int.toNat_natCast]
 refine sides_eq long fun j a b => ?_
 obtain ⟨⟨h1,h2⟩,-⟩ := hin j a b
 unfold sidesG
 cases lv with
 | false =>
  simp only [Bool.false_eq_true,if_false] at h2 ⊢
  rw [hz j (line - 1) h2.2 (by omega),hz j line h2.2 h2.1]
 | true =>
  simp only [if_true] at h2 ⊢
  rw [hz (line - 1) j (by omega) h2.2,hz line j h2.1 h2.2]
theorem Same.empty {n : Nat} : Same n (emptyM n) (List.replicate n 0) := by
 refine ⟨emptyM_sq n,by simp,fun a b ha hb => ?_⟩
 simp [getB,emptyM,bitOf,ha,hb]
theorem same_ord {g : List (List Int)} {p : List Txt} {n : Nat} (hz : ∀ i j,i < p.length → j < (hdRow p).length → gz g i j = cellZ p i j) (hrm : RmOk g p.length (hdRow p).length n) : ∀ (ws : List Wall),(∀ w ∈ ws,WlOk g p.length (hdRow p).length w) →
  ∀ {M : List (List Bool) × List (List Bool)} {m0 m1 : List Nat},Same n M.1 m0 → Same n M.2 m1 → Same n (ws.foldl (ordW g) M).1 ((ws.map encW).foldl (justW p 0) m0) ∧ Same n (ws.foldl (ordW g) M).2 ((ws.map encW).foldl (justW p 1) m1)
 | [],_,_,_,_,h0,h1 => ⟨h0,h1⟩
 | w :: ws,hws,M,m0,m1,h0,h1 => by
  have hw := hws w (by simp)
  obtain ⟨hr1,hr2⟩ := sidesOf_rooms hrm hw
  rw [sidesOf_eq hz hw] at hr1 hr2
  rw [List.foldl_cons,List.map_cons,List.foldl_cons,List.foldl_cons]
  refine same_ord hz hrm ws (fun w hw => hws w (by simp [hw])) ?_ ?_
  ·unfold ordW justW
   rw [sidesOf_eq hz hw]
   cases hlv : w.level with
   | false => simpa [encW,kk,hlv] using h0.relW hr2 hr1
   | true => simpa [encW,kk,hlv] using h0
  ·unfold ordW justW
   rw [sidesOf_eq hz hw]
   cases hlv : w.level with
   | false => simpa [encW,kk,hlv] using h1
   | true => simpa [encW,kk,hlv] using h1.relW hr2 hr1
theorem same_all {g : List (List Int)} {p : List Txt} {n : Nat} (hg : gridB p = true) (hn : (l1Rooms p).toNat = n) (hz : ∀ i j,i < p.length → j < (hdRow p).length → gz g i j = cellZ p i j) (hrm : RmOk g p.length (hdRow p).length n) :
  Same n (leftG g p.length (hdRow p).length n) (allS p 0) ∧ Same n (aboveG g p.length (hdRow p).length n) (allS p 1) := by
 obtain ⟨h0,h1⟩ := same_ord hz hrm (wallsG g p.length (hdRow p).length) wallsG_ok (M := (emptyM n,emptyM n)) Same.empty Same.empty
 rw [wallsG_enc hg hz] at h0 h1
 have e : List.replicate n 0 = List.replicate (l1Rooms p).toNat 0 := by rw [hn]
 rw [e] at h0 h1
 exact ⟨h0.close,h1.close⟩
def sN : Nat → (Nat → Nat) → Nat
 | 0,_ => 0
 | n + 1,f => sN n f + f n
theorem sN_congr {f g : Nat → Nat} : ∀ {n : Nat},(∀ i,i < n → f i = g i) → sN n f = sN n g
 | 0,_ => rfl
 | n + 1,h => by rw [sN,sN,sN_congr (n := n) fun i hi => h i (by omega),h n (by omega)]
theorem sN_le {f g : Nat → Nat} : ∀ {n : Nat},(∀ i,i < n → f i ≤ g i) → sN n f ≤ sN n g
 | 0,_ => Nat.le_refl _
 | n + 1,h => by
  have := sN_le (n := n) fun i hi => h i (by omega)
  have := h n (by omega)
  simp only [sN]; omega
theorem sN_eq {f g : Nat → Nat} : ∀ {n : Nat},(∀ i,i < n → f i ≤ g i) → sN n f = sN n g → ∀ i,i < n → f i = g i
 | 0,_,_,i,hi => by omega
 | n + 1,h,e,i,hi => by
  have h1 := sN_le (n := n) fun i hi => h i (by omega)
  have h2 := h n (by omega)
  simp only [sN] at e
  by_cases hin : i = n
  ·subst hin; omega
  ·exact sN_eq (n := n) (fun i hi => h i (by omega)) (by omega) i (by omega)
theorem sN_zero : ∀ n,sN n (fun _ => 0) = 0
 | 0 => rfl
 | n + 1 => by rw [sN,sN_zero n]
theorem sN_one : ∀ n,sN n (fun _ => 1) = n
 | 0 => rfl
 | n + 1 => by rw [sN,sN_one n]
theorem sN_const (c : Nat) : ∀ n,sN n (fun _ => c) = n * c
 | 0 => by simp [sN]
 | n + 1 => by rw [sN,sN_const c n,Nat.succ_mul]
theorem sN_add {f g : Nat → Nat} : ∀ n,sN n (fun i => f i + g i) = sN n f + sN n g
 | 0 => rfl
 | n + 1 => by rw [sN,sN,sN,sN_add n]; omega
theorem sN_swap {f : Nat → Nat → Nat} {m : Nat} : ∀ n,sN n (fun i => sN m (fun j => f i j)) = sN m (fun j => sN n (fun i => f i j))
 | 0 => by simp only [sN]; rw [sN_zero]
 | n + 1 => by
  simp only [sN]
  rw [sN_swap n,sN_add]
theorem sN_mul {f : Nat → Nat} {c : Nat} : ∀ n,sN n (fun i => f i * c) = sN n f * c
 | 0 => by simp [sN]
 | n + 1 => by rw [sN,sN,sN_mul n,Nat.add_mul]
def b1 (b : Bool) : Nat := if b then 1 else 0
def cnt (H W : Nat) (f : Nat → Nat → Bool) : Nat := sN H fun i => sN W fun j => b1 (f i j)
theorem b1_le {a b : Bool} (h : a = true → b = true) : b1 a ≤ b1 b := by
 cases a with
 | false => simp [b1]
 | true => rw [h rfl]; exact Nat.le_refl _
theorem b1_inj {a b : Bool} (h : b1 a = b1 b) : a = b := by cases a <;> cases b <;> simp [b1] at h ⊢
theorem cnt_le {H W : Nat} {f g : Nat → Nat → Bool} (h : ∀ i j,i < H → j < W → f i j = true → g i j = true) : cnt H W f ≤ cnt H W g :=
 sN_le fun i hi => sN_le fun j hj => b1_le (h i j hi hj)
theorem cnt_eq {H W : Nat} {f g : Nat → Nat → Bool} (h : ∀ i j,i < H → j < W → f i j = true → g i j = true) (e : cnt H W f = cnt H W g) : ∀ i j,i < H → j < W → f i j = g i j := by
 intro i j hi hj
 have h1 := sN_eq (n := H) (fun i hi => sN_le fun j hj => b1_le (h i j hi hj)) e i hi
 exact b1_inj (sN_eq (n := W) (fun j hj => b1_le (h i j hi hj)) h1 j hj)
theorem cnt_congr {H W : Nat} {f g : Nat → Nat → Bool} (h : ∀ i j,i < H → j < W → f i j = g i j) : cnt H W f = cnt H W g :=
 sN_congr fun i hi => sN_congr fun j hj => by rw [h i j hi hj]
theorem sN_seg {a k : Nat} : ∀ {n : Nat},a + k ≤ n → sN n (fun i => b1 (decide (a ≤ i) && decide (i < a + k))) = k
 | 0,h => by simp [sN]; omega
 | n + 1,h => by
  rw [sN]
  by_cases hn : a + k ≤ n
  ·rw [sN_seg hn,decide_eq_false (p := n < a + k) (by omega),Bool.and_false]; rfl
  ·have hnk : n + 1 = a + k := by omega
   cases k with
   | zero =>
    have : sN n (fun i => b1 (decide (a ≤ i) && decide (i < a + 0))) = sN n (fun _ => 0) := sN_congr fun i hi => by
     rw [decide_eq_false (p := a ≤ i) (by omega)]; rfl
    rw [this,sN_zero,decide_eq_false (p := a ≤ n) (by omega)]; rfl
   | succ k =>
    have e : sN n (fun i => b1 (decide (a ≤ i) && decide (i < a + (k + 1)))) = sN n (fun i => b1 (decide (a ≤ i) && decide (i < a + k))) := sN_congr fun i hi => by
     congr 2
     apply decide_eq_decide.2; omega
    rw [e,sN_seg (k := k) (by omega),decide_eq_true (p := a ≤ n) (by omega),decide_eq_true (p := n < a + (k + 1)) (by omega)]
    rfl
def inR (t l h w i j : Nat) : Bool := (decide (t ≤ i) && decide (i < t + h)) && (decide (l ≤ j) && decide (j < l + w))
theorem b1_and {a b : Bool} : b1 (a && b) = b1 a * b1 b := by cases a <;> cases b <;> rfl
theorem cnt_rect {H W t l h w : Nat} (h1 : t + h ≤ H) (h2 : l + w ≤ W) : cnt H W (inR t l h w) = h * w := by
 unfold cnt inR
 have e : (fun i => sN W fun j => b1 ((decide (t ≤ i) && decide (i < t + h)) && (decide (l ≤ j) && decide (j < l + w)))) = fun i => b1 (decide (t ≤ i) && decide (i < t + h)) * w := by
  funext i
  have : (fun j => b1 ((decide (t ≤ i) && decide (i < t + h)) && (decide (l ≤ j) && decide (j < l + w)))) = fun j => b1 (decide (l ≤ j) && decide (j < l + w)) * b1 (decide (t ≤ i) && decide (i < t + h)) := by
   funext j; rw [b1_and,Nat.mul_comm]
  rw [this,sN_mul,sN_seg h2,Nat.mul_comm]
 rw [e,sN_mul,sN_seg h1]
theorem cnt_classes {H W n : Nat} {z : Nat → Nat → Nat} (hz : ∀ i j,i < H → j < W → z i j < n) : sN n (fun r => cnt H W fun i j => decide (z i j = r)) = H * W := by
 unfold cnt
 rw [sN_swap]
 have : sN H (fun i => sN n fun r => sN W fun j => b1 (decide (z i j = r))) = sN H (fun _ => W) := sN_congr fun i hi => by
  rw [sN_swap]
  have : sN W (fun j => sN n fun r => b1 (decide (z i j = r))) = sN W (fun _ => 1) := sN_congr fun j hj => by
   have h1 := hz i j hi hj
   have e : sN n (fun r => b1 (decide (z i j = r))) = sN n (fun r => b1 (decide (z i j ≤ r) && decide (r < z i j + 1))) := sN_congr fun r hr => by
    congr 1
    rw [Bool.eq_iff_iff]
    simp only [Bool.and_eq_true,decide_eq_true_eq]
    omega
   rw [e,sN_seg (by omega)]
  rw [this,sN_one]
 rw [this,sN_const]
structure Hull (pr : Nat → Nat → Prop) (t l lo ri : Int) : Prop where
 inn : ∀ a b,pr a b → t ≤ a ∧ (a : Int) ≤ lo ∧ l ≤ b ∧ (b : Int) ≤ ri
 at_ : ∃ a b : Nat,pr a b ∧ (a : Int) = t
 al : ∃ a b : Nat,pr a b ∧ (b : Int) = l
 ao : ∃ a b : Nat,pr a b ∧ (a : Int) = lo
 ar : ∃ a b : Nat,pr a b ∧ (b : Int) = ri
theorem Hull.uniq {pr : Nat → Nat → Prop} {t l lo ri t' l' lo' ri' : Int} (h : Hull pr t l lo ri) (k : Hull pr t' l' lo' ri') : t = t' ∧ l = l' ∧ lo = lo' ∧ ri = ri' := by
 obtain ⟨a1,b1,p1,e1⟩ := h.at_
 obtain ⟨a2,b2,p2,e2⟩ := h.al
 obtain ⟨a3,b3,p3,e3⟩ := h.ao
 obtain ⟨a4,b4,p4,e4⟩ := h.ar
 obtain ⟨a5,b5,p5,e5⟩ := k.at_
 obtain ⟨a6,b6,p6,e6⟩ := k.al
 obtain ⟨a7,b7,p7,e7⟩ := k.ao
 obtain ⟨a8,b8,p8,e8⟩ := k.ar
 have q1 := k.inn _ _ p1
 have q2 := k.inn _ _ p2
 have q3 := k.inn _ _ p3
 have q4 := k.inn _ _ p4
 have q5 := h.inn _ _ p5
 have q6 := h.inn _ _ p6
 have q7 := h.inn _ _ p7
 have q8 := h.inn _ _ p8
 omega
theorem Hull.congr {pr pr' : Nat → Nat → Prop} {t l lo ri : Int} (h : Hull pr t l lo ri) (e : ∀ a b,pr a b ↔ pr' a b) : Hull pr' t l lo ri := by
 have : pr = pr' := by funext a b; exact propext (e a b)
 exact this ▸ h
theorem Hull.add {pr : Nat → Nat → Prop} {t l lo ri : Int} (h : Hull pr t l lo ri) (i j : Nat) : Hull (fun a b => pr a b ∨ (a = i ∧ b = j)) (min t i) (min l j) (max lo i) (max ri j) := by
 refine ⟨?_,?_,?_,?_,?_⟩
 ·rintro a b (p | ⟨rfl,rfl⟩)
  ·have := h.inn a b p; omega
  ·omega
 ·by_cases e : t ≤ i
  ·obtain ⟨a,b,p,q⟩ := h.at_; exact ⟨a,b,.inl p,by omega⟩
  ·exact ⟨i,j,.inr ⟨rfl,rfl⟩,by omega⟩
 ·by_cases e : l ≤ j
  ·obtain ⟨a,b,p,q⟩ := h.al; exact ⟨a,b,.inl p,by omega⟩
  ·exact ⟨i,j,.inr ⟨rfl,rfl⟩,by omega⟩
 ·by_cases e : (i : Int) ≤ lo
  ·obtain ⟨a,b,p,q⟩ := h.ao; exact ⟨a,b,.inl p,by omega⟩
  ·exact ⟨i,j,.inr ⟨rfl,rfl⟩,by omega⟩
 ·by_cases e : (j : Int) ≤ ri
  ·obtain ⟨a,b,p,q⟩ := h.ar; exact ⟨a,b,.inl p,by omega⟩
  ·exact ⟨i,j,.inr ⟨rfl,rfl⟩,by omega⟩
theorem Hull.one {pr : Nat → Nat → Prop} (h : ∀ a b,¬ pr a b) (i j : Nat) : Hull (fun a b => pr a b ∨ (a = i ∧ b = j)) i j i j := by
 refine ⟨?_,⟨i,j,.inr ⟨rfl,rfl⟩,rfl⟩,⟨i,j,.inr ⟨rfl,rfl⟩,rfl⟩,⟨i,j,.inr ⟨rfl,rfl⟩,rfl⟩,⟨i,j,.inr ⟨rfl,rfl⟩,rfl⟩⟩
 rintro a b (p | ⟨rfl,rfl⟩)
 ·exact absurd p (h a b)
 ·omega
def Gone (W i j a b : Nat) : Prop := b < W ∧ (a < i ∨ (a = i ∧ b < j))
theorem gone_succ {W i j a b : Nat} (hj : j < W) : Gone W i (j + 1) a b ↔ Gone W i j a b ∨ (a = i ∧ b = j) := by unfold Gone; omega
theorem gone_row {W i a b : Nat} : Gone W i W a b ↔ Gone W (i + 1) 0 a b := by unfold Gone; omega
def Val (z : Nat → Nat → Int) (W i j : Nat) (v : Int) (a b : Nat) : Prop := z a b = v ∧ Gone W i j a b
theorem val_hit {z : Nat → Nat → Int} {W i j : Nat} {v : Int} (hj : j < W) (h : z i j = v) (a b : Nat) : (Val z W i j v a b ∨ (a = i ∧ b = j)) ↔ Val z W i (j + 1) v a b := by
 unfold Val
 rw [gone_succ hj]
 constructor
 ·rintro (⟨h1,h2⟩ | ⟨rfl,rfl⟩)
  ·exact ⟨h1,.inl h2⟩
  ·exact ⟨h,.inr ⟨rfl,rfl⟩⟩
 ·rintro ⟨h1,h2 | h2⟩
  ·exact .inl ⟨h1,h2⟩
  ·exact .inr h2
theorem val_miss {z : Nat → Nat → Int} {W i j : Nat} {v : Int} (hj : j < W) (h : z i j ≠ v) (a b : Nat) : Val z W i j v a b ↔ Val z W i (j + 1) v a b := by
 unfold Val
 rw [gone_succ hj]
 constructor
 ·rintro ⟨h1,h2⟩; exact ⟨h1,.inl h2⟩
 ·rintro ⟨h1,h2 | ⟨rfl,rfl⟩⟩
  ·exact ⟨h1,h2⟩
  ·exact absurd h1 h
theorem val_row {z : Nat → Nat → Int} {W i : Nat} {v : Int} (a b : Nat) : Val z W i W v a b ↔ Val z W (i + 1) 0 v a b := by unfold Val; rw [gone_row]
def HullR (pr : Nat → Nat → Prop) (b : Rect) : Prop := Hull pr b.row b.col (b.row + b.high - 1) (b.col + b.wide - 1)
theorem HullR.both {pr : Nat → Nat → Prop} {b : Rect} (h : HullR pr b) (i j : Nat) : HullR (fun a c => pr a c ∨ (a = i ∧ c = j)) (b.both (oneR i j)) := by
 have := Hull.add h i j
 unfold HullR Rect.both oneR
 simp only
 rw [show min b.row (i : Int) + (max (b.row + b.high) ((i : Int) + 1) - min b.row (i : Int)) - 1 = max (b.row + b.high - 1) i by omega,show min b.col (j : Int) + (max (b.col + b.wide) ((j : Int) + 1) - min b.col (j : Int)) - 1 = max (b.col + b.wide - 1) j by omega]
 exact this
theorem one_both {i j : Nat} : (oneR i j).both (oneR i j) = oneR i j := by
 unfold Rect.both oneR
 simp only [Rect.mk.injEq]
 omega
theorem HullR.one {pr : Nat → Nat → Prop} (h : ∀ a b,¬ pr a b) (i j : Nat) : HullR (fun a b => pr a b ∨ (a = i ∧ b = j)) (oneR i j) := by
 have := Hull.one h i j
 unfold HullR oneR
 simp only
 rw [show (i : Int) + 1 - 1 = i by omega,show (j : Int) + 1 - 1 = j by omega]
 exact this
theorem HullR.congr {pr pr' : Nat → Nat → Prop} {b : Rect} (h : HullR pr b) (e : ∀ a c,pr a c ↔ pr' a c) : HullR pr' b := Hull.congr h e
structure SeInv (z : Nat → Nat → Int) (W i j : Nat) (ks : List Int) (rs : List Rect) : Prop where
 nd : ks.Nodup
 len : rs.length = ks.length
 mem : ∀ a b,Gone W i j a b → z a b ∈ ks
 hull : ∀ (m : Nat) v b,ks[m]? = some v → rs[m]? = some b → HullR (Val z W i j v) b
theorem nodup_one {l : List Int} (h : l.Nodup) {a b : Nat} {v : Int} (ha : l[a]? = some v) (hb : l[b]? = some v) : a = b := by
 obtain ⟨p1,q1⟩ := List.getElem?_eq_some_iff.1 ha
 obtain ⟨p2,q2⟩ := List.getElem?_eq_some_iff.1 hb
 have := List.pairwise_iff_getElem.1 h
 rcases Nat.lt_trichotomy a b with hlt | heq | hgt
 ·exact absurd (q1.trans q2.symm) (this a b p1 p2 hlt)
 ·exact heq
 ·exact absurd (q2.trans q1.symm) (this b a p2 p1 hgt)
theorem idxOf_mem {ks : List Int} {z : Int} (h : ¬ ks.idxOf z = ks.length) : ks[ks.idxOf z]? = some z := by
 have hl := idxOf_le (ks := ks) (z := z)
 have : z ∈ ks := by rw [← List.idxOf_lt_length_iff]; omega
 rw [List.getElem?_eq_getElem (List.idxOf_lt_length_iff.2 this),List.getElem_idxOf]
theorem idxOf_not {ks : List Int} {z : Int} (h : ks.idxOf z = ks.length) : z ∉ ks := by
 intro hm
 have := List.idxOf_lt_length_iff.2 hm
 omega
theorem SeInv.step {z : Nat → Nat → Int} {W i j : Nat} {ks : List Int} {rs : List Rect} (h : SeInv z W i j ks rs) (hj : j < W) : SeInv z W i (j + 1) (seKs ks (z i j)) (seRs ks rs (z i j) (oneR i j)) := by
 have hlen := h.len
 by_cases hin : ks.idxOf (z i j) = ks.length
 ·have hnm := idxOf_not hin
  have e1 : seKs ks (z i j) = ks ++ [z i j] := by simp [seKs,hin]
  have e2 : seRs ks rs (z i j) (oneR i j) = rs ++ [oneR i j] := by
   unfold seRs seIn
   rw [if_pos hin,hin,← hlen,List.getD_eq_getElem?_getD]
   simp [one_both]
  rw [e1,e2]
  refine ⟨?_,by simp [hlen],?_,?_⟩
  ·rw [List.nodup_append]
   refine ⟨h.nd,by simp,?_⟩
   intro a ha b hb
   rw [List.mem_singleton] at hb
   rintro rfl
   exact hnm (hb ▸ ha)
  ·intro a b hab
   rw [gone_succ hj] at hab
   rcases hab with hab | ⟨rfl,rfl⟩
   ·exact List.mem_append_left _ (h.mem a b hab)
   ·simp
  ·intro m v b hm hb
   by_cases hml : m < ks.length
   ·rw [List.getElem?_append_left hml] at hm
    rw [List.getElem?_append_left (by omega)] at hb
    have hv : z i j ≠ v := fun e => hnm (e ▸ List.mem_of_getElem? hm)
    exact (h.hull m v b hm hb).congr (val_miss hj hv)
   ·have hml2 := len_of hm
    simp only [List.length_append,List.length_singleton] at hml2
    obtain rfl : m = ks.length := by omega
    rw [List.getElem?_append_right (Nat.le_refl _),Nat.sub_self] at hm
    rw [← hlen,List.getElem?_append_right (Nat.le_refl _),Nat.sub_self] at hb
    simp only [List.getElem?_cons_zero,Option.some.injEq] at hm hb
    subst hm hb
    exact (HullR.one (pr := Val z W i j (z i j)) (fun a b hab => hnm (hab.1 ▸ h.mem a b hab.2)) i j).congr (val_hit hj rfl)
 ·have hk := idxOf_mem hin
  have hkl := len_of hk
  have e1 : seKs ks (z i j) = ks := by simp [seKs,hin]
  obtain ⟨b0,hb0,-⟩ := get_of (show ks.idxOf (z i j) < rs.length by omega)
  have e2 : seRs ks rs (z i j) (oneR i j) = rs.set (ks.idxOf (z i j)) (b0.both (oneR i j)) := by
   unfold seRs seIn
   rw [if_neg hin,List.getD_eq_getElem?_getD,hb0]; rfl
  rw [e1,e2]
  refine ⟨h.nd,by simp [hlen],?_,?_⟩
  ·intro a b hab
   rw [gone_succ hj] at hab
   rcases hab with hab | ⟨rfl,rfl⟩
   ·exact h.mem a b hab
   ·exact List.mem_of_getElem? hk
  ·intro m v b hm hb
   rw [List.getElem?_set] at hb
   by_cases e : ks.idxOf (z i j) = m
   ·subst e
    rw [if_pos rfl,if_pos (by omega)] at hb
    cases hb
    rw [hk] at hm
    cases hm
    exact ((h.hull _ _ _ hk hb0).both i j).congr (val_hit hj rfl)
   ·rw [if_neg e] at hb
    have hv : z i j ≠ v := by
     rintro rfl
     exact e (nodup_one h.nd hk hm)
    exact (h.hull m v b hm hb).congr (val_miss hj hv)
theorem SeInv.nil {z : Nat → Nat → Int} {W : Nat} : SeInv z W 0 0 [] [] := by
 refine ⟨by simp,rfl,?_,by simp⟩
 intro a b h
 unfold Gone at h; omega
theorem SeInv.row {g : List (List Int)} {W i : Nat} {s : List Int × List Rect} (h : SeInv (gz g) W i 0 s.1 s.2) : ∀ j,j ≤ W → SeInv (gz g) W i j (seRow g i s j).1 (seRow g i s j).2
 | 0,_ => h
 | j + 1,hj => (SeInv.row h j (by omega)).step (by omega)
theorem SeInv.rows {g : List (List Int)} {W : Nat} : ∀ i,SeInv (gz g) W i 0 (seRows g W i).1 (seRows g W i).2
 | 0 => SeInv.nil
 | i + 1 => by
  have h := (SeInv.rows (g := g) (W := W) i).row W (Nat.le_refl _)
  refine ⟨h.nd,h.len,fun a b hab => h.mem a b (gone_row.2 hab),fun m v b hm hb => (h.hull m v b hm hb).congr (fun a c => val_row a c)⟩
theorem seRow_pre {g : List (List Int)} {i : Nat} {s : List Int × List Rect} : ∀ {j k : Nat},j ≤ k → ∃ r,(seRow g i s k).1 = (seRow g i s j).1 ++ r
 | j,0,h => by
  have hj : j = 0 := by omega
  subst hj; exact ⟨[],by simp⟩
 | j,k + 1,h => by
  by_cases e : j = k + 1
  ·subst e; exact ⟨[],by simp⟩
  ·obtain ⟨r,hr⟩ := seRow_pre (g := g) (i := i) (s := s) (show j ≤ k by omega)
   simp only [seRow,seKs]
   split
   ·exact ⟨r ++ [gz g i k],by rw [hr,List.append_assoc]⟩
   ·exact ⟨r,hr⟩
theorem seRows_pre {g : List (List Int)} {W : Nat} : ∀ {i k : Nat},i ≤ k → ∃ r,(seRows g W k).1 = (seRows g W i).1 ++ r
 | i,0,h => by
  have hi : i = 0 := by omega
  subst hi; exact ⟨[],by simp⟩
 | i,k + 1,h => by
  by_cases e : i = k + 1
  ·subst e; exact ⟨[],by simp⟩
  ·obtain ⟨r,hr⟩ := seRows_pre (g := g) (W := W) (show i ≤ k by omega)
   obtain ⟨r2,hr2⟩ := seRow_pre (g := g) (i := k) (s := seRows g W k) (Nat.zero_le W)
   simp only [seRows]
   refine ⟨r ++ r2,?_⟩
   rw [hr2,← List.append_assoc,← hr]; rfl
theorem idxOf_app {l r : List Int} {x : Int} (h : ¬ l.idxOf x = l.length) : (l ++ r).idxOf x = l.idxOf x := by
 have hl := idxOf_le (ks := l) (z := x)
 have hm : x ∈ l := by rw [← List.idxOf_lt_length_iff]; omega
 rw [List.idxOf_append,if_pos hm]
theorem idxOf_new {l r : List Int} {x : Int} (h : l.idxOf x = l.length) : (l ++ [x] ++ r).idxOf x = l.length := by
 have hm : x ∉ l := idxOf_not h
 rw [List.append_assoc,List.idxOf_append,if_neg hm]
 simp
theorem zNum {g : List (List Int)} {W nh i j : Nat} (hi : i < nh) (hj : j < W) : ((seRow g i (seRows g W i) j).1.idxOf (gz g i j)) = (seRows g W nh).1.idxOf (gz g i j) := by
 obtain ⟨r,hr⟩ := seRows_pre (g := g) (W := W) (show i + 1 ≤ nh by omega)
 obtain ⟨r2,hr2⟩ := seRow_pre (g := g) (i := i) (s := seRows g W i) (show j + 1 ≤ W by omega)
 have e : (seRows g W nh).1 = seKs (seRow g i (seRows g W i) j).1 (gz g i j) ++ (r2 ++ r) := by
  rw [hr,← List.append_assoc]
  congr 1
 rw [e]
 generalize (seRow g i (seRows g W i) j).1 = ks
 unfold seKs
 by_cases hin : ks.idxOf (gz g i j) = ks.length
 ·rw [if_pos hin,idxOf_new hin,hin]
 ·rw [if_neg hin,idxOf_app hin]
def inZ (p : List Txt) (r : Int) (i j : Nat) : Bool := decide (cellZ p i j = r)
theorem inRoom_is {p : List Txt} {i k : Nat} {row : Txt} {c : UInt8} {r : Int} (h : p[i]? = some row) (hc : row[k]? = some c) : inRoom r c = inZ p r i k := by
 unfold inRoom inZ; rw [cellZ_is h hc]
theorem cellsRow_cnt {p : List Txt} {i : Nat} {row : Txt} {r : Int} (h : p[i]? = some row) (n : Int) : ∀ k,k ≤ row.length → cellsRow r n (row.take k) = n + sN k fun j => b1 (inZ p r i j)
 | 0,_ => by simp [cellsRow,sN]
 | k + 1,hk => by
  obtain ⟨c,hc,-⟩ := get_of (show k < row.length by omega)
  have ih := cellsRow_cnt (r := r) h n k (by omega)
  unfold cellsRow at ih ⊢
  rw [foldl_tk hc,ih,sN,inRoom_is h hc]
  cases inZ p r i k <;> simp [b1]
  omega
theorem l1Cells_cnt {p : List Txt} {W : Nat} (hW : ∀ row ∈ p,row.length = W) {r : Int} : ∀ i,i ≤ p.length → (p.take i).foldl (cellsRow r) 0 = ((sN i fun i => sN W fun j => b1 (inZ p r i j) : Nat) : Int)
 | 0,_ => by simp [sN]
 | i + 1,hi => by
  obtain ⟨row,hr,hm⟩ := get_of (show i < p.length by omega)
  have ih := l1Cells_cnt hW (r := r) i (by omega)
  have hl := hW row hm
  have := cellsRow_cnt (r := r) hr (((sN i fun i => sN W fun j => b1 (inZ p r i j) : Nat) : Int)) W (by omega)
  rw [List.take_of_length_le (by omega)] at this
  rw [foldl_tk hr,ih,this,sN]
  simp
theorem l1Cells_is {p : List Txt} {W : Nat} (hW : ∀ row ∈ p,row.length = W) {r : Int} : l1Cells p r = ((cnt p.length W (inZ p r) : Nat) : Int) := by
 have := l1Cells_cnt hW (r := r) p.length (Nat.le_refl _)
 rwa [List.take_length] at this
def BoxInv (H W : Nat) (pr : Nat → Nat → Prop) (b : Box) : Prop := ((∀ a c,¬ pr a c) ∧ b = ⟨H,W,-1,-1⟩) ∨ Hull pr b.top b.left b.low b.right
theorem BoxInv.congr {H W : Nat} {pr pr' : Nat → Nat → Prop} {b : Box} (h : BoxInv H W pr b) (e : ∀ a c,pr a c ↔ pr' a c) : BoxInv H W pr' b := by
 have : pr = pr' := by funext a b; exact propext (e a b)
 exact this ▸ h
theorem BoxInv.add {H W : Nat} {pr : Nat → Nat → Prop} {b : Box} (h : BoxInv H W pr b) {i k : Nat} (hi : i < H) (hk : k < W) : BoxInv H W (fun a c => pr a c ∨ (a = i ∧ c = k)) ⟨min b.top i,min b.left k,max b.low i,max b.right k⟩ := by
 rcases h with ⟨h1,rfl⟩ | h
 ·right
  have := Hull.one h1 i k
  simp only
  rw [show min (H : Int) i = i by omega,show min (W : Int) k = k by omega,show max (-1 : Int) i = i by omega,show max (-1 : Int) k = k by omega]
  exact this
 ·exact .inr (Hull.add h i k)
theorem rowTo_inv {p : List Txt} {H W i : Nat} {row : Txt} {r : Int} (hr : p[i]? = some row) (hW : row.length = W) (hi : i < H) {b : Box} (h : BoxInv H W (Val (cellZ p) W i 0 r) b) : ∀ k,k ≤ W → BoxInv H W (Val (cellZ p) W i k r) (rowTo r i b row k)
 | 0,_ => by simpa [rowTo] using h
 | k + 1,hk => by
  obtain ⟨c,hc,-⟩ := get_of (show k < row.length by omega)
  have ih := rowTo_inv hr hW hi h k (by omega)
  rw [rowTo_succ hc]
  unfold boxCell
  simp only
  rw [inRoom_is hr hc]
  by_cases e : cellZ p i k = r
  ·rw [if_pos (by unfold inZ; exact decide_eq_true e)]
   exact (ih.add hi (by omega)).congr (val_hit (by omega) e)
  ·rw [if_neg (by unfold inZ; rw [decide_eq_false e]; exact Bool.false_ne_true)]
   exact ih.congr (val_miss (by omega) e)
theorem boxTo_inv {p : List Txt} {W : Nat} (hW : ∀ row ∈ p,row.length = W) (hh : (hdRow p).length = W) {r : Int} : ∀ i,i ≤ p.length → BoxInv p.length W (Val (cellZ p) W i 0 r) (boxTo p r i)
 | 0,_ => by
  left
  refine ⟨fun a c h => ?_,by simp [boxTo,hh]⟩
  have := h.2
  unfold Gone at this; omega
 | i + 1,hi => by
  obtain ⟨row,hr,hm⟩ := get_of (show i < p.length by omega)
  rw [boxTo_succ hr]
  have := rowTo_inv (r := r) hr (hW row hm) (by omega) (boxTo_inv hW hh i (by omega)) W (Nat.le_refl _)
  rw [hW row hm]
  exact this.congr fun a c => val_row a c
theorem boxOf_inv {p : List Txt} {W : Nat} (hW : ∀ row ∈ p,row.length = W) (hh : (hdRow p).length = W) {r : Int} : BoxInv p.length W (Val (cellZ p) W p.length 0 r) (boxOf p r) := by
 rw [← boxTo_all]; exact boxTo_inv hW hh p.length (Nat.le_refl _)
theorem Hull.nat {z : Nat → Nat → Int} {H W : Nat} {v : Int} {t l lo ri : Int} (h : Hull (Val z W H 0 v) t l lo ri) : ∃ t' l' h' w' : Nat,t = t' ∧ l = l' ∧ lo = t' + h' - 1 ∧ ri = l' + w' - 1 ∧ 1 ≤ h' ∧ 1 ≤ w' ∧ t' + h' ≤ H ∧ l' + w' ≤ W ∧
  ∀ i j,i < H → j < W → z i j = v → inR t' l' h' w' i j = true := by
 obtain ⟨a1,b1,p1,e1⟩ := h.at_
 obtain ⟨a2,b2,p2,e2⟩ := h.al
 obtain ⟨a3,b3,p3,e3⟩ := h.ao
 obtain ⟨a4,b4,p4,e4⟩ := h.ar
 have q1 := h.inn _ _ p1
 have q2 := h.inn _ _ p2
 obtain ⟨-,g3,g3'⟩ := p3
 obtain ⟨-,g4,g4'⟩ := p4
 refine ⟨a1,b2,a3 + 1 - a1,b4 + 1 - b2,e1.symm,e2.symm,by omega,by omega,by omega,by omega,by omega,by omega,fun i j hi hj hv => ?_⟩
 have := h.inn i j ⟨hv,by unfold Gone; omega⟩
 unfold inR
 simp only [Bool.and_eq_true,decide_eq_true_eq]
 omega
def u8I (c : UInt8) : Int := (c.toNat : Int)
theorem u8I_inj {a b : UInt8} (h : u8I a = u8I b) : a = b := by
 unfold u8I at h
 exact UInt8.toNat_inj.1 (by omega)
theorem idxOf_map {α β : Type} [DecidableEq α] [DecidableEq β] {f : α → β} (hf : ∀ a b,f a = f b → a = b) {c : α} : ∀ (l : List α),(l.map f).idxOf (f c) = l.idxOf c
 | [] => rfl
 | a :: l => by
  rw [List.map_cons,List.idxOf_cons,List.idxOf_cons,idxOf_map hf l]
  by_cases e : a = c
  ·subst e; simp
  ·have e2 : f a ≠ f c := fun h => e (hf _ _ h)
   rw [show (f a == f c) = false by simpa using e2,show (a == c) = false by simpa using e]
theorem gz_read {p : List Txt} {i k : Nat} {row : Txt} {c : UInt8} (h : p[i]? = some row) (hc : row[k]? = some c) : gz (readG p) i k = u8I c := by
 simp [gz,readG,rowZ,h,hc,u8I]
theorem nameRow_is {p : List Txt} {i : Nat} {row : Txt} (h : p[i]? = some row) {o : List UInt8} {s : List Int × List Rect} (ho : o.map u8I = s.1) : ∀ j,j ≤ row.length →
  ((row.take j).foldl nameStep (o,[])).1.map u8I = (seRow (readG p) i s j).1 ∧ ((row.take j).foldl nameStep (o,[])).2 = rowT (zRow (readG p) i s j)
 | 0,_ => ⟨by simpa [seRow] using ho,by simp [zRow,rowT]⟩
 | j + 1,hj => by
  obtain ⟨c,hc,-⟩ := get_of (show j < row.length by omega)
  obtain ⟨h1,h2⟩ := nameRow_is h ho j (by omega)
  rw [foldl_tk hc]
  generalize (row.take j).foldl nameStep (o,[]) = q at h1 h2 ⊢
  have hz := gz_read h hc
  have hi : (seRow (readG p) i s j).1.idxOf (gz (readG p) i j) = q.1.idxOf c := by rw [← h1,hz,idxOf_map fun a b => u8I_inj]
  have hl : (seRow (readG p) i s j).1.length = q.1.length := by rw [← h1,List.length_map]
  constructor
  ·simp only [nameStep,seRow,seKs]
   rw [hi,hl]
   split
   ·rw [List.map_append,h1,hz]; rfl
   ·exact h1
  ·simp only [nameStep,zRow]
   rw [hi,h2]
   simp [rowT,letZ]
theorem names_to {p : List Txt} {W : Nat} (hW : ∀ row ∈ p,row.length = W) : ∀ i,i ≤ p.length →
  ((p.take i).foldl nameGo ([],[])).1.map u8I = (seRows (readG p) W i).1 ∧ ((p.take i).foldl nameGo ([],[])).2 = textG (zRows (readG p) W i)
 | 0,_ => by simp [seRows,zRows,textG]
 | i + 1,hi => by
  obtain ⟨row,hr,hm⟩ := get_of (show i < p.length by omega)
  obtain ⟨h1,h2⟩ := names_to hW i (by omega)
  rw [foldl_tk hr]
  generalize (p.take i).foldl nameGo ([],[]) = q at h1 h2 ⊢
  have hl := hW row hm
  obtain ⟨k1,k2⟩ := nameRow_is hr h1 row.length (Nat.le_refl _)
  rw [List.take_length,hl] at k1 k2
  constructor
  ·simp only [nameGo,nameRow,seRows]; exact k1
  ·simp only [nameGo,nameRow,zRows,textG,List.map_append,List.map_cons,List.map_nil]
   rw [k2,h2]
   rfl
theorem w0_read {p : List Txt} : w0 (readG p) = (hdRow p).length := by
 cases p with
 | nil => rfl
 | cons a p => simp [w0,readG,rowZ,hdRow]
theorem grid_rows {p : List Txt} (hg : gridB p = true) : ∀ row ∈ p,row.length = (hdRow p).length := by
 intro row hm
 obtain ⟨i,hi⟩ := List.getElem?_of_mem hm
 exact grid_row hg hi
theorem names_text {p : List Txt} (hg : gridB p = true) : names p = textG (gP p) := by
 have := (names_to (grid_rows hg) p.length (Nat.le_refl _)).2
 rw [List.take_length] at this
 unfold names namesAll gP zG
 rw [this,w0_read,readG_len]
theorem grid_iff {p : List Txt} : gridB p = (lettersB p && okG (readG p)) := by
 rw [Bool.eq_iff_iff,Bool.and_eq_true,okG_iff,readG_len,w0_read]
 unfold gridB lettersB GW rowB
 simp only [Bool.and_eq_true,decide_eq_true_eq,List.all_eq_true,readG_len,true_and]
 constructor
 ·rintro ⟨⟨h1,h2⟩,h3⟩
  obtain ⟨row0,hr0,hm0⟩ := get_of (show 0 < p.length by omega)
  have hh := hdRow_of hr0
  have h4 := h1 row0 hm0
  refine ⟨fun r hr => (h1 r hr).2,fun r hr => ?_,h2,h3,by rw [hh]; omega,by rw [hh]; omega⟩
  obtain ⟨t,ht,rfl⟩ := List.mem_map.1 hr
  rw [rowZ_len]; exact (h1 t ht).1.1.1
 ·rintro ⟨h1,h2,h3,h4,h5,h6⟩
  refine ⟨⟨fun r hr => ?_,h3⟩,h4⟩
  have := h2 (rowZ r) (List.mem_map.2 ⟨r,hr,rfl⟩)
  rw [rowZ_len] at this
  exact ⟨⟨⟨this,by omega⟩,by omega⟩,h1 r hr⟩
theorem zRow_at {g : List (List Int)} {i : Nat} {s : List Int × List Rect} : ∀ {j k : Nat},k < j → (zRow g i s j)[k]? = some (((seRow g i s k).1.idxOf (gz g i k) : Nat) : Int)
 | 0,k,h => by omega
 | j + 1,k,h => by
  unfold zRow
  by_cases e : k = j
  ·subst e; rw [List.getElem?_append_right (by rw [zRow_len]; exact Nat.le_refl _),zRow_len]; simp
  ·rw [List.getElem?_append_left (by rw [zRow_len]; omega)]; exact zRow_at (by omega)
def keys (p : List Txt) : List Int := (seRows (readG p) (hdRow p).length p.length).1
theorem gP_eq {p : List Txt} : gP p = zRows (readG p) (hdRow p).length p.length := by unfold gP zG; rw [w0_read,readG_len]
theorem rP_eq {p : List Txt} : rP p = (seRows (readG p) (hdRow p).length p.length).2 := by unfold rP stG; rw [w0_read,readG_len]
theorem gP_at {p : List Txt} {i j : Nat} (hi : i < p.length) (hj : j < (hdRow p).length) : gz (gP p) i j = (((keys p).idxOf (gz (readG p) i j) : Nat) : Int) := by
 rw [gP_eq]
 unfold gz
 rw [zRows_at hi,Option.getD_some,zRow_at hj,Option.getD_some]
 congr 1
 exact zNum hi hj
theorem keys_inv (p : List Txt) : SeInv (gz (readG p)) (hdRow p).length p.length 0 (keys p) (rP p) := by
 rw [rP_eq]; exact SeInv.rows p.length
theorem gone_all {H W i j : Nat} (hi : i < H) (hj : j < W) : Gone W H 0 i j := ⟨hj,.inl hi⟩
theorem gP_room {p : List Txt} : RmOk (gP p) p.length (hdRow p).length (rP p).length := by
 intro i j hi hj
 rw [gP_at hi hj]
 have hm := (keys_inv p).mem i j (gone_all hi hj)
 have hl := (keys_inv p).len
 have := List.idxOf_lt_length_iff.2 hm
 omega
structure Named (p : List Txt) : Prop where
 hg : gridB p = true
 ht : textG (gP p) = p
theorem Named.cell {p : List Txt} (h : Named p) {i j : Nat} (hi : i < p.length) (hj : j < (hdRow p).length) : gz (gP p) i j = cellZ p i j := by
 have hgz := gP_at hi hj
 have hm := (keys_inv p).mem i j (gone_all hi hj)
 have hsm := grid_small h.hg
 obtain ⟨row0,hr0,hm0⟩ := get_of hsm.1
 have hh := hdRow_of hr0
 have hw6 := hsm.2.2 row0 hm0
 have hw1 := row_pos h.hg hr0
 rw [← hh] at hw6 hw1
 have hb := zRows_bound (g := readG p) hw6 hw1 p.length hsm.2.1
 rw [← gP_eq] at hb
 have hrl : (gP p).length = p.length := by rw [gP_eq]; exact zRows_len _
 obtain ⟨zr,hzr,hzm⟩ := get_of (show i < (gP p).length by omega)
 have hzl : zr.length = (hdRow p).length := by
  have e := hzr
  rw [gP_eq,zRows_at hi] at e
  cases e
  exact zRow_len _
 obtain ⟨z,hz,hzm2⟩ := get_of (show j < zr.length by omega)
 have hz1 := hb zr hzm z hzm2
 have e1 : gz (gP p) i j = z := by simp [gz,hzr,hz]
 have e2 : p[i]? = some (rowT zr) := by
  have := textG_at hzr
  rwa [h.ht] at this
 have e3 : (rowT zr)[j]? = some (letZ z) := by simp [rowT,hz]
 rw [e1,cellZ_is e2 e3]
 unfold letZ
 rw [UInt8.toNat_ofNat_of_lt' (by show 97 + z.toNat < 256; omega)]
 omega
theorem Named.room {p : List Txt} (h : Named p) {i j : Nat} (hi : i < p.length) (hj : j < (hdRow p).length) : 0 ≤ cellZ p i j ∧ cellZ p i j < (rP p).length := by
 rw [← h.cell hi hj]; exact gP_room i j hi hj
theorem Named.key {p : List Txt} (h : Named p) {m : Nat} {v : Int} (hm : (keys p)[m]? = some v) (a b : Nat) : Val (gz (readG p)) (hdRow p).length p.length 0 v a b ↔ Val (cellZ p) (hdRow p).length p.length 0 m a b := by
 unfold Val
 constructor
 ·rintro ⟨h1,h2⟩
  refine ⟨?_,h2⟩
  obtain ⟨hb,ha⟩ := h2
  have ha' : a < p.length := by omega
  rw [← h.cell ha' hb,gP_at ha' hb,h1]
  congr 1
  have hv := List.mem_of_getElem? hm
  have hlt := List.idxOf_lt_length_iff.2 hv
  have := idxOf_mem (ks := keys p) (z := v) (by omega)
  exact nodup_one (keys_inv p).nd this hm
 ·rintro ⟨h1,h2⟩
  refine ⟨?_,h2⟩
  obtain ⟨hb,ha⟩ := h2
  have ha' : a < p.length := by omega
  have hmem := (keys_inv p).mem a b (gone_all ha' hb)
  have hlt := List.idxOf_lt_length_iff.2 hmem
  rw [← h.cell ha' hb,gP_at ha' hb] at h1
  have := idxOf_mem (ks := keys p) (z := gz (readG p) a b) (by omega)
  rw [show (keys p).idxOf (gz (readG p) a b) = m by omega,hm] at this
  cases this; rfl
theorem Named.rect {p : List Txt} (h : Named p) {m : Nat} {b : Rect} (hb : (rP p)[m]? = some b) : HullR (Val (cellZ p) (hdRow p).length p.length 0 m) b := by
 have hi := keys_inv p
 have hml := len_of hb
 rw [hi.len] at hml
 obtain ⟨v,hv,-⟩ := get_of hml
 exact (hi.hull m v b hv hb).congr (h.key hv)
theorem Named.box {p : List Txt} (h : Named p) {m : Nat} {b : Rect} (hb : (rP p)[m]? = some b) : b.row = (boxOf p m).top ∧ b.col = (boxOf p m).left ∧ b.high = highOf p m ∧ b.wide = wideOf p m := by
 have h1 := h.rect hb
 have h2 := boxOf_inv (grid_rows h.hg) rfl (r := (m : Int))
 rcases h2 with ⟨h2,-⟩ | h2
 ·obtain ⟨a,c,q,-⟩ := h1.at_
  exact absurd q (h2 a c)
 ·have := Hull.uniq h1 h2
  unfold highOf wideOf
  omega
theorem foldl_max_le {f : UInt8 → Int} {B : Int} : ∀ (row : Txt) (n : Int),n ≤ B → (∀ c ∈ row,f c ≤ B) → row.foldl (fun n c => max n (f c)) n ≤ B
 | [],n,h,_ => h
 | c :: row,n,h,hc => foldl_max_le row _ (by have := hc c (by simp); show max n (f c) ≤ B; omega) fun d hd => hc d (by simp [hd])
theorem rooms_le {B : Int} : ∀ (p : List Txt) (n : Int),n ≤ B → (∀ row ∈ p,∀ c ∈ row,(c.toNat : Int) - 97 + 1 ≤ B) → p.foldl rowMax n ≤ B
 | [],n,h,_ => h
 | row :: p,n,h,hc => rooms_le p _ (foldl_max_le row n h (hc row (by simp))) fun r hr => hc r (by simp [hr])
theorem Named.rooms {p : List Txt} (h : Named p) : l1Rooms p = (rP p).length := by
 have hi := keys_inv p
 have hl := hi.len
 apply Int.le_antisymm
 ·refine rooms_le p 0 (by omega) fun row hr c hc => ?_
  obtain ⟨i,hrow⟩ := List.getElem?_of_mem hr
  obtain ⟨j,hcol⟩ := List.getElem?_of_mem hc
  have hil := len_of hrow
  have hjl := len_of hcol
  have := h.room hil (by rw [← grid_row h.hg hrow]; exact hjl)
  rw [cellZ_is hrow hcol] at this
  omega
 ·by_cases h0 : (rP p).length = 0
  ·have := (l1Rooms_bound p).1; omega
  ·obtain ⟨b,hb,-⟩ := get_of (show (rP p).length - 1 < (rP p).length by omega)
   obtain ⟨a,c,⟨q1,q2⟩,-⟩ := (h.rect hb).at_
   obtain ⟨hc,ha⟩ := q2
   have ha' : a < p.length := by omega
   obtain ⟨row,hrow,hrm⟩ := get_of ha'
   have hrl := grid_row h.hg hrow
   obtain ⟨d,hd,-⟩ := get_of (show c < row.length by omega)
   have := (rooms_fold p 0).2 a c row d hrow hd
   rw [cellZ_is hrow hd] at q1
   unfold l1Rooms
   omega
def inB (b : Rect) (i j : Nat) : Bool := (decide (b.row ≤ i) && decide ((i : Int) < b.row + b.high)) && (decide (b.col ≤ j) && decide ((j : Int) < b.col + b.wide))
theorem rect_cnt {z : Nat → Nat → Int} {H W : Nat} {v : Int} {b : Rect} (h : HullR (Val z W H 0 v) b) : ((cnt H W (inB b) : Nat) : Int) = b.high * b.wide ∧ ∀ i j,i < H → j < W → z i j = v → inB b i j = true := by
 obtain ⟨t,l,hh,w,e1,e2,e3,e4,h1,h2,h3,h4,h5⟩ := Hull.nat h
 have e5 : b.high = hh := by omega
 have e6 : b.wide = w := by omega
 have e : ∀ i j,inB b i j = inR t l hh w i j := by
  intro i j
  unfold inB inR
  rw [e1,e2,e5,e6,Bool.eq_iff_iff]
  simp only [Bool.and_eq_true,decide_eq_true_eq]
  omega
 have e7 : inB b = inR t l hh w := by funext i j; exact e i j
 rw [e7,cnt_rect h3 h4,e5,e6]
 exact ⟨by simp,h5⟩
def arN (p : List Txt) (m : Nat) : Nat :=
 match (rP p)[m]? with
 | some b => cnt p.length (hdRow p).length (inB b)
 | none => 0
theorem arN_is {p : List Txt} {m : Nat} {b : Rect} (h : (rP p)[m]? = some b) : arN p m = cnt p.length (hdRow p).length (inB b) := by simp [arN,h]
theorem sumA_is {p : List Txt} (h : Named p) : ∀ k,k ≤ (rP p).length → sumA ((rP p).take k) = ((sN k (arN p) : Nat) : Int)
 | 0,_ => by simp [sumA,sN]
 | k + 1,hk => by
  obtain ⟨b,hb,-⟩ := get_of (show k < (rP p).length by omega)
  rw [sumA_succ hb,sumA_is h k (by omega),sN,arN_is hb,← (rect_cnt (h.rect hb)).1]
  simp
theorem Named.cells_le {p : List Txt} (h : Named p) {m : Nat} (hm : m < (rP p).length) : cnt p.length (hdRow p).length (inZ p m) ≤ arN p m := by
 obtain ⟨b,hb,-⟩ := get_of hm
 rw [arN_is hb]
 exact cnt_le fun i j hi hj hz => (rect_cnt (h.rect hb)).2 i j hi hj (by unfold inZ at hz; simpa using hz)
theorem Named.all {p : List Txt} (h : Named p) : sN (rP p).length (fun m => cnt p.length (hdRow p).length (inZ p m)) = p.length * (hdRow p).length := by
 rw [← cnt_classes (H := p.length) (W := (hdRow p).length) (n := (rP p).length) (z := fun i j => (cellZ p i j).toNat) fun i j hi hj => by have := h.room hi hj; omega]
 refine sN_congr fun m hm => cnt_congr fun i j hi hj => ?_
 unfold inZ
 have := h.room hi hj
 apply decide_eq_decide.2
 omega
theorem fullG_is {p : List Txt} (h : Named p) : fullG (readG p) = decide (sN (rP p).length (arN p) = p.length * (hdRow p).length) := by
 have := sumA_is h (rP p).length (Nat.le_refl _)
 rw [List.take_length] at this
 unfold fullG
 rw [show (stG (readG p)).2 = rP p from rfl,this,readG_len,w0_read]
 apply decide_eq_decide.2
 omega
theorem Named.area {p : List Txt} (h : Named p) {m : Nat} (hm : m < (rP p).length) : (l1Cells p m = highOf p m * wideOf p m) ↔ cnt p.length (hdRow p).length (inZ p m) = arN p m := by
 obtain ⟨b,hb,-⟩ := get_of hm
 obtain ⟨-,-,e1,e2⟩ := h.box hb
 rw [l1Cells_is (grid_rows h.hg),← e1,← e2,← (rect_cnt (h.rect hb)).1,arN_is hb]
 omega
theorem Named.full {p : List Txt} (h : Named p) : fullG (readG p) = true ↔ ∀ m,m < (rP p).length → cnt p.length (hdRow p).length (inZ p m) = arN p m := by
 rw [fullG_is h,decide_eq_true_eq,← h.all]
 constructor
 ·intro e m hm
  exact sN_eq (fun m hm => h.cells_le hm) e.symm m hm
 ·intro e
  exact sN_congr fun m hm => (e m hm).symm
theorem Named.fill {p : List Txt} (h : Named p) (hf : fullG (readG p) = true) {m : Nat} {b : Rect} (hb : (rP p)[m]? = some b) {i j : Nat} (hi : i < p.length) (hj : j < (hdRow p).length) : inB b i j = decide (cellZ p i j = m) := by
 have e := h.full.1 hf m (len_of hb)
 rw [arN_is hb] at e
 exact (cnt_eq (fun i j hi hj hz => (rect_cnt (h.rect hb)).2 i j hi hj (by unfold inZ at hz; simpa using hz)) e i j hi hj).symm
theorem floorI_plan {p : List Txt} : floorI p = planB p := by
 unfold floorI floorV okB okS planB
 rw [Bool.eq_iff_iff]
 simp only [Bool.and_eq_true,decide_eq_true_eq,List.all_eq_true,List.mem_range]
 have hgi := grid_iff (p := p)
 constructor
 ·rintro ⟨⟨h1,h2,h3⟩,h4,h5⟩
  have hg : gridB p = true := by rw [hgi,h1,h2]; rfl
  have hN : Named p := ⟨hg,h5⟩
  have hr := hN.rooms
  have h3' : (rP p).length ≤ 9 := h3
  refine ⟨⟨⟨hg,by rw [names_text hg]; exact h5⟩,by omega⟩,fun m hm => ?_⟩
  have hm' : m < (rP p).length := by omega
  exact (hN.area hm').2 (hN.full.1 h4 m hm')
 ·rintro ⟨⟨⟨hg,h2⟩,h3⟩,h4⟩
  have h5 : textG (gP p) = p := by rw [← names_text hg]; exact h2
  have hN : Named p := ⟨hg,h5⟩
  have hr := hN.rooms
  rw [hgi,Bool.and_eq_true] at hg
  have h3' : (rP p).length ≤ 9 := by omega
  exact ⟨⟨hg.1,hg.2,h3'⟩,hN.full.2 fun m hm => (hN.area hm).1 (h4 m (by omega)),h5⟩
theorem plan_named {p : List Txt} (h : planB p = true) : Named p := by
 have h2 := h
 rw [← floorI_plan] at h2
 unfold floorI floorV at h2
 simp only [Bool.and_eq_true,decide_eq_true_eq] at h2
 exact ⟨planB_grid h,h2.2.2⟩
theorem plan_full {p : List Txt} (h : planB p = true) : fullG (readG p) = true := by
 rw [← floorI_plan] at h
 unfold floorI floorV at h
 simp only [Bool.and_eq_true,decide_eq_true_eq] at h
 exact h.2.1
def cz (c : UInt8) : Int := (c.toNat : Int) - 97
theorem cz_inj {a b : UInt8} : (cz a = cz b) = (a = b) := by
 rw [u8_eq]
 unfold cz
 apply propext; omega
theorem dn_dist (a b c d : UInt8) : ((dn [cz a,cz b,cz c,cz d] : Nat) : Int) = distTo [a,b,c,d] 4 := by
 simp only [dn,distTo,newAt,newTo,List.mem_cons,List.not_mem_nil,or_false,cz_inj]
 by_cases h1 : a = b <;> by_cases h2 : a = c <;> by_cases h3 : a = d <;> by_cases h4 : b = c <;> by_cases h5 : b = d <;> by_cases h6 : c = d <;> simp_all [eq_comm]
theorem four_meets {p : List Txt} (h : Named p) {i k : Nat} (hi : 1 ≤ i) (hi2 : i < p.length) (hk : 1 ≤ k) (hk2 : k < (hdRow p).length) : ((dn (four (gP p) i k) : Nat) : Int) = meetsAt p i k := by
 obtain ⟨r1,hr1,-⟩ := get_of (show i - 1 < p.length by omega)
 obtain ⟨r2,hr2,-⟩ := get_of hi2
 have l1 := grid_row h.hg hr1
 have l2 := grid_row h.hg hr2
 obtain ⟨a,ha,-⟩ := get_of (show k - 1 < r1.length by omega)
 obtain ⟨b,hb,-⟩ := get_of (show k < r1.length by omega)
 obtain ⟨c,hc,-⟩ := get_of (show k - 1 < r2.length by omega)
 obtain ⟨d,hd,-⟩ := get_of (show k < r2.length by omega)
 unfold four meetsAt
 rw [h.cell (by omega) (by omega),h.cell (by omega) (by omega),h.cell (by omega) (by omega),h.cell (by omega) (by omega),cellZ_is hr1 ha,cellZ_is hr1 hb,cellZ_is hr2 hc,cellZ_is hr2 hd]
 simp only [hr1,hr2,ha,hb,hc,hd]
 exact dn_dist a b c d
theorem ptsRow_eq {p : List Txt} (h : Named p) {many : Int} {i : Nat} (hi : 1 ≤ i) (hi2 : i < p.length) : ∀ k,k ≤ (hdRow p).length → ptsRowG (gP p) many i k = ptsRow p many i k
 | 0,_ => rfl
 | k + 1,hk => by
  unfold ptsRowG ptsRow
  rw [ptsRow_eq h hi hi2 k (by omega)]
  by_cases h1 : 1 ≤ k
  ·rw [four_meets h hi hi2 h1 (by omega)]
  ·rw [if_neg (fun e => h1 e.1),if_neg (fun e => h1 e.1)]
theorem pts_eq {p : List Txt} (h : Named p) {many : Int} : ∀ i,i ≤ p.length → ptsG (gP p) many (hdRow p).length i = ptsTo p many (hdRow p).length i
 | 0,_ => rfl
 | i + 1,hi => by
  unfold ptsG ptsTo
  rw [pts_eq h i (by omega)]
  by_cases h1 : 1 ≤ i
  ·rw [ptsRow_eq h h1 (by omega) _ (Nat.le_refl _)]
  ·rw [if_neg h1,if_neg h1]
theorem plainI_plain {p : List Txt} : plainI p = plainB p := by
 unfold plainI plainB
 rw [floorI_plan]
 cases hp : planB p with
 | false => rfl
 | true =>
  rw [w0_read,pts_eq (plan_named hp) p.length (Nat.le_refl _)]
  rfl
theorem plain_plan {p : List Txt} (h : plainB p = true) : planB p = true := by
 unfold plainB at h
 rw [Bool.and_eq_true] at h
 exact h.1
theorem needV_needs {p : List Txt} {ws : List Int} : needV p [ws] = needsB p ws := by
 unfold needV needsB needW
 rw [plainI_plain]
 cases hp : plainB p with
 | false => rfl
 | true =>
  have hr := (plan_named (plain_plan hp)).rooms
  simp only [List.all_cons,List.all_nil,Bool.and_true,Bool.true_and]
  congr 1
  rw [hr]
  apply decide_eq_decide.2
  omega
theorem mem_ddp {l : List Int} {x : Int} : x ∈ ddp l ↔ x ∈ l := by
 have : ∀ (l m : List Int),x ∈ l.foldl putL m ↔ x ∈ m ∨ x ∈ l := by
  intro l
  induction l with
  | nil => intro m; simp
  | cons a l ih => intro m; rw [List.foldl_cons,ih,mem_putL,List.mem_cons,or_assoc]
 unfold ddp
 rw [this]
 simp
def Rise (n : Nat) (rk : Nat → Nat) (M : List (List Bool)) : Prop := Sq n M ∧ ∀ a b,a < n → b < n → getB M a b = true → rk a < rk b
theorem Rise.clA {n : Nat} {rk : Nat → Nat} {M : List (List Bool)} (h : Rise n rk M) {k a : Nat} (hk : k < n) (ha : a < n) : Rise n rk (clA n k M a) := by
 obtain ⟨h1,h2⟩ := clA_to h.1 hk ha n (Nat.le_refl _)
 refine ⟨h1,fun x y hx hy hxy => ?_⟩
 unfold Fw.clA at hxy
 rw [h2 x y hx hy] at hxy
 split at hxy
 ·rename_i e
  obtain ⟨rfl,-⟩ := e
  rw [Bool.or_eq_true,Bool.and_eq_true] at hxy
  rcases hxy with hxy | ⟨h3,h4⟩
  ·exact h.2 x y hx hy hxy
  ·exact Nat.lt_trans (h.2 x k hx hk h3) (h.2 k y hk hy h4)
 ·exact h.2 x y hx hy hxy
theorem Rise.fold {n : Nat} {rk : Nat → Nat} {f : List (List Bool) → Nat → List (List Bool)} : ∀ (i : Nat) {M : List (List Bool)},i ≤ n → (∀ M j,j < n → Rise n rk M → Rise n rk (f M j)) → Rise n rk M → Rise n rk ((List.range i).foldl f M)
 | 0,_,_,_,h => h
 | i + 1,M,hi,hs,h => by
  rw [foldl_rg]
  exact hs _ i (by omega) (Rise.fold i (by omega) hs h)
theorem Rise.close {n : Nat} {rk : Nat → Nat} {M : List (List Bool)} (h : Rise n rk M) : Rise n rk (closeM M) := by
 unfold closeM
 rw [h.1.1]
 exact Rise.fold n (Nat.le_refl _) (fun _ k hk h => Rise.fold n (Nat.le_refl _) (fun _ a ha h => h.clA hk ha) h) h
theorem Rise.relB {n : Nat} {rk : Nat → Nat} {a : Int} (ha : 0 ≤ a ∧ a < n) : ∀ {bs : List Int} {M : List (List Bool)},Rm n bs → (∀ b ∈ bs,rk a.toNat < rk b.toNat) → Rise n rk M → Rise n rk (relB a bs M)
 | [],_,_,_,h => h
 | b :: bs,M,hb,hr,h => by
  have hb0 := hb b (by simp)
  refine Rise.relB ha (bs := bs) (fun x hx => hb x (by simp [hx])) (fun x hx => hr x (by simp [hx])) ⟨h.1.set (by omega),fun x y hx hy hxy => ?_⟩
  rw [getB_setB h.1 (by omega) (by omega)] at hxy
  split at hxy
  ·rename_i e
   rw [e.1,e.2]; exact hr b (by simp)
  ·exact h.2 x y hx hy hxy
theorem Rise.relW {n : Nat} {rk : Nat → Nat} {bs : List Int} (hb : Rm n bs) : ∀ {la : List Int} {M : List (List Bool)},Rm n la → (∀ a ∈ la,∀ b ∈ bs,rk a.toNat < rk b.toNat) → Rise n rk M → Rise n rk (relW M la bs)
 | [],_,_,_,h => h
 | a :: la,M,ha,hr,h => Rise.relW hb (la := la) (fun x hx => ha x (by simp [hx])) (fun x hx => hr x (by simp [hx])) (h.relB (ha a (by simp)) hb (hr a (by simp)))
theorem Rise.empty {n : Nat} {rk : Nat → Nat} : Rise n rk (emptyM n) := by
 refine ⟨emptyM_sq n,fun a b ha hb h => ?_⟩
 simp [getB,emptyM,ha,hb] at h
theorem Rise.ord {g : List (List Int)} {nh nw n : Nat} {r0 r1 : Nat → Nat} (hrm : RmOk g nh nw n) (h0 : ∀ w,WlOk g nh nw w → w.level = false → ∀ a ∈ (sidesOf g w).1,∀ b ∈ (sidesOf g w).2,r0 a.toNat < r0 b.toNat)
  (h1 : ∀ w,WlOk g nh nw w → w.level = true → ∀ a ∈ (sidesOf g w).1,∀ b ∈ (sidesOf g w).2,r1 a.toNat < r1 b.toNat) : ∀ (ws : List Wall),(∀ w ∈ ws,WlOk g nh nw w) → ∀ {M : List (List Bool) × List (List Bool)},Rise n r0 M.1 → Rise n r1 M.2 →
  Rise n r0 (ws.foldl (ordW g) M).1 ∧ Rise n r1 (ws.foldl (ordW g) M).2
 | [],_,_,k0,k1 => ⟨k0,k1⟩
 | w :: ws,hws,M,k0,k1 => by
  have hw := hws w (by simp)
  obtain ⟨hr1,hr2⟩ := sidesOf_rooms hrm hw
  rw [List.foldl_cons]
  refine Rise.ord hrm h0 h1 ws (fun w hw => hws w (by simp [hw])) ?_ ?_
  ·unfold ordW
   cases hlv : w.level with
   | false => simpa using k0.relW hr2 hr1 (h0 w hw hlv)
   | true => simpa using k0
  ·unfold ordW
   cases hlv : w.level with
   | false => simpa using k1
   | true => simpa using k1.relW hr2 hr1 (h1 w hw hlv)
theorem side1 {g : List (List Int)} {nh nw : Nat} {w : Wall} (hw : WlOk g nh nw w) {x : Int} (hx : x ∈ (sidesOf g w).1) : ∃ line j : Nat,w.line = line ∧ x = (sidesG g w.level line j).1 ∧ InL nh nw w.level line j ∧ difG g w.level line j = true := by
 obtain ⟨line,fr,long,e,h1,h2⟩ := hw
 have e1 : w.line.toNat = line := by rw [e]; simp
 have e2 : w.fr.toNat = fr := by rw [e]; simp
 have e3 : w.long.toNat = long := by rw [e]; simp
 simp only [sidesOf,e1,e2,e3] at hx
 have := mem_ddp.1 hx
 simp only [alongG,List.mem_map,List.mem_range] at this
 obtain ⟨j,hj,rfl⟩ := this
 have h3 := h2 (fr + j) (by omega) (by omega)
 exact ⟨line,fr + j,by rw [e],rfl,h3.1,h3.2⟩
theorem side2 {g : List (List Int)} {nh nw : Nat} {w : Wall} (hw : WlOk g nh nw w) {x : Int} (hx : x ∈ (sidesOf g w).2) : ∃ line j : Nat,w.line = line ∧ x = (sidesG g w.level line j).2 ∧ InL nh nw w.level line j ∧ difG g w.level line j = true := by
 obtain ⟨line,fr,long,e,h1,h2⟩ := hw
 have e1 : w.line.toNat = line := by rw [e]; simp
 have e2 : w.fr.toNat = fr := by rw [e]; simp
 have e3 : w.long.toNat = long := by rw [e]; simp
 simp only [sidesOf,e1,e2,e3] at hx
 have := mem_ddp.1 hx
 simp only [alongG,List.mem_map,List.mem_range] at this
 obtain ⟨j,hj,rfl⟩ := this
 have h3 := h2 (fr + j) (by omega) (by omega)
 exact ⟨line,fr + j,by rw [e],rfl,h3.1,h3.2⟩
def rkL (p : List Txt) (a : Nat) : Nat := match (rP p)[a]? with | some b => b.col.toNat | none => 0
def rkA (p : List Txt) (a : Nat) : Nat := match (rP p)[a]? with | some b => b.row.toNat | none => 0
theorem plan_rect {p : List Txt} (hp : planB p = true) {i j : Nat} (hi : i < p.length) (hj : j < (hdRow p).length) : ∃ b,(rP p)[(cellZ p i j).toNat]? = some b ∧ inB b i j = true ∧ b.Fit ∧ ∀ k l,k < p.length → l < (hdRow p).length → inB b k l = true → cellZ p k l = cellZ p i j := by
 have hN := plan_named hp
 have hr := hN.room hi hj
 obtain ⟨b,hb,hbm⟩ := get_of (show (cellZ p i j).toNat < (rP p).length by omega)
 have hf := plan_full hp
 have hsm := grid_small hN.hg
 obtain ⟨row0,hr0,hm0⟩ := get_of hsm.1
 have hh := hdRow_of hr0
 have hw6 := hsm.2.2 row0 hm0
 have hw1 := row_pos hN.hg hr0
 rw [← hh] at hw6 hw1
 have hok := (seRows_ok (g := readG p) hw6 hw1 p.length hsm.2.1).1
 rw [← rP_eq] at hok
 refine ⟨b,hb,?_,hok.2 b hbm,fun k l hk hl hkl => ?_⟩
 ·rw [hN.fill hf hb hi hj]; exact decide_eq_true (by omega)
 ·rw [hN.fill hf hb hk hl] at hkl
  have := of_decide_eq_true hkl
  omega
theorem plan_left {p : List Txt} (hp : planB p = true) {w : Wall} (hw : WlOk (gP p) p.length (hdRow p).length w) (hl : w.level = false) : ∀ a ∈ (sidesOf (gP p) w).1,∀ b ∈ (sidesOf (gP p) w).2,rkL p a.toNat < rkL p b.toNat := by
 intro a ha b hb
 have hN := plan_named hp
 obtain ⟨L,j,e1,rfl,⟨h1,h2⟩,h3⟩ := side1 hw ha
 obtain ⟨L',j',e2,rfl,⟨k1,k2⟩,k3⟩ := side2 hw hb
 obtain rfl : L = L' := by omega
 simp only [hl,Bool.false_eq_true,if_false] at h2 k2
 unfold difG at k3
 simp only [hl,sidesG,Bool.false_eq_true,if_false,decide_eq_true_eq] at k3 ⊢
 rw [hN.cell k2.2 (by omega),hN.cell k2.2 k2.1] at k3
 rw [hN.cell h2.2 (by omega),hN.cell k2.2 k2.1]
 obtain ⟨r1,hr1,q1,f1,-⟩ := plan_rect hp h2.2 (show L - 1 < (hdRow p).length by omega)
 obtain ⟨r2,hr2,q2,f2,c2⟩ := plan_rect hp k2.2 k2.1
 unfold rkL
 rw [hr1,hr2]
 simp only
 have c3 := c2 j' (L - 1) k2.2 (by omega)
 unfold inB at q1 q2 c3
 unfold Rect.Fit at f1 f2
 simp only [Bool.and_eq_true,decide_eq_true_eq] at q1 q2 c3
 by_cases hc : r2.col < (L : Int)
 ·exact absurd (c3 (by omega)) k3
 ·omega
theorem plan_above {p : List Txt} (hp : planB p = true) {w : Wall} (hw : WlOk (gP p) p.length (hdRow p).length w) (hl : w.level = true) : ∀ a ∈ (sidesOf (gP p) w).1,∀ b ∈ (sidesOf (gP p) w).2,rkA p a.toNat < rkA p b.toNat := by
 intro a ha b hb
 have hN := plan_named hp
 obtain ⟨L,j,e1,rfl,⟨h1,h2⟩,h3⟩ := side1 hw ha
 obtain ⟨L',j',e2,rfl,⟨k1,k2⟩,k3⟩ := side2 hw hb
 obtain rfl : L = L' := by omega
 simp only [hl,if_true] at h2 k2
 unfold difG at k3
 simp only [hl,sidesG,if_true,decide_eq_true_eq] at k3 ⊢
 rw [hN.cell (by omega) k2.2,hN.cell k2.1 k2.2] at k3
 rw [hN.cell (by omega) h2.2,hN.cell k2.1 k2.2]
 obtain ⟨r1,hr1,q1,f1,-⟩ := plan_rect hp (show L - 1 < p.length by omega) h2.2
 obtain ⟨r2,hr2,q2,f2,c2⟩ := plan_rect hp k2.1 k2.2
 unfold rkA
 rw [hr1,hr2]
 simp only
 have c3 := c2 (L - 1) j' (by omega) k2.2
 unfold inB at q1 q2 c3
 unfold Rect.Fit at f1 f2
 simp only [Bool.and_eq_true,decide_eq_true_eq] at q1 q2 c3
 by_cases hc : r2.row < (L : Int)
 ·exact absurd (c3 (by omega)) k3
 ·omega
theorem rk_le {p : List Txt} (hp : planB p = true) (b : Nat) : rkL p b ≤ 100 ∧ rkA p b ≤ 100 := by
 have hN := plan_named hp
 have hsm := grid_small hN.hg
 obtain ⟨row0,hr0,hm0⟩ := get_of hsm.1
 have hh := hdRow_of hr0
 have hw6 := hsm.2.2 row0 hm0
 have hw1 := row_pos hN.hg hr0
 rw [← hh] at hw6 hw1
 have hok := (seRows_ok (g := readG p) hw6 hw1 p.length hsm.2.1).1
 rw [← rP_eq] at hok
 unfold rkL rkA
 cases hb : (rP p)[b]? with
 | none => simp
 | some r =>
  have := hok.2 r (List.mem_of_getElem? hb)
  unfold Rect.Fit at this
  simp only
  omega
theorem plan_up {p : List Txt} (hp : planB p = true) : Up (leftG (gP p) p.length (hdRow p).length (rP p).length) (rP p).length (rkL p) ∧ Up (aboveG (gP p) p.length (hdRow p).length (rP p).length) (rP p).length (rkA p) := by
 have h := Rise.ord (r0 := rkL p) (r1 := rkA p) (gP_room (p := p)) (fun w hw hl => plan_left hp hw hl) (fun w hw hl => plan_above hp hw hl) (wallsG (gP p) p.length (hdRow p).length) wallsG_ok (M := (emptyM (rP p).length,emptyM (rP p).length)) Rise.empty Rise.empty
 have h0 := h.1.close
 have h1 := h.2.close
 exact ⟨⟨h0.1,h0.2,fun b => (rk_le hp b).1⟩,⟨h1.1,h1.2,fun b => (rk_le hp b).2⟩⟩
theorem plan_all {p : List Txt} (hp : plainI p = true) : RmOk (gP p) p.length (w0 (readG p)) (rP p).length ∧ (∃ rk,Up (leftG (gP p) p.length (w0 (readG p)) (rP p).length) (rP p).length rk) ∧ ∃ rk,Up (aboveG (gP p) p.length (w0 (readG p)) (rP p).length) (rP p).length rk := by
 rw [plainI_plain] at hp
 have h := plan_up (plain_plan hp)
 rw [w0_read]
 exact ⟨gP_room,⟨_,h.1⟩,⟨_,h.2⟩⟩
section
open Go Go.ChangeShapes Go.WideShapes Go.ChangeAt Go.RowKit
set_option maxRecDepth 100000 in
theorem slice_at {W : World} {base : Nat} {t e : TypeId} {a : Addr} {len cap : Nat} (ht : Tryz.prog.underlying t = some (.slice e)) (hval : Value.okWide Tryz.prog W .any base t (.slice (some a) len cap)) : a.spot = none ∧ a.block < W.heap.size := by
 simp only [Value.okWide,ht,Cell.okWide,Cell.ok] at hval
 obtain ⟨-,-,-,hsp,row,cells,hsh,-⟩ := hval
 refine ⟨hsp,?_⟩
 unfold World.shape? at hsh
 rcases Nat.lt_or_ge a.block W.heap.size with h | h
 ·exact h
 ·rw [Array.getElem?_eq_none h] at hsh; cases hsh
set_option maxRecDepth 100000 in
theorem vi_strs {H : Type} {enc : TypeId × Value → H} {W : World} {base : Nat} {v : Value} {d : DataW H} {ps : List MemPlace} (hval : Value.okWide Tryz.prog W .any base 23 v) (h : DataW.Trod enc Tryz.prog W 0 (fun _ => true) true 23 v d ps) :
  ∃ p : List Txt,VI W.heap (fun b => b < W.heap.size) (eStrs p) v ∧ p.length ≤ 9223372036854775807 ∧ ∀ r ∈ p,r.length ≤ 9223372036854775807 := by
 obtain ⟨a0,len,cap,rfl⟩ := okWide_slice Tryz.underlying23 hval
 obtain ⟨fuel,hf⟩ := h
 rcases open_strings Tryz.underlying23 Tryz.underlying9 (by kernel_rfl) hf with ⟨hcs,hx⟩ | ⟨a,len',cap',ss,hcs,-,hl,hm,hz,hx,hcell,hsz⟩
 ·simp [Value.cells] at hcs
  obtain ⟨rfl,rfl,rfl⟩ := hcs
  exact ⟨[],.sl0,by simp,by simp⟩
 ·simp [Value.cells] at hcs
  obtain ⟨rfl,rfl,rfl⟩ := hcs
  obtain ⟨hsp,hlt⟩ := slice_at Tryz.underlying23 hval
  obtain ⟨b,off,spot⟩ := a
  simp only at hsp hlt
  subst hsp
  simp only [if_true] at hz
  have hml : maxLen ≤ 9223372036854775807 := by decide
  have hlen : ((ss.take len).map fun s : ByteArray => s.data.toList).length = len := by simp; omega
  have hget : ∀ (i : Nat) q,((ss.take len).map fun s : ByteArray => s.data.toList)[i]? = some q → i < len ∧ q = (ss.getD i ByteArray.empty).data.toList := by
   intro i q hq
   rw [List.getElem?_map,Option.map_eq_some_iff] at hq
   obtain ⟨s,hs,rfl⟩ := hq
   have hi := len_of hs
   simp only [List.length_take] at hi
   rw [List.getElem?_take_of_lt (by omega)] at hs
   refine ⟨by omega,?_⟩
   rw [List.getD_eq_getElem?_getD,hs]; rfl
  refine ⟨(ss.take len).map fun s => s.data.toList,?_,by rw [hlen]; omega,fun r hr => ?_⟩
  ·show VI _ _ (.sl (((ss.take len).map fun s : ByteArray => s.data.toList).map .str) ((ss.take len).map fun s : ByteArray => s.data.toList).length) _
   rw [hlen]
   refine .sl _ _ b off cap (fun i => .string (ss.getD i ByteArray.empty)) (fun _ => hlt) hl (fun i q hq => ?_) (fun i q hq => ?_)
   ·rw [List.getElem?_map,Option.map_eq_some_iff] at hq
    obtain ⟨x,hx1,rfl⟩ := hq
    obtain ⟨hi,rfl⟩ := hget i x hx1
    refine ⟨rfl,?_⟩
    rw [← cellH_eq]
    have := hcell i (by omega)
    rwa [add_lit] at this
   ·rw [List.getElem?_map,Option.map_eq_some_iff] at hq
    obtain ⟨x,hx1,rfl⟩ := hq
    obtain ⟨hi,rfl⟩ := hget i x hx1
    exact .str _ _ rfl
  ·obtain ⟨s,hs,rfl⟩ := List.mem_map.1 hr
   have := hsz s (List.mem_of_mem_take hs)
   have e : s.data.toList.length = s.size := Array.length_toList
   rw [e]; omega
set_option maxRecDepth 100000 in
theorem vi_ints {H : Type} {enc : TypeId × Value → H} {W : World} {base : Nat} {v : Value} {d : DataW H} {ps : List MemPlace} (hval : Value.okWide Tryz.prog W .any base 24 v) (h : DataW.Trod enc Tryz.prog W 0 (fun _ => true) true 24 v d ps) :
  ∃ p : List Int,VI W.heap (fun b => b < W.heap.size) (eInts p) v := by
 obtain ⟨a0,len,cap,rfl⟩ := okWide_slice Tryz.underlying24 hval
 obtain ⟨fuel,hf⟩ := h
 rcases open_ints Tryz.underlying24 Tryz.underlying3 (by kernel_rfl) hf with ⟨hcs,hx⟩ | ⟨a,len',cap',zs,hcs,-,hl,hm,hz,hx,hcell,hwf⟩
 ·simp [Value.cells] at hcs
  obtain ⟨rfl,rfl,rfl⟩ := hcs
  exact ⟨[],.sl0⟩
 ·simp [Value.cells] at hcs
  obtain ⟨rfl,rfl,rfl⟩ := hcs
  obtain ⟨hsp,hlt⟩ := slice_at Tryz.underlying24 hval
  obtain ⟨b,off,spot⟩ := a
  simp only at hsp hlt
  subst hsp
  simp only [if_true] at hz
  have hlen : (zs.take len).length = len := by simp; omega
  refine ⟨zs.take len,?_⟩
  show VI _ _ (.sl ((zs.take len).map (.int .i64)) (zs.take len).length) _
  rw [hlen]
  refine .sl _ _ b off cap (fun i => .int .i64 (zs.getD i 0)) (fun _ => hlt) hl (fun i q hq => ?_) (fun i q hq => ?_)
  ·rw [List.getElem?_map,Option.map_eq_some_iff] at hq
   obtain ⟨x,hx1,rfl⟩ := hq
   have hi := len_of hx1
   refine ⟨rfl,?_⟩
   rw [← cellH_eq]
   have := hcell i (by omega)
   rwa [add_lit] at this
  ·rw [List.getElem?_map,Option.map_eq_some_iff] at hq
   obtain ⟨x,hx1,rfl⟩ := hq
   have hi := len_of hx1
   rw [List.getElem?_take_of_lt (by omega)] at hx1
   rw [List.getD_eq_getElem?_getD,hx1]
   exact .int _ _
end
theorem needing_ev {p : List Txt} (hs : Sm p) {wss : List (List Int)} (hn : wss.length ≤ 1000) (hw : ∀ ws ∈ wss,ws.length ≤ 1048576) {wv t : Nat} : Ev Tryz.prog 55 [eStrs p,.loc 0 wv 0 wss.length] ⟨[.arr wv 24 1 (wss.map eInts)],t⟩ fun v S => ∃ x,v = .tup [x,.bool (needV p wss)] ∧ ((needV p wss) = true → x = eFloor (gP p) (rP p)) ∧ S = ⟨[.arr wv 24 1 (wss.map eInts)],t⟩ := by
 obtain ⟨x,hx,hxy,hxr⟩ := plainOf_ex hs
 refine Ev.of ⟨Tryz.func55,by kernel_rfl,rfl,by kernel_rfl⟩ tabOk mixed (by show 2 ≤ Tryz.f55.ntmps; decide) ?_
 refine W.r fun K hK => ?_
 simp (disch := omega) only [↓RU,RV,RH,↓reduceIte,reduceEqDiff,reduceCtorEq,if_pos,↓RS,RG,reduceAdd,reduceMul,reduceLeDiff]
 refine hK _ _ ?_;clear hK K
 refine W.r fun K hK => ?_
 simp (disch := omega) only [↓RU,RV,RH,↓reduceIte,reduceEqDiff,reduceCtorEq,if_pos,List.append_nil,↓RS,RG,reduceAdd,reduceMul,reduceLeDiff]
 refine CallR.pc (hx) rfl (.inr rfl) ?_
 simp (disch := omega) only [↓RU,RV,RH,↓reduceIte,reduceEqDiff,reduceCtorEq,if_pos,List.append_nil,↓RS,RG,reduceAdd,reduceMul,reduceLeDiff]
 refine hK _ _ ?_;clear hK K
 refine W.seq ?_
 refine W.r fun K hK => ?_
 simp (disch := omega) only [↓RU,RV,RH,↓reduceIte,reduceEqDiff,reduceCtorEq,if_pos,↓RS,RG,reduceAdd,reduceMul,reduceLeDiff]
 refine hK _ _ ?_;clear hK K
 refine W.cond rfl (fun h => ?_) (fun h => ?_)
 ·try simp only [RL] at h
  refine W.r fun K hK => ?_
  simp (disch := omega) only [↓RU,RV,RH,↓reduceIte,reduceEqDiff,reduceCtorEq,if_pos,↓RS,RG,reduceAdd,reduceMul,reduceLeDiff]
  refine hK _ _ ?_;clear hK K
  refine W.ret ?_
  refine XThen.ret ?_
  refine Br rfl ?_
  exact ⟨_,_,by rw [needV,h]; rfl,fun h9 => absurd h9 (by unfold needV; rw [h]; exact Bool.false_ne_true),take_all⟩
 ·try simp only [RL] at h
  obtain rfl := hxy h
  refine W.skip ?_
  refine xn ?_
  refine W.r fun K hK => ?_
  simp (disch := omega) only [↓RU,RV,RH,↓reduceIte,reduceEqDiff,reduceCtorEq,if_pos,↓RS,RG,reduceAdd,reduceMul,reduceLeDiff]
  refine hK _ _ ?_;clear hK K
  refine W.seq ?_
  refine W.r fun K hK => ?_
  simp (disch := omega) only [↓RU,RV,RH,↓reduceIte,reduceEqDiff,reduceCtorEq,if_pos,↓RS,RG,reduceAdd,reduceMul,reduceLeDiff,ty1,tyLint,tyint,cells_fn,ic_fn]
  refine hK _ _ ?_;clear hK K
  refine W.block ?_
  refine W.loop [6,8,18,19,20] (fun n vs S => ∃ i : Nat,n = wss.length - i ∧ i ≤ wss.length ∧ ((wss.take i).all (needW p) = true) ∧ vs = [eFloor (gP p) (rP p),.fn 109 [],.loc 0 wv 0 wss.length,.int .i64 wss.length,.int .i64 i] ∧ S = ⟨[.arr wv 24 1 (wss.map eInts)],t⟩) (wss.length) ?_ ?_
  ·refine ⟨1,0,rfl,Nat.zero_le _,rfl,?_,rfl⟩
   simp [Env.put,Env.of,argEnv]
  rintro n vs S - ⟨i,rfl,h_i,hall,rfl,rfl⟩
  refine W.r fun K hK => ?_
  simp (disch := omega) only [↓RU,RV,RH,↓reduceIte,reduceEqDiff,reduceCtorEq,if_pos,w64,↓RS,RG,reduceAdd,reduceMul,reduceLeDiff,tyint]
  refine hK _ _ ?_;clear hK K
  refine W.seq ?_
  refine W.cond rfl (fun h1 => ?_) (fun h1 => ?_)
  ·try simp only [RL] at h1
   obtain ⟨ws,hws,hwm⟩ := get_of (show i < wss.length by omega)
   have hwl := hw ws hwm
   obtain ⟨hokp,-⟩ := plain_okB h
   have hrp : (rP p).length ≤ 1000 := by have := okB_rooms hokp; omega
   refine W.skip ?_
   refine xn ?_
   refine W.seq ?_
   refine W.block ?_
   refine W.r fun K hK => ?_
   simp (disch := omega) only [↓RU,RV,RH,↓reduceIte,reduceEqDiff,reduceCtorEq,if_pos,↓RS,RG,reduceAdd,reduceMul,reduceLeDiff,ty1,tyLint,tyint,hws]
   refine hK _ _ ?_;clear hK K
   refine W.r fun K hK => ?_
   by_cases hlen : ws.length = (rP p).length
   ·skip
    have hd : ((ws.length : Int) != ((rP p).length : Int)) = false := by rw [hlen]; simp
    simp (disch := omega) only [↓RU,RV,RH,↓reduceIte,reduceEqDiff,reduceCtorEq,if_pos,w64,List.append_nil,↓RS,RG,reduceAdd,reduceMul,reduceLeDiff,ty1,ty3,tyLint,ty11,ty12,ty14,tyint,ty21,ty24,hd,rcs_len]
    refine CallR.pc (containsInt_pc (l := ws) (by omega) (g := 109) (cap := []) rfl rfl (test := fun n => !needB n) (fun n _ => needing1_pc n)) rfl (.inl rfl) ?_
    simp (disch := omega) only [↓RU,RV,RH,↓reduceIte,reduceEqDiff,reduceCtorEq,if_pos,w64,List.append_nil,↓RS,RG,reduceAdd,reduceMul,reduceLeDiff,ty1,ty3,tyLint,ty11,ty12,ty14,tyint,ty21,ty24,hd,rcs_len]
    refine hK _ _ ?_;clear hK K
    refine W.cond rfl (fun h2 => ?_) (fun h2 => ?_)
    ·try simp only [RL] at h2
     have hok : needW p ws = false := by unfold needW; rw [List.all_eq_not_any_not,h2]; simp
     refine W.r fun K hK => ?_
     simp (disch := omega) only [↓RU,RV,RH,↓reduceIte,reduceEqDiff,reduceCtorEq,if_pos,↓RS,RG,reduceAdd,reduceMul,reduceLeDiff]
     refine hK _ _ ?_;clear hK K
     refine W.ret ?_
     refine XBlock.ret ?_
     refine XThen.ret ?_
     refine XThen.ret ?_
     refine XBlock.ret ?_
     refine XThen.ret ?_
     refine Br rfl ?_
     exact ⟨_,_,by rw [needV_no hwm hok]; rfl,fun h9 => absurd h9 (by rw [needV_no hwm hok]; exact Bool.false_ne_true),take_all⟩
    ·try simp only [RL] at h2
     have hok : needW p ws = true := by unfold needW; rw [decide_eq_true hlen,List.all_eq_not_any_not]; simpa using h2
     refine W.skip ?_
     refine XbN ?_
     refine xn ?_
     refine W.k fun K hK => ?_
     simp (disch := omega) only [↓RU,RV,RH,↓reduceIte,reduceEqDiff,reduceCtorEq,if_pos,w64,↓RS,RG,reduceAdd,reduceMul,reduceLeDiff,tyint]
     refine hK _ _ ?_;clear hK K
     refine xn ?_
     refine ⟨wss.length - (i + 1),by omega,1,i + 1,rfl,by omega,all_tk hws hall hok,?_,rfl⟩
     simp [Env.put,Env.of]
   ·skip
    have hd : ((ws.length : Int) != ((rP p).length : Int)) = true := by simp; omega
    simp (disch := omega) only [↓RU,RV,RH,↓reduceIte,reduceEqDiff,reduceCtorEq,if_pos,w64,List.append_nil,↓RS,RG,reduceAdd,reduceMul,reduceLeDiff,ty1,ty3,tyLint,ty11,ty12,ty14,tyint,ty21,ty24,hd,rcs_len]
    refine hK _ _ ?_;clear hK K
    refine W.cond rfl (fun h2 => ?_) (fun h2 => ?_)
    ·try simp only [RL] at h2
     have hok : needW p ws = false := by unfold needW; rw [decide_eq_false hlen]; rfl
     refine W.r fun K hK => ?_
     simp (disch := omega) only [↓RU,RV,RH,↓reduceIte,reduceEqDiff,reduceCtorEq,if_pos,↓RS,RG,reduceAdd,reduceMul,reduceLeDiff]
     refine hK _ _ ?_;clear hK K
     refine W.ret ?_
     refine XBlock.ret ?_
     refine XThen.ret ?_
     refine XThen.ret ?_
     refine XBlock.ret ?_
     refine XThen.ret ?_
     refine Br rfl ?_
     exact ⟨_,_,by rw [needV_no hwm hok]; rfl,fun h9 => absurd h9 (by rw [needV_no hwm hok]; exact Bool.false_ne_true),take_all⟩
    ·try simp only [RL] at h2
     exact absurd h2 (by simp)
  ·try simp only [RL] at h1
   obtain rfl : wss.length = i := by omega
   rw [List.take_length] at hall
   refine W.exit ?_
   refine xe ?_
   refine xe ?_
   refine XBlock.hit ?_
   refine xn ?_
   refine W.r fun K hK => ?_
   simp (disch := omega) only [↓RU,RV,RH,↓reduceIte,reduceEqDiff,reduceCtorEq,if_pos,↓RS,RG,reduceAdd,reduceMul,reduceLeDiff]
   refine hK _ _ ?_;clear hK K
   refine W.ret ?_
   refine Br rfl ?_
   exact ⟨_,_,by rw [needV,h,hall]; rfl,fun _ => rfl,take_all⟩
theorem l7Places_pn {p : List Txt} (hs : Sm p) (hg : gridB p = true) (h9 : l1Rooms p ≤ 9) {needs : List Int} (hn : needs.length = (l1Rooms p).toNat) (hok : NeedOk needs) (kind : Int) : PN Tryz.prog 117 [eStrs p,eInts needs,.int .i64 kind] (.loc 0 0 0 needs.length) [.arr 0 3 1 ((places (allS p kind) needs).map (.int .i64))] false := by
 have hrb := l1Rooms_bound p
 have hms := allS_msk hg h9 kind
 rw [← hn] at hms
 obtain ⟨nr,hnr⟩ : ∃ nr : Nat,needs.length = nr := ⟨_,rfl⟩
 have hn9 : nr ≤ 9 := by omega
 rw [hnr] at hms
 have hml := hms.1
 refine PN.of ⟨Tryz.func117,by kernel_rfl,rfl,by kernel_rfl⟩ tabOk mixed (by show 3 ≤ Tryz.f117.ntmps; decide) ?_
 refine W.r fun K hK => ?_
 simp (disch := omega) only [↓RU,RV,RH,↓reduceIte,reduceEqDiff,reduceCtorEq,if_pos,↓RS,RG,reduceAdd,reduceMul,reduceLeDiff]
 refine hK _ _ ?_;clear hK K
 refine W.r fun K hK => ?_
 simp (disch := omega) only [↓RU,RV,RH,↓reduceIte,reduceEqDiff,reduceCtorEq,if_pos,List.append_nil,↓RS,RG,reduceAdd,reduceMul,reduceLeDiff]
 refine CallR.pc (l5All_pc hs hg h9 kind) rfl (.inl rfl) ?_
 simp (disch := omega) only [↓RU,RV,RH,↓reduceIte,reduceEqDiff,reduceCtorEq,if_pos,List.append_nil,↓RS,RG,reduceAdd,reduceMul,reduceLeDiff]
 refine hK _ _ ?_;clear hK K
 refine W.r fun K hK => ?_
 simp (disch := omega) only [↓RU,RV,RH,↓reduceIte,reduceEqDiff,reduceCtorEq,if_pos,↓RS,RG,reduceAdd,reduceMul,reduceLeDiff,tyLint,tyint,hnr,repz_int,ile_true]
 refine hK _ _ ?_;clear hK K
 refine W.seq ?_
 refine W.r fun K hK => ?_
 simp (disch := omega) only [↓RU,RV,RH,↓reduceIte,reduceEqDiff,reduceCtorEq,if_pos,↓RS,RG,reduceAdd,reduceMul,reduceLeDiff]
 refine hK _ _ ?_;clear hK K
 refine W.block ?_
 refine W.loop [0,1,2,7,8,9] (fun n vs S => ∃ k : Nat,n = nr - k ∧ k ≤ nr ∧ vs = [eStrs p,eInts needs,.int .i64 kind,eNats (allS p kind),.loc 0 0 0 nr,.int .i64 k] ∧ S = ⟨[.arr 0 3 1 (((List.range k).foldl (plN (allS p kind) needs) (List.replicate nr 0)).map (.int .i64))],1⟩) (nr) ?_ ?_
 ·refine ⟨1,0,rfl,Nat.zero_le _,?_,by simp [take_eq]⟩
  simp [Env.put,Env.of,argEnv]
 rintro n vs S - ⟨k,rfl,h_k,rfl,rfl⟩
 refine W.seq ?_
 refine W.r fun K hK => ?_
 simp (disch := omega) only [↓RU,RV,RH,↓reduceIte,reduceEqDiff,reduceCtorEq,if_pos,w64,↓RS,RG,reduceAdd,reduceMul,reduceLeDiff,tyLint,tyint]
 refine hK _ _ ?_;clear hK K
 refine W.cond rfl (fun h => ?_) (fun h => ?_)
 ·try simp only [RL] at h
  have hX := places_to (sets := (allS p kind)) hok hnr hn9 k (by omega)
  generalize hXe : (List.range k).foldl (plN (allS p kind) needs) (List.replicate nr 0) = X at hX
  refine W.skip ?_
  refine xn ?_
  refine W.seq ?_
  refine W.block ?_
  refine W.r fun K hK => ?_
  simp (disch := omega) only [↓RU,RV,RH,↓reduceIte,reduceEqDiff,reduceCtorEq,if_pos,↓RS,RG,reduceAdd,reduceMul,reduceLeDiff]
  refine hK _ _ ?_;clear hK K
  refine W.block ?_
  refine W.loop [0,1,2,7,8,9,10] (fun n vs S => ∃ a : Nat,n = nr - a ∧ a ≤ nr ∧ vs = [eStrs p,eInts needs,.int .i64 kind,eNats (allS p kind),.loc 0 0 0 nr,.int .i64 k,.int .i64 a] ∧ S = ⟨[.arr 0 3 1 (((List.range a).foldl (plA (allS p kind) needs) X).map (.int .i64))],1⟩) (nr) ?_ ?_
  ·refine ⟨1,0,rfl,Nat.zero_le _,?_,by simp [take_eq,hXe]⟩
   simp [Env.put,Env.of]
  rintro n vs S - ⟨a,rfl,h_a,rfl,rfl⟩
  refine W.seq ?_
  refine W.r fun K hK => ?_
  simp (disch := omega) only [↓RU,RV,RH,↓reduceIte,reduceEqDiff,reduceCtorEq,if_pos,w64,↓RS,RG,reduceAdd,reduceMul,reduceLeDiff,tyLint,tyint]
  refine hK _ _ ?_;clear hK K
  refine W.cond rfl (fun h1 => ?_) (fun h1 => ?_)
  ·try simp only [RL] at h1
   have hY := plN_to (sets := (allS p kind)) hok hnr hn9 hX a (by omega)
   generalize hYe : (List.range a).foldl (plA (allS p kind) needs) X = Y at hY
   refine W.skip ?_
   refine xn ?_
   refine W.seq ?_
   refine W.block ?_
   refine W.r fun K hK => ?_
   simp (disch := omega) only [↓RU,RV,RH,↓reduceIte,reduceEqDiff,reduceCtorEq,if_pos,↓RS,RG,reduceAdd,reduceMul,reduceLeDiff]
   refine hK _ _ ?_;clear hK K
   refine W.block ?_
   refine W.loop [0,1,2,7,8,9,10,11] (fun n vs S => ∃ b : Nat,n = nr - b ∧ b ≤ nr ∧ vs = [eStrs p,eInts needs,.int .i64 kind,eNats (allS p kind),.loc 0 0 0 nr,.int .i64 k,.int .i64 a,.int .i64 b] ∧ S = ⟨[.arr 0 3 1 (((List.range b).foldl (plB (allS p kind) needs a) Y).map (.int .i64))],1⟩) (nr) ?_ ?_
   ·refine ⟨1,0,rfl,Nat.zero_le _,?_,by simp [take_eq,hYe]⟩
    simp [Env.put,Env.of]
   rintro n vs S - ⟨b,rfl,h_b,rfl,rfl⟩
   refine W.seq ?_
   refine W.r fun K hK => ?_
   simp (disch := omega) only [↓RU,RV,RH,↓reduceIte,reduceEqDiff,reduceCtorEq,if_pos,w64,↓RS,RG,reduceAdd,reduceMul,reduceLeDiff,tyLint,tyint]
   refine hK _ _ ?_;clear hK K
   refine W.cond rfl (fun h2 => ?_) (fun h2 => ?_)
   ·try simp only [RL] at h2
    have hZ := plA_to (sets := (allS p kind)) hok hnr hY (show a < nr by omega) b (by omega)
    generalize hZe : (List.range b).foldl (plB (allS p kind) needs a) Y = Z at hZ
    obtain ⟨m,hm,hm5⟩ := hms.at_ (show a < nr by omega)
    obtain ⟨u,hu,hu1⟩ := hZ.at_ (show a < nr by omega)
    obtain ⟨v,hv,hv1⟩ := hZ.at_ (show b < nr by omega)
    obtain ⟨z,hz,hzm⟩ := get_of (show a < needs.length by omega)
    have hz1 := hok z hzm
    have hZl := hZ.1
    refine W.skip ?_
    refine xn ?_
    refine W.seq ?_
    refine W.block ?_
    refine W.r fun K hK => ?_
    simp (disch := omega) only [↓RU,RV,RH,↓reduceIte,reduceEqDiff,reduceCtorEq,if_pos,w64,↓RS,RG,reduceAdd,reduceMul,reduceLeDiff,tyLint,tyint,hm,hml,pShr,w_bit]
    refine hK _ _ ?_;clear hK K
    refine W.cond rfl (fun h3 => ?_) (fun h3 => ?_)
    ·try simp only [RL] at h3
     refine W.draw_k (by kernel_rfl) fun K hK => ?_
     simp (disch := omega) only [↓RU,RV,RH,↓reduceIte,reduceEqDiff,reduceCtorEq,if_pos,w64,ite_max,↓RS,RG,reduceAdd,reduceMul,reduceLeDiff,tyLint,tyint,hu,hv,hz,hnr,hZl,set_spl,set_int]
     refine hK _ _ ?_;clear hK K
     refine XbN ?_
     refine xn ?_
     refine W.k fun K hK => ?_
     simp (disch := omega) only [↓RU,RV,RH,↓reduceIte,reduceEqDiff,reduceCtorEq,if_pos,w64,↓RS,RG,reduceAdd,reduceMul,reduceLeDiff,tyint]
     refine hK _ _ ?_;clear hK K
     refine xn ?_
     refine ⟨nr - (b + 1),by omega,1,b + 1,rfl,by omega,?_,?_⟩
     ·simp [Env.put,Env.of]
     ·simp only [take_eq,foldl_rg,hZe,plB,bitOf_is hm,h3,getI_is hu,getI_is hv,getI_is hz]; rfl
    ·try simp only [RL] at h3
     refine W.skip ?_
     refine XbN ?_
     refine xn ?_
     refine W.k fun K hK => ?_
     simp (disch := omega) only [↓RU,RV,RH,↓reduceIte,reduceEqDiff,reduceCtorEq,if_pos,w64,↓RS,RG,reduceAdd,reduceMul,reduceLeDiff,tyint]
     refine hK _ _ ?_;clear hK K
     refine xn ?_
     refine ⟨nr - (b + 1),by omega,1,b + 1,rfl,by omega,?_,?_⟩
     ·simp [Env.put,Env.of]
     ·simp only [take_eq,foldl_rg,hZe,plB,bitOf_is hm,h3,Bool.false_eq_true,if_false]; rfl
   ·try simp only [RL] at h2
    obtain rfl : nr = b := by omega
    refine W.exit ?_
    refine xe ?_
    refine xe ?_
    refine XBlock.hit ?_
    refine XbN ?_
    refine xn ?_
    refine W.k fun K hK => ?_
    simp (disch := omega) only [↓RU,RV,RH,↓reduceIte,reduceEqDiff,reduceCtorEq,if_pos,w64,↓RS,RG,reduceAdd,reduceMul,reduceLeDiff,tyint]
    refine hK _ _ ?_;clear hK K
    refine xn ?_
    refine ⟨nr - (a + 1),by omega,1,a + 1,rfl,by omega,?_,?_⟩
    ·simp [Env.put,Env.of]
    ·simp only [take_eq,foldl_rg,hYe,plA,hnr]; rfl
  ·try simp only [RL] at h1
   obtain rfl : nr = a := by omega
   refine W.exit ?_
   refine xe ?_
   refine xe ?_
   refine XBlock.hit ?_
   refine XbN ?_
   refine xn ?_
   refine W.k fun K hK => ?_
   simp (disch := omega) only [↓RU,RV,RH,↓reduceIte,reduceEqDiff,reduceCtorEq,if_pos,w64,↓RS,RG,reduceAdd,reduceMul,reduceLeDiff,tyint]
   refine hK _ _ ?_;clear hK K
   refine xn ?_
   refine ⟨nr - (k + 1),by omega,1,k + 1,rfl,by omega,?_,?_⟩
   ·simp [Env.put,Env.of]
   ·simp only [take_eq,foldl_rg,hXe,plN,hnr]; rfl
 ·try simp only [RL] at h
  obtain rfl : nr = k := by omega
  refine W.exit ?_
  refine xe ?_
  refine xe ?_
  refine XBlock.hit ?_
  refine xn ?_
  refine W.r fun K hK => ?_
  simp (disch := omega) only [↓RU,RV,RH,↓reduceIte,reduceEqDiff,reduceCtorEq,if_pos,↓RS,RG,reduceAdd,reduceMul,reduceLeDiff]
  refine hK _ _ ?_;clear hK K
  refine W.ret ?_
  refine Br rfl ?_
  rw [show (List.range nr).foldl (plN (allS p kind) needs) (List.replicate nr 0) = places (allS p kind) needs by rw [places,hnr]]
  rw [hnr]
  exact sh_one rfl (sh_ints _)
theorem l7Least_pc {p : List Txt} (hs : Sm p) (hg : gridB p = true) (h9 : l1Rooms p ≤ 9) {needs : List Int} (hn : needs.length = (l1Rooms p).toNat) (hok : NeedOk needs) (kind : Int) : PC Tryz.prog 60 [eStrs p,eInts needs,.int .i64 kind] (.int .i64 (least (allS p kind) needs)) true := by
 have hn9 : needs.length ≤ 9 := by omega
 obtain ⟨nr,hnr⟩ : ∃ nr : Nat,needs.length = nr := ⟨_,rfl⟩
 have hP := places_bnd (sets := (allS p kind)) hok hnr (by omega)
 have hPl := hP.1
 refine PC.of ⟨Tryz.func60,by kernel_rfl,rfl,by kernel_rfl⟩ tabOk mixed (by show 3 ≤ Tryz.f60.ntmps; decide) ?_
 refine W.r fun K hK => ?_
 simp (disch := omega) only [↓RU,RV,RH,↓reduceIte,reduceEqDiff,reduceCtorEq,if_pos,↓RS,RG,reduceAdd,reduceMul,reduceLeDiff]
 refine hK _ _ ?_;clear hK K
 refine W.r fun K hK => ?_
 simp (disch := omega) only [↓RU,RV,RH,↓reduceIte,reduceEqDiff,reduceCtorEq,if_pos,List.append_nil,↓RS,RG,reduceAdd,reduceMul,reduceLeDiff,hnr]
 refine CallR.pn (l7Places_pn hs hg h9 hn hok kind) rfl (.inl rfl) ?_
 simp (disch := omega) only [↓RU,RV,RH,↓reduceIte,reduceEqDiff,reduceCtorEq,if_pos,List.append_nil,↓RS,RG,reduceAdd,reduceMul,reduceLeDiff,hnr,RN]
 refine hK _ _ ?_;clear hK K
 refine W.r fun K hK => ?_
 simp (disch := omega) only [↓RU,RV,RH,↓reduceIte,reduceEqDiff,reduceCtorEq,if_pos,↓RS,RG,reduceAdd,reduceMul,reduceLeDiff]
 refine hK _ _ ?_;clear hK K
 refine W.seq ?_
 refine W.r fun K hK => ?_
 simp (disch := omega) only [↓RU,RV,RH,↓reduceIte,reduceEqDiff,reduceCtorEq,if_pos,↓RS,RG,reduceAdd,reduceMul,reduceLeDiff]
 refine hK _ _ ?_;clear hK K
 refine W.block ?_
 refine W.loop [0,1,7,8,9] (fun n vs S => ∃ a : Nat,n = nr - a ∧ a ≤ nr ∧ vs = [eStrs p,eInts needs,.loc 0 0 0 nr,.int .i64 ((List.range a).foldl (fun m a => max m (getI (places (allS p kind) needs) a + getI needs a)) 0),.int .i64 a] ∧ S = ⟨[.arr 0 3 1 ((places (allS p kind) needs).map (.int .i64))],1⟩) (nr) ?_ ?_
 ·refine ⟨1,0,rfl,Nat.zero_le _,?_,by simp [take_eq,up_ints,upOb]⟩
  simp [Env.put,Env.of,argEnv]
 rintro n vs S - ⟨a,rfl,h_a,rfl,rfl⟩
 refine W.seq ?_
 refine W.r fun K hK => ?_
 simp (disch := omega) only [↓RU,RV,RH,↓reduceIte,reduceEqDiff,reduceCtorEq,if_pos,w64,↓RS,RG,reduceAdd,reduceMul,reduceLeDiff,tyLint,tyint]
 refine hK _ _ ?_;clear hK K
 refine W.cond rfl (fun h => ?_) (fun h => ?_)
 ·try simp only [RL] at h
  have hM := least_to (sets := (allS p kind)) hok hnr (by omega) a (by omega)
  generalize hMe : (List.range a).foldl (fun m a => max m (getI (places (allS p kind) needs) a + getI needs a)) 0 = M at hM
  obtain ⟨x,hx,hx1⟩ := hP.at_ (show a < nr by omega)
  obtain ⟨z,hz,hzm⟩ := get_of (show a < needs.length by omega)
  have hz1 := hok z hzm
  refine W.skip ?_
  refine xn ?_
  refine W.seq ?_
  refine W.block ?_
  refine W.draw_k (by kernel_rfl) fun K hK => ?_
  simp (disch := omega) only [↓RU,RV,RH,↓reduceIte,reduceEqDiff,reduceCtorEq,if_pos,w64,ite_max,↓RS,RG,reduceAdd,reduceMul,reduceLeDiff,tyLint,tyint,hMe,hx,hz,hnr,hPl]
  refine hK _ _ ?_;clear hK K
  refine XbN ?_
  refine xn ?_
  refine W.k fun K hK => ?_
  simp (disch := omega) only [↓RU,RV,RH,↓reduceIte,reduceEqDiff,reduceCtorEq,if_pos,w64,↓RS,RG,reduceAdd,reduceMul,reduceLeDiff,tyint]
  refine hK _ _ ?_;clear hK K
  refine xn ?_
  refine ⟨nr - (a + 1),by omega,1,a + 1,rfl,by omega,?_,rfl⟩
  rw [foldl_rg,getI_is hx,getI_is hz]
  simp [Env.put,Env.of,hMe]
 ·try simp only [RL] at h
  obtain rfl : nr = a := by omega
  refine W.exit ?_
  refine xe ?_
  refine xe ?_
  refine XBlock.hit ?_
  refine xn ?_
  refine W.r fun K hK => ?_
  simp (disch := omega) only [↓RU,RV,RH,↓reduceIte,reduceEqDiff,reduceCtorEq,if_pos,↓RS,RG,reduceAdd,reduceMul,reduceLeDiff]
  refine hK _ _ ?_;clear hK K
  refine W.ret ?_
  refine Br rfl ?_
  rw [least,hnr]
  rfl
theorem l7Needs_pc {p : List Txt} (hs : Sm p) {needs : List Int} (hn : needs.length ≤ 1048576) : PC Tryz.prog 59 [eStrs p,eInts needs] (.bool (needsB p needs)) true := by
 refine PC.of ⟨Tryz.func59,by kernel_rfl,rfl,by kernel_rfl⟩ tabOk mixed (by show 2 ≤ Tryz.f59.ntmps; decide) ?_
 refine W.r fun K hK => ?_
 simp (disch := omega) only [↓RU,RV,RH,↓reduceIte,reduceEqDiff,reduceCtorEq,if_pos]
 refine hK _ _ ?_;clear hK K
 refine W.seq ?_
 refine W.r fun K hK => ?_
 cases hg : plainB p
 ·skip
  simp (disch := omega) only [↓RU,RV,RH,↓reduceIte,reduceEqDiff,reduceCtorEq,if_pos,List.append_nil,w64,tyLint,tyint,hg]
  refine CallR.pc (l5Plain_pc hs) rfl (.inl rfl) ?_
  simp (disch := omega) only [↓RU,RV,RH,↓reduceIte,reduceEqDiff,reduceCtorEq,if_pos,List.append_nil,w64,tyLint,tyint,hg]
  refine hK _ _ ?_;clear hK K
  refine W.cond rfl (fun h0 => ?_) (fun h0 => ?_)
  ·try simp only [RL] at h0
   refine W.r fun K hK => ?_
   simp (disch := omega) only [↓RU,RV,RH,↓reduceIte,reduceEqDiff,reduceCtorEq,if_pos]
   refine hK _ _ ?_;clear hK K
   refine W.ret ?_
   refine XThen.ret ?_
   refine Br rfl ?_
   rw [needsB,hg]
   rfl
  ·try simp only [RL] at h0
   exact absurd h0 (by simp)
 ·skip
  simp (disch := omega) only [↓RU,RV,RH,↓reduceIte,reduceEqDiff,reduceCtorEq,if_pos,List.append_nil,w64,tyLint,tyint,hg]
  refine CallR.pc (l5Plain_pc hs) rfl (.inl rfl) ?_
  simp (disch := omega) only [↓RU,RV,RH,↓reduceIte,reduceEqDiff,reduceCtorEq,if_pos,List.append_nil,w64,tyLint,tyint,hg]
  refine CallR.pc (l1Rooms_pc hs) rfl (.inl rfl) ?_
  simp (disch := omega) only [↓RU,RV,RH,↓reduceIte,reduceEqDiff,reduceCtorEq,if_pos,List.append_nil,w64,tyLint,tyint,hg]
  refine hK _ _ ?_;clear hK K
  refine W.cond rfl (fun h1 => ?_) (fun h1 => ?_)
  ·try simp only [RL] at h1
   refine W.r fun K hK => ?_
   simp (disch := omega) only [↓RU,RV,RH,↓reduceIte,reduceEqDiff,reduceCtorEq,if_pos]
   refine hK _ _ ?_;clear hK K
   refine W.ret ?_
   refine XThen.ret ?_
   refine Br rfl ?_
   rw [show needsB p needs = false by simp [needsB,h1]]
   rfl
  ·try simp only [RL] at h1
   refine W.skip ?_
   refine xn ?_
   refine W.seq ?_
   refine W.r fun K hK => ?_
   simp (disch := omega) only [↓RU,RV,RH,↓reduceIte,reduceEqDiff,reduceCtorEq,if_pos]
   refine hK _ _ ?_;clear hK K
   refine W.block ?_
   refine W.loop [0,1,5] (fun n vs S => ∃ i : Nat,n = needs.length - i ∧ i ≤ needs.length ∧ ((needs.take i).all needB = true) ∧ vs = [eStrs p,eInts needs,.int .i64 i] ∧ S = ⟨[],0⟩) (needs.length) ?_ ?_
   ·refine ⟨0,0,rfl,Nat.zero_le _,rfl,?_,rfl⟩
    simp [Env.put,Env.of,argEnv]
   rintro n vs S - ⟨i,rfl,h_i,hall,rfl,rfl⟩
   refine W.seq ?_
   refine W.r fun K hK => ?_
   simp (disch := omega) only [↓RU,RV,RH,↓reduceIte,reduceEqDiff,reduceCtorEq,if_pos,w64,tyLint,tyint]
   refine hK _ _ ?_;clear hK K
   refine W.cond rfl (fun h2 => ?_) (fun h2 => ?_)
   ·try simp only [RL] at h2
    obtain ⟨x,hx,hxm⟩ := get_of (show i < needs.length by omega)
    refine W.skip ?_
    refine xn ?_
    refine W.seq ?_
    refine W.block ?_
    refine W.r fun K hK => ?_
    simp (disch := omega) only [↓RU,RV,RH,↓reduceIte,reduceEqDiff,reduceCtorEq,if_pos,List.append_nil,tyLint,tyint,hx]
    refine CallR.pc (l6In_pc _ _ _) rfl (.inl rfl) ?_
    simp (disch := omega) only [↓RU,RV,RH,↓reduceIte,reduceEqDiff,reduceCtorEq,if_pos,List.append_nil,tyLint,tyint,hx]
    refine hK _ _ ?_;clear hK K
    refine W.cond rfl (fun h3 => ?_) (fun h3 => ?_)
    ·try simp only [RL] at h3
     refine W.r fun K hK => ?_
     simp (disch := omega) only [↓RU,RV,RH,↓reduceIte,reduceEqDiff,reduceCtorEq,if_pos]
     refine hK _ _ ?_;clear hK K
     refine W.ret ?_
     refine XBlock.ret ?_
     refine XThen.ret ?_
     refine XThen.ret ?_
     refine XBlock.ret ?_
     refine XThen.ret ?_
     refine Br rfl ?_
     rw [show needsB p needs = false by unfold needsB; rw [show needs.all needB = false from List.all_eq_false.2 ⟨x,hxm,by simpa [needB] using h3⟩]; simp]
     rfl
    ·try simp only [RL] at h3
     refine W.skip ?_
     refine XbN ?_
     refine xn ?_
     refine W.k fun K hK => ?_
     simp (disch := omega) only [↓RU,RV,RH,↓reduceIte,reduceEqDiff,reduceCtorEq,if_pos,w64,tyint]
     refine hK _ _ ?_;clear hK K
     refine xn ?_
     refine ⟨needs.length - (i + 1),by omega,0,i + 1,rfl,by omega,all_tk hx (by assumption) (by simpa [needB] using h3),?_,rfl⟩
     simp [Env.put,Env.of]
   ·try simp only [RL] at h2
    refine W.exit ?_
    refine xe ?_
    refine xe ?_
    refine XBlock.hit ?_
    refine xn ?_
    refine W.r fun K hK => ?_
    simp (disch := omega) only [↓RU,RV,RH,↓reduceIte,reduceEqDiff,reduceCtorEq,if_pos]
    refine hK _ _ ?_;clear hK K
    refine W.ret ?_
    refine Br rfl ?_
    have hip : needs.take i = needs := List.take_of_length_le (by omega)
    rw [hip] at hall
    rw [show needsB p needs = true by simp only [needsB,hg,hall,h1,decide_true,Bool.and_self]]
    rfl
theorem szStringS_pc {p : List Txt} (hl : p.length ≤ 9223372036854775807) (hr : ∀ r ∈ p,r.length ≤ 9223372036854775807) {left : Int} (h0 : 0 ≤ left) (h1 : left ≤ 1048576) : PC Tryz.prog 28 [eStrs p,.int .i64 left] (.int .i64 (sz p left)) true := by
 refine PC.of ⟨Tryz.func28,by kernel_rfl,rfl,by kernel_rfl⟩ tabOk mixed (by show 2 ≤ Tryz.f28.ntmps; decide) ?_
 refine W.r fun K hK => ?_
 simp (disch := omega) only [↓RU,RV,RH,↓reduceIte,reduceEqDiff,reduceCtorEq,if_pos]
 refine hK _ _ ?_;clear hK K
 refine W.r fun K hK => ?_
 simp (disch := omega) only [↓RU,RV,RH,↓reduceIte,reduceEqDiff,reduceCtorEq,if_pos,w64,ty6,tyint,tystring]
 refine hK _ _ ?_;clear hK K
 refine W.seq ?_
 refine W.r fun K hK => ?_
 simp (disch := omega) only [↓RU,RV,RH,↓reduceIte,reduceEqDiff,reduceCtorEq,if_pos,w64,tyint]
 refine hK _ _ ?_;clear hK K
 refine W.cond rfl (fun h2 => ?_) (fun h2 => ?_)
 ·try simp only [RL] at h2
  refine W.r fun K hK => ?_
  simp (disch := omega) only [↓RU,RV,RH,↓reduceIte,reduceEqDiff,reduceCtorEq,if_pos]
  refine hK _ _ ?_;clear hK K
  refine W.ret ?_
  refine XThen.ret ?_
  refine Br rfl ?_
  rw [show sz p left = -1 by simp only [sz]; rw [if_neg (by omega)]]
  rfl
 ·try simp only [RL] at h2
  refine W.skip ?_
  refine xn ?_
  refine W.seq ?_
  refine W.r fun K hK => ?_
  simp (disch := omega) only [↓RU,RV,RH,↓reduceIte,reduceEqDiff,reduceCtorEq,if_pos]
  refine hK _ _ ?_;clear hK K
  refine W.block ?_
  refine W.loop [0,1,5] (fun n vs S => ∃ i : Nat,n = p.length - i ∧ i ≤ p.length ∧ ((szAll (p.take i) : Int) ≤ left - p.length) ∧ vs = [eStrs p,.int .i64 (left - p.length - szAll (p.take i)),.int .i64 i] ∧ S = ⟨[],0⟩) (p.length) ?_ ?_
  ·refine ⟨0,0,rfl,Nat.zero_le _,by simp [szAll]; omega,?_,rfl⟩
   simp [Env.put,Env.of,argEnv,szAll]
  rintro n vs S - ⟨i,rfl,h_i,hge,rfl,rfl⟩
  refine W.seq ?_
  refine W.r fun K hK => ?_
  simp (disch := omega) only [↓RU,RV,RH,↓reduceIte,reduceEqDiff,reduceCtorEq,if_pos,w64,ty6,tyint,tystring]
  refine hK _ _ ?_;clear hK K
  refine W.cond rfl (fun h3 => ?_) (fun h3 => ?_)
  ·try simp only [RL] at h3
   obtain ⟨r,hr1,hrm⟩ := get_of (show i < p.length by omega)
   have hrl := hr r hrm
   have hst := szAll_take hr1
   have hsl := szAll_le (p := p) (i := i + 1)
   refine W.skip ?_
   refine xn ?_
   refine W.seq ?_
   refine W.block ?_
   refine W.r fun K hK => ?_
   simp (disch := omega) only [↓RU,RV,RH,↓reduceIte,reduceEqDiff,reduceCtorEq,if_pos,w64,ty6,tyint,tystring,hr1]
   refine hK _ _ ?_;clear hK K
   refine W.r fun K hK => ?_
   simp (disch := omega) only [↓RU,RV,RH,↓reduceIte,reduceEqDiff,reduceCtorEq,if_pos,w64,tyint]
   refine hK _ _ ?_;clear hK K
   refine W.cond rfl (fun h4 => ?_) (fun h4 => ?_)
   ·try simp only [RL] at h4
    refine W.r fun K hK => ?_
    simp (disch := omega) only [↓RU,RV,RH,↓reduceIte,reduceEqDiff,reduceCtorEq,if_pos]
    refine hK _ _ ?_;clear hK K
    refine W.ret ?_
    refine XBlock.ret ?_
    refine XThen.ret ?_
    refine XThen.ret ?_
    refine XBlock.ret ?_
    refine XThen.ret ?_
    refine Br rfl ?_
    rw [show sz p left = -1 by simp only [sz]; rw [if_neg (by omega)]]
    rfl
   ·try simp only [RL] at h4
    refine W.skip ?_
    refine XbN ?_
    refine xn ?_
    refine W.k fun K hK => ?_
    simp (disch := omega) only [↓RU,RV,RH,↓reduceIte,reduceEqDiff,reduceCtorEq,if_pos,w64,tyint]
    refine hK _ _ ?_;clear hK K
    refine xn ?_
    refine ⟨p.length - (i + 1),by omega,0,i + 1,rfl,by omega,by omega,?_,rfl⟩
    simp [Env.put,Env.of,hst]
    omega
  ·try simp only [RL] at h3
   refine W.exit ?_
   refine xe ?_
   refine xe ?_
   refine XBlock.hit ?_
   refine xn ?_
   refine W.r fun K hK => ?_
   simp (disch := omega) only [↓RU,RV,RH,↓reduceIte,reduceEqDiff,reduceCtorEq,if_pos]
   refine hK _ _ ?_;clear hK K
   refine W.ret ?_
   refine Br rfl ?_
   have hip : p.take i = p := List.take_of_length_le (by omega)
   rw [hip] at hge ⊢
   rw [show sz p left = left - p.length - szAll p by simp only [sz]; rw [if_pos (by omega)]; omega]
   rfl
theorem toStringS_pn {p : List Txt} (hp : p.length ≤ 1048576) : PN Tryz.prog 30 [eStrs p] (.loc 0 0 0 p.length) [.arr 0 9 1 (p.map .str)] false := by
 refine PN.of ⟨Tryz.func30,by kernel_rfl,rfl,by kernel_rfl⟩ tabOk mixed (by show 1 ≤ Tryz.f30.ntmps; decide) ?_
 refine W.r fun K hK => ?_
 simp (disch := omega) only [↓RU,RV,RH,↓reduceIte,reduceEqDiff,reduceCtorEq,if_pos,↓RS,RG,reduceAdd,reduceMul,reduceLeDiff]
 refine hK _ _ ?_;clear hK K
 refine W.r fun K hK => ?_
 simp (disch := omega) only [↓RU,RV,RH,↓reduceIte,reduceEqDiff,reduceCtorEq,if_pos,↓RS,RG,reduceAdd,reduceMul,reduceLeDiff,ty6,tystring,repz_str,ile_true]
 refine hK _ _ ?_;clear hK K
 refine W.seq ?_
 refine W.r fun K hK => ?_
 simp (disch := omega) only [↓RU,RV,RH,↓reduceIte,reduceEqDiff,reduceCtorEq,if_pos,↓RS,RG,reduceAdd,reduceMul,reduceLeDiff]
 refine hK _ _ ?_;clear hK K
 refine W.block ?_
 refine W.loop [0,3,4] (fun n vs S => ∃ i : Nat,n = p.length - i ∧ i ≤ p.length ∧ vs = [eStrs p,.loc 0 0 0 p.length,.int .i64 i] ∧ S = ⟨[.arr 0 9 1 ((p.take i ++ List.replicate (p.length - i) []).map .str)],1⟩) (p.length) ?_ ?_
 ·refine ⟨1,0,rfl,Nat.zero_le _,?_,by simp [take_eq]⟩
  simp [Env.put,Env.of,argEnv]
 rintro n vs S - ⟨i,rfl,h_i,rfl,rfl⟩
 refine W.seq ?_
 refine W.r fun K hK => ?_
 simp (disch := omega) only [↓RU,RV,RH,↓reduceIte,reduceEqDiff,reduceCtorEq,if_pos,w64,↓RS,RG,reduceAdd,reduceMul,reduceLeDiff,ty6,tyint,tystring]
 refine hK _ _ ?_;clear hK K
 refine W.cond rfl (fun h => ?_) (fun h => ?_)
 ·try simp only [RL] at h
  obtain ⟨r,hr,hrm⟩ := get_of (show i < p.length by omega)
  have hcl : (p.take i ++ List.replicate (p.length - i) []).length = p.length := by simp; omega
  refine W.skip ?_
  refine xn ?_
  refine W.seq ?_
  refine W.block ?_
  refine W.k fun K hK => ?_
  simp (disch := omega) only [↓RU,RV,RH,↓reduceIte,reduceEqDiff,reduceCtorEq,if_pos,↓RS,RG,reduceAdd,reduceMul,reduceLeDiff,ty6,tystring,hr,hcl,set_spl,set_str]
  refine hK _ _ ?_;clear hK K
  refine XbN ?_
  refine xn ?_
  refine W.k fun K hK => ?_
  simp (disch := omega) only [↓RU,RV,RH,↓reduceIte,reduceEqDiff,reduceCtorEq,if_pos,w64,↓RS,RG,reduceAdd,reduceMul,reduceLeDiff,tyint]
  refine hK _ _ ?_;clear hK K
  refine xn ?_
  refine ⟨p.length - (i + 1),by omega,1,i + 1,rfl,by omega,?_,?_⟩
  ·simp [Env.put,Env.of]
  ·simp only [take_eq]; rw [copy_succ hr]; rfl
 ·try simp only [RL] at h
  obtain rfl : i = p.length := by omega
  refine W.exit ?_
  refine xe ?_
  refine xe ?_
  refine XBlock.hit ?_
  refine xn ?_
  refine W.r fun K hK => ?_
  simp (disch := omega) only [↓RU,RV,RH,↓reduceIte,reduceEqDiff,reduceCtorEq,if_pos,↓RS,RG,reduceAdd,reduceMul,reduceLeDiff]
  refine hK _ _ ?_;clear hK K
  refine W.ret ?_
  refine Br rfl ?_
  rw [List.take_length,Nat.sub_self,List.replicate_zero,List.append_nil]
  exact sh_one rfl (sh_strs _)
theorem toIntS_pn {p : List Int} (hp : p.length ≤ 1048576) : PN Tryz.prog 31 [eInts p] (.loc 0 0 0 p.length) [.arr 0 3 1 (p.map (.int .i64))] false := by
 refine PN.of ⟨Tryz.func31,by kernel_rfl,rfl,by kernel_rfl⟩ tabOk mixed (by show 1 ≤ Tryz.f31.ntmps; decide) ?_
 refine W.r fun K hK => ?_
 simp (disch := omega) only [↓RU,RV,RH,↓reduceIte,reduceEqDiff,reduceCtorEq,if_pos,↓RS,RG,reduceAdd,reduceMul,reduceLeDiff]
 refine hK _ _ ?_;clear hK K
 refine W.r fun K hK => ?_
 simp (disch := omega) only [↓RU,RV,RH,↓reduceIte,reduceEqDiff,reduceCtorEq,if_pos,↓RS,RG,reduceAdd,reduceMul,reduceLeDiff,tyLint,tyint,repz_int,ile_true]
 refine hK _ _ ?_;clear hK K
 refine W.seq ?_
 refine W.r fun K hK => ?_
 simp (disch := omega) only [↓RU,RV,RH,↓reduceIte,reduceEqDiff,reduceCtorEq,if_pos,↓RS,RG,reduceAdd,reduceMul,reduceLeDiff]
 refine hK _ _ ?_;clear hK K
 refine W.block ?_
 refine W.loop [0,3,4] (fun n vs S => ∃ i : Nat,n = p.length - i ∧ i ≤ p.length ∧ vs = [eInts p,.loc 0 0 0 p.length,.int .i64 i] ∧ S = ⟨[.arr 0 3 1 ((p.take i ++ List.replicate (p.length - i) 0).map (.int .i64))],1⟩) (p.length) ?_ ?_
 ·refine ⟨1,0,rfl,Nat.zero_le _,?_,by simp [take_eq]⟩
  simp [Env.put,Env.of,argEnv]
 rintro n vs S - ⟨i,rfl,h_i,rfl,rfl⟩
 refine W.seq ?_
 refine W.r fun K hK => ?_
 simp (disch := omega) only [↓RU,RV,RH,↓reduceIte,reduceEqDiff,reduceCtorEq,if_pos,w64,↓RS,RG,reduceAdd,reduceMul,reduceLeDiff,tyLint,tyint]
 refine hK _ _ ?_;clear hK K
 refine W.cond rfl (fun h => ?_) (fun h => ?_)
 ·try simp only [RL] at h
  obtain ⟨r,hr,hrm⟩ := get_of (show i < p.length by omega)
  have hcl : (p.take i ++ List.replicate (p.length - i) 0).length = p.length := by simp; omega
  refine W.skip ?_
  refine xn ?_
  refine W.seq ?_
  refine W.block ?_
  refine W.k fun K hK => ?_
  simp (disch := omega) only [↓RU,RV,RH,↓reduceIte,reduceEqDiff,reduceCtorEq,if_pos,↓RS,RG,reduceAdd,reduceMul,reduceLeDiff,tyLint,tyint,hr,hcl,set_spl,set_int]
  refine hK _ _ ?_;clear hK K
  refine XbN ?_
  refine xn ?_
  refine W.k fun K hK => ?_
  simp (disch := omega) only [↓RU,RV,RH,↓reduceIte,reduceEqDiff,reduceCtorEq,if_pos,w64,↓RS,RG,reduceAdd,reduceMul,reduceLeDiff,tyint]
  refine hK _ _ ?_;clear hK K
  refine xn ?_
  refine ⟨p.length - (i + 1),by omega,1,i + 1,rfl,by omega,?_,?_⟩
  ·simp [Env.put,Env.of]
  ·simp only [take_eq]; rw [copy_succ hr]; rfl
 ·try simp only [RL] at h
  obtain rfl : i = p.length := by omega
  refine W.exit ?_
  refine xe ?_
  refine xe ?_
  refine XBlock.hit ?_
  refine xn ?_
  refine W.r fun K hK => ?_
  simp (disch := omega) only [↓RU,RV,RH,↓reduceIte,reduceEqDiff,reduceCtorEq,if_pos,↓RS,RG,reduceAdd,reduceMul,reduceLeDiff]
  refine hK _ _ ?_;clear hK K
  refine W.ret ?_
  refine Br rfl ?_
  rw [List.take_length,Nat.sub_self,List.replicate_zero,List.append_nil]
  exact sh_one rfl (sh_ints _)
theorem toStringS_pc {p : List Txt} (hp : p.length ≤ 1048576) : PC Tryz.prog 30 [eStrs p] (eStrs p) true :=
 PN.pc (toStringS_pn hp) rfl (by simp only [List.map_cons,List.map_nil,upOb_arr,up_loc,up_strs,Nat.add_zero]; exact reify_loc rfl (by simp) (mapM_str _))
theorem toIntS_pc {p : List Int} (hp : p.length ≤ 1048576) : PC Tryz.prog 31 [eInts p] (eInts p) true :=
 PN.pc (toIntS_pn hp) rfl (by simp only [List.map_cons,List.map_nil,upOb_arr,up_loc,up_ints,Nat.add_zero]; exact reify_loc rfl (by simp) (mapM_int _))
theorem eqStringS_pc {p q : List Txt} (hp : p.length < 2147483648) (hq : q.length < 2147483648) : PC Tryz.prog 34 [eStrs p,eStrs q] (.bool (decide (p = q))) true := by
 refine PC.of ⟨Tryz.func34,by kernel_rfl,rfl,by kernel_rfl⟩ tabOk mixed (by show 2 ≤ Tryz.f34.ntmps; decide) ?_
 refine W.r fun K hK => ?_
 simp (disch := omega) only [↓RU,RV,RH,↓reduceIte,reduceEqDiff,reduceCtorEq,if_pos]
 refine hK _ _ ?_;clear hK K
 refine W.seq ?_
 refine W.r fun K hK => ?_
 simp (disch := omega) only [↓RU,RV,RH,↓reduceIte,reduceEqDiff,reduceCtorEq,if_pos,w64,ty6,tyint,tystring]
 refine hK _ _ ?_;clear hK K
 refine W.cond rfl (fun h => ?_) (fun h => ?_)
 ·try simp only [RL] at h
  refine W.r fun K hK => ?_
  simp (disch := omega) only [↓RU,RV,RH,↓reduceIte,reduceEqDiff,reduceCtorEq,if_pos]
  refine hK _ _ ?_;clear hK K
  refine W.ret ?_
  refine XThen.ret ?_
  refine Br rfl ?_
  rw [show decide (p = q) = false by simp; rintro rfl; exact h rfl]
  rfl
 ·try simp only [RL] at h
  refine W.skip ?_
  refine xn ?_
  refine W.seq ?_
  refine W.r fun K hK => ?_
  simp (disch := omega) only [↓RU,RV,RH,↓reduceIte,reduceEqDiff,reduceCtorEq,if_pos]
  refine hK _ _ ?_;clear hK K
  refine W.block ?_
  refine W.loop [0,1,5] (fun n vs S => ∃ i : Nat,n = p.length - i ∧ i ≤ p.length ∧ (p.take i = q.take i) ∧ vs = [eStrs p,eStrs q,.int .i64 i] ∧ S = ⟨[],0⟩) (p.length) ?_ ?_
  ·refine ⟨0,0,rfl,Nat.zero_le _,rfl,?_,rfl⟩
   simp [Env.put,Env.of,argEnv]
  rintro n vs S - ⟨i,rfl,h_i,htk,rfl,rfl⟩
  refine W.seq ?_
  refine W.r fun K hK => ?_
  simp (disch := omega) only [↓RU,RV,RH,↓reduceIte,reduceEqDiff,reduceCtorEq,if_pos,w64,ty6,tyint,tystring]
  refine hK _ _ ?_;clear hK K
  refine W.cond rfl (fun h1 => ?_) (fun h1 => ?_)
  ·try simp only [RL] at h1
   obtain ⟨x,hx,-⟩ := get_of (show i < p.length by omega)
   obtain ⟨y,hy,-⟩ := get_of (show i < q.length by omega)
   refine W.skip ?_
   refine xn ?_
   refine W.seq ?_
   refine W.block ?_
   refine W.seq_draw (by kernel_rfl) fun K hK => ?_
   simp (disch := omega) only [↓RU,RV,RH,↓reduceIte,reduceEqDiff,reduceCtorEq,if_pos,w64,ty6,tystring,hx,hy]
   refine hK _ _ ?_;clear hK K
   refine W.cond rfl (fun h2 => ?_) (fun h2 => ?_)
   ·try simp only [RL] at h2
    refine W.r fun K hK => ?_
    simp (disch := omega) only [↓RU,RV,RH,↓reduceIte,reduceEqDiff,reduceCtorEq,if_pos]
    refine hK _ _ ?_;clear hK K
    refine W.ret ?_
    refine XBlock.ret ?_
    refine XThen.ret ?_
    refine XThen.ret ?_
    refine XBlock.ret ?_
    refine XThen.ret ?_
    refine Br rfl ?_
    rw [show decide (p = q) = false by simp; rintro rfl; rw [hx] at hy; simp_all]
    rfl
   ·try simp only [RL] at h2
    refine W.skip ?_
    refine XbN ?_
    refine xn ?_
    refine W.k fun K hK => ?_
    simp (disch := omega) only [↓RU,RV,RH,↓reduceIte,reduceEqDiff,reduceCtorEq,if_pos,w64,tyint]
    refine hK _ _ ?_;clear hK K
    refine xn ?_
    refine ⟨p.length - (i + 1),by omega,0,i + 1,rfl,by omega,take_eq_succ htk hx hy h2,?_,rfl⟩
    simp [Env.put,Env.of]
  ·try simp only [RL] at h1
   refine W.exit ?_
   refine xe ?_
   refine xe ?_
   refine XBlock.hit ?_
   refine xn ?_
   refine W.r fun K hK => ?_
   simp (disch := omega) only [↓RU,RV,RH,↓reduceIte,reduceEqDiff,reduceCtorEq,if_pos]
   refine hK _ _ ?_;clear hK K
   refine W.ret ?_
   refine Br rfl ?_
   have h1 : p.take i = p := List.take_of_length_le (by omega)
   have h2 : q.take i = q := List.take_of_length_le (by omega)
   rw [show decide (p = q) = true by simp; rw [← h1,← h2]; exact htk]
   rfl
theorem eqIntS_pc {p q : List Int} (hp : p.length < 2147483648) (hq : q.length < 2147483648) : PC Tryz.prog 35 [eInts p,eInts q] (.bool (decide (p = q))) true := by
 refine PC.of ⟨Tryz.func35,by kernel_rfl,rfl,by kernel_rfl⟩ tabOk mixed (by show 2 ≤ Tryz.f35.ntmps; decide) ?_
 refine W.r fun K hK => ?_
 simp (disch := omega) only [↓RU,RV,RH,↓reduceIte,reduceEqDiff,reduceCtorEq,if_pos]
 refine hK _ _ ?_;clear hK K
 refine W.seq ?_
 refine W.r fun K hK => ?_
 simp (disch := omega) only [↓RU,RV,RH,↓reduceIte,reduceEqDiff,reduceCtorEq,if_pos,w64,tyLint,tyint]
 refine hK _ _ ?_;clear hK K
 refine W.cond rfl (fun h => ?_) (fun h => ?_)
 ·try simp only [RL] at h
  refine W.r fun K hK => ?_
  simp (disch := omega) only [↓RU,RV,RH,↓reduceIte,reduceEqDiff,reduceCtorEq,if_pos]
  refine hK _ _ ?_;clear hK K
  refine W.ret ?_
  refine XThen.ret ?_
  refine Br rfl ?_
  rw [show decide (p = q) = false by simp; rintro rfl; exact h rfl]
  rfl
 ·try simp only [RL] at h
  refine W.skip ?_
  refine xn ?_
  refine W.seq ?_
  refine W.r fun K hK => ?_
  simp (disch := omega) only [↓RU,RV,RH,↓reduceIte,reduceEqDiff,reduceCtorEq,if_pos]
  refine hK _ _ ?_;clear hK K
  refine W.block ?_
  refine W.loop [0,1,5] (fun n vs S => ∃ i : Nat,n = p.length - i ∧ i ≤ p.length ∧ (p.take i = q.take i) ∧ vs = [eInts p,eInts q,.int .i64 i] ∧ S = ⟨[],0⟩) (p.length) ?_ ?_
  ·refine ⟨0,0,rfl,Nat.zero_le _,rfl,?_,rfl⟩
   simp [Env.put,Env.of,argEnv]
  rintro n vs S - ⟨i,rfl,h_i,htk,rfl,rfl⟩
  refine W.seq ?_
  refine W.r fun K hK => ?_
  simp (disch := omega) only [↓RU,RV,RH,↓reduceIte,reduceEqDiff,reduceCtorEq,if_pos,w64,tyLint,tyint]
  refine hK _ _ ?_;clear hK K
  refine W.cond rfl (fun h1 => ?_) (fun h1 => ?_)
  ·try simp only [RL] at h1
   obtain ⟨x,hx,-⟩ := get_of (show i < p.length by omega)
   obtain ⟨y,hy,-⟩ := get_of (show i < q.length by omega)
   refine W.skip ?_
   refine xn ?_
   refine W.seq ?_
   refine W.block ?_
   refine W.seq_draw (by kernel_rfl) fun K hK => ?_
   simp (disch := omega) only [↓RU,RV,RH,↓reduceIte,reduceEqDiff,reduceCtorEq,if_pos,w64,tyLint,tyint,hx,hy]
   refine hK _ _ ?_;clear hK K
   refine W.cond rfl (fun h2 => ?_) (fun h2 => ?_)
   ·try simp only [RL] at h2
    refine W.r fun K hK => ?_
    simp (disch := omega) only [↓RU,RV,RH,↓reduceIte,reduceEqDiff,reduceCtorEq,if_pos]
    refine hK _ _ ?_;clear hK K
    refine W.ret ?_
    refine XBlock.ret ?_
    refine XThen.ret ?_
    refine XThen.ret ?_
    refine XBlock.ret ?_
    refine XThen.ret ?_
    refine Br rfl ?_
    rw [show decide (p = q) = false by simp; rintro rfl; rw [hx] at hy; simp_all]
    rfl
   ·try simp only [RL] at h2
    refine W.skip ?_
    refine XbN ?_
    refine xn ?_
    refine W.k fun K hK => ?_
    simp (disch := omega) only [↓RU,RV,RH,↓reduceIte,reduceEqDiff,reduceCtorEq,if_pos,w64,tyint]
    refine hK _ _ ?_;clear hK K
    refine xn ?_
    refine ⟨p.length - (i + 1),by omega,0,i + 1,rfl,by omega,take_eq_succ htk hx hy h2,?_,rfl⟩
    simp [Env.put,Env.of]
  ·try simp only [RL] at h1
   refine W.exit ?_
   refine xe ?_
   refine xe ?_
   refine XBlock.hit ?_
   refine xn ?_
   refine W.r fun K hK => ?_
   simp (disch := omega) only [↓RU,RV,RH,↓reduceIte,reduceEqDiff,reduceCtorEq,if_pos]
   refine hK _ _ ?_;clear hK K
   refine W.ret ?_
   refine Br rfl ?_
   have h1 : p.take i = p := List.take_of_length_le (by omega)
   have h2 : q.take i = q := List.take_of_length_le (by omega)
   rw [show decide (p = q) = true by simp; rw [← h1,← h2]; exact htk]
   rfl
theorem heavy1_ev {M : List (List Bool)} {ws out : List Int} {nr : Nat} {rk : Nat → Nat} (hu : Up M nr rk) (hn : nr ≤ 9) (hwl : ws.length = nr) (hw : NeedOk ws) {b : Nat} (hb : b < nr) (hmo : Memo M ws nr out)
  (ih : ∀ a,a < nr → rk a < rk b → ∀ out0,Memo M ws nr out0 → Ev Tryz.prog 114 [.int .i64 (a : Nat),.ref 3 3 0,.ref 0 0 0,.ref 4 4 0,.ref 1 1 0] ⟨[.arr 0 60 1 [eRel M],.arr 1 24 1 [eInts ws],.arr 2 3 1 ((out0).map (.int .i64)),.arr 3 24 1 [.loc 2 2 0 nr],.arr 4 69 1 [.fn 114 [.ref 3 3 0,.ref 0 0 0,.ref 4 4 0,.ref 1 1 0]]],5⟩ (fun v S => v = .int .i64 (HB M ws nr a) ∧ ∃ out2,Memo M ws nr out2 ∧ Keep out0 out2 ∧ out2[a]? = some (HB M ws nr a) ∧ S = ⟨[.arr 0 60 1 [eRel M],.arr 1 24 1 [eInts ws],.arr 2 3 1 ((out2).map (.int .i64)),.arr 3 24 1 [.loc 2 2 0 nr],.arr 4 69 1 [.fn 114 [.ref 3 3 0,.ref 0 0 0,.ref 4 4 0,.ref 1 1 0]]],5⟩)) : Ev Tryz.prog 114 [.int .i64 (b : Nat),.ref 3 3 0,.ref 0 0 0,.ref 4 4 0,.ref 1 1 0] ⟨[.arr 0 60 1 [eRel M],.arr 1 24 1 [eInts ws],.arr 2 3 1 ((out).map (.int .i64)),.arr 3 24 1 [.loc 2 2 0 nr],.arr 4 69 1 [.fn 114 [.ref 3 3 0,.ref 0 0 0,.ref 4 4 0,.ref 1 1 0]]],5⟩ fun v S => v = .int .i64 (HB M ws nr b) ∧ ∃ out2,Memo M ws nr out2 ∧ Keep out out2 ∧ out2[b]? = some (HB M ws nr b) ∧ S = ⟨[.arr 0 60 1 [eRel M],.arr 1 24 1 [eInts ws],.arr 2 3 1 ((out2).map (.int .i64)),.arr 3 24 1 [.loc 2 2 0 nr],.arr 4 69 1 [.fn 114 [.ref 3 3 0,.ref 0 0 0,.ref 4 4 0,.ref 1 1 0]]],5⟩ := by
 obtain ⟨x0,hx0,hx0c⟩ := hmo.at_ hb
 have hml := hmo.1
 have hsq := hu.sq.1
 have hHb := HB_bound (M := M) (n := nr) hw b
 have hHp := HB_pos (M := M) (n := nr) hw (b := b) (by omega)
 have hHe := HB_eq (ws := ws) hu hb
 obtain ⟨wb,hwb,hwbm⟩ := get_of (show b < ws.length by omega)
 have hwb1 := hw wb hwbm
 rw [getI_is hwb] at hHe
 refine Ev.of ⟨Tryz.func114,by kernel_rfl,rfl,by kernel_rfl⟩ tabOk mixed (by show 5 ≤ Tryz.f114.ntmps; decide) ?_
 refine W.r fun K hK => ?_
 simp (disch := omega) only [↓RU,RV,RH,↓reduceIte,reduceEqDiff,reduceCtorEq,if_pos,↓RS,RG,reduceAdd,reduceMul,reduceLeDiff]
 refine hK _ _ ?_;clear hK K
 refine W.seq ?_
 refine W.r fun K hK => ?_
 simp (disch := omega) only [↓RU,RV,RH,↓reduceIte,reduceEqDiff,reduceCtorEq,if_pos,w64,↓RS,RG,reduceAdd,reduceMul,reduceLeDiff,tyLint,tyint,hx0]
 refine hK _ _ ?_;clear hK K
 refine W.cond rfl (fun h0 => ?_) (fun h0 => ?_)
 ·try simp only [RL] at h0
  subst h0
  refine W.r fun K hK => ?_
  simp (disch := omega) only [↓RU,RV,RH,↓reduceIte,reduceEqDiff,reduceCtorEq,if_pos,↓RS,RG,reduceAdd,reduceMul,reduceLeDiff]
  refine hK _ _ ?_;clear hK K
  refine W.seq ?_
  refine W.r fun K hK => ?_
  simp (disch := omega) only [↓RU,RV,RH,↓reduceIte,reduceEqDiff,reduceCtorEq,if_pos,↓RS,RG,reduceAdd,reduceMul,reduceLeDiff,ty0,ty2,tybool,ty15,hsq]
  refine hK _ _ ?_;clear hK K
  refine W.block ?_
  refine W.loop [0,1,2,3,4,7,15,16] (fun n vs S => ∃ (a : Nat) (out1 : List Int),n = nr - a ∧ a ≤ nr ∧ Memo M ws nr out1 ∧ Keep out out1 ∧ vs = [.int .i64 (b : Nat),.ref 3 3 0,.ref 0 0 0,.ref 4 4 0,.ref 1 1 0,.int .i64 (hvF M (HB M ws nr) b a),.int .i64 nr,.int .i64 a] ∧ S = ⟨[.arr 0 60 1 [eRel M],.arr 1 24 1 [eInts ws],.arr 2 3 1 ((out1).map (.int .i64)),.arr 3 24 1 [.loc 2 2 0 nr],.arr 4 69 1 [.fn 114 [.ref 3 3 0,.ref 0 0 0,.ref 4 4 0,.ref 1 1 0]]],5⟩) nr ?_ ?_
  ·refine ⟨5,0,out,rfl,by omega,hmo,Keep.refl _,?_,rfl⟩
   simp [Env.put,Env.of,argEnv,hvF,hsq]
  rintro n vs S - ⟨a,out1,rfl,h_a,hm1,hk1,rfl,rfl⟩
  refine W.r fun K hK => ?_
  simp (disch := omega) only [↓RU,RV,RH,↓reduceIte,reduceEqDiff,reduceCtorEq,if_pos,w64,↓RS,RG,reduceAdd,reduceMul,reduceLeDiff,tyint]
  refine hK _ _ ?_;clear hK K
  refine W.seq ?_
  refine W.cond rfl (fun h1 => ?_) (fun h1 => ?_)
  ·try simp only [RL] at h1
   have hal : a < nr := by omega
   have hF := hvF_bound (M := M) (g := HB M ws nr) (b := b) (B := 909) (by omega) (i := a) fun a _ _ => (HB_bound hw a).2
   have hHa := HB_bound (M := M) (n := nr) hw a
   obtain ⟨row,hrow,hrl,hrb⟩ := hu.sq.at_ hal hb
   refine W.skip ?_
   refine xn ?_
   refine W.seq ?_
   refine W.block ?_
   refine W.r fun K hK => ?_
   simp (disch := omega) only [↓RU,RV,RH,↓reduceIte,reduceEqDiff,reduceCtorEq,if_pos,↓RS,RG,reduceAdd,reduceMul,reduceLeDiff]
   refine hK _ _ ?_;clear hK K
   refine W.r fun K hK => ?_
   simp (disch := omega) only [↓RU,RV,RH,↓reduceIte,reduceEqDiff,reduceCtorEq,if_pos,↓RS,RG,reduceAdd,reduceMul,reduceLeDiff,ty0,ty2,tybool,ty15,hrow,hrb,hrl]
   refine hK _ _ ?_;clear hK K
   refine W.cond rfl (fun h2 => ?_) (fun h2 => ?_)
   ·try simp only [RL] at h2
    have hrk := hu.up a b hal hb h2
    refine W.k fun K hK => ?_
    simp (disch := omega) only [↓RU,RV,RH,↓reduceIte,reduceEqDiff,reduceCtorEq,if_pos,List.append_nil,ite_max,↓RS,RG,reduceAdd,reduceMul,reduceLeDiff,ty10,tyint]
    refine CallR.ev (ih a hal hrk out1 hm1) ?_
    rintro _ _ ⟨rfl,out2,hm2,hk2,ho2,rfl⟩
    simp (disch := omega) only [↓RU,RV,RH,↓reduceIte,reduceEqDiff,reduceCtorEq,if_pos,List.append_nil,ite_max,↓RS,RG,reduceAdd,reduceMul,reduceLeDiff,ty10,tyint]
    refine hK _ _ ?_;clear hK K
    refine XbN ?_
    refine xn ?_
    refine W.k fun K hK => ?_
    simp (disch := omega) only [↓RU,RV,RH,↓reduceIte,reduceEqDiff,reduceCtorEq,if_pos,w64,↓RS,RG,reduceAdd,reduceMul,reduceLeDiff,tyint]
    refine hK _ _ ?_;clear hK K
    refine xn ?_
    refine ⟨nr - (a + 1),by omega,5,a + 1,out2,rfl,by omega,hm2,hk1.trans hk2,?_,rfl⟩
    simp [Env.put,Env.of,hvF_succ,h2]
   ·try simp only [RL] at h2
    refine W.skip ?_
    refine XbN ?_
    refine xn ?_
    refine W.k fun K hK => ?_
    simp (disch := omega) only [↓RU,RV,RH,↓reduceIte,reduceEqDiff,reduceCtorEq,if_pos,w64,↓RS,RG,reduceAdd,reduceMul,reduceLeDiff,tyint]
    refine hK _ _ ?_;clear hK K
    refine xn ?_
    refine ⟨nr - (a + 1),by omega,5,a + 1,out1,rfl,by omega,hm1,hk1,?_,rfl⟩
    simp [Env.put,Env.of,hvF_succ,h2]
  ·try simp only [RL] at h1
   obtain rfl : nr = a := by omega
   have hF := hvF_bound (M := M) (g := HB M ws nr) (b := b) (B := 909) (by omega) (i := nr) fun a _ _ => (HB_bound hw a).2
   have hm1l := hm1.1
   have hset : (out1.set b (HB M ws nr b))[b]? = some (HB M ws nr b) := by rw [List.getElem?_set,if_pos rfl,if_pos (by omega)]
   refine W.exit ?_
   refine xe ?_
   refine xe ?_
   refine XBlock.hit ?_
   refine xn ?_
   refine W.draw_k (by kernel_rfl) fun K hK => ?_
   simp (disch := omega) only [↓RU,RV,RH,↓reduceIte,reduceEqDiff,reduceCtorEq,if_pos,w64,↓RS,RG,reduceAdd,reduceMul,reduceLeDiff,tyLint,tyint,hwb,hm1l,set_spl,set_int,← hHe]
   refine hK _ _ ?_;clear hK K
   refine xn ?_
   refine W.r fun K hK => ?_
   simp (disch := omega) only [↓RU,RV,RH,↓reduceIte,reduceEqDiff,reduceCtorEq,if_pos,↓RS,RG,reduceAdd,reduceMul,reduceLeDiff,tyLint,tyint,hset]
   refine hK _ _ ?_;clear hK K
   refine W.ret ?_
   refine Br rfl ?_
   exact ⟨5,rfl,_,hm1.set,hk1.trans hm1.keep,hset,rfl⟩
 ·try simp only [RL] at h0
  obtain rfl := hx0c.resolve_left h0
  have hset := hx0
  refine W.skip ?_
  refine xn ?_
  refine W.r fun K hK => ?_
  simp (disch := omega) only [↓RU,RV,RH,↓reduceIte,reduceEqDiff,reduceCtorEq,if_pos,↓RS,RG,reduceAdd,reduceMul,reduceLeDiff,tyLint,tyint,hset]
  refine hK _ _ ?_;clear hK K
  refine W.ret ?_
  refine Br rfl ?_
  exact ⟨5,rfl,_,hmo,Keep.refl _,hx0,rfl⟩
theorem heavy_ev {M : List (List Bool)} {ws : List Int} {nr : Nat} {rk : Nat → Nat} (hu : Up M nr rk) (hn : nr ≤ 9) (hwl : ws.length = nr) (hw : NeedOk ws) : ∀ (k b : Nat),rk b < k → b < nr → ∀ out,Memo M ws nr out → Ev Tryz.prog 114 [.int .i64 (b : Nat),.ref 3 3 0,.ref 0 0 0,.ref 4 4 0,.ref 1 1 0] ⟨[.arr 0 60 1 [eRel M],.arr 1 24 1 [eInts ws],.arr 2 3 1 ((out).map (.int .i64)),.arr 3 24 1 [.loc 2 2 0 nr],.arr 4 69 1 [.fn 114 [.ref 3 3 0,.ref 0 0 0,.ref 4 4 0,.ref 1 1 0]]],5⟩ (fun v S => v = .int .i64 (HB M ws nr b) ∧ ∃ out2,Memo M ws nr out2 ∧ Keep out out2 ∧ out2[b]? = some (HB M ws nr b) ∧ S = ⟨[.arr 0 60 1 [eRel M],.arr 1 24 1 [eInts ws],.arr 2 3 1 ((out2).map (.int .i64)),.arr 3 24 1 [.loc 2 2 0 nr],.arr 4 69 1 [.fn 114 [.ref 3 3 0,.ref 0 0 0,.ref 4 4 0,.ref 1 1 0]]],5⟩)
 | 0,b,h,_,_,_ => by omega
 | k + 1,b,h,hb,out,hm => heavy1_ev hu hn hwl hw hb hm fun a ha hr out0 h0 => heavy_ev hu hn hwl hw k a (by omega) ha out0 h0
theorem heaviest_pn {M : List (List Bool)} {ws : List Int} {nr : Nat} {rk : Nat → Nat} (hu : Up M nr rk) (hn : nr ≤ 9) (hwl : ws.length = nr) (hw : NeedOk ws) : PN Tryz.prog 58 [eRel M,eInts ws] (.loc 0 0 0 nr) [.arr 0 3 1 ((heaviest M ws nr).map (.int .i64))] false := by
 have hsq := hu.sq.1
 refine PN.of ⟨Tryz.func58,by kernel_rfl,rfl,by kernel_rfl⟩ tabOk mixed (by show 2 ≤ Tryz.f58.ntmps; decide) ?_
 refine W.r fun K hK => ?_
 simp (disch := omega) only [↓RU,RV,RH,↓reduceIte,reduceEqDiff,reduceCtorEq,if_pos,↓RS,RG,reduceAdd,reduceMul,reduceLeDiff,ty0,ty2,tyLint,tybool,ty15,tyint]
 refine hK _ _ ?_;clear hK K
 refine W.r fun K hK => ?_
 simp (disch := omega) only [↓RU,RV,RH,↓reduceIte,reduceEqDiff,reduceCtorEq,if_pos,↓RS,RG,reduceAdd,reduceMul,reduceLeDiff,ty0,ty2,tyLint,tybool,ty15,tyint,hsq,repz_int,ile_true]
 refine hK _ _ ?_;clear hK K
 refine W.r fun K hK => ?_
 simp (disch := omega) only [↓RU,RV,RH,↓reduceIte,reduceEqDiff,reduceCtorEq,if_pos,↓RS,RG,reduceAdd,reduceMul,reduceLeDiff,ty10]
 refine hK _ _ ?_;clear hK K
 refine W.r fun K hK => ?_
 simp (disch := omega) only [↓RU,RV,RH,↓reduceIte,reduceEqDiff,reduceCtorEq,if_pos,↓RS,RG,reduceAdd,reduceMul,reduceLeDiff,ty10,cells_fn,ic_fn]
 refine hK _ _ ?_;clear hK K
 refine W.seq ?_
 refine W.r fun K hK => ?_
 simp (disch := omega) only [↓RU,RV,RH,↓reduceIte,reduceEqDiff,reduceCtorEq,if_pos,↓RS,RG,reduceAdd,reduceMul,reduceLeDiff,ty0,ty2,tybool,ty15,hsq]
 refine hK _ _ ?_;clear hK K
 refine W.block ?_
 refine W.loop [5,6,13,14] (fun n vs S => ∃ (b : Nat) (out : List Int),n = nr - b ∧ b ≤ nr ∧ Memo M ws nr out ∧ (∀ c,c < b → out[c]? = some (HB M ws nr c)) ∧ vs = [.ref 3 3 0,.ref 4 4 0,.int .i64 nr,.int .i64 b] ∧ S = ⟨[.arr 0 60 1 [eRel M],.arr 1 24 1 [eInts ws],.arr 2 3 1 ((out).map (.int .i64)),.arr 3 24 1 [.loc 2 2 0 nr],.arr 4 69 1 [.fn 114 [.ref 3 3 0,.ref 0 0 0,.ref 4 4 0,.ref 1 1 0]]],5⟩) nr ?_ ?_
 ·refine ⟨5,0,List.replicate nr 0,rfl,by omega,memo_zero,fun c h => absurd h (by omega),?_,?_⟩
  ·simp [Env.put,Env.of,argEnv,hsq]
  ·simp [take_eq,spl,hsq]
 rintro n vs S - ⟨b,out,rfl,h_b,hm,hdone,rfl,rfl⟩
 refine W.r fun K hK => ?_
 simp (disch := omega) only [↓RU,RV,RH,↓reduceIte,reduceEqDiff,reduceCtorEq,if_pos,w64,↓RS,RG,reduceAdd,reduceMul,reduceLeDiff,tyint]
 refine hK _ _ ?_;clear hK K
 refine W.seq ?_
 refine W.cond rfl (fun h => ?_) (fun h => ?_)
 ·try simp only [RL] at h
  have hbn : b < nr := by omega
  refine W.skip ?_
  refine xn ?_
  refine W.seq ?_
  refine W.block ?_
  refine W.r fun K hK => ?_
  simp (disch := omega) only [↓RU,RV,RH,↓reduceIte,reduceEqDiff,reduceCtorEq,if_pos,↓RS,RG,reduceAdd,reduceMul,reduceLeDiff]
  refine hK _ _ ?_;clear hK K
  refine W.k fun K hK => ?_
  simp (disch := omega) only [↓RU,RV,RH,↓reduceIte,reduceEqDiff,reduceCtorEq,if_pos,List.append_nil,↓RS,RG,reduceAdd,reduceMul,reduceLeDiff,ty10]
  refine CallR.ev (heavy_ev hu hn hwl hw (rk b + 1) b (by omega) hbn out hm) ?_
  rintro _ _ ⟨rfl,out2,hm2,hk2,ho2,rfl⟩
  simp (disch := omega) only [↓RU,RV,RH,↓reduceIte,reduceEqDiff,reduceCtorEq,if_pos,List.append_nil,↓RS,RG,reduceAdd,reduceMul,reduceLeDiff,ty10]
  refine hK _ _ ?_;clear hK K
  refine XbN ?_
  refine xn ?_
  refine W.k fun K hK => ?_
  simp (disch := omega) only [↓RU,RV,RH,↓reduceIte,reduceEqDiff,reduceCtorEq,if_pos,w64,↓RS,RG,reduceAdd,reduceMul,reduceLeDiff,tyint]
  refine hK _ _ ?_;clear hK K
  refine xn ?_
  refine ⟨nr - (b + 1),by omega,5,b + 1,out2,rfl,by omega,hm2,?_,?_,rfl⟩
  ·intro c hc
   by_cases e : c = b
   ·subst e; exact ho2
   ·have h1 := hdone c (by omega)
    exact hk2 c _ h1 (by have := HB_pos (M := M) (n := nr) hw (b := c) (by omega); omega)
  ·simp [Env.put,Env.of]
 ·try simp only [RL] at h
  obtain rfl : nr = b := by omega
  obtain rfl := memo_all hm hdone
  refine W.exit ?_
  refine xe ?_
  refine xe ?_
  refine XBlock.hit ?_
  refine xn ?_
  refine W.joinS [4] (fun vs S => ∃ v t : Nat,vs = [.loc 0 v 0 nr] ∧ S = ⟨[.arr v 3 1 ((heaviest M ws nr).map (.int .i64))],t⟩) ?_ ?_
  ·
   refine W.k fun K hK => ?_
   simp (disch := omega) only [↓RU,RV,RH,↓reduceIte,reduceEqDiff,reduceCtorEq,if_pos,↓RS,RG,reduceAdd,reduceMul,reduceLeDiff,tyLint,tyint]
   refine hK _ _ ?_;clear hK K
   refine xn ?_
   refine ⟨0,[2],[.loc 0 5 0 nr],⟨[.arr 5 3 1 ((heaviest M ws nr).map (.int .i64))],6⟩,?_,?_,5,6,rfl,rfl⟩
   ·simp [-List.mapM_map,Env.put,Env.of,argEnv,Srn_eq,rnObs_cons,rnObs_nil,rnOb_arr,rnOb_map,rn_loc,rn_ref,rn_mp,rn_int,rn_bool,rn_str,rn_ip,rn_sl,rn_nils,rn_nilp,rn_undef,rn_agg,rn_tup,rn_fn,rfq_loc,rfq_int,rfq_bool,rfq_str,rfq_sl,frOf,List.range_succ,List.mapM_append,List.mapM_cons]
   ·simp [-List.mapM_map,Env.put,Env.of,argEnv,Srn_eq,rnObs_cons,rnObs_nil,rnOb_arr,rnOb_map,rn_loc,rn_ref,rn_mp,rn_int,rn_bool,rn_str,rn_ip,rn_sl,rn_nils,rn_nilp,rn_undef,rn_agg,rn_tup,rn_fn,rfq_loc,rfq_int,rfq_bool,rfq_str,rfq_sl,frOf,List.range_succ,List.mapM_append,List.mapM_cons,rn_ints]
  rintro vs S - ⟨v,t,rfl,rfl⟩
  refine W.ret ?_
  refine Br rfl ?_
  exact sh_one rfl (sh_ints _)
theorem max_pc {l : List Int} {x0 : Int} (h0 : l[0]? = some x0) (hl : l.length < 2147483648) : PC Tryz.prog 56 [eInts l] (.int .i64 (maxL l)) true := by
 have hl0 := len_of h0
 refine PC.of ⟨Tryz.func56,by kernel_rfl,rfl,by kernel_rfl⟩ tabOk mixed (by show 1 ≤ Tryz.f56.ntmps; decide) ?_
 refine W.r fun K hK => ?_
 simp (disch := omega) only [↓RU,RV,RH,↓reduceIte,reduceEqDiff,reduceCtorEq,if_pos]
 refine hK _ _ ?_;clear hK K
 refine W.seq ?_
 refine W.r fun K hK => ?_
 simp (disch := omega) only [↓RU,RV,RH,↓reduceIte,reduceEqDiff,reduceCtorEq,if_pos,w64,tyLint,tyint]
 refine hK _ _ ?_;clear hK K
 refine W.cond rfl (fun h => ?_) (fun h => ?_)
 ·try simp only [RL] at h
  exfalso; omega
 ·try simp only [RL] at h
  refine W.skip ?_
  refine xn ?_
  refine W.r fun K hK => ?_
  simp (disch := omega) only [↓RU,RV,RH,↓reduceIte,reduceEqDiff,reduceCtorEq,if_pos,tyLint,tyint,h0,Int.toNat_zero,Nat.zero_mul,Int.reduceToNat]
  refine hK _ _ ?_;clear hK K
  refine W.seq ?_
  refine W.r fun K hK => ?_
  simp (disch := omega) only [↓RU,RV,RH,↓reduceIte,reduceEqDiff,reduceCtorEq,if_pos]
  refine hK _ _ ?_;clear hK K
  refine W.block ?_
  refine W.loop [0,3,4] (fun n vs S => ∃ i : Nat,n = l.length - i ∧ i ≤ l.length ∧ (1 ≤ i) ∧ vs = [eInts l,.int .i64 (((l.take i).drop 1).foldl max x0),.int .i64 i] ∧ S = ⟨[],0⟩) (l.length - 1) ?_ ?_
  ·refine ⟨0,1,rfl,by omega,Nat.le_refl _,?_,rfl⟩
   simp [Env.put,Env.of,argEnv,maxL_start]
  rintro n vs S - ⟨i,rfl,h_i,h1i,rfl,rfl⟩
  refine W.seq ?_
  refine W.r fun K hK => ?_
  simp (disch := omega) only [↓RU,RV,RH,↓reduceIte,reduceEqDiff,reduceCtorEq,if_pos,w64,tyLint,tyint]
  refine hK _ _ ?_;clear hK K
  refine W.cond rfl (fun h1 => ?_) (fun h1 => ?_)
  ·try simp only [RL] at h1
   obtain ⟨x,hx,-⟩ := get_of (show i < l.length by omega)
   refine W.skip ?_
   refine xn ?_
   refine W.seq ?_
   refine W.block ?_
   refine W.k fun K hK => ?_
   simp (disch := omega) only [↓RU,RV,RH,↓reduceIte,reduceEqDiff,reduceCtorEq,if_pos,ite_max,tyLint,tyint,hx]
   refine hK _ _ ?_;clear hK K
   refine XbN ?_
   refine xn ?_
   refine W.k fun K hK => ?_
   simp (disch := omega) only [↓RU,RV,RH,↓reduceIte,reduceEqDiff,reduceCtorEq,if_pos,w64,tyint]
   refine hK _ _ ?_;clear hK K
   refine xn ?_
   refine ⟨l.length - (i + 1),by omega,0,i + 1,rfl,by omega,by omega,?_,rfl⟩
   rw [maxL_step h1i hx]
   simp [Env.put,Env.of]
  ·try simp only [RL] at h1
   refine W.exit ?_
   refine xe ?_
   refine xe ?_
   refine XBlock.hit ?_
   refine xn ?_
   refine W.r fun K hK => ?_
   simp (disch := omega) only [↓RU,RV,RH,↓reduceIte,reduceEqDiff,reduceCtorEq,if_pos]
   refine hK _ _ ?_;clear hK K
   refine W.ret ?_
   refine Br rfl ?_
   rw [maxL_end h0 (by omega)]
   rfl
section
theorem mix_succ {α : Type} {a b : List α} {i : Nat} {x : α} (ha : a[i]? = some x) (hl : a.length = b.length) : (a.take i ++ b.drop i).set i x = a.take (i + 1) ++ b.drop (i + 1) := by
 have hi := len_of ha
 apply List.ext_getElem?
 intro j
 rw [List.getElem?_set]
 by_cases hj : i = j
 ·subst hj
  rw [if_pos rfl,if_pos (by simp; omega),tk ha,List.append_assoc,List.getElem?_append_right (by simp; omega)]
  simp [Nat.min_eq_left (Nat.le_of_lt hi)]
 ·rw [if_neg hj]
  by_cases hlt : j < i
  ·rw [List.getElem?_append_left (by simp; omega),List.getElem?_append_left (by simp; omega)]
   simp [List.getElem?_take,hlt,show j < i + 1 by omega]
  ·rw [List.getElem?_append_right (by simp; omega),List.getElem?_append_right (by simp; omega)]
   simp only [List.length_take,Nat.min_eq_left (Nat.le_of_lt hi),Nat.min_eq_left (show i + 1 ≤ a.length by omega),List.getElem?_drop]
   congr 1
   omega
theorem mix_at {α : Type} {a b : List α} {i : Nat} (hl : a.length = b.length) : (a.take i ++ b.drop i)[i]? = b[i]? := by
 by_cases hi : i < a.length
 ·rw [List.getElem?_append_right (by simp; omega)]
  simp [Nat.min_eq_left (Nat.le_of_lt hi)]
 ·rw [List.getElem?_eq_none (by simp; omega),List.getElem?_eq_none (by omega)]
theorem mix_len {α : Type} {a b : List α} {i : Nat} (hl : a.length = b.length) : (a.take i ++ b.drop i).length = b.length := by simp; omega
section
variable {M : List (List Bool)} {ms : List Nat} {ws : List Int} {n : Nat} {rk : Nat → Nat}
def revM (n : Nat) (M : List (List Bool)) : List (List Bool) := (List.range n).map fun a => (List.range n).map fun b => getB M b a
def bhB (sets : List Nat) (needs : List Int) (a : Nat) (out : List Int) (b : Nat) : List Int :=
 if bitOf sets a b then out.set a (max (getI out a) (getI out b + getI needs b)) else out
def bhA (sets : List Nat) (needs : List Int) (out : List Int) (a : Nat) : List Int := (List.range needs.length).foldl (bhB sets needs a) out
def bhN (sets : List Nat) (needs : List Int) (out : List Int) (_ : Nat) : List Int := (List.range needs.length).foldl (bhA sets needs) out
def behind (sets : List Nat) (needs : List Int) : List Int := (List.range needs.length).foldl (bhN sets needs) (List.replicate needs.length 0)
end
theorem plan_same {p : List Txt} {ws : List Int} (h : needV p [ws] = true) : Same (rP p).length (leftG (gP p) p.length (w0 (readG p)) (rP p).length) (allS p 0) ∧ Same (rP p).length (aboveG (gP p) p.length (w0 (readG p)) (rP p).length) (allS p 1) ∧
  Up (leftG (gP p) p.length (w0 (readG p)) (rP p).length) (rP p).length (rkL p) ∧ Up (aboveG (gP p) p.length (w0 (readG p)) (rP p).length) (rP p).length (rkA p) ∧ ws.length = (rP p).length ∧ 1 ≤ (rP p).length ∧ NeedOk ws := by
 obtain ⟨h1,h2,h3⟩ := needV_one h
 have hok : okB p = true := by
  have h9 := h1
  unfold plainI floorI at h9
  simp only [Bool.and_eq_true] at h9
  exact h9.1.1
 have hn1 := okB_rooms1 hok
 rw [plainI_plain] at h1
 have hp := plain_plan h1
 have hN := plan_named hp
 obtain ⟨u0,u1⟩ := plan_up hp
 have hr := hN.rooms
 obtain ⟨s0,s1⟩ := same_all hN.hg (n := (rP p).length) (by omega) (fun i j hi hj => hN.cell hi hj) gP_room
 rw [w0_read]
 exact ⟨s0,s1,u0,u1,h2,hn1,h3⟩
end
def mkL : Nat → Nat → Txt → Txt
 | 0,_,s => s
 | f + 1,k,s => if k = 0 then s else mkL f (k / 10) (UInt8.ofNat (48 + k % 10) :: s)
def markT (k : Int) : Txt := if k ≤ 0 then [109,48] else 109 :: mkL 41 k.toNat []
theorem mkL_zero : ∀ {f : Nat} {s : Txt},mkL f 0 s = s
 | 0,_ => rfl
 | _ + 1,_ => by simp [mkL]
theorem mkL_succ {f k : Nat} {s : Txt} (h : 0 < k) : mkL (f + 1) k s = mkL f (k / 10) (UInt8.ofNat (48 + k % 10) :: s) := by rw [mkL,if_neg (by omega)]
theorem ten0 : ((10 : Int) = 0) = False := by simp
theorem tmod_nat {k : Nat} : ((k : Int)).tmod 10 = ((k % 10 : Nat) : Int) := (Int.ofNat_tmod k 10).symm
theorem tdiv_nat {k : Nat} : ((k : Int)).tdiv 10 = ((k / 10 : Nat) : Int) := (Int.ofNat_tdiv k 10).symm
theorem dig_add {k : Nat} : (48 : Int) + ((k % 10 : Nat) : Int) = ((48 + k % 10 : Nat) : Int) := by omega
theorem bytes_one {b : UInt8} : bytesOf [PV.int .u8 (b.toNat : Int)] = some [b] := by simp [bytesOf]
theorem markText_pc {k0 : Int} (h0 : -1 ≤ k0) (h1 : k0 ≤ 1099511627776) : PC Tryz.prog 93 [.int .i64 k0] (.str (markT k0)) true := by
 refine PC.of ⟨Tryz.func93,by kernel_rfl,rfl,by kernel_rfl⟩ tabOk mixed (by show 1 ≤ Tryz.f93.ntmps; decide) ?_
 refine W.r fun K hK => ?_
 simp (disch := omega) only [↓RU,RV,RH,↓reduceIte,reduceEqDiff,reduceCtorEq,if_pos,↓RS,RG,reduceAdd,reduceMul,reduceLeDiff]
 refine hK _ _ ?_;clear hK K
 refine W.seq ?_
 refine W.r fun K hK => ?_
 simp (disch := omega) only [↓RU,RV,RH,↓reduceIte,reduceEqDiff,reduceCtorEq,if_pos,w64,↓RS,RG,reduceAdd,reduceMul,reduceLeDiff,tyint]
 refine hK _ _ ?_;clear hK K
 refine W.cond rfl (fun h => ?_) (fun h => ?_)
 ·try simp only [RL] at h
  refine W.r fun K hK => ?_
  simp (disch := omega) only [↓RU,RV,RH,↓reduceIte,reduceEqDiff,reduceCtorEq,if_pos,↓RS,RG,reduceAdd,reduceMul,reduceLeDiff]
  refine hK _ _ ?_;clear hK K
  refine W.ret ?_
  refine XThen.ret ?_
  refine Br rfl ?_
  rw [markT,if_pos (by omega)]
  rfl
 ·try simp only [RL] at h
  obtain ⟨k1,rfl⟩ : ∃ k1 : Nat,k0 = k1 := ⟨k0.toNat,by omega⟩
  refine W.skip ?_
  refine xn ?_
  refine W.r fun K hK => ?_
  simp (disch := omega) only [↓RU,RV,RH,↓reduceIte,reduceEqDiff,reduceCtorEq,if_pos,↓RS,RG,reduceAdd,reduceMul,reduceLeDiff]
  refine hK _ _ ?_;clear hK K
  refine W.seq ?_
  refine W.block ?_
  refine W.loop [0,3] (fun n vs S => ∃ j k tk : Nat,∃ s : Txt,n = 41 - j ∧ j ≤ 41 ∧ k < 2 ^ (41 - j) ∧ k ≤ 1099511627776 ∧ s.length = j ∧ mkL (41 - j) k s = mkL 41 k1 [] ∧ vs = [.int .i64 (k : Nat),.str s] ∧ S = ⟨[],tk⟩) 41 ?_ ?_
  ·refine ⟨0,0,k1,0,[],rfl,by omega,by omega,by omega,rfl,rfl,?_,rfl⟩
   simp [Env.put,Env.of,argEnv]
  rintro n vs S - ⟨j,k,tk,s,rfl,h_j,hkf,hkl,hsf,hmk,rfl,rfl⟩
  refine W.seq ?_
  refine W.r fun K hK => ?_
  simp (disch := omega) only [↓RU,RV,RH,↓reduceIte,reduceEqDiff,reduceCtorEq,if_pos,w64,↓RS,RG,reduceAdd,reduceMul,reduceLeDiff,tyint]
  refine hK _ _ ?_;clear hK K
  refine W.cond rfl (fun h2 => ?_) (fun h2 => ?_)
  ·try simp only [RL] at h2
   have hj1 : j ≠ 41 := by rintro rfl; simp at hkf; omega
   obtain ⟨f,hf⟩ : ∃ f,41 - j = f + 1 := ⟨40 - j,by omega⟩
   rw [hf] at hkf hmk
   rw [Nat.pow_succ] at hkf
   rw [mkL_succ (by omega)] at hmk
   refine W.skip ?_
   refine xn ?_
   refine W.block ?_
   refine W.r fun K hK => ?_
   simp (disch := omega) only [↓RU,RV,RH,↓reduceIte,reduceEqDiff,reduceCtorEq,if_pos,w64,w64,↓RS,RG,reduceAdd,reduceMul,reduceLeDiff,ty7,tyint,tystring,ty27,pStr,ten0,tmod_nat,dig_add,u8_of,bytes_one,cells_int,Option.map_some,List.length_cons,List.length_nil]
   refine hK _ _ ?_;clear hK K
   refine W.k fun K hK => ?_
   simp (disch := omega) only [↓RU,RV,RH,↓reduceIte,reduceEqDiff,reduceCtorEq,if_pos,w64,↓RS,RG,reduceAdd,reduceMul,reduceLeDiff,tyint,ten0,tdiv_nat]
   refine hK _ _ ?_;clear hK K
   refine XbN ?_
   refine xn ?_
   refine ⟨41 - (j + 1),by omega,0,j + 1,k / 10,_,_,rfl,by omega,by rw [show 41 - (j + 1) = f by omega]; omega,by omega,?_,by rw [show 41 - (j + 1) = f by omega]; exact hmk,?_,rfl⟩
   ·simp [hsf]
   ·simp [Env.put,Env.of]
  ·try simp only [RL] at h2
   obtain rfl : k = 0 := by omega
   rw [mkL_zero] at hmk
   refine W.exit ?_
   refine xe ?_
   refine xe ?_
   refine XBlock.hit ?_
   refine xn ?_
   refine W.r fun K hK => ?_
   simp (disch := omega) only [↓RU,RV,RH,↓reduceIte,reduceEqDiff,reduceCtorEq,if_pos,w64,↓RS,RG,reduceAdd,reduceMul,reduceLeDiff,tystring,pStr]
   refine hK _ _ ?_;clear hK K
   refine W.ret ?_
   refine Br rfl ?_
   rw [markT,if_neg (by omega),Int.toNat_natCast,← hmk]
   rfl
theorem markStringS_ev {F R : List Ob} {ver t : Nat} {l : List Txt} (hl : l.length ≤ 1048576) {k0 : Int} (hk0 : 0 ≤ k0) (hk1 : k0 ≤ 4294967296) : Ev Tryz.prog 36 [.loc F.length ver 0 l.length,.int .i64 k0] ⟨F ++ .arr ver 9 1 (l.map .str) :: R,t⟩ fun v S => v = .int .i64 (k0 + l.length) ∧ ∃ ts : List Txt,ts.length = l.length ∧ S = ⟨F ++ .arr ver 9 1 (ts.map .str) :: R,t⟩ := by
 refine Ev.of ⟨Tryz.func36,by kernel_rfl,rfl,by kernel_rfl⟩ tabOk mixed (by show 2 ≤ Tryz.f36.ntmps; decide) ?_
 refine W.r fun K hK => ?_
 simp (disch := omega) only [↓RU,RV,RH,↓reduceIte,reduceEqDiff,reduceCtorEq,if_pos,↓RS,RG,reduceAdd,reduceMul,reduceLeDiff,gF,setF]
 refine hK _ _ ?_;clear hK K
 refine W.seq ?_
 refine W.r fun K hK => ?_
 simp (disch := omega) only [↓RU,RV,RH,↓reduceIte,reduceEqDiff,reduceCtorEq,if_pos,↓RS,RG,reduceAdd,reduceMul,reduceLeDiff,gF,setF]
 refine hK _ _ ?_;clear hK K
 refine W.block ?_
 refine W.loop [0,1,5] (fun n vs S => ∃ (i : Nat) (ts : List Txt),n = l.length - i ∧ i ≤ l.length ∧ ts.length = l.length ∧ vs = [.loc F.length ver 0 l.length,.int .i64 (k0 + i),.int .i64 i] ∧ S = ⟨F ++ .arr ver 9 1 (ts.map .str) :: R,t⟩) l.length ?_ ?_
 ·refine ⟨_,0,l,rfl,by omega,rfl,?_,take_all⟩
  simp [Env.put,Env.of,argEnv]
 rintro n vs S - ⟨i,ts,rfl,h_i,hts,rfl,rfl⟩
 refine W.seq ?_
 refine W.r fun K hK => ?_
 simp (disch := omega) only [↓RU,RV,RH,↓reduceIte,reduceEqDiff,reduceCtorEq,if_pos,w64,↓RS,RG,reduceAdd,reduceMul,reduceLeDiff,ty6,tyint,tystring,gF,setF]
 refine hK _ _ ?_;clear hK K
 refine W.cond rfl (fun h => ?_) (fun h => ?_)
 ·try simp only [RL] at h
  refine W.skip ?_
  refine xn ?_
  refine W.seq ?_
  refine W.block ?_
  refine W.r fun K hK => ?_
  simp (disch := omega) only [↓RU,RV,RH,↓reduceIte,reduceEqDiff,reduceCtorEq,if_pos,List.append_nil,↓RS,RG,reduceAdd,reduceMul,reduceLeDiff,ty6,tystring,gF,setF,hts,set_spl,set_str]
  refine CallR.pc (markText_pc (k0 := k0 + i) (by omega) (by omega)) rfl (.inl rfl) ?_
  simp (disch := omega) only [↓RU,RV,RH,↓reduceIte,reduceEqDiff,reduceCtorEq,if_pos,List.append_nil,↓RS,RG,reduceAdd,reduceMul,reduceLeDiff,ty6,tystring,gF,setF,hts,set_spl,set_str]
  refine hK _ _ ?_;clear hK K
  refine W.k fun K hK => ?_
  simp (disch := omega) only [↓RU,RV,RH,↓reduceIte,reduceEqDiff,reduceCtorEq,if_pos,w64,↓RS,RG,reduceAdd,reduceMul,reduceLeDiff,tyint,gF,setF]
  refine hK _ _ ?_;clear hK K
  refine XbN ?_
  refine xn ?_
  refine W.k fun K hK => ?_
  simp (disch := omega) only [↓RU,RV,RH,↓reduceIte,reduceEqDiff,reduceCtorEq,if_pos,w64,↓RS,RG,reduceAdd,reduceMul,reduceLeDiff,tyint,gF,setF]
  refine hK _ _ ?_;clear hK K
  refine xn ?_
  refine ⟨l.length - (i + 1),by omega,_,i + 1,ts.set i (markT (k0 + i)),rfl,by omega,by simpa using hts,?_,take_all⟩
  simp [Env.put,Env.of,Int.add_assoc]
 ·try simp only [RL] at h
  obtain rfl : i = l.length := by omega
  refine W.exit ?_
  refine xe ?_
  refine xe ?_
  refine XBlock.hit ?_
  refine xn ?_
  refine W.r fun K hK => ?_
  simp (disch := omega) only [↓RU,RV,RH,↓reduceIte,reduceEqDiff,reduceCtorEq,if_pos,↓RS,RG,reduceAdd,reduceMul,reduceLeDiff,gF,setF]
  refine hK _ _ ?_;clear hK K
  refine W.ret ?_
  refine Br rfl ?_
  exact ⟨_,rfl,ts,hts,take_all⟩
theorem held_succ {ts : List Int} {k0 : Int} {i : Nat} (h : ∀ j : Nat,j < i → ts[j]? = some (k0 + j)) (hi : i < ts.length) : ∀ j : Nat,j < i + 1 → (ts.set i (k0 + i))[j]? = some (k0 + j) := by
 intro j hj
 rw [List.getElem?_set]
 by_cases e : i = j
 ·subst e; rw [if_pos rfl,if_pos hi]
 ·rw [if_neg e]; exact h j (by omega)
theorem markIntS_ev {F R : List Ob} {ver t : Nat} {l : List Int} (hl : l.length ≤ 1048576) {k0 : Int} (hk0 : 0 ≤ k0) (hk1 : k0 ≤ 4294967296) : Ev Tryz.prog 37 [.loc F.length ver 0 l.length,.int .i64 k0] ⟨F ++ .arr ver 3 1 (l.map (.int .i64)) :: R,t⟩ fun v S => v = .int .i64 (k0 + l.length) ∧ ∃ ts : List Int,ts.length = l.length ∧ (∀ j : Nat,j < l.length → ts[j]? = some (k0 + j)) ∧ S = ⟨F ++ .arr ver 3 1 (ts.map (.int .i64)) :: R,t⟩ := by
 refine Ev.of ⟨Tryz.func37,by kernel_rfl,rfl,by kernel_rfl⟩ tabOk mixed (by show 2 ≤ Tryz.f37.ntmps; decide) ?_
 refine W.r fun K hK => ?_
 simp (disch := omega) only [↓RU,RV,RH,↓reduceIte,reduceEqDiff,reduceCtorEq,if_pos,↓RS,RG,reduceAdd,reduceMul,reduceLeDiff,gF,setF]
 refine hK _ _ ?_;clear hK K
 refine W.seq ?_
 refine W.r fun K hK => ?_
 simp (disch := omega) only [↓RU,RV,RH,↓reduceIte,reduceEqDiff,reduceCtorEq,if_pos,↓RS,RG,reduceAdd,reduceMul,reduceLeDiff,gF,setF]
 refine hK _ _ ?_;clear hK K
 refine W.block ?_
 refine W.loop [0,1,5] (fun n vs S => ∃ (i : Nat) (ts : List Int),n = l.length - i ∧ i ≤ l.length ∧ ts.length = l.length ∧ (∀ j : Nat,j < i → ts[j]? = some (k0 + j)) ∧ vs = [.loc F.length ver 0 l.length,.int .i64 (k0 + i),.int .i64 i] ∧ S = ⟨F ++ .arr ver 3 1 (ts.map (.int .i64)) :: R,t⟩) l.length ?_ ?_
 ·refine ⟨_,0,l,rfl,by omega,rfl,fun j h => absurd h (by omega),?_,take_all⟩
  simp [Env.put,Env.of,argEnv]
 rintro n vs S - ⟨i,ts,rfl,h_i,hts,hd,rfl,rfl⟩
 refine W.seq ?_
 refine W.r fun K hK => ?_
 simp (disch := omega) only [↓RU,RV,RH,↓reduceIte,reduceEqDiff,reduceCtorEq,if_pos,w64,↓RS,RG,reduceAdd,reduceMul,reduceLeDiff,tyLint,tyint,gF,setF]
 refine hK _ _ ?_;clear hK K
 refine W.cond rfl (fun h => ?_) (fun h => ?_)
 ·try simp only [RL] at h
  refine W.skip ?_
  refine xn ?_
  refine W.seq ?_
  refine W.block ?_
  refine W.r fun K hK => ?_
  simp (disch := omega) only [↓RU,RV,RH,↓reduceIte,reduceEqDiff,reduceCtorEq,if_pos,↓RS,RG,reduceAdd,reduceMul,reduceLeDiff,tyLint,tyint,gF,setF,hts,set_spl,set_int]
  refine hK _ _ ?_;clear hK K
  refine W.k fun K hK => ?_
  simp (disch := omega) only [↓RU,RV,RH,↓reduceIte,reduceEqDiff,reduceCtorEq,if_pos,w64,↓RS,RG,reduceAdd,reduceMul,reduceLeDiff,tyint,gF,setF]
  refine hK _ _ ?_;clear hK K
  refine XbN ?_
  refine xn ?_
  refine W.k fun K hK => ?_
  simp (disch := omega) only [↓RU,RV,RH,↓reduceIte,reduceEqDiff,reduceCtorEq,if_pos,w64,↓RS,RG,reduceAdd,reduceMul,reduceLeDiff,tyint,gF,setF]
  refine hK _ _ ?_;clear hK K
  refine xn ?_
  refine ⟨l.length - (i + 1),by omega,_,i + 1,ts.set i (k0 + i),rfl,by omega,by simpa using hts,held_succ hd (by omega),?_,take_all⟩
  simp [Env.put,Env.of,Int.add_assoc]
 ·try simp only [RL] at h
  obtain rfl : i = l.length := by omega
  refine W.exit ?_
  refine xe ?_
  refine xe ?_
  refine XBlock.hit ?_
  refine xn ?_
  refine W.r fun K hK => ?_
  simp (disch := omega) only [↓RU,RV,RH,↓reduceIte,reduceEqDiff,reduceCtorEq,if_pos,↓RS,RG,reduceAdd,reduceMul,reduceLeDiff,gF,setF]
  refine hK _ _ ?_;clear hK K
  refine W.ret ?_
  refine Br rfl ?_
  exact ⟨_,rfl,ts,hts,hd,take_all⟩
theorem heldIntS_pc {l : List Int} (hl : l.length ≤ 1048576) {k0 : Int} (hk0 : 0 ≤ k0) (hk1 : k0 ≤ 4294967296) (hd : ∀ j : Nat,j < l.length → l[j]? = some (k0 + j)) : PC Tryz.prog 94 [eInts l,.int .i64 k0] (.int .i64 (k0 + l.length)) true := by
 refine PC.of ⟨Tryz.func94,by kernel_rfl,rfl,by kernel_rfl⟩ tabOk mixed (by show 2 ≤ Tryz.f94.ntmps; decide) ?_
 refine W.r fun K hK => ?_
 simp (disch := omega) only [↓RU,RV,RH,↓reduceIte,reduceEqDiff,reduceCtorEq,if_pos]
 refine hK _ _ ?_;clear hK K
 refine W.seq ?_
 refine W.r fun K hK => ?_
 simp (disch := omega) only [↓RU,RV,RH,↓reduceIte,reduceEqDiff,reduceCtorEq,if_pos]
 refine hK _ _ ?_;clear hK K
 refine W.block ?_
 refine W.loop [0,1,5] (fun n vs S => ∃ i : Nat,n = l.length - i ∧ i ≤ l.length ∧ vs = [eInts l,.int .i64 (k0 + i),.int .i64 i] ∧ S = ⟨[],0⟩) (l.length) ?_ ?_
 ·refine ⟨0,0,rfl,Nat.zero_le _,?_,rfl⟩
  simp [Env.put,Env.of,argEnv]
 rintro n vs S - ⟨i,rfl,h_i,rfl,rfl⟩
 refine W.seq ?_
 refine W.r fun K hK => ?_
 simp (disch := omega) only [↓RU,RV,RH,↓reduceIte,reduceEqDiff,reduceCtorEq,if_pos,w64,tyLint,tyint]
 refine hK _ _ ?_;clear hK K
 refine W.cond rfl (fun h => ?_) (fun h => ?_)
 ·try simp only [RL] at h
  have hx := hd i (by omega)
  refine W.skip ?_
  refine xn ?_
  refine W.seq ?_
  refine W.block ?_
  refine W.seq ?_
  refine W.r fun K hK => ?_
  have hne : ((k0 + (i : Int)) != (k0 + (i : Int))) = false := by simp
  simp (disch := omega) only [↓RU,RV,RH,↓reduceIte,reduceEqDiff,reduceCtorEq,if_pos,w64,tyLint,tyint,hx]
  refine hK _ _ ?_;clear hK K
  refine W.cond rfl (fun h1 => ?_) (fun h1 => ?_)
  ·try simp only [RL] at h1
   exact absurd h1 (by simp)
  ·try simp only [RL] at h1
   refine W.skip ?_
   refine xn ?_
   refine W.k fun K hK => ?_
   simp (disch := omega) only [↓RU,RV,RH,↓reduceIte,reduceEqDiff,reduceCtorEq,if_pos,w64,tyint]
   refine hK _ _ ?_;clear hK K
   refine XbN ?_
   refine xn ?_
   refine W.k fun K hK => ?_
   simp (disch := omega) only [↓RU,RV,RH,↓reduceIte,reduceEqDiff,reduceCtorEq,if_pos,w64,tyint]
   refine hK _ _ ?_;clear hK K
   refine xn ?_
   refine ⟨l.length - (i + 1),by omega,0,i + 1,rfl,by omega,?_,rfl⟩
   simp [Env.put,Env.of,Int.add_assoc]
 ·try simp only [RL] at h
  obtain rfl : i = l.length := by omega
  refine W.exit ?_
  refine xe ?_
  refine xe ?_
  refine XBlock.hit ?_
  refine xn ?_
  refine W.r fun K hK => ?_
  simp (disch := omega) only [↓RU,RV,RH,↓reduceIte,reduceEqDiff,reduceCtorEq,if_pos]
  refine hK _ _ ?_;clear hK K
  refine W.ret ?_
  refine Br rfl ?_
  rfl

def swp (ws hs : List Int) (set : Nat) : List Int := (List.range ws.length).map fun r => if set.testBit r then getI hs r else getI ws r
theorem swp_len {ws hs : List Int} {set : Nat} : (swp ws hs set).length = ws.length := by simp [swp]
theorem swp_ok {ws hs : List Int} {set : Nat} (hw : NeedOk ws) (hh : NeedOk hs) (hl : ws.length = hs.length) : NeedOk (swp ws hs set) := by
 intro x hx
 obtain ⟨r,hr,rfl⟩ := List.mem_map.1 hx
 have hr2 : r < ws.length := by simpa using hr
 obtain ⟨y,hy,hym⟩ := get_of hr2
 obtain ⟨z,hz,hzm⟩ := get_of (show r < hs.length by omega)
 rw [getI_is hy,getI_is hz]
 split
 ·exact hh z hzm
 ·exact hw y hym
theorem swp_at {ws hs : List Int} {set i : Nat} {x y : Int} (hx : ws[i]? = some x) (hy : hs[i]? = some y) : (swp ws hs set)[i]? = some (if set.testBit i then y else x) := by
 have hi := len_of hx
 unfold swp
 rw [List.getElem?_map,List.getElem?_range hi,Option.map_some,getI_is hx,getI_is hy]
theorem swp_take {ws hs : List Int} {set i : Nat} {x y : Int} (hx : ws[i]? = some x) (hy : hs[i]? = some y) : (swp ws hs set).take (i + 1) = (swp ws hs set).take i ++ [if set.testBit i then y else x] := by
 rw [tk (swp_at hx hy)]
def domB (x : Int × Int) (w h : Int) : Bool := decide (x.1 ≤ w) && decide (x.2 ≤ h)
def putStep (w h : Int) (s : List (Int × Int) × Bool) (x : Int × Int) : List (Int × Int) × Bool :=
 if w ≤ x.1 ∧ h ≤ x.2 then s else if s.2 = false ∧ w < x.1 then (s.1 ++ [(w,h),x],true) else (s.1 ++ [x],s.2)
def putF (l : List (Int × Int)) (w h : Int) : List (Int × Int) × Bool := l.foldl (putStep w h) ([],false)
def put (l : List (Int × Int)) (w h : Int) : List (Int × Int) := if l.any (fun x => domB x w h) then l else if (putF l w h).2 then (putF l w h).1 else (putF l w h).1 ++ [(w,h)]
theorem putF_inv {l : List (Int × Int)} {w h : Int} : ∀ i,i ≤ l.length → (∀ y ∈ (putF (l.take i) w h).1,y ∈ l.take i ∨ y = (w,h)) ∧ (∀ x ∈ l.take i,x ∈ (putF (l.take i) w h).1 ∨ (w ≤ x.1 ∧ h ≤ x.2)) ∧ ((putF (l.take i) w h).2 = true → (w,h) ∈ (putF (l.take i) w h).1) ∧
  (putF (l.take i) w h).1.length ≤ i + (if (putF (l.take i) w h).2 then 1 else 0)
 | 0,_ => by simp [putF]
 | i + 1,hi => by
  obtain ⟨h1,h2,h3,h4⟩ := putF_inv (l := l) (w := w) (h := h) i (by omega)
  obtain ⟨x,hx,-⟩ := get_of (show i < l.length by omega)
  have e : putF (l.take (i + 1)) w h = putStep w h (putF (l.take i) w h) x := foldl_tk hx
  have et : l.take (i + 1) = l.take i ++ [x] := tk hx
  rw [e,et]
  generalize putF (l.take i) w h = s at h1 h2 h3 h4
  obtain ⟨o,d⟩ := s
  unfold putStep
  simp only at h1 h2 h3 h4 ⊢
  by_cases c1 : w ≤ x.1 ∧ h ≤ x.2
  ·rw [if_pos c1]
   refine ⟨fun y hy => ?_,fun y hy => ?_,h3,by split at h4 <;> split <;> simp_all <;> omega⟩
   ·rcases h1 y hy with k | k
    ·exact .inl (List.mem_append_left _ k)
    ·exact .inr k
   ·rcases List.mem_append.1 hy with k | k
    ·exact h2 y k
    ·rw [List.mem_singleton] at k; subst k; exact .inr c1
  ·rw [if_neg c1]
   by_cases c2 : d = false ∧ w < x.1
   ·rw [if_pos c2]
    obtain ⟨rfl,c3⟩ := c2
    refine ⟨fun y hy => ?_,fun y hy => ?_,fun _ => by simp,by simp at h4 ⊢; omega⟩
    ·simp only [List.mem_append,List.mem_cons,List.not_mem_nil,or_false] at hy ⊢
     rcases hy with k | k | k
     ·rcases h1 y k with q | q
      ·exact .inl (.inl q)
      ·exact .inr q
     ·exact .inr k
     ·exact .inl (.inr k)
    ·rcases List.mem_append.1 hy with k | k
     ·rcases h2 y k with q | q
      ·exact .inl (List.mem_append_left _ q)
      ·exact .inr q
     ·rw [List.mem_singleton] at k; subst k; exact .inl (by simp)
   ·rw [if_neg c2]
    refine ⟨fun y hy => ?_,fun y hy => ?_,fun k => List.mem_append_left _ (h3 k),by simp at h4 ⊢; omega⟩
    ·rcases List.mem_append.1 hy with k | k
     ·rcases h1 y k with q | q
      ·exact .inl (List.mem_append_left _ q)
      ·exact .inr q
     ·exact .inl (List.mem_append_right _ k)
    ·rcases List.mem_append.1 hy with k | k
     ·rcases h2 y k with q | q
      ·exact .inl (List.mem_append_left _ q)
      ·exact .inr q
     ·rw [List.mem_singleton] at k; subst k; exact .inl (by simp)
theorem put_inv {l : List (Int × Int)} {w h : Int} : (∀ y ∈ put l w h,y ∈ l ∨ y = (w,h)) ∧ (∀ x,(x ∈ l ∨ x = (w,h)) → ∃ y ∈ put l w h,y.1 ≤ x.1 ∧ y.2 ≤ x.2) ∧ (put l w h).length ≤ l.length + 1 := by
 have hi := putF_inv (l := l) (w := w) (h := h) l.length (Nat.le_refl _)
 rw [List.take_length] at hi
 obtain ⟨h1,h2,h3,h4⟩ := hi
 unfold put
 split
 ·rename_i hd
  refine ⟨fun y hy => .inl hy,fun x hx => ?_,by omega⟩
  rcases hx with hx | rfl
  ·exact ⟨x,hx,Int.le_refl _,Int.le_refl _⟩
  ·obtain ⟨y,hy,k⟩ := List.any_eq_true.1 hd
   unfold domB at k
   simp only [Bool.and_eq_true,decide_eq_true_eq] at k
   exact ⟨y,hy,k⟩
 ·generalize putF l w h = s at h1 h2 h3 h4
  obtain ⟨o,d⟩ := s
  simp only at h1 h2 h3 h4 ⊢
  cases d with
  | true =>
   rw [if_pos rfl]
   refine ⟨h1,fun x hx => ?_,by simpa using h4⟩
   rcases hx with hx | rfl
   ·rcases h2 x hx with k | k
    ·exact ⟨x,k,Int.le_refl _,Int.le_refl _⟩
    ·exact ⟨_,h3 rfl,k⟩
   ·exact ⟨_,h3 rfl,Int.le_refl _,Int.le_refl _⟩
  | false =>
   rw [if_neg Bool.false_ne_true]
   refine ⟨fun y hy => ?_,fun x hx => ?_,by simp at h4 ⊢; omega⟩
   ·rcases List.mem_append.1 hy with k | k
    ·exact h1 y k
    ·exact .inr (List.mem_singleton.1 k)
   ·rcases hx with hx | rfl
    ·rcases h2 x hx with k | k
     ·exact ⟨x,List.mem_append_left _ k,Int.le_refl _,Int.le_refl _⟩
     ·exact ⟨_,List.mem_append_right _ (List.mem_singleton.2 rfl),k⟩
    ·exact ⟨_,List.mem_append_right _ (List.mem_singleton.2 rfl),Int.le_refl _,Int.le_refl _⟩
def allP (sh : Nat → Int × Int) (k : Nat) : List (Int × Int) := (List.range k).foldl (fun l s => put l (sh s).1 (sh s).2) []
theorem allP_succ {sh : Nat → Int × Int} {k : Nat} : allP sh (k + 1) = put (allP sh k) (sh k).1 (sh k).2 := by unfold allP; rw [foldl_rg]
theorem allP_inv {sh : Nat → Int × Int} : ∀ k,(∀ y ∈ allP sh k,∃ s,s < k ∧ y = sh s) ∧ (∀ s,s < k → ∃ y ∈ allP sh k,y.1 ≤ (sh s).1 ∧ y.2 ≤ (sh s).2) ∧ (allP sh k).length ≤ k
 | 0 => by simp [allP]
 | k + 1 => by
  obtain ⟨h1,h2,h3⟩ := allP_inv (sh := sh) k
  obtain ⟨k1,k2,k3⟩ := put_inv (l := allP sh k) (w := (sh k).1) (h := (sh k).2)
  rw [allP_succ]
  refine ⟨fun y hy => ?_,fun s hs => ?_,by omega⟩
  ·rcases k1 y hy with q | q
   ·obtain ⟨s,hs,rfl⟩ := h1 y q
    exact ⟨s,by omega,rfl⟩
   ·exact ⟨k,by omega,q⟩
  ·by_cases e : s = k
   ·subst e
    exact k2 _ (.inr rfl)
   ·obtain ⟨y,hy,q1,q2⟩ := h2 s (by omega)
    obtain ⟨z,hz,r1,r2⟩ := k2 y (.inl hy)
    exact ⟨z,hz,by omega,by omega⟩
theorem allP_ne {sh : Nat → Int × Int} {k : Nat} (hk : 1 ≤ k) : allP sh k ≠ [] := by
 obtain ⟨y,hy,-⟩ := (allP_inv (sh := sh) k).2.1 0 (by omega)
 intro h; rw [h] at hy; cases hy
def shS (p : List Txt) (ws hs : List Int) (set : Nat) : Int × Int := (least (allS p 0) (swp ws hs set),least (allS p 1) (swp hs ws set))
def shI (L A : List (List Bool)) (n : Nat) (ws hs : List Int) (set : Nat) : Int × Int := (maxL (heaviest L (swp ws hs set) n),maxL (heaviest A (swp hs ws set) n))
theorem sh_eq {p : List Txt} {ws hs : List Int} (h1 : needV p [ws] = true) (h2 : needV p [hs] = true) (set : Nat) : shI (leftG (gP p) p.length (w0 (readG p)) (rP p).length) (aboveG (gP p) p.length (w0 (readG p)) (rP p).length) (rP p).length ws hs set = shS p ws hs set := by
 obtain ⟨s0,s1,u0,u1,k1,k2,k3⟩ := plan_same h1
 obtain ⟨-,-,-,-,l1,-,l3⟩ := plan_same h2
 unfold shI shS
 rw [least_heaviest s0 u0 (by rw [swp_len,k1]) k2 (swp_ok k3 l3 (by omega)),least_heaviest s1 u1 (by rw [swp_len,l1]) k2 (swp_ok l3 k3 (by omega))]
def eShp (x : Int × Int) : List PV := [.int .i64 x.1,.int .i64 x.2]
def given8 (p : List Txt) (ws ht : List Int) : Bool := needsB p ws && needsB p ht && decide (ws.length ≤ 8)
theorem given8_ok {p : List Txt} {ws ht : List Int} (h : given8 p ws ht = true) : needsB p ws = true ∧ needsB p ht = true ∧ ws.length ≤ 8 := by
 unfold given8 at h; simp only [Bool.and_eq_true,decide_eq_true_eq] at h; exact ⟨h.1.1,h.1.2,h.2⟩
def areaF (p : List Txt) (ws ht : List Int) (s : Nat) : Int := (shS p ws ht s).1 * (shS p ws ht s).2
theorem shS_bnd {p : List Txt} {ws ht : List Int} (h1 : needsB p ws = true) (h2 : needsB p ht = true) (s : Nat) : 0 ≤ (shS p ws ht s).1 ∧ (shS p ws ht s).1 ≤ 6570 ∧ 0 ≤ (shS p ws ht s).2 ∧ (shS p ws ht s).2 ≤ 6570 := by
 obtain ⟨-,-,-,k4,k5,k6⟩ := needsB_ok h1
 obtain ⟨-,-,-,l4,l5,l6⟩ := needsB_ok h2
 have a := least_bnd (sets := allS p 0) (swp_ok (set := s) k6 l6 (by omega)) (by rw [swp_len]; exact k5)
 have b := least_bnd (sets := allS p 1) (swp_ok (set := s) l6 k6 (by omega)) (by rw [swp_len]; exact l5)
 exact ⟨a.1,a.2,b.1,b.2⟩
theorem areaF_bnd {p : List Txt} {ws ht : List Int} (h1 : needsB p ws = true) (h2 : needsB p ht = true) (s : Nat) : 0 ≤ areaF p ws ht s ∧ areaF p ws ht s ≤ 43164900 := by
 obtain ⟨a1,a2,b1,b2⟩ := shS_bnd h1 h2 s
 have b3 := Int.mul_nonneg a1 b1
 have b4 := Int.mul_le_mul a2 b2 b1 (by omega)
 unfold areaF
 omega
theorem swp_app {ws ht : List Int} {set i : Nat} {x y : Int} (hx : ws[i]? = some x) (hy : ht[i]? = some y) : ((swp ws ht set).take i).map (PV.int .i64) ++ [.int .i64 (if set.testBit i then y else x)] = ((swp ws ht set).take (i + 1)).map (.int .i64) := by
 rw [swp_take hx hy]; simp
theorem pow8 {n : Nat} (h : n ≤ 8) : 1 ≤ 2 ^ n ∧ 2 ^ n ≤ 256 := ⟨Nat.one_le_two_pow,Nat.pow_le_pow_right (n := 2) (by omega) h⟩
theorem l8Given_pc {p : List Txt} (hs : Sm p) {ws ht : List Int} (hw : ws.length ≤ 1048576) (hh : ht.length ≤ 1048576) : PC Tryz.prog 88 [eStrs p,eInts ws,eInts ht] (.bool (given8 p ws ht)) true := by
 refine PC.of ⟨Tryz.func88,by kernel_rfl,rfl,by kernel_rfl⟩ tabOk mixed (by show 3 ≤ Tryz.f88.ntmps; decide) ?_
 refine W.r fun K hK => ?_
 simp (disch := omega) only [↓RU,RV,RH,↓reduceIte,reduceEqDiff,reduceCtorEq,if_pos]
 refine hK _ _ ?_;clear hK K
 refine W.r fun K hK => ?_
 rcases hgg : (needsB p ws,needsB p ht) with ⟨_ | _,_ | _⟩
 ·skip
  simp only [Prod.mk.injEq] at hgg
  obtain ⟨hg,hg2⟩ := hgg
  simp (disch := omega) only [↓RU,RV,RH,↓reduceIte,reduceEqDiff,reduceCtorEq,if_pos,List.append_nil,w64,tyLint,tyint,hg]
  refine CallR.pc (l7Needs_pc hs hw) rfl (.inl rfl) ?_
  simp (disch := omega) only [↓RU,RV,RH,↓reduceIte,reduceEqDiff,reduceCtorEq,if_pos,List.append_nil,w64,tyLint,tyint,hg]
  refine hK _ _ ?_;clear hK K
  refine W.ret ?_
  refine Br rfl ?_
  rw [given8,hg,hg2]
  first | rfl | exact congrArg (fun b => some (PV.bool b)) (show decide ((ws.length : Int) ≤ 8) = (true && true && decide (ws.length ≤ 8)) by simp; omega)
 ·skip
  simp only [Prod.mk.injEq] at hgg
  obtain ⟨hg,hg2⟩ := hgg
  simp (disch := omega) only [↓RU,RV,RH,↓reduceIte,reduceEqDiff,reduceCtorEq,if_pos,List.append_nil,w64,tyLint,tyint,hg]
  refine CallR.pc (l7Needs_pc hs hw) rfl (.inl rfl) ?_
  simp (disch := omega) only [↓RU,RV,RH,↓reduceIte,reduceEqDiff,reduceCtorEq,if_pos,List.append_nil,w64,tyLint,tyint,hg]
  refine hK _ _ ?_;clear hK K
  refine W.ret ?_
  refine Br rfl ?_
  rw [given8,hg,hg2]
  first | rfl | exact congrArg (fun b => some (PV.bool b)) (show decide ((ws.length : Int) ≤ 8) = (true && true && decide (ws.length ≤ 8)) by simp; omega)
 ·skip
  simp only [Prod.mk.injEq] at hgg
  obtain ⟨hg,hg2⟩ := hgg
  simp (disch := omega) only [↓RU,RV,RH,↓reduceIte,reduceEqDiff,reduceCtorEq,if_pos,List.append_nil,w64,tyLint,tyint,hg,hg2]
  refine CallR.pc (l7Needs_pc hs hw) rfl (.inl rfl) ?_
  simp (disch := omega) only [↓RU,RV,RH,↓reduceIte,reduceEqDiff,reduceCtorEq,if_pos,List.append_nil,w64,tyLint,tyint,hg,hg2]
  refine CallR.pc (l7Needs_pc hs hh) rfl (.inl rfl) ?_
  simp (disch := omega) only [↓RU,RV,RH,↓reduceIte,reduceEqDiff,reduceCtorEq,if_pos,List.append_nil,w64,tyLint,tyint,hg,hg2]
  refine hK _ _ ?_;clear hK K
  refine W.ret ?_
  refine Br rfl ?_
  rw [given8,hg,hg2]
  first | rfl | exact congrArg (fun b => some (PV.bool b)) (show decide ((ws.length : Int) ≤ 8) = (true && true && decide (ws.length ≤ 8)) by simp; omega)
 ·skip
  simp only [Prod.mk.injEq] at hgg
  obtain ⟨hg,hg2⟩ := hgg
  simp (disch := omega) only [↓RU,RV,RH,↓reduceIte,reduceEqDiff,reduceCtorEq,if_pos,List.append_nil,w64,tyLint,tyint,hg,hg2]
  refine CallR.pc (l7Needs_pc hs hw) rfl (.inl rfl) ?_
  simp (disch := omega) only [↓RU,RV,RH,↓reduceIte,reduceEqDiff,reduceCtorEq,if_pos,List.append_nil,w64,tyLint,tyint,hg,hg2]
  refine CallR.pc (l7Needs_pc hs hh) rfl (.inl rfl) ?_
  simp (disch := omega) only [↓RU,RV,RH,↓reduceIte,reduceEqDiff,reduceCtorEq,if_pos,List.append_nil,w64,tyLint,tyint,hg,hg2]
  refine hK _ _ ?_;clear hK K
  refine W.ret ?_
  refine Br rfl ?_
  rw [given8,hg,hg2]
  first | rfl | exact congrArg (fun b => some (PV.bool b)) (show decide ((ws.length : Int) ≤ 8) = (true && true && decide (ws.length ≤ 8)) by simp; omega)
theorem l8Shape_pc {p : List Txt} (hs : Sm p) {ws ht : List Int} (h1 : needsB p ws = true) (h2 : needsB p ht = true) {set : Nat} (hset : set < 256) : PC Tryz.prog 138 [eStrs p,eInts ws,eInts ht,.int .i64 set] (.tup [.int .i64 (shS p ws ht set).1,.int .i64 (shS p ws ht set).2]) true := by
 obtain ⟨k1,k2,k3,k4,k5,k6⟩ := needsB_ok h1
 obtain ⟨-,-,-,l4,l5,l6⟩ := needsB_ok h2
 have hwl := swp_len (ws := ws) (hs := ht) (set := set)
 have hhl := swp_len (ws := ht) (hs := ws) (set := set)
 obtain ⟨nr,hnr⟩ : ∃ nr : Nat,ws.length = nr := ⟨_,rfl⟩
 have hnr2 : ht.length = nr := by omega
 refine PC.of ⟨Tryz.func138,by kernel_rfl,rfl,by kernel_rfl⟩ tabOk mixed (by show 4 ≤ Tryz.f138.ntmps; decide) ?_
 refine W.r fun K hK => ?_
 simp (disch := omega) only [↓RU,RV,RH,↓reduceIte,reduceEqDiff,reduceCtorEq,if_pos,↓RS,RG,reduceAdd,reduceMul,reduceLeDiff]
 refine hK _ _ ?_;clear hK K
 refine W.r fun K hK => ?_
 simp (disch := omega) only [↓RU,RV,RH,↓reduceIte,reduceEqDiff,reduceCtorEq,if_pos,↓RS,RG,reduceAdd,reduceMul,reduceLeDiff,tyLint,tyint]
 refine hK _ _ ?_;clear hK K
 refine W.r fun K hK => ?_
 simp (disch := omega) only [↓RU,RV,RH,↓reduceIte,reduceEqDiff,reduceCtorEq,if_pos,↓RS,RG,reduceAdd,reduceMul,reduceLeDiff,tyLint,tyint]
 refine hK _ _ ?_;clear hK K
 refine W.seq ?_
 refine W.r fun K hK => ?_
 simp (disch := omega) only [↓RU,RV,RH,↓reduceIte,reduceEqDiff,reduceCtorEq,if_pos,↓RS,RG,reduceAdd,reduceMul,reduceLeDiff]
 refine hK _ _ ?_;clear hK K
 refine W.block ?_
 refine W.loop [0,1,2,3,10,11,12] (fun n vs S => ∃ i v0 v1 tk : Nat,n = nr - i ∧ i ≤ nr ∧ vs = [eStrs p,eInts ws,eInts ht,.int .i64 set,.loc 0 v0 0 i,.loc 1 v1 0 i,.int .i64 i] ∧ S = ⟨[.arr v0 3 1 (((swp ws ht set).take i).map (.int .i64)),.arr v1 3 1 (((swp ht ws set).take i).map (.int .i64))],tk⟩) nr ?_ ?_
 ·refine ⟨2,0,0,1,2,rfl,by omega,?_,rfl⟩
  simp [Env.put,Env.of,argEnv]
 rintro n vs S - ⟨i,v0,v1,tk,rfl,h_i,rfl,rfl⟩
 refine W.seq ?_
 refine W.r fun K hK => ?_
 simp (disch := omega) only [↓RU,RV,RH,↓reduceIte,reduceEqDiff,reduceCtorEq,if_pos,w64,↓RS,RG,reduceAdd,reduceMul,reduceLeDiff,tyLint,tyint]
 refine hK _ _ ?_;clear hK K
 refine W.cond rfl (fun h => ?_) (fun h => ?_)
 ·try simp only [RL] at h
  obtain ⟨x,hx,-⟩ := get_of (show i < ws.length by omega)
  obtain ⟨y,hy,-⟩ := get_of (show i < ht.length by omega)
  have ha1 := swp_app (set := set) hx hy
  have ha2 := swp_app (set := set) hy hx
  have hl1 : ((swp ws ht set).take i).length = i := by rw [List.length_take]; omega
  have hl2 : ((swp ht ws set).take i).length = i := by rw [List.length_take]; omega
  refine W.skip ?_
  refine xn ?_
  refine W.seq ?_
  refine W.block ?_
  refine W.r fun K hK => ?_
  simp (disch := omega) only [↓RU,RV,RH,↓reduceIte,reduceEqDiff,reduceCtorEq,if_pos,w64,↓RS,RG,reduceAdd,reduceMul,reduceLeDiff,tyint,pShr,w_bit]
  refine hK _ _ ?_;clear hK K
  refine W.cond rfl (fun h3 => ?_) (fun h3 => ?_)
  ·try simp only [RL] at h3
   rw [h3] at ha1 ha2
   simp only [if_true] at ha1 ha2
   refine W.r fun K hK => ?_
   simp (disch := omega) only [↓RU,RV,RH,↓reduceIte,reduceEqDiff,reduceCtorEq,if_pos,↓RS,RG,reduceAdd,reduceMul,reduceLeDiff,tyLint,tyint,hx,hy,hl1,hl2]
   refine hK _ _ ?_;clear hK K
   refine W.k fun K hK => ?_
   simp (disch := omega) only [↓RU,RV,RH,↓reduceIte,reduceEqDiff,reduceCtorEq,if_pos,↓RS,RG,reduceAdd,reduceMul,reduceLeDiff,tyLint,tyint,hx,hy,hl1,hl2]
   refine hK _ _ ?_;clear hK K
   refine XbN ?_
   refine xn ?_
   refine W.k fun K hK => ?_
   simp (disch := omega) only [↓RU,RV,RH,↓reduceIte,reduceEqDiff,reduceCtorEq,if_pos,w64,↓RS,RG,reduceAdd,reduceMul,reduceLeDiff,tyint]
   refine hK _ _ ?_;clear hK K
   refine xn ?_
   refine ⟨nr - (i + 1),by omega,2,i + 1,tk + 1,tk + 3,tk + 4,rfl,by omega,?_,?_⟩
   ·simp [Env.put,Env.of]
   ·rw [← ha1,← ha2]; simp [take_eq,tk_le]
  ·try simp only [RL] at h3
   rw [h3] at ha1 ha2
   simp only [Bool.false_eq_true,if_false] at ha1 ha2
   refine W.r fun K hK => ?_
   simp (disch := omega) only [↓RU,RV,RH,↓reduceIte,reduceEqDiff,reduceCtorEq,if_pos,↓RS,RG,reduceAdd,reduceMul,reduceLeDiff,tyLint,tyint,hx,hy,hl1,hl2]
   refine hK _ _ ?_;clear hK K
   refine W.k fun K hK => ?_
   simp (disch := omega) only [↓RU,RV,RH,↓reduceIte,reduceEqDiff,reduceCtorEq,if_pos,↓RS,RG,reduceAdd,reduceMul,reduceLeDiff,tyLint,tyint,hx,hy,hl1,hl2]
   refine hK _ _ ?_;clear hK K
   refine XbN ?_
   refine xn ?_
   refine W.k fun K hK => ?_
   simp (disch := omega) only [↓RU,RV,RH,↓reduceIte,reduceEqDiff,reduceCtorEq,if_pos,w64,↓RS,RG,reduceAdd,reduceMul,reduceLeDiff,tyint]
   refine hK _ _ ?_;clear hK K
   refine xn ?_
   refine ⟨nr - (i + 1),by omega,2,i + 1,tk + 1,tk + 3,tk + 4,rfl,by omega,?_,?_⟩
   ·simp [Env.put,Env.of]
   ·rw [← ha1,← ha2]; simp [take_eq,tk_le]
 ·try simp only [RL] at h
  obtain rfl : i = nr := by omega
  rw [List.take_of_length_le (by omega),List.take_of_length_le (by omega)]
  refine W.exit ?_
  refine xe ?_
  refine xe ?_
  refine XBlock.hit ?_
  refine xn ?_
  refine W.r fun K hK => ?_
  simp (disch := omega) only [↓RU,RV,RH,↓reduceIte,reduceEqDiff,reduceCtorEq,if_pos,List.append_nil,↓RS,RG,reduceAdd,reduceMul,reduceLeDiff]
  refine CallR.pc (l7Least_pc hs k2 k3 (needs := swp ws ht set) (by omega) (swp_ok k6 l6 (by omega)) 0) (mapM_one rfl (mapM_one ((reify_loc (k := 9) (n := i) rfl (by rw [List.length_map]; omega) (mapM_int _)).trans (by rw [show i = (swp ws ht set).length by omega])) rfl)) (.inl rfl) ?_
  simp (disch := omega) only [↓RU,RV,RH,↓reduceIte,reduceEqDiff,reduceCtorEq,if_pos,List.append_nil,↓RS,RG,reduceAdd,reduceMul,reduceLeDiff]
  refine CallR.pc (l7Least_pc hs k2 k3 (needs := swp ht ws set) (by omega) (swp_ok l6 k6 (by omega)) 1) (mapM_one rfl (mapM_one ((reify_loc (k := 9) (n := i) rfl (by rw [List.length_map]; omega) (mapM_int _)).trans (by rw [show i = (swp ht ws set).length by omega])) rfl)) (.inl rfl) ?_
  simp (disch := omega) only [↓RU,RV,RH,↓reduceIte,reduceEqDiff,reduceCtorEq,if_pos,List.append_nil,↓RS,RG,reduceAdd,reduceMul,reduceLeDiff]
  refine hK _ _ ?_;clear hK K
  refine W.ret ?_
  refine Br rfl ?_
  rfl
def rowsOf (l : List (Int × Int)) : List (List Int) := l.map fun x => [x.1,x.2]
abbrev eShps (l : List (Int × Int)) : PV := .sl ((rowsOf l).map eInts) l.length
theorem rowsOf_at {l : List (Int × Int)} {i : Nat} {x : Int × Int} (h : l[i]? = some x) : (rowsOf l)[i]? = some [x.1,x.2] := by simp [rowsOf,h]
theorem rowsOf_len {l : List (Int × Int)} : (rowsOf l).length = l.length := by simp [rowsOf]
theorem rowsOf_one {x : Int × Int} : rowsOf [x] = [[x.1,x.2]] := rfl
theorem rowsOf_two {x y : Int × Int} : rowsOf [x,y] = [[x.1,x.2],[y.1,y.2]] := rfl
theorem rowsOf_app {l m : List (Int × Int)} : rowsOf (l ++ m) = rowsOf l ++ rowsOf m := by simp [rowsOf]
theorem domB_and {x : Int × Int} {w h : Int} : domB x w h = (decide (x.1 ≤ w) && decide (x.2 ≤ h)) := rfl
theorem anyf_tk {α : Type} {f : α → Bool} {l : List α} {i : Nat} {x : α} (hx : l[i]? = some x) (h : (l.take i).any f = false) (hf : f x = false) : (l.take (i + 1)).any f = false := by
 rw [tk hx,List.any_append,h]; simp [hf]
theorem putF_succ {l : List (Int × Int)} {w h : Int} {i : Nat} {x : Int × Int} (hx : l[i]? = some x) : putF (l.take (i + 1)) w h = putStep w h (putF (l.take i) w h) x := foldl_tk hx
theorem rows_snoc {S : Store} {k : Nat} {l : List (List Int)} {v : PV} {q : List Int} (h : reify S true (k + 2) v = some (eInts q)) : (l.map eInts ++ [v]).mapM (reify S true (k + 2)) = some ((l ++ [q]).map eInts) := by
 rw [List.mapM_append,mapM_ints2]; simp [h]
theorem l8Put_pc {l : List (Int × Int)} (hl : l.length ≤ 1048576) (w h : Int) : PC Tryz.prog 139 [eShps l,.int .i64 w,.int .i64 h] (eShps (put l w h)) false := by
 refine PC.of ⟨Tryz.func139,by kernel_rfl,rfl,by kernel_rfl⟩ tabOk mixed (by show 3 ≤ Tryz.f139.ntmps; decide) ?_
 refine W.r fun K hK => ?_
 simp (disch := omega) only [↓RU,RV,RH,↓reduceIte,reduceEqDiff,reduceCtorEq,if_pos,↓RS,RG,reduceAdd,reduceMul,reduceLeDiff]
 refine hK _ _ ?_;clear hK K
 refine W.r fun K hK => ?_
 simp (disch := omega) only [↓RU,RV,RH,↓reduceIte,reduceEqDiff,reduceCtorEq,if_pos,↓RS,RG,reduceAdd,reduceMul,reduceLeDiff,ty1,tyLint,tyint]
 refine hK _ _ ?_;clear hK K
 refine W.r fun K hK => ?_
 simp (disch := omega) only [↓RU,RV,RH,↓reduceIte,reduceEqDiff,reduceCtorEq,if_pos,↓RS,RG,reduceAdd,reduceMul,reduceLeDiff]
 refine hK _ _ ?_;clear hK K
 refine W.seq ?_
 refine W.r fun K hK => ?_
 simp (disch := omega) only [↓RU,RV,RH,↓reduceIte,reduceEqDiff,reduceCtorEq,if_pos,↓RS,RG,reduceAdd,reduceMul,reduceLeDiff]
 refine hK _ _ ?_;clear hK K
 refine W.block ?_
 refine W.loopZ [0,1,2,7,8,9] (fun n vs S => ∃ i v0 tk : Nat,n = l.length - i ∧ i ≤ l.length ∧ ((l.take i).any (fun x => domB x w h) = false) ∧ vs = [eShps l,.int .i64 w,.int .i64 h,.loc 0 v0 0 (putF (l.take i) w h).1.length,.bool (putF (l.take i) w h).2,.int .i64 i] ∧ S = ⟨[.arr v0 24 1 ((rowsOf (putF (l.take i) w h).1).map eInts)],tk⟩) (l.length) ?_ ?_
 ·refine ⟨1,[eShps l,.int .i64 w,.int .i64 h,.loc 0 0 0 (putF (l.take 0) w h).1.length,.bool (putF (l.take 0) w h).2,.int .i64 0],⟨[.arr 0 24 1 ((rowsOf (putF (l.take 0) w h).1).map eInts)],1⟩,?_,?_,0,0,1,rfl,by omega,rfl,rfl,rfl⟩
  ·rfl
  ·rfl
 rintro n vs S - ⟨i,v0,tk,rfl,h_i,hall,rfl,rfl⟩
 refine W.seq ?_
 refine W.r fun K hK => ?_
 simp (disch := omega) only [↓RU,RV,RH,↓reduceIte,reduceEqDiff,reduceCtorEq,if_pos,w64,↓RS,RG,reduceAdd,reduceMul,reduceLeDiff,ty1,tyLint,tyint]
 refine hK _ _ ?_;clear hK K
 refine W.cond rfl (fun h0 => ?_) (fun h0 => ?_)
 ·try simp only [RL] at h0
  obtain ⟨x,hx,-⟩ := get_of (show i < l.length by omega)
  have hxr := rowsOf_at hx
  obtain ⟨xa,xb⟩ := x
  simp only at hxr
  have hpl := (putF_inv (l := l) (w := w) (h := h) i h_i).2.2.2
  have hsu := putF_succ (w := w) (h := h) hx
  generalize putF (l.take i) w h = s at hpl hsu ⊢
  obtain ⟨o,d⟩ := s
  simp only at hpl ⊢
  have hol : o.length ≤ 1048577 := by split at hpl <;> omega
  have hrl := rowsOf_len (l := l)
  have hro := rowsOf_len (l := o)
  refine W.skip ?_
  refine xn ?_
  refine W.seq ?_
  refine W.block ?_
  refine W.seq ?_
  refine W.join [0,1,2,7,8,9,34] (fun vs S => vs = [eShps l,.int .i64 w,.int .i64 h,.loc 0 v0 0 o.length,.bool d,.int .i64 i,.bool (decide (xa ≤ w) && decide (xb ≤ h))] ∧ S = ⟨[.arr v0 24 1 ((rowsOf o).map eInts)],tk⟩) ?_ ?_
  ·
   refine W.k fun K hK => ?_
   rcases hd1 : decide (xa ≤ w) with _ | _
   ·skip
    simp (disch := omega) only [↓RU,RV,RH,↓reduceIte,reduceEqDiff,reduceCtorEq,if_pos,w64,↓RS,RG,reduceAdd,reduceMul,reduceLeDiff,ty1,tyLint,tyint,Int.toNat_zero,Nat.zero_mul,Int.reduceToNat,reduceMul,Nat.zero_add,Nat.mul_one,hxr,hd1,hrl]
    refine hK _ _ ?_;clear hK K
    refine xn ?_
    refine ⟨1,?_,rfl⟩
    simp [Env.put,Env.of,hd1]
   ·skip
    simp (disch := omega) only [↓RU,RV,RH,↓reduceIte,reduceEqDiff,reduceCtorEq,if_pos,w64,↓RS,RG,reduceAdd,reduceMul,reduceLeDiff,ty1,tyLint,tyint,Int.toNat_zero,Nat.zero_mul,Int.reduceToNat,reduceMul,Nat.zero_add,Nat.mul_one,hxr,hd1,hrl]
    refine hK _ _ ?_;clear hK K
    refine xn ?_
    refine ⟨1,?_,rfl⟩
    simp [Env.put,Env.of,hd1]
  rintro vs S - ⟨rfl,rfl⟩
  refine W.cond rfl (fun h3 => ?_) (fun h3 => ?_)
  ·try simp only [RL] at h3
   refine W.r fun K hK => ?_
   simp (disch := omega) only [↓RU,RV,RH,↓reduceIte,reduceEqDiff,reduceCtorEq,if_pos,↓RS,RG,reduceAdd,reduceMul,reduceLeDiff]
   refine hK _ _ ?_;clear hK K
   refine W.ret ?_
   refine XThen.ret ?_
   refine XBlock.ret ?_
   refine XThen.ret ?_
   refine XThen.ret ?_
   refine XBlock.ret ?_
   refine XThen.ret ?_
   refine Br rfl ?_
   rw [show put l w h = l by unfold put; rw [if_pos (List.any_eq_true.2 ⟨(xa,xb),List.mem_of_getElem? hx,by rw [domB_and]; exact h3⟩)]]
   rfl
  ·try simp only [RL] at h3
   refine W.skip ?_
   refine xn ?_
   refine W.seq ?_
   refine W.join [0,1,2,7,8,9,53] (fun vs S => vs = [eShps l,.int .i64 w,.int .i64 h,.loc 0 v0 0 o.length,.bool d,.int .i64 i,.bool (decide (w ≤ xa) && decide (h ≤ xb))] ∧ S = ⟨[.arr v0 24 1 ((rowsOf o).map eInts)],tk⟩) ?_ ?_
   ·
    refine W.k fun K hK => ?_
    rcases hd1 : decide (w ≤ xa) with _ | _
    ·skip
     simp (disch := omega) only [↓RU,RV,RH,↓reduceIte,reduceEqDiff,reduceCtorEq,if_pos,w64,↓RS,RG,reduceAdd,reduceMul,reduceLeDiff,ty1,tyLint,tyint,Int.toNat_zero,Nat.zero_mul,Int.reduceToNat,reduceMul,Nat.zero_add,Nat.mul_one,hxr,hd1,hrl]
     refine hK _ _ ?_;clear hK K
     refine xn ?_
     refine ⟨1,?_,rfl⟩
     simp [Env.put,Env.of,hd1]
    ·skip
     simp (disch := omega) only [↓RU,RV,RH,↓reduceIte,reduceEqDiff,reduceCtorEq,if_pos,w64,↓RS,RG,reduceAdd,reduceMul,reduceLeDiff,ty1,tyLint,tyint,Int.toNat_zero,Nat.zero_mul,Int.reduceToNat,reduceMul,Nat.zero_add,Nat.mul_one,hxr,hd1,hrl]
     refine hK _ _ ?_;clear hK K
     refine xn ?_
     refine ⟨1,?_,rfl⟩
     simp [Env.put,Env.of,hd1]
   rintro vs S - ⟨rfl,rfl⟩
   refine W.cond rfl (fun h4 => ?_) (fun h4 => ?_)
   ·try simp only [RL] at h4
    simp only [Bool.and_eq_true,decide_eq_true_eq] at h4
    have hs2 : putF (l.take (i + 1)) w h = (o,d) := by rw [hsu,putStep,if_pos h4]
    refine W.exit ?_
    refine xe ?_
    refine XBlock.hit ?_
    refine xn ?_
    refine W.k fun K hK => ?_
    simp (disch := omega) only [↓RU,RV,RH,↓reduceIte,reduceEqDiff,reduceCtorEq,if_pos,w64,↓RS,RG,reduceAdd,reduceMul,reduceLeDiff,tyint]
    refine hK _ _ ?_;clear hK K
    refine xn ?_
    refine ⟨l.length - (i + 1),by omega,1,[eShps l,.int .i64 w,.int .i64 h,.loc 0 v0 0 (putF (l.take (i + 1)) w h).1.length,.bool (putF (l.take (i + 1)) w h).2,.int .i64 (i + 1)],⟨[.arr v0 24 1 ((rowsOf (putF (l.take (i + 1)) w h).1).map eInts)],tk⟩,?_,?_,(i + 1),v0,tk,rfl,by omega,anyf_tk hx hall (by rw [domB_and]; exact h3),rfl,rfl⟩
    ·simp [-List.mapM_map,Store.frz,frzObs,frzOb,frz_eInts,frz_loc,rfz_loc,frz_int,frz_sl,frz_ints,rfz_ints,frz_strs,frz_bytes,rfz_bytes,rfz_str,rfz_bool,frz_str,frz_bool,Env.put,Env.of,argEnv,rfz_int,List.mapM_append,List.mapM_cons,hs2,rowsOf_app,rowsOf_one,rowsOf_two,rfz_eIntss,take_eq,tk_le]
    ·simp [-List.mapM_map,Store.frz,frzObs,frzOb,frz_eInts,frz_loc,rfz_loc,frz_int,frz_sl,frz_ints,rfz_ints,frz_strs,frz_bytes,rfz_bytes,rfz_str,rfz_bool,frz_str,frz_bool,Env.put,Env.of,argEnv,rfz_int,List.mapM_append,List.mapM_cons,hs2,rowsOf_app,rowsOf_one,rowsOf_two,rfz_eIntss,take_eq,tk_le]
   ·try simp only [RL] at h4
    have h4n : ¬ (w ≤ xa ∧ h ≤ xb) := by intro q; rw [decide_eq_true q.1,decide_eq_true q.2] at h4; exact Bool.false_ne_true h4.symm
    refine W.skip ?_
    refine xn ?_
    refine W.seq ?_
    refine W.join [0,1,2,7,8,9,65] (fun vs S => vs = [eShps l,.int .i64 w,.int .i64 h,.loc 0 v0 0 o.length,.bool d,.int .i64 i,.bool (!d && decide (w < xa))] ∧ S = ⟨[.arr v0 24 1 ((rowsOf o).map eInts)],tk⟩) ?_ ?_
    ·
     refine W.k fun K hK => ?_
     cases d
     ·skip
      simp (disch := omega) only [↓RU,RV,RH,↓reduceIte,reduceEqDiff,reduceCtorEq,if_pos,w64,↓RS,RG,reduceAdd,reduceMul,reduceLeDiff,ty1,tyLint,tyint,Int.toNat_zero,Nat.zero_mul,Int.reduceToNat,reduceMul,Nat.zero_add,Nat.mul_one,hxr,hrl]
      refine hK _ _ ?_;clear hK K
      refine xn ?_
      refine ⟨1,?_,rfl⟩
      simp [Env.put,Env.of]
     ·skip
      simp (disch := omega) only [↓RU,RV,RH,↓reduceIte,reduceEqDiff,reduceCtorEq,if_pos,w64,↓RS,RG,reduceAdd,reduceMul,reduceLeDiff,ty1,tyLint,tyint,Int.toNat_zero,Nat.zero_mul,Int.reduceToNat,reduceMul,Nat.zero_add,Nat.mul_one,hxr,hrl]
      refine hK _ _ ?_;clear hK K
      refine xn ?_
      refine ⟨1,?_,rfl⟩
      simp [Env.put,Env.of]
    rintro vs S - ⟨rfl,rfl⟩
    refine W.cond rfl (fun h5 => ?_) (fun h5 => ?_)
    ·try simp only [RL] at h5
     have h5y : d = false ∧ w < xa := by simpa using h5
     have hs2 : putF (l.take (i + 1)) w h = (o ++ [(w,h),(xa,xb)],true) := by rw [hsu,putStep,if_neg h4n,if_pos h5y]
     obtain ⟨rfl,h5w⟩ := h5y
     have htk : ∀ v : PV,((rowsOf o).map eInts ++ [v]).take (o.length + 1) = (rowsOf o).map eInts ++ [v] := fun v => List.take_of_length_le (by simp [hro])
     refine W.r fun K hK => ?_
     simp (disch := omega) only [↓RU,RV,RH,↓reduceIte,reduceEqDiff,reduceCtorEq,if_pos,↓RS,RG,reduceAdd,reduceMul,reduceLeDiff,ty1,tyLint,tyint,hro,hol]
     refine hK _ _ ?_;clear hK K
     refine W.k fun K hK => ?_
     simp (disch := omega) only [↓RU,RV,RH,↓reduceIte,reduceEqDiff,reduceCtorEq,if_pos,↓RS,RG,reduceAdd,reduceMul,reduceLeDiff]
     refine hK _ _ ?_;clear hK K
     refine xn ?_
     refine W.k fun K hK => ?_
     simp (disch := omega) only [↓RU,RV,RH,↓reduceIte,reduceEqDiff,reduceCtorEq,if_pos,↓RS,RG,reduceAdd,reduceMul,reduceLeDiff,ty1,tyLint,tyint,Int.toNat_zero,Nat.zero_mul,Int.reduceToNat,reduceMul,Nat.zero_add,Nat.mul_one,hxr,hrl,hro,htk,List.length_append,List.length_map,List.length_cons,List.length_nil]
     refine hK _ _ ?_;clear hK K
     refine XbN ?_
     refine xn ?_
     refine W.k fun K hK => ?_
     simp (disch := omega) only [↓RU,RV,RH,↓reduceIte,reduceEqDiff,reduceCtorEq,if_pos,w64,↓RS,RG,reduceAdd,reduceMul,reduceLeDiff,tyint]
     refine hK _ _ ?_;clear hK K
     refine xn ?_
     refine ⟨l.length - (i + 1),by omega,1,[eShps l,.int .i64 w,.int .i64 h,.loc 0 (tk + 4) 0 (putF (l.take (i + 1)) w h).1.length,.bool (putF (l.take (i + 1)) w h).2,.int .i64 (i + 1)],⟨[.arr (tk + 4) 24 1 ((rowsOf (putF (l.take (i + 1)) w h).1).map eInts)],(tk + 5)⟩,?_,?_,(i + 1),tk + 4,tk + 5,rfl,by omega,anyf_tk hx hall (by rw [domB_and]; exact h3),rfl,rfl⟩
     ·simp [-List.mapM_map,Store.frz,frzObs,frzOb,frz_eInts,frz_loc,rfz_loc,frz_int,frz_sl,frz_ints,rfz_ints,frz_strs,frz_bytes,rfz_bytes,rfz_str,rfz_bool,frz_str,frz_bool,Env.put,Env.of,argEnv,rfz_int,List.mapM_append,List.mapM_cons,hs2,rowsOf_app,rowsOf_one,rowsOf_two,rfz_eIntss,take_eq,tk_le]
     ·simp [-List.mapM_map,Store.frz,frzObs,frzOb,frz_eInts,frz_loc,rfz_loc,frz_int,frz_sl,frz_ints,rfz_ints,frz_strs,frz_bytes,rfz_bytes,rfz_str,rfz_bool,frz_str,frz_bool,Env.put,Env.of,argEnv,rfz_int,List.mapM_append,List.mapM_cons,hs2,rowsOf_app,rowsOf_one,rowsOf_two,rfz_eIntss,take_eq,tk_le]
    ·try simp only [RL] at h5
     have h5n : ¬ (d = false ∧ w < xa) := by simpa using h5
     have hs2 : putF (l.take (i + 1)) w h = (o ++ [(xa,xb)],d) := by rw [hsu,putStep,if_neg h4n,if_neg h5n]
     have htk : True := trivial
     refine W.skip ?_
     refine xn ?_
     refine W.k fun K hK => ?_
     simp (disch := omega) only [↓RU,RV,RH,↓reduceIte,reduceEqDiff,reduceCtorEq,if_pos,↓RS,RG,reduceAdd,reduceMul,reduceLeDiff,ty1,tyLint,tyint,Int.toNat_zero,Nat.zero_mul,Int.reduceToNat,reduceMul,Nat.zero_add,Nat.mul_one,hxr,hrl,hro,htk,List.length_append,List.length_map,List.length_cons,List.length_nil]
     refine hK _ _ ?_;clear hK K
     refine XbN ?_
     refine xn ?_
     refine W.k fun K hK => ?_
     simp (disch := omega) only [↓RU,RV,RH,↓reduceIte,reduceEqDiff,reduceCtorEq,if_pos,w64,↓RS,RG,reduceAdd,reduceMul,reduceLeDiff,tyint]
     refine hK _ _ ?_;clear hK K
     refine xn ?_
     refine ⟨l.length - (i + 1),by omega,1,[eShps l,.int .i64 w,.int .i64 h,.loc 0 (tk + 1) 0 (putF (l.take (i + 1)) w h).1.length,.bool (putF (l.take (i + 1)) w h).2,.int .i64 (i + 1)],⟨[.arr (tk + 1) 24 1 ((rowsOf (putF (l.take (i + 1)) w h).1).map eInts)],(tk + 2)⟩,?_,?_,(i + 1),tk + 1,tk + 2,rfl,by omega,anyf_tk hx hall (by rw [domB_and]; exact h3),rfl,rfl⟩
     ·simp [-List.mapM_map,Store.frz,frzObs,frzOb,frz_eInts,frz_loc,rfz_loc,frz_int,frz_sl,frz_ints,rfz_ints,frz_strs,frz_bytes,rfz_bytes,rfz_str,rfz_bool,frz_str,frz_bool,Env.put,Env.of,argEnv,rfz_int,List.mapM_append,List.mapM_cons,hs2,rowsOf_app,rowsOf_one,rowsOf_two,rfz_eIntss,take_eq,tk_le]
     ·simp [-List.mapM_map,Store.frz,frzObs,frzOb,frz_eInts,frz_loc,rfz_loc,frz_int,frz_sl,frz_ints,rfz_ints,frz_strs,frz_bytes,rfz_bytes,rfz_str,rfz_bool,frz_str,frz_bool,Env.put,Env.of,argEnv,rfz_int,List.mapM_append,List.mapM_cons,hs2,rowsOf_app,rowsOf_one,rowsOf_two,rfz_eIntss,take_eq,tk_le]
 ·try simp only [RL] at h0
  obtain rfl : i = l.length := by omega
  have hpl := (putF_inv (l := l) (w := w) (h := h) l.length (Nat.le_refl _)).2.2.2
  rw [List.take_length] at hall hpl ⊢
  have hput : put l w h = if (putF l w h).2 then (putF l w h).1 else (putF l w h).1 ++ [(w,h)] := by unfold put; rw [hall]; rfl
  generalize putF l w h = s at hpl hput ⊢
  obtain ⟨o,d⟩ := s
  simp only at hpl hput ⊢
  have hol : o.length ≤ 1048577 := by split at hpl <;> omega
  have hro := rowsOf_len (l := o)
  refine W.exit ?_
  refine xe ?_
  refine xe ?_
  refine XBlock.hit ?_
  refine xn ?_
  refine W.seq ?_
  refine W.r fun K hK => ?_
  simp (disch := omega) only [↓RU,RV,RH,↓reduceIte,reduceEqDiff,reduceCtorEq,if_pos,↓RS,RG,reduceAdd,reduceMul,reduceLeDiff]
  refine hK _ _ ?_;clear hK K
  refine W.cond rfl (fun h6 => ?_) (fun h6 => ?_)
  ·try simp only [RL] at h6
   refine W.k fun K hK => ?_
   simp (disch := omega) only [↓RU,RV,RH,↓reduceIte,reduceEqDiff,reduceCtorEq,if_pos,↓RS,RG,reduceAdd,reduceMul,reduceLeDiff,ty1,tyLint,tyint]
   refine hK _ _ ?_;clear hK K
   refine xn ?_
   refine W.r fun K hK => ?_
   simp (disch := omega) only [↓RU,RV,RH,↓reduceIte,reduceEqDiff,reduceCtorEq,if_pos,↓RS,RG,reduceAdd,reduceMul,reduceLeDiff]
   refine hK _ _ ?_;clear hK K
   refine W.ret ?_
   refine Br rfl ?_
   have hd : d = false := by simpa using h6
   rw [hput,hd,if_neg Bool.false_ne_true]
   exact (reify_loc (k := 9) (n := o.length + 1) rfl (by simp [hro]) (rows_snoc (k := 7) (q := [w,h]) (reify_loc (k := 8) (n := 2) rfl rfl (mapM_int [w,h])))).trans (by simp [rowsOf_app,rowsOf])
  ·try simp only [RL] at h6
   refine W.skip ?_
   refine xn ?_
   refine W.r fun K hK => ?_
   simp (disch := omega) only [↓RU,RV,RH,↓reduceIte,reduceEqDiff,reduceCtorEq,if_pos,↓RS,RG,reduceAdd,reduceMul,reduceLeDiff]
   refine hK _ _ ?_;clear hK K
   refine W.ret ?_
   refine Br rfl ?_
   have hd : d = true := by simpa using h6
   rw [hput,hd,if_pos rfl]
   exact (reify_loc (k := 9) (n := o.length) rfl (by simp [hro]) (mapM_ints2 _))
theorem l8All_pc {p : List Txt} (hs : Sm p) {ws ht : List Int} (hg : given8 p ws ht = true) : PC Tryz.prog 89 [eStrs p,eInts ws,eInts ht] (eShps (allP (shS p ws ht) (2 ^ ws.length))) false := by
 obtain ⟨h1,h2,h8⟩ := given8_ok hg
 have hp8 := pow8 h8
 obtain ⟨N,hN⟩ : ∃ N : Nat,2 ^ ws.length = N := ⟨_,rfl⟩
 have hsh := w_shl (b := ws.length) (by omega)
 rw [hN] at hp8 hsh ⊢
 refine PC.of ⟨Tryz.func89,by kernel_rfl,rfl,by kernel_rfl⟩ tabOk mixed (by show 3 ≤ Tryz.f89.ntmps; decide) ?_
 refine W.r fun K hK => ?_
 simp (disch := omega) only [↓RU,RV,RH,↓reduceIte,reduceEqDiff,reduceCtorEq,if_pos,↓RS,RG,reduceAdd,reduceMul,reduceLeDiff]
 refine hK _ _ ?_;clear hK K
 refine W.r fun K hK => ?_
 simp (disch := omega) only [↓RU,RV,RH,↓reduceIte,reduceEqDiff,reduceCtorEq,if_pos,↓RS,RG,reduceAdd,reduceMul,reduceLeDiff,ty1,tyLint,tyint]
 refine hK _ _ ?_;clear hK K
 refine W.seq ?_
 refine W.r fun K hK => ?_
 simp (disch := omega) only [↓RU,RV,RH,↓reduceIte,reduceEqDiff,reduceCtorEq,if_pos,↓RS,RG,reduceAdd,reduceMul,reduceLeDiff]
 refine hK _ _ ?_;clear hK K
 refine W.block ?_
 refine W.loopZ [0,1,2,7,8] (fun n vs S => ∃ k tk : Nat,n = N - k ∧ k ≤ N ∧ vs = [eStrs p,eInts ws,eInts ht,eShps (allP (shS p ws ht) k),.int .i64 k] ∧ S = ⟨[],tk⟩) N ?_ ?_
 ·refine ⟨0,[eStrs p,eInts ws,eInts ht,eShps (allP (shS p ws ht) 0),.int .i64 (0 : Nat)],⟨[],1⟩,?_,?_,0,1,rfl,by omega,rfl,rfl⟩
  ·simp [-List.mapM_map,Store.frz,frzObs,frzOb,frz_eInts,frz_loc,rfz_loc,frz_int,frz_sl,frz_ints,rfz_ints,frz_strs,frz_bytes,rfz_bytes,rfz_str,rfz_bool,frz_str,frz_bool,Env.put,Env.of,argEnv,rfz_int,List.mapM_append,List.mapM_cons,allP,rowsOf]
  ·simp [-List.mapM_map,Store.frz,frzObs,frzOb,frz_eInts,frz_loc,rfz_loc,frz_int,frz_sl,frz_ints,rfz_ints,frz_strs,frz_bytes,rfz_bytes,rfz_str,rfz_bool,frz_str,frz_bool,Env.put,Env.of,argEnv,rfz_int,List.mapM_append,List.mapM_cons]
 rintro n vs S - ⟨k,tk,rfl,h_k,rfl,rfl⟩
 refine W.seq ?_
 refine W.r fun K hK => ?_
 simp (disch := omega) only [↓RU,RV,RH,↓reduceIte,reduceEqDiff,reduceCtorEq,if_pos,w64,↓RS,RG,reduceAdd,reduceMul,reduceLeDiff,tyLint,tyint,pShl,hsh]
 refine hK _ _ ?_;clear hK K
 refine W.cond rfl (fun h => ?_) (fun h => ?_)
 ·try simp only [RL] at h
  have hal := (allP_inv (sh := (shS p ws ht)) k).2.2
  refine W.skip ?_
  refine xn ?_
  refine W.seq ?_
  refine W.block ?_
  refine W.r fun K hK => ?_
  simp (disch := omega) only [↓RU,RV,RH,↓reduceIte,reduceEqDiff,reduceCtorEq,if_pos,List.append_nil,↓RS,RG,reduceAdd,reduceMul,reduceLeDiff]
  refine CallR.pc (l8Shape_pc hs h1 h2 (set := k) (by omega)) rfl (.inl rfl) ?_
  simp (disch := omega) only [↓RU,RV,RH,↓reduceIte,reduceEqDiff,reduceCtorEq,if_pos,List.append_nil,↓RS,RG,reduceAdd,reduceMul,reduceLeDiff]
  refine hK _ _ ?_;clear hK K
  refine W.k fun K hK => ?_
  simp (disch := omega) only [↓RU,RV,RH,↓reduceIte,reduceEqDiff,reduceCtorEq,if_pos,List.append_nil,↓RS,RG,reduceAdd,reduceMul,reduceLeDiff]
  refine CallR.pc (l8Put_pc (l := allP (shS p ws ht) k) (by omega) _ _) rfl (.inr rfl) ?_
  simp (disch := omega) only [↓RU,RV,RH,↓reduceIte,reduceEqDiff,reduceCtorEq,if_pos,List.append_nil,↓RS,RG,reduceAdd,reduceMul,reduceLeDiff]
  refine hK _ _ ?_;clear hK K
  refine XbN ?_
  refine xn ?_
  refine W.k fun K hK => ?_
  simp (disch := omega) only [↓RU,RV,RH,↓reduceIte,reduceEqDiff,reduceCtorEq,if_pos,w64,↓RS,RG,reduceAdd,reduceMul,reduceLeDiff,tyint]
  refine hK _ _ ?_;clear hK K
  refine xn ?_
  refine ⟨N - (k + 1),by omega,0,[eStrs p,eInts ws,eInts ht,eShps (allP (shS p ws ht) (k + 1)),.int .i64 ((k + 1 : Nat) : Int)],⟨[],tk⟩,?_,?_,k + 1,tk,rfl,by omega,rfl,rfl⟩
  ·simp [-List.mapM_map,Store.frz,frzObs,frzOb,frz_eInts,frz_loc,rfz_loc,frz_int,frz_sl,frz_ints,rfz_ints,frz_strs,frz_bytes,rfz_bytes,rfz_str,rfz_bool,frz_str,frz_bool,Env.put,Env.of,argEnv,rfz_int,List.mapM_append,List.mapM_cons,allP_succ]
  ·simp [-List.mapM_map,Store.frz,frzObs,frzOb,frz_eInts,frz_loc,rfz_loc,frz_int,frz_sl,frz_ints,rfz_ints,frz_strs,frz_bytes,rfz_bytes,rfz_str,rfz_bool,frz_str,frz_bool,Env.put,Env.of,argEnv,rfz_int,List.mapM_append,List.mapM_cons]
 ·try simp only [RL] at h
  obtain rfl : k = N := by omega
  refine W.exit ?_
  refine xe ?_
  refine xe ?_
  refine XBlock.hit ?_
  refine xn ?_
  refine W.r fun K hK => ?_
  simp (disch := omega) only [↓RU,RV,RH,↓reduceIte,reduceEqDiff,reduceCtorEq,if_pos,↓RS,RG,reduceAdd,reduceMul,reduceLeDiff]
  refine hK _ _ ?_;clear hK K
  refine W.ret ?_
  refine Br rfl ?_
  rfl
section
section
variable {n : Nat} {M X : List (List Bool)}
def rvB (M : List (List Bool)) (a : Nat) (X : List (List Bool)) (b : Nat) : List (List Bool) := setB X b a (getB M a b)
def rvA (n : Nat) (M : List (List Bool)) (X : List (List Bool)) (a : Nat) : List (List Bool) := (List.range n).foldl (rvB M a) X
def rv (n : Nat) (M : List (List Bool)) : List (List Bool) := (List.range n).foldl (rvA n M) (emptyM n)
theorem Sq.ext {Y : List (List Bool)} (h : Sq n X) (k : Sq n Y) (e : ∀ x y,x < n → y < n → getB X x y = getB Y x y) : X = Y := by
 apply List.ext_getElem?
 intro x
 by_cases hx : x < n
 ·obtain ⟨r,hr,hrm⟩ := get_of (show x < X.length by rw [h.1]; exact hx)
  obtain ⟨s,hs,hsm⟩ := get_of (show x < Y.length by rw [k.1]; exact hx)
  rw [hr,hs]
  congr 1
  have hrl := h.2 r hrm
  have hsl := k.2 s hsm
  apply List.ext_getElem?
  intro y
  by_cases hy : y < n
  ·have := e x y hx hy
   unfold getB at this
   rw [hr,hs,Option.getD_some,Option.getD_some] at this
   obtain ⟨u,hu,-⟩ := get_of (show y < r.length by omega)
   obtain ⟨v,hv,-⟩ := get_of (show y < s.length by omega)
   rw [hu,hv] at this ⊢
   simpa using this
  ·rw [List.getElem?_eq_none (by omega),List.getElem?_eq_none (by omega)]
 ·rw [List.getElem?_eq_none (by rw [h.1]; omega),List.getElem?_eq_none (by rw [k.1]; omega)]
end
end

def scs (l : List (Int × Int)) : List PV := l.flatMap eShp
abbrev eShl (l : List (Int × Int)) : PV := .sl (scs l) l.length
theorem scs_app (l m : List (Int × Int)) : scs (l ++ m) = scs l ++ scs m := by simp [scs]
theorem scs_cons (x : Int × Int) (l : List (Int × Int)) : scs (x :: l) = eShp x ++ scs l := rfl
theorem scs_len (l : List (Int × Int)) : (scs l).length = l.length * 2 := by
 induction l with
 | nil => rfl
 | cons x l ih => rw [scs_cons,List.length_append,ih,List.length_cons]; simp [eShp]; omega
theorem scs_at {l : List (Int × Int)} {n : Nat} {x : Int × Int} (h : l[n]? = some x) : ((scs l).drop (n * 2)).take 2 = eShp x := by
 induction l generalizing n with
 | nil => simp at h
 | cons a l ih =>
  cases n with
  | zero => simp at h; subst h; rw [scs_cons]; simp [eShp]
  | succ n =>
   simp at h
   rw [scs_cons,show (n + 1) * 2 = (eShp a).length + n * 2 by simp [eShp]; omega,List.drop_length_add_append]
   exact ih h
theorem scs_tk {l : List (Int × Int)} : (scs l).take (l.length * 2) = scs l := by rw [← scs_len,List.take_length]
theorem scal_scs (l : List (Int × Int)) : (scs l).all scal = true := by
 induction l with
 | nil => rfl
 | cons a l ih => rw [scs_cons,List.all_append,ih]; simp [eShp,scal]
theorem heaviest_pc {M : List (List Bool)} {ws : List Int} {nr : Nat} {rk : Nat → Nat} (hu : Up M nr rk) (hn : nr ≤ 9) (hwl : ws.length = nr) (hw : NeedOk ws) : PC Tryz.prog 58 [eRel M,eInts ws] (eInts (heaviest M ws nr)) true := by
 have e : (heaviest M ws nr).length = nr := heaviest_len
 refine PN.pc (heaviest_pn hu hn hwl hw) rfl ?_
 simp only [List.map_cons,List.map_nil,upOb_arr,up_loc,up_ints,Nat.add_zero]
 exact (reify_loc (n := nr) rfl (by simp [e]) (mapM_int _)).trans (show some (PV.sl _ nr) = some (PV.sl _ (heaviest M ws nr).length) by rw [e])
theorem mix_same {α : Type} {a b : List α} {i : Nat} {x : α} (ha : a[i]? = some x) (hb : b[i]? = some x) : a.take i ++ b.drop i = a.take (i + 1) ++ b.drop (i + 1) := by
 have hi := len_of hb
 rw [tk ha,List.append_assoc,List.drop_eq_getElem_cons hi]
 congr 1
 rw [List.getElem?_eq_getElem hi] at hb
 rw [Option.some.inj hb]; rfl
def slC (b : Nat) (l : List (Int × Int)) (v : Nat) : PV := match l with | [] => .nils | _ => .loc b v 0 l.length
def tlC (l : List (Int × Int)) (v : Nat) : List Ob := match l with | [] => [] | _ => [.arr v 142 2 (scs l)]
theorem slC_nil {b v : Nat} : slC b [] v = .nils := rfl
theorem tlC_nil {v : Nat} : tlC [] v = [] := rfl
theorem slC_ne {b v : Nat} {l : List (Int × Int)} (h : l ≠ []) : slC b l v = .loc b v 0 l.length := by cases l with | nil => exact absurd rfl h | cons a l => rfl
theorem tlC_ne {v : Nat} {l : List (Int × Int)} (h : l ≠ []) : tlC l v = [.arr v 142 2 (scs l)] := by cases l with | nil => exact absurd rfl h | cons a l => rfl
def shL (L A : List (List Bool)) (n : Nat) (ws ht : List Int) (k : Nat) : List (Int × Int) := (List.range k).map (shI L A n ws ht)
theorem shL_len {L A : List (List Bool)} {n : Nat} {ws ht : List Int} {k : Nat} : (shL L A n ws ht k).length = k := by simp [shL]
theorem shL_succ {L A : List (List Bool)} {n : Nat} {ws ht : List Int} {k : Nat} : shL L A n ws ht (k + 1) = shL L A n ws ht k ++ [shI L A n ws ht k] := by simp [shL,List.range_succ]
theorem shL_ne {L A : List (List Bool)} {n : Nat} {ws ht : List Int} {k : Nat} (h : k ≠ 0) : shL L A n ws ht k ≠ [] := by intro e; have := congrArg List.length e; rw [shL_len] at this; exact h this
theorem reify_ints_n {S : Store} {o v et n k : Nat} {l : List Int} (h : S.obs[o]? = some (.arr v et 1 (l.map (.int .i64)))) (hl : l.length = n) : reify S true (k + 2) (.loc o v 0 n) = some (eInts l) := by
 subst hl; exact reify_loc h (by simp) (mapM_int _)
theorem rn_scs {S : Store} {k f : Nat} {sel : List Nat} (l : List (Int × Int)) : (scs l).mapM (rn S k sel (f + 1)) = some (scs l) := rn_scal (scal_scs l)
theorem scs_snoc {l : List (Int × Int)} {x : Int × Int} : scs (l ++ [x]) = scs l ++ [.int .i64 x.1,.int .i64 x.2] := by rw [scs_app]; rfl
def givenI (p : List Txt) (ws ht : List Int) : Bool := needV p [ws,ht] && decide ((rP p).length ≤ 8)
theorem product_pc {x : Int × Int} (h1 : 0 ≤ x.1 ∧ x.1 ≤ 10000) (h2 : 0 ≤ x.2 ∧ x.2 ≤ 10000) : PC Tryz.prog 104 [.agg (eShp x)] (.int .i64 (x.1 * x.2)) true := by
 have b4 := Int.mul_nonneg h1.1 h2.1
 have b5 := Int.mul_le_mul h1.2 h2.2 h2.1 (by omega)
 unfold eShp
 refine PC.of ⟨Tryz.func104,by kernel_rfl,rfl,by kernel_rfl⟩ tabOk mixed (by show 1 ≤ Tryz.f104.ntmps; decide) ?_
 refine W.r fun K hK => ?_
 simp (disch := omega) only [↓RU,RV,RH,↓reduceIte,reduceEqDiff,reduceCtorEq,if_pos,↓RS,RG,reduceAdd,reduceMul,reduceLeDiff,ty16,tyint,ty25]
 refine hK _ _ ?_;clear hK K
 refine W.r fun K hK => ?_
 simp (disch := omega) only [↓RU,RV,RH,↓reduceIte,reduceEqDiff,reduceCtorEq,if_pos,w64,↓RS,RG,reduceAdd,reduceMul,reduceLeDiff,ty16,tyint,ty25]
 refine hK _ _ ?_;clear hK K
 refine W.ret ?_
 refine Br rfl ?_
 rfl
theorem shaping_ev {p : List Txt} (hs : Sm p) {ws ht : List Int} (hw : ws.length ≤ 1048576) (hh : ht.length ≤ 1048576) : Ev Tryz.prog 140 [eStrs p,eInts ws,eInts ht] ⟨[],0⟩ fun v S => ∃ x,v = .tup [x,.bool (givenI p ws ht)] ∧ ((givenI p ws ht) = true → x = eFloor (gP p) (rP p)) ∧ S = ⟨[.arr 0 24 1 [eInts ws,eInts ht]],1⟩ := by
 refine Ev.of ⟨Tryz.func140,by kernel_rfl,rfl,by kernel_rfl⟩ tabOk mixed (by show 3 ≤ Tryz.f140.ntmps; decide) ?_
 refine W.r fun K hK => ?_
 simp (disch := omega) only [↓RU,RV,RH,↓reduceIte,reduceEqDiff,reduceCtorEq,if_pos,↓RS,RG,reduceAdd,reduceMul,reduceLeDiff]
 refine hK _ _ ?_;clear hK K
 refine W.r fun K hK => ?_
 simp (disch := omega) only [↓RU,RV,RH,↓reduceIte,reduceEqDiff,reduceCtorEq,if_pos,List.append_nil,↓RS,RG,reduceAdd,reduceMul,reduceLeDiff,ty1,tyLint,tyint]
 refine CallR.ev (needing_ev hs (wss := [ws,ht]) (by simp) (by intro a ha; simp only [List.mem_cons,List.not_mem_nil,or_false] at ha; rcases ha with rfl | rfl <;> assumption)) ?_
 rintro _ _ ⟨x,rfl,hx,rfl⟩
 simp (disch := omega) only [↓RU,RV,RH,↓reduceIte,reduceEqDiff,reduceCtorEq,if_pos,List.append_nil,↓RS,RG,reduceAdd,reduceMul,reduceLeDiff,ty1,tyLint,tyint]
 refine hK _ _ ?_;clear hK K
 refine W.seq_draw (by kernel_rfl) fun K hK => ?_
 cases hv : (needV p [ws,ht])
 ·skip
  simp (disch := omega) only [↓RU,RV,RH,↓reduceIte,reduceEqDiff,reduceCtorEq,if_pos,w64,↓RS,RG,reduceAdd,reduceMul,reduceLeDiff,ty1,ty3,tyLint,ty11,ty12,ty14,tyint,ty21,ty24,hv]
  refine hK _ _ ?_;clear hK K
  refine W.ret ?_
  refine Br rfl ?_
  exact ⟨_,_,by rw [givenI,hv]; rfl,fun h9 => absurd h9 (by unfold givenI; rw [hv]; exact Bool.false_ne_true),take_all⟩
 ·skip
  obtain rfl := hx hv
  simp (disch := omega) only [↓RU,RV,RH,↓reduceIte,reduceEqDiff,reduceCtorEq,if_pos,w64,↓RS,RG,reduceAdd,reduceMul,reduceLeDiff,ty1,ty3,tyLint,ty11,ty12,ty14,tyint,ty21,ty24,hv,rcs_len]
  refine hK _ _ ?_;clear hK K
  refine W.ret ?_
  refine Br rfl ?_
  have hge : (givenI p ws ht) = decide (((rP p).length : Int) ≤ 8) := by unfold givenI; rw [hv]; simp; omega
  exact ⟨_,_,by rw [hge]; rfl,fun _ => rfl,take_all⟩
theorem givenI_ok {p : List Txt} {ws ht : List Int} (h : givenI p ws ht = true) : needV p [ws] = true ∧ needV p [ht] = true ∧ (rP p).length ≤ 8 := by
 unfold givenI needV at *
 simp only [List.all_cons,List.all_nil,Bool.and_true,Bool.and_eq_true,decide_eq_true_eq] at h ⊢
 exact ⟨⟨h.1.1,h.1.2.1⟩,⟨h.1.1,h.1.2.2⟩,h.2⟩
theorem pEq_ints {S : Store} {l : List Int} (h : 1 ≤ l.length) : pEq tab S 24 (eInts l) .nils = some false := by
 show (if l.length = 0 then none else some false) = some false
 rw [if_neg (by omega)]
theorem clone_pn {l : List Int} (h1 : 1 ≤ l.length) (hl : l.length ≤ 1048576) : PN Tryz.prog 141 [eInts l] (.loc 0 0 0 l.length) [.arr 0 3 1 (l.map (.int .i64))] false := by
 refine PN.of ⟨Tryz.func141,by kernel_rfl,rfl,by kernel_rfl⟩ tabOk mixed (by show 1 ≤ Tryz.f141.ntmps; decide) ?_
 refine W.r fun K hK => ?_
 simp (disch := omega) only [↓RU,RV,RH,↓reduceIte,reduceEqDiff,reduceCtorEq,if_pos,↓RS,RG,reduceAdd,reduceMul,reduceLeDiff]
 refine hK _ _ ?_;clear hK K
 refine W.seq ?_
 refine W.r fun K hK => ?_
 simp (disch := omega) only [↓RU,RV,RH,↓reduceIte,reduceEqDiff,reduceCtorEq,if_pos,w64,↓RS,RG,reduceAdd,reduceMul,reduceLeDiff,tyLint,tyint,pEq_ints h1]
 refine hK _ _ ?_;clear hK K
 refine W.cond rfl (fun h => ?_) (fun h => ?_)
 ·try simp only [RL] at h
  exact absurd h (by simp)
 ·try simp only [RL] at h
  refine W.skip ?_
  refine xn ?_
  refine W.r fun K hK => ?_
  simp (disch := omega) only [↓RU,RV,RH,↓reduceIte,reduceEqDiff,reduceCtorEq,if_pos,↓RS,RG,reduceAdd,reduceMul,reduceLeDiff,tyLint,tyint]
  refine hK _ _ ?_;clear hK K
  refine W.ret ?_
  refine Br rfl ?_
  exact sh_one rfl (sh_ints _)
theorem tried_no {p : List Txt} (hs : Sm p) {ws ht : List Int} (hw : ws.length ≤ 1048576) (hh : ht.length ≤ 1048576) (hv : givenI p ws ht = false) : PC Tryz.prog 90 [eStrs p,eInts ws,eInts ht] (.tup [.sl [] 0,.bool false]) true := by
 refine PC.of ⟨Tryz.func90,by kernel_rfl,rfl,by kernel_rfl⟩ tabOk mixed (by show 3 ≤ Tryz.f90.ntmps; decide) ?_
 refine W.r fun K hK => ?_
 simp (disch := omega) only [↓RU,RV,RH,↓reduceIte,reduceEqDiff,reduceCtorEq,if_pos,↓RS,RG,reduceAdd,reduceMul,reduceLeDiff]
 refine hK _ _ ?_;clear hK K
 refine W.r fun K hK => ?_
 simp (disch := omega) only [↓RU,RV,RH,↓reduceIte,reduceEqDiff,reduceCtorEq,if_pos,List.append_nil,↓RS,RG,reduceAdd,reduceMul,reduceLeDiff,hv]
 refine CallR.ev (shaping_ev hs hw hh) ?_
 rintro _ _ ⟨x,rfl,hx,rfl⟩
 simp (disch := omega) only [↓RU,RV,RH,↓reduceIte,reduceEqDiff,reduceCtorEq,if_pos,List.append_nil,↓RS,RG,reduceAdd,reduceMul,reduceLeDiff,hv]
 refine hK _ _ ?_;clear hK K
 refine W.seq ?_
 refine W.r fun K hK => ?_
 simp (disch := omega) only [↓RU,RV,RH,↓reduceIte,reduceEqDiff,reduceCtorEq,if_pos,↓RS,RG,reduceAdd,reduceMul,reduceLeDiff]
 refine hK _ _ ?_;clear hK K
 refine W.cond rfl (fun h => ?_) (fun h => ?_)
 ·try simp only [RL] at h
  refine W.r fun K hK => ?_
  simp (disch := omega) only [↓RU,RV,RH,↓reduceIte,reduceEqDiff,reduceCtorEq,if_pos,↓RS,RG,reduceAdd,reduceMul,reduceLeDiff]
  refine hK _ _ ?_;clear hK K
  refine W.ret ?_
  refine XThen.ret ?_
  refine Br rfl ?_
  rfl
 ·try simp only [RL] at h
  exact absurd h (by simp)
end Fw
end Go.Proofs.YtclmfemhboogpaaGreat
