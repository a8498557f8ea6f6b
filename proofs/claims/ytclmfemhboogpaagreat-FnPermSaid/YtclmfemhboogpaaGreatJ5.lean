/- Parts of the framework and of the proof: Plans cut in two, gone through; Drawing plans, gone through; Drawing plans, gone through, continued; Drawing needs, gone through; Sizes by the program, gone through; Sizes, gone through; the small functions of the statements; Heaviest sums, gone through; Areas, gone through; The law of areas, gone through; Marks, gone through; Places and slack by the specification, gone through; A relation the other way round, place by place; Places and slack by the program, gone through; Orders of two rooms, gone through; The laws of left and above, gone through; The law of places, gone through; Sorting by a function, gone through; Rooms in order by the program, gone through; The first and the second order, gone through; The orders by the specification, gone through; Permutations by the program and by the specification, gone through; Permutations of plans, gone through; The orders and permutations: the exported functions, gone through; The law of permutations of plans made tight and wide, gone through; Plans made tight and wide, gone through. -/
import Derived.Test.YtclmfemhboogpaaGreatJ4
import Derived.Test.YtclmfemhboogpaaGreatJ3
import Derived.Test.YtclmfemhboogpaaGreatJ2
set_option linter.all false
namespace Go.Proofs.YtclmfemhboogpaaGreat
namespace Fw
open Go
open Nat (reduceEqDiff reduceLeDiff reduceAdd reduceMul)
theorem set_eB {l : Txt} {a : Nat} {c : UInt8} : (l.map eB).set a (.int .u8 (c.toNat : Int)) = (l.set a c).map eB := by rw [List.map_set]
theorem bytesOf_eB (l : Txt) : bytesOf (l.map eB) = some l := bytesOf_map l
theorem l1None_pc  : PC Tryz.prog 147 [] (.tup [eStrs [],.bool false]) true := by
 refine PC.of ⟨Tryz.func147,by kernel_rfl,rfl,by kernel_rfl⟩ tabOk mixed (by show 0 ≤ Tryz.f147.ntmps; decide) ?_
 refine W.r fun K hK => ?_
 simp (disch := omega) only [↓RU,RV,RH,↓reduceIte,reduceEqDiff,reduceCtorEq,if_pos,↓RS,RG,reduceAdd,reduceMul,reduceLeDiff]
 refine hK _ _ ?_;clear hK K
 refine W.r fun K hK => ?_
 simp (disch := omega) only [↓RU,RV,RH,↓reduceIte,reduceEqDiff,reduceCtorEq,if_pos,↓RS,RG,reduceAdd,reduceMul,reduceLeDiff,ty5,tystring]
 refine hK _ _ ?_;clear hK K
 refine W.ret ?_
 refine Br rfl ?_
 exact reify_tup2 (k := 9) (reify_loc (k := 8) (n := 0) rfl rfl rfl) rfl
theorem l1Put_pc {p : List Txt} (hs : Sm p) {tp lf hg wd : Nat} {c : UInt8} (h1 : tp + hg ≤ p.length) (h2 : ∀ row ∈ p,lf + wd ≤ row.length) : PC Tryz.prog 228 [eStrs p,.int .i64 tp,.int .i64 lf,.int .i64 hg,.int .i64 wd,eB c] (eStrs (putTo p tp lf wd c (tp + hg))) true := by
 obtain ⟨hs1,hs2⟩ := hs
 refine PC.of ⟨Tryz.func228,by kernel_rfl,rfl,by kernel_rfl⟩ tabOk mixed (by show 6 ≤ Tryz.f228.ntmps; decide) ?_
 refine W.r fun K hK => ?_
 simp (disch := omega) only [↓RU,RV,RH,↓reduceIte,reduceEqDiff,reduceCtorEq,if_pos,↓RS,RG,reduceAdd,reduceMul,reduceLeDiff]
 refine hK _ _ ?_;clear hK K
 refine W.r fun K hK => ?_
 simp (disch := omega) only [↓RU,RV,RH,↓reduceIte,reduceEqDiff,reduceCtorEq,if_pos,↓RS,RG,reduceAdd,reduceMul,reduceLeDiff,ty5,tystring]
 refine hK _ _ ?_;clear hK K
 refine W.seq ?_
 refine W.r fun K hK => ?_
 simp (disch := omega) only [↓RU,RV,RH,↓reduceIte,reduceEqDiff,reduceCtorEq,if_pos,↓RS,RG,reduceAdd,reduceMul,reduceLeDiff]
 refine hK _ _ ?_;clear hK K
 refine W.block ?_
 refine W.loop [0,1,2,3,4,5,13,14] (fun n vs S => ∃ j t v : Nat,n = hg - j ∧ j ≤ hg ∧ vs = [eStrs p,.int .i64 tp,.int .i64 lf,.int .i64 hg,.int .i64 wd,eB c,.loc 0 v 0 p.length,.int .i64 ((tp + j : Nat) : Int)] ∧ S = ⟨[.arr v 9 1 ((putTo p tp lf wd c (tp + j)).map .str)],t⟩) hg ?_ ?_
 ·refine ⟨1,0,2,1,rfl,by omega,?_,?_⟩
  ·simp [Env.put,Env.of,argEnv]
  ·simp [take_eq,putTo_zero]
 rintro n vs S - ⟨j,t,v,rfl,h_j,rfl,rfl⟩
 refine W.seq ?_
 refine W.r fun K hK => ?_
 simp (disch := omega) only [↓RU,RV,RH,↓reduceIte,reduceEqDiff,reduceCtorEq,if_pos,w64,↓RS,RG,reduceAdd,reduceMul,reduceLeDiff,tyint]
 refine hK _ _ ?_;clear hK K
 refine W.cond rfl (fun h => ?_) (fun h => ?_)
 ·try simp only [RL] at h
  obtain ⟨i,hi⟩ : ∃ i,tp + j = i := ⟨_,rfl⟩
  simp only [hi]
  obtain ⟨row,hrow0,hrm⟩ := get_of (show i < p.length by omega)
  have hrow := putTo_at (t := tp) (l := lf) (w := wd) (c := c) hrow0
  have hlen := putTo_len (p := p) (t := tp) (l := lf) (w := wd) (c := c) (i := i)
  have hr1 := hs2 row hrm
  have hr2 := h2 row hrm
  refine W.skip ?_
  refine xn ?_
  refine W.seq ?_
  refine W.block ?_
  refine W.seq_thaw (l1 := [_,_,_,_]) (o := _) (l2 := [_]) rfl fun K hK => ?_
  simp (disch := omega) only [↓RU,RV,RH,↓reduceIte,reduceEqDiff,reduceCtorEq,if_pos,w64,↓RS,RG,reduceAdd,reduceMul,reduceLeDiff,ty5,ty6,tystring,ty26,hrow,hlen]
  refine ⟨_,_,_,_,_,rfl,rfl,rfl,rfl,rfl,rfl,by omega,?_⟩
  simp (disch := omega) only [↓RU,RV,RH,↓reduceIte,reduceEqDiff,reduceCtorEq,if_pos,w64,↓RS,RG,reduceAdd,reduceMul,reduceLeDiff,ty5,ty6,tystring,ty26,hrow,hlen]
  refine hK _ _ ?_;clear hK K
  refine W.seq ?_
  refine W.r fun K hK => ?_
  simp (disch := omega) only [↓RU,RV,RH,↓reduceIte,reduceEqDiff,reduceCtorEq,if_pos,↓RS,RG,reduceAdd,reduceMul,reduceLeDiff]
  refine hK _ _ ?_;clear hK K
  refine W.block ?_
  refine W.loop [0,1,2,3,4,5,13,14,15,16] (fun n vs S => ∃ k t2 : Nat,n = wd - k ∧ k ≤ wd ∧ vs = [eStrs p,.int .i64 tp,.int .i64 lf,.int .i64 hg,.int .i64 wd,eB c,.loc 0 v 0 p.length,.int .i64 (i : Int),.loc 1 t 0 row.length,.int .i64 ((lf + k : Nat) : Int)] ∧ S = ⟨[.arr v 9 1 ((putTo p tp lf wd c i).map .str),.arr t 5 1 ((rowPut row lf c (lf + k)).map eB)],t2⟩) wd ?_ ?_
  ·refine ⟨2,0,t + 1,rfl,by omega,?_,?_⟩
   ·simp [Env.put,Env.of]
   ·simp [take_eq,rowPut_zero]
  rintro n vs S - ⟨k,t2,rfl,h_k,rfl,rfl⟩
  refine W.seq ?_
  refine W.r fun K hK => ?_
  simp (disch := omega) only [↓RU,RV,RH,↓reduceIte,reduceEqDiff,reduceCtorEq,if_pos,w64,↓RS,RG,reduceAdd,reduceMul,reduceLeDiff,tyint]
  refine hK _ _ ?_;clear hK K
  refine W.cond rfl (fun h3 => ?_) (fun h3 => ?_)
  ·try simp only [RL] at h3
   have hrl := rowPut_len (row := row) (l := lf) (k := lf + k) (c := c)
   refine W.skip ?_
   refine xn ?_
   refine W.seq ?_
   refine W.block ?_
   refine W.k fun K hK => ?_
   simp (disch := omega) only [↓RU,RV,RH,↓reduceIte,reduceEqDiff,reduceCtorEq,if_pos,↓RS,RG,reduceAdd,reduceMul,reduceLeDiff,ty6,ty26,hrl,set_spl,set_eB]
   refine hK _ _ ?_;clear hK K
   refine XbN ?_
   refine xn ?_
   refine W.k fun K hK => ?_
   simp (disch := omega) only [↓RU,RV,RH,↓reduceIte,reduceEqDiff,reduceCtorEq,if_pos,w64,↓RS,RG,reduceAdd,reduceMul,reduceLeDiff,tyint]
   refine hK _ _ ?_;clear hK K
   refine xn ?_
   refine ⟨wd - (k + 1),by omega,2,k + 1,t2,rfl,by omega,?_,?_⟩
   ·simp [Env.put,Env.of]; omega
   ·simp only [take_eq]; rw [rowPut_succ (by omega) (by omega)]; rfl
  ·try simp only [RL] at h3
   obtain rfl : k = wd := by omega
   have hrl := rowPut_len (row := row) (l := lf) (k := lf + k) (c := c)
   have htk : ((rowPut row lf c (lf + k)).map eB).take row.length = (rowPut row lf c (lf + k)).map eB := List.take_of_length_le (by simp [hrl])
   refine W.exit ?_
   refine xe ?_
   refine xe ?_
   refine XBlock.hit ?_
   refine xn ?_
   refine W.k fun K hK => ?_
   simp (disch := omega) only [↓RU,RV,RH,↓reduceIte,reduceEqDiff,reduceCtorEq,if_pos,w64,↓RS,RG,reduceAdd,reduceMul,reduceLeDiff,ty5,ty6,tystring,ty26,hrl,htk,bytesOf_eB,hlen,set_spl,set_str,cells_str,List.length_cons,List.length_nil,Option.map_some]
   refine hK _ _ ?_;clear hK K
   refine XbN ?_
   refine xn ?_
   refine W.k fun K hK => ?_
   simp (disch := omega) only [↓RU,RV,RH,↓reduceIte,reduceEqDiff,reduceCtorEq,if_pos,w64,↓RS,RG,reduceAdd,reduceMul,reduceLeDiff,tyint]
   refine hK _ _ ?_;clear hK K
   refine xn ?_
   refine ⟨hg - (j + 1),by omega,1,j + 1,t2,v,rfl,by omega,?_,?_⟩
   ·subst hi; simp [Env.put,Env.of]; omega
   ·subst hi; simp only [take_eq,List.take_succ_cons,List.take_zero]; rw [putTo_succ (by omega) hrow0]; rfl
 ·try simp only [RL] at h
  refine W.exit ?_
  refine xe ?_
  refine xe ?_
  refine XBlock.hit ?_
  refine xn ?_
  refine W.r fun K hK => ?_
  simp (disch := omega) only [↓RU,RV,RH,↓reduceIte,reduceEqDiff,reduceCtorEq,if_pos,↓RS,RG,reduceAdd,reduceMul,reduceLeDiff]
  refine hK _ _ ?_;clear hK K
  refine W.ret ?_
  refine Br rfl ?_
  obtain rfl : j = hg := by omega
  exact (reify_loc (k := 9) rfl (by simp [putTo_len]) (mapM_str _)).trans (by simp [putTo_len])
theorem l1Done_pc {p : List Txt} (hs : Sm p) : PC Tryz.prog 148 [eStrs p] (.tup [eStrs (doneP p).1,.bool (doneP p).2]) false := by
 refine PC.of ⟨Tryz.func148,by kernel_rfl,rfl,by kernel_rfl⟩ tabOk mixed (by show 1 ≤ Tryz.f148.ntmps; decide) ?_
 refine W.r fun K hK => ?_
 simp (disch := omega) only [↓RU,RV,RH,↓reduceIte,reduceEqDiff,reduceCtorEq,if_pos,↓RS,RG,reduceAdd,reduceMul,reduceLeDiff]
 refine hK _ _ ?_;clear hK K
 refine W.seq ?_
 refine W.r fun K hK => ?_
 rcases hgg : (gridB p,planB (names p)) with ⟨_ | _,_ | _⟩
 ·skip
  simp only [Prod.mk.injEq] at hgg
  obtain ⟨hg1,hg2⟩ := hgg
  simp (disch := omega) only [↓RU,RV,RH,↓reduceIte,reduceEqDiff,reduceCtorEq,if_pos,List.append_nil,↓RS,RG,reduceAdd,reduceMul,reduceLeDiff,hg1,hg2]
  refine CallR.pc (l1Grid_pc hs) rfl (.inl rfl) ?_
  simp (disch := omega) only [↓RU,RV,RH,↓reduceIte,reduceEqDiff,reduceCtorEq,if_pos,List.append_nil,↓RS,RG,reduceAdd,reduceMul,reduceLeDiff,hg1,hg2]
  refine hK _ _ ?_;clear hK K
  refine W.cond rfl (fun h => ?_) (fun h => ?_)
  ·try simp only [RL] at h
   refine W.r fun K hK => ?_
   simp (disch := omega) only [↓RU,RV,RH,↓reduceIte,reduceEqDiff,reduceCtorEq,if_pos,List.append_nil,↓RS,RG,reduceAdd,reduceMul,reduceLeDiff]
   refine CallR.pc (l1None_pc) rfl (.inl rfl) ?_
   simp (disch := omega) only [↓RU,RV,RH,↓reduceIte,reduceEqDiff,reduceCtorEq,if_pos,List.append_nil,↓RS,RG,reduceAdd,reduceMul,reduceLeDiff]
   refine hK _ _ ?_;clear hK K
   refine W.ret ?_
   refine XThen.ret ?_
   refine Br rfl ?_
   rw [show doneP p = ([],false) by unfold doneP; rw [hg1]; rfl]
   rfl
  ·try simp only [RL] at h
   exact absurd h (by simp)
 ·skip
  simp only [Prod.mk.injEq] at hgg
  obtain ⟨hg1,hg2⟩ := hgg
  simp (disch := omega) only [↓RU,RV,RH,↓reduceIte,reduceEqDiff,reduceCtorEq,if_pos,List.append_nil,↓RS,RG,reduceAdd,reduceMul,reduceLeDiff,hg1,hg2]
  refine CallR.pc (l1Grid_pc hs) rfl (.inl rfl) ?_
  simp (disch := omega) only [↓RU,RV,RH,↓reduceIte,reduceEqDiff,reduceCtorEq,if_pos,List.append_nil,↓RS,RG,reduceAdd,reduceMul,reduceLeDiff,hg1,hg2]
  refine hK _ _ ?_;clear hK K
  refine W.cond rfl (fun h => ?_) (fun h => ?_)
  ·try simp only [RL] at h
   refine W.r fun K hK => ?_
   simp (disch := omega) only [↓RU,RV,RH,↓reduceIte,reduceEqDiff,reduceCtorEq,if_pos,List.append_nil,↓RS,RG,reduceAdd,reduceMul,reduceLeDiff]
   refine CallR.pc (l1None_pc) rfl (.inl rfl) ?_
   simp (disch := omega) only [↓RU,RV,RH,↓reduceIte,reduceEqDiff,reduceCtorEq,if_pos,List.append_nil,↓RS,RG,reduceAdd,reduceMul,reduceLeDiff]
   refine hK _ _ ?_;clear hK K
   refine W.ret ?_
   refine XThen.ret ?_
   refine Br rfl ?_
   rw [show doneP p = ([],false) by unfold doneP; rw [hg1]; rfl]
   rfl
  ·try simp only [RL] at h
   exact absurd h (by simp)
 ·skip
  simp only [Prod.mk.injEq] at hgg
  obtain ⟨hg1,hg2⟩ := hgg
  simp (disch := omega) only [↓RU,RV,RH,↓reduceIte,reduceEqDiff,reduceCtorEq,if_pos,List.append_nil,↓RS,RG,reduceAdd,reduceMul,reduceLeDiff,hg1,hg2]
  refine CallR.pc (l1Grid_pc hs) rfl (.inl rfl) ?_
  simp (disch := omega) only [↓RU,RV,RH,↓reduceIte,reduceEqDiff,reduceCtorEq,if_pos,List.append_nil,↓RS,RG,reduceAdd,reduceMul,reduceLeDiff,hg1,hg2]
  refine CallR.pc (l1Names_pc hs) rfl (.inl rfl) ?_
  simp (disch := omega) only [↓RU,RV,RH,↓reduceIte,reduceEqDiff,reduceCtorEq,if_pos,List.append_nil,↓RS,RG,reduceAdd,reduceMul,reduceLeDiff,hg1,hg2]
  refine CallR.pc (sPlanIn_pc hs.names) rfl (.inl rfl) ?_
  simp (disch := omega) only [↓RU,RV,RH,↓reduceIte,reduceEqDiff,reduceCtorEq,if_pos,List.append_nil,↓RS,RG,reduceAdd,reduceMul,reduceLeDiff,hg1,hg2]
  refine hK _ _ ?_;clear hK K
  refine W.cond rfl (fun h => ?_) (fun h => ?_)
  ·try simp only [RL] at h
   refine W.r fun K hK => ?_
   simp (disch := omega) only [↓RU,RV,RH,↓reduceIte,reduceEqDiff,reduceCtorEq,if_pos,List.append_nil,↓RS,RG,reduceAdd,reduceMul,reduceLeDiff]
   refine CallR.pc (l1None_pc) rfl (.inl rfl) ?_
   simp (disch := omega) only [↓RU,RV,RH,↓reduceIte,reduceEqDiff,reduceCtorEq,if_pos,List.append_nil,↓RS,RG,reduceAdd,reduceMul,reduceLeDiff]
   refine hK _ _ ?_;clear hK K
   refine W.ret ?_
   refine XThen.ret ?_
   refine Br rfl ?_
   rw [show doneP p = ([],false) by unfold doneP; rw [hg1,hg2]; rfl]
   rfl
  ·try simp only [RL] at h
   exact absurd h (by simp)
 ·skip
  simp only [Prod.mk.injEq] at hgg
  obtain ⟨hg1,hg2⟩ := hgg
  simp (disch := omega) only [↓RU,RV,RH,↓reduceIte,reduceEqDiff,reduceCtorEq,if_pos,List.append_nil,↓RS,RG,reduceAdd,reduceMul,reduceLeDiff,hg1,hg2]
  refine CallR.pc (l1Grid_pc hs) rfl (.inl rfl) ?_
  simp (disch := omega) only [↓RU,RV,RH,↓reduceIte,reduceEqDiff,reduceCtorEq,if_pos,List.append_nil,↓RS,RG,reduceAdd,reduceMul,reduceLeDiff,hg1,hg2]
  refine CallR.pc (l1Names_pc hs) rfl (.inl rfl) ?_
  simp (disch := omega) only [↓RU,RV,RH,↓reduceIte,reduceEqDiff,reduceCtorEq,if_pos,List.append_nil,↓RS,RG,reduceAdd,reduceMul,reduceLeDiff,hg1,hg2]
  refine CallR.pc (sPlanIn_pc hs.names) rfl (.inl rfl) ?_
  simp (disch := omega) only [↓RU,RV,RH,↓reduceIte,reduceEqDiff,reduceCtorEq,if_pos,List.append_nil,↓RS,RG,reduceAdd,reduceMul,reduceLeDiff,hg1,hg2]
  refine hK _ _ ?_;clear hK K
  refine W.cond rfl (fun h => ?_) (fun h => ?_)
  ·try simp only [RL] at h
   exact absurd h (by simp)
  ·try simp only [RL] at h
   refine W.skip ?_
   refine xn ?_
   refine W.r fun K hK => ?_
   simp (disch := omega) only [↓RU,RV,RH,↓reduceIte,reduceEqDiff,reduceCtorEq,if_pos,List.append_nil,↓RS,RG,reduceAdd,reduceMul,reduceLeDiff]
   refine CallR.pc (l1Names_pc hs) rfl (.inl rfl) ?_
   simp (disch := omega) only [↓RU,RV,RH,↓reduceIte,reduceEqDiff,reduceCtorEq,if_pos,List.append_nil,↓RS,RG,reduceAdd,reduceMul,reduceLeDiff]
   refine hK _ _ ?_;clear hK K
   refine W.ret ?_
   refine Br rfl ?_
   rw [show doneP p = (names p,true) by unfold doneP; rw [hg1,hg2]; rfl]
   rfl
theorem planSplit_pc {p : List Txt} (hs : Sm p) (room : Int) {s : Txt} (hsl : s.length ≤ 1048576) (k : Int) : PC Tryz.prog 219 [eStrs p,.int .i64 room,.str s,.int .i64 k] (.tup [eStrs (splitP p room s k).1,.bool (splitP p room s k).2]) false := by
 have hrb := l1Rooms_bound p
 refine PC.of ⟨Tryz.func219,by kernel_rfl,rfl,by kernel_rfl⟩ tabOk mixed (by show 4 ≤ Tryz.f219.ntmps; decide) ?_
 refine W.r fun K hK => ?_
 simp (disch := omega) only [↓RU,RV,RH,↓reduceIte,reduceEqDiff,reduceCtorEq,if_pos,↓RS,RG,reduceAdd,reduceMul,reduceLeDiff]
 refine hK _ _ ?_;clear hK K
 refine W.seq ?_
 refine W.r fun K hK => ?_
 simp (disch := omega) only [↓RU,RV,RH,↓reduceIte,reduceEqDiff,reduceCtorEq,if_pos,List.append_nil,↓RS,RG,reduceAdd,reduceMul,reduceLeDiff]
 refine CallR.pc (l1Given_pc hs room) rfl (.inl rfl) ?_
 simp (disch := omega) only [↓RU,RV,RH,↓reduceIte,reduceEqDiff,reduceCtorEq,if_pos,List.append_nil,↓RS,RG,reduceAdd,reduceMul,reduceLeDiff]
 refine hK _ _ ?_;clear hK K
 refine W.cond rfl (fun h0 => ?_) (fun h0 => ?_)
 ·try simp only [RL] at h0
  have hgv : (planB p && (decide (0 ≤ room) && decide (room ≤ l1Rooms p - 1))) = false := by simpa using h0
  refine W.r fun K hK => ?_
  simp (disch := omega) only [↓RU,RV,RH,↓reduceIte,reduceEqDiff,reduceCtorEq,if_pos,List.append_nil,↓RS,RG,reduceAdd,reduceMul,reduceLeDiff]
  refine CallR.pc (l1None_pc) rfl (.inl rfl) ?_
  simp (disch := omega) only [↓RU,RV,RH,↓reduceIte,reduceEqDiff,reduceCtorEq,if_pos,List.append_nil,↓RS,RG,reduceAdd,reduceMul,reduceLeDiff]
  refine hK _ _ ?_;clear hK K
  refine W.ret ?_
  refine XThen.ret ?_
  refine Br rfl ?_
  first | (rw [splitP_g hgv]; rfl) | (rw [splitP_h hgv e1 e2 e3 e4 hB1]; rfl) | (rw [splitP_v hgv e1 e2 e3 e4 hB1 hB2]; rfl) | (rw [splitP_no hB1 hB2]; rfl)
 ·try simp only [RL] at h0
  have hgv : (planB p && (decide (0 ≤ room) && decide (room ≤ l1Rooms p - 1))) = true := by simpa using h0
  have hgv2 := hgv
  simp only [Bool.and_eq_true,decide_eq_true_eq] at hgv2
  obtain ⟨hp,hr0,hr1⟩ := hgv2
  obtain ⟨t,l,h,w,e1,e2,e3,e4,q1,q2,q3,q4⟩ := plan_box hp hr0 hr1
  obtain ⟨ps1,ps2,ps3⟩ := plan_small hp
  have hrw : ∀ row ∈ p,row.length = (hdRow p).length := fun row hr => by obtain ⟨i,hi,rfl⟩ := List.getElem_of_mem hr; exact rows_wide hp (List.getElem?_eq_getElem hi)
  have hw6 : (hdRow p).length ≤ 6 := by obtain ⟨row,hrow,hrm⟩ := get_of ps2; rw [← hrw row hrm]; exact (ps3 row hrm).2
  refine W.skip ?_
  refine xn ?_
  refine W.r fun K hK => ?_
  simp (disch := omega) only [↓RU,RV,RH,↓reduceIte,reduceEqDiff,reduceCtorEq,if_pos,List.append_nil,↓RS,RG,reduceAdd,reduceMul,reduceLeDiff,e1,e2,e3,e4]
  refine CallR.pc (l1Room_pc hs (by omega) room) rfl (.inl rfl) ?_
  simp (disch := omega) only [↓RU,RV,RH,↓reduceIte,reduceEqDiff,reduceCtorEq,if_pos,List.append_nil,↓RS,RG,reduceAdd,reduceMul,reduceLeDiff,e1,e2,e3,e4]
  refine hK _ _ ?_;clear hK K
  refine W.seq ?_
  refine W.block ?_
  refine W.r fun K hK => ?_
  cases hb1 : (s == ([104] : Txt))
  ·skip
   have hB1 : ((s == [104]) && (decide (1 ≤ k) && decide (k ≤ highOf p room - 1))) = false := by rw [hb1]; rfl
   simp (disch := omega) only [↓RU,RV,RH,↓reduceIte,reduceEqDiff,reduceCtorEq,if_pos,w64,List.append_nil,↓RS,RG,reduceAdd,reduceMul,reduceLeDiff,tyint,tystring,hb1,pStr]
   refine hK _ _ ?_;clear hK K
   refine W.cond rfl (fun h1 => ?_) (fun h1 => ?_)
   ·try simp only [RL] at h1
    exact absurd h1 (by simp)
   ·try simp only [RL] at h1
    refine W.r fun K hK => ?_
    cases hb2 : (s == ([118] : Txt))
    ·skip
     have hB2 : ((s == [118]) && (decide (1 ≤ k) && decide (k ≤ wideOf p room - 1))) = false := by rw [hb2]; rfl
     simp (disch := omega) only [↓RU,RV,RH,↓reduceIte,reduceEqDiff,reduceCtorEq,if_pos,w64,List.append_nil,↓RS,RG,reduceAdd,reduceMul,reduceLeDiff,tyint,tystring,hb2,pStr]
     refine hK _ _ ?_;clear hK K
     refine W.cond rfl (fun h2 => ?_) (fun h2 => ?_)
     ·try simp only [RL] at h2
      exact absurd h2 (by simp)
     ·try simp only [RL] at h2
      refine W.skip ?_
      refine XbN ?_
      refine xn ?_
      refine W.r fun K hK => ?_
      simp (disch := omega) only [↓RU,RV,RH,↓reduceIte,reduceEqDiff,reduceCtorEq,if_pos,List.append_nil,↓RS,RG,reduceAdd,reduceMul,reduceLeDiff]
      refine CallR.pc (l1None_pc) rfl (.inl rfl) ?_
      simp (disch := omega) only [↓RU,RV,RH,↓reduceIte,reduceEqDiff,reduceCtorEq,if_pos,List.append_nil,↓RS,RG,reduceAdd,reduceMul,reduceLeDiff]
      refine hK _ _ ?_;clear hK K
      refine W.ret ?_
      refine Br rfl ?_
      first | (rw [splitP_g hgv]; rfl) | (rw [splitP_h hgv e1 e2 e3 e4 hB1]; rfl) | (rw [splitP_v hgv e1 e2 e3 e4 hB1 hB2]; rfl) | (rw [splitP_no hB1 hB2]; rfl)
    ·skip
     simp (disch := omega) only [↓RU,RV,RH,↓reduceIte,reduceEqDiff,reduceCtorEq,if_pos,w64,List.append_nil,↓RS,RG,reduceAdd,reduceMul,reduceLeDiff,tyint,tystring,hb2,pStr]
     refine CallR.pc (l6In_pc _ _ _) rfl (.inl rfl) ?_
     simp (disch := omega) only [↓RU,RV,RH,↓reduceIte,reduceEqDiff,reduceCtorEq,if_pos,w64,List.append_nil,↓RS,RG,reduceAdd,reduceMul,reduceLeDiff,tyint,tystring,hb2,pStr]
     refine hK _ _ ?_;clear hK K
     refine W.cond rfl (fun h2 => ?_) (fun h2 => ?_)
     ·try simp only [RL] at h2
      have hB2 : ((s == [118]) && (decide (1 ≤ k) && decide (k ≤ wideOf p room - 1))) = true := by rw [hb2,e4]; exact h2
      have hk := h2
      simp only [Bool.and_eq_true,decide_eq_true_eq] at hk
      obtain ⟨kn,rfl⟩ : ∃ kn : Nat,k = kn := ⟨k.toNat,by omega⟩
      refine W.r fun K hK => ?_
      simp (disch := omega) only [↓RU,RV,RH,↓reduceIte,reduceEqDiff,reduceCtorEq,if_pos,w64,List.append_nil,↓RS,RG,reduceAdd,reduceMul,reduceLeDiff,tyint,show ((l : Int) + (kn : Int)) = ((l + kn : Nat) : Int) from by omega,show ((w : Int) - (kn : Int)) = ((w - kn : Nat) : Int) from by omega]
      refine CallR.pc (l1Put_pc hs (tp := t) (lf := l + kn) (hg := h) (wd := w - kn) (c := 122) (by omega) (fun row hr => by rw [hrw row hr]; omega)) rfl (.inl rfl) ?_
      simp (disch := omega) only [↓RU,RV,RH,↓reduceIte,reduceEqDiff,reduceCtorEq,if_pos,w64,List.append_nil,↓RS,RG,reduceAdd,reduceMul,reduceLeDiff,tyint,show ((l : Int) + (kn : Int)) = ((l + kn : Nat) : Int) from by omega,show ((w : Int) - (kn : Int)) = ((w - kn : Nat) : Int) from by omega]
      refine CallR.pc (l1Done_pc (putTo_sm hs)) rfl (.inr rfl) ?_
      simp (disch := omega) only [↓RU,RV,RH,↓reduceIte,reduceEqDiff,reduceCtorEq,if_pos,w64,List.append_nil,↓RS,RG,reduceAdd,reduceMul,reduceLeDiff,tyint,show ((l : Int) + (kn : Int)) = ((l + kn : Nat) : Int) from by omega,show ((w : Int) - (kn : Int)) = ((w - kn : Nat) : Int) from by omega]
      refine hK _ _ ?_;clear hK K
      refine W.ret ?_
      refine XBlock.ret ?_
      refine XThen.ret ?_
      refine Br rfl ?_
      first | (rw [splitP_g hgv]; rfl) | (rw [splitP_h hgv e1 e2 e3 e4 hB1]; rfl) | (rw [splitP_v hgv e1 e2 e3 e4 hB1 hB2]; rfl) | (rw [splitP_no hB1 hB2]; rfl)
     ·try simp only [RL] at h2
      have hB2 : ((s == [118]) && (decide (1 ≤ k) && decide (k ≤ wideOf p room - 1))) = false := by rw [hb2,e4]; exact h2
      refine W.skip ?_
      refine XbN ?_
      refine xn ?_
      refine W.r fun K hK => ?_
      simp (disch := omega) only [↓RU,RV,RH,↓reduceIte,reduceEqDiff,reduceCtorEq,if_pos,List.append_nil,↓RS,RG,reduceAdd,reduceMul,reduceLeDiff]
      refine CallR.pc (l1None_pc) rfl (.inl rfl) ?_
      simp (disch := omega) only [↓RU,RV,RH,↓reduceIte,reduceEqDiff,reduceCtorEq,if_pos,List.append_nil,↓RS,RG,reduceAdd,reduceMul,reduceLeDiff]
      refine hK _ _ ?_;clear hK K
      refine W.ret ?_
      refine Br rfl ?_
      first | (rw [splitP_g hgv]; rfl) | (rw [splitP_h hgv e1 e2 e3 e4 hB1]; rfl) | (rw [splitP_v hgv e1 e2 e3 e4 hB1 hB2]; rfl) | (rw [splitP_no hB1 hB2]; rfl)
  ·skip
   simp (disch := omega) only [↓RU,RV,RH,↓reduceIte,reduceEqDiff,reduceCtorEq,if_pos,w64,List.append_nil,↓RS,RG,reduceAdd,reduceMul,reduceLeDiff,tyint,tystring,hb1,pStr]
   refine CallR.pc (l6In_pc _ _ _) rfl (.inl rfl) ?_
   simp (disch := omega) only [↓RU,RV,RH,↓reduceIte,reduceEqDiff,reduceCtorEq,if_pos,w64,List.append_nil,↓RS,RG,reduceAdd,reduceMul,reduceLeDiff,tyint,tystring,hb1,pStr]
   refine hK _ _ ?_;clear hK K
   refine W.cond rfl (fun h1 => ?_) (fun h1 => ?_)
   ·try simp only [RL] at h1
    have hB1 : ((s == [104]) && (decide (1 ≤ k) && decide (k ≤ highOf p room - 1))) = true := by rw [hb1,e3]; exact h1
    have hk := h1
    simp only [Bool.and_eq_true,decide_eq_true_eq] at hk
    obtain ⟨kn,rfl⟩ : ∃ kn : Nat,k = kn := ⟨k.toNat,by omega⟩
    refine W.r fun K hK => ?_
    simp (disch := omega) only [↓RU,RV,RH,↓reduceIte,reduceEqDiff,reduceCtorEq,if_pos,w64,List.append_nil,↓RS,RG,reduceAdd,reduceMul,reduceLeDiff,tyint,show ((t : Int) + (kn : Int)) = ((t + kn : Nat) : Int) from by omega,show ((h : Int) - (kn : Int)) = ((h - kn : Nat) : Int) from by omega]
    refine CallR.pc (l1Put_pc hs (tp := t + kn) (lf := l) (hg := h - kn) (wd := w) (c := 122) (by omega) (fun row hr => by rw [hrw row hr]; omega)) rfl (.inl rfl) ?_
    simp (disch := omega) only [↓RU,RV,RH,↓reduceIte,reduceEqDiff,reduceCtorEq,if_pos,w64,List.append_nil,↓RS,RG,reduceAdd,reduceMul,reduceLeDiff,tyint,show ((t : Int) + (kn : Int)) = ((t + kn : Nat) : Int) from by omega,show ((h : Int) - (kn : Int)) = ((h - kn : Nat) : Int) from by omega]
    refine CallR.pc (l1Done_pc (putTo_sm hs)) rfl (.inr rfl) ?_
    simp (disch := omega) only [↓RU,RV,RH,↓reduceIte,reduceEqDiff,reduceCtorEq,if_pos,w64,List.append_nil,↓RS,RG,reduceAdd,reduceMul,reduceLeDiff,tyint,show ((t : Int) + (kn : Int)) = ((t + kn : Nat) : Int) from by omega,show ((h : Int) - (kn : Int)) = ((h - kn : Nat) : Int) from by omega]
    refine hK _ _ ?_;clear hK K
    refine W.ret ?_
    refine XBlock.ret ?_
    refine XThen.ret ?_
    refine Br rfl ?_
    first | (rw [splitP_g hgv]; rfl) | (rw [splitP_h hgv e1 e2 e3 e4 hB1]; rfl) | (rw [splitP_v hgv e1 e2 e3 e4 hB1 hB2]; rfl) | (rw [splitP_no hB1 hB2]; rfl)
   ·try simp only [RL] at h1
    have hB1 : ((s == [104]) && (decide (1 ≤ k) && decide (k ≤ highOf p room - 1))) = false := by rw [hb1,e3]; exact h1
    refine W.r fun K hK => ?_
    cases hb2 : (s == ([118] : Txt))
    ·skip
     have hB2 : ((s == [118]) && (decide (1 ≤ k) && decide (k ≤ wideOf p room - 1))) = false := by rw [hb2]; rfl
     simp (disch := omega) only [↓RU,RV,RH,↓reduceIte,reduceEqDiff,reduceCtorEq,if_pos,w64,List.append_nil,↓RS,RG,reduceAdd,reduceMul,reduceLeDiff,tyint,tystring,hb2,pStr]
     refine hK _ _ ?_;clear hK K
     refine W.cond rfl (fun h2 => ?_) (fun h2 => ?_)
     ·try simp only [RL] at h2
      exact absurd h2 (by simp)
     ·try simp only [RL] at h2
      refine W.skip ?_
      refine XbN ?_
      refine xn ?_
      refine W.r fun K hK => ?_
      simp (disch := omega) only [↓RU,RV,RH,↓reduceIte,reduceEqDiff,reduceCtorEq,if_pos,List.append_nil,↓RS,RG,reduceAdd,reduceMul,reduceLeDiff]
      refine CallR.pc (l1None_pc) rfl (.inl rfl) ?_
      simp (disch := omega) only [↓RU,RV,RH,↓reduceIte,reduceEqDiff,reduceCtorEq,if_pos,List.append_nil,↓RS,RG,reduceAdd,reduceMul,reduceLeDiff]
      refine hK _ _ ?_;clear hK K
      refine W.ret ?_
      refine Br rfl ?_
      first | (rw [splitP_g hgv]; rfl) | (rw [splitP_h hgv e1 e2 e3 e4 hB1]; rfl) | (rw [splitP_v hgv e1 e2 e3 e4 hB1 hB2]; rfl) | (rw [splitP_no hB1 hB2]; rfl)
    ·skip
     simp (disch := omega) only [↓RU,RV,RH,↓reduceIte,reduceEqDiff,reduceCtorEq,if_pos,w64,List.append_nil,↓RS,RG,reduceAdd,reduceMul,reduceLeDiff,tyint,tystring,hb2,pStr]
     refine CallR.pc (l6In_pc _ _ _) rfl (.inl rfl) ?_
     simp (disch := omega) only [↓RU,RV,RH,↓reduceIte,reduceEqDiff,reduceCtorEq,if_pos,w64,List.append_nil,↓RS,RG,reduceAdd,reduceMul,reduceLeDiff,tyint,tystring,hb2,pStr]
     refine hK _ _ ?_;clear hK K
     refine W.cond rfl (fun h2 => ?_) (fun h2 => ?_)
     ·try simp only [RL] at h2
      have hB2 : ((s == [118]) && (decide (1 ≤ k) && decide (k ≤ wideOf p room - 1))) = true := by rw [hb2,e4]; exact h2
      have hk := h2
      simp only [Bool.and_eq_true,decide_eq_true_eq] at hk
      obtain ⟨kn,rfl⟩ : ∃ kn : Nat,k = kn := ⟨k.toNat,by omega⟩
      refine W.r fun K hK => ?_
      simp (disch := omega) only [↓RU,RV,RH,↓reduceIte,reduceEqDiff,reduceCtorEq,if_pos,w64,List.append_nil,↓RS,RG,reduceAdd,reduceMul,reduceLeDiff,tyint,show ((l : Int) + (kn : Int)) = ((l + kn : Nat) : Int) from by omega,show ((w : Int) - (kn : Int)) = ((w - kn : Nat) : Int) from by omega]
      refine CallR.pc (l1Put_pc hs (tp := t) (lf := l + kn) (hg := h) (wd := w - kn) (c := 122) (by omega) (fun row hr => by rw [hrw row hr]; omega)) rfl (.inl rfl) ?_
      simp (disch := omega) only [↓RU,RV,RH,↓reduceIte,reduceEqDiff,reduceCtorEq,if_pos,w64,List.append_nil,↓RS,RG,reduceAdd,reduceMul,reduceLeDiff,tyint,show ((l : Int) + (kn : Int)) = ((l + kn : Nat) : Int) from by omega,show ((w : Int) - (kn : Int)) = ((w - kn : Nat) : Int) from by omega]
      refine CallR.pc (l1Done_pc (putTo_sm hs)) rfl (.inr rfl) ?_
      simp (disch := omega) only [↓RU,RV,RH,↓reduceIte,reduceEqDiff,reduceCtorEq,if_pos,w64,List.append_nil,↓RS,RG,reduceAdd,reduceMul,reduceLeDiff,tyint,show ((l : Int) + (kn : Int)) = ((l + kn : Nat) : Int) from by omega,show ((w : Int) - (kn : Int)) = ((w - kn : Nat) : Int) from by omega]
      refine hK _ _ ?_;clear hK K
      refine W.ret ?_
      refine XBlock.ret ?_
      refine XThen.ret ?_
      refine Br rfl ?_
      first | (rw [splitP_g hgv]; rfl) | (rw [splitP_h hgv e1 e2 e3 e4 hB1]; rfl) | (rw [splitP_v hgv e1 e2 e3 e4 hB1 hB2]; rfl) | (rw [splitP_no hB1 hB2]; rfl)
     ·try simp only [RL] at h2
      have hB2 : ((s == [118]) && (decide (1 ≤ k) && decide (k ≤ wideOf p room - 1))) = false := by rw [hb2,e4]; exact h2
      refine W.skip ?_
      refine XbN ?_
      refine xn ?_
      refine W.r fun K hK => ?_
      simp (disch := omega) only [↓RU,RV,RH,↓reduceIte,reduceEqDiff,reduceCtorEq,if_pos,List.append_nil,↓RS,RG,reduceAdd,reduceMul,reduceLeDiff]
      refine CallR.pc (l1None_pc) rfl (.inl rfl) ?_
      simp (disch := omega) only [↓RU,RV,RH,↓reduceIte,reduceEqDiff,reduceCtorEq,if_pos,List.append_nil,↓RS,RG,reduceAdd,reduceMul,reduceLeDiff]
      refine hK _ _ ?_;clear hK K
      refine W.ret ?_
      refine Br rfl ?_
      first | (rw [splitP_g hgv]; rfl) | (rw [splitP_h hgv e1 e2 e3 e4 hB1]; rfl) | (rw [splitP_v hgv e1 e2 e3 e4 hB1 hB2]; rfl) | (rw [splitP_no hB1 hB2]; rfl)
theorem pick_ev {code : Txt} {q vr t : Nat} {R : List Ob} (hc : code.length ≤ 1048576) (hq : q ≤ 1000000) (n : Int) (hn : n ≤ 1000000) (hn0 : -1000000 ≤ n) :
  Ev Tryz.prog 98 [.ref 0 vr 0,.int .i64 n] ⟨.arr vr 147 2 [eBy code,.int .i64 (q : Int)] :: R,t⟩ fun v S => ∃ k : Nat,v = .int .i64 (k : Int) ∧ (n < 1 → k = 0) ∧ (1 ≤ n → (k : Int) < n) ∧ S = ⟨.arr vr 147 2 [eBy code,.int .i64 ((q + 1 : Nat) : Int)] :: R,t⟩ :=
 pick_ev0 hc hq n hn hn0
theorem of_ev {code : Txt} {q vr t v1 : Nat} {R : List Ob} {l : List Txt} (hc : code.length ≤ 1048576) (hq : q ≤ 1000000) (hl : 1 ≤ l.length) (hl2 : l.length ≤ 1000) : Ev Tryz.prog 220 [.ref 0 vr 0,.loc 1 v1 0 l.length] ⟨.arr vr 147 2 [eBy code,.int .i64 (q : Int)] :: .arr v1 9 1 (l.map .str) :: R,t⟩ fun v S => ∃ s,s ∈ l ∧ v = .str s ∧ S = ⟨.arr vr 147 2 [eBy code,.int .i64 ((q + 1 : Nat) : Int)] :: .arr v1 9 1 (l.map .str) :: R,t⟩ := by
 refine Ev.of ⟨Tryz.func220,by kernel_rfl,rfl,by kernel_rfl⟩ tabOk mixed (by show 2 ≤ Tryz.f220.ntmps; decide) ?_
 refine W.r fun K hK => ?_
 simp (disch := omega) only [↓RU,RV,RH,↓reduceIte,reduceEqDiff,reduceCtorEq,if_pos,↓RS,RG,reduceAdd,reduceMul,reduceLeDiff]
 refine hK _ _ ?_;clear hK K
 refine W.r fun K hK => ?_
 simp (disch := omega) only [↓RU,RV,RH,↓reduceIte,reduceEqDiff,reduceCtorEq,if_pos,List.append_nil,↓RS,RG,reduceAdd,reduceMul,reduceLeDiff,ty5,tystring]
 refine CallR.ev (pick_ev hc hq (l.length : Int) (by omega) (by omega)) ?_
 rintro _ _ ⟨k,rfl,-,hk,rfl⟩
 have hk2 := hk (by omega)
 obtain ⟨s,hsk,hsm⟩ := get_of (show k < l.length by omega)
 simp (disch := omega) only [↓RU,RV,RH,↓reduceIte,reduceEqDiff,reduceCtorEq,if_pos,List.append_nil,↓RS,RG,reduceAdd,reduceMul,reduceLeDiff,ty5,tystring,hsk]
 refine hK _ _ ?_;clear hK K
 refine W.ret ?_
 refine Br rfl ?_
 exact ⟨_,s,hsm,rfl,take_all⟩
theorem l91Empty_pc {nh nw : Nat} (hn : nh ≤ 100) (hm : nw ≤ 100) : PC Tryz.prog 201 [.int .i64 nh,.int .i64 nw] (eStrs (List.replicate nh (List.replicate nw (97 : UInt8)))) true := by
 refine PC.of ⟨Tryz.func201,by kernel_rfl,rfl,by kernel_rfl⟩ tabOk mixed (by show 2 ≤ Tryz.f201.ntmps; decide) ?_
 refine W.r fun K hK => ?_
 simp (disch := omega) only [↓RU,RV,RH,↓reduceIte,reduceEqDiff,reduceCtorEq,if_pos,↓RS,RG,reduceAdd,reduceMul,reduceLeDiff]
 refine hK _ _ ?_;clear hK K
 refine W.r fun K hK => ?_
 simp (disch := omega) only [↓RU,RV,RH,↓reduceIte,reduceEqDiff,reduceCtorEq,if_pos,↓RS,RG,reduceAdd,reduceMul,reduceLeDiff,ty5,tystring]
 refine hK _ _ ?_;clear hK K
 refine W.seq ?_
 refine W.r fun K hK => ?_
 simp (disch := omega) only [↓RU,RV,RH,↓reduceIte,reduceEqDiff,reduceCtorEq,if_pos,↓RS,RG,reduceAdd,reduceMul,reduceLeDiff]
 refine hK _ _ ?_;clear hK K
 refine W.block ?_
 refine W.loop [0,1,5,6] (fun n vs S => ∃ i v0 tk : Nat,n = nh - i ∧ i ≤ nh ∧ vs = [.int .i64 nh,.int .i64 nw,.loc 0 v0 0 i,.int .i64 i] ∧ S = ⟨[.arr v0 9 1 ((List.replicate i (List.replicate nw (97 : UInt8))).map .str)],tk⟩) (nh) ?_ ?_
 ·refine ⟨1,0,0,1,rfl,Nat.zero_le _,?_,rfl⟩
  simp [Env.put,Env.of,argEnv]
 rintro n vs S - ⟨i,v0,tk,rfl,h_i,rfl,rfl⟩
 refine W.seq ?_
 refine W.r fun K hK => ?_
 simp (disch := omega) only [↓RU,RV,RH,↓reduceIte,reduceEqDiff,reduceCtorEq,if_pos,w64,↓RS,RG,reduceAdd,reduceMul,reduceLeDiff,tyint]
 refine hK _ _ ?_;clear hK K
 refine W.cond rfl (fun h => ?_) (fun h => ?_)
 ·try simp only [RL] at h
  refine W.skip ?_
  refine xn ?_
  refine W.seq ?_
  refine W.block ?_
  refine W.r fun K hK => ?_
  simp (disch := omega) only [↓RU,RV,RH,↓reduceIte,reduceEqDiff,reduceCtorEq,if_pos,↓RS,RG,reduceAdd,reduceMul,reduceLeDiff,ty6,ty26]
  refine hK _ _ ?_;clear hK K
  refine W.seq ?_
  refine W.r fun K hK => ?_
  simp (disch := omega) only [↓RU,RV,RH,↓reduceIte,reduceEqDiff,reduceCtorEq,if_pos,↓RS,RG,reduceAdd,reduceMul,reduceLeDiff]
  refine hK _ _ ?_;clear hK K
  refine W.block ?_
  refine W.loop [0,1,5,6,7,8] (fun n vs S => ∃ k v1 tk : Nat,n = nw - k ∧ k ≤ nw ∧ vs = [.int .i64 nh,.int .i64 nw,.loc 0 v0 0 i,.int .i64 i,.loc 1 v1 0 k,.int .i64 k] ∧ S = ⟨[.arr v0 9 1 ((List.replicate i (List.replicate nw (97 : UInt8))).map .str),.arr v1 5 1 ((List.replicate k (97 : UInt8)).map eB)],tk⟩) (nw) ?_ ?_
  ·refine ⟨2,0,tk,tk + 1,rfl,Nat.zero_le _,?_,rfl⟩
   simp [Env.put,Env.of]
  rintro n vs S - ⟨k,v1,tk,rfl,h_k,rfl,rfl⟩
  refine W.seq ?_
  refine W.r fun K hK => ?_
  simp (disch := omega) only [↓RU,RV,RH,↓reduceIte,reduceEqDiff,reduceCtorEq,if_pos,w64,↓RS,RG,reduceAdd,reduceMul,reduceLeDiff,tyint]
  refine hK _ _ ?_;clear hK K
  refine W.cond rfl (fun h1 => ?_) (fun h1 => ?_)
  ·try simp only [RL] at h1
   refine W.skip ?_
   refine xn ?_
   refine W.seq ?_
   refine W.block ?_
   refine W.k fun K hK => ?_
   simp (disch := omega) only [↓RU,RV,RH,↓reduceIte,reduceEqDiff,reduceCtorEq,if_pos,↓RS,RG,reduceAdd,reduceMul,reduceLeDiff,ty6,ty26,List.length_replicate]
   refine hK _ _ ?_;clear hK K
   refine XbN ?_
   refine xn ?_
   refine W.k fun K hK => ?_
   simp (disch := omega) only [↓RU,RV,RH,↓reduceIte,reduceEqDiff,reduceCtorEq,if_pos,w64,↓RS,RG,reduceAdd,reduceMul,reduceLeDiff,tyint]
   refine hK _ _ ?_;clear hK K
   refine xn ?_
   refine ⟨nw - (k + 1),by omega,2,k + 1,tk + 1,tk + 2,rfl,by omega,?_,?_⟩
   all_goals simp [Env.put,Env.of,take_eq,tk_le,List.replicate_succ',List.map_append]
  ·try simp only [RL] at h1
   obtain rfl : k = nw := by omega
   have hbo := bytesOf_eB (List.replicate k (97 : UInt8))
   have htk : ((List.replicate k (97 : UInt8)).map eB).take k = (List.replicate k (97 : UInt8)).map eB := List.take_of_length_le (by simp)
   refine W.exit ?_
   refine xe ?_
   refine xe ?_
   refine XBlock.hit ?_
   refine xn ?_
   refine W.k fun K hK => ?_
   simp (disch := omega) only [↓RU,RV,RH,↓reduceIte,reduceEqDiff,reduceCtorEq,if_pos,w64,↓RS,RG,reduceAdd,reduceMul,reduceLeDiff,ty5,ty6,tystring,ty26,List.length_replicate,htk,hbo]
   refine hK _ _ ?_;clear hK K
   refine XbN ?_
   refine xn ?_
   refine W.k fun K hK => ?_
   simp (disch := omega) only [↓RU,RV,RH,↓reduceIte,reduceEqDiff,reduceCtorEq,if_pos,w64,↓RS,RG,reduceAdd,reduceMul,reduceLeDiff,tyint]
   refine hK _ _ ?_;clear hK K
   refine xn ?_
   refine ⟨nh - (i + 1),by omega,1,i + 1,tk + 1,tk + 2,rfl,by omega,?_,?_⟩
   all_goals simp [Env.put,Env.of,take_eq,tk_le,List.replicate_succ',List.map_append]
 ·try simp only [RL] at h
  obtain rfl : i = nh := by omega
  refine W.exit ?_
  refine xe ?_
  refine xe ?_
  refine XBlock.hit ?_
  refine xn ?_
  refine W.r fun K hK => ?_
  simp (disch := omega) only [↓RU,RV,RH,↓reduceIte,reduceEqDiff,reduceCtorEq,if_pos,↓RS,RG,reduceAdd,reduceMul,reduceLeDiff]
  refine hK _ _ ?_;clear hK K
  refine W.ret ?_
  refine Br rfl ?_
  exact (reify_loc (k := 9) rfl (by simp) (mapM_str _)).trans (by simp)
theorem frz_ref0 {S : Store} {k ver off : Nat} : frz S 1 (k + 1) (.ref 0 ver off) = some (.ref 0 ver off) := by simp [frz]
theorem tk_strs (p : List Txt) : List.take p.length (p.map PV.str) = p.map .str := List.take_of_length_le (by simp)
theorem rfz_tstr {S : Store} {lo k : Nat} (l : List Txt) : (l.map PV.str).mapM (rfz S lo (k + 1)) = some (l.map PV.str) := rfz_map (fun _ => rfl) l
theorem plan_sm {p : List Txt} (h : planB p = true) : Sm p := by
 obtain ⟨h1,-,h3⟩ := plan_small h
 exact ⟨by omega,fun r hr => by have := (h3 r hr).2; omega⟩
theorem plan_rooms9 {p : List Txt} (h : planB p = true) : l1Rooms p ≤ 9 := by
 unfold planB at h; simp only [Bool.and_eq_true,decide_eq_true_eq] at h; omega
theorem hv_len {s : Txt} (h : s ∈ ([[104],[118]] : List Txt)) : s.length ≤ 1048576 := by
 simp only [List.mem_cons,List.not_mem_nil,or_false] at h
 rcases h with rfl | rfl <;> simp
theorem l91Cut_ev {code : Txt} {q vr t : Nat} {R : List Ob} (hc : code.length ≤ 1048576) (hq : q ≤ 900000) {p : List Txt} (hp : planB p = true) {many : Nat} (hm : many ≤ 1000) : Ev Tryz.prog 200 [.ref 0 vr 0,eStrs p,.int .i64 many] ⟨.arr vr 147 2 [eBy code,.int .i64 (q : Int)] :: R,t⟩ fun v S => ∃ (p2 : List Txt) (q2 t2 : Nat),v = eStrs p2 ∧ planB p2 = true ∧ p2.length = p.length ∧ q2 ≤ q + 3 * many ∧ S = ⟨[.arr vr 147 2 [eBy code,.int .i64 (q2 : Int)]],t2⟩ := by
 refine Ev.of ⟨Tryz.func200,by kernel_rfl,rfl,by kernel_rfl⟩ tabOk mixed (by show 3 ≤ Tryz.f200.ntmps; decide) ?_
 refine W.r fun K hK => ?_
 simp (disch := omega) only [↓RU,RV,RH,↓reduceIte,reduceEqDiff,reduceCtorEq,if_pos,↓RS,RG,reduceAdd,reduceMul,reduceLeDiff]
 refine hK _ _ ?_;clear hK K
 refine W.seq ?_
 refine W.r fun K hK => ?_
 simp (disch := omega) only [↓RU,RV,RH,↓reduceIte,reduceEqDiff,reduceCtorEq,if_pos,↓RS,RG,reduceAdd,reduceMul,reduceLeDiff]
 refine hK _ _ ?_;clear hK K
 refine W.block ?_
 refine W.loopZ [0,1,2,7] (fun n vs S => ∃ (i : Nat) (p2 : List Txt) (q2 tk : Nat),n = many - i ∧ i ≤ many ∧ planB p2 = true ∧ p2.length = p.length ∧ q2 ≤ q + 3 * i ∧ vs = [.ref 0 vr 0,eStrs p2,.int .i64 many,.int .i64 i] ∧ S = ⟨[.arr vr 147 2 [eBy code,.int .i64 (q2 : Int)]],tk⟩) many ?_ ?_
 ·refine ⟨1,[.ref 0 vr 0,eStrs p,.int .i64 many,.int .i64 (0 : Nat)],⟨[.arr vr 147 2 [eBy code,.int .i64 (q : Int)]],t⟩,?_,?_,0,p,q,t,rfl,by omega,hp,rfl,by omega,rfl,rfl⟩
  ·simp [-List.mapM_map,Store.frz,frzObs,frzOb,frz_eInts,frz_loc,rfz_loc,frz_int,frz_sl,frz_ints,rfz_ints,frz_strs,frz_bytes,rfz_bytes,rfz_str,rfz_bool,frz_str,frz_bool,Env.put,Env.of,argEnv,rfz_int,List.mapM_append,List.mapM_cons,frz_ref0,tk_strs,rfz_tstr]
  ·simp [-List.mapM_map,Store.frz,frzObs,frzOb,frz_eInts,frz_loc,rfz_loc,frz_int,frz_sl,frz_ints,rfz_ints,frz_strs,frz_bytes,rfz_bytes,rfz_str,rfz_bool,frz_str,frz_bool,Env.put,Env.of,argEnv,rfz_int,List.mapM_append,List.mapM_cons,frz_ref0,tk_strs,rfz_tstr]
 rintro n vs S - ⟨i,p2,q2,tk,rfl,h_i,hp2,hl2,hq2,rfl,rfl⟩
 refine W.seq ?_
 refine W.r fun K hK => ?_
 simp (disch := omega) only [↓RU,RV,RH,↓reduceIte,reduceEqDiff,reduceCtorEq,if_pos,w64,↓RS,RG,reduceAdd,reduceMul,reduceLeDiff,tyint]
 refine hK _ _ ?_;clear hK K
 refine W.cond rfl (fun h => ?_) (fun h => ?_)
 ·try simp only [RL] at h
  have hs2 := plan_sm hp2
  have hr9 := plan_rooms9 hp2
  have hrb := l1Rooms_bound p2
  refine W.skip ?_
  refine xn ?_
  refine W.seq ?_
  refine W.block ?_
  refine W.r fun K hK => ?_
  simp (disch := omega) only [↓RU,RV,RH,↓reduceIte,reduceEqDiff,reduceCtorEq,if_pos,List.append_nil,↓RS,RG,reduceAdd,reduceMul,reduceLeDiff]
  refine CallR.pc (l1Rooms_pc hs2) rfl (.inl rfl) ?_
  simp (disch := omega) only [↓RU,RV,RH,↓reduceIte,reduceEqDiff,reduceCtorEq,if_pos,List.append_nil,↓RS,RG,reduceAdd,reduceMul,reduceLeDiff]
  refine CallR.ev (pick_ev hc (by omega) (l1Rooms p2) (by omega) (by omega)) ?_
  rintro _ _ ⟨k1,rfl,-,-,rfl⟩
  simp (disch := omega) only [↓RU,RV,RH,↓reduceIte,reduceEqDiff,reduceCtorEq,if_pos,List.append_nil,↓RS,RG,reduceAdd,reduceMul,reduceLeDiff]
  refine hK _ _ ?_;clear hK K
  refine W.r fun K hK => ?_
  simp (disch := omega) only [↓RU,RV,RH,↓reduceIte,reduceEqDiff,reduceCtorEq,if_pos,List.append_nil,w64,↓RS,RG,reduceAdd,reduceMul,reduceLeDiff,ty5,tyint,tystring]
  refine CallR.ev (of_ev (R := []) (l := [[104],[118]]) hc (by omega) (by simp) (by simp)) ?_
  rintro _ _ ⟨s,hsm,rfl,rfl⟩
  have hsl := hv_len hsm
  simp (disch := omega) only [↓RU,RV,RH,↓reduceIte,reduceEqDiff,reduceCtorEq,if_pos,List.append_nil,w64,↓RS,RG,reduceAdd,reduceMul,reduceLeDiff,ty5,tyint,tystring]
  refine CallR.ev (pick_ev (q := q2 + 1 + 1) hc (by omega) 3 (by omega) (by omega)) ?_
  rintro _ _ ⟨k2,rfl,-,hk2,rfl⟩
  have hk3 := hk2 (by omega)
  simp (disch := omega) only [↓RU,RV,RH,↓reduceIte,reduceEqDiff,reduceCtorEq,if_pos,List.append_nil,w64,↓RS,RG,reduceAdd,reduceMul,reduceLeDiff,ty5,tyint,tystring]
  refine CallR.pc (planSplit_pc hs2 k1 hsl (1 + k2)) rfl (.inr rfl) ?_
  simp (disch := omega) only [↓RU,RV,RH,↓reduceIte,reduceEqDiff,reduceCtorEq,if_pos,List.append_nil,w64,↓RS,RG,reduceAdd,reduceMul,reduceLeDiff,ty5,tyint,tystring]
  refine hK _ _ ?_;clear hK K
  refine W.r fun K hK => ?_
  simp (disch := omega) only [↓RU,RV,RH,↓reduceIte,reduceEqDiff,reduceCtorEq,if_pos,↓RS,RG,reduceAdd,reduceMul,reduceLeDiff]
  refine hK _ _ ?_;clear hK K
  refine W.cond rfl (fun h1 => ?_) (fun h1 => ?_)
  ·try simp only [RL] at h1
   obtain ⟨ho1,ho2⟩ := splitP_ok h1
   refine W.k fun K hK => ?_
   simp (disch := omega) only [↓RU,RV,RH,↓reduceIte,reduceEqDiff,reduceCtorEq,if_pos,↓RS,RG,reduceAdd,reduceMul,reduceLeDiff]
   refine hK _ _ ?_;clear hK K
   refine XbN ?_
   refine xn ?_
   refine W.k fun K hK => ?_
   simp (disch := omega) only [↓RU,RV,RH,↓reduceIte,reduceEqDiff,reduceCtorEq,if_pos,w64,↓RS,RG,reduceAdd,reduceMul,reduceLeDiff,tyint]
   refine hK _ _ ?_;clear hK K
   refine xn ?_
   refine ⟨many - (i + 1),by omega,1,[.ref 0 vr 0,eStrs (splitP p2 k1 s (1 + k2)).1,.int .i64 many,.int .i64 ((i + 1 : Nat) : Int)],⟨[.arr vr 147 2 [eBy code,.int .i64 ((q2 + 1 + 1 + 1 : Nat) : Int)]],tk + 1⟩,?_,?_,i + 1,(splitP p2 k1 s (1 + k2)).1,q2 + 1 + 1 + 1,tk + 1,rfl,by omega,ho1,ho2.trans hl2,by omega,rfl,rfl⟩
   ·simp [-List.mapM_map,Store.frz,frzObs,frzOb,frz_eInts,frz_loc,rfz_loc,frz_int,frz_sl,frz_ints,rfz_ints,frz_strs,frz_bytes,rfz_bytes,rfz_str,rfz_bool,frz_str,frz_bool,Env.put,Env.of,argEnv,rfz_int,List.mapM_append,List.mapM_cons,frz_ref0,tk_strs,rfz_tstr]
   ·simp [-List.mapM_map,Store.frz,frzObs,frzOb,frz_eInts,frz_loc,rfz_loc,frz_int,frz_sl,frz_ints,rfz_ints,frz_strs,frz_bytes,rfz_bytes,rfz_str,rfz_bool,frz_str,frz_bool,Env.put,Env.of,argEnv,rfz_int,List.mapM_append,List.mapM_cons,frz_ref0,tk_strs,rfz_tstr]
  ·try simp only [RL] at h1
   refine W.skip ?_
   refine XbN ?_
   refine xn ?_
   refine W.k fun K hK => ?_
   simp (disch := omega) only [↓RU,RV,RH,↓reduceIte,reduceEqDiff,reduceCtorEq,if_pos,w64,↓RS,RG,reduceAdd,reduceMul,reduceLeDiff,tyint]
   refine hK _ _ ?_;clear hK K
   refine xn ?_
   refine ⟨many - (i + 1),by omega,1,[.ref 0 vr 0,eStrs p2,.int .i64 many,.int .i64 ((i + 1 : Nat) : Int)],⟨[.arr vr 147 2 [eBy code,.int .i64 ((q2 + 1 + 1 + 1 : Nat) : Int)]],tk + 1⟩,?_,?_,i + 1,p2,q2 + 1 + 1 + 1,tk + 1,rfl,by omega,hp2,hl2,by omega,rfl,rfl⟩
   ·simp [-List.mapM_map,Store.frz,frzObs,frzOb,frz_eInts,frz_loc,rfz_loc,frz_int,frz_sl,frz_ints,rfz_ints,frz_strs,frz_bytes,rfz_bytes,rfz_str,rfz_bool,frz_str,frz_bool,Env.put,Env.of,argEnv,rfz_int,List.mapM_append,List.mapM_cons,frz_ref0,tk_strs,rfz_tstr]
   ·simp [-List.mapM_map,Store.frz,frzObs,frzOb,frz_eInts,frz_loc,rfz_loc,frz_int,frz_sl,frz_ints,rfz_ints,frz_strs,frz_bytes,rfz_bytes,rfz_str,rfz_bool,frz_str,frz_bool,Env.put,Env.of,argEnv,rfz_int,List.mapM_append,List.mapM_cons,frz_ref0,tk_strs,rfz_tstr]
 ·try simp only [RL] at h
  obtain rfl : i = many := by omega
  refine W.exit ?_
  refine xe ?_
  refine xe ?_
  refine XBlock.hit ?_
  refine xn ?_
  refine W.r fun K hK => ?_
  simp (disch := omega) only [↓RU,RV,RH,↓reduceIte,reduceEqDiff,reduceCtorEq,if_pos,↓RS,RG,reduceAdd,reduceMul,reduceLeDiff]
  refine hK _ _ ?_;clear hK K
  refine W.ret ?_
  refine Br rfl ?_
  exact ⟨_,p2,q2,tk,rfl,hp2,hl2,by omega,take_all⟩
theorem l91Cut_loc {code : Txt} {q vr t v1 : Nat} {R : List Ob} (hc : code.length ≤ 1048576) (hq : q ≤ 900000) {p : List Txt} (hp : planB p = true) {many : Nat} (hm : many ≤ 1000) : Ev Tryz.prog 200 [.ref 0 vr 0,.loc 1 v1 0 p.length,.int .i64 many] ⟨.arr vr 147 2 [eBy code,.int .i64 (q : Int)] :: .arr v1 9 1 (p.map .str) :: R,t⟩ fun v S => ∃ (p2 : List Txt) (q2 t2 : Nat),v = eStrs p2 ∧ planB p2 = true ∧ p2.length = p.length ∧ q2 ≤ q + 3 * many ∧ S = ⟨[.arr vr 147 2 [eBy code,.int .i64 (q2 : Int)]],t2⟩ := by
 refine Ev.of ⟨Tryz.func200,by kernel_rfl,rfl,by kernel_rfl⟩ tabOk mixed (by show 3 ≤ Tryz.f200.ntmps; decide) ?_
 refine W.r fun K hK => ?_
 simp (disch := omega) only [↓RU,RV,RH,↓reduceIte,reduceEqDiff,reduceCtorEq,if_pos,↓RS,RG,reduceAdd,reduceMul,reduceLeDiff]
 refine hK _ _ ?_;clear hK K
 refine W.seq ?_
 refine W.r fun K hK => ?_
 simp (disch := omega) only [↓RU,RV,RH,↓reduceIte,reduceEqDiff,reduceCtorEq,if_pos,↓RS,RG,reduceAdd,reduceMul,reduceLeDiff]
 refine hK _ _ ?_;clear hK K
 refine W.block ?_
 refine W.loopZ [0,1,2,7] (fun n vs S => ∃ (i : Nat) (p2 : List Txt) (q2 tk : Nat),n = many - i ∧ i ≤ many ∧ planB p2 = true ∧ p2.length = p.length ∧ q2 ≤ q + 3 * i ∧ vs = [.ref 0 vr 0,eStrs p2,.int .i64 many,.int .i64 i] ∧ S = ⟨[.arr vr 147 2 [eBy code,.int .i64 (q2 : Int)]],tk⟩) many ?_ ?_
 ·refine ⟨1,[.ref 0 vr 0,eStrs p,.int .i64 many,.int .i64 (0 : Nat)],⟨[.arr vr 147 2 [eBy code,.int .i64 (q : Int)]],t⟩,?_,?_,0,p,q,t,rfl,by omega,hp,rfl,by omega,rfl,rfl⟩
  ·simp [-List.mapM_map,Store.frz,frzObs,frzOb,frz_eInts,frz_loc,rfz_loc,frz_int,frz_sl,frz_ints,rfz_ints,frz_strs,frz_bytes,rfz_bytes,rfz_str,rfz_bool,frz_str,frz_bool,Env.put,Env.of,argEnv,rfz_int,List.mapM_append,List.mapM_cons,frz_ref0,tk_strs,rfz_tstr]
  ·simp [-List.mapM_map,Store.frz,frzObs,frzOb,frz_eInts,frz_loc,rfz_loc,frz_int,frz_sl,frz_ints,rfz_ints,frz_strs,frz_bytes,rfz_bytes,rfz_str,rfz_bool,frz_str,frz_bool,Env.put,Env.of,argEnv,rfz_int,List.mapM_append,List.mapM_cons,frz_ref0,tk_strs,rfz_tstr]
 rintro n vs S - ⟨i,p2,q2,tk,rfl,h_i,hp2,hl2,hq2,rfl,rfl⟩
 refine W.seq ?_
 refine W.r fun K hK => ?_
 simp (disch := omega) only [↓RU,RV,RH,↓reduceIte,reduceEqDiff,reduceCtorEq,if_pos,w64,↓RS,RG,reduceAdd,reduceMul,reduceLeDiff,tyint]
 refine hK _ _ ?_;clear hK K
 refine W.cond rfl (fun h => ?_) (fun h => ?_)
 ·try simp only [RL] at h
  have hs2 := plan_sm hp2
  have hr9 := plan_rooms9 hp2
  have hrb := l1Rooms_bound p2
  refine W.skip ?_
  refine xn ?_
  refine W.seq ?_
  refine W.block ?_
  refine W.r fun K hK => ?_
  simp (disch := omega) only [↓RU,RV,RH,↓reduceIte,reduceEqDiff,reduceCtorEq,if_pos,List.append_nil,↓RS,RG,reduceAdd,reduceMul,reduceLeDiff]
  refine CallR.pc (l1Rooms_pc hs2) rfl (.inl rfl) ?_
  simp (disch := omega) only [↓RU,RV,RH,↓reduceIte,reduceEqDiff,reduceCtorEq,if_pos,List.append_nil,↓RS,RG,reduceAdd,reduceMul,reduceLeDiff]
  refine CallR.ev (pick_ev hc (by omega) (l1Rooms p2) (by omega) (by omega)) ?_
  rintro _ _ ⟨k1,rfl,-,-,rfl⟩
  simp (disch := omega) only [↓RU,RV,RH,↓reduceIte,reduceEqDiff,reduceCtorEq,if_pos,List.append_nil,↓RS,RG,reduceAdd,reduceMul,reduceLeDiff]
  refine hK _ _ ?_;clear hK K
  refine W.r fun K hK => ?_
  simp (disch := omega) only [↓RU,RV,RH,↓reduceIte,reduceEqDiff,reduceCtorEq,if_pos,List.append_nil,w64,↓RS,RG,reduceAdd,reduceMul,reduceLeDiff,ty5,tyint,tystring]
  refine CallR.ev (of_ev (R := []) (l := [[104],[118]]) hc (by omega) (by simp) (by simp)) ?_
  rintro _ _ ⟨s,hsm,rfl,rfl⟩
  have hsl := hv_len hsm
  simp (disch := omega) only [↓RU,RV,RH,↓reduceIte,reduceEqDiff,reduceCtorEq,if_pos,List.append_nil,w64,↓RS,RG,reduceAdd,reduceMul,reduceLeDiff,ty5,tyint,tystring]
  refine CallR.ev (pick_ev (q := q2 + 1 + 1) hc (by omega) 3 (by omega) (by omega)) ?_
  rintro _ _ ⟨k2,rfl,-,hk2,rfl⟩
  have hk3 := hk2 (by omega)
  simp (disch := omega) only [↓RU,RV,RH,↓reduceIte,reduceEqDiff,reduceCtorEq,if_pos,List.append_nil,w64,↓RS,RG,reduceAdd,reduceMul,reduceLeDiff,ty5,tyint,tystring]
  refine CallR.pc (planSplit_pc hs2 k1 hsl (1 + k2)) rfl (.inr rfl) ?_
  simp (disch := omega) only [↓RU,RV,RH,↓reduceIte,reduceEqDiff,reduceCtorEq,if_pos,List.append_nil,w64,↓RS,RG,reduceAdd,reduceMul,reduceLeDiff,ty5,tyint,tystring]
  refine hK _ _ ?_;clear hK K
  refine W.r fun K hK => ?_
  simp (disch := omega) only [↓RU,RV,RH,↓reduceIte,reduceEqDiff,reduceCtorEq,if_pos,↓RS,RG,reduceAdd,reduceMul,reduceLeDiff]
  refine hK _ _ ?_;clear hK K
  refine W.cond rfl (fun h1 => ?_) (fun h1 => ?_)
  ·try simp only [RL] at h1
   obtain ⟨ho1,ho2⟩ := splitP_ok h1
   refine W.k fun K hK => ?_
   simp (disch := omega) only [↓RU,RV,RH,↓reduceIte,reduceEqDiff,reduceCtorEq,if_pos,↓RS,RG,reduceAdd,reduceMul,reduceLeDiff]
   refine hK _ _ ?_;clear hK K
   refine XbN ?_
   refine xn ?_
   refine W.k fun K hK => ?_
   simp (disch := omega) only [↓RU,RV,RH,↓reduceIte,reduceEqDiff,reduceCtorEq,if_pos,w64,↓RS,RG,reduceAdd,reduceMul,reduceLeDiff,tyint]
   refine hK _ _ ?_;clear hK K
   refine xn ?_
   refine ⟨many - (i + 1),by omega,1,[.ref 0 vr 0,eStrs (splitP p2 k1 s (1 + k2)).1,.int .i64 many,.int .i64 ((i + 1 : Nat) : Int)],⟨[.arr vr 147 2 [eBy code,.int .i64 ((q2 + 1 + 1 + 1 : Nat) : Int)]],tk + 1⟩,?_,?_,i + 1,(splitP p2 k1 s (1 + k2)).1,q2 + 1 + 1 + 1,tk + 1,rfl,by omega,ho1,ho2.trans hl2,by omega,rfl,rfl⟩
   ·simp [-List.mapM_map,Store.frz,frzObs,frzOb,frz_eInts,frz_loc,rfz_loc,frz_int,frz_sl,frz_ints,rfz_ints,frz_strs,frz_bytes,rfz_bytes,rfz_str,rfz_bool,frz_str,frz_bool,Env.put,Env.of,argEnv,rfz_int,List.mapM_append,List.mapM_cons,frz_ref0,tk_strs,rfz_tstr]
   ·simp [-List.mapM_map,Store.frz,frzObs,frzOb,frz_eInts,frz_loc,rfz_loc,frz_int,frz_sl,frz_ints,rfz_ints,frz_strs,frz_bytes,rfz_bytes,rfz_str,rfz_bool,frz_str,frz_bool,Env.put,Env.of,argEnv,rfz_int,List.mapM_append,List.mapM_cons,frz_ref0,tk_strs,rfz_tstr]
  ·try simp only [RL] at h1
   refine W.skip ?_
   refine XbN ?_
   refine xn ?_
   refine W.k fun K hK => ?_
   simp (disch := omega) only [↓RU,RV,RH,↓reduceIte,reduceEqDiff,reduceCtorEq,if_pos,w64,↓RS,RG,reduceAdd,reduceMul,reduceLeDiff,tyint]
   refine hK _ _ ?_;clear hK K
   refine xn ?_
   refine ⟨many - (i + 1),by omega,1,[.ref 0 vr 0,eStrs p2,.int .i64 many,.int .i64 ((i + 1 : Nat) : Int)],⟨[.arr vr 147 2 [eBy code,.int .i64 ((q2 + 1 + 1 + 1 : Nat) : Int)]],tk + 1⟩,?_,?_,i + 1,p2,q2 + 1 + 1 + 1,tk + 1,rfl,by omega,hp2,hl2,by omega,rfl,rfl⟩
   ·simp [-List.mapM_map,Store.frz,frzObs,frzOb,frz_eInts,frz_loc,rfz_loc,frz_int,frz_sl,frz_ints,rfz_ints,frz_strs,frz_bytes,rfz_bytes,rfz_str,rfz_bool,frz_str,frz_bool,Env.put,Env.of,argEnv,rfz_int,List.mapM_append,List.mapM_cons,frz_ref0,tk_strs,rfz_tstr]
   ·simp [-List.mapM_map,Store.frz,frzObs,frzOb,frz_eInts,frz_loc,rfz_loc,frz_int,frz_sl,frz_ints,rfz_ints,frz_strs,frz_bytes,rfz_bytes,rfz_str,rfz_bool,frz_str,frz_bool,Env.put,Env.of,argEnv,rfz_int,List.mapM_append,List.mapM_cons,frz_ref0,tk_strs,rfz_tstr]
 ·try simp only [RL] at h
  obtain rfl : i = many := by omega
  refine W.exit ?_
  refine xe ?_
  refine xe ?_
  refine XBlock.hit ?_
  refine xn ?_
  refine W.r fun K hK => ?_
  simp (disch := omega) only [↓RU,RV,RH,↓reduceIte,reduceEqDiff,reduceCtorEq,if_pos,↓RS,RG,reduceAdd,reduceMul,reduceLeDiff]
  refine hK _ _ ?_;clear hK K
  refine W.ret ?_
  refine Br rfl ?_
  exact ⟨_,p2,q2,tk,rfl,hp2,hl2,by omega,take_all⟩
theorem empty_plan {nh nw : Nat} (h1 : 1 ≤ nh) (h2 : nh ≤ 6) (w1 : 1 ≤ nw) (w2 : nw ≤ 6) : planB (List.replicate nh (List.replicate nw (97 : UInt8))) = true := by
 rcases (show nh = 1 ∨ nh = 2 ∨ nh = 3 ∨ nh = 4 ∨ nh = 5 ∨ nh = 6 by omega) with rfl | rfl | rfl | rfl | rfl | rfl <;>
 rcases (show nw = 1 ∨ nw = 2 ∨ nw = 3 ∨ nw = 4 ∨ nw = 5 ∨ nw = 6 by omega) with rfl | rfl | rfl | rfl | rfl | rfl <;> decide +kernel
def wheel3 : List Txt := [[97,97,98],[99,100,98],[99,101,101]]
def wheel4 : List Txt := [[97,97,97,98],[99,100,100,98],[99,100,100,98],[99,101,101,101]]
theorem wheel3_plan : planB wheel3 = true := by decide +kernel
theorem wheel4_plan : planB wheel4 = true := by decide +kernel
theorem l91Plan_ev {code : Txt} {q vr t : Nat} (hc : code.length ≤ 1048576) (hq : q ≤ 800000) {nh nw : Nat} (h1 : 1 ≤ nh) (h2 : nh ≤ 6) (w1 : 1 ≤ nw) (w2 : nw ≤ 6) : Ev Tryz.prog 175 [.ref 0 vr 0,.int .i64 nh,.int .i64 nw] ⟨[.arr vr 147 2 [eBy code,.int .i64 (q : Int)]],t⟩ fun v S => ∃ (p2 : List Txt) (q2 t2 : Nat),v = eStrs p2 ∧ planB p2 = true ∧ p2.length = nh ∧ q2 ≤ q + 100 ∧ S = ⟨[.arr vr 147 2 [eBy code,.int .i64 (q2 : Int)]],t2⟩ := by
 refine Ev.of ⟨Tryz.func175,by kernel_rfl,rfl,by kernel_rfl⟩ tabOk mixed (by show 3 ≤ Tryz.f175.ntmps; decide) ?_
 refine W.r fun K hK => ?_
 simp (disch := omega) only [↓RU,RV,RH,↓reduceIte,reduceEqDiff,reduceCtorEq,if_pos,↓RS,RG,reduceAdd,reduceMul,reduceLeDiff]
 refine hK _ _ ?_;clear hK K
 refine W.seq ?_
 refine W.join [0,1,2,17] (fun vs S => ∃ (q2 : Nat) (b : Bool),q2 ≤ q + 1 ∧ (b = true → nh = 3) ∧ vs = [.ref 0 vr 0,.int .i64 nh,.int .i64 nw,.bool b] ∧ S = ⟨[.arr vr 147 2 [eBy code,.int .i64 (q2 : Int)]],t⟩) ?_ ?_
 ·
  refine W.k fun K hK => ?_
  rcases hd : (((nh : Int) == 3),((nw : Int) == 3)) with ⟨_ | _,_ | _⟩
  ·skip
   simp only [Prod.mk.injEq] at hd
   obtain ⟨hd1,hd2⟩ := hd
   simp (disch := omega) only [↓RU,RV,RH,↓reduceIte,reduceEqDiff,reduceCtorEq,if_pos,w64,List.append_nil,↓RS,RG,reduceAdd,reduceMul,reduceLeDiff,tyint,hd1,hd2]
   refine hK _ _ ?_;clear hK K
   refine xn ?_
   refine ⟨_,q,false,by omega,fun h9 => (by cases h9),?_,take_all⟩
   simp [Env.put,Env.of,argEnv]
  ·skip
   simp only [Prod.mk.injEq] at hd
   obtain ⟨hd1,hd2⟩ := hd
   simp (disch := omega) only [↓RU,RV,RH,↓reduceIte,reduceEqDiff,reduceCtorEq,if_pos,w64,List.append_nil,↓RS,RG,reduceAdd,reduceMul,reduceLeDiff,tyint,hd1,hd2]
   refine hK _ _ ?_;clear hK K
   refine xn ?_
   refine ⟨_,q,false,by omega,fun h9 => (by cases h9),?_,take_all⟩
   simp [Env.put,Env.of,argEnv]
  ·skip
   simp only [Prod.mk.injEq] at hd
   obtain ⟨hd1,hd2⟩ := hd
   simp (disch := omega) only [↓RU,RV,RH,↓reduceIte,reduceEqDiff,reduceCtorEq,if_pos,w64,List.append_nil,↓RS,RG,reduceAdd,reduceMul,reduceLeDiff,tyint,hd1,hd2]
   refine hK _ _ ?_;clear hK K
   refine xn ?_
   refine ⟨_,q,false,by omega,fun h9 => (by cases h9),?_,take_all⟩
   simp [Env.put,Env.of,argEnv]
  ·skip
   simp only [Prod.mk.injEq] at hd
   obtain ⟨hd1,hd2⟩ := hd
   simp (disch := omega) only [↓RU,RV,RH,↓reduceIte,reduceEqDiff,reduceCtorEq,if_pos,w64,List.append_nil,↓RS,RG,reduceAdd,reduceMul,reduceLeDiff,tyint,hd1,hd2]
   refine CallR.ev (pick_ev (q := q) hc (by omega) 2 (by omega) (by omega)) ?_
   rintro _ _ ⟨k1,rfl,-,hk1,rfl⟩
   have hk1b := hk1 (by omega)
   simp (disch := omega) only [↓RU,RV,RH,↓reduceIte,reduceEqDiff,reduceCtorEq,if_pos,w64,List.append_nil,↓RS,RG,reduceAdd,reduceMul,reduceLeDiff,tyint,hd1,hd2]
   refine hK _ _ ?_;clear hK K
   refine xn ?_
   refine ⟨_,q + 1,((k1 : Int) == 0),by omega,fun _ => (by have := beq_iff_eq.1 hd1; omega),?_,take_all⟩
   simp [Env.put,Env.of,argEnv]
 rintro vs S - ⟨qa,b3,hqa,hb3,rfl,rfl⟩
 refine W.cond rfl (fun h3 => ?_) (fun h3 => ?_)
 ·try simp only [RL] at h3
  refine W.r fun K hK => ?_
  simp (disch := omega) only [↓RU,RV,RH,↓reduceIte,reduceEqDiff,reduceCtorEq,if_pos,List.append_nil,↓RS,RG,reduceAdd,reduceMul,reduceLeDiff,ty5,tystring]
  refine CallR.ev (pick_ev (q := qa) hc (by omega) 2 (by omega) (by omega)) ?_
  rintro _ _ ⟨k1,rfl,-,hk1,rfl⟩
  have hk1b := hk1 (by omega)
  simp (disch := omega) only [↓RU,RV,RH,↓reduceIte,reduceEqDiff,reduceCtorEq,if_pos,List.append_nil,↓RS,RG,reduceAdd,reduceMul,reduceLeDiff,ty5,tystring]
  refine CallR.ev (l91Cut_loc (q := qa + 1) (R := []) hc (by omega) wheel3_plan (many := k1) (by omega)) ?_
  rintro _ _ ⟨p2,q2,t2,rfl,hp2,hl2,hq2,rfl⟩
  simp (disch := omega) only [↓RU,RV,RH,↓reduceIte,reduceEqDiff,reduceCtorEq,if_pos,List.append_nil,↓RS,RG,reduceAdd,reduceMul,reduceLeDiff,ty5,tystring]
  refine hK _ _ ?_;clear hK K
  refine W.ret ?_
  refine XThen.ret ?_
  refine Br rfl ?_
  exact ⟨_,p2,q2,t2,rfl,hp2,hl2.trans (hb3 h3).symm,by omega,take_all⟩
 ·try simp only [RL] at h3
  refine W.skip ?_
  refine xn ?_
  refine W.seq ?_
  refine W.join [0,1,2,33] (fun vs S => ∃ (q2 : Nat) (b : Bool),q2 ≤ q + 2 ∧ (b = true → nh = 4) ∧ vs = [.ref 0 vr 0,.int .i64 nh,.int .i64 nw,.bool b] ∧ S = ⟨[.arr vr 147 2 [eBy code,.int .i64 (q2 : Int)]],t⟩) ?_ ?_
  ·
   refine W.k fun K hK => ?_
   rcases hd : (((nh : Int) == 4),((nw : Int) == 4)) with ⟨_ | _,_ | _⟩
   ·skip
    simp only [Prod.mk.injEq] at hd
    obtain ⟨hd1,hd2⟩ := hd
    simp (disch := omega) only [↓RU,RV,RH,↓reduceIte,reduceEqDiff,reduceCtorEq,if_pos,w64,List.append_nil,↓RS,RG,reduceAdd,reduceMul,reduceLeDiff,tyint,hd1,hd2]
    refine hK _ _ ?_;clear hK K
    refine xn ?_
    refine ⟨_,qa,false,by omega,fun h9 => (by cases h9),?_,take_all⟩
    simp [Env.put,Env.of,argEnv]
   ·skip
    simp only [Prod.mk.injEq] at hd
    obtain ⟨hd1,hd2⟩ := hd
    simp (disch := omega) only [↓RU,RV,RH,↓reduceIte,reduceEqDiff,reduceCtorEq,if_pos,w64,List.append_nil,↓RS,RG,reduceAdd,reduceMul,reduceLeDiff,tyint,hd1,hd2]
    refine hK _ _ ?_;clear hK K
    refine xn ?_
    refine ⟨_,qa,false,by omega,fun h9 => (by cases h9),?_,take_all⟩
    simp [Env.put,Env.of,argEnv]
   ·skip
    simp only [Prod.mk.injEq] at hd
    obtain ⟨hd1,hd2⟩ := hd
    simp (disch := omega) only [↓RU,RV,RH,↓reduceIte,reduceEqDiff,reduceCtorEq,if_pos,w64,List.append_nil,↓RS,RG,reduceAdd,reduceMul,reduceLeDiff,tyint,hd1,hd2]
    refine hK _ _ ?_;clear hK K
    refine xn ?_
    refine ⟨_,qa,false,by omega,fun h9 => (by cases h9),?_,take_all⟩
    simp [Env.put,Env.of,argEnv]
   ·skip
    simp only [Prod.mk.injEq] at hd
    obtain ⟨hd1,hd2⟩ := hd
    simp (disch := omega) only [↓RU,RV,RH,↓reduceIte,reduceEqDiff,reduceCtorEq,if_pos,w64,List.append_nil,↓RS,RG,reduceAdd,reduceMul,reduceLeDiff,tyint,hd1,hd2]
    refine CallR.ev (pick_ev (q := qa) hc (by omega) 2 (by omega) (by omega)) ?_
    rintro _ _ ⟨k1,rfl,-,hk1,rfl⟩
    have hk1b := hk1 (by omega)
    simp (disch := omega) only [↓RU,RV,RH,↓reduceIte,reduceEqDiff,reduceCtorEq,if_pos,w64,List.append_nil,↓RS,RG,reduceAdd,reduceMul,reduceLeDiff,tyint,hd1,hd2]
    refine hK _ _ ?_;clear hK K
    refine xn ?_
    refine ⟨_,qa + 1,((k1 : Int) == 0),by omega,fun _ => (by have := beq_iff_eq.1 hd1; omega),?_,take_all⟩
    simp [Env.put,Env.of,argEnv]
  rintro vs S - ⟨qb,b4,hqb,hb4,rfl,rfl⟩
  refine W.cond rfl (fun h4 => ?_) (fun h4 => ?_)
  ·try simp only [RL] at h4
   refine W.r fun K hK => ?_
   simp (disch := omega) only [↓RU,RV,RH,↓reduceIte,reduceEqDiff,reduceCtorEq,if_pos,List.append_nil,↓RS,RG,reduceAdd,reduceMul,reduceLeDiff,ty5,tystring]
   refine CallR.ev (pick_ev (q := qb) hc (by omega) 4 (by omega) (by omega)) ?_
   rintro _ _ ⟨k2,rfl,-,hk2,rfl⟩
   have hk2b := hk2 (by omega)
   simp (disch := omega) only [↓RU,RV,RH,↓reduceIte,reduceEqDiff,reduceCtorEq,if_pos,List.append_nil,↓RS,RG,reduceAdd,reduceMul,reduceLeDiff,ty5,tystring]
   refine CallR.ev (l91Cut_loc (q := qb + 1) (R := []) hc (by omega) wheel4_plan (many := k2) (by omega)) ?_
   rintro _ _ ⟨p2,q2,t2,rfl,hp2,hl2,hq2,rfl⟩
   simp (disch := omega) only [↓RU,RV,RH,↓reduceIte,reduceEqDiff,reduceCtorEq,if_pos,List.append_nil,↓RS,RG,reduceAdd,reduceMul,reduceLeDiff,ty5,tystring]
   refine hK _ _ ?_;clear hK K
   refine W.ret ?_
   refine XThen.ret ?_
   refine Br rfl ?_
   exact ⟨_,p2,q2,t2,rfl,hp2,hl2.trans (hb4 h4).symm,by omega,take_all⟩
  ·try simp only [RL] at h4
   refine W.skip ?_
   refine xn ?_
   refine W.r fun K hK => ?_
   simp (disch := omega) only [↓RU,RV,RH,↓reduceIte,reduceEqDiff,reduceCtorEq,if_pos,List.append_nil,↓RS,RG,reduceAdd,reduceMul,reduceLeDiff]
   refine CallR.pc (l91Empty_pc (nh := nh) (nw := nw) (by omega) (by omega)) rfl (.inl rfl) ?_
   simp (disch := omega) only [↓RU,RV,RH,↓reduceIte,reduceEqDiff,reduceCtorEq,if_pos,List.append_nil,↓RS,RG,reduceAdd,reduceMul,reduceLeDiff]
   refine CallR.ev (pick_ev (q := qb) hc (by omega) 9 (by omega) (by omega)) ?_
   rintro _ _ ⟨k3,rfl,-,hk3,rfl⟩
   have hk3b := hk3 (by omega)
   simp (disch := omega) only [↓RU,RV,RH,↓reduceIte,reduceEqDiff,reduceCtorEq,if_pos,List.append_nil,↓RS,RG,reduceAdd,reduceMul,reduceLeDiff]
   refine CallR.ev (l91Cut_ev (q := qb + 1) (R := []) hc (by omega) (empty_plan h1 h2 w1 w2) (many := k3) (by omega)) ?_
   rintro _ _ ⟨p2,q2,t2,rfl,hp2,hl2,hq2,rfl⟩
   simp (disch := omega) only [↓RU,RV,RH,↓reduceIte,reduceEqDiff,reduceCtorEq,if_pos,List.append_nil,↓RS,RG,reduceAdd,reduceMul,reduceLeDiff]
   refine hK _ _ ?_;clear hK K
   refine W.ret ?_
   refine Br rfl ?_
   exact ⟨_,p2,q2,t2,rfl,hp2,by simpa using hl2,by omega,take_all⟩
theorem sm_set {p : List Txt} (h : Sm p) {i : Nat} {r : Txt} (hr : r.length ≤ 1048576) : Sm (p.set i r) := by
 refine ⟨by rw [List.length_set]; exact h.1,fun x hx => ?_⟩
 rcases List.mem_or_eq_of_mem_set hx with k | rfl
 ·exact h.2 x k
 ·exact hr
theorem set_hd {p : List Txt} {x : Txt} (h : 0 < p.length) : PV.str x :: List.drop 1 (p.map PV.str) = (p.set 0 x).map .str := by cases p with | nil => simp at h | cons a p => simp
theorem one_add {k : Nat} : (1 : Int) + (k : Int) = ((1 + k : Nat) : Int) := by omega
theorem l91Some_ev {code : Txt} {q vr t : Nat} (hc : code.length ≤ 1048576) (hq : q ≤ 700000) {rows cols : Nat} (h1 : 1 ≤ rows) (h2 : rows ≤ 6) (w1 : 1 ≤ cols) (w2 : cols ≤ 6) : Ev Tryz.prog 146 [.ref 0 vr 0,.int .i64 rows,.int .i64 cols] ⟨[.arr vr 147 2 [eBy code,.int .i64 (q : Int)]],t⟩ fun v S => ∃ (p2 : List Txt) (q2 t2 : Nat),v = eStrs p2 ∧ Sm p2 ∧ p2.length ≤ 6 ∧ q2 ≤ q + 200 ∧ S = ⟨[.arr vr 147 2 [eBy code,.int .i64 (q2 : Int)]],t2⟩ := by
 refine Ev.of ⟨Tryz.func146,by kernel_rfl,rfl,by kernel_rfl⟩ tabOk mixed (by show 3 ≤ Tryz.f146.ntmps; decide) ?_
 refine W.r fun K hK => ?_
 simp (disch := omega) only [↓RU,RV,RH,↓reduceIte,reduceEqDiff,reduceCtorEq,if_pos,↓RS,RG,reduceAdd,reduceMul,reduceLeDiff]
 refine hK _ _ ?_;clear hK K
 refine W.r fun K hK => ?_
 simp (disch := omega) only [↓RU,RV,RH,↓reduceIte,reduceEqDiff,reduceCtorEq,if_pos,List.append_nil,w64,↓RS,RG,reduceAdd,reduceMul,reduceLeDiff,tyint]
 refine CallR.ev (pick_ev hc (by omega) (rows : Int) (by omega) (by omega)) ?_
 rintro _ _ ⟨k1,rfl,-,hk1,rfl⟩
 have hk1b := hk1 (by omega)
 simp (disch := omega) only [↓RU,RV,RH,↓reduceIte,reduceEqDiff,reduceCtorEq,if_pos,List.append_nil,w64,↓RS,RG,reduceAdd,reduceMul,reduceLeDiff,tyint,one_add]
 refine hK _ _ ?_;clear hK K
 refine W.r fun K hK => ?_
 simp (disch := omega) only [↓RU,RV,RH,↓reduceIte,reduceEqDiff,reduceCtorEq,if_pos,List.append_nil,w64,↓RS,RG,reduceAdd,reduceMul,reduceLeDiff,tyint]
 refine CallR.ev (pick_ev hc (by omega) (cols : Int) (by omega) (by omega)) ?_
 rintro _ _ ⟨k2,rfl,-,hk2,rfl⟩
 have hk2b := hk2 (by omega)
 simp (disch := omega) only [↓RU,RV,RH,↓reduceIte,reduceEqDiff,reduceCtorEq,if_pos,List.append_nil,w64,↓RS,RG,reduceAdd,reduceMul,reduceLeDiff,tyint,one_add]
 refine CallR.ev (l91Plan_ev (q := q + 1 + 1) hc (by omega) (nh := 1 + k1) (nw := 1 + k2) (by omega) (by omega) (by omega) (by omega)) ?_
 rintro _ _ ⟨p2,q2,t2,rfl,hp2,hl2,hq2,rfl⟩
 simp (disch := omega) only [↓RU,RV,RH,↓reduceIte,reduceEqDiff,reduceCtorEq,if_pos,List.append_nil,w64,↓RS,RG,reduceAdd,reduceMul,reduceLeDiff,tyint]
 refine hK _ _ ?_;clear hK K
 obtain ⟨ps1,ps2,ps3⟩ := plan_small hp2
 have hsm := plan_sm hp2
 obtain ⟨nh,hnh⟩ : ∃ nh : Nat,1 + k1 = nh := ⟨_,rfl⟩
 simp only [hnh] at hl2 ⊢
 refine W.joinZ [8] (fun vs S => ∃ (p3 : List Txt) (q3 tk : Nat),Sm p3 ∧ p3.length ≤ 6 ∧ q3 ≤ q + 200 ∧ vs = [eStrs p3] ∧ S = ⟨[.arr vr 147 2 [eBy code,.int .i64 (q3 : Int)]],tk⟩) ?_ ?_
 ·
  refine W.r fun K hK => ?_
  simp (disch := omega) only [↓RU,RV,RH,↓reduceIte,reduceEqDiff,reduceCtorEq,if_pos,List.append_nil,↓RS,RG,reduceAdd,reduceMul,reduceLeDiff]
  refine CallR.ev (pick_ev hc (by omega) 50 (by omega) (by omega)) ?_
  rintro _ _ ⟨k3,rfl,-,hk3,rfl⟩
  simp (disch := omega) only [↓RU,RV,RH,↓reduceIte,reduceEqDiff,reduceCtorEq,if_pos,List.append_nil,↓RS,RG,reduceAdd,reduceMul,reduceLeDiff]
  refine hK _ _ ?_;clear hK K
  refine W.block ?_
  refine W.r fun K hK => ?_
  simp (disch := omega) only [↓RU,RV,RH,↓reduceIte,reduceEqDiff,reduceCtorEq,if_pos,w64,↓RS,RG,reduceAdd,reduceMul,reduceLeDiff,tyint]
  refine hK _ _ ?_;clear hK K
  refine W.cond rfl (fun h0 => ?_) (fun h0 => ?_)
  ·try simp only [RL] at h0
   obtain ⟨row,hrow,hrm⟩ := get_of (show nh - 1 < p2.length by omega)
   have hr6 := (ps3 row hrm).2
   refine W.r fun K hK => ?_
   simp (disch := omega) only [↓RU,RV,RH,↓reduceIte,reduceEqDiff,reduceCtorEq,if_pos,↓RS,RG,reduceAdd,reduceMul,reduceLeDiff,ty5,tystring]
   refine hK _ _ ?_;clear hK K
   refine W.k fun K hK => ?_
   simp (disch := omega) only [↓RU,RV,RH,↓reduceIte,reduceEqDiff,reduceCtorEq,if_pos,w64,↓RS,RG,reduceAdd,reduceMul,reduceLeDiff,ty5,tyint,tystring,toNat_pred,hrow,pStr,set_spl,set_str,cells_str,List.length_cons,List.length_nil]
   refine hK _ _ ?_;clear hK K
   refine XbN ?_
   refine xn ?_
   have hPs : Sm (p2.set (nh - 1) (row ++ [97])) := sm_set hsm (by simp; omega)
   have hPl : (p2.set (nh - 1) (row ++ [97])).length = p2.length := by simp
   generalize p2.set (nh - 1) (row ++ [97]) = P at hPs hPl ⊢
   have htk : (P.map PV.str).take p2.length = P.map .str := List.take_of_length_le (by simp [hPl])
   refine ⟨1,[eStrs P],⟨[.arr vr 147 2 [eBy code,.int .i64 ((q2 + 1 : Nat) : Int)]],t2 + 1 + 1⟩,?_,?_,P,q2 + 1,t2 + 1 + 1,hPs,by omega,by omega,rfl,rfl⟩
   ·simp [-List.mapM_map,Store.frz,frzObs,frzOb,frz_eInts,frz_loc,rfz_loc,frz_int,frz_sl,frz_ints,rfz_ints,frz_strs,frz_bytes,rfz_bytes,rfz_str,rfz_bool,frz_str,frz_bool,Env.put,Env.of,argEnv,rfz_int,List.mapM_append,List.mapM_cons,frz_ref0,tk_strs,rfz_tstr,htk,hPl]
   ·simp [-List.mapM_map,Store.frz,frzObs,frzOb,frz_eInts,frz_loc,rfz_loc,frz_int,frz_sl,frz_ints,rfz_ints,frz_strs,frz_bytes,rfz_bytes,rfz_str,rfz_bool,frz_str,frz_bool,Env.put,Env.of,argEnv,rfz_int,List.mapM_append,List.mapM_cons,frz_ref0,tk_strs,rfz_tstr]
  ·try simp only [RL] at h0
   refine W.r fun K hK => ?_
   simp (disch := omega) only [↓RU,RV,RH,↓reduceIte,reduceEqDiff,reduceCtorEq,if_pos,w64,↓RS,RG,reduceAdd,reduceMul,reduceLeDiff,tyint]
   refine hK _ _ ?_;clear hK K
   refine W.cond rfl (fun h1 => ?_) (fun h1 => ?_)
   ·try simp only [RL] at h1
    obtain ⟨row,hrow,hrm⟩ := get_of (show 0 < p2.length by omega)
    have hr6 := ps3 row hrm
    have hdl : (row.drop 1).length ≤ 6 := by rw [List.length_drop]; omega
    refine W.r fun K hK => ?_
    simp (disch := omega) only [↓RU,RV,RH,↓reduceIte,reduceEqDiff,reduceCtorEq,if_pos,↓RS,RG,reduceAdd,reduceMul,reduceLeDiff,ty5,tystring]
    refine hK _ _ ?_;clear hK K
    refine W.k fun K hK => ?_
    simp (disch := omega) only [↓RU,RV,RH,↓reduceIte,reduceEqDiff,reduceCtorEq,if_pos,Option.map_none,w64,↓RS,RG,reduceAdd,reduceMul,reduceLeDiff,ty5,tystring,hrow,pStr,set_spl,set_str,cells_str,List.length_cons,List.length_nil,Int.toNat_zero,Int.reduceToNat,List.take_length,Nat.zero_mul,Nat.zero_add]
    refine hK _ _ ?_;clear hK K
    rw [set_hd (show 0 < p2.length by omega)]
    refine XbN ?_
    refine xn ?_
    have hPs : Sm (p2.set 0 (122 :: row.drop 1)) := sm_set hsm (by simp; omega)
    have hPl : (p2.set 0 (122 :: row.drop 1)).length = p2.length := by simp
    generalize p2.set 0 (122 :: row.drop 1) = P at hPs hPl ⊢
    have htk : (P.map PV.str).take p2.length = P.map .str := List.take_of_length_le (by simp [hPl])
    refine ⟨1,[eStrs P],⟨[.arr vr 147 2 [eBy code,.int .i64 ((q2 + 1 : Nat) : Int)]],t2 + 1 + 1⟩,?_,?_,P,q2 + 1,t2 + 1 + 1,hPs,by omega,by omega,rfl,rfl⟩
    ·simp [-List.mapM_map,Store.frz,frzObs,frzOb,frz_eInts,frz_loc,rfz_loc,frz_int,frz_sl,frz_ints,rfz_ints,frz_strs,frz_bytes,rfz_bytes,rfz_str,rfz_bool,frz_str,frz_bool,Env.put,Env.of,argEnv,rfz_int,List.mapM_append,List.mapM_cons,frz_ref0,tk_strs,rfz_tstr,htk,hPl]
    ·simp [-List.mapM_map,Store.frz,frzObs,frzOb,frz_eInts,frz_loc,rfz_loc,frz_int,frz_sl,frz_ints,rfz_ints,frz_strs,frz_bytes,rfz_bytes,rfz_str,rfz_bool,frz_str,frz_bool,Env.put,Env.of,argEnv,rfz_int,List.mapM_append,List.mapM_cons,frz_ref0,tk_strs,rfz_tstr]
   ·try simp only [RL] at h1
    refine W.skip ?_
    refine XbN ?_
    refine xn ?_
    have hPs := hsm
    have hPl : p2.length = p2.length := rfl
    have htk : True := trivial
    refine ⟨1,[eStrs p2],⟨[.arr vr 147 2 [eBy code,.int .i64 ((q2 + 1 : Nat) : Int)]],t2⟩,?_,?_,p2,q2 + 1,t2,hPs,by omega,by omega,rfl,rfl⟩
    ·simp [-List.mapM_map,Store.frz,frzObs,frzOb,frz_eInts,frz_loc,rfz_loc,frz_int,frz_sl,frz_ints,rfz_ints,frz_strs,frz_bytes,rfz_bytes,rfz_str,rfz_bool,frz_str,frz_bool,Env.put,Env.of,argEnv,rfz_int,List.mapM_append,List.mapM_cons,frz_ref0,tk_strs,rfz_tstr,htk,hPl]
    ·simp [-List.mapM_map,Store.frz,frzObs,frzOb,frz_eInts,frz_loc,rfz_loc,frz_int,frz_sl,frz_ints,rfz_ints,frz_strs,frz_bytes,rfz_bytes,rfz_str,rfz_bool,frz_str,frz_bool,Env.put,Env.of,argEnv,rfz_int,List.mapM_append,List.mapM_cons,frz_ref0,tk_strs,rfz_tstr]
 rintro vs S - ⟨p3,q3,tk,hs3,hl3,hq3,rfl,rfl⟩
 refine W.r fun K hK => ?_
 simp (disch := omega) only [↓RU,RV,RH,↓reduceIte,reduceEqDiff,reduceCtorEq,if_pos,↓RS,RG,reduceAdd,reduceMul,reduceLeDiff]
 refine hK _ _ ?_;clear hK K
 refine W.ret ?_
 refine Br rfl ?_
 exact ⟨_,p3,q3,tk,rfl,hs3,hl3,hq3,take_all⟩
theorem l91Plain_ev {code : Txt} {q vr t : Nat} (hc : code.length ≤ 1048576) (hq : q ≤ 600000) {rows cols : Nat} (h1 : 1 ≤ rows) (h2 : rows ≤ 6) (w1 : 1 ≤ cols) (w2 : cols ≤ 6) : Ev Tryz.prog 96 [.ref 0 vr 0,.int .i64 rows,.int .i64 cols] ⟨[.arr vr 147 2 [eBy code,.int .i64 (q : Int)]],t⟩ fun v S => ∃ (p2 : List Txt) (q2 t2 : Nat),v = eStrs p2 ∧ Sm p2 ∧ p2.length ≤ 6 ∧ q2 ≤ q + 1000 ∧ S = ⟨[.arr vr 147 2 [eBy code,.int .i64 (q2 : Int)]],t2⟩ := by
 refine Ev.of ⟨Tryz.func96,by kernel_rfl,rfl,by kernel_rfl⟩ tabOk mixed (by show 3 ≤ Tryz.f96.ntmps; decide) ?_
 refine W.r fun K hK => ?_
 simp (disch := omega) only [↓RU,RV,RH,↓reduceIte,reduceEqDiff,reduceCtorEq,if_pos,↓RS,RG,reduceAdd,reduceMul,reduceLeDiff]
 refine hK _ _ ?_;clear hK K
 refine W.r fun K hK => ?_
 simp (disch := omega) only [↓RU,RV,RH,↓reduceIte,reduceEqDiff,reduceCtorEq,if_pos,List.append_nil,↓RS,RG,reduceAdd,reduceMul,reduceLeDiff]
 refine CallR.ev (l91Some_ev (q := q) hc (by omega) h1 h2 w1 w2) ?_
 rintro _ _ ⟨p3,q3,t3,rfl,hs3,hl3,hq3,rfl⟩
 simp (disch := omega) only [↓RU,RV,RH,↓reduceIte,reduceEqDiff,reduceCtorEq,if_pos,List.append_nil,↓RS,RG,reduceAdd,reduceMul,reduceLeDiff]
 refine hK _ _ ?_;clear hK K
 refine W.seq ?_
 refine W.r fun K hK => ?_
 simp (disch := omega) only [↓RU,RV,RH,↓reduceIte,reduceEqDiff,reduceCtorEq,if_pos,↓RS,RG,reduceAdd,reduceMul,reduceLeDiff]
 refine hK _ _ ?_;clear hK K
 refine W.block ?_
 refine W.loop [0,1,2,7,8] (fun n vs S => ∃ (i : Nat) (p2 : List Txt) (q2 tk : Nat),n = 3 - i ∧ i ≤ 3 ∧ Sm p2 ∧ p2.length ≤ 6 ∧ q2 ≤ q + 200 + 200 * i ∧ vs = [.ref 0 vr 0,.int .i64 rows,.int .i64 cols,eStrs p2,.int .i64 i] ∧ S = ⟨[.arr vr 147 2 [eBy code,.int .i64 (q2 : Int)]],tk⟩) 3 ?_ ?_
 ·refine ⟨1,0,p3,q3,t3,rfl,by omega,hs3,hl3,by omega,?_,rfl⟩
  simp [Env.put,Env.of,argEnv]
 rintro n vs S - ⟨i,p2,q2,tk,rfl,h_i,hs2,hl2,hq2,rfl,rfl⟩
 refine W.seq ?_
 refine W.r fun K hK => ?_
 by_cases hi3 : i < 3
 ·skip
  have hd : decide ((i : Int) < 3) = true := decide_eq_true (by omega)
  simp (disch := omega) only [↓RU,RV,RH,↓reduceIte,reduceEqDiff,reduceCtorEq,if_pos,w64,List.append_nil,↓RS,RG,reduceAdd,reduceMul,reduceLeDiff,tyint,hd]
  refine CallR.pc (sWallPlain_pc hs2) rfl (.inl rfl) ?_
  simp (disch := omega) only [↓RU,RV,RH,↓reduceIte,reduceEqDiff,reduceCtorEq,if_pos,w64,List.append_nil,↓RS,RG,reduceAdd,reduceMul,reduceLeDiff,tyint,hd]
  refine hK _ _ ?_;clear hK K
  refine W.cond rfl (fun h => ?_) (fun h => ?_)
  ·try simp only [RL] at h
   refine W.skip ?_
   refine xn ?_
   refine W.seq ?_
   refine W.block ?_
   refine W.k fun K hK => ?_
   simp (disch := omega) only [↓RU,RV,RH,↓reduceIte,reduceEqDiff,reduceCtorEq,if_pos,List.append_nil,↓RS,RG,reduceAdd,reduceMul,reduceLeDiff]
   refine CallR.ev (l91Some_ev (q := q2) hc (by omega) h1 h2 w1 w2) ?_
   rintro _ _ ⟨p3,q3,t3,rfl,hs3,hl3,hq3,rfl⟩
   simp (disch := omega) only [↓RU,RV,RH,↓reduceIte,reduceEqDiff,reduceCtorEq,if_pos,List.append_nil,↓RS,RG,reduceAdd,reduceMul,reduceLeDiff]
   refine hK _ _ ?_;clear hK K
   refine XbN ?_
   refine xn ?_
   refine W.k fun K hK => ?_
   simp (disch := omega) only [↓RU,RV,RH,↓reduceIte,reduceEqDiff,reduceCtorEq,if_pos,w64,↓RS,RG,reduceAdd,reduceMul,reduceLeDiff,tyint]
   refine hK _ _ ?_;clear hK K
   refine xn ?_
   refine ⟨3 - (i + 1),by omega,1,i + 1,p3,q3,t3,rfl,by omega,hs3,hl3,by omega,?_,rfl⟩
   simp [Env.put,Env.of]
  ·try simp only [RL] at h
   refine W.exit ?_
   refine xe ?_
   refine xe ?_
   refine XBlock.hit ?_
   refine xn ?_
   refine W.r fun K hK => ?_
   simp (disch := omega) only [↓RU,RV,RH,↓reduceIte,reduceEqDiff,reduceCtorEq,if_pos,↓RS,RG,reduceAdd,reduceMul,reduceLeDiff]
   refine hK _ _ ?_;clear hK K
   refine W.ret ?_
   refine Br rfl ?_
   exact ⟨_,p2,q2,tk,rfl,hs2,hl2,by omega,take_all⟩
 ·skip
  have hd : decide ((i : Int) < 3) = false := decide_eq_false (by omega)
  simp (disch := omega) only [↓RU,RV,RH,↓reduceIte,reduceEqDiff,reduceCtorEq,if_pos,w64,List.append_nil,↓RS,RG,reduceAdd,reduceMul,reduceLeDiff,tyint,hd]
  refine hK _ _ ?_;clear hK K
  refine W.cond rfl (fun h => ?_) (fun h => ?_)
  ·try simp only [RL] at h
   exact absurd h (by simp)
  ·try simp only [RL] at h
   refine W.exit ?_
   refine xe ?_
   refine xe ?_
   refine XBlock.hit ?_
   refine xn ?_
   refine W.r fun K hK => ?_
   simp (disch := omega) only [↓RU,RV,RH,↓reduceIte,reduceEqDiff,reduceCtorEq,if_pos,↓RS,RG,reduceAdd,reduceMul,reduceLeDiff]
   refine hK _ _ ?_;clear hK K
   refine W.ret ?_
   refine Br rfl ?_
   exact ⟨_,p2,q2,tk,rfl,hs2,hl2,by omega,take_all⟩
theorem tdiv39 {k : Nat} : ((k : Nat) : Int).tdiv 39 = ((k / 39 : Nat) : Int) := (Int.ofNat_tdiv k 39).symm
theorem tdiv59 {k : Nat} : ((k : Nat) : Int).tdiv 59 = ((k / 59 : Nat) : Int) := (Int.ofNat_tdiv k 59).symm
theorem tw39 : ((39 : Int) = 0) = False := by simp
theorem tw59 : ((59 : Int) = 0) = False := by simp
theorem tk_ints {l : List Int} {q : IntKind} : (l.map (PV.int q)).take l.length = l.map (.int q) := List.take_of_length_le (by simp)
theorem tk_i {l : List Int} {q : IntKind} {i : Nat} (h : l.length = i) : (l.map (PV.int q)).take i = l.map (.int q) := List.take_of_length_le (by simp [h])
theorem l92Needs_ev {code : Txt} {q vr t : Nat} (hc : code.length ≤ 1048576) (hq : q ≤ 700000) {p : List Txt} (hs : Sm p) : Ev Tryz.prog 107 [.ref 0 vr 0,eStrs p] ⟨[.arr vr 147 2 [eBy code,.int .i64 (q : Int)]],t⟩ fun v S => ∃ (l : List Int) (q2 t2 v1 : Nat),v = .loc 1 v1 0 l.length ∧ l.length ≤ 400 ∧ q2 ≤ q + 1000 ∧ S = ⟨[.arr vr 147 2 [eBy code,.int .i64 (q2 : Int)],.arr v1 3 1 (l.map (.int .i64))],t2⟩ := by
 have hrb := l1Rooms_bound p
 refine Ev.of ⟨Tryz.func107,by kernel_rfl,rfl,by kernel_rfl⟩ tabOk mixed (by show 2 ≤ Tryz.f107.ntmps; decide) ?_
 refine W.r fun K hK => ?_
 simp (disch := omega) only [↓RU,RV,RH,↓reduceIte,reduceEqDiff,reduceCtorEq,if_pos,↓RS,RG,reduceAdd,reduceMul,reduceLeDiff]
 refine hK _ _ ?_;clear hK K
 refine W.r fun K hK => ?_
 simp (disch := omega) only [↓RU,RV,RH,↓reduceIte,reduceEqDiff,reduceCtorEq,if_pos,↓RS,RG,reduceAdd,reduceMul,reduceLeDiff,tyLint,tyint]
 refine hK _ _ ?_;clear hK K
 refine W.r fun K hK => ?_
 simp (disch := omega) only [↓RU,RV,RH,↓reduceIte,reduceEqDiff,reduceCtorEq,if_pos,List.append_nil,w64,↓RS,RG,reduceAdd,reduceMul,reduceLeDiff,tyint]
 refine CallR.pc (l1Rooms_pc hs) rfl (.inl rfl) ?_
 simp (disch := omega) only [↓RU,RV,RH,↓reduceIte,reduceEqDiff,reduceCtorEq,if_pos,List.append_nil,w64,↓RS,RG,reduceAdd,reduceMul,reduceLeDiff,tyint]
 refine CallR.ev (pick_ev (q := q) hc (by omega) 40 (by omega) (by omega)) ?_
 rintro _ _ ⟨k0,rfl,hk0z,hk0,rfl⟩
 have hk0b := hk0 (by omega)
 simp (disch := omega) only [↓RU,RV,RH,↓reduceIte,reduceEqDiff,reduceCtorEq,if_pos,List.append_nil,w64,↓RS,RG,reduceAdd,reduceMul,reduceLeDiff,tyint,tdiv39,tw39,tdiv59,tw59]
 refine hK _ _ ?_;clear hK K
 obtain ⟨N,hN⟩ : ∃ N : Nat,l1Rooms p + ((k0 / 39 : Nat) : Int) = N := ⟨(l1Rooms p + ((k0 / 39 : Nat) : Int)).toNat,by omega⟩
 have hN2 : N ≤ 300 := by omega
 simp only [hN]
 refine W.seq ?_
 refine W.r fun K hK => ?_
 simp (disch := omega) only [↓RU,RV,RH,↓reduceIte,reduceEqDiff,reduceCtorEq,if_pos,↓RS,RG,reduceAdd,reduceMul,reduceLeDiff]
 refine hK _ _ ?_;clear hK K
 refine W.block ?_
 refine W.loop [0,1,5,6,7] (fun n vs S => ∃ (i q2 v1 t2 : Nat) (l : List Int),n = N - i ∧ i ≤ N ∧ l.length = i ∧ q2 ≤ q + 1 + 2 * i ∧ vs = [.ref 0 vr 0,eStrs p,.loc 1 v1 0 i,.int .i64 N,.int .i64 i] ∧ S = ⟨[.arr vr 147 2 [eBy code,.int .i64 (q2 : Int)],.arr v1 3 1 (l.map (.int .i64))],t2⟩) N ?_ ?_
 ·refine ⟨2,0,q + 1,t,t + 1,[],rfl,by omega,rfl,by omega,?_,rfl⟩
  simp [Env.put,Env.of,argEnv]
 rintro n vs S - ⟨i,q2,v1,t2,l,rfl,h_i,hll,hq2,rfl,rfl⟩
 refine W.seq ?_
 refine W.r fun K hK => ?_
 simp (disch := omega) only [↓RU,RV,RH,↓reduceIte,reduceEqDiff,reduceCtorEq,if_pos,w64,↓RS,RG,reduceAdd,reduceMul,reduceLeDiff,tyint]
 refine hK _ _ ?_;clear hK K
 refine W.cond rfl (fun h => ?_) (fun h => ?_)
 ·try simp only [RL] at h
  refine W.skip ?_
  refine xn ?_
  refine W.seq ?_
  refine W.block ?_
  refine W.k fun K hK => ?_
  simp (disch := omega) only [↓RU,RV,RH,↓reduceIte,reduceEqDiff,reduceCtorEq,if_pos,List.append_nil,w64,↓RS,RG,reduceAdd,reduceMul,reduceLeDiff,tyLint,tyint,tk_i hll]
  refine CallR.ev (pick_ev (q := q2) hc (by omega) 6 (by omega) (by omega)) ?_
  rintro _ _ ⟨k1,rfl,hk1z,hk1,rfl⟩
  have hk1b := hk1 (by omega)
  simp (disch := omega) only [↓RU,RV,RH,↓reduceIte,reduceEqDiff,reduceCtorEq,if_pos,List.append_nil,w64,↓RS,RG,reduceAdd,reduceMul,reduceLeDiff,tyLint,tyint,tk_i hll,tdiv39,tw39,tdiv59,tw59]
  refine CallR.ev (pick_ev (q := q2 + 1) hc (by omega) 60 (by omega) (by omega)) ?_
  rintro _ _ ⟨k2,rfl,hk2z,hk2,rfl⟩
  have hk2b := hk2 (by omega)
  simp (disch := omega) only [↓RU,RV,RH,↓reduceIte,reduceEqDiff,reduceCtorEq,if_pos,List.append_nil,w64,↓RS,RG,reduceAdd,reduceMul,reduceLeDiff,tyLint,tyint,tk_i hll,tdiv39,tw39,tdiv59,tw59]
  refine hK _ _ ?_;clear hK K
  refine XbN ?_
  refine xn ?_
  refine W.k fun K hK => ?_
  simp (disch := omega) only [↓RU,RV,RH,↓reduceIte,reduceEqDiff,reduceCtorEq,if_pos,w64,↓RS,RG,reduceAdd,reduceMul,reduceLeDiff,tyint]
  refine hK _ _ ?_;clear hK K
  refine xn ?_
  refine ⟨N - (i + 1),by omega,2,i + 1,q2 + 1 + 1,t2 + 1,t2 + 2,l ++ [1 + (k1 : Int) + ((k2 / 59 : Nat) : Int) * 9],rfl,by omega,by simp [hll],by omega,?_,?_⟩
  all_goals simp [Env.put,Env.of,take_eq,tk_le,hll,tk_i hll]
 ·try simp only [RL] at h
  obtain rfl : i = N := by omega
  refine W.exit ?_
  refine xe ?_
  refine xe ?_
  refine XBlock.hit ?_
  refine xn ?_
  refine W.r fun K hK => ?_
  simp (disch := omega) only [↓RU,RV,RH,↓reduceIte,reduceEqDiff,reduceCtorEq,if_pos,↓RS,RG,reduceAdd,reduceMul,reduceLeDiff]
  refine hK _ _ ?_;clear hK K
  refine W.ret ?_
  refine Br rfl ?_
  exact ⟨_,l,q2,t2,v1,by rw [hll]; rfl,by omega,by omega,take_all⟩
theorem l92Sized_ev {code : Txt} (hc : code.length ≤ 1048576) : Ev Tryz.prog 54 [eBy code] ⟨[],0⟩ fun v S => ∃ (p : List Txt) (ws : List Int) (t : Nat),Sm p ∧ ws.length ≤ 400 ∧ v = .tup [eStrs p,eInts ws] ∧ S = ⟨[],t⟩ := by
 refine Ev.of ⟨Tryz.func54,by kernel_rfl,rfl,by kernel_rfl⟩ tabOk mixed (by show 1 ≤ Tryz.f54.ntmps; decide) ?_
 refine W.r fun K hK => ?_
 simp (disch := omega) only [↓RU,RV,RH,↓reduceIte,reduceEqDiff,reduceCtorEq,if_pos,↓RS,RG,reduceAdd,reduceMul,reduceLeDiff]
 refine hK _ _ ?_;clear hK K
 refine W.r fun K hK => ?_
 simp (disch := omega) only [↓RU,RV,RH,↓reduceIte,reduceEqDiff,reduceCtorEq,if_pos,List.append_nil,↓RS,RG,reduceAdd,reduceMul,reduceLeDiff,rdO]
 refine CallR.pn (l6Open_pn hc) rfl (.inr rfl) ?_
 simp (disch := omega) only [↓RU,RV,RH,↓reduceIte,reduceEqDiff,reduceCtorEq,if_pos,List.append_nil,↓RS,RG,reduceAdd,reduceMul,reduceLeDiff,rdO,rdO,RN]
 refine hK _ _ ?_;clear hK K
 refine W.r fun K hK => ?_
 have hc2 : (code.take 2000).length ≤ 1048576 := by rw [List.length_take]; omega
 generalize code.take 2000 = code2 at hc2 ⊢
 simp (disch := omega) only [↓RU,RV,RH,↓reduceIte,reduceEqDiff,reduceCtorEq,if_pos,List.append_nil,↓RS,RG,reduceAdd,reduceMul,reduceLeDiff]
 refine CallR.ev (l91Plain_ev (q := 0) (code := code2) hc2 (by omega) (rows := 5) (cols := 5) (by omega) (by omega) (by omega) (by omega)) ?_
 rintro _ _ ⟨p,q,t,rfl,hs,hl,hq,rfl⟩
 simp (disch := omega) only [↓RU,RV,RH,↓reduceIte,reduceEqDiff,reduceCtorEq,if_pos,List.append_nil,↓RS,RG,reduceAdd,reduceMul,reduceLeDiff]
 refine hK _ _ ?_;clear hK K
 refine W.joinZ [2,3] (fun vs S => ∃ (ws : List Int) (tk : Nat),ws.length ≤ 400 ∧ vs = [eStrs p,eInts ws] ∧ S = ⟨[],tk⟩) ?_ ?_
 ·
  refine W.k fun K hK => ?_
  simp (disch := omega) only [↓RU,RV,RH,↓reduceIte,reduceEqDiff,reduceCtorEq,if_pos,List.append_nil,↓RS,RG,reduceAdd,reduceMul,reduceLeDiff]
  refine CallR.ev (l92Needs_ev (q := q) hc2 (by omega) hs) ?_
  rintro _ _ ⟨ws,q2,t2,v1,rfl,hwsl,hq2,rfl⟩
  simp (disch := omega) only [↓RU,RV,RH,↓reduceIte,reduceEqDiff,reduceCtorEq,if_pos,List.append_nil,↓RS,RG,reduceAdd,reduceMul,reduceLeDiff]
  refine hK _ _ ?_;clear hK K
  refine xn ?_
  refine ⟨0,[eStrs p,eInts ws],⟨[],t2⟩,?_,?_,ws,t2,hwsl,rfl,rfl⟩
  ·simp [-List.mapM_map,Store.frz,frzObs,frzOb,frz_eInts,frz_loc,rfz_loc,frz_int,frz_sl,frz_ints,rfz_ints,frz_strs,frz_bytes,rfz_bytes,rfz_str,rfz_bool,frz_str,frz_bool,Env.put,Env.of,argEnv,rfz_int,List.mapM_append,List.mapM_cons,frz_ref0,tk_strs,rfz_tstr,tk_ints,← frz_eInts]
  ·simp [-List.mapM_map,Store.frz,frzObs,frzOb,frz_eInts,frz_loc,rfz_loc,frz_int,frz_sl,frz_ints,rfz_ints,frz_strs,frz_bytes,rfz_bytes,rfz_str,rfz_bool,frz_str,frz_bool,Env.put,Env.of,argEnv,rfz_int,List.mapM_append,List.mapM_cons,frz_ref0,tk_strs,rfz_tstr,tk_ints]
 rintro vs S - ⟨ws,tk,hwsl,rfl,rfl⟩
 refine W.ret ?_
 refine Br rfl ?_
 exact ⟨0,p,ws,tk,hs,hwsl,rfl,rfl⟩
theorem l91Order_ev {code : Txt} (hc : code.length ≤ 1048576) : Ev Tryz.prog 69 [eBy code] ⟨[],0⟩ fun v S => ∃ (p : List Txt) (t : Nat),Sm p ∧ v = eStrs p ∧ S = ⟨[],t⟩ := by
 refine Ev.of ⟨Tryz.func69,by kernel_rfl,rfl,by kernel_rfl⟩ tabOk mixed (by show 1 ≤ Tryz.f69.ntmps; decide) ?_
 refine W.r fun K hK => ?_
 simp (disch := omega) only [↓RU,RV,RH,↓reduceIte,reduceEqDiff,reduceCtorEq,if_pos,↓RS,RG,reduceAdd,reduceMul,reduceLeDiff]
 refine hK _ _ ?_;clear hK K
 refine W.r fun K hK => ?_
 simp (disch := omega) only [↓RU,RV,RH,↓reduceIte,reduceEqDiff,reduceCtorEq,if_pos,List.append_nil,↓RS,RG,reduceAdd,reduceMul,reduceLeDiff,rdO]
 refine CallR.pn (l6Open_pn hc) rfl (.inr rfl) ?_
 simp (disch := omega) only [↓RU,RV,RH,↓reduceIte,reduceEqDiff,reduceCtorEq,if_pos,List.append_nil,↓RS,RG,reduceAdd,reduceMul,reduceLeDiff,rdO,rdO,RN]
 have hc2 : (code.take 2000).length ≤ 1048576 := by rw [List.length_take]; omega
 generalize code.take 2000 = code2 at hc2 ⊢
 refine CallR.ev (l91Plain_ev (q := 0) (code := code2) hc2 (by omega) (rows := 5) (cols := 5) (by omega) (by omega) (by omega) (by omega)) ?_
 rintro _ _ ⟨p,q,t,rfl,hs,hl,hq,rfl⟩
 simp (disch := omega) only [↓RU,RV,RH,↓reduceIte,reduceEqDiff,reduceCtorEq,if_pos,List.append_nil,↓RS,RG,reduceAdd,reduceMul,reduceLeDiff,rdO]
 refine hK _ _ ?_;clear hK K
 refine W.ret ?_
 refine Br rfl ?_
 exact ⟨0,p,_,hs,rfl,rfl⟩
theorem drawOrderPerm_ev {code : Txt} (hc : code.length ≤ 1048576) : Ev Tryz.prog 21 [eBy code] ⟨[],0⟩ fun v S => ∃ (p : List Txt) (t : Nat),Sm p ∧ v = eStrs p ∧ S = ⟨[],t⟩ := by
 refine Ev.of ⟨Tryz.func21,by kernel_rfl,rfl,by kernel_rfl⟩ tabOk mixed (by show 1 ≤ Tryz.f21.ntmps; decide) ?_
 refine W.r fun K hK => ?_
 simp (disch := omega) only [↓RU,RV,RH,↓reduceIte,reduceEqDiff,reduceCtorEq,if_pos,↓RS,RG,reduceAdd,reduceMul,reduceLeDiff]
 refine hK _ _ ?_;clear hK K
 refine W.r fun K hK => ?_
 simp (disch := omega) only [↓RU,RV,RH,↓reduceIte,reduceEqDiff,reduceCtorEq,if_pos,List.append_nil,↓RS,RG,reduceAdd,reduceMul,reduceLeDiff]
 refine CallR.ev (l91Order_ev hc) ?_
 rintro _ _ ⟨p,t,hs,rfl,rfl⟩
 simp (disch := omega) only [↓RU,RV,RH,↓reduceIte,reduceEqDiff,reduceCtorEq,if_pos,List.append_nil,↓RS,RG,reduceAdd,reduceMul,reduceLeDiff]
 refine hK _ _ ?_;clear hK K
 refine W.ret ?_
 refine Br rfl ?_
 exact ⟨0,p,_,hs,rfl,rfl⟩




theorem pEq_bb {S : Store} {a b : Bool} : pEq tab S 4 (.bool a) (.bool b) = some (a == b) := rfl


section
section
variable {n : Nat} {M X : List (List Bool)}
def rvB (M : List (List Bool)) (a : Nat) (X : List (List Bool)) (b : Nat) : List (List Bool) := setB X b a (getB M a b)
def rvA (n : Nat) (M : List (List Bool)) (X : List (List Bool)) (a : Nat) : List (List Bool) := (List.range n).foldl (rvB M a) X
def rv (n : Nat) (M : List (List Bool)) : List (List Bool) := (List.range n).foldl (rvA n M) (emptyM n)
end
end
theorem rn_rep0 {S : Store} {k f n : Nat} {sel : List Nat} : (List.replicate n (PV.int .i64 0)).mapM (rn S k sel (f + 1)) = some (List.replicate n (PV.int .i64 0)) := rn_scal (by simp [List.all_replicate,scal])
theorem lf_is {p : List Txt} : leftG (gP p) p.length (w0 (readG p)) (rP p).length = lfM p := by rw [w0_read]; rfl
theorem ab_is {p : List Txt} : aboveG (gP p) p.length (w0 (readG p)) (rP p).length = abM p := by rw [w0_read]; rfl
theorem lfM_sq {p : List Txt} (h : plainI p = true) : Sq (rP p).length (lfM p) := by
 obtain ⟨-,⟨_,hu⟩,-⟩ := plan_all h
 rw [lf_is] at hu; exact hu.sq
theorem abM_sq {p : List Txt} (h : plainI p = true) : Sq (rP p).length (abM p) := by
 obtain ⟨-,-,⟨_,hu⟩⟩ := plan_all h
 rw [ab_is] at hu; exact hu.sq
theorem ordersOf_no {p : List Txt} (hs : Sm p) (hv : plainI p = false) : PC Tryz.prog 70 [eStrs p] (.tup [.agg [.sl [] 0,.sl [] 0],.bool false]) false := by
 obtain ⟨x,hx,hxy,hxr⟩ := plainOf_ex hs
 refine PC.of ⟨Tryz.func70,by kernel_rfl,rfl,by kernel_rfl⟩ tabOk mixed (by show 1 ≤ Tryz.f70.ntmps; decide) ?_
 refine W.r fun K hK => ?_
 simp (disch := omega) only [↓RU,RV,RH,↓reduceIte,reduceEqDiff,reduceCtorEq,if_pos,↓RS,RG,reduceAdd,reduceMul,reduceLeDiff,ty0,ty2,tybool,ty12,ty14,ty22]
 refine hK _ _ ?_;clear hK K
 refine W.r fun K hK => ?_
 simp (disch := omega) only [↓RU,RV,RH,↓reduceIte,reduceEqDiff,reduceCtorEq,if_pos,List.append_nil,↓RS,RG,reduceAdd,reduceMul,reduceLeDiff,hv]
 refine CallR.pc (hx) rfl (.inr rfl) ?_
 simp (disch := omega) only [↓RU,RV,RH,↓reduceIte,reduceEqDiff,reduceCtorEq,if_pos,List.append_nil,↓RS,RG,reduceAdd,reduceMul,reduceLeDiff,hv]
 refine hK _ _ ?_;clear hK K
 refine W.seq ?_
 refine W.r fun K hK => ?_
 simp (disch := omega) only [↓RU,RV,RH,↓reduceIte,reduceEqDiff,reduceCtorEq,if_pos,↓RS,RG,reduceAdd,reduceMul,reduceLeDiff]
 refine hK _ _ ?_;clear hK K
 refine W.cond rfl (fun h => ?_) (fun h => ?_)
 ·try simp only [RL] at h
  refine W.r fun K hK => ?_
  simp (disch := omega) only [↓RU,RV,RH,↓reduceIte,reduceEqDiff,reduceCtorEq,if_pos,↓RS,RG,reduceAdd,reduceMul,reduceLeDiff,ty0,ty2,tybool,ty12,ty14,ty22]
  refine hK _ _ ?_;clear hK K
  refine W.ret ?_
  refine XThen.ret ?_
  refine Br rfl ?_
  rfl
 ·try simp only [RL] at h
  exact absurd h (by simp)
theorem ordersOf_yes {p : List Txt} (hs : Sm p) (hv : plainI p = true) : PC Tryz.prog 70 [eStrs p] (.tup [(.agg [eRel (lfM p),eRel (abM p)]),.bool true]) false := by
 obtain ⟨x,hx,hxy,hxr⟩ := plainOf_ex hs
 obtain rfl := hxy hv
 obtain ⟨hrm,-,-⟩ := plan_all hv
 have hok := (plain_okB hv).1
 have hg := okB_gw hok
 have hn9 := okB_rooms hok
 have hn1 := okB_rooms1 hok
 refine PC.of ⟨Tryz.func70,by kernel_rfl,rfl,by kernel_rfl⟩ tabOk mixed (by show 1 ≤ Tryz.f70.ntmps; decide) ?_
 refine W.r fun K hK => ?_
 simp (disch := omega) only [↓RU,RV,RH,↓reduceIte,reduceEqDiff,reduceCtorEq,if_pos,↓RS,RG,reduceAdd,reduceMul,reduceLeDiff,ty0,ty2,tybool,ty12,ty14,ty22]
 refine hK _ _ ?_;clear hK K
 refine W.r fun K hK => ?_
 simp (disch := omega) only [↓RU,RV,RH,↓reduceIte,reduceEqDiff,reduceCtorEq,if_pos,List.append_nil,↓RS,RG,reduceAdd,reduceMul,reduceLeDiff,hv]
 refine CallR.pc (hx) rfl (.inr rfl) ?_
 simp (disch := omega) only [↓RU,RV,RH,↓reduceIte,reduceEqDiff,reduceCtorEq,if_pos,List.append_nil,↓RS,RG,reduceAdd,reduceMul,reduceLeDiff,hv]
 refine hK _ _ ?_;clear hK K
 refine W.seq ?_
 refine W.r fun K hK => ?_
 simp (disch := omega) only [↓RU,RV,RH,↓reduceIte,reduceEqDiff,reduceCtorEq,if_pos,↓RS,RG,reduceAdd,reduceMul,reduceLeDiff]
 refine hK _ _ ?_;clear hK K
 refine W.cond rfl (fun h => ?_) (fun h => ?_)
 ·try simp only [RL] at h
  exact absurd h (by simp)
 ·try simp only [RL] at h
  refine W.skip ?_
  refine xn ?_
  refine W.r fun K hK => ?_
  simp (disch := omega) only [↓RU,RV,RH,↓reduceIte,reduceEqDiff,reduceCtorEq,if_pos,List.append_nil,↓RS,RG,reduceAdd,reduceMul,reduceLeDiff,ty0,ty2,tybool,ty12,ty14,ty22]
  refine CallR.pc (orders_pc hg rfl hn9 hrm) rfl (.inl rfl) ?_
  simp (disch := omega) only [↓RU,RV,RH,↓reduceIte,reduceEqDiff,reduceCtorEq,if_pos,List.append_nil,↓RS,RG,reduceAdd,reduceMul,reduceLeDiff,ty0,ty2,tybool,ty12,ty14,ty22]
  refine hK _ _ ?_;clear hK K
  refine W.ret ?_
  refine Br rfl ?_
  rw [lf_is,ab_is]
  rfl

theorem sameInts_pc {p q : List Int} (hp : p.length < 2147483648) (hq : q.length < 2147483648) : PC Tryz.prog 24 [eInts p,eInts q] (.bool (decide (p = q))) true := by
 refine PC.of ⟨Tryz.func24,by kernel_rfl,rfl,by kernel_rfl⟩ tabOk mixed (by show 2 ≤ Tryz.f24.ntmps; decide) ?_
 refine W.r fun K hK => ?_
 simp (disch := omega) only [↓RU,RV,RH,↓reduceIte,reduceEqDiff,reduceCtorEq,if_pos]
 refine hK _ _ ?_;clear hK K
 refine W.seq ?_
 refine W.r fun K hK => ?_
 simp (disch := omega) only [↓RU,RV,RH,↓reduceIte,reduceEqDiff,reduceCtorEq,if_pos,w64,tyLint,tyint]
 refine hK _ _ ?_;clear hK K
 refine W.cond rfl (fun h => ?_) (fun h => ?_)
 ·try simp only [RL] at h
  refine W.r fun K hK => ?_
  simp (disch := omega) only [↓RU,RV,RH,↓reduceIte,reduceEqDiff,reduceCtorEq,if_pos]
  refine hK _ _ ?_;clear hK K
  refine W.ret ?_
  refine XThen.ret ?_
  refine Br rfl ?_
  rw [show decide (p = q) = false by simp; rintro rfl; exact h rfl]
  rfl
 ·try simp only [RL] at h
  refine W.skip ?_
  refine xn ?_
  refine W.seq ?_
  refine W.r fun K hK => ?_
  simp (disch := omega) only [↓RU,RV,RH,↓reduceIte,reduceEqDiff,reduceCtorEq,if_pos]
  refine hK _ _ ?_;clear hK K
  refine W.block ?_
  refine W.loop [0,1,5] (fun n vs S => ∃ i : Nat,n = p.length - i ∧ i ≤ p.length ∧ (p.take i = q.take i) ∧ vs = [eInts p,eInts q,.int .i64 i] ∧ S = ⟨[],0⟩) (p.length) ?_ ?_
  ·refine ⟨0,0,rfl,Nat.zero_le _,rfl,?_,rfl⟩
   simp [Env.put,Env.of,argEnv]
  rintro n vs S - ⟨i,rfl,h_i,htk,rfl,rfl⟩
  refine W.seq ?_
  refine W.r fun K hK => ?_
  simp (disch := omega) only [↓RU,RV,RH,↓reduceIte,reduceEqDiff,reduceCtorEq,if_pos,w64,tyLint,tyint]
  refine hK _ _ ?_;clear hK K
  refine W.cond rfl (fun h1 => ?_) (fun h1 => ?_)
  ·try simp only [RL] at h1
   obtain ⟨x,hx,-⟩ := get_of (show i < p.length by omega)
   obtain ⟨y,hy,-⟩ := get_of (show i < q.length by omega)
   refine W.skip ?_
   refine xn ?_
   refine W.seq ?_
   refine W.block ?_
   refine W.seq_draw (by kernel_rfl) fun K hK => ?_
   simp (disch := omega) only [↓RU,RV,RH,↓reduceIte,reduceEqDiff,reduceCtorEq,if_pos,w64,tyLint,tyint,hx,hy]
   refine hK _ _ ?_;clear hK K
   refine W.cond rfl (fun h2 => ?_) (fun h2 => ?_)
   ·try simp only [RL] at h2
    refine W.r fun K hK => ?_
    simp (disch := omega) only [↓RU,RV,RH,↓reduceIte,reduceEqDiff,reduceCtorEq,if_pos]
    refine hK _ _ ?_;clear hK K
    refine W.ret ?_
    refine XBlock.ret ?_
    refine XThen.ret ?_
    refine XThen.ret ?_
    refine XBlock.ret ?_
    refine XThen.ret ?_
    refine Br rfl ?_
    rw [show decide (p = q) = false by simp; rintro rfl; rw [hx] at hy; simp_all]
    rfl
   ·try simp only [RL] at h2
    have h2 : x = y := by simpa using h2
    refine W.skip ?_
    refine XbN ?_
    refine xn ?_
    refine W.k fun K hK => ?_
    simp (disch := omega) only [↓RU,RV,RH,↓reduceIte,reduceEqDiff,reduceCtorEq,if_pos,w64,tyint]
    refine hK _ _ ?_;clear hK K
    refine xn ?_
    refine ⟨p.length - (i + 1),by omega,0,i + 1,rfl,by omega,take_eq_succ htk hx hy h2,?_,rfl⟩
    simp [Env.put,Env.of]
  ·try simp only [RL] at h1
   refine W.exit ?_
   refine xe ?_
   refine xe ?_
   refine XBlock.hit ?_
   refine xn ?_
   refine W.r fun K hK => ?_
   simp (disch := omega) only [↓RU,RV,RH,↓reduceIte,reduceEqDiff,reduceCtorEq,if_pos]
   refine hK _ _ ?_;clear hK K
   refine W.ret ?_
   refine Br rfl ?_
   have h1 : p.take i = p := List.take_of_length_le (by omega)
   have h2 : q.take i = q := List.take_of_length_le (by omega)
   rw [show decide (p = q) = true by simp; rw [← h1,← h2]; exact htk]
   rfl
theorem insortF_ev {F R : List Ob} {ver t : Nat} {l : List Int} {f : FuncId} {cs : List PV} {cm : Int → Int → Int} {g : Int → Int} (hf : ∀ x y,x ∈ l → y ∈ l → PC Tryz.prog f [.int .i64 x,.int .i64 y,.ip cs 0] (.int .i64 (cm x y)) true) (hg : ∀ x y,x ∈ l → y ∈ l → (cm x y < 0 ↔ g x < g y)) (hl : l.length < 2147483648) (h1 : 1 ≤ l.length) : Ev Tryz.prog 205 [.loc F.length ver 0 l.length,.int .i64 0,.int .i64 l.length,.fn f [.ip cs 0]] ⟨F ++ .arr ver 3 1 (l.map (.int .i64)) :: R,t⟩ fun v S => v = .tup [] ∧ ∃ z : List Int,z.Perm l ∧ (z.map g).Pairwise (· ≤ ·) ∧ S = ⟨F ++ .arr ver 3 1 (z.map (.int .i64)) :: R,t⟩ := by
 refine Ev.of ⟨Tryz.func205,by kernel_rfl,rfl,by kernel_rfl⟩ tabOk mixed (by show 4 ≤ Tryz.f205.ntmps; decide) ?_
 refine W.r fun K hK => ?_
 simp (disch := omega) only [↓RU,RV,RH,↓reduceIte,reduceEqDiff,reduceCtorEq,if_pos,w64,↓RS,RG,reduceAdd,reduceMul,reduceLeDiff,tyint,gF,setF]
 refine hK _ _ ?_;clear hK K
 refine W.block ?_
 refine W.loop [0,1,2,3,8] (fun n vs S => ∃ (i : Nat) (c : List Int),n = l.length - i ∧ 1 ≤ i ∧ i ≤ l.length ∧ c.Perm l ∧ Ord (c.map g) i ∧ vs = [.loc F.length ver 0 l.length,.int .i64 0,.int .i64 l.length,.fn f [.ip cs 0],.int .i64 i] ∧ S = ⟨F ++ .arr ver 3 1 (c.map (.int .i64)) :: R,t⟩) (l.length - 1) ?_ ?_
 ·refine ⟨_,1,l,rfl,Nat.le_refl _,h1,List.Perm.refl _,Ord.one _,?_,take_all⟩
  simp [Env.put,Env.of,argEnv]
 rintro n vs S - ⟨i,c,rfl,hi1,h_i,hp,ho,rfl,rfl⟩
 refine W.seq ?_
 refine W.r fun K hK => ?_
 simp (disch := omega) only [↓RU,RV,RH,↓reduceIte,reduceEqDiff,reduceCtorEq,if_pos,w64,↓RS,RG,reduceAdd,reduceMul,reduceLeDiff,tyint,gF,setF]
 refine hK _ _ ?_;clear hK K
 refine W.cond rfl (fun h => ?_) (fun h => ?_)
 ·try simp only [RL] at h
  refine W.skip ?_
  refine xn ?_
  refine W.seq ?_
  refine W.block ?_
  refine W.r fun K hK => ?_
  simp (disch := omega) only [↓RU,RV,RH,↓reduceIte,reduceEqDiff,reduceCtorEq,if_pos,↓RS,RG,reduceAdd,reduceMul,reduceLeDiff,gF,setF]
  refine hK _ _ ?_;clear hK K
  refine W.block ?_
  refine W.loop [0,1,2,3,8,9] (fun n vs S => ∃ (j : Nat) (d : List Int),n = j + 1 ∧ j ≤ i ∧ d.Perm l ∧ InsO (d.map g) j i ∧ vs = [.loc F.length ver 0 l.length,.int .i64 0,.int .i64 l.length,.fn f [.ip cs 0],.int .i64 i,.int .i64 j] ∧ S = ⟨F ++ .arr ver 3 1 (d.map (.int .i64)) :: R,t⟩) (i + 1) ?_ ?_
  ·refine ⟨_,i,c,rfl,Nat.le_refl _,hp,ho.ins,?_,take_all⟩
   simp [Env.put,Env.of]
  rintro n vs S - ⟨j,d,rfl,h_j,hq,hO,rfl,rfl⟩
  refine W.seq ?_
  refine W.seq_draw (by kernel_rfl) fun K hK => ?_
  cases hd : decide ((j : Int) > 0)
  ·skip
   obtain rfl : j = 0 := by simpa using hd
   simp (disch := omega) only [↓RU,RV,RH,↓reduceIte,reduceEqDiff,reduceCtorEq,if_pos,w64,List.append_nil,↓RS,RG,reduceAdd,reduceMul,reduceLeDiff,tyLint,tyint,gF,setF,hd]
   refine hK _ _ ?_;clear hK K
   refine W.cond rfl (fun h2 => ?_) (fun h2 => ?_)
   ·try simp only [RL] at h2
    exact absurd h2 (by simp)
   ·try simp only [RL] at h2
    have hO2 : Ord (d.map g) (i + 1) := hO.zero
    refine W.exit ?_
    refine xe ?_
    refine xe ?_
    refine XBlock.hit ?_
    refine XbN ?_
    refine xn ?_
    refine W.k fun K hK => ?_
    simp (disch := omega) only [↓RU,RV,RH,↓reduceIte,reduceEqDiff,reduceCtorEq,if_pos,w64,↓RS,RG,reduceAdd,reduceMul,reduceLeDiff,tyint,gF,setF]
    refine hK _ _ ?_;clear hK K
    refine xn ?_
    refine ⟨l.length - (i + 1),by omega,_,i + 1,d,rfl,by omega,by omega,hq,hO2,?_,take_all⟩
    simp [Env.put,Env.of]
  ·skip
   have hj0 : j ≠ 0 := by have := of_decide_eq_true hd; omega
   have hdl := hq.length_eq
   obtain ⟨x,hx,hxm⟩ := get_of (show j < d.length by omega)
   obtain ⟨y,hy,hym⟩ := get_of (show j - 1 < d.length by omega)
   have hxl := hq.mem_iff.1 hxm
   have hyl := hq.mem_iff.1 hym
   have hxg : (d.map g)[j]? = some (g x) := by rw [List.getElem?_map,hx]; rfl
   have hyg : (d.map g)[j - 1]? = some (g y) := by rw [List.getElem?_map,hy]; rfl
   simp (disch := omega) only [↓RU,RV,RH,↓reduceIte,reduceEqDiff,reduceCtorEq,if_pos,w64,List.append_nil,↓RS,RG,reduceAdd,reduceMul,reduceLeDiff,tyLint,tyint,gF,setF,hd,hx,hy,toNat_pred]
   refine CallR.pc (hf x y hxl hyl) rfl (.inl rfl) ?_
   simp (disch := omega) only [↓RU,RV,RH,↓reduceIte,reduceEqDiff,reduceCtorEq,if_pos,w64,List.append_nil,↓RS,RG,reduceAdd,reduceMul,reduceLeDiff,tyLint,tyint,gF,setF,hd,hx,hy,toNat_pred]
   refine hK _ _ ?_;clear hK K
   refine W.cond rfl (fun h2 => ?_) (fun h2 => ?_)
   ·try simp only [RL] at h2
    have hjl := len_of hx
    have hsl : (d.set j y).length = d.length := by simp
    refine W.skip ?_
    refine xn ?_
    refine W.seq ?_
    refine W.block ?_
    refine W.draw_k (by kernel_rfl) fun K hK => ?_
    simp (disch := omega) only [↓RU,RV,RH,↓reduceIte,reduceEqDiff,reduceCtorEq,if_pos,w64,↓RS,RG,reduceAdd,reduceMul,reduceLeDiff,tyLint,tyint,gF,setF,hx,hy,toNat_pred,set_spl,set_int,List.length_set]
    refine hK _ _ ?_;clear hK K
    refine XbN ?_
    refine xn ?_
    refine W.k fun K hK => ?_
    simp (disch := omega) only [↓RU,RV,RH,↓reduceIte,reduceEqDiff,reduceCtorEq,if_pos,w64,↓RS,RG,reduceAdd,reduceMul,reduceLeDiff,tyint,gF,setF]
    refine hK _ _ ?_;clear hK K
    refine xn ?_
    refine ⟨j - 1 + 1,by omega,_,j - 1,(d.set j y).set (j - 1) x,rfl,by omega,swap_perm hq hx hy,by rw [List.map_set,List.map_set]; exact hO.swap hj0 h_j hxg hyg ((hg x y hxl hyl).1 h2),?_,take_all⟩
    simp [Env.put,Env.of]; omega
   ·try simp only [RL] at h2
    have hO2 : Ord (d.map g) (i + 1) := hO.stop hxg hyg (fun q => h2 ((hg x y hxl hyl).2 q))
    refine W.exit ?_
    refine xe ?_
    refine xe ?_
    refine XBlock.hit ?_
    refine XbN ?_
    refine xn ?_
    refine W.k fun K hK => ?_
    simp (disch := omega) only [↓RU,RV,RH,↓reduceIte,reduceEqDiff,reduceCtorEq,if_pos,w64,↓RS,RG,reduceAdd,reduceMul,reduceLeDiff,tyint,gF,setF]
    refine hK _ _ ?_;clear hK K
    refine xn ?_
    refine ⟨l.length - (i + 1),by omega,_,i + 1,d,rfl,by omega,by omega,hq,hO2,?_,take_all⟩
    simp [Env.put,Env.of]
 ·try simp only [RL] at h
  obtain rfl : l.length = i := by omega
  refine W.exit ?_
  refine xe ?_
  refine xe ?_
  refine XBlock.hit ?_
  refine BodyQ.norm rfl ?_
  exact ⟨_,rfl,c,hp,(by rw [← hp.length_eq] at ho; exact Ord.pair (by rw [List.length_map]; exact ho)),take_all⟩
theorem len64_1  : PC Tryz.prog 199 [.int .u64 1] (.int .i64 1) true := by
 refine PC.of ⟨Tryz.func199,by kernel_rfl,rfl,by kernel_rfl⟩ tabOk mixed (by show 1 ≤ Tryz.f199.ntmps; decide) ?_
 refine W.r fun K hK => ?_
 simp (disch := omega) only [↓RU,RV,RH,↓reduceIte,reduceEqDiff,reduceCtorEq,if_pos]
 refine hK _ _ ?_;clear hK K
 refine W.seq ?_
 refine W.r fun K hK => ?_
 simp (disch := omega) only [↓RU,RV,RH,↓reduceIte,reduceEqDiff,reduceCtorEq,if_pos,w64,ty25]
 refine hK _ _ ?_;clear hK K
 refine W.cond rfl (fun h => ?_) (fun h => ?_)
 ·try simp only [RL] at h
  exact absurd h (by decide)
 ·try simp only [RL] at h
  refine W.skip ?_
  refine xn ?_
  refine W.seq ?_
  refine W.r fun K hK => ?_
  simp (disch := omega) only [↓RU,RV,RH,↓reduceIte,reduceEqDiff,reduceCtorEq,if_pos,w64,ty25]
  refine hK _ _ ?_;clear hK K
  refine W.cond rfl (fun h1 => ?_) (fun h1 => ?_)
  ·try simp only [RL] at h1
   exact absurd h1 (by decide)
  ·try simp only [RL] at h1
   refine W.skip ?_
   refine xn ?_
   refine W.seq ?_
   refine W.r fun K hK => ?_
   simp (disch := omega) only [↓RU,RV,RH,↓reduceIte,reduceEqDiff,reduceCtorEq,if_pos,w64,ty25]
   refine hK _ _ ?_;clear hK K
   refine W.cond rfl (fun h2 => ?_) (fun h2 => ?_)
   ·try simp only [RL] at h2
    exact absurd h2 (by decide)
   ·try simp only [RL] at h2
    refine W.skip ?_
    refine xn ?_
    refine W.r fun K hK => ?_
    simp (disch := omega) only [↓RU,RV,RH,↓reduceIte,reduceEqDiff,reduceCtorEq,if_pos,w64,w64,tyint,tystring,ty25,ty26]
    refine hK _ _ ?_;clear hK K
    refine W.ret ?_
    refine Br rfl ?_
    rfl
theorem len_1  : PC Tryz.prog 173 [.int .u64 1] (.int .i64 1) true := by
 refine PC.of ⟨Tryz.func173,by kernel_rfl,rfl,by kernel_rfl⟩ tabOk mixed (by show 1 ≤ Tryz.f173.ntmps; decide) ?_
 refine W.r fun K hK => ?_
 simp (disch := omega) only [↓RU,RV,RH,↓reduceIte,reduceEqDiff,reduceCtorEq,if_pos]
 refine hK _ _ ?_;clear hK K
 refine W.seq ?_
 refine W.cond rfl (fun h => ?_) (fun h => ?_)
 ·try simp only [RL] at h
  exact absurd h (by decide)
 ·try simp only [RL] at h
  refine W.skip ?_
  refine xn ?_
  refine W.r fun K hK => ?_
  simp (disch := omega) only [↓RU,RV,RH,↓reduceIte,reduceEqDiff,reduceCtorEq,if_pos,List.append_nil]
  refine CallR.pc (len64_1) rfl (.inl rfl) ?_
  simp (disch := omega) only [↓RU,RV,RH,↓reduceIte,reduceEqDiff,reduceCtorEq,if_pos,List.append_nil]
  refine hK _ _ ?_;clear hK K
  refine W.ret ?_
  refine Br rfl ?_
  rfl
theorem len64_2  : PC Tryz.prog 199 [.int .u64 2] (.int .i64 2) true := by
 refine PC.of ⟨Tryz.func199,by kernel_rfl,rfl,by kernel_rfl⟩ tabOk mixed (by show 1 ≤ Tryz.f199.ntmps; decide) ?_
 refine W.r fun K hK => ?_
 simp (disch := omega) only [↓RU,RV,RH,↓reduceIte,reduceEqDiff,reduceCtorEq,if_pos]
 refine hK _ _ ?_;clear hK K
 refine W.seq ?_
 refine W.r fun K hK => ?_
 simp (disch := omega) only [↓RU,RV,RH,↓reduceIte,reduceEqDiff,reduceCtorEq,if_pos,w64,ty25]
 refine hK _ _ ?_;clear hK K
 refine W.cond rfl (fun h => ?_) (fun h => ?_)
 ·try simp only [RL] at h
  exact absurd h (by decide)
 ·try simp only [RL] at h
  refine W.skip ?_
  refine xn ?_
  refine W.seq ?_
  refine W.r fun K hK => ?_
  simp (disch := omega) only [↓RU,RV,RH,↓reduceIte,reduceEqDiff,reduceCtorEq,if_pos,w64,ty25]
  refine hK _ _ ?_;clear hK K
  refine W.cond rfl (fun h1 => ?_) (fun h1 => ?_)
  ·try simp only [RL] at h1
   exact absurd h1 (by decide)
  ·try simp only [RL] at h1
   refine W.skip ?_
   refine xn ?_
   refine W.seq ?_
   refine W.r fun K hK => ?_
   simp (disch := omega) only [↓RU,RV,RH,↓reduceIte,reduceEqDiff,reduceCtorEq,if_pos,w64,ty25]
   refine hK _ _ ?_;clear hK K
   refine W.cond rfl (fun h2 => ?_) (fun h2 => ?_)
   ·try simp only [RL] at h2
    exact absurd h2 (by decide)
   ·try simp only [RL] at h2
    refine W.skip ?_
    refine xn ?_
    refine W.r fun K hK => ?_
    simp (disch := omega) only [↓RU,RV,RH,↓reduceIte,reduceEqDiff,reduceCtorEq,if_pos,w64,w64,tyint,tystring,ty25,ty26]
    refine hK _ _ ?_;clear hK K
    refine W.ret ?_
    refine Br rfl ?_
    rfl
theorem len_2  : PC Tryz.prog 173 [.int .u64 2] (.int .i64 2) true := by
 refine PC.of ⟨Tryz.func173,by kernel_rfl,rfl,by kernel_rfl⟩ tabOk mixed (by show 1 ≤ Tryz.f173.ntmps; decide) ?_
 refine W.r fun K hK => ?_
 simp (disch := omega) only [↓RU,RV,RH,↓reduceIte,reduceEqDiff,reduceCtorEq,if_pos]
 refine hK _ _ ?_;clear hK K
 refine W.seq ?_
 refine W.cond rfl (fun h => ?_) (fun h => ?_)
 ·try simp only [RL] at h
  exact absurd h (by decide)
 ·try simp only [RL] at h
  refine W.skip ?_
  refine xn ?_
  refine W.r fun K hK => ?_
  simp (disch := omega) only [↓RU,RV,RH,↓reduceIte,reduceEqDiff,reduceCtorEq,if_pos,List.append_nil]
  refine CallR.pc (len64_2) rfl (.inl rfl) ?_
  simp (disch := omega) only [↓RU,RV,RH,↓reduceIte,reduceEqDiff,reduceCtorEq,if_pos,List.append_nil]
  refine hK _ _ ?_;clear hK K
  refine W.ret ?_
  refine Br rfl ?_
  rfl
theorem len64_3  : PC Tryz.prog 199 [.int .u64 3] (.int .i64 2) true := by
 refine PC.of ⟨Tryz.func199,by kernel_rfl,rfl,by kernel_rfl⟩ tabOk mixed (by show 1 ≤ Tryz.f199.ntmps; decide) ?_
 refine W.r fun K hK => ?_
 simp (disch := omega) only [↓RU,RV,RH,↓reduceIte,reduceEqDiff,reduceCtorEq,if_pos]
 refine hK _ _ ?_;clear hK K
 refine W.seq ?_
 refine W.r fun K hK => ?_
 simp (disch := omega) only [↓RU,RV,RH,↓reduceIte,reduceEqDiff,reduceCtorEq,if_pos,w64,ty25]
 refine hK _ _ ?_;clear hK K
 refine W.cond rfl (fun h => ?_) (fun h => ?_)
 ·try simp only [RL] at h
  exact absurd h (by decide)
 ·try simp only [RL] at h
  refine W.skip ?_
  refine xn ?_
  refine W.seq ?_
  refine W.r fun K hK => ?_
  simp (disch := omega) only [↓RU,RV,RH,↓reduceIte,reduceEqDiff,reduceCtorEq,if_pos,w64,ty25]
  refine hK _ _ ?_;clear hK K
  refine W.cond rfl (fun h1 => ?_) (fun h1 => ?_)
  ·try simp only [RL] at h1
   exact absurd h1 (by decide)
  ·try simp only [RL] at h1
   refine W.skip ?_
   refine xn ?_
   refine W.seq ?_
   refine W.r fun K hK => ?_
   simp (disch := omega) only [↓RU,RV,RH,↓reduceIte,reduceEqDiff,reduceCtorEq,if_pos,w64,ty25]
   refine hK _ _ ?_;clear hK K
   refine W.cond rfl (fun h2 => ?_) (fun h2 => ?_)
   ·try simp only [RL] at h2
    exact absurd h2 (by decide)
   ·try simp only [RL] at h2
    refine W.skip ?_
    refine xn ?_
    refine W.r fun K hK => ?_
    simp (disch := omega) only [↓RU,RV,RH,↓reduceIte,reduceEqDiff,reduceCtorEq,if_pos,w64,w64,tyint,tystring,ty25,ty26]
    refine hK _ _ ?_;clear hK K
    refine W.ret ?_
    refine Br rfl ?_
    rfl
theorem len_3  : PC Tryz.prog 173 [.int .u64 3] (.int .i64 2) true := by
 refine PC.of ⟨Tryz.func173,by kernel_rfl,rfl,by kernel_rfl⟩ tabOk mixed (by show 1 ≤ Tryz.f173.ntmps; decide) ?_
 refine W.r fun K hK => ?_
 simp (disch := omega) only [↓RU,RV,RH,↓reduceIte,reduceEqDiff,reduceCtorEq,if_pos]
 refine hK _ _ ?_;clear hK K
 refine W.seq ?_
 refine W.cond rfl (fun h => ?_) (fun h => ?_)
 ·try simp only [RL] at h
  exact absurd h (by decide)
 ·try simp only [RL] at h
  refine W.skip ?_
  refine xn ?_
  refine W.r fun K hK => ?_
  simp (disch := omega) only [↓RU,RV,RH,↓reduceIte,reduceEqDiff,reduceCtorEq,if_pos,List.append_nil]
  refine CallR.pc (len64_3) rfl (.inl rfl) ?_
  simp (disch := omega) only [↓RU,RV,RH,↓reduceIte,reduceEqDiff,reduceCtorEq,if_pos,List.append_nil]
  refine hK _ _ ?_;clear hK K
  refine W.ret ?_
  refine Br rfl ?_
  rfl
theorem len64_4  : PC Tryz.prog 199 [.int .u64 4] (.int .i64 3) true := by
 refine PC.of ⟨Tryz.func199,by kernel_rfl,rfl,by kernel_rfl⟩ tabOk mixed (by show 1 ≤ Tryz.f199.ntmps; decide) ?_
 refine W.r fun K hK => ?_
 simp (disch := omega) only [↓RU,RV,RH,↓reduceIte,reduceEqDiff,reduceCtorEq,if_pos]
 refine hK _ _ ?_;clear hK K
 refine W.seq ?_
 refine W.r fun K hK => ?_
 simp (disch := omega) only [↓RU,RV,RH,↓reduceIte,reduceEqDiff,reduceCtorEq,if_pos,w64,ty25]
 refine hK _ _ ?_;clear hK K
 refine W.cond rfl (fun h => ?_) (fun h => ?_)
 ·try simp only [RL] at h
  exact absurd h (by decide)
 ·try simp only [RL] at h
  refine W.skip ?_
  refine xn ?_
  refine W.seq ?_
  refine W.r fun K hK => ?_
  simp (disch := omega) only [↓RU,RV,RH,↓reduceIte,reduceEqDiff,reduceCtorEq,if_pos,w64,ty25]
  refine hK _ _ ?_;clear hK K
  refine W.cond rfl (fun h1 => ?_) (fun h1 => ?_)
  ·try simp only [RL] at h1
   exact absurd h1 (by decide)
  ·try simp only [RL] at h1
   refine W.skip ?_
   refine xn ?_
   refine W.seq ?_
   refine W.r fun K hK => ?_
   simp (disch := omega) only [↓RU,RV,RH,↓reduceIte,reduceEqDiff,reduceCtorEq,if_pos,w64,ty25]
   refine hK _ _ ?_;clear hK K
   refine W.cond rfl (fun h2 => ?_) (fun h2 => ?_)
   ·try simp only [RL] at h2
    exact absurd h2 (by decide)
   ·try simp only [RL] at h2
    refine W.skip ?_
    refine xn ?_
    refine W.r fun K hK => ?_
    simp (disch := omega) only [↓RU,RV,RH,↓reduceIte,reduceEqDiff,reduceCtorEq,if_pos,w64,w64,tyint,tystring,ty25,ty26]
    refine hK _ _ ?_;clear hK K
    refine W.ret ?_
    refine Br rfl ?_
    rfl
theorem len_4  : PC Tryz.prog 173 [.int .u64 4] (.int .i64 3) true := by
 refine PC.of ⟨Tryz.func173,by kernel_rfl,rfl,by kernel_rfl⟩ tabOk mixed (by show 1 ≤ Tryz.f173.ntmps; decide) ?_
 refine W.r fun K hK => ?_
 simp (disch := omega) only [↓RU,RV,RH,↓reduceIte,reduceEqDiff,reduceCtorEq,if_pos]
 refine hK _ _ ?_;clear hK K
 refine W.seq ?_
 refine W.cond rfl (fun h => ?_) (fun h => ?_)
 ·try simp only [RL] at h
  exact absurd h (by decide)
 ·try simp only [RL] at h
  refine W.skip ?_
  refine xn ?_
  refine W.r fun K hK => ?_
  simp (disch := omega) only [↓RU,RV,RH,↓reduceIte,reduceEqDiff,reduceCtorEq,if_pos,List.append_nil]
  refine CallR.pc (len64_4) rfl (.inl rfl) ?_
  simp (disch := omega) only [↓RU,RV,RH,↓reduceIte,reduceEqDiff,reduceCtorEq,if_pos,List.append_nil]
  refine hK _ _ ?_;clear hK K
  refine W.ret ?_
  refine Br rfl ?_
  rfl
theorem len64_5  : PC Tryz.prog 199 [.int .u64 5] (.int .i64 3) true := by
 refine PC.of ⟨Tryz.func199,by kernel_rfl,rfl,by kernel_rfl⟩ tabOk mixed (by show 1 ≤ Tryz.f199.ntmps; decide) ?_
 refine W.r fun K hK => ?_
 simp (disch := omega) only [↓RU,RV,RH,↓reduceIte,reduceEqDiff,reduceCtorEq,if_pos]
 refine hK _ _ ?_;clear hK K
 refine W.seq ?_
 refine W.r fun K hK => ?_
 simp (disch := omega) only [↓RU,RV,RH,↓reduceIte,reduceEqDiff,reduceCtorEq,if_pos,w64,ty25]
 refine hK _ _ ?_;clear hK K
 refine W.cond rfl (fun h => ?_) (fun h => ?_)
 ·try simp only [RL] at h
  exact absurd h (by decide)
 ·try simp only [RL] at h
  refine W.skip ?_
  refine xn ?_
  refine W.seq ?_
  refine W.r fun K hK => ?_
  simp (disch := omega) only [↓RU,RV,RH,↓reduceIte,reduceEqDiff,reduceCtorEq,if_pos,w64,ty25]
  refine hK _ _ ?_;clear hK K
  refine W.cond rfl (fun h1 => ?_) (fun h1 => ?_)
  ·try simp only [RL] at h1
   exact absurd h1 (by decide)
  ·try simp only [RL] at h1
   refine W.skip ?_
   refine xn ?_
   refine W.seq ?_
   refine W.r fun K hK => ?_
   simp (disch := omega) only [↓RU,RV,RH,↓reduceIte,reduceEqDiff,reduceCtorEq,if_pos,w64,ty25]
   refine hK _ _ ?_;clear hK K
   refine W.cond rfl (fun h2 => ?_) (fun h2 => ?_)
   ·try simp only [RL] at h2
    exact absurd h2 (by decide)
   ·try simp only [RL] at h2
    refine W.skip ?_
    refine xn ?_
    refine W.r fun K hK => ?_
    simp (disch := omega) only [↓RU,RV,RH,↓reduceIte,reduceEqDiff,reduceCtorEq,if_pos,w64,w64,tyint,tystring,ty25,ty26]
    refine hK _ _ ?_;clear hK K
    refine W.ret ?_
    refine Br rfl ?_
    rfl
theorem len_5  : PC Tryz.prog 173 [.int .u64 5] (.int .i64 3) true := by
 refine PC.of ⟨Tryz.func173,by kernel_rfl,rfl,by kernel_rfl⟩ tabOk mixed (by show 1 ≤ Tryz.f173.ntmps; decide) ?_
 refine W.r fun K hK => ?_
 simp (disch := omega) only [↓RU,RV,RH,↓reduceIte,reduceEqDiff,reduceCtorEq,if_pos]
 refine hK _ _ ?_;clear hK K
 refine W.seq ?_
 refine W.cond rfl (fun h => ?_) (fun h => ?_)
 ·try simp only [RL] at h
  exact absurd h (by decide)
 ·try simp only [RL] at h
  refine W.skip ?_
  refine xn ?_
  refine W.r fun K hK => ?_
  simp (disch := omega) only [↓RU,RV,RH,↓reduceIte,reduceEqDiff,reduceCtorEq,if_pos,List.append_nil]
  refine CallR.pc (len64_5) rfl (.inl rfl) ?_
  simp (disch := omega) only [↓RU,RV,RH,↓reduceIte,reduceEqDiff,reduceCtorEq,if_pos,List.append_nil]
  refine hK _ _ ?_;clear hK K
  refine W.ret ?_
  refine Br rfl ?_
  rfl
theorem len64_6  : PC Tryz.prog 199 [.int .u64 6] (.int .i64 3) true := by
 refine PC.of ⟨Tryz.func199,by kernel_rfl,rfl,by kernel_rfl⟩ tabOk mixed (by show 1 ≤ Tryz.f199.ntmps; decide) ?_
 refine W.r fun K hK => ?_
 simp (disch := omega) only [↓RU,RV,RH,↓reduceIte,reduceEqDiff,reduceCtorEq,if_pos]
 refine hK _ _ ?_;clear hK K
 refine W.seq ?_
 refine W.r fun K hK => ?_
 simp (disch := omega) only [↓RU,RV,RH,↓reduceIte,reduceEqDiff,reduceCtorEq,if_pos,w64,ty25]
 refine hK _ _ ?_;clear hK K
 refine W.cond rfl (fun h => ?_) (fun h => ?_)
 ·try simp only [RL] at h
  exact absurd h (by decide)
 ·try simp only [RL] at h
  refine W.skip ?_
  refine xn ?_
  refine W.seq ?_
  refine W.r fun K hK => ?_
  simp (disch := omega) only [↓RU,RV,RH,↓reduceIte,reduceEqDiff,reduceCtorEq,if_pos,w64,ty25]
  refine hK _ _ ?_;clear hK K
  refine W.cond rfl (fun h1 => ?_) (fun h1 => ?_)
  ·try simp only [RL] at h1
   exact absurd h1 (by decide)
  ·try simp only [RL] at h1
   refine W.skip ?_
   refine xn ?_
   refine W.seq ?_
   refine W.r fun K hK => ?_
   simp (disch := omega) only [↓RU,RV,RH,↓reduceIte,reduceEqDiff,reduceCtorEq,if_pos,w64,ty25]
   refine hK _ _ ?_;clear hK K
   refine W.cond rfl (fun h2 => ?_) (fun h2 => ?_)
   ·try simp only [RL] at h2
    exact absurd h2 (by decide)
   ·try simp only [RL] at h2
    refine W.skip ?_
    refine xn ?_
    refine W.r fun K hK => ?_
    simp (disch := omega) only [↓RU,RV,RH,↓reduceIte,reduceEqDiff,reduceCtorEq,if_pos,w64,w64,tyint,tystring,ty25,ty26]
    refine hK _ _ ?_;clear hK K
    refine W.ret ?_
    refine Br rfl ?_
    rfl
theorem len_6  : PC Tryz.prog 173 [.int .u64 6] (.int .i64 3) true := by
 refine PC.of ⟨Tryz.func173,by kernel_rfl,rfl,by kernel_rfl⟩ tabOk mixed (by show 1 ≤ Tryz.f173.ntmps; decide) ?_
 refine W.r fun K hK => ?_
 simp (disch := omega) only [↓RU,RV,RH,↓reduceIte,reduceEqDiff,reduceCtorEq,if_pos]
 refine hK _ _ ?_;clear hK K
 refine W.seq ?_
 refine W.cond rfl (fun h => ?_) (fun h => ?_)
 ·try simp only [RL] at h
  exact absurd h (by decide)
 ·try simp only [RL] at h
  refine W.skip ?_
  refine xn ?_
  refine W.r fun K hK => ?_
  simp (disch := omega) only [↓RU,RV,RH,↓reduceIte,reduceEqDiff,reduceCtorEq,if_pos,List.append_nil]
  refine CallR.pc (len64_6) rfl (.inl rfl) ?_
  simp (disch := omega) only [↓RU,RV,RH,↓reduceIte,reduceEqDiff,reduceCtorEq,if_pos,List.append_nil]
  refine hK _ _ ?_;clear hK K
  refine W.ret ?_
  refine Br rfl ?_
  rfl
theorem len64_7  : PC Tryz.prog 199 [.int .u64 7] (.int .i64 3) true := by
 refine PC.of ⟨Tryz.func199,by kernel_rfl,rfl,by kernel_rfl⟩ tabOk mixed (by show 1 ≤ Tryz.f199.ntmps; decide) ?_
 refine W.r fun K hK => ?_
 simp (disch := omega) only [↓RU,RV,RH,↓reduceIte,reduceEqDiff,reduceCtorEq,if_pos]
 refine hK _ _ ?_;clear hK K
 refine W.seq ?_
 refine W.r fun K hK => ?_
 simp (disch := omega) only [↓RU,RV,RH,↓reduceIte,reduceEqDiff,reduceCtorEq,if_pos,w64,ty25]
 refine hK _ _ ?_;clear hK K
 refine W.cond rfl (fun h => ?_) (fun h => ?_)
 ·try simp only [RL] at h
  exact absurd h (by decide)
 ·try simp only [RL] at h
  refine W.skip ?_
  refine xn ?_
  refine W.seq ?_
  refine W.r fun K hK => ?_
  simp (disch := omega) only [↓RU,RV,RH,↓reduceIte,reduceEqDiff,reduceCtorEq,if_pos,w64,ty25]
  refine hK _ _ ?_;clear hK K
  refine W.cond rfl (fun h1 => ?_) (fun h1 => ?_)
  ·try simp only [RL] at h1
   exact absurd h1 (by decide)
  ·try simp only [RL] at h1
   refine W.skip ?_
   refine xn ?_
   refine W.seq ?_
   refine W.r fun K hK => ?_
   simp (disch := omega) only [↓RU,RV,RH,↓reduceIte,reduceEqDiff,reduceCtorEq,if_pos,w64,ty25]
   refine hK _ _ ?_;clear hK K
   refine W.cond rfl (fun h2 => ?_) (fun h2 => ?_)
   ·try simp only [RL] at h2
    exact absurd h2 (by decide)
   ·try simp only [RL] at h2
    refine W.skip ?_
    refine xn ?_
    refine W.r fun K hK => ?_
    simp (disch := omega) only [↓RU,RV,RH,↓reduceIte,reduceEqDiff,reduceCtorEq,if_pos,w64,w64,tyint,tystring,ty25,ty26]
    refine hK _ _ ?_;clear hK K
    refine W.ret ?_
    refine Br rfl ?_
    rfl
theorem len_7  : PC Tryz.prog 173 [.int .u64 7] (.int .i64 3) true := by
 refine PC.of ⟨Tryz.func173,by kernel_rfl,rfl,by kernel_rfl⟩ tabOk mixed (by show 1 ≤ Tryz.f173.ntmps; decide) ?_
 refine W.r fun K hK => ?_
 simp (disch := omega) only [↓RU,RV,RH,↓reduceIte,reduceEqDiff,reduceCtorEq,if_pos]
 refine hK _ _ ?_;clear hK K
 refine W.seq ?_
 refine W.cond rfl (fun h => ?_) (fun h => ?_)
 ·try simp only [RL] at h
  exact absurd h (by decide)
 ·try simp only [RL] at h
  refine W.skip ?_
  refine xn ?_
  refine W.r fun K hK => ?_
  simp (disch := omega) only [↓RU,RV,RH,↓reduceIte,reduceEqDiff,reduceCtorEq,if_pos,List.append_nil]
  refine CallR.pc (len64_7) rfl (.inl rfl) ?_
  simp (disch := omega) only [↓RU,RV,RH,↓reduceIte,reduceEqDiff,reduceCtorEq,if_pos,List.append_nil]
  refine hK _ _ ?_;clear hK K
  refine W.ret ?_
  refine Br rfl ?_
  rfl
theorem len64_8  : PC Tryz.prog 199 [.int .u64 8] (.int .i64 4) true := by
 refine PC.of ⟨Tryz.func199,by kernel_rfl,rfl,by kernel_rfl⟩ tabOk mixed (by show 1 ≤ Tryz.f199.ntmps; decide) ?_
 refine W.r fun K hK => ?_
 simp (disch := omega) only [↓RU,RV,RH,↓reduceIte,reduceEqDiff,reduceCtorEq,if_pos]
 refine hK _ _ ?_;clear hK K
 refine W.seq ?_
 refine W.r fun K hK => ?_
 simp (disch := omega) only [↓RU,RV,RH,↓reduceIte,reduceEqDiff,reduceCtorEq,if_pos,w64,ty25]
 refine hK _ _ ?_;clear hK K
 refine W.cond rfl (fun h => ?_) (fun h => ?_)
 ·try simp only [RL] at h
  exact absurd h (by decide)
 ·try simp only [RL] at h
  refine W.skip ?_
  refine xn ?_
  refine W.seq ?_
  refine W.r fun K hK => ?_
  simp (disch := omega) only [↓RU,RV,RH,↓reduceIte,reduceEqDiff,reduceCtorEq,if_pos,w64,ty25]
  refine hK _ _ ?_;clear hK K
  refine W.cond rfl (fun h1 => ?_) (fun h1 => ?_)
  ·try simp only [RL] at h1
   exact absurd h1 (by decide)
  ·try simp only [RL] at h1
   refine W.skip ?_
   refine xn ?_
   refine W.seq ?_
   refine W.r fun K hK => ?_
   simp (disch := omega) only [↓RU,RV,RH,↓reduceIte,reduceEqDiff,reduceCtorEq,if_pos,w64,ty25]
   refine hK _ _ ?_;clear hK K
   refine W.cond rfl (fun h2 => ?_) (fun h2 => ?_)
   ·try simp only [RL] at h2
    exact absurd h2 (by decide)
   ·try simp only [RL] at h2
    refine W.skip ?_
    refine xn ?_
    refine W.r fun K hK => ?_
    simp (disch := omega) only [↓RU,RV,RH,↓reduceIte,reduceEqDiff,reduceCtorEq,if_pos,w64,w64,tyint,tystring,ty25,ty26]
    refine hK _ _ ?_;clear hK K
    refine W.ret ?_
    refine Br rfl ?_
    rfl
theorem len_8  : PC Tryz.prog 173 [.int .u64 8] (.int .i64 4) true := by
 refine PC.of ⟨Tryz.func173,by kernel_rfl,rfl,by kernel_rfl⟩ tabOk mixed (by show 1 ≤ Tryz.f173.ntmps; decide) ?_
 refine W.r fun K hK => ?_
 simp (disch := omega) only [↓RU,RV,RH,↓reduceIte,reduceEqDiff,reduceCtorEq,if_pos]
 refine hK _ _ ?_;clear hK K
 refine W.seq ?_
 refine W.cond rfl (fun h => ?_) (fun h => ?_)
 ·try simp only [RL] at h
  exact absurd h (by decide)
 ·try simp only [RL] at h
  refine W.skip ?_
  refine xn ?_
  refine W.r fun K hK => ?_
  simp (disch := omega) only [↓RU,RV,RH,↓reduceIte,reduceEqDiff,reduceCtorEq,if_pos,List.append_nil]
  refine CallR.pc (len64_8) rfl (.inl rfl) ?_
  simp (disch := omega) only [↓RU,RV,RH,↓reduceIte,reduceEqDiff,reduceCtorEq,if_pos,List.append_nil]
  refine hK _ _ ?_;clear hK K
  refine W.ret ?_
  refine Br rfl ?_
  rfl
theorem len64_9  : PC Tryz.prog 199 [.int .u64 9] (.int .i64 4) true := by
 refine PC.of ⟨Tryz.func199,by kernel_rfl,rfl,by kernel_rfl⟩ tabOk mixed (by show 1 ≤ Tryz.f199.ntmps; decide) ?_
 refine W.r fun K hK => ?_
 simp (disch := omega) only [↓RU,RV,RH,↓reduceIte,reduceEqDiff,reduceCtorEq,if_pos]
 refine hK _ _ ?_;clear hK K
 refine W.seq ?_
 refine W.r fun K hK => ?_
 simp (disch := omega) only [↓RU,RV,RH,↓reduceIte,reduceEqDiff,reduceCtorEq,if_pos,w64,ty25]
 refine hK _ _ ?_;clear hK K
 refine W.cond rfl (fun h => ?_) (fun h => ?_)
 ·try simp only [RL] at h
  exact absurd h (by decide)
 ·try simp only [RL] at h
  refine W.skip ?_
  refine xn ?_
  refine W.seq ?_
  refine W.r fun K hK => ?_
  simp (disch := omega) only [↓RU,RV,RH,↓reduceIte,reduceEqDiff,reduceCtorEq,if_pos,w64,ty25]
  refine hK _ _ ?_;clear hK K
  refine W.cond rfl (fun h1 => ?_) (fun h1 => ?_)
  ·try simp only [RL] at h1
   exact absurd h1 (by decide)
  ·try simp only [RL] at h1
   refine W.skip ?_
   refine xn ?_
   refine W.seq ?_
   refine W.r fun K hK => ?_
   simp (disch := omega) only [↓RU,RV,RH,↓reduceIte,reduceEqDiff,reduceCtorEq,if_pos,w64,ty25]
   refine hK _ _ ?_;clear hK K
   refine W.cond rfl (fun h2 => ?_) (fun h2 => ?_)
   ·try simp only [RL] at h2
    exact absurd h2 (by decide)
   ·try simp only [RL] at h2
    refine W.skip ?_
    refine xn ?_
    refine W.r fun K hK => ?_
    simp (disch := omega) only [↓RU,RV,RH,↓reduceIte,reduceEqDiff,reduceCtorEq,if_pos,w64,w64,tyint,tystring,ty25,ty26]
    refine hK _ _ ?_;clear hK K
    refine W.ret ?_
    refine Br rfl ?_
    rfl
theorem len_9  : PC Tryz.prog 173 [.int .u64 9] (.int .i64 4) true := by
 refine PC.of ⟨Tryz.func173,by kernel_rfl,rfl,by kernel_rfl⟩ tabOk mixed (by show 1 ≤ Tryz.f173.ntmps; decide) ?_
 refine W.r fun K hK => ?_
 simp (disch := omega) only [↓RU,RV,RH,↓reduceIte,reduceEqDiff,reduceCtorEq,if_pos]
 refine hK _ _ ?_;clear hK K
 refine W.seq ?_
 refine W.cond rfl (fun h => ?_) (fun h => ?_)
 ·try simp only [RL] at h
  exact absurd h (by decide)
 ·try simp only [RL] at h
  refine W.skip ?_
  refine xn ?_
  refine W.r fun K hK => ?_
  simp (disch := omega) only [↓RU,RV,RH,↓reduceIte,reduceEqDiff,reduceCtorEq,if_pos,List.append_nil]
  refine CallR.pc (len64_9) rfl (.inl rfl) ?_
  simp (disch := omega) only [↓RU,RV,RH,↓reduceIte,reduceEqDiff,reduceCtorEq,if_pos,List.append_nil]
  refine hK _ _ ?_;clear hK K
  refine W.ret ?_
  refine Br rfl ?_
  rfl
theorem pdqF_ev {F R : List Ob} {ver t : Nat} {l : List Int} {f : FuncId} {cs : List PV} {cm : Int → Int → Int} {g : Int → Int} (hf : ∀ x y,x ∈ l → y ∈ l → PC Tryz.prog f [.int .i64 x,.int .i64 y,.ip cs 0] (.int .i64 (cm x y)) true) (hg : ∀ x y,x ∈ l → y ∈ l → (cm x y < 0 ↔ g x < g y)) (hl : l.length ≤ 12) (h1 : 1 ≤ l.length) (lim : Int) : Ev Tryz.prog 187 [.loc F.length ver 0 l.length,.int .i64 0,.int .i64 l.length,.int .i64 lim,.fn f [.ip cs 0]] ⟨F ++ .arr ver 3 1 (l.map (.int .i64)) :: R,t⟩ fun v S => v = .tup [] ∧ ∃ z : List Int,z.Perm l ∧ (z.map g).Pairwise (· ≤ ·) ∧ S = ⟨F ++ .arr ver 3 1 (z.map (.int .i64)) :: R,t⟩ := by
 refine Ev.of ⟨Tryz.func187,by kernel_rfl,rfl,by kernel_rfl⟩ tabOk mixed (by show 5 ≤ Tryz.f187.ntmps; decide) ?_
 refine W.r fun K hK => ?_
 simp (disch := omega) only [↓RU,RV,RH,↓reduceIte,reduceEqDiff,reduceCtorEq,if_pos,↓RS,RG,reduceAdd,reduceMul,reduceLeDiff,gF,setF]
 refine hK _ _ ?_;clear hK K
 refine W.r fun K hK => ?_
 simp (disch := omega) only [↓RU,RV,RH,↓reduceIte,reduceEqDiff,reduceCtorEq,if_pos,↓RS,RG,reduceAdd,reduceMul,reduceLeDiff,gF,setF]
 refine hK _ _ ?_;clear hK K
 refine W.block ?_
 refine W.loop [0,1,2,4] (fun n vs S => vs = [.loc F.length ver 0 l.length,.int .i64 0,.int .i64 l.length,.fn f [.ip cs 0]] ∧ S = ⟨F ++ .arr ver 3 1 (l.map (.int .i64)) :: R,t⟩) 0 ?_ ?_
 ·refine ⟨_,?_,take_all⟩
  simp [Env.put,Env.of,argEnv]
 rintro n vs S - ⟨rfl,rfl⟩
 refine W.block ?_
 refine W.r fun K hK => ?_
 simp (disch := omega) only [↓RU,RV,RH,↓reduceIte,reduceEqDiff,reduceCtorEq,if_pos,w64,↓RS,RG,reduceAdd,reduceMul,reduceLeDiff,tyint,gF,setF]
 refine hK _ _ ?_;clear hK K
 refine W.seq ?_
 refine W.r fun K hK => ?_
 simp (disch := omega) only [↓RU,RV,RH,↓reduceIte,reduceEqDiff,reduceCtorEq,if_pos,w64,↓RS,RG,reduceAdd,reduceMul,reduceLeDiff,tyint,gF,setF]
 refine hK _ _ ?_;clear hK K
 refine W.cond rfl (fun h => ?_) (fun h => ?_)
 ·try simp only [RL] at h
  refine W.r fun K hK => ?_
  simp (disch := omega) only [↓RU,RV,RH,↓reduceIte,reduceEqDiff,reduceCtorEq,if_pos,List.append_nil,↓RS,RG,reduceAdd,reduceMul,reduceLeDiff,gF,setF]
  refine CallR.ev (insortF_ev hf hg (by omega) h1) ?_
  rintro _ _ ⟨rfl,z,hz1,hz2,rfl⟩
  simp (disch := omega) only [↓RU,RV,RH,↓reduceIte,reduceEqDiff,reduceCtorEq,if_pos,List.append_nil,↓RS,RG,reduceAdd,reduceMul,reduceLeDiff,gF,setF]
  refine hK _ _ ?_;clear hK K
  refine W.ret ?_
  refine XThen.ret ?_
  refine XBlock.ret ?_
  refine XThen.ret ?_
  refine XBlock.ret ?_
  refine Br rfl ?_
  exact ⟨_,rfl,z,hz1,hz2,take_all⟩
 ·try simp only [RL] at h
  exact absurd (show (l.length : Int) ≤ 12 by omega) h
theorem sortF_ev {F R : List Ob} {ver t : Nat} {l : List Int} {f : FuncId} {cs : List PV} {cm : Int → Int → Int} {g : Int → Int} (hf : ∀ x y,x ∈ l → y ∈ l → PC Tryz.prog f [.int .i64 x,.int .i64 y,.ip cs 0] (.int .i64 (cm x y)) true) (hg : ∀ x y,x ∈ l → y ∈ l → (cm x y < 0 ↔ g x < g y)) (h9 : l.length ≤ 9) (h1 : 1 ≤ l.length) : Ev Tryz.prog 167 [.loc F.length ver 0 l.length,.fn f [.ip cs 0]] ⟨F ++ .arr ver 3 1 (l.map (.int .i64)) :: R,t⟩ fun v S => v = .tup [] ∧ ∃ z : List Int,z.Perm l ∧ (z.map g).Pairwise (· ≤ ·) ∧ S = ⟨F ++ .arr ver 3 1 (z.map (.int .i64)) :: R,t⟩ := by
 refine Ev.of ⟨Tryz.func167,by kernel_rfl,rfl,by kernel_rfl⟩ tabOk mixed (by show 2 ≤ Tryz.f167.ntmps; decide) ?_
 refine W.r fun K hK => ?_
 simp (disch := omega) only [↓RU,RV,RH,↓reduceIte,reduceEqDiff,reduceCtorEq,if_pos,↓RS,RG,reduceAdd,reduceMul,reduceLeDiff,tyLint,tyint,gF,setF]
 refine hK _ _ ?_;clear hK K
 refine W.k fun K hK => ?_
 obtain hk | hk | hk | hk | hk | hk | hk | hk | hk : l.length = 1 ∨ l.length = 2 ∨ l.length = 3 ∨ l.length = 4 ∨ l.length = 5 ∨ l.length = 6 ∨ l.length = 7 ∨ l.length = 8 ∨ l.length = 9 := by omega
 ·skip
  have hw : IntKind.u64.wrap ((l.length : Nat) : Int) = 1 := by rw [hk]; rfl
  simp (disch := omega) only [↓RU,RV,RH,↓reduceIte,reduceEqDiff,reduceCtorEq,if_pos,w64,List.append_nil,↓RS,RG,reduceAdd,reduceMul,reduceLeDiff,tyint,tyuint,gF,setF,hw]
  refine CallR.pc (len_1) rfl (.inl rfl) ?_
  simp (disch := omega) only [↓RU,RV,RH,↓reduceIte,reduceEqDiff,reduceCtorEq,if_pos,w64,List.append_nil,↓RS,RG,reduceAdd,reduceMul,reduceLeDiff,tyint,tyuint,gF,setF,hw]
  refine CallR.ev (pdqF_ev hf hg (by omega) (by omega) 1) ?_
  rintro _ _ ⟨rfl,z,hz1,hz2,rfl⟩
  simp (disch := omega) only [↓RU,RV,RH,↓reduceIte,reduceEqDiff,reduceCtorEq,if_pos,w64,List.append_nil,↓RS,RG,reduceAdd,reduceMul,reduceLeDiff,tyint,tyuint,gF,setF,hw]
  refine hK _ _ ?_;clear hK K
  refine BodyQ.norm rfl ?_
  exact ⟨_,rfl,z,hz1,hz2,take_all⟩
 ·skip
  have hw : IntKind.u64.wrap ((l.length : Nat) : Int) = 2 := by rw [hk]; rfl
  simp (disch := omega) only [↓RU,RV,RH,↓reduceIte,reduceEqDiff,reduceCtorEq,if_pos,w64,List.append_nil,↓RS,RG,reduceAdd,reduceMul,reduceLeDiff,tyint,tyuint,gF,setF,hw]
  refine CallR.pc (len_2) rfl (.inl rfl) ?_
  simp (disch := omega) only [↓RU,RV,RH,↓reduceIte,reduceEqDiff,reduceCtorEq,if_pos,w64,List.append_nil,↓RS,RG,reduceAdd,reduceMul,reduceLeDiff,tyint,tyuint,gF,setF,hw]
  refine CallR.ev (pdqF_ev hf hg (by omega) (by omega) 2) ?_
  rintro _ _ ⟨rfl,z,hz1,hz2,rfl⟩
  simp (disch := omega) only [↓RU,RV,RH,↓reduceIte,reduceEqDiff,reduceCtorEq,if_pos,w64,List.append_nil,↓RS,RG,reduceAdd,reduceMul,reduceLeDiff,tyint,tyuint,gF,setF,hw]
  refine hK _ _ ?_;clear hK K
  refine BodyQ.norm rfl ?_
  exact ⟨_,rfl,z,hz1,hz2,take_all⟩
 ·skip
  have hw : IntKind.u64.wrap ((l.length : Nat) : Int) = 3 := by rw [hk]; rfl
  simp (disch := omega) only [↓RU,RV,RH,↓reduceIte,reduceEqDiff,reduceCtorEq,if_pos,w64,List.append_nil,↓RS,RG,reduceAdd,reduceMul,reduceLeDiff,tyint,tyuint,gF,setF,hw]
  refine CallR.pc (len_3) rfl (.inl rfl) ?_
  simp (disch := omega) only [↓RU,RV,RH,↓reduceIte,reduceEqDiff,reduceCtorEq,if_pos,w64,List.append_nil,↓RS,RG,reduceAdd,reduceMul,reduceLeDiff,tyint,tyuint,gF,setF,hw]
  refine CallR.ev (pdqF_ev hf hg (by omega) (by omega) 2) ?_
  rintro _ _ ⟨rfl,z,hz1,hz2,rfl⟩
  simp (disch := omega) only [↓RU,RV,RH,↓reduceIte,reduceEqDiff,reduceCtorEq,if_pos,w64,List.append_nil,↓RS,RG,reduceAdd,reduceMul,reduceLeDiff,tyint,tyuint,gF,setF,hw]
  refine hK _ _ ?_;clear hK K
  refine BodyQ.norm rfl ?_
  exact ⟨_,rfl,z,hz1,hz2,take_all⟩
 ·skip
  have hw : IntKind.u64.wrap ((l.length : Nat) : Int) = 4 := by rw [hk]; rfl
  simp (disch := omega) only [↓RU,RV,RH,↓reduceIte,reduceEqDiff,reduceCtorEq,if_pos,w64,List.append_nil,↓RS,RG,reduceAdd,reduceMul,reduceLeDiff,tyint,tyuint,gF,setF,hw]
  refine CallR.pc (len_4) rfl (.inl rfl) ?_
  simp (disch := omega) only [↓RU,RV,RH,↓reduceIte,reduceEqDiff,reduceCtorEq,if_pos,w64,List.append_nil,↓RS,RG,reduceAdd,reduceMul,reduceLeDiff,tyint,tyuint,gF,setF,hw]
  refine CallR.ev (pdqF_ev hf hg (by omega) (by omega) 3) ?_
  rintro _ _ ⟨rfl,z,hz1,hz2,rfl⟩
  simp (disch := omega) only [↓RU,RV,RH,↓reduceIte,reduceEqDiff,reduceCtorEq,if_pos,w64,List.append_nil,↓RS,RG,reduceAdd,reduceMul,reduceLeDiff,tyint,tyuint,gF,setF,hw]
  refine hK _ _ ?_;clear hK K
  refine BodyQ.norm rfl ?_
  exact ⟨_,rfl,z,hz1,hz2,take_all⟩
 ·skip
  have hw : IntKind.u64.wrap ((l.length : Nat) : Int) = 5 := by rw [hk]; rfl
  simp (disch := omega) only [↓RU,RV,RH,↓reduceIte,reduceEqDiff,reduceCtorEq,if_pos,w64,List.append_nil,↓RS,RG,reduceAdd,reduceMul,reduceLeDiff,tyint,tyuint,gF,setF,hw]
  refine CallR.pc (len_5) rfl (.inl rfl) ?_
  simp (disch := omega) only [↓RU,RV,RH,↓reduceIte,reduceEqDiff,reduceCtorEq,if_pos,w64,List.append_nil,↓RS,RG,reduceAdd,reduceMul,reduceLeDiff,tyint,tyuint,gF,setF,hw]
  refine CallR.ev (pdqF_ev hf hg (by omega) (by omega) 3) ?_
  rintro _ _ ⟨rfl,z,hz1,hz2,rfl⟩
  simp (disch := omega) only [↓RU,RV,RH,↓reduceIte,reduceEqDiff,reduceCtorEq,if_pos,w64,List.append_nil,↓RS,RG,reduceAdd,reduceMul,reduceLeDiff,tyint,tyuint,gF,setF,hw]
  refine hK _ _ ?_;clear hK K
  refine BodyQ.norm rfl ?_
  exact ⟨_,rfl,z,hz1,hz2,take_all⟩
 ·skip
  have hw : IntKind.u64.wrap ((l.length : Nat) : Int) = 6 := by rw [hk]; rfl
  simp (disch := omega) only [↓RU,RV,RH,↓reduceIte,reduceEqDiff,reduceCtorEq,if_pos,w64,List.append_nil,↓RS,RG,reduceAdd,reduceMul,reduceLeDiff,tyint,tyuint,gF,setF,hw]
  refine CallR.pc (len_6) rfl (.inl rfl) ?_
  simp (disch := omega) only [↓RU,RV,RH,↓reduceIte,reduceEqDiff,reduceCtorEq,if_pos,w64,List.append_nil,↓RS,RG,reduceAdd,reduceMul,reduceLeDiff,tyint,tyuint,gF,setF,hw]
  refine CallR.ev (pdqF_ev hf hg (by omega) (by omega) 3) ?_
  rintro _ _ ⟨rfl,z,hz1,hz2,rfl⟩
  simp (disch := omega) only [↓RU,RV,RH,↓reduceIte,reduceEqDiff,reduceCtorEq,if_pos,w64,List.append_nil,↓RS,RG,reduceAdd,reduceMul,reduceLeDiff,tyint,tyuint,gF,setF,hw]
  refine hK _ _ ?_;clear hK K
  refine BodyQ.norm rfl ?_
  exact ⟨_,rfl,z,hz1,hz2,take_all⟩
 ·skip
  have hw : IntKind.u64.wrap ((l.length : Nat) : Int) = 7 := by rw [hk]; rfl
  simp (disch := omega) only [↓RU,RV,RH,↓reduceIte,reduceEqDiff,reduceCtorEq,if_pos,w64,List.append_nil,↓RS,RG,reduceAdd,reduceMul,reduceLeDiff,tyint,tyuint,gF,setF,hw]
  refine CallR.pc (len_7) rfl (.inl rfl) ?_
  simp (disch := omega) only [↓RU,RV,RH,↓reduceIte,reduceEqDiff,reduceCtorEq,if_pos,w64,List.append_nil,↓RS,RG,reduceAdd,reduceMul,reduceLeDiff,tyint,tyuint,gF,setF,hw]
  refine CallR.ev (pdqF_ev hf hg (by omega) (by omega) 3) ?_
  rintro _ _ ⟨rfl,z,hz1,hz2,rfl⟩
  simp (disch := omega) only [↓RU,RV,RH,↓reduceIte,reduceEqDiff,reduceCtorEq,if_pos,w64,List.append_nil,↓RS,RG,reduceAdd,reduceMul,reduceLeDiff,tyint,tyuint,gF,setF,hw]
  refine hK _ _ ?_;clear hK K
  refine BodyQ.norm rfl ?_
  exact ⟨_,rfl,z,hz1,hz2,take_all⟩
 ·skip
  have hw : IntKind.u64.wrap ((l.length : Nat) : Int) = 8 := by rw [hk]; rfl
  simp (disch := omega) only [↓RU,RV,RH,↓reduceIte,reduceEqDiff,reduceCtorEq,if_pos,w64,List.append_nil,↓RS,RG,reduceAdd,reduceMul,reduceLeDiff,tyint,tyuint,gF,setF,hw]
  refine CallR.pc (len_8) rfl (.inl rfl) ?_
  simp (disch := omega) only [↓RU,RV,RH,↓reduceIte,reduceEqDiff,reduceCtorEq,if_pos,w64,List.append_nil,↓RS,RG,reduceAdd,reduceMul,reduceLeDiff,tyint,tyuint,gF,setF,hw]
  refine CallR.ev (pdqF_ev hf hg (by omega) (by omega) 4) ?_
  rintro _ _ ⟨rfl,z,hz1,hz2,rfl⟩
  simp (disch := omega) only [↓RU,RV,RH,↓reduceIte,reduceEqDiff,reduceCtorEq,if_pos,w64,List.append_nil,↓RS,RG,reduceAdd,reduceMul,reduceLeDiff,tyint,tyuint,gF,setF,hw]
  refine hK _ _ ?_;clear hK K
  refine BodyQ.norm rfl ?_
  exact ⟨_,rfl,z,hz1,hz2,take_all⟩
 ·skip
  have hw : IntKind.u64.wrap ((l.length : Nat) : Int) = 9 := by rw [hk]; rfl
  simp (disch := omega) only [↓RU,RV,RH,↓reduceIte,reduceEqDiff,reduceCtorEq,if_pos,w64,List.append_nil,↓RS,RG,reduceAdd,reduceMul,reduceLeDiff,tyint,tyuint,gF,setF,hw]
  refine CallR.pc (len_9) rfl (.inl rfl) ?_
  simp (disch := omega) only [↓RU,RV,RH,↓reduceIte,reduceEqDiff,reduceCtorEq,if_pos,w64,List.append_nil,↓RS,RG,reduceAdd,reduceMul,reduceLeDiff,tyint,tyuint,gF,setF,hw]
  refine CallR.ev (pdqF_ev hf hg (by omega) (by omega) 4) ?_
  rintro _ _ ⟨rfl,z,hz1,hz2,rfl⟩
  simp (disch := omega) only [↓RU,RV,RH,↓reduceIte,reduceEqDiff,reduceCtorEq,if_pos,w64,List.append_nil,↓RS,RG,reduceAdd,reduceMul,reduceLeDiff,tyint,tyuint,gF,setF,hw]
  refine hK _ _ ?_;clear hK K
  refine BodyQ.norm rfl ?_
  exact ⟨_,rfl,z,hz1,hz2,take_all⟩
section
theorem before_pc {L A : List (List Bool)} {n a b : Nat} (hL : Sq n L) (hA : Sq n A) (ha : a < n) (hb : b < n) : PC Tryz.prog 128 [(.agg [eRel L,eRel A]),.int .i64 a,.int .i64 b] (.bool (getB L a b || getB A a b)) true := by
 have hL1 := hL.1
 have hA1 := hA.1
 obtain ⟨row,hrow,hrl,hrb⟩ := hL.at_ ha hb
 obtain ⟨sow,hsow,hsl,hsb⟩ := hA.at_ ha hb
 refine PC.of ⟨Tryz.func128,by kernel_rfl,rfl,by kernel_rfl⟩ tabOk mixed (by show 3 ≤ Tryz.f128.ntmps; decide) ?_
 refine W.r fun K hK => ?_
 simp (disch := omega) only [↓RU,RV,RH,↓reduceIte,reduceEqDiff,reduceCtorEq,if_pos,↓RS,RG,reduceAdd,reduceMul,reduceLeDiff,ty0,ty2,tybool,ty12,ty14,ty22]
 refine hK _ _ ?_;clear hK K
 refine W.r fun K hK => ?_
 cases hc : getB L a b
 ·skip
  rw [hc] at hrb
  simp (disch := omega) only [↓RU,RV,RH,↓reduceIte,reduceEqDiff,reduceCtorEq,if_pos,↓RS,RG,reduceAdd,reduceMul,reduceLeDiff,ty0,ty2,tybool,ty12,ty14,ty22,hrow,hrl,hrb,hsow,hsl,hsb,hL1,hA1]
  refine hK _ _ ?_;clear hK K
  refine W.ret ?_
  refine Br rfl ?_
  rw [hc]
  rfl
 ·skip
  rw [hc] at hrb
  simp (disch := omega) only [↓RU,RV,RH,↓reduceIte,reduceEqDiff,reduceCtorEq,if_pos,↓RS,RG,reduceAdd,reduceMul,reduceLeDiff,ty0,ty2,tybool,ty12,ty14,ty22,hrow,hrl,hrb,hsow,hsl,hsb,hL1,hA1]
  refine hK _ _ ?_;clear hK K
  refine W.ret ?_
  refine Br rfl ?_
  rw [hc]
  rfl
theorem beforeSecond_pc {L A : List (List Bool)} {n a b : Nat} (hL : Sq n L) (hA : Sq n A) (ha : a < n) (hb : b < n) : PC Tryz.prog 129 [(.agg [eRel L,eRel A]),.int .i64 a,.int .i64 b] (.bool (getB L a b || getB A b a)) true := by
 have hL1 := hL.1
 have hA1 := hA.1
 obtain ⟨row,hrow,hrl,hrb⟩ := hL.at_ ha hb
 obtain ⟨sow,hsow,hsl,hsb⟩ := hA.at_ hb ha
 refine PC.of ⟨Tryz.func129,by kernel_rfl,rfl,by kernel_rfl⟩ tabOk mixed (by show 3 ≤ Tryz.f129.ntmps; decide) ?_
 refine W.r fun K hK => ?_
 simp (disch := omega) only [↓RU,RV,RH,↓reduceIte,reduceEqDiff,reduceCtorEq,if_pos,↓RS,RG,reduceAdd,reduceMul,reduceLeDiff,ty0,ty2,tybool,ty12,ty14,ty22]
 refine hK _ _ ?_;clear hK K
 refine W.r fun K hK => ?_
 cases hc : getB L a b
 ·skip
  rw [hc] at hrb
  simp (disch := omega) only [↓RU,RV,RH,↓reduceIte,reduceEqDiff,reduceCtorEq,if_pos,↓RS,RG,reduceAdd,reduceMul,reduceLeDiff,ty0,ty2,tybool,ty12,ty14,ty22,hrow,hrl,hrb,hsow,hsl,hsb,hL1,hA1]
  refine hK _ _ ?_;clear hK K
  refine W.ret ?_
  refine Br rfl ?_
  rw [hc]
  rfl
 ·skip
  rw [hc] at hrb
  simp (disch := omega) only [↓RU,RV,RH,↓reduceIte,reduceEqDiff,reduceCtorEq,if_pos,↓RS,RG,reduceAdd,reduceMul,reduceLeDiff,ty0,ty2,tybool,ty12,ty14,ty22,hrow,hrl,hrb,hsow,hsl,hsb,hL1,hA1]
  refine hK _ _ ?_;clear hK K
  refine W.ret ?_
  refine Br rfl ?_
  rw [hc]
  rfl
def cmV (b1 b2 : Bool) : Int := if b1 then -1 else if b2 then 1 else 0
theorem cmV_lt {b1 b2 : Bool} : cmV b1 b2 < 0 ↔ b1 = true := by cases b1 <;> cases b2 <;> simp [cmV]
theorem sorted1_pc {q : FuncId} {L A : List (List Bool)} {x y : Int} {b1 b2 : Bool} (h1 : PC Tryz.prog q [(.agg [eRel L,eRel A]),.int .i64 x,.int .i64 y] (.bool b1) true) (h2 : PC Tryz.prog q [(.agg [eRel L,eRel A]),.int .i64 y,.int .i64 x] (.bool b2) true) : PC Tryz.prog 168 [.int .i64 x,.int .i64 y,.ip [.bm q (.agg [eRel L,eRel A])] 0] (.int .i64 (cmV b1 b2)) true := by
 refine PC.of ⟨Tryz.func168,by kernel_rfl,rfl,by kernel_rfl⟩ tabOk mixed (by show 3 ≤ Tryz.f168.ntmps; decide) ?_
 refine W.r fun K hK => ?_
 simp (disch := omega) only [↓RU,RV,RH,↓reduceIte,reduceEqDiff,reduceCtorEq,if_pos,↓RS,RG,reduceAdd,reduceMul,reduceLeDiff]
 refine hK _ _ ?_;clear hK K
 refine W.seq ?_
 refine W.block ?_
 refine W.r fun K hK => ?_
 simp (disch := omega) only [↓RU,RV,RH,↓reduceIte,reduceEqDiff,reduceCtorEq,if_pos,List.append_nil,↓RS,RG,reduceAdd,reduceMul,reduceLeDiff,ty9]
 refine CallR.pc (h1) rfl (.inl rfl) ?_
 simp (disch := omega) only [↓RU,RV,RH,↓reduceIte,reduceEqDiff,reduceCtorEq,if_pos,List.append_nil,↓RS,RG,reduceAdd,reduceMul,reduceLeDiff,ty9]
 refine hK _ _ ?_;clear hK K
 refine W.cond rfl (fun k1 => ?_) (fun k1 => ?_)
 ·try simp only [RL] at k1
  refine W.r fun K hK => ?_
  simp (disch := omega) only [↓RU,RV,RH,↓reduceIte,reduceEqDiff,reduceCtorEq,if_pos,↓RS,RG,reduceAdd,reduceMul,reduceLeDiff]
  refine hK _ _ ?_;clear hK K
  refine W.ret ?_
  refine XBlock.ret ?_
  refine XThen.ret ?_
  refine Br rfl ?_
  subst k1
  rfl
 ·try simp only [RL] at k1
  refine W.r fun K hK => ?_
  simp (disch := omega) only [↓RU,RV,RH,↓reduceIte,reduceEqDiff,reduceCtorEq,if_pos,List.append_nil,↓RS,RG,reduceAdd,reduceMul,reduceLeDiff,ty9]
  refine CallR.pc (h2) rfl (.inl rfl) ?_
  simp (disch := omega) only [↓RU,RV,RH,↓reduceIte,reduceEqDiff,reduceCtorEq,if_pos,List.append_nil,↓RS,RG,reduceAdd,reduceMul,reduceLeDiff,ty9]
  refine hK _ _ ?_;clear hK K
  refine W.cond rfl (fun k2 => ?_) (fun k2 => ?_)
  ·try simp only [RL] at k2
   refine W.r fun K hK => ?_
   simp (disch := omega) only [↓RU,RV,RH,↓reduceIte,reduceEqDiff,reduceCtorEq,if_pos,↓RS,RG,reduceAdd,reduceMul,reduceLeDiff]
   refine hK _ _ ?_;clear hK K
   refine W.ret ?_
   refine XBlock.ret ?_
   refine XThen.ret ?_
   refine Br rfl ?_
   have k1 : b1 = false := by simpa using k1
   subst k1
   subst k2
   rfl
  ·try simp only [RL] at k2
   refine W.skip ?_
   refine XbN ?_
   refine xn ?_
   refine W.r fun K hK => ?_
   simp (disch := omega) only [↓RU,RV,RH,↓reduceIte,reduceEqDiff,reduceCtorEq,if_pos,↓RS,RG,reduceAdd,reduceMul,reduceLeDiff]
   refine hK _ _ ?_;clear hK K
   refine W.ret ?_
   refine Br rfl ?_
   have k1 : b1 = false := by simpa using k1
   have k2 : b2 = false := by simpa using k2
   subst k1
   subst k2
   rfl
theorem pure_oa {L A : List (List Bool)} : pureV 10 (.agg [eRel L,eRel A]) = true := rfl
section
variable {S : Store} {fr : Nat → Bool} {f : Nat}
theorem rfq_ref {o ver off : Nat} : rfq S fr (f + 1) (.ref o ver off) = if fr o = true then (S.cellsOf o ver).bind fun cells => (cells.mapM (rfq S fr f)).map (.ip · off) else none := rfl
theorem rfq_bm {g : FuncId} {b : PV} : rfq S fr (f + 1) (.bm g b) = some (.bm g b) := rfl
theorem cells_bm {g : FuncId} {b : PV} : (PV.bm g b).cells = [.bm g b] := rfl
theorem ic_bm {g : FuncId} {b : PV} : (PV.bm g b).isCell = true := rfl
end
theorem sorted_pn {q : FuncId} {L A : List (List Bool)} {n : Nat} (hL : Sq n L) (h1 : 1 ≤ n) (h9 : n ≤ 9) {bf : Nat → Nat → Bool} {f : Nat → Nat} (hq : ∀ a b : Nat,a < n → b < n → PC Tryz.prog q [(.agg [eRel L,eRel A]),.int .i64 a,.int .i64 b] (.bool (bf a b)) true) (hf : ∀ a b,a < n → b < n → (bf a b = true ↔ f a < f b)) {Z : List Int} (hZ : ∀ z : List Int,z.Perm (rooms n) → (z.map fun x => ((f x.toNat : Nat) : Int)).Pairwise (· ≤ ·) → z = Z) : PN Tryz.prog 127 [(.agg [eRel L,eRel A]),.bm q (.agg [eRel L,eRel A])] (.loc 0 0 0 n) [.arr 0 3 1 (Z.map (.int .i64))] false := by
 have hL1 := hL.1
 obtain ⟨l,hl,hln⟩ : ∃ l,l = rooms n ∧ l.length = n := ⟨_,rfl,rooms_len⟩
 subst hln
 have hmem : ∀ x,x ∈ l → ∃ a : Nat,x = a ∧ a < l.length := fun x hx => by rw [hl,mem_rooms] at hx; exact ⟨x.toNat,by omega,by omega⟩
 have hcm : ∀ x y,x ∈ l → y ∈ l → PC Tryz.prog 168 [.int .i64 x,.int .i64 y,.ip [.bm q (.agg [eRel L,eRel A])] 0] (.int .i64 (cmV (bf x.toNat y.toNat) (bf y.toNat x.toNat))) true := fun x y hx hy => by
  obtain ⟨a,rfl,ha⟩ := hmem x hx
  obtain ⟨b,rfl,hb⟩ := hmem y hy
  exact sorted1_pc (hq a b ha hb) (hq b a hb ha)
 have hlt : ∀ x y,x ∈ l → y ∈ l → (cmV (bf x.toNat y.toNat) (bf y.toNat x.toNat) < 0 ↔ (fun x : Int => ((f x.toNat : Nat) : Int)) x < (fun x : Int => ((f x.toNat : Nat) : Int)) y) := fun x y hx hy => by
  obtain ⟨a,rfl,ha⟩ := hmem x hx
  obtain ⟨b,rfl,hb⟩ := hmem y hy
  rw [cmV_lt,hf _ _ (by simpa using ha) (by simpa using hb)]
  simp only; omega
 refine PN.of ⟨Tryz.func127,by kernel_rfl,rfl,by kernel_rfl⟩ tabOk mixed (by show 2 ≤ Tryz.f127.ntmps; decide) ?_
 refine W.r fun K hK => ?_
 simp (disch := omega) only [↓RU,RV,RH,↓reduceIte,reduceEqDiff,reduceCtorEq,if_pos,↓RS,RG,reduceAdd,reduceMul,reduceLeDiff,ty0,ty2,tybool,ty9,ty12,ty14,ty22,cells_bm,ic_bm]
 refine hK _ _ ?_;clear hK K
 refine W.joinS [3,5] (fun vs S => ∃ t tk : Nat,vs = [.ip [.bm q (.agg [eRel L,eRel A])] 0,.loc 0 t 0 l.length] ∧ S = ⟨[.arr t 3 1 ((List.replicate l.length 0).map (.int .i64))],tk⟩) ?_ ?_
 ·
  refine W.k fun K hK => ?_
  simp (disch := omega) only [↓RU,RV,RH,↓reduceIte,reduceEqDiff,reduceCtorEq,if_pos,↓RS,RG,reduceAdd,reduceMul,reduceLeDiff,ty0,ty2,tyLint,tybool,ty12,ty14,tyint,ty22,hL1,repz_int,ile_true]
  refine hK _ _ ?_;clear hK K
  refine xn ?_
  refine ⟨0,[2],[.ip [.bm q (.agg [eRel L,eRel A])] 0,.loc 0 3 0 l.length],⟨[.arr 3 3 1 ((List.replicate l.length 0).map (.int .i64))],4⟩,?_,?_,3,4,rfl,rfl⟩
  ·simp [-List.mapM_map,Env.put,Env.of,argEnv,Srn_eq,rnObs_cons,rnObs_nil,rnOb_arr,rnOb_map,rn_loc,rn_ref,rn_mp,rn_int,rn_bool,rn_str,rn_ip,rn_sl,rn_nils,rn_nilp,rn_undef,rn_agg,rn_tup,rn_fn,rfq_loc,rfq_int,rfq_bool,rfq_str,rfq_sl,frOf,List.range_succ,List.mapM_append,List.mapM_cons,rfq_ref,rfq_bm,Store.cellsOf]
  ·simp [-List.mapM_map,Env.put,Env.of,argEnv,Srn_eq,rnObs_cons,rnObs_nil,rnOb_arr,rnOb_map,rn_loc,rn_ref,rn_mp,rn_int,rn_bool,rn_str,rn_ip,rn_sl,rn_nils,rn_nilp,rn_undef,rn_agg,rn_tup,rn_fn,rfq_loc,rfq_int,rfq_bool,rfq_str,rfq_sl,frOf,List.range_succ,List.mapM_append,List.mapM_cons,rn_rep0]
 rintro vs S - ⟨t0,tk0,rfl,rfl⟩
 refine W.seq ?_
 refine W.r fun K hK => ?_
 simp (disch := omega) only [↓RU,RV,RH,↓reduceIte,reduceEqDiff,reduceCtorEq,if_pos,↓RS,RG,reduceAdd,reduceMul,reduceLeDiff,tyLint,tyint]
 refine hK _ _ ?_;clear hK K
 refine W.block ?_
 refine W.loop [3,5,12,13] (fun n vs S => ∃ i t tk : Nat,n = l.length - i ∧ i ≤ l.length ∧ vs = [.ip [.bm q (.agg [eRel L,eRel A])] 0,.loc 0 t 0 l.length,.int .i64 l.length,.int .i64 i] ∧ S = ⟨[.arr t 3 1 ((l.take i ++ List.replicate (l.length - i) 0).map (.int .i64))],tk⟩) l.length ?_ ?_
 ·refine ⟨1,0,t0,tk0,rfl,by omega,?_,by simp [Store.take]⟩
  simp [Env.put,Env.of,argEnv]
 rintro n vs S - ⟨i,t,tk,rfl,h_i,rfl,rfl⟩
 refine W.r fun K hK => ?_
 simp (disch := omega) only [↓RU,RV,RH,↓reduceIte,reduceEqDiff,reduceCtorEq,if_pos,w64,↓RS,RG,reduceAdd,reduceMul,reduceLeDiff,tyint]
 refine hK _ _ ?_;clear hK K
 refine W.seq ?_
 refine W.cond rfl (fun h => ?_) (fun h => ?_)
 ·try simp only [RL] at h
  have hix : l[i]? = some (i : Int) := by rw [hl]; exact rooms_at (by omega)
  have hol : (l.take i ++ List.replicate (l.length - i) 0).length = l.length := by simp; omega
  refine W.skip ?_
  refine xn ?_
  refine W.seq ?_
  refine W.block ?_
  refine W.r fun K hK => ?_
  simp (disch := omega) only [↓RU,RV,RH,↓reduceIte,reduceEqDiff,reduceCtorEq,if_pos,↓RS,RG,reduceAdd,reduceMul,reduceLeDiff]
  refine hK _ _ ?_;clear hK K
  refine W.k fun K hK => ?_
  simp (disch := omega) only [↓RU,RV,RH,↓reduceIte,reduceEqDiff,reduceCtorEq,if_pos,↓RS,RG,reduceAdd,reduceMul,reduceLeDiff,tyLint,tyint,set_spl,set_int,hol]
  refine hK _ _ ?_;clear hK K
  refine XbN ?_
  refine xn ?_
  refine W.k fun K hK => ?_
  simp (disch := omega) only [↓RU,RV,RH,↓reduceIte,reduceEqDiff,reduceCtorEq,if_pos,w64,↓RS,RG,reduceAdd,reduceMul,reduceLeDiff,tyint]
  refine hK _ _ ?_;clear hK K
  refine xn ?_
  refine ⟨l.length - (i + 1),by omega,1,i + 1,t,tk,rfl,by omega,?_,?_⟩
  ·simp [Env.put,Env.of]
  ·simp only [take_eq,copy_succ hix]; rfl
 ·try simp only [RL] at h
  obtain rfl : l.length = i := by omega
  rw [List.take_length,Nat.sub_self]
  simp only [List.replicate_zero,List.append_nil]
  refine W.exit ?_
  refine xe ?_
  refine xe ?_
  refine XBlock.hit ?_
  refine xn ?_
  refine W.r fun K hK => ?_
  simp (disch := omega) only [↓RU,RV,RH,↓reduceIte,reduceEqDiff,reduceCtorEq,if_pos,List.append_nil,↓RS,RG,reduceAdd,reduceMul,reduceLeDiff]
  refine CallR.ev (sortF_ev (F := []) (R := []) hcm hlt h9 h1) ?_
  rintro _ _ ⟨rfl,z,hz1,hz2,rfl⟩
  simp (disch := omega) only [↓RU,RV,RH,↓reduceIte,reduceEqDiff,reduceCtorEq,if_pos,List.append_nil,↓RS,RG,reduceAdd,reduceMul,reduceLeDiff]
  refine hK _ _ ?_;clear hK K
  refine W.r fun K hK => ?_
  simp (disch := omega) only [↓RU,RV,RH,↓reduceIte,reduceEqDiff,reduceCtorEq,if_pos,↓RS,RG,reduceAdd,reduceMul,reduceLeDiff]
  refine hK _ _ ?_;clear hK K
  refine W.ret ?_
  refine Br rfl ?_
  have e := hZ z (by rw [← hl]; exact hz1) hz2
  subst e
  exact sh_one rfl (sh_ints _)
end

theorem countP_succ {f : Nat → Bool} {b : Nat} : (List.range (b + 1)).countP f = (List.range b).countP f + (if f b then 1 else 0) := by
 rw [List.range_succ,List.countP_append]; simp
theorem plain_spec {p : List Txt} (hp : plainB p = true) : gridB p = true ∧ l1Rooms p = (rP p).length ∧ (rP p).length ≤ 9 ∧ 1 ≤ (rP p).length ∧ (∀ a b,a < (rP p).length → b < (rP p).length → bitOf (allS p 0) a b = getB (lfM p) a b) ∧ ∀ a b,a < (rP p).length → b < (rP p).length → bitOf (allS p 1) a b = getB (abM p) a b := by
 have hpl := plain_plan hp
 have hN := plan_named hpl
 have hr := hN.rooms
 have h1 := hp
 rw [← plainI_plain] at h1
 have hok : okB p = true := by
  have h9 := h1
  unfold plainI floorI at h9
  simp only [Bool.and_eq_true] at h9
  exact h9.1.1
 obtain ⟨s0,s1⟩ := same_all hN.hg (n := (rP p).length) (by omega) (fun i j hi hj => hN.cell hi hj) gP_room
 exact ⟨hN.hg,hr,okB_rooms hok,okB_rooms1 hok,fun a b ha hb => (s0.2.2 a b ha hb).symm,fun a b ha hb => (s1.2.2 a b ha hb).symm⟩
theorem l5Sorted_pn {p : List Txt} (hs : Sm p) (hp : plainB p = true) (below : Bool) : PN Tryz.prog 132 [eStrs p,.bool below] (.loc 0 0 0 (rP p).length) [.arr 0 3 1 ((srt p below).map (.int .i64))] false := by
 obtain ⟨hg,hr,hn9,hn1,e0,e1⟩ := plain_spec hp
 have h9 : l1Rooms p ≤ 9 := by omega
 have hm0 := allS_msk hg h9 0
 have hm1 := allS_msk hg h9 1
 obtain ⟨f,hf,hi⟩ := bf_rank hp below
 have hahl : ∀ a,a < (rP p).length → ahK p below a < (rP p).length := fun a ha => by rw [ahK_is hf ha]; exact ahead_n ha
 obtain ⟨nr,hnr⟩ : ∃ nr : Nat,(rP p).length = nr := ⟨_,rfl⟩
 unfold srt
 rw [hnr] at hr hn9 hn1 e0 e1 hahl ⊢
 rw [show (l1Rooms p).toNat = nr by omega] at hm0 hm1
 have hml := hm0.1
 have hml1 := hm1.1
 refine PN.of ⟨Tryz.func132,by kernel_rfl,rfl,by kernel_rfl⟩ tabOk mixed (by show 2 ≤ Tryz.f132.ntmps; decide) ?_
 refine W.r fun K hK => ?_
 simp (disch := omega) only [↓RU,RV,RH,↓reduceIte,reduceEqDiff,reduceCtorEq,if_pos,↓RS,RG,reduceAdd,reduceMul,reduceLeDiff]
 refine hK _ _ ?_;clear hK K
 refine W.r fun K hK => ?_
 simp (disch := omega) only [↓RU,RV,RH,↓reduceIte,reduceEqDiff,reduceCtorEq,if_pos,List.append_nil,↓RS,RG,reduceAdd,reduceMul,reduceLeDiff]
 refine CallR.pc (l5All_pc hs hg h9 0) rfl (.inl rfl) ?_
 simp (disch := omega) only [↓RU,RV,RH,↓reduceIte,reduceEqDiff,reduceCtorEq,if_pos,List.append_nil,↓RS,RG,reduceAdd,reduceMul,reduceLeDiff]
 refine hK _ _ ?_;clear hK K
 refine W.r fun K hK => ?_
 simp (disch := omega) only [↓RU,RV,RH,↓reduceIte,reduceEqDiff,reduceCtorEq,if_pos,List.append_nil,↓RS,RG,reduceAdd,reduceMul,reduceLeDiff]
 refine CallR.pc (l5All_pc hs hg h9 1) rfl (.inl rfl) ?_
 simp (disch := omega) only [↓RU,RV,RH,↓reduceIte,reduceEqDiff,reduceCtorEq,if_pos,List.append_nil,↓RS,RG,reduceAdd,reduceMul,reduceLeDiff]
 refine hK _ _ ?_;clear hK K
 refine W.r fun K hK => ?_
 simp (disch := omega) only [↓RU,RV,RH,↓reduceIte,reduceEqDiff,reduceCtorEq,if_pos,↓RS,RG,reduceAdd,reduceMul,reduceLeDiff,tyLint,tyint,hml]
 refine hK _ _ ?_;clear hK K
 refine W.r fun K hK => ?_
 simp (disch := omega) only [↓RU,RV,RH,↓reduceIte,reduceEqDiff,reduceCtorEq,if_pos,↓RS,RG,reduceAdd,reduceMul,reduceLeDiff,tyLint,tyint,repz_int,ile_true]
 refine hK _ _ ?_;clear hK K
 refine W.seq ?_
 refine W.r fun K hK => ?_
 simp (disch := omega) only [↓RU,RV,RH,↓reduceIte,reduceEqDiff,reduceCtorEq,if_pos,↓RS,RG,reduceAdd,reduceMul,reduceLeDiff]
 refine hK _ _ ?_;clear hK K
 refine W.block ?_
 refine W.loop [0,1,5,6,7,8,9] (fun n vs S => ∃ a : Nat,n = nr - a ∧ a ≤ nr ∧ vs = [eStrs p,.bool below,eNats (allS p 0),eNats (allS p 1),.int .i64 nr,.loc 0 0 0 nr,.int .i64 a] ∧ S = ⟨[.arr 0 3 1 ((putAll (ahK p below) nr a).map (.int .i64))],1⟩) (nr) ?_ ?_
 ·refine ⟨1,0,rfl,Nat.zero_le _,?_,by simp [take_eq,putAll]⟩
  simp [Env.put,Env.of,argEnv]
 rintro n vs S - ⟨a,rfl,h_a,rfl,rfl⟩
 refine W.seq ?_
 refine W.r fun K hK => ?_
 simp (disch := omega) only [↓RU,RV,RH,↓reduceIte,reduceEqDiff,reduceCtorEq,if_pos,w64,↓RS,RG,reduceAdd,reduceMul,reduceLeDiff,tyint]
 refine hK _ _ ?_;clear hK K
 refine W.cond rfl (fun h => ?_) (fun h => ?_)
 ·try simp only [RL] at h
  have hal := putAll_len (ah := ahK p below) (n := nr) a
  have hah := hahl a (by omega)
  refine W.skip ?_
  refine xn ?_
  refine W.seq ?_
  refine W.block ?_
  refine W.r fun K hK => ?_
  simp (disch := omega) only [↓RU,RV,RH,↓reduceIte,reduceEqDiff,reduceCtorEq,if_pos,↓RS,RG,reduceAdd,reduceMul,reduceLeDiff]
  refine hK _ _ ?_;clear hK K
  refine W.seq ?_
  refine W.r fun K hK => ?_
  simp (disch := omega) only [↓RU,RV,RH,↓reduceIte,reduceEqDiff,reduceCtorEq,if_pos,↓RS,RG,reduceAdd,reduceMul,reduceLeDiff]
  refine hK _ _ ?_;clear hK K
  refine W.block ?_
  refine W.loop [0,1,5,6,7,8,9,10,11] (fun n vs S => ∃ b : Nat,n = nr - b ∧ b ≤ nr ∧ vs = [eStrs p,.bool below,eNats (allS p 0),eNats (allS p 1),.int .i64 nr,.loc 0 0 0 nr,.int .i64 a,.int .i64 (((List.range b).countP fun c => bfK p below c a) : Nat),.int .i64 b] ∧ S = ⟨[.arr 0 3 1 ((putAll (ahK p below) nr a).map (.int .i64))],1⟩) nr ?_ ?_
  ·refine ⟨1,0,rfl,Nat.zero_le _,?_,rfl⟩
   simp [Env.put,Env.of]
  rintro n vs S - ⟨b,rfl,h_b,rfl,rfl⟩
  refine W.seq ?_
  refine W.r fun K hK => ?_
  simp (disch := omega) only [↓RU,RV,RH,↓reduceIte,reduceEqDiff,reduceCtorEq,if_pos,w64,↓RS,RG,reduceAdd,reduceMul,reduceLeDiff,tyint]
  refine hK _ _ ?_;clear hK K
  refine W.cond rfl (fun h1 => ?_) (fun h1 => ?_)
  ·try simp only [RL] at h1
   have hcl : ((List.range b).countP fun c => bfK p below c a) ≤ b := by have := List.countP_le_length (p := fun c => bfK p below c a) (l := List.range b); simpa using this
   obtain ⟨m,hm,hm5⟩ := hm0.at_ (show b < nr by omega)
   obtain ⟨k,hk,hk5⟩ := hm1.at_ (show a < nr by omega)
   obtain ⟨o,ho,ho5⟩ := hm1.at_ (show b < nr by omega)
   have e0m := e0 b a (by omega) (by omega)
   have e1k := e1 a b (by omega) (by omega)
   have e1o := e1 b a (by omega) (by omega)
   rw [bitOf_is hm] at e0m
   rw [bitOf_is hk] at e1k
   rw [bitOf_is ho] at e1o
   refine W.skip ?_
   refine xn ?_
   refine W.seq ?_
   refine W.block ?_
   refine W.r fun K hK => ?_
   simp (disch := omega) only [↓RU,RV,RH,↓reduceIte,reduceEqDiff,reduceCtorEq,if_pos,w64,↓RS,RG,reduceAdd,reduceMul,reduceLeDiff,tyLint,tyint,hm,hml,pShr,w_bit]
   refine hK _ _ ?_;clear hK K
   refine W.join [0,1,5,6,7,8,9,10,11,12] (fun vs S => vs = [eStrs p,.bool below,eNats (allS p 0),eNats (allS p 1),.int .i64 nr,.loc 0 0 0 nr,.int .i64 a,.int .i64 (((List.range b).countP fun c => bfK p below c a) : Nat),.int .i64 b,.bool (bfK p below b a)] ∧ S = ⟨[.arr 0 3 1 ((putAll (ahK p below) nr a).map (.int .i64))],1⟩) ?_ ?_
   ·
    refine W.r fun K hK => ?_
    simp (disch := omega) only [↓RU,RV,RH,↓reduceIte,reduceEqDiff,reduceCtorEq,if_pos,↓RS,RG,reduceAdd,reduceMul,reduceLeDiff]
    refine hK _ _ ?_;clear hK K
    refine W.cond rfl (fun h2 => ?_) (fun h2 => ?_)
    ·try simp only [RL] at h2
     refine W.k fun K hK => ?_
     cases hx : m.testBit a
     ·skip
      simp (disch := omega) only [↓RU,RV,RH,↓reduceIte,reduceEqDiff,reduceCtorEq,if_pos,w64,↓RS,RG,reduceAdd,reduceMul,reduceLeDiff,tyLint,tyint,hk,hml1,pShr,w_bit]
      refine hK _ _ ?_;clear hK K
      refine xn ?_
      refine ⟨1,?_,?_⟩
      ·simp [Env.put,Env.of,bfK,bf2,h2,← e0m,← e1k,hx]
      ·rfl
     ·skip
      simp (disch := omega) only [↓RU,RV,RH,↓reduceIte,reduceEqDiff,reduceCtorEq,if_pos,w64,↓RS,RG,reduceAdd,reduceMul,reduceLeDiff,tyLint,tyint,hk,hml1,pShr,w_bit]
      refine hK _ _ ?_;clear hK K
      refine xn ?_
      refine ⟨1,?_,?_⟩
      ·simp [Env.put,Env.of,bfK,bf2,h2,← e0m,hx]
      ·rfl
    ·try simp only [RL] at h2
     refine W.k fun K hK => ?_
     cases hx : m.testBit a
     ·skip
      simp (disch := omega) only [↓RU,RV,RH,↓reduceIte,reduceEqDiff,reduceCtorEq,if_pos,w64,↓RS,RG,reduceAdd,reduceMul,reduceLeDiff,tyLint,tyint,ho,hml1,pShr,w_bit]
      refine hK _ _ ?_;clear hK K
      refine xn ?_
      refine ⟨1,?_,?_⟩
      ·simp [Env.put,Env.of,bfK,bf1,h2,← e0m,← e1o,hx]
      ·rfl
     ·skip
      simp (disch := omega) only [↓RU,RV,RH,↓reduceIte,reduceEqDiff,reduceCtorEq,if_pos,w64,↓RS,RG,reduceAdd,reduceMul,reduceLeDiff,tyLint,tyint,ho,hml1,pShr,w_bit]
      refine hK _ _ ?_;clear hK K
      refine xn ?_
      refine ⟨1,?_,?_⟩
      ·simp [Env.put,Env.of,bfK,bf1,h2,← e0m,hx]
      ·rfl
   rintro vs S - ⟨rfl,rfl⟩
   refine W.r fun K hK => ?_
   simp (disch := omega) only [↓RU,RV,RH,↓reduceIte,reduceEqDiff,reduceCtorEq,if_pos,↓RS,RG,reduceAdd,reduceMul,reduceLeDiff]
   refine hK _ _ ?_;clear hK K
   refine W.cond rfl (fun h3 => ?_) (fun h3 => ?_)
   ·try simp only [RL] at h3
    refine W.k fun K hK => ?_
    simp (disch := omega) only [↓RU,RV,RH,↓reduceIte,reduceEqDiff,reduceCtorEq,if_pos,w64,↓RS,RG,reduceAdd,reduceMul,reduceLeDiff,tyint]
    refine hK _ _ ?_;clear hK K
    refine XbN ?_
    refine xn ?_
    refine W.k fun K hK => ?_
    simp (disch := omega) only [↓RU,RV,RH,↓reduceIte,reduceEqDiff,reduceCtorEq,if_pos,w64,↓RS,RG,reduceAdd,reduceMul,reduceLeDiff,tyint]
    refine hK _ _ ?_;clear hK K
    refine xn ?_
    refine ⟨nr - (b + 1),by omega,1,b + 1,rfl,by omega,?_,rfl⟩
    simp only [countP_succ,h3]
    simp [Env.put,Env.of]
   ·try simp only [RL] at h3
    refine W.skip ?_
    refine XbN ?_
    refine xn ?_
    refine W.k fun K hK => ?_
    simp (disch := omega) only [↓RU,RV,RH,↓reduceIte,reduceEqDiff,reduceCtorEq,if_pos,w64,↓RS,RG,reduceAdd,reduceMul,reduceLeDiff,tyint]
    refine hK _ _ ?_;clear hK K
    refine xn ?_
    refine ⟨nr - (b + 1),by omega,1,b + 1,rfl,by omega,?_,rfl⟩
    simp only [countP_succ,h3]
    simp [Env.put,Env.of]
  ·try simp only [RL] at h1
   obtain rfl : nr = b := by omega
   have hcq : ((List.range nr).countP fun c => bfK p below c a) = ahK p below a := by unfold ahK; rw [hnr]
   refine W.exit ?_
   refine xe ?_
   refine xe ?_
   refine XBlock.hit ?_
   refine xn ?_
   refine W.k fun K hK => ?_
   rw [hcq]
   simp (disch := omega) only [↓RU,RV,RH,↓reduceIte,reduceEqDiff,reduceCtorEq,if_pos,↓RS,RG,reduceAdd,reduceMul,reduceLeDiff,tyLint,tyint,hal,set_spl,set_int]
   refine hK _ _ ?_;clear hK K
   refine XbN ?_
   refine xn ?_
   refine W.k fun K hK => ?_
   simp (disch := omega) only [↓RU,RV,RH,↓reduceIte,reduceEqDiff,reduceCtorEq,if_pos,w64,↓RS,RG,reduceAdd,reduceMul,reduceLeDiff,tyint]
   refine hK _ _ ?_;clear hK K
   refine xn ?_
   refine ⟨nr - (a + 1),by omega,1,a + 1,rfl,by omega,?_,?_⟩
   ·simp [Env.put,Env.of]
   ·simp only [take_eq,putAll]; rfl
 ·try simp only [RL] at h
  obtain rfl : nr = a := by omega
  refine W.exit ?_
  refine xe ?_
  refine xe ?_
  refine XBlock.hit ?_
  refine xn ?_
  refine W.r fun K hK => ?_
  simp (disch := omega) only [↓RU,RV,RH,↓reduceIte,reduceEqDiff,reduceCtorEq,if_pos,↓RS,RG,reduceAdd,reduceMul,reduceLeDiff]
  refine hK _ _ ?_;clear hK K
  refine W.ret ?_
  refine Br rfl ?_
  rw [← hnr]
  exact sh_one rfl (sh_ints _)
theorem PN.ints0 {P : Program} {f : FuncId} {args : List PV} {l : List Int} {n : Nat} {im : Bool} (h : PN P f args (.loc 0 0 0 n) [.arr 0 3 1 (l.map (.int .i64))] im) (h1 : args.mapM (reify ⟨[],0⟩ true 10) = some args) (hl : l.length = n) : PC P f args (eInts l) true := by
 refine PN.pc h h1 ?_
 subst hl
 simp only [up_loc,List.map_cons,List.map_nil,upOb_arr,up_ints,Nat.add_zero]
 exact reify_loc (k := 9) rfl (by simp) (mapM_int _)
theorem sortedK_pc {p : List Txt} (hv : plainI p = true) : PC Tryz.prog 127 [(.agg [eRel (lfM p),eRel (abM p)]),.bm 128 (.agg [eRel (lfM p),eRel (abM p)])] (eInts (srt p false)) true ∧ PC Tryz.prog 127 [(.agg [eRel (lfM p),eRel (abM p)]),.bm 129 (.agg [eRel (lfM p),eRel (abM p)])] (eInts (srt p true)) true := by
 have hok := (plain_okB hv).1
 have hn9 := okB_rooms hok
 have hn1 := okB_rooms1 hok
 have hlq := lfM_sq hv
 have haq := abM_sq hv
 have hp : plainB p = true := by rw [← plainI_plain]; exact hv
 obtain ⟨f,hf,hi⟩ := bf_rank hp false
 obtain ⟨g,hg,hj⟩ := bf_rank hp true
 exact ⟨PN.ints0 (sorted_pn (bf := bfK p false) hlq hn1 hn9 (fun a b ha hb => before_pc hlq haq ha hb) hf (fun z h1 h2 => srt_is hf hi h1 h2)) rfl srt_len,
  PN.ints0 (sorted_pn (bf := bfK p true) hlq hn1 hn9 (fun a b ha hb => beforeSecond_pc hlq haq ha hb) hg (fun z h1 h2 => srt_is hg hj h1 h2)) rfl srt_len⟩
theorem indexOf_pc {l : List Int} (hl : l.length < 2147483648) {x : Int} {i : Nat} (hx : l[i]? = some x) (hi : ∀ (j : Nat),j < i → l[j]? ≠ some x) : PC Tryz.prog 130 [eInts l,.int .i64 x] (.int .i64 i) true := by
 refine PC.of ⟨Tryz.func130,by kernel_rfl,rfl,by kernel_rfl⟩ tabOk mixed (by show 2 ≤ Tryz.f130.ntmps; decide) ?_
 refine W.r fun K hK => ?_
 simp (disch := omega) only [↓RU,RV,RH,↓reduceIte,reduceEqDiff,reduceCtorEq,if_pos]
 refine hK _ _ ?_;clear hK K
 refine W.seq ?_
 refine W.r fun K hK => ?_
 simp (disch := omega) only [↓RU,RV,RH,↓reduceIte,reduceEqDiff,reduceCtorEq,if_pos,tyLint,tyint]
 refine hK _ _ ?_;clear hK K
 refine W.block ?_
 refine W.loop [0,1,7,8] (fun n vs S => ∃ j : Nat,n = l.length - j ∧ j ≤ l.length ∧ (j ≤ i) ∧ vs = [eInts l,.int .i64 x,.int .i64 l.length,.int .i64 j] ∧ S = ⟨[],0⟩) (l.length) ?_ ?_
 ·refine ⟨0,0,rfl,Nat.zero_le _,Nat.zero_le _,?_,rfl⟩
  simp [Env.put,Env.of,argEnv]
 rintro n vs S - ⟨j,rfl,h_j,hji,rfl,rfl⟩
 refine W.r fun K hK => ?_
 simp (disch := omega) only [↓RU,RV,RH,↓reduceIte,reduceEqDiff,reduceCtorEq,if_pos,w64,tyint]
 refine hK _ _ ?_;clear hK K
 refine W.seq ?_
 refine W.cond rfl (fun h => ?_) (fun h => ?_)
 ·try simp only [RL] at h
  obtain ⟨y,hy,-⟩ := get_of (show j < l.length by omega)
  refine W.skip ?_
  refine xn ?_
  refine W.seq ?_
  refine W.block ?_
  refine W.r fun K hK => ?_
  simp (disch := omega) only [↓RU,RV,RH,↓reduceIte,reduceEqDiff,reduceCtorEq,if_pos]
  refine hK _ _ ?_;clear hK K
  refine W.r fun K hK => ?_
  simp (disch := omega) only [↓RU,RV,RH,↓reduceIte,reduceEqDiff,reduceCtorEq,if_pos,w64,tyLint,tyint,hy]
  refine hK _ _ ?_;clear hK K
  refine W.cond rfl (fun h1 => ?_) (fun h1 => ?_)
  ·try simp only [RL] at h1
   have e : x = y := by simpa using h1
   have hij : j = i := by
    refine Classical.byContradiction fun k => hi j (by omega) (by rw [hy,e])
   subst hij
   refine W.r fun K hK => ?_
   simp (disch := omega) only [↓RU,RV,RH,↓reduceIte,reduceEqDiff,reduceCtorEq,if_pos]
   refine hK _ _ ?_;clear hK K
   refine W.ret ?_
   refine XBlock.ret ?_
   refine XThen.ret ?_
   refine XThen.ret ?_
   refine XBlock.ret ?_
   refine XThen.ret ?_
   refine Br rfl ?_
   rfl
  ·try simp only [RL] at h1
   have hne : j ≠ i := by rintro rfl; rw [hx] at hy; cases hy; simp at h1
   refine W.skip ?_
   refine XbN ?_
   refine xn ?_
   refine W.k fun K hK => ?_
   simp (disch := omega) only [↓RU,RV,RH,↓reduceIte,reduceEqDiff,reduceCtorEq,if_pos,w64,tyint]
   refine hK _ _ ?_;clear hK K
   refine xn ?_
   refine ⟨l.length - (j + 1),by omega,0,j + 1,rfl,by omega,by have := hne; omega,?_,rfl⟩
   simp [Env.put,Env.of]
 ·try simp only [RL] at h
  exact absurd (len_of hx) (by omega)
theorem perm_pn {p : List Txt} (hv : plainI p = true) : PN Tryz.prog 71 [(.agg [eRel (lfM p),eRel (abM p)])] (.loc 0 0 0 (rP p).length) [.arr 0 3 1 ((permV p).map (.int .i64))] false := by
 have hok := (plain_okB hv).1
 have hn9 := okB_rooms hok
 have hn1 := okB_rooms1 hok
 have hlq := lfM_sq hv
 have haq := abM_sq hv
 have hp : plainB p = true := by rw [← plainI_plain]; exact hv
 obtain ⟨hs1,hs2⟩ := sortedK_pc hv
 have hl1 := srt_len (p := p) (below := false)
 have hl2 := srt_len (p := p) (below := true)
 have hpl := permV_len (p := p)
 refine PN.of ⟨Tryz.func71,by kernel_rfl,rfl,by kernel_rfl⟩ tabOk mixed (by show 1 ≤ Tryz.f71.ntmps; decide) ?_
 refine W.r fun K hK => ?_
 simp (disch := omega) only [↓RU,RV,RH,↓reduceIte,reduceEqDiff,reduceCtorEq,if_pos,↓RS,RG,reduceAdd,reduceMul,reduceLeDiff,ty0,ty2,tybool,ty12,ty14,ty22]
 refine hK _ _ ?_;clear hK K
 refine W.r fun K hK => ?_
 simp (disch := omega) only [↓RU,RV,RH,↓reduceIte,reduceEqDiff,reduceCtorEq,if_pos,List.append_nil,↓RS,RG,reduceAdd,reduceMul,reduceLeDiff,ty0,ty2,tybool,ty12,ty14,ty22,pure_oa,List.isEmpty_nil,Bool.and_self]
 refine CallR.pc (hs1) rfl (.inl rfl) ?_
 simp (disch := omega) only [↓RU,RV,RH,↓reduceIte,reduceEqDiff,reduceCtorEq,if_pos,List.append_nil,↓RS,RG,reduceAdd,reduceMul,reduceLeDiff,ty0,ty2,tybool,ty12,ty14,ty22,pure_oa,List.isEmpty_nil,Bool.and_self]
 refine hK _ _ ?_;clear hK K
 refine W.r fun K hK => ?_
 simp (disch := omega) only [↓RU,RV,RH,↓reduceIte,reduceEqDiff,reduceCtorEq,if_pos,List.append_nil,↓RS,RG,reduceAdd,reduceMul,reduceLeDiff,ty0,ty2,tybool,ty12,ty14,ty22,pure_oa,List.isEmpty_nil,Bool.and_self]
 refine CallR.pc (hs2) rfl (.inl rfl) ?_
 simp (disch := omega) only [↓RU,RV,RH,↓reduceIte,reduceEqDiff,reduceCtorEq,if_pos,List.append_nil,↓RS,RG,reduceAdd,reduceMul,reduceLeDiff,ty0,ty2,tybool,ty12,ty14,ty22,pure_oa,List.isEmpty_nil,Bool.and_self]
 refine hK _ _ ?_;clear hK K
 refine W.joinS [3,4,5] (fun vs S => ∃ t tk : Nat,vs = [eInts (srt p false),eInts (srt p true),.loc 0 t 0 (rP p).length] ∧ S = ⟨[.arr t 3 1 ((List.replicate (rP p).length 0).map (.int .i64))],tk⟩) ?_ ?_
 ·
  refine W.k fun K hK => ?_
  simp (disch := omega) only [↓RU,RV,RH,↓reduceIte,reduceEqDiff,reduceCtorEq,if_pos,↓RS,RG,reduceAdd,reduceMul,reduceLeDiff,tyLint,tyint,hl2,repz_int,ile_true]
  refine hK _ _ ?_;clear hK K
  refine xn ?_
  refine ⟨0,[1],[eInts (srt p false),eInts (srt p true),.loc 0 2 0 (rP p).length],⟨[.arr 2 3 1 ((List.replicate (rP p).length 0).map (.int .i64))],3⟩,?_,?_,2,3,rfl,rfl⟩
  ·simp [-List.mapM_map,Env.put,Env.of,argEnv,Srn_eq,rnObs_cons,rnObs_nil,rnOb_arr,rnOb_map,rn_loc,rn_ref,rn_mp,rn_int,rn_bool,rn_str,rn_ip,rn_sl,rn_nils,rn_nilp,rn_undef,rn_agg,rn_tup,rn_fn,rfq_loc,rfq_int,rfq_bool,rfq_str,rfq_sl,frOf,List.range_succ,List.mapM_append,List.mapM_cons,Store.cellsOf]
  ·simp [-List.mapM_map,Env.put,Env.of,argEnv,Srn_eq,rnObs_cons,rnObs_nil,rnOb_arr,rnOb_map,rn_loc,rn_ref,rn_mp,rn_int,rn_bool,rn_str,rn_ip,rn_sl,rn_nils,rn_nilp,rn_undef,rn_agg,rn_tup,rn_fn,rfq_loc,rfq_int,rfq_bool,rfq_str,rfq_sl,frOf,List.range_succ,List.mapM_append,List.mapM_cons,rn_rep0]
 rintro vs S - ⟨t0,tk0,rfl,rfl⟩
 refine W.seq ?_
 refine W.r fun K hK => ?_
 simp (disch := omega) only [↓RU,RV,RH,↓reduceIte,reduceEqDiff,reduceCtorEq,if_pos,↓RS,RG,reduceAdd,reduceMul,reduceLeDiff,tyLint,tyint]
 refine hK _ _ ?_;clear hK K
 refine W.block ?_
 refine W.loop [3,5,19,20,21] (fun n vs S => ∃ i t tk : Nat,n = (rP p).length - i ∧ i ≤ (rP p).length ∧ vs = [eInts (srt p false),.loc 0 t 0 (rP p).length,eInts (srt p true),.int .i64 (rP p).length,.int .i64 i] ∧ S = ⟨[.arr t 3 1 (((permV p).take i ++ List.replicate ((rP p).length - i) 0).map (.int .i64))],tk⟩) (rP p).length ?_ ?_
 ·refine ⟨1,0,t0,tk0,rfl,by omega,?_,by simp [Store.take]⟩
  simp [Env.put,Env.of,argEnv,hl2]
 rintro n vs S - ⟨i,t,tk,rfl,h_i,rfl,rfl⟩
 refine W.r fun K hK => ?_
 simp (disch := omega) only [↓RU,RV,RH,↓reduceIte,reduceEqDiff,reduceCtorEq,if_pos,w64,↓RS,RG,reduceAdd,reduceMul,reduceLeDiff,tyint]
 refine hK _ _ ?_;clear hK K
 refine W.seq ?_
 refine W.cond rfl (fun h => ?_) (fun h => ?_)
 ·try simp only [RL] at h
  obtain ⟨a,ha,ha2,hsa⟩ := srt_get (below := true) hp (show i < (rP p).length by omega)
  have hpa := permV_at hp hsa
  have hix := srt_at (below := false) hp ha
  have hin : ∀ j,j < ahK p false a → (srt p false)[j]? ≠ some (a : Int) := fun j hj k => by
   have k1 := len_of hix
   have k2 := len_of k
   rw [List.getElem?_eq_getElem k1] at hix
   rw [List.getElem?_eq_getElem k2] at k
   have := nodup_get (srt_nodup hp) k1 k2 ((Option.some.inj hix).trans (Option.some.inj k).symm)
   omega
  have hol : ((permV p).take i ++ List.replicate ((rP p).length - i) 0).length = (rP p).length := by simp [hpl]; omega
  refine W.skip ?_
  refine xn ?_
  refine W.seq ?_
  refine W.block ?_
  refine W.r fun K hK => ?_
  simp (disch := omega) only [↓RU,RV,RH,↓reduceIte,reduceEqDiff,reduceCtorEq,if_pos,↓RS,RG,reduceAdd,reduceMul,reduceLeDiff,tyLint,tyint,hsa]
  refine hK _ _ ?_;clear hK K
  refine W.k fun K hK => ?_
  simp (disch := omega) only [↓RU,RV,RH,↓reduceIte,reduceEqDiff,reduceCtorEq,if_pos,List.append_nil,↓RS,RG,reduceAdd,reduceMul,reduceLeDiff,tyLint,tyint,set_spl,set_int,hol]
  refine CallR.pc (indexOf_pc (by omega) hix hin) rfl (.inl rfl) ?_
  simp (disch := omega) only [↓RU,RV,RH,↓reduceIte,reduceEqDiff,reduceCtorEq,if_pos,List.append_nil,↓RS,RG,reduceAdd,reduceMul,reduceLeDiff,tyLint,tyint,set_spl,set_int,hol]
  refine hK _ _ ?_;clear hK K
  refine XbN ?_
  refine xn ?_
  refine W.k fun K hK => ?_
  simp (disch := omega) only [↓RU,RV,RH,↓reduceIte,reduceEqDiff,reduceCtorEq,if_pos,w64,↓RS,RG,reduceAdd,reduceMul,reduceLeDiff,tyint]
  refine hK _ _ ?_;clear hK K
  refine xn ?_
  refine ⟨(rP p).length - (i + 1),by omega,1,i + 1,t,tk,rfl,by omega,?_,?_⟩
  ·simp [Env.put,Env.of]
  ·rw [← hpl]; simp only [take_eq,copy_succ hpa]; rfl
 ·try simp only [RL] at h
  obtain rfl : i = (rP p).length := by omega
  rw [List.take_of_length_le (by omega),Nat.sub_self]
  simp only [List.replicate_zero,List.append_nil]
  refine W.exit ?_
  refine xe ?_
  refine xe ?_
  refine XBlock.hit ?_
  refine xn ?_
  refine W.r fun K hK => ?_
  simp (disch := omega) only [↓RU,RV,RH,↓reduceIte,reduceEqDiff,reduceCtorEq,if_pos,↓RS,RG,reduceAdd,reduceMul,reduceLeDiff]
  refine hK _ _ ?_;clear hK K
  refine W.ret ?_
  refine Br rfl ?_
  exact sh_one rfl (sh_ints _)
theorem perm_pc {p : List Txt} (hv : plainI p = true) : PC Tryz.prog 71 [.agg [eRel (lfM p),eRel (abM p)]] (eInts (permV p)) true := PN.ints0 (perm_pn hv) rfl permV_len
def ifL (b : Bool) (l : List Int) : List Int := if b then l else []
theorem plainI_is {p : List Txt} {b : Bool} (h : plainI p = b) : plainB p = b := by rw [← plainI_plain]; exact h
theorem l5Sorted_pc {p : List Txt} (hs : Sm p) (hp : plainB p = true) (below : Bool) : PC Tryz.prog 132 [eStrs p,.bool below] (eInts (srt p below)) true := PN.ints0 (l5Sorted_pn hs hp below) rfl srt_len
theorem orderPerm_no {p : List Txt} (hs : Sm p) (hv : plainI p = false) : PC Tryz.prog 22 [eStrs p] (.tup [eInts [],.bool false]) false := by
 refine PC.of ⟨Tryz.func22,by kernel_rfl,rfl,by kernel_rfl⟩ tabOk mixed (by show 1 ≤ Tryz.f22.ntmps; decide) ?_
 refine W.r fun K hK => ?_
 simp (disch := omega) only [↓RU,RV,RH,↓reduceIte,reduceEqDiff,reduceCtorEq,if_pos,↓RS,RG,reduceAdd,reduceMul,reduceLeDiff]
 refine hK _ _ ?_;clear hK K
 refine W.r fun K hK => ?_
 simp (disch := omega) only [↓RU,RV,RH,↓reduceIte,reduceEqDiff,reduceCtorEq,if_pos,List.append_nil,↓RS,RG,reduceAdd,reduceMul,reduceLeDiff,ty0,ty2,tybool,ty12,ty14,ty22]
 refine CallR.pc (ordersOf_no hs hv) rfl (.inr rfl) ?_
 simp (disch := omega) only [↓RU,RV,RH,↓reduceIte,reduceEqDiff,reduceCtorEq,if_pos,List.append_nil,↓RS,RG,reduceAdd,reduceMul,reduceLeDiff,ty0,ty2,tybool,ty12,ty14,ty22]
 refine hK _ _ ?_;clear hK K
 refine W.seq ?_
 refine W.r fun K hK => ?_
 simp (disch := omega) only [↓RU,RV,RH,↓reduceIte,reduceEqDiff,reduceCtorEq,if_pos,↓RS,RG,reduceAdd,reduceMul,reduceLeDiff]
 refine hK _ _ ?_;clear hK K
 refine W.cond rfl (fun h => ?_) (fun h => ?_)
 ·try simp only [RL] at h
  refine W.r fun K hK => ?_
  simp (disch := omega) only [↓RU,RV,RH,↓reduceIte,reduceEqDiff,reduceCtorEq,if_pos,↓RS,RG,reduceAdd,reduceMul,reduceLeDiff]
  refine hK _ _ ?_;clear hK K
  refine W.ret ?_
  refine XThen.ret ?_
  refine Br rfl ?_
  rfl
 ·try simp only [RL] at h
  exact absurd h (by simp)
theorem orderPerm_yes {p : List Txt} (hs : Sm p) (hv : plainI p = true) : PC Tryz.prog 22 [eStrs p] (.tup [eInts (permV p),.bool true]) false := by
 refine PC.of ⟨Tryz.func22,by kernel_rfl,rfl,by kernel_rfl⟩ tabOk mixed (by show 1 ≤ Tryz.f22.ntmps; decide) ?_
 refine W.r fun K hK => ?_
 simp (disch := omega) only [↓RU,RV,RH,↓reduceIte,reduceEqDiff,reduceCtorEq,if_pos,↓RS,RG,reduceAdd,reduceMul,reduceLeDiff]
 refine hK _ _ ?_;clear hK K
 refine W.r fun K hK => ?_
 simp (disch := omega) only [↓RU,RV,RH,↓reduceIte,reduceEqDiff,reduceCtorEq,if_pos,List.append_nil,↓RS,RG,reduceAdd,reduceMul,reduceLeDiff,ty0,ty2,tybool,ty12,ty14,ty22]
 refine CallR.pc (ordersOf_yes hs hv) rfl (.inr rfl) ?_
 simp (disch := omega) only [↓RU,RV,RH,↓reduceIte,reduceEqDiff,reduceCtorEq,if_pos,List.append_nil,↓RS,RG,reduceAdd,reduceMul,reduceLeDiff,ty0,ty2,tybool,ty12,ty14,ty22]
 refine hK _ _ ?_;clear hK K
 refine W.seq ?_
 refine W.r fun K hK => ?_
 simp (disch := omega) only [↓RU,RV,RH,↓reduceIte,reduceEqDiff,reduceCtorEq,if_pos,↓RS,RG,reduceAdd,reduceMul,reduceLeDiff]
 refine hK _ _ ?_;clear hK K
 refine W.cond rfl (fun h => ?_) (fun h => ?_)
 ·try simp only [RL] at h
  exact absurd h (by simp)
 ·try simp only [RL] at h
  refine W.skip ?_
  refine xn ?_
  refine W.r fun K hK => ?_
  simp (disch := omega) only [↓RU,RV,RH,↓reduceIte,reduceEqDiff,reduceCtorEq,if_pos,List.append_nil,↓RS,RG,reduceAdd,reduceMul,reduceLeDiff,ty0,ty2,tybool,ty12,ty14,ty22]
  refine CallR.pc (perm_pc hv) rfl (.inl rfl) ?_
  simp (disch := omega) only [↓RU,RV,RH,↓reduceIte,reduceEqDiff,reduceCtorEq,if_pos,List.append_nil,↓RS,RG,reduceAdd,reduceMul,reduceLeDiff,ty0,ty2,tybool,ty12,ty14,ty22]
  refine hK _ _ ?_;clear hK K
  refine W.ret ?_
  refine Br rfl ?_
  rfl
theorem orderPerm_pc {p : List Txt} (hs : Sm p) : PC Tryz.prog 22 [eStrs p] (.tup [eInts (ifL (plainI p) (permV p)),.bool (plainI p)]) false := by
 cases hv : plainI p with
 | false => exact orderPerm_no hs hv
 | true => exact orderPerm_yes hs hv
theorem l5Perm_pc {p : List Txt} (hs : Sm p) (hp : plainB p = true) : PC Tryz.prog 73 [eStrs p] (eInts (permV p)) true := by
 obtain ⟨hg,hr,hn9,hn1,-,-⟩ := plain_spec hp
 have hl1 := srt_len (p := p) (below := false)
 have hl2 := srt_len (p := p) (below := true)
 have hpl := permV_len (p := p)
 refine PC.of ⟨Tryz.func73,by kernel_rfl,rfl,by kernel_rfl⟩ tabOk mixed (by show 1 ≤ Tryz.f73.ntmps; decide) ?_
 refine W.r fun K hK => ?_
 simp (disch := omega) only [↓RU,RV,RH,↓reduceIte,reduceEqDiff,reduceCtorEq,if_pos,↓RS,RG,reduceAdd,reduceMul,reduceLeDiff]
 refine hK _ _ ?_;clear hK K
 refine W.r fun K hK => ?_
 simp (disch := omega) only [↓RU,RV,RH,↓reduceIte,reduceEqDiff,reduceCtorEq,if_pos,List.append_nil,↓RS,RG,reduceAdd,reduceMul,reduceLeDiff]
 refine CallR.pc (l5Sorted_pc hs hp false) rfl (.inl rfl) ?_
 simp (disch := omega) only [↓RU,RV,RH,↓reduceIte,reduceEqDiff,reduceCtorEq,if_pos,List.append_nil,↓RS,RG,reduceAdd,reduceMul,reduceLeDiff]
 refine hK _ _ ?_;clear hK K
 refine W.r fun K hK => ?_
 simp (disch := omega) only [↓RU,RV,RH,↓reduceIte,reduceEqDiff,reduceCtorEq,if_pos,List.append_nil,↓RS,RG,reduceAdd,reduceMul,reduceLeDiff]
 refine CallR.pc (l5Sorted_pc hs hp true) rfl (.inl rfl) ?_
 simp (disch := omega) only [↓RU,RV,RH,↓reduceIte,reduceEqDiff,reduceCtorEq,if_pos,List.append_nil,↓RS,RG,reduceAdd,reduceMul,reduceLeDiff]
 refine hK _ _ ?_;clear hK K
 refine W.r fun K hK => ?_
 simp (disch := omega) only [↓RU,RV,RH,↓reduceIte,reduceEqDiff,reduceCtorEq,if_pos,↓RS,RG,reduceAdd,reduceMul,reduceLeDiff,tyLint,tyint,hl1,repz_int,ile_true]
 refine hK _ _ ?_;clear hK K
 refine W.seq ?_
 refine W.r fun K hK => ?_
 simp (disch := omega) only [↓RU,RV,RH,↓reduceIte,reduceEqDiff,reduceCtorEq,if_pos,↓RS,RG,reduceAdd,reduceMul,reduceLeDiff]
 refine hK _ _ ?_;clear hK K
 refine W.block ?_
 refine W.loop [3,4,5,6] (fun n vs S => ∃ i t tv : Nat,n = (rP p).length - i ∧ i ≤ (rP p).length ∧ vs = [eInts (srt p false),eInts (srt p true),.loc 0 t 0 (rP p).length,.int .i64 i] ∧ S = ⟨[.arr t 3 1 ((plcF p i).map (.int .i64))],tv⟩) (rP p).length ?_ ?_
 ·refine ⟨1,0,0,1,rfl,by omega,?_,rfl⟩
  simp [Env.put,Env.of,argEnv]
 rintro n vs S - ⟨i,t,tv,rfl,h_i,rfl,rfl⟩
 refine W.seq ?_
 refine W.r fun K hK => ?_
 simp (disch := omega) only [↓RU,RV,RH,↓reduceIte,reduceEqDiff,reduceCtorEq,if_pos,w64,↓RS,RG,reduceAdd,reduceMul,reduceLeDiff,tyLint,tyint]
 refine hK _ _ ?_;clear hK K
 refine W.cond rfl (fun h => ?_) (fun h => ?_)
 ·try simp only [RL] at h
  obtain ⟨a,ha,ha2,hsa⟩ := srt_get (below := false) hp (show i < (rP p).length by omega)
  have hpl2 := plcF_len (p := p) i
  refine W.skip ?_
  refine xn ?_
  refine W.seq ?_
  refine W.block ?_
  refine W.k fun K hK => ?_
  simp (disch := omega) only [↓RU,RV,RH,↓reduceIte,reduceEqDiff,reduceCtorEq,if_pos,↓RS,RG,reduceAdd,reduceMul,reduceLeDiff,tyLint,tyint,hsa,hpl2,set_spl,set_int,Int.toNat_natCast]
  refine hK _ _ ?_;clear hK K
  refine XbN ?_
  refine xn ?_
  refine W.k fun K hK => ?_
  simp (disch := omega) only [↓RU,RV,RH,↓reduceIte,reduceEqDiff,reduceCtorEq,if_pos,w64,↓RS,RG,reduceAdd,reduceMul,reduceLeDiff,tyint]
  refine hK _ _ ?_;clear hK K
  refine xn ?_
  refine ⟨(rP p).length - (i + 1),by omega,1,i + 1,t,tv,rfl,by omega,?_,?_⟩
  ·simp [Env.put,Env.of]
  ·simp only [take_eq,plcF,getI_is hsa,Int.toNat_natCast]; rfl
 ·try simp only [RL] at h
  obtain rfl : i = (rP p).length := by omega
  have hpl2 := plcF_len (p := p) (rP p).length
  refine W.exit ?_
  refine xe ?_
  refine xe ?_
  refine XBlock.hit ?_
  refine xn ?_
  refine W.r fun K hK => ?_
  simp (disch := omega) only [↓RU,RV,RH,↓reduceIte,reduceEqDiff,reduceCtorEq,if_pos,↓RS,RG,reduceAdd,reduceMul,reduceLeDiff,tyLint,tyint]
  refine hK _ _ ?_;clear hK K
  refine W.seq ?_
  refine W.r fun K hK => ?_
  simp (disch := omega) only [↓RU,RV,RH,↓reduceIte,reduceEqDiff,reduceCtorEq,if_pos,↓RS,RG,reduceAdd,reduceMul,reduceLeDiff]
  refine hK _ _ ?_;clear hK K
  refine W.block ?_
  refine W.loop [4,5,7,8] (fun n vs S => ∃ k vo tk2 : Nat,n = (rP p).length - k ∧ k ≤ (rP p).length ∧ vs = [eInts (srt p true),.loc 0 t 0 (rP p).length,.loc 1 vo 0 k,.int .i64 k] ∧ S = ⟨[.arr t 3 1 ((plcF p (rP p).length).map (.int .i64)),.arr vo 3 1 (((permV p).take k).map (.int .i64))],tk2⟩) (rP p).length ?_ ?_
  ·refine ⟨2,0,tv,tv + 1,rfl,by omega,?_,by simp [take_eq]⟩
   simp [Env.put,Env.of]
  rintro n vs S - ⟨k,vo,tk2,rfl,h_k,rfl,rfl⟩
  refine W.seq ?_
  refine W.r fun K hK => ?_
  simp (disch := omega) only [↓RU,RV,RH,↓reduceIte,reduceEqDiff,reduceCtorEq,if_pos,w64,↓RS,RG,reduceAdd,reduceMul,reduceLeDiff,tyLint,tyint]
  refine hK _ _ ?_;clear hK K
  refine W.cond rfl (fun h1 => ?_) (fun h1 => ?_)
  ·try simp only [RL] at h1
   obtain ⟨b,hb,hb2,hsb⟩ := srt_get (below := true) hp (show k < (rP p).length by omega)
   have hpa := permV_at hp hsb
   have hpc := plcF_at hp (rP p).length (Nat.le_refl _) b hb (ahK_lt hp hb)
   have hol : (((permV p).take k)).length = k := by rw [List.length_take]; omega
   refine W.skip ?_
   refine xn ?_
   refine W.seq ?_
   refine W.block ?_
   refine W.k fun K hK => ?_
   simp (disch := omega) only [↓RU,RV,RH,↓reduceIte,reduceEqDiff,reduceCtorEq,if_pos,↓RS,RG,reduceAdd,reduceMul,reduceLeDiff,tyLint,tyint,hsb,hpc,hpl2,tk_i hol,Int.toNat_natCast]
   refine hK _ _ ?_;clear hK K
   refine XbN ?_
   refine xn ?_
   refine W.k fun K hK => ?_
   simp (disch := omega) only [↓RU,RV,RH,↓reduceIte,reduceEqDiff,reduceCtorEq,if_pos,w64,↓RS,RG,reduceAdd,reduceMul,reduceLeDiff,tyint]
   refine hK _ _ ?_;clear hK K
   refine xn ?_
   refine ⟨(rP p).length - (k + 1),by omega,2,k + 1,tk2 + 1,tk2 + 2,rfl,by omega,?_,?_⟩
   ·simp [Env.put,Env.of,tk_le]
   ·simp only [take_eq,tk hpa,List.map_append,← List.map_take]; simp [tk_le]
  ·try simp only [RL] at h1
   obtain rfl : k = (rP p).length := by omega
   refine W.exit ?_
   refine xe ?_
   refine xe ?_
   refine XBlock.hit ?_
   refine xn ?_
   refine W.r fun K hK => ?_
   simp (disch := omega) only [↓RU,RV,RH,↓reduceIte,reduceEqDiff,reduceCtorEq,if_pos,↓RS,RG,reduceAdd,reduceMul,reduceLeDiff]
   refine hK _ _ ?_;clear hK K
   refine W.ret ?_
   refine Br rfl ?_
   rw [List.take_of_length_le (by omega)]
   exact ((reify_loc (k := 9) rfl (by simp [hpl]) (mapM_int _)).trans (by rw [← hpl]))
theorem sOrderPerm_pc {p : List Txt} (hs : Sm p) : PC Tryz.prog 23 [eStrs p] (.tup [eInts (ifL (plainB p) (permV p)),.bool (plainB p)]) false := by
 refine PC.of ⟨Tryz.func23,by kernel_rfl,rfl,by kernel_rfl⟩ tabOk mixed (by show 1 ≤ Tryz.f23.ntmps; decide) ?_
 refine W.r fun K hK => ?_
 simp (disch := omega) only [↓RU,RV,RH,↓reduceIte,reduceEqDiff,reduceCtorEq,if_pos,↓RS,RG,reduceAdd,reduceMul,reduceLeDiff]
 refine hK _ _ ?_;clear hK K
 refine W.seq ?_
 refine W.r fun K hK => ?_
 simp (disch := omega) only [↓RU,RV,RH,↓reduceIte,reduceEqDiff,reduceCtorEq,if_pos,List.append_nil,↓RS,RG,reduceAdd,reduceMul,reduceLeDiff]
 refine CallR.pc (l5Plain_pc hs) rfl (.inl rfl) ?_
 simp (disch := omega) only [↓RU,RV,RH,↓reduceIte,reduceEqDiff,reduceCtorEq,if_pos,List.append_nil,↓RS,RG,reduceAdd,reduceMul,reduceLeDiff]
 refine hK _ _ ?_;clear hK K
 refine W.cond rfl (fun h0 => ?_) (fun h0 => ?_)
 ·try simp only [RL] at h0
  have h : plainB p = false := by simpa using h0
  refine W.r fun K hK => ?_
  simp (disch := omega) only [↓RU,RV,RH,↓reduceIte,reduceEqDiff,reduceCtorEq,if_pos,↓RS,RG,reduceAdd,reduceMul,reduceLeDiff,tyLint,tyint]
  refine hK _ _ ?_;clear hK K
  refine W.ret ?_
  refine XThen.ret ?_
  refine Br rfl ?_
  rw [h]
  rfl
 ·try simp only [RL] at h0
  have h : plainB p = true := by simpa using h0
  refine W.skip ?_
  refine xn ?_
  refine W.r fun K hK => ?_
  simp (disch := omega) only [↓RU,RV,RH,↓reduceIte,reduceEqDiff,reduceCtorEq,if_pos,List.append_nil,↓RS,RG,reduceAdd,reduceMul,reduceLeDiff]
  refine CallR.pc (l5Perm_pc hs h) rfl (.inl rfl) ?_
  simp (disch := omega) only [↓RU,RV,RH,↓reduceIte,reduceEqDiff,reduceCtorEq,if_pos,List.append_nil,↓RS,RG,reduceAdd,reduceMul,reduceLeDiff]
  refine hK _ _ ?_;clear hK K
  refine W.ret ?_
  refine Br rfl ?_
  rw [h]
  rfl
theorem l5Equal_pc {p q : List Int} (hp : p.length < 2147483648) (hq : q.length < 2147483648) : PC Tryz.prog 99 [eInts p,eInts q] (.bool (decide (p = q))) true := by
 refine PC.of ⟨Tryz.func99,by kernel_rfl,rfl,by kernel_rfl⟩ tabOk mixed (by show 2 ≤ Tryz.f99.ntmps; decide) ?_
 refine W.r fun K hK => ?_
 simp (disch := omega) only [↓RU,RV,RH,↓reduceIte,reduceEqDiff,reduceCtorEq,if_pos]
 refine hK _ _ ?_;clear hK K
 refine W.seq ?_
 refine W.r fun K hK => ?_
 simp (disch := omega) only [↓RU,RV,RH,↓reduceIte,reduceEqDiff,reduceCtorEq,if_pos,w64,tyLint,tyint]
 refine hK _ _ ?_;clear hK K
 refine W.cond rfl (fun h => ?_) (fun h => ?_)
 ·try simp only [RL] at h
  refine W.r fun K hK => ?_
  simp (disch := omega) only [↓RU,RV,RH,↓reduceIte,reduceEqDiff,reduceCtorEq,if_pos]
  refine hK _ _ ?_;clear hK K
  refine W.ret ?_
  refine XThen.ret ?_
  refine Br rfl ?_
  rw [show decide (p = q) = false by simp; rintro rfl; exact h rfl]
  rfl
 ·try simp only [RL] at h
  refine W.skip ?_
  refine xn ?_
  refine W.seq ?_
  refine W.r fun K hK => ?_
  simp (disch := omega) only [↓RU,RV,RH,↓reduceIte,reduceEqDiff,reduceCtorEq,if_pos]
  refine hK _ _ ?_;clear hK K
  refine W.block ?_
  refine W.loop [0,1,5] (fun n vs S => ∃ i : Nat,n = p.length - i ∧ i ≤ p.length ∧ (p.take i = q.take i) ∧ vs = [eInts p,eInts q,.int .i64 i] ∧ S = ⟨[],0⟩) (p.length) ?_ ?_
  ·refine ⟨0,0,rfl,Nat.zero_le _,rfl,?_,rfl⟩
   simp [Env.put,Env.of,argEnv]
  rintro n vs S - ⟨i,rfl,h_i,htk,rfl,rfl⟩
  refine W.seq ?_
  refine W.r fun K hK => ?_
  simp (disch := omega) only [↓RU,RV,RH,↓reduceIte,reduceEqDiff,reduceCtorEq,if_pos,w64,tyLint,tyint]
  refine hK _ _ ?_;clear hK K
  refine W.cond rfl (fun h1 => ?_) (fun h1 => ?_)
  ·try simp only [RL] at h1
   obtain ⟨x,hx,-⟩ := get_of (show i < p.length by omega)
   obtain ⟨y,hy,-⟩ := get_of (show i < q.length by omega)
   refine W.skip ?_
   refine xn ?_
   refine W.seq ?_
   refine W.block ?_
   refine W.seq_draw (by kernel_rfl) fun K hK => ?_
   simp (disch := omega) only [↓RU,RV,RH,↓reduceIte,reduceEqDiff,reduceCtorEq,if_pos,w64,tyLint,tyint,hx,hy]
   refine hK _ _ ?_;clear hK K
   refine W.cond rfl (fun h2 => ?_) (fun h2 => ?_)
   ·try simp only [RL] at h2
    refine W.r fun K hK => ?_
    simp (disch := omega) only [↓RU,RV,RH,↓reduceIte,reduceEqDiff,reduceCtorEq,if_pos]
    refine hK _ _ ?_;clear hK K
    refine W.ret ?_
    refine XBlock.ret ?_
    refine XThen.ret ?_
    refine XThen.ret ?_
    refine XBlock.ret ?_
    refine XThen.ret ?_
    refine Br rfl ?_
    rw [show decide (p = q) = false by simp; rintro rfl; rw [hx] at hy; simp_all]
    rfl
   ·try simp only [RL] at h2
    have h2 : x = y := by simpa using h2
    refine W.skip ?_
    refine XbN ?_
    refine xn ?_
    refine W.k fun K hK => ?_
    simp (disch := omega) only [↓RU,RV,RH,↓reduceIte,reduceEqDiff,reduceCtorEq,if_pos,w64,tyint]
    refine hK _ _ ?_;clear hK K
    refine xn ?_
    refine ⟨p.length - (i + 1),by omega,0,i + 1,rfl,by omega,take_eq_succ htk hx hy h2,?_,rfl⟩
    simp [Env.put,Env.of]
  ·try simp only [RL] at h1
   refine W.exit ?_
   refine xe ?_
   refine xe ?_
   refine XBlock.hit ?_
   refine xn ?_
   refine W.r fun K hK => ?_
   simp (disch := omega) only [↓RU,RV,RH,↓reduceIte,reduceEqDiff,reduceCtorEq,if_pos]
   refine hK _ _ ?_;clear hK K
   refine W.ret ?_
   refine Br rfl ?_
   have h1 : p.take i = p := List.take_of_length_le (by omega)
   have h2 : q.take i = q := List.take_of_length_le (by omega)
   rw [show decide (p = q) = true by simp; rw [← h1,← h2]; exact htk]
   rfl
theorem equalInts_pc {p q : List Int} (hp : p.length < 2147483648) (hq : q.length < 2147483648) : PC Tryz.prog 79 [eInts p,eInts q] (.bool (decide (p = q))) true := by
 refine PC.of ⟨Tryz.func79,by kernel_rfl,rfl,by kernel_rfl⟩ tabOk mixed (by show 2 ≤ Tryz.f79.ntmps; decide) ?_
 refine W.r fun K hK => ?_
 simp (disch := omega) only [↓RU,RV,RH,↓reduceIte,reduceEqDiff,reduceCtorEq,if_pos]
 refine hK _ _ ?_;clear hK K
 refine W.seq ?_
 refine W.r fun K hK => ?_
 simp (disch := omega) only [↓RU,RV,RH,↓reduceIte,reduceEqDiff,reduceCtorEq,if_pos,w64,tyLint,tyint]
 refine hK _ _ ?_;clear hK K
 refine W.cond rfl (fun h => ?_) (fun h => ?_)
 ·try simp only [RL] at h
  refine W.r fun K hK => ?_
  simp (disch := omega) only [↓RU,RV,RH,↓reduceIte,reduceEqDiff,reduceCtorEq,if_pos]
  refine hK _ _ ?_;clear hK K
  refine W.ret ?_
  refine XThen.ret ?_
  refine Br rfl ?_
  rw [show decide (p = q) = false by simp; rintro rfl; exact h rfl]
  rfl
 ·try simp only [RL] at h
  refine W.skip ?_
  refine xn ?_
  refine W.seq ?_
  refine W.r fun K hK => ?_
  simp (disch := omega) only [↓RU,RV,RH,↓reduceIte,reduceEqDiff,reduceCtorEq,if_pos,tyLint,tyint]
  refine hK _ _ ?_;clear hK K
  refine W.block ?_
  refine W.loop [0,1,11,12,13] (fun n vs S => ∃ i : Nat,n = p.length - i ∧ i ≤ p.length ∧ (p.take i = q.take i) ∧ vs = [eInts p,eInts q,eInts p,.int .i64 p.length,.int .i64 i] ∧ S = ⟨[],0⟩) (p.length) ?_ ?_
  ·refine ⟨0,0,rfl,Nat.zero_le _,rfl,?_,rfl⟩
   simp [Env.put,Env.of,argEnv]
  rintro n vs S - ⟨i,rfl,h_i,htk,rfl,rfl⟩
  refine W.r fun K hK => ?_
  simp (disch := omega) only [↓RU,RV,RH,↓reduceIte,reduceEqDiff,reduceCtorEq,if_pos,w64,tyint]
  refine hK _ _ ?_;clear hK K
  refine W.seq ?_
  refine W.cond rfl (fun h1 => ?_) (fun h1 => ?_)
  ·try simp only [RL] at h1
   obtain ⟨x,hx,-⟩ := get_of (show i < p.length by omega)
   obtain ⟨y,hy,-⟩ := get_of (show i < q.length by omega)
   refine W.skip ?_
   refine xn ?_
   refine W.seq ?_
   refine W.block ?_
   refine W.r fun K hK => ?_
   simp (disch := omega) only [↓RU,RV,RH,↓reduceIte,reduceEqDiff,reduceCtorEq,if_pos]
   refine hK _ _ ?_;clear hK K
   refine W.seq_draw (by kernel_rfl) fun K hK => ?_
   simp (disch := omega) only [↓RU,RV,RH,↓reduceIte,reduceEqDiff,reduceCtorEq,if_pos,w64,tyLint,tyint,hx,hy]
   refine hK _ _ ?_;clear hK K
   refine W.cond rfl (fun h2 => ?_) (fun h2 => ?_)
   ·try simp only [RL] at h2
    refine W.r fun K hK => ?_
    simp (disch := omega) only [↓RU,RV,RH,↓reduceIte,reduceEqDiff,reduceCtorEq,if_pos]
    refine hK _ _ ?_;clear hK K
    refine W.ret ?_
    refine XBlock.ret ?_
    refine XThen.ret ?_
    refine XThen.ret ?_
    refine XBlock.ret ?_
    refine XThen.ret ?_
    refine Br rfl ?_
    rw [show decide (p = q) = false by simp; rintro rfl; rw [hx] at hy; simp_all]
    rfl
   ·try simp only [RL] at h2
    have h2 : x = y := by simpa using h2
    refine W.skip ?_
    refine XbN ?_
    refine xn ?_
    refine W.k fun K hK => ?_
    simp (disch := omega) only [↓RU,RV,RH,↓reduceIte,reduceEqDiff,reduceCtorEq,if_pos,w64,tyint]
    refine hK _ _ ?_;clear hK K
    refine xn ?_
    refine ⟨p.length - (i + 1),by omega,0,i + 1,rfl,by omega,take_eq_succ htk hx hy h2,?_,rfl⟩
    simp [Env.put,Env.of]
  ·try simp only [RL] at h1
   refine W.exit ?_
   refine xe ?_
   refine xe ?_
   refine XBlock.hit ?_
   refine xn ?_
   refine W.r fun K hK => ?_
   simp (disch := omega) only [↓RU,RV,RH,↓reduceIte,reduceEqDiff,reduceCtorEq,if_pos]
   refine hK _ _ ?_;clear hK K
   refine W.ret ?_
   refine Br rfl ?_
   have h1 : p.take i = p := List.take_of_length_le (by omega)
   have h2 : q.take i = q := List.take_of_length_le (by omega)
   rw [show decide (p = q) = true by simp; rw [← h1,← h2]; exact htk]
   rfl
theorem ifL_t {l : List Int} : ifL true l = l := rfl
theorem ifL_f {l : List Int} : ifL false l = [] := rfl
theorem compactF_ev {F R : List Ob} {ver t : Nat} {l : List (List Int)} (hl : l.length < 2147483648) (hrw : ∀ r ∈ l,r.length < 2147483648) : Ev Tryz.prog 77 [.loc F.length ver 0 l.length,.fn 79 []] ⟨F ++ .arr ver 24 1 (l.map eInts) :: R,t⟩ fun v S => ∃ z : List PV,v = .loc F.length ver 0 (ddR l).length ∧ S = ⟨F ++ .arr ver 24 1 ((ddR l).map eInts ++ z) :: R,t⟩ := by
 refine Ev.of ⟨Tryz.func77,by kernel_rfl,rfl,by kernel_rfl⟩ tabOk mixed (by show 2 ≤ Tryz.f77.ntmps; decide) ?_
 refine W.r fun K hK => ?_
 simp (disch := omega) only [↓RU,RV,RH,↓reduceIte,reduceEqDiff,reduceCtorEq,if_pos,↓RS,RG,reduceAdd,reduceMul,reduceLeDiff,gF,setF]
 refine hK _ _ ?_;clear hK K
 refine W.seq ?_
 refine W.r fun K hK => ?_
 simp (disch := omega) only [↓RU,RV,RH,↓reduceIte,reduceEqDiff,reduceCtorEq,if_pos,w64,↓RS,RG,reduceAdd,reduceMul,reduceLeDiff,ty1,tyLint,ty11,tyint,gF,setF]
 refine hK _ _ ?_;clear hK K
 refine W.cond rfl (fun h => ?_) (fun h => ?_)
 ·try simp only [RL] at h
  refine W.r fun K hK => ?_
  simp (disch := omega) only [↓RU,RV,RH,↓reduceIte,reduceEqDiff,reduceCtorEq,if_pos,↓RS,RG,reduceAdd,reduceMul,reduceLeDiff,gF,setF]
  refine hK _ _ ?_;clear hK K
  refine W.ret ?_
  refine XThen.ret ?_
  refine Br rfl ?_
  refine ⟨(F ++ Ob.arr ver 24 1 (l.map eInts) :: R).length,[],?_,?_⟩
  ·rw [ddR_short (by omega)]; rfl
  ·rw [ddR_short (by omega),List.append_nil]; exact take_all
 ·try simp only [RL] at h
  refine W.skip ?_
  refine xn ?_
  refine W.seq ?_
  refine W.r fun K hK => ?_
  simp (disch := omega) only [↓RU,RV,RH,↓reduceIte,reduceEqDiff,reduceCtorEq,if_pos,↓RS,RG,reduceAdd,reduceMul,reduceLeDiff,gF,setF]
  refine hK _ _ ?_;clear hK K
  refine W.block ?_
  refine W.loop [0,1,5] (fun n vs S => ∃ k0 : Nat,n = l.length - k0 ∧ k0 ≤ l.length ∧ (1 ≤ k0) ∧ (ddR (l.take k0) = l.take k0) ∧ vs = [.loc F.length ver 0 l.length,.fn 79 [],.int .i64 k0] ∧ S = ⟨F ++ .arr ver 24 1 (l.map eInts) :: R,t⟩) (l.length - 1) ?_ ?_
  ·refine ⟨_,1,rfl,by omega,Nat.le_refl _,ddR_one (by omega),?_,take_all⟩
   simp [Env.put,Env.of,argEnv]
  rintro n vs S - ⟨k0,rfl,h_k0,h1k,hd,rfl,rfl⟩
  refine W.seq ?_
  refine W.r fun K hK => ?_
  simp (disch := omega) only [↓RU,RV,RH,↓reduceIte,reduceEqDiff,reduceCtorEq,if_pos,w64,↓RS,RG,reduceAdd,reduceMul,reduceLeDiff,ty1,tyLint,ty11,tyint,gF,setF]
  refine hK _ _ ?_;clear hK K
  refine W.cond rfl (fun h1 => ?_) (fun h1 => ?_)
  ·try simp only [RL] at h1
   obtain ⟨x,hx,hxm⟩ := get_of (show k0 < l.length by omega)
   obtain ⟨y,hy,hym⟩ := get_of (show k0 - 1 < l.length by omega)
   refine W.skip ?_
   refine xn ?_
   refine W.seq ?_
   refine W.block ?_
   refine W.seq_draw (by kernel_rfl) fun K hK => ?_
   simp (disch := omega) only [↓RU,RV,RH,↓reduceIte,reduceEqDiff,reduceCtorEq,if_pos,w64,List.append_nil,↓RS,RG,reduceAdd,reduceMul,reduceLeDiff,ty1,tyLint,ty11,tyint,gF,setF,hx,hy,toNat_pred]
   refine CallR.pc (equalInts_pc (p := x) (q := y) (hrw x hxm) (hrw y hym)) rfl (.inl rfl) ?_
   simp (disch := omega) only [↓RU,RV,RH,↓reduceIte,reduceEqDiff,reduceCtorEq,if_pos,w64,List.append_nil,↓RS,RG,reduceAdd,reduceMul,reduceLeDiff,ty1,tyLint,ty11,tyint,gF,setF,hx,hy,toNat_pred]
   refine hK _ _ ?_;clear hK K
   refine W.cond rfl (fun h2 => ?_) (fun h2 => ?_)
   ·try simp only [RL] at h2
    refine W.r fun K hK => ?_
    simp (disch := omega) only [↓RU,RV,RH,↓reduceIte,reduceEqDiff,reduceCtorEq,if_pos,Option.map_none,↓RS,RG,reduceAdd,reduceMul,reduceLeDiff,ty1,tyLint,ty11,tyint,gF,setF]
    refine hK _ _ ?_;clear hK K
    refine W.seq ?_
    refine W.r fun K hK => ?_
    simp (disch := omega) only [↓RU,RV,RH,↓reduceIte,reduceEqDiff,reduceCtorEq,if_pos,↓RS,RG,reduceAdd,reduceMul,reduceLeDiff,gF,setF]
    refine hK _ _ ?_;clear hK K
    refine W.block ?_
    refine W.loop [0,1,5,6,7] (fun n vs S => ∃ k p : Nat,∃ c : List (List Int),n = l.length - p ∧ DR l c k p ∧ k0 + 1 ≤ p ∧ p ≤ l.length ∧ vs = [.loc F.length ver 0 l.length,.fn 79 [],.int .i64 k,.loc F.length ver k0 (l.length - k0),.int .i64 ((p - k0 : Nat) : Int)] ∧ S = ⟨F ++ .arr ver 24 1 (c.map eInts) :: R,t⟩) (l.length - (k0 + 1)) ?_ ?_
    ·refine ⟨_,k0,k0 + 1,l,rfl,DR.first h1k hd hy hx h2,Nat.le_refl _,by omega,?_,take_all⟩
     simp [Env.put,Env.of]
    rintro n vs S - ⟨k,p,c,rfl,hdc,hk0,h_p,rfl,rfl⟩
    refine W.seq ?_
    refine W.r fun K hK => ?_
    simp (disch := omega) only [↓RU,RV,RH,↓reduceIte,reduceEqDiff,reduceCtorEq,if_pos,w64,↓RS,RG,reduceAdd,reduceMul,reduceLeDiff,ty1,tyLint,ty11,tyint,gF,setF]
    refine hK _ _ ?_;clear hK K
    refine W.cond rfl (fun h3 => ?_) (fun h3 => ?_)
    ·try simp only [RL] at h3
     have hkp := hdc.kp
     obtain ⟨x2,hx2,hx2m⟩ := get_of (show p < l.length by omega)
     obtain ⟨y2,hy2,hy2m⟩ := get_of (show p - 1 < l.length by omega)
     have hcx := hdc.get (j := p) (by omega)
     have hcy := hdc.get (j := p - 1) (by omega)
     rw [hx2] at hcx
     rw [hy2] at hcy
     have hcl := hdc.len
     have e1 : k0 + (p - k0) = p := by omega
     have e2 : k0 + (p - k0 - 1) = p - 1 := by omega
     refine W.skip ?_
     refine xn ?_
     refine W.seq ?_
     refine W.block ?_
     refine W.seq_draw (by kernel_rfl) fun K hK => ?_
     simp (disch := omega) only [↓RU,RV,RH,↓reduceIte,reduceEqDiff,reduceCtorEq,if_pos,w64,List.append_nil,↓RS,RG,reduceAdd,reduceMul,reduceLeDiff,ty1,tyLint,ty11,tyint,gF,setF,hcx,hcy,toNat_pred,e1,e2]
     refine CallR.pc (equalInts_pc (p := x2) (q := y2) (hrw x2 hx2m) (hrw y2 hy2m)) rfl (.inl rfl) ?_
     simp (disch := omega) only [↓RU,RV,RH,↓reduceIte,reduceEqDiff,reduceCtorEq,if_pos,w64,List.append_nil,↓RS,RG,reduceAdd,reduceMul,reduceLeDiff,ty1,tyLint,ty11,tyint,gF,setF,hcx,hcy,toNat_pred,e1,e2]
     refine hK _ _ ?_;clear hK K
     refine W.cond rfl (fun h4 => ?_) (fun h4 => ?_)
     ·try simp only [RL] at h4
      refine W.r fun K hK => ?_
      simp (disch := omega) only [↓RU,RV,RH,↓reduceIte,reduceEqDiff,reduceCtorEq,if_pos,↓RS,RG,reduceAdd,reduceMul,reduceLeDiff,ty1,tyLint,ty11,tyint,gF,setF,hcx,e1,hcl,set_spl,set_eI]
      refine hK _ _ ?_;clear hK K
      refine W.k fun K hK => ?_
      simp (disch := omega) only [↓RU,RV,RH,↓reduceIte,reduceEqDiff,reduceCtorEq,if_pos,w64,↓RS,RG,reduceAdd,reduceMul,reduceLeDiff,tyint,gF,setF]
      refine hK _ _ ?_;clear hK K
      refine XbN ?_
      refine xn ?_
      refine W.k fun K hK => ?_
      simp (disch := omega) only [↓RU,RV,RH,↓reduceIte,reduceEqDiff,reduceCtorEq,if_pos,w64,↓RS,RG,reduceAdd,reduceMul,reduceLeDiff,tyint,gF,setF]
      refine hK _ _ ?_;clear hK K
      refine xn ?_
      refine ⟨l.length - (p + 1),by omega,_,k + 1,p + 1,c.set k x2,rfl,hdc.new (by omega) hy2 hx2 h4,by omega,by omega,?_,take_all⟩
      simp [Env.put,Env.of,show p + 1 - k0 = p - k0 + 1 by omega]
     ·try simp only [RL] at h4
      refine W.skip ?_
      refine XbN ?_
      refine xn ?_
      refine W.k fun K hK => ?_
      simp (disch := omega) only [↓RU,RV,RH,↓reduceIte,reduceEqDiff,reduceCtorEq,if_pos,w64,↓RS,RG,reduceAdd,reduceMul,reduceLeDiff,tyint,gF,setF]
      refine hK _ _ ?_;clear hK K
      refine xn ?_
      refine ⟨l.length - (p + 1),by omega,_,k,p + 1,c,rfl,hdc.same (by omega) hy2 hx2 h4,by omega,by omega,?_,take_all⟩
      simp [Env.put,Env.of,show p + 1 - k0 = p - k0 + 1 by omega]
    ·try simp only [RL] at h3
     have hkp := hdc.kp
     have hcl := hdc.len
     obtain rfl : p = l.length := by omega
     refine W.exit ?_
     refine xe ?_
     refine xe ?_
     refine XBlock.hit ?_
     refine xn ?_
     refine W.r fun K hK => ?_
     simp (disch := omega) only [↓RU,RV,RH,↓reduceIte,reduceEqDiff,reduceCtorEq,if_pos,Option.map_none,repz_length,repz_int,↓RS,RG,reduceAdd,reduceMul,reduceLeDiff,ty1,tyLint,ty11,tyint,gF,setF,hcl,repz_nilR,set_appR,allc_nil,List.length_replicate]
     refine hK _ _ ?_;clear hK K
     refine W.r fun K hK => ?_
     simp (disch := omega) only [↓RU,RV,RH,↓reduceIte,reduceEqDiff,reduceCtorEq,if_pos,Option.map_none,↓RS,RG,reduceAdd,reduceMul,reduceLeDiff,ty1,tyLint,ty11,tyint,gF,setF]
     refine hK _ _ ?_;clear hK K
     refine W.ret ?_
     refine XBlock.ret ?_
     refine XThen.ret ?_
     refine XThen.ret ?_
     refine XBlock.ret ?_
     refine XThen.ret ?_
     refine Br rfl ?_
     have hdk := hdc.dk
     rw [List.take_length] at hdk
     have htk := hdc.hd
     rw [List.take_length] at htk
     have hdrop : c.drop (k + (l.length - k)) = [] := List.drop_of_length_le (by omega)
     rw [hdrop,List.map_nil,List.append_nil,htk]
     refine ⟨_,List.replicate (l.length - k) .nils,?_,take_all⟩
     rw [hdk]; rfl
   ·try simp only [RL] at h2
    refine W.skip ?_
    refine XbN ?_
    refine xn ?_
    refine W.k fun K hK => ?_
    simp (disch := omega) only [↓RU,RV,RH,↓reduceIte,reduceEqDiff,reduceCtorEq,if_pos,w64,↓RS,RG,reduceAdd,reduceMul,reduceLeDiff,tyint,gF,setF]
    refine hK _ _ ?_;clear hK K
    refine xn ?_
    refine ⟨l.length - (k0 + 1),by omega,_,k0 + 1,rfl,by omega,by omega,by rw [ddR_new h1k hy hx h2,hd,← tk hx],?_,take_all⟩
    simp [Env.put,Env.of]
  ·try simp only [RL] at h1
   refine W.exit ?_
   refine xe ?_
   refine xe ?_
   refine XBlock.hit ?_
   refine xn ?_
   refine W.r fun K hK => ?_
   simp (disch := omega) only [↓RU,RV,RH,↓reduceIte,reduceEqDiff,reduceCtorEq,if_pos,↓RS,RG,reduceAdd,reduceMul,reduceLeDiff,gF,setF]
   refine hK _ _ ?_;clear hK K
   refine W.ret ?_
   refine Br rfl ?_
   obtain rfl : k0 = l.length := by omega
   refine ⟨(F ++ Ob.arr ver 24 1 (l.map eInts) :: R).length,[],?_,?_⟩
   ·rw [show ddR l = l by simpa using hd]; rfl
   ·rw [show ddR l = l by simpa using hd,List.append_nil]; exact take_all
theorem sh_eI {S : Store} {k : Nat} (l : List (List Int)) : (l.map eInts).mapM (sh S true (k + 1)) = some (l.map eInts) := mapM_same fun x hx => by obtain ⟨a,_,rfl⟩ := List.mem_map.1 hx; rfl
theorem pEq_grid {S : Store} {l : List (List Int)} (h : 1 ≤ l.length) : pEq tab S 89 (eGrid l) .nils = some false := by
 show (if l.length = 0 then none else some false) = some false
 rw [if_neg (by omega)]
def kpB (r : List Int) (j : Nat) : Bool := decide (j = 0) || decide (getI r j ≠ getI r (j - 1))
def kptB (d : List (List Int)) (j : Nat) : Bool := d.any fun r => kpB r j
theorem kpt_0 {d : List (List Int)} (h : 1 ≤ d.length) : kptB d 0 = true := by
 cases d with
 | nil => simp at h
 | cons a d => simp [kptB,kpB]
def kpI (d : List (List Int)) (i : Nat) : List Int := (keptN (kptB d) i).map fun j : Nat => (j : Int)
theorem kpI_succ {d : List (List Int)} {i : Nat} : kpI d (i + 1) = kpI d i ++ if kptB d i then [(i : Int)] else [] := by
 unfold kpI; rw [keptN_succ,List.map_append]; cases kptB d i <;> rfl
theorem kpI_ne {d : List (List Int)} (h : 1 ≤ d.length) {i : Nat} (hi : i ≠ 0) : kpI d i ≠ [] := by
 have := keptN_pos (kpt_0 h) (show 1 ≤ i by omega)
 intro e
 have e2 := congrArg List.length e
 simp [kpI] at e2
 rw [e2] at this; simp at this
theorem kpI_len {d : List (List Int)} {i : Nat} : (kpI d i).length ≤ i := by
 have := List.length_filter_le (kptB d) (List.range i)
 simpa [kpI,keptN] using this
def tightG (g : List (List Int)) (nw : Nat) : List (List Int) := bgT (fun r w => gz (ddR g) r ((keptN (kptB (ddR g)) nw)[w]?.getD 0)) (keptN (kptB (ddR g)) nw).length (ddR g).length
theorem cloneG_pn {l : List (List Int)} (h1 : 1 ≤ l.length) (hl : l.length ≤ 1048576) : PN Tryz.prog 78 [eGrid l] (.loc 0 0 0 l.length) [.arr 0 24 1 (l.map eInts)] true := by
 refine PN.of ⟨Tryz.func78,by kernel_rfl,rfl,by kernel_rfl⟩ tabOk mixed (by show 1 ≤ Tryz.f78.ntmps; decide) ?_
 refine W.r fun K hK => ?_
 simp (disch := omega) only [↓RU,RV,RH,↓reduceIte,reduceEqDiff,reduceCtorEq,if_pos,↓RS,RG,reduceAdd,reduceMul,reduceLeDiff]
 refine hK _ _ ?_;clear hK K
 refine W.seq ?_
 refine W.r fun K hK => ?_
 simp (disch := omega) only [↓RU,RV,RH,↓reduceIte,reduceEqDiff,reduceCtorEq,if_pos,w64,↓RS,RG,reduceAdd,reduceMul,reduceLeDiff,ty1,tyLint,ty11,tyint,pEq_grid h1]
 refine hK _ _ ?_;clear hK K
 refine W.cond rfl (fun h => ?_) (fun h => ?_)
 ·try simp only [RL] at h
  exact absurd h (by simp)
 ·try simp only [RL] at h
  refine W.skip ?_
  refine xn ?_
  refine W.r fun K hK => ?_
  simp (disch := omega) only [↓RU,RV,RH,↓reduceIte,reduceEqDiff,reduceCtorEq,if_pos,↓RS,RG,reduceAdd,reduceMul,reduceLeDiff,ty1,tyLint,ty11,tyint]
  refine hK _ _ ?_;clear hK K
  refine W.ret ?_
  refine Br rfl ?_
  exact sh_one rfl (sh_eI _)
theorem tight1_pc {r : List Int} {j : Nat} (hj : j < r.length) (hrl : r.length ≤ 1048576) : PC Tryz.prog 81 [eInts r,.ip [.int .i64 j] 0] (.bool (kpB r j)) true := by
 obtain ⟨x,hx,-⟩ := get_of hj
 obtain ⟨y,hy,-⟩ := get_of (show j - 1 < r.length by omega)
 refine PC.of ⟨Tryz.func81,by kernel_rfl,rfl,by kernel_rfl⟩ tabOk mixed (by show 2 ≤ Tryz.f81.ntmps; decide) ?_
 refine W.r fun K hK => ?_
 simp (disch := omega) only [↓RU,RV,RH,↓reduceIte,reduceEqDiff,reduceCtorEq,if_pos,↓RS,RG,reduceAdd,reduceMul,reduceLeDiff]
 refine hK _ _ ?_;clear hK K
 refine W.seq_draw (by kernel_rfl) fun K hK => ?_
 by_cases h0 : j = 0
 ·skip
  have h01 : ((j : Int) == 0) = true := by simp; omega
  simp (disch := omega) only [↓RU,RV,RH,↓reduceIte,reduceEqDiff,reduceCtorEq,if_pos,w64,↓RS,RG,reduceAdd,reduceMul,reduceLeDiff,tyLint,tyint,h01]
  refine hK _ _ ?_;clear hK K
  refine W.ret ?_
  refine Br rfl ?_
  rw [show kpB r j = true by simp [kpB,h0]]
  rfl
 ·skip
  have h01 : ((j : Int) == 0) = false := by simp; omega
  simp (disch := omega) only [↓RU,RV,RH,↓reduceIte,reduceEqDiff,reduceCtorEq,if_pos,w64,↓RS,RG,reduceAdd,reduceMul,reduceLeDiff,tyLint,tyint,h01,hx,hy,toNat_pred]
  refine hK _ _ ?_;clear hK K
  refine W.ret ?_
  refine Br rfl ?_
  have e : kpB r j = (x != y) := by unfold kpB; rw [getI_is hx,getI_is hy,bne_int]; simp [h0]
  rw [e]
  rfl
theorem tight2_pc {d : List (List Int)} {cs : List Int} {r c q : Nat} {row : List Int} {x : Int} (hr : d[r]? = some row) (hc : cs[c]? = some ((q : Nat) : Int)) (hx : row[q]? = some x) : PC Tryz.prog 84 [.int .i64 r,.int .i64 c,.ip [eGrid d] 0,.ip [eInts cs] 0] (.int .i64 x) true := by
 have q1 := len_of hr
 have q2 := len_of hc
 have q3 := len_of hx
 refine PC.of ⟨Tryz.func84,by kernel_rfl,rfl,by kernel_rfl⟩ tabOk mixed (by show 4 ≤ Tryz.f84.ntmps; decide) ?_
 refine W.r fun K hK => ?_
 simp (disch := omega) only [↓RU,RV,RH,↓reduceIte,reduceEqDiff,reduceCtorEq,if_pos,↓RS,RG,reduceAdd,reduceMul,reduceLeDiff]
 refine hK _ _ ?_;clear hK K
 refine W.seq_draw (by kernel_rfl) fun K hK => ?_
 simp (disch := omega) only [↓RU,RV,RH,↓reduceIte,reduceEqDiff,reduceCtorEq,if_pos,↓RS,RG,reduceAdd,reduceMul,reduceLeDiff,ty1,tyLint,ty11,tyint,hr,hc,hx]
 refine hK _ _ ?_;clear hK K
 refine W.ret ?_
 refine Br rfl ?_
 rfl
def slI (b : Nat) (l : List Int) (v : Nat) : PV := match l with | [] => .nils | _ => .loc b v 0 l.length
def tlI (l : List Int) (v : Nat) : List Ob := match l with | [] => [] | _ => [.arr v 3 1 (l.map (.int .i64))]
theorem slI_nil {b v : Nat} : slI b [] v = .nils := rfl
theorem tlI_nil {v : Nat} : tlI [] v = [] := rfl
theorem slI_ne {b v : Nat} {l : List Int} (h : l ≠ []) : slI b l v = .loc b v 0 l.length := by cases l with | nil => exact absurd rfl h | cons a l => rfl
theorem tlI_ne {v : Nat} {l : List Int} (h : l ≠ []) : tlI l v = [.arr v 3 1 (l.map (.int .i64))] := by cases l with | nil => exact absurd rfl h | cons a l => rfl
theorem up_eI {k t f : Nat} (l : List (List Int)) : (l.map eInts).map (up k t (f + 1)) = l.map eInts := by rw [List.map_map]; exact List.map_congr_left fun x _ => rfl
theorem reify_rf {S : Store} {f : FuncId} {o v et sz k : Nat} {cells ts : List PV} (h : S.obs[o]? = some (.arr v et sz cells)) (hc : cells.mapM (reify S true k) = some ts) : reify S true (k + 2) (.fn f [.ref o v 0]) = some (.fn f [.ip ts 0]) := by
 have h1 : reify S true (k + 1) (.ref o v 0) = some (.ip ts 0) := by
  show (S.cellsOf o v).bind (fun cells => (cells.mapM (reify S true k)).map (PV.ip · 0)) = _
  rw [show S.cellsOf o v = some cells by simp [Store.cellsOf,h]]
  simp [hc]
 rw [reify_fn,mapM_one h1 rfl]; rfl
theorem rfq_eI {S : Store} {fr : Nat → Bool} {f : Nat} (l : List (List Int)) : (l.map eInts).mapM (rfq S fr (f + 1)) = some (l.map eInts) := mapM_same fun x hx => by obtain ⟨a,_,rfl⟩ := List.mem_map.1 hx; rfl
theorem tight_pc {g : List (List Int)} {nh nw : Nat} (hg : GW g nh nw) (rs : List Rect) : PC Tryz.prog 76 [eFloor g rs] (eGrid (tightG g nw)) false := by
 obtain ⟨q1,q2,q3,q4,q5,q6⟩ := hg
 have hg : GW g nh nw := ⟨q1,q2,q3,q4,q5,q6⟩
 have hgl := q1
 have hgw : ∀ r ∈ g,r.length ≤ 6 := fun r hr => by rw [q2 r hr]; exact q6
 obtain ⟨row0,hrow0,hrl0,-⟩ := hg.at_ (i := 0) (j := 0) (by omega) (by omega)
 have hd1 : 1 ≤ (ddR g).length := by have := ddR_pos (l := g) (show 1 ≤ g.length by omega) (Nat.le_refl _); rwa [List.take_length] at this
 have hdl := ddR_len g
 refine PC.of ⟨Tryz.func76,by kernel_rfl,rfl,by kernel_rfl⟩ tabOk mixed (by show 1 ≤ Tryz.f76.ntmps; decide) ?_
 refine W.r fun K hK => ?_
 simp (disch := omega) only [↓RU,RV,RH,↓reduceIte,reduceEqDiff,reduceCtorEq,if_pos,↓RS,RG,reduceAdd,reduceMul,reduceLeDiff]
 refine hK _ _ ?_;clear hK K
 refine W.r fun K hK => ?_
 simp (disch := omega) only [↓RU,RV,RH,↓reduceIte,reduceEqDiff,reduceCtorEq,if_pos,List.append_nil,↓RS,RG,reduceAdd,reduceMul,reduceLeDiff,ty1,ty3,tyLint,ty10,ty11,ty13,tyint,ty21,ty24]
 refine CallR.pn (cloneG_pn (l := g) (by omega) (by omega)) rfl (.inr rfl) ?_
 simp (disch := omega) only [↓RU,RV,RH,↓reduceIte,reduceEqDiff,reduceCtorEq,if_pos,List.append_nil,↓RS,RG,reduceAdd,reduceMul,reduceLeDiff,ty1,ty3,tyLint,ty10,ty11,ty13,tyint,ty21,ty24,up_eI,RN]
 refine CallR.ev (compactF_ev (F := []) (R := []) (l := g) (by omega) (fun r hr => by have := hgw r hr; omega)) ?_
 rintro _ _ ⟨z,rfl,rfl⟩
 simp (disch := omega) only [↓RU,RV,RH,↓reduceIte,reduceEqDiff,reduceCtorEq,if_pos,List.append_nil,↓RS,RG,reduceAdd,reduceMul,reduceLeDiff,ty1,ty3,tyLint,ty10,ty11,ty13,tyint,ty21,ty24]
 refine hK _ _ ?_;clear hK K
 refine W.r fun K hK => ?_
 simp (disch := omega) only [↓RU,RV,RH,↓reduceIte,reduceEqDiff,reduceCtorEq,if_pos,↓RS,RG,reduceAdd,reduceMul,reduceLeDiff,tyLint,tyint]
 refine hK _ _ ?_;clear hK K
 refine W.seq ?_
 refine W.r fun K hK => ?_
 simp (disch := omega) only [↓RU,RV,RH,↓reduceIte,reduceEqDiff,reduceCtorEq,if_pos,List.append_nil,↓RS,RG,reduceAdd,reduceMul,reduceLeDiff,hrl0]
 refine CallR.pc (wide_pc hrow0 rs) rfl (.inl rfl) ?_
 simp (disch := omega) only [↓RU,RV,RH,↓reduceIte,reduceEqDiff,reduceCtorEq,if_pos,List.append_nil,↓RS,RG,reduceAdd,reduceMul,reduceLeDiff,hrl0]
 refine hK _ _ ?_;clear hK K
 refine W.block ?_
 refine W.loopS [3,4,14,15] (fun n vs S => ∃ i v3 v4 v5 t : Nat,n = nw - i ∧ i ≤ nw ∧ vs = [.ref 0 v3 0,.ref 1 v4 0,.int .i64 nw,.int .i64 i] ∧ S = ⟨.arr v3 89 1 [eGrid (ddR g)] :: .arr v4 24 1 [slI 2 (kpI (ddR g) i) v5] :: tlI (kpI (ddR g) i) v5,t⟩) nw ?_ ?_
 ·have htk : ((ddR g).map eInts ++ z).take (ddR g).length = (ddR g).map eInts := by rw [List.take_append_of_le_length (by simp)]; exact List.take_of_length_le (by simp)
  refine ⟨0,[1,2],[.ref 0 3 0,.ref 1 3 0,.int .i64 nw,.int .i64 (0 : Nat)],⟨.arr 3 89 1 [eGrid (ddR g)] :: .arr 3 24 1 [.nils] :: [],4⟩,?_,?_,0,3,3,0,4,rfl,Nat.zero_le _,rfl,rfl⟩
  ·simp [-List.mapM_map,Env.put,Env.of,argEnv,Srn_eq,rnObs_cons,rnObs_nil,rnOb_arr,rnOb_map,rn_loc,rn_ref,rn_mp,rn_int,rn_bool,rn_str,rn_ip,rn_sl,rn_nils,rn_nilp,rn_undef,rn_agg,rn_tup,rn_fn,rfq_loc,rfq_int,rfq_bool,rfq_str,rfq_sl,frOf,List.range_succ,List.mapM_append,List.mapM_cons] <;> decide
  ·simp [-List.mapM_map,Env.put,Env.of,argEnv,Srn_eq,rnObs_cons,rnObs_nil,rnOb_arr,rnOb_map,rn_loc,rn_ref,rn_mp,rn_int,rn_bool,rn_str,rn_ip,rn_sl,rn_nils,rn_nilp,rn_undef,rn_agg,rn_tup,rn_fn,rfq_loc,rfq_int,rfq_bool,rfq_str,rfq_sl,frOf,List.range_succ,List.mapM_append,List.mapM_cons,rfq_eI,htk] <;> decide
 rintro n vs S - ⟨i,v3,v4,v5,t,rfl,h_i,rfl,rfl⟩
 refine W.r fun K hK => ?_
 simp (disch := omega) only [↓RU,RV,RH,↓reduceIte,reduceEqDiff,reduceCtorEq,if_pos,w64,↓RS,RG,reduceAdd,reduceMul,reduceLeDiff,tyint]
 refine hK _ _ ?_;clear hK K
 refine W.seq ?_
 refine W.cond rfl (fun h => ?_) (fun h => ?_)
 ·try simp only [RL] at h
  have hsu := kpI_succ (d := ddR g) (i := i)
  have hcl := kpI_len (d := ddR g) (i := i)
  have hdw : ∀ r ∈ ddR g,r.length = nw := fun r hr => q2 r (ddR_sub r hr)
  refine W.skip ?_
  refine xn ?_
  refine W.seq ?_
  refine W.block ?_
  refine W.r fun K hK => ?_
  by_cases hi0 : i = 0
  ·skip
   have hk0 : kptB (ddR g) i = true := by rw [hi0]; exact kpt_0 hd1
   have ho : kpI (ddR g) i = [] := by rw [hi0]; rfl
   rw [ho,hk0] at hsu
   simp only [ho,slI_nil,tlI_nil]
   simp (disch := omega) only [↓RU,RV,RH,↓reduceIte,reduceEqDiff,reduceCtorEq,if_pos,↓RS,RG,reduceAdd,reduceMul,reduceLeDiff,tyint]
   refine hK _ _ ?_;clear hK K
   refine W.r fun K hK => ?_
   simp (disch := omega) only [↓RU,RV,RH,↓reduceIte,reduceEqDiff,reduceCtorEq,if_pos,↓RS,RG,reduceAdd,reduceMul,reduceLeDiff]
   refine hK _ _ ?_;clear hK K
   refine W.r fun K hK => ?_
   simp (disch := omega) only [↓RU,RV,RH,↓reduceIte,reduceEqDiff,reduceCtorEq,if_pos,List.append_nil,↓RS,RG,reduceAdd,reduceMul,reduceLeDiff,ty1,tyLint,ty11,tyint]
   refine CallR.pc (containsRow_pc (l := ddR g) (by omega) (g := 81) (cap := [.ip [.int .i64 i] 0]) rfl rfl (test := fun r => kpB r i) (fun r hr => tight1_pc (by rw [hdw r hr]; omega) (by rw [hdw r hr]; omega))) (mapM_one rfl (mapM_one (reify_rf (k := 8) rfl rfl) rfl)) (.inl rfl) ?_
   simp (disch := omega) only [↓RU,RV,RH,↓reduceIte,reduceEqDiff,reduceCtorEq,if_pos,List.append_nil,↓RS,RG,reduceAdd,reduceMul,reduceLeDiff,ty1,tyLint,ty11,tyint]
   refine hK _ _ ?_;clear hK K
   refine W.cond rfl (fun h1 => ?_) (fun h1 => ?_)
   ·try simp only [RL] at h1
    refine W.k fun K hK => ?_
    simp (disch := omega) only [↓RU,RV,RH,↓reduceIte,reduceEqDiff,reduceCtorEq,if_pos,↓RS,RG,reduceAdd,reduceMul,reduceLeDiff,tyLint,tyint,set_spl]
    refine hK _ _ ?_;clear hK K
    refine XbN ?_
    refine xn ?_
    refine W.k fun K hK => ?_
    simp (disch := omega) only [↓RU,RV,RH,↓reduceIte,reduceEqDiff,reduceCtorEq,if_pos,w64,↓RS,RG,reduceAdd,reduceMul,reduceLeDiff,tyint]
    refine hK _ _ ?_;clear hK K
    refine xn ?_
    have hi1 : kpI (ddR g) (i + 1) = [(i : Int)] := hsu
    refine ⟨nw - (i + 1),by omega,2,[4],[.ref 0 v3 0,.ref 1 v4 0,.int .i64 nw,.int .i64 ((i + 1 : Nat) : Int)],⟨.arr v3 89 1 [eGrid (ddR g)] :: .arr v4 24 1 [.loc 2 (t + 3) 0 1] :: [.arr (t + 3) 3 1 [.int .i64 i]],t + 4⟩,?_,?_,i + 1,v3,v4,t + 3,t + 4,rfl,by omega,rfl,by rw [hi1]; rfl⟩
    ·simp [-List.mapM_map,Env.put,Env.of,argEnv,Srn_eq,rnObs_cons,rnObs_nil,rnOb_arr,rnOb_map,rn_loc,rn_ref,rn_mp,rn_int,rn_bool,rn_str,rn_ip,rn_sl,rn_nils,rn_nilp,rn_undef,rn_agg,rn_tup,rn_fn,rfq_loc,rfq_int,rfq_bool,rfq_str,rfq_sl,frOf,List.range_succ,List.mapM_append,List.mapM_cons]
    ·simp [-List.mapM_map,Env.put,Env.of,argEnv,Srn_eq,rnObs_cons,rnObs_nil,rnOb_arr,rnOb_map,rn_loc,rn_ref,rn_mp,rn_int,rn_bool,rn_str,rn_ip,rn_sl,rn_nils,rn_nilp,rn_undef,rn_agg,rn_tup,rn_fn,rfq_loc,rfq_int,rfq_bool,rfq_str,rfq_sl,frOf,List.range_succ,List.mapM_append,List.mapM_cons]
   ·try simp only [RL] at h1
    exact absurd hk0 (by rw [show kptB (ddR g) i = false from h1]; simp)
  ·skip
   have hne := kpI_ne hd1 hi0
   generalize hcs : kpI (ddR g) i = cs at hsu hcl hne ⊢
   simp only [slI_ne hne,tlI_ne hne]
   simp (disch := omega) only [↓RU,RV,RH,↓reduceIte,reduceEqDiff,reduceCtorEq,if_pos,↓RS,RG,reduceAdd,reduceMul,reduceLeDiff,tyint]
   refine hK _ _ ?_;clear hK K
   refine W.r fun K hK => ?_
   simp (disch := omega) only [↓RU,RV,RH,↓reduceIte,reduceEqDiff,reduceCtorEq,if_pos,↓RS,RG,reduceAdd,reduceMul,reduceLeDiff]
   refine hK _ _ ?_;clear hK K
   refine W.r fun K hK => ?_
   simp (disch := omega) only [↓RU,RV,RH,↓reduceIte,reduceEqDiff,reduceCtorEq,if_pos,List.append_nil,↓RS,RG,reduceAdd,reduceMul,reduceLeDiff,ty1,tyLint,ty11,tyint]
   refine CallR.pc (containsRow_pc (l := ddR g) (by omega) (g := 81) (cap := [.ip [.int .i64 i] 0]) rfl rfl (test := fun r => kpB r i) (fun r hr => tight1_pc (by rw [hdw r hr]; omega) (by rw [hdw r hr]; omega))) (mapM_one rfl (mapM_one (reify_rf (k := 8) rfl rfl) rfl)) (.inl rfl) ?_
   simp (disch := omega) only [↓RU,RV,RH,↓reduceIte,reduceEqDiff,reduceCtorEq,if_pos,List.append_nil,↓RS,RG,reduceAdd,reduceMul,reduceLeDiff,ty1,tyLint,ty11,tyint]
   refine hK _ _ ?_;clear hK K
   refine W.cond rfl (fun h1 => ?_) (fun h1 => ?_)
   ·try simp only [RL] at h1
    have h1 : kptB (ddR g) i = true := h1
    rw [if_pos h1] at hsu
    refine W.k fun K hK => ?_
    simp (disch := omega) only [↓RU,RV,RH,↓reduceIte,reduceEqDiff,reduceCtorEq,if_pos,↓RS,RG,reduceAdd,reduceMul,reduceLeDiff,tyLint,tyint,set_spl]
    refine hK _ _ ?_;clear hK K
    refine XbN ?_
    refine xn ?_
    refine W.k fun K hK => ?_
    simp (disch := omega) only [↓RU,RV,RH,↓reduceIte,reduceEqDiff,reduceCtorEq,if_pos,w64,↓RS,RG,reduceAdd,reduceMul,reduceLeDiff,tyint]
    refine hK _ _ ?_;clear hK K
    refine xn ?_
    have hn2 : kpI (ddR g) (i + 1) ≠ [] := by rw [hsu]; simp
    refine ⟨nw - (i + 1),by omega,3,[],[.ref 0 v3 0,.ref 1 v4 0,.int .i64 nw,.int .i64 ((i + 1 : Nat) : Int)],⟨.arr v3 89 1 [eGrid (ddR g)] :: .arr v4 24 1 [.loc 2 (t + 2) 0 (cs.length + 1)] :: [.arr (t + 2) 3 1 (cs.map (.int .i64) ++ [.int .i64 i])],t + 4⟩,?_,?_,i + 1,v3,v4,t + 2,t + 4,rfl,by omega,rfl,by rw [slI_ne hn2,tlI_ne hn2,hsu]; simp⟩
    ·simp [-List.mapM_map,Env.put,Env.of,argEnv,Srn_eq,rnObs_cons,rnObs_nil,rnOb_arr,rnOb_map,rn_loc,rn_ref,rn_mp,rn_int,rn_bool,rn_str,rn_ip,rn_sl,rn_nils,rn_nilp,rn_undef,rn_agg,rn_tup,rn_fn,rfq_loc,rfq_int,rfq_bool,rfq_str,rfq_sl,frOf,List.range_succ,List.mapM_append,List.mapM_cons]
    ·simp [-List.mapM_map,Env.put,Env.of,argEnv,Srn_eq,rnObs_cons,rnObs_nil,rnOb_arr,rnOb_map,rn_loc,rn_ref,rn_mp,rn_int,rn_bool,rn_str,rn_ip,rn_sl,rn_nils,rn_nilp,rn_undef,rn_agg,rn_tup,rn_fn,rfq_loc,rfq_int,rfq_bool,rfq_str,rfq_sl,frOf,List.range_succ,List.mapM_append,List.mapM_cons,rn_ints]
   ·try simp only [RL] at h1
    have h1 : ¬ kptB (ddR g) i = true := by rw [show kptB (ddR g) i = false from h1]; simp
    rw [if_neg h1,List.append_nil] at hsu
    refine W.skip ?_
    refine XbN ?_
    refine xn ?_
    refine W.k fun K hK => ?_
    simp (disch := omega) only [↓RU,RV,RH,↓reduceIte,reduceEqDiff,reduceCtorEq,if_pos,w64,↓RS,RG,reduceAdd,reduceMul,reduceLeDiff,tyint]
    refine hK _ _ ?_;clear hK K
    refine xn ?_
    refine ⟨nw - (i + 1),by omega,3,[],[.ref 0 v3 0,.ref 1 v4 0,.int .i64 nw,.int .i64 ((i + 1 : Nat) : Int)],⟨.arr v3 89 1 [eGrid (ddR g)] :: .arr v4 24 1 [.loc 2 v5 0 cs.length] :: [.arr v5 3 1 (cs.map (.int .i64))],t + 2⟩,?_,?_,i + 1,v3,v4,v5,t + 2,rfl,by omega,rfl,by rw [hsu,slI_ne hne,tlI_ne hne]⟩
    ·simp [-List.mapM_map,Env.put,Env.of,argEnv,Srn_eq,rnObs_cons,rnObs_nil,rnOb_arr,rnOb_map,rn_loc,rn_ref,rn_mp,rn_int,rn_bool,rn_str,rn_ip,rn_sl,rn_nils,rn_nilp,rn_undef,rn_agg,rn_tup,rn_fn,rfq_loc,rfq_int,rfq_bool,rfq_str,rfq_sl,frOf,List.range_succ,List.mapM_append,List.mapM_cons]
    ·simp [-List.mapM_map,Env.put,Env.of,argEnv,Srn_eq,rnObs_cons,rnObs_nil,rnOb_arr,rnOb_map,rn_loc,rn_ref,rn_mp,rn_int,rn_bool,rn_str,rn_ip,rn_sl,rn_nils,rn_nilp,rn_undef,rn_agg,rn_tup,rn_fn,rfq_loc,rfq_int,rfq_bool,rfq_str,rfq_sl,frOf,List.range_succ,List.mapM_append,List.mapM_cons,rn_ints]
 ·try simp only [RL] at h
  obtain rfl : i = nw := by omega
  have hne := kpI_ne hd1 (show i ≠ 0 by omega)
  have hcl := kpI_len (d := ddR g) (i := i)
  have hct : ((kpI (ddR g) i).map (PV.int .i64)).take (kpI (ddR g) i).length = (kpI (ddR g) i).map (.int .i64) := List.take_of_length_le (by simp)
  have hkl : (kpI (ddR g) i).length = (keptN (kptB (ddR g)) i).length := by simp [kpI]
  rw [slI_ne hne,tlI_ne hne]
  have hcell : ∀ r w : Nat,r < (ddR g).length → w < (keptN (kptB (ddR g)) i).length → PC Tryz.prog 84 [.int .i64 r,.int .i64 w,.ip [eGrid (ddR g)] 0,.ip [eInts (kpI (ddR g) i)] 0] (.int .i64 (gz (ddR g) r ((keptN (kptB (ddR g)) i)[w]?.getD 0))) true := by
   intro r w hr hw
   obtain ⟨row,hrow,hrm⟩ := get_of hr
   obtain ⟨q,hq,hqm⟩ := get_of hw
   have hql : q < i := by have := List.mem_filter.1 hqm; exact List.mem_range.1 this.1
   obtain ⟨x,hx,-⟩ := get_of (show q < row.length by rw [q2 row (ddR_sub row hrm)]; exact hql)
   have e : gz (ddR g) r ((keptN (kptB (ddR g)) i)[w]?.getD 0) = x := by simp [gz,hrow,hq,hx]
   rw [e]
   exact tight2_pc hrow (by simp [kpI,hq]) hx
  refine W.exit ?_
  refine xe ?_
  refine xe ?_
  refine XBlock.hit ?_
  refine xn ?_
  refine W.foldS [3,4] (I := fun vs S => ∃ t : Nat,vs = [.ip [eGrid (ddR g)] 0,.ip [eInts (kpI (ddR g) i)] 0] ∧ S = ⟨[],t⟩) ⟨0,[],[.ip [eGrid (ddR g)] 0,.ip [eInts (kpI (ddR g) i)] 0],⟨[],t + 1⟩,?_,?_,t + 1,rfl,rfl⟩ ?_
  ·simp [-List.mapM_map,Env.put,Env.of,argEnv,Srn_eq,rnObs_cons,rnObs_nil,rnOb_arr,rnOb_map,rn_loc,rn_ref,rn_mp,rn_int,rn_bool,rn_str,rn_ip,rn_sl,rn_nils,rn_nilp,rn_undef,rn_agg,rn_tup,rn_fn,rfq_loc,rfq_int,rfq_bool,rfq_str,rfq_sl,frOf,List.range_succ,List.mapM_append,List.mapM_cons,rfq_ref,rfq_ints,Store.cellsOf,hct]
  ·simp [-List.mapM_map,Env.put,Env.of,argEnv,Srn_eq,rnObs_cons,rnObs_nil,rnOb_arr,rnOb_map,rn_loc,rn_ref,rn_mp,rn_int,rn_bool,rn_str,rn_ip,rn_sl,rn_nils,rn_nilp,rn_undef,rn_agg,rn_tup,rn_fn,rfq_loc,rfq_int,rfq_bool,rfq_str,rfq_sl,frOf,List.range_succ,List.mapM_append,List.mapM_cons]
  rintro vs S - ⟨t,rfl,rfl⟩
  refine W.r fun K hK => ?_
  simp (disch := omega) only [↓RU,RV,RH,↓reduceIte,reduceEqDiff,reduceCtorEq,if_pos,List.append_nil,↓RS,RG,reduceAdd,reduceMul,reduceLeDiff,ty1,tyLint,ty11,tyint]
  refine CallR.pc (blank_pc (c := fun r w => gz (ddR g) r ((keptN (kptB (ddR g)) i)[w]?.getD 0)) (nh := (ddR g).length) (nw := (kpI (ddR g) i).length) (g := 84) (cap := [.ip [eGrid (ddR g)] 0,.ip [eInts (kpI (ddR g) i)] 0]) (by omega) (by omega) (fun _ _ => rfl) (fun _ _ _ => rfl) (fun r w h1 h2 => hcell r w h1 (by omega))) rfl (.inr rfl) ?_
  simp (disch := omega) only [↓RU,RV,RH,↓reduceIte,reduceEqDiff,reduceCtorEq,if_pos,List.append_nil,↓RS,RG,reduceAdd,reduceMul,reduceLeDiff,ty1,tyLint,ty11,tyint]
  refine hK _ _ ?_;clear hK K
  refine W.ret ?_
  refine Br rfl ?_
  rw [tightG,← hkl]
  rfl
end Fw
end Go.Proofs.YtclmfemhboogpaaGreat
