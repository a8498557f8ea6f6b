/- Parts of the framework and of the proof: Small functions of the specification, gone through; The specification of plans, gone through; What a plan is, gone through; Points where rooms meet, gone through; Walls, gone through; Walls and their sides, gone through; The sides of a wall, gone through; Upright walls, gone through; Walls and orders of plans in plain words; All walls; sets of rooms, gone through; Sizes of plans in plain words; The program's own data in plain words; Small functions of the program and of the library, gone through; The program's walls in plain words; Walls of the program, gone through; Lists without neighbours that are the same; the program's relations in plain words; Compact and the sides of walls of the program, gone through; Relations of rooms in plain words, and in the store; Relations, gone through; The program's orders in plain words. -/
import Derived.Test.YtjobkanbijpfgaaGreatJ1
set_option linter.all false
namespace Go.Proofs.YtjobkanbijpfgaaGreat
namespace Fw
open Go
open Nat (reduceEqDiff reduceLeDiff reduceAdd reduceMul)
theorem l6In_pc (n low high : Int) : PC Tryz.prog 77 [.int .i64 n,.int .i64 low,.int .i64 high] (.bool (decide (low ≤ n) && decide (n ≤ high))) true := by
 refine PC.of ⟨Tryz.func77,by kernel_rfl,rfl,by kernel_rfl⟩ tabOk mixed (by show 3 ≤ Tryz.f77.ntmps; decide) ?_
 refine W.r fun K hK => ?_
 simp (disch := omega) only [↓RU,RV,RH,↓reduceIte,reduceEqDiff,reduceCtorEq,if_pos]
 refine hK _ _ ?_;clear hK K
 refine W.r fun K hK => ?_
 by_cases h : low ≤ n
 ·skip
  simp (disch := omega) only [↓RU,RV,RH,↓reduceIte,reduceEqDiff,reduceCtorEq,if_pos,w64,tyint,ge_iff_le,h,decide_true]
  refine hK _ _ ?_;clear hK K
  refine W.ret ?_
  refine Br rfl ?_
  simp only [decide_true,Bool.true_and,h]; rfl
 ·skip
  simp (disch := omega) only [↓RU,RV,RH,↓reduceIte,reduceEqDiff,reduceCtorEq,if_pos,w64,tyint,ge_iff_le,h,decide_false]
  refine hK _ _ ?_;clear hK K
  refine W.ret ?_
  refine Br rfl ?_
  simp only [decide_false,Bool.false_and,h]; rfl
theorem l1Rooms_pc {p : List Txt} (hs : Sm p) : PC Tryz.prog 76 [eStrs p] (.int .i64 (l1Rooms p)) true := by
 have hp := hs.rows
 have hr := hs.cols
 refine PC.of ⟨Tryz.func76,by kernel_rfl,rfl,by kernel_rfl⟩ tabOk mixed (by show 1 ≤ Tryz.f76.ntmps; decide) ?_
 refine W.r fun K hK => ?_
 simp (disch := omega) only [↓RU,RV,RH,↓reduceIte,reduceEqDiff,reduceCtorEq,if_pos]
 refine hK _ _ ?_;clear hK K
 refine W.r fun K hK => ?_
 simp (disch := omega) only [↓RU,RV,RH,↓reduceIte,reduceEqDiff,reduceCtorEq,if_pos]
 refine hK _ _ ?_;clear hK K
 refine W.seq ?_
 refine W.r fun K hK => ?_
 simp (disch := omega) only [↓RU,RV,RH,↓reduceIte,reduceEqDiff,reduceCtorEq,if_pos]
 refine hK _ _ ?_;clear hK K
 refine W.block ?_
 refine W.loop [0,3,4] (fun n vs S => ∃ i : Nat,n = p.length - i ∧ i ≤ p.length ∧ vs = [eStrs p,.int .i64 (l1Rooms (p.take i)),.int .i64 i] ∧ S = ⟨[],0⟩) (p.length) ?_ ?_
 ·refine ⟨0,0,rfl,Nat.zero_le _,?_,rfl⟩
  simp [Env.put,argEnv,l1Rooms]
 rintro n vs S - ⟨i,rfl,h_i,rfl,rfl⟩
 refine W.seq ?_
 refine W.r fun K hK => ?_
 simp (disch := omega) only [↓RU,RV,RH,↓reduceIte,reduceEqDiff,reduceCtorEq,if_pos,w64,ty5,tyint,tystring]
 refine hK _ _ ?_;clear hK K
 refine W.cond rfl (fun h => ?_) (fun h => ?_)
 ·try simp only [RL] at h
  obtain ⟨row,hrow,hrm⟩ := get_of (show i < p.length by omega)
  have hrl := hr row hrm
  refine W.skip ?_
  refine xn ?_
  refine W.seq ?_
  refine W.block ?_
  refine W.r fun K hK => ?_
  simp (disch := omega) only [↓RU,RV,RH,↓reduceIte,reduceEqDiff,reduceCtorEq,if_pos]
  refine hK _ _ ?_;clear hK K
  refine W.block ?_
  refine W.loop [0,3,4,5] (fun n vs S => ∃ k : Nat,n = row.length - k ∧ k ≤ row.length ∧ vs = [eStrs p,.int .i64 (rowMax (l1Rooms (p.take i)) (row.take k)),.int .i64 i,.int .i64 k] ∧ S = ⟨[],0⟩) (row.length) ?_ ?_
  ·refine ⟨0,0,rfl,Nat.zero_le _,?_,rfl⟩
   simp [Env.put,Env.of,rowMax]
  rintro n vs S - ⟨k,rfl,h_k,rfl,rfl⟩
  refine W.seq ?_
  refine W.r fun K hK => ?_
  simp (disch := omega) only [↓RU,RV,RH,↓reduceIte,reduceEqDiff,reduceCtorEq,if_pos,w64,ty5,tyint,tystring,hrow]
  refine hK _ _ ?_;clear hK K
  refine W.cond rfl (fun h1 => ?_) (fun h1 => ?_)
  ·try simp only [RL] at h1
   obtain ⟨c,hc,-⟩ := get_of (show k < row.length by omega)
   have hcl := c.toNat_lt
   refine W.skip ?_
   refine xn ?_
   refine W.seq ?_
   refine W.block ?_
   refine W.k fun K hK => ?_
   simp (disch := omega) only [↓RU,RV,RH,↓reduceIte,reduceEqDiff,reduceCtorEq,if_pos,w64,w64,ite_max,ty5,tyint,tystring,ty30,hrow,hc,ite_max]
   refine hK _ _ ?_;clear hK K
   refine XbN ?_
   refine xn ?_
   refine W.k fun K hK => ?_
   simp (disch := omega) only [↓RU,RV,RH,↓reduceIte,reduceEqDiff,reduceCtorEq,if_pos,w64,tyint]
   refine hK _ _ ?_;clear hK K
   refine xn ?_
   refine ⟨row.length - (k + 1),by omega,0,k + 1,rfl,by omega,?_,rfl⟩
   rw [tk hc]
   simp [Env.put,Env.of,rowMax,List.foldl_append]
  ·try simp only [RL] at h1
   refine W.exit ?_
   refine xe ?_
   refine xe ?_
   refine XBlock.hit ?_
   refine XbN ?_
   refine xn ?_
   refine W.k fun K hK => ?_
   simp (disch := omega) only [↓RU,RV,RH,↓reduceIte,reduceEqDiff,reduceCtorEq,if_pos,w64,tyint]
   refine hK _ _ ?_;clear hK K
   refine xn ?_
   refine ⟨p.length - (i + 1),by omega,0,i + 1,rfl,by omega,?_,rfl⟩
   rw [tk hrow]
   simp [Env.put,Env.of,l1Rooms,List.foldl_append,show k = row.length by omega]
 ·try simp only [RL] at h
  refine W.exit ?_
  refine xe ?_
  refine xe ?_
  refine XBlock.hit ?_
  refine xn ?_
  refine W.r fun K hK => ?_
  simp (disch := omega) only [↓RU,RV,RH,↓reduceIte,reduceEqDiff,reduceCtorEq,if_pos]
  refine hK _ _ ?_;clear hK K
  refine W.ret ?_
  refine Br rfl ?_
  have hip : i = p.length := by omega
  subst hip
  rw [List.take_length]
  rfl
theorem l1Same_pc {p q : List Txt} (hs : Sm p) : PC Tryz.prog 113 [eStrs p,eStrs q] (.bool (decide (p = q))) true := by
 have hp := hs.rows
 have hr := hs.cols
 refine PC.of ⟨Tryz.func113,by kernel_rfl,rfl,by kernel_rfl⟩ tabOk mixed (by show 2 ≤ Tryz.f113.ntmps; decide) ?_
 refine W.r fun K hK => ?_
 simp (disch := omega) only [↓RU,RV,RH,↓reduceIte,reduceEqDiff,reduceCtorEq,if_pos]
 refine hK _ _ ?_;clear hK K
 refine W.seq ?_
 refine W.r fun K hK => ?_
 simp (disch := omega) only [↓RU,RV,RH,↓reduceIte,reduceEqDiff,reduceCtorEq,if_pos,w64,ty5,tyint,tystring]
 refine hK _ _ ?_;clear hK K
 refine W.cond rfl (fun h0 => ?_) (fun h0 => ?_)
 ·try simp only [RL] at h0
  skip
  refine W.r fun K hK => ?_
  simp (disch := omega) only [↓RU,RV,RH,↓reduceIte,reduceEqDiff,reduceCtorEq,if_pos]
  refine hK _ _ ?_;clear hK K
  refine W.ret ?_
  refine XThen.ret ?_
  refine Br rfl ?_
  have : p ≠ q := fun e => h0 (by rw [e])
  simp [this]; rfl
 ·try simp only [RL] at h0
  refine W.skip ?_
  refine xn ?_
  refine W.seq ?_
  refine W.r fun K hK => ?_
  simp (disch := omega) only [↓RU,RV,RH,↓reduceIte,reduceEqDiff,reduceCtorEq,if_pos]
  refine hK _ _ ?_;clear hK K
  refine W.block ?_
  refine W.loop [0,1,5] (fun n vs S => ∃ i : Nat,n = p.length - i ∧ i ≤ p.length ∧ (p.take i = q.take i) ∧ vs = [eStrs p,eStrs q,.int .i64 i] ∧ S = ⟨[],0⟩) (p.length) ?_ ?_
  ·refine ⟨0,0,rfl,Nat.zero_le _,rfl,?_,rfl⟩
   simp [Env.put,Env.of,argEnv]
  rintro n vs S - ⟨i,rfl,h_i,hq,rfl,rfl⟩
  refine W.seq ?_
  refine W.r fun K hK => ?_
  simp (disch := omega) only [↓RU,RV,RH,↓reduceIte,reduceEqDiff,reduceCtorEq,if_pos,w64,ty5,tyint,tystring]
  refine hK _ _ ?_;clear hK K
  refine W.cond rfl (fun h1 => ?_) (fun h1 => ?_)
  ·try simp only [RL] at h1
   obtain ⟨row,hrow,hrm⟩ := get_of (show i < p.length by omega)
   obtain ⟨row2,hrow2,-⟩ := get_of (show i < q.length by omega)
   refine W.skip ?_
   refine xn ?_
   refine W.seq ?_
   refine W.block ?_
   refine W.seq_draw (by kernel_rfl) fun K hK => ?_
   simp (disch := omega) only [↓RU,RV,RH,↓reduceIte,reduceEqDiff,reduceCtorEq,if_pos,w64,ty5,tystring,hrow,hrow2,pStr]
   refine hK _ _ ?_;clear hK K
   refine W.cond rfl (fun h2 => ?_) (fun h2 => ?_)
   ·try simp only [RL] at h2
    refine W.r fun K hK => ?_
    simp (disch := omega) only [↓RU,RV,RH,↓reduceIte,reduceEqDiff,reduceCtorEq,if_pos]
    refine hK _ _ ?_;clear hK K
    refine W.ret ?_
    refine XBlock.ret ?_
    refine XThen.ret ?_
    refine XThen.ret ?_
    refine XBlock.ret ?_
    refine XThen.ret ?_
    refine Br rfl ?_
    have : p ≠ q := fun e => h2 (by rw [e,hrow2] at hrow; exact (Option.some.inj hrow).symm)
    simp [this]; rfl
   ·try simp only [RL] at h2
    refine W.skip ?_
    refine XbN ?_
    refine xn ?_
    refine W.k fun K hK => ?_
    simp (disch := omega) only [↓RU,RV,RH,↓reduceIte,reduceEqDiff,reduceCtorEq,if_pos,w64,tyint]
    refine hK _ _ ?_;clear hK K
    refine xn ?_
    refine ⟨p.length - (i + 1),by omega,0,i + 1,rfl,by omega,by rw [tk hrow,tk hrow2,hq,h2],?_,rfl⟩
    simp [Env.put,Env.of]
  ·try simp only [RL] at h1
   refine W.exit ?_
   refine xe ?_
   refine xe ?_
   refine XBlock.hit ?_
   refine xn ?_
   refine W.r fun K hK => ?_
   simp (disch := omega) only [↓RU,RV,RH,↓reduceIte,reduceEqDiff,reduceCtorEq,if_pos]
   refine hK _ _ ?_;clear hK K
   refine W.ret ?_
   refine Br rfl ?_
   have hip : i = p.length := by omega
   have h0n : p.length = q.length := by omega
   have : p = q := by rw [hip,List.take_length,h0n,List.take_length] at hq; exact hq
   simp [this]; rfl
theorem l1Cells_pc {p : List Txt} (hs : Sm p) (hc1 : p.length ≤ 1000) (hc2 : ∀ r ∈ p,r.length ≤ 1000) (room : Int) : PC Tryz.prog 116 [eStrs p,.int .i64 room] (.int .i64 (l1Cells p room)) true := by
 have hp := hs.rows
 have hr := hs.cols
 refine PC.of ⟨Tryz.func116,by kernel_rfl,rfl,by kernel_rfl⟩ tabOk mixed (by show 2 ≤ Tryz.f116.ntmps; decide) ?_
 refine W.r fun K hK => ?_
 simp (disch := omega) only [↓RU,RV,RH,↓reduceIte,reduceEqDiff,reduceCtorEq,if_pos]
 refine hK _ _ ?_;clear hK K
 refine W.r fun K hK => ?_
 simp (disch := omega) only [↓RU,RV,RH,↓reduceIte,reduceEqDiff,reduceCtorEq,if_pos]
 refine hK _ _ ?_;clear hK K
 refine W.seq ?_
 refine W.r fun K hK => ?_
 simp (disch := omega) only [↓RU,RV,RH,↓reduceIte,reduceEqDiff,reduceCtorEq,if_pos]
 refine hK _ _ ?_;clear hK K
 refine W.block ?_
 refine W.loop [0,1,5,6] (fun n vs S => ∃ i : Nat,n = p.length - i ∧ i ≤ p.length ∧ vs = [eStrs p,.int .i64 room,.int .i64 (l1Cells (p.take i) room),.int .i64 i] ∧ S = ⟨[],0⟩) (p.length) ?_ ?_
 ·refine ⟨0,0,rfl,Nat.zero_le _,?_,rfl⟩
  simp [Env.put,argEnv,l1Cells]
 rintro n vs S - ⟨i,rfl,h_i,rfl,rfl⟩
 refine W.seq ?_
 refine W.r fun K hK => ?_
 simp (disch := omega) only [↓RU,RV,RH,↓reduceIte,reduceEqDiff,reduceCtorEq,if_pos,w64,ty5,tyint,tystring]
 refine hK _ _ ?_;clear hK K
 refine W.cond rfl (fun h => ?_) (fun h => ?_)
 ·try simp only [RL] at h
  obtain ⟨row,hrow,hrm⟩ := get_of (show i < p.length by omega)
  have hrl := hr row hrm
  refine W.skip ?_
  refine xn ?_
  refine W.seq ?_
  refine W.block ?_
  refine W.r fun K hK => ?_
  simp (disch := omega) only [↓RU,RV,RH,↓reduceIte,reduceEqDiff,reduceCtorEq,if_pos]
  refine hK _ _ ?_;clear hK K
  refine W.block ?_
  refine W.loop [0,1,5,6,7] (fun n vs S => ∃ k : Nat,n = row.length - k ∧ k ≤ row.length ∧ vs = [eStrs p,.int .i64 room,.int .i64 (cellsRow room (l1Cells (p.take i) room) (row.take k)),.int .i64 i,.int .i64 k] ∧ S = ⟨[],0⟩) (row.length) ?_ ?_
  ·refine ⟨0,0,rfl,Nat.zero_le _,?_,rfl⟩
   simp [Env.put,Env.of,cellsRow]
  rintro n vs S - ⟨k,rfl,h_k,rfl,rfl⟩
  refine W.seq ?_
  refine W.r fun K hK => ?_
  simp (disch := omega) only [↓RU,RV,RH,↓reduceIte,reduceEqDiff,reduceCtorEq,if_pos,w64,ty5,tyint,tystring,hrow]
  refine hK _ _ ?_;clear hK K
  refine W.cond rfl (fun h1 => ?_) (fun h1 => ?_)
  ·try simp only [RL] at h1
   obtain ⟨c,hc,-⟩ := get_of (show k < row.length by omega)
   have hcl := c.toNat_lt
   have hb1 := l1Cells_bound room (p.take i) fun r hr => hc2 r (List.mem_of_mem_take hr)
   have hb2 := cellsRow_bound room (row.take k) (l1Cells (p.take i) room)
   have hb3 := List.length_take_le i p
   have hb4 := List.length_take_le k row
   refine W.skip ?_
   refine xn ?_
   refine W.seq ?_
   refine W.block ?_
   refine W.r fun K hK => ?_
   simp (disch := omega) only [↓RU,RV,RH,↓reduceIte,reduceEqDiff,reduceCtorEq,if_pos,w64,w64,ty5,tyint,tystring,ty30,hrow,hc]
   refine hK _ _ ?_;clear hK K
   refine W.cond rfl (fun h2 => ?_) (fun h2 => ?_)
   ·try simp only [RL] at h2
    refine W.k fun K hK => ?_
    simp (disch := omega) only [↓RU,RV,RH,↓reduceIte,reduceEqDiff,reduceCtorEq,if_pos,w64,tyint]
    refine hK _ _ ?_;clear hK K
    refine XbN ?_
    refine xn ?_
    refine W.k fun K hK => ?_
    simp (disch := omega) only [↓RU,RV,RH,↓reduceIte,reduceEqDiff,reduceCtorEq,if_pos,w64,tyint]
    refine hK _ _ ?_;clear hK K
    refine xn ?_
    refine ⟨row.length - (k + 1),by omega,0,k + 1,rfl,by omega,?_,rfl⟩
    rw [tk hc]
    simp [Env.put,Env.of,cellsRow,List.foldl_append,inRoom,h2]
   ·try simp only [RL] at h2
    refine W.skip ?_
    refine XbN ?_
    refine xn ?_
    refine W.k fun K hK => ?_
    simp (disch := omega) only [↓RU,RV,RH,↓reduceIte,reduceEqDiff,reduceCtorEq,if_pos,w64,tyint]
    refine hK _ _ ?_;clear hK K
    refine xn ?_
    refine ⟨row.length - (k + 1),by omega,0,k + 1,rfl,by omega,?_,rfl⟩
    rw [tk hc]
    simp [Env.put,Env.of,cellsRow,List.foldl_append,inRoom,h2]
  ·try simp only [RL] at h1
   refine W.exit ?_
   refine xe ?_
   refine xe ?_
   refine XBlock.hit ?_
   refine XbN ?_
   refine xn ?_
   refine W.k fun K hK => ?_
   simp (disch := omega) only [↓RU,RV,RH,↓reduceIte,reduceEqDiff,reduceCtorEq,if_pos,w64,tyint]
   refine hK _ _ ?_;clear hK K
   refine xn ?_
   refine ⟨p.length - (i + 1),by omega,0,i + 1,rfl,by omega,?_,rfl⟩
   rw [tk hrow]
   simp [Env.put,Env.of,l1Cells,List.foldl_append,show k = row.length by omega]
 ·try simp only [RL] at h
  refine W.exit ?_
  refine xe ?_
  refine xe ?_
  refine XBlock.hit ?_
  refine xn ?_
  refine W.r fun K hK => ?_
  simp (disch := omega) only [↓RU,RV,RH,↓reduceIte,reduceEqDiff,reduceCtorEq,if_pos]
  refine hK _ _ ?_;clear hK K
  refine W.ret ?_
  refine Br rfl ?_
  have hip : i = p.length := by omega
  subst hip
  rw [List.take_length]
  rfl
theorem l1Room_pc {p : List Txt} (hs : Sm p) (hne : 0 < p.length) (room : Int) : PC Tryz.prog 115 [eStrs p,.int .i64 room] (.tup [.int .i64 (boxOf p room).top,.int .i64 (boxOf p room).left,.int .i64 (highOf p room),.int .i64 (wideOf p room)]) true := by
 have hp := hs.rows
 have hr := hs.cols
 obtain ⟨row0,hrow0,hrm0⟩ := get_of hne
 have hrl0 := hr row0 hrm0
 have hhd := hdRow_of hrow0
 refine PC.of ⟨Tryz.func115,by kernel_rfl,rfl,by kernel_rfl⟩ tabOk mixed (by show 2 ≤ Tryz.f115.ntmps; decide) ?_
 refine W.r fun K hK => ?_
 simp (disch := omega) only [↓RU,RV,RH,↓reduceIte,reduceEqDiff,reduceCtorEq,if_pos]
 refine hK _ _ ?_;clear hK K
 refine W.r fun K hK => ?_
 simp (disch := omega) only [↓RU,RV,RH,↓reduceIte,reduceEqDiff,reduceCtorEq,if_pos,ty5,tystring]
 refine hK _ _ ?_;clear hK K
 refine W.r fun K hK => ?_
 simp (disch := omega) only [↓RU,RV,RH,↓reduceIte,reduceEqDiff,reduceCtorEq,if_pos,ty5,tystring,hrow0,Int.toNat_zero,Nat.zero_mul,Int.reduceToNat]
 refine hK _ _ ?_;clear hK K
 refine W.r fun K hK => ?_
 simp (disch := omega) only [↓RU,RV,RH,↓reduceIte,reduceEqDiff,reduceCtorEq,if_pos]
 refine hK _ _ ?_;clear hK K
 refine W.r fun K hK => ?_
 simp (disch := omega) only [↓RU,RV,RH,↓reduceIte,reduceEqDiff,reduceCtorEq,if_pos]
 refine hK _ _ ?_;clear hK K
 refine W.seq ?_
 refine W.r fun K hK => ?_
 simp (disch := omega) only [↓RU,RV,RH,↓reduceIte,reduceEqDiff,reduceCtorEq,if_pos]
 refine hK _ _ ?_;clear hK K
 refine W.block ?_
 refine W.loop [0,1,8,9,10,11,12] (fun n vs S => ∃ i : Nat,n = p.length - i ∧ i ≤ p.length ∧ vs = [eStrs p,.int .i64 room,.int .i64 (boxTo p room i).top,.int .i64 (boxTo p room i).left,.int .i64 (boxTo p room i).low,.int .i64 (boxTo p room i).right,.int .i64 i] ∧ S = ⟨[],0⟩) (p.length) ?_ ?_
 ·refine ⟨0,0,rfl,Nat.zero_le _,?_,rfl⟩
  simp [Env.put,argEnv,boxTo,hhd]
 rintro n vs S - ⟨i,rfl,h_i,rfl,rfl⟩
 refine W.seq ?_
 refine W.r fun K hK => ?_
 simp (disch := omega) only [↓RU,RV,RH,↓reduceIte,reduceEqDiff,reduceCtorEq,if_pos,w64,ty5,tyint,tystring]
 refine hK _ _ ?_;clear hK K
 refine W.cond rfl (fun h => ?_) (fun h => ?_)
 ·try simp only [RL] at h
  obtain ⟨row,hrow,hrm⟩ := get_of (show i < p.length by omega)
  have hrl := hr row hrm
  refine W.skip ?_
  refine xn ?_
  refine W.seq ?_
  refine W.block ?_
  refine W.r fun K hK => ?_
  simp (disch := omega) only [↓RU,RV,RH,↓reduceIte,reduceEqDiff,reduceCtorEq,if_pos]
  refine hK _ _ ?_;clear hK K
  refine W.block ?_
  refine W.loop [0,1,8,9,10,11,12,13] (fun n vs S => ∃ k : Nat,n = row.length - k ∧ k ≤ row.length ∧ vs = [eStrs p,.int .i64 room,.int .i64 (rowTo room i (boxTo p room i) row k).top,.int .i64 (rowTo room i (boxTo p room i) row k).left,.int .i64 (rowTo room i (boxTo p room i) row k).low,.int .i64 (rowTo room i (boxTo p room i) row k).right,.int .i64 i,.int .i64 k] ∧ S = ⟨[],0⟩) (row.length) ?_ ?_
  ·refine ⟨0,0,rfl,Nat.zero_le _,?_,rfl⟩
   simp [Env.put,Env.of,rowTo]
  rintro n vs S - ⟨k,rfl,h_k,rfl,rfl⟩
  refine W.seq ?_
  refine W.r fun K hK => ?_
  simp (disch := omega) only [↓RU,RV,RH,↓reduceIte,reduceEqDiff,reduceCtorEq,if_pos,w64,ty5,tyint,tystring,hrow]
  refine hK _ _ ?_;clear hK K
  refine W.cond rfl (fun h1 => ?_) (fun h1 => ?_)
  ·try simp only [RL] at h1
   obtain ⟨c,hc,-⟩ := get_of (show k < row.length by omega)
   have hcl := c.toNat_lt
   refine W.skip ?_
   refine xn ?_
   refine W.seq ?_
   refine W.block ?_
   refine W.r fun K hK => ?_
   simp (disch := omega) only [↓RU,RV,RH,↓reduceIte,reduceEqDiff,reduceCtorEq,if_pos,w64,w64,ty5,tyint,tystring,ty30,hrow,hc]
   refine hK _ _ ?_;clear hK K
   refine W.cond rfl (fun h2 => ?_) (fun h2 => ?_)
   ·try simp only [RL] at h2
    refine W.r fun K hK => ?_
    simp (disch := omega) only [↓RU,RV,RH,↓reduceIte,reduceEqDiff,reduceCtorEq,if_pos,ite_min,tyint]
    refine hK _ _ ?_;clear hK K
    refine W.r fun K hK => ?_
    simp (disch := omega) only [↓RU,RV,RH,↓reduceIte,reduceEqDiff,reduceCtorEq,if_pos,ite_min,tyint]
    refine hK _ _ ?_;clear hK K
    refine W.r fun K hK => ?_
    simp (disch := omega) only [↓RU,RV,RH,↓reduceIte,reduceEqDiff,reduceCtorEq,if_pos,ite_max,tyint]
    refine hK _ _ ?_;clear hK K
    refine W.k fun K hK => ?_
    simp (disch := omega) only [↓RU,RV,RH,↓reduceIte,reduceEqDiff,reduceCtorEq,if_pos,ite_max,tyint]
    refine hK _ _ ?_;clear hK K
    refine XbN ?_
    refine xn ?_
    refine W.k fun K hK => ?_
    simp (disch := omega) only [↓RU,RV,RH,↓reduceIte,reduceEqDiff,reduceCtorEq,if_pos,w64,tyint]
    refine hK _ _ ?_;clear hK K
    refine xn ?_
    refine ⟨row.length - (k + 1),by omega,0,k + 1,rfl,by omega,?_,rfl⟩
    rw [rowTo_succ hc]
    simp [Env.put,Env.of,boxCell,inRoom,h2]
   ·try simp only [RL] at h2
    refine W.skip ?_
    refine XbN ?_
    refine xn ?_
    refine W.k fun K hK => ?_
    simp (disch := omega) only [↓RU,RV,RH,↓reduceIte,reduceEqDiff,reduceCtorEq,if_pos,w64,tyint]
    refine hK _ _ ?_;clear hK K
    refine xn ?_
    refine ⟨row.length - (k + 1),by omega,0,k + 1,rfl,by omega,?_,rfl⟩
    rw [rowTo_succ hc]
    simp [Env.put,Env.of,boxCell,inRoom,h2]
  ·try simp only [RL] at h1
   refine W.exit ?_
   refine xe ?_
   refine xe ?_
   refine XBlock.hit ?_
   refine XbN ?_
   refine xn ?_
   refine W.k fun K hK => ?_
   simp (disch := omega) only [↓RU,RV,RH,↓reduceIte,reduceEqDiff,reduceCtorEq,if_pos,w64,tyint]
   refine hK _ _ ?_;clear hK K
   refine xn ?_
   refine ⟨p.length - (i + 1),by omega,0,i + 1,rfl,by omega,?_,rfl⟩
   rw [boxTo_succ hrow]
   simp [Env.put,Env.of,show k = row.length by omega]
 ·try simp only [RL] at h
  refine W.exit ?_
  refine xe ?_
  refine xe ?_
  refine XBlock.hit ?_
  refine xn ?_
  refine W.r fun K hK => ?_
  have hip : i = p.length := by omega
  subst hip
  have hbb := boxTo_bound room hs.1 hs.2 p.length (Nat.le_refl _)
  rw [boxTo_all] at hbb
  simp only [Box.In] at hbb
  simp (disch := omega) only [↓RU,RV,RH,↓reduceIte,reduceEqDiff,reduceCtorEq,if_pos,w64,tyint,boxTo_all]
  refine hK _ _ ?_;clear hK K
  refine W.ret ?_
  refine Br rfl ?_
  rfl
theorem l1Grid_pc {p : List Txt} (hs : Sm p) : PC Tryz.prog 112 [eStrs p] (.bool (gridB p)) true := by
 have hp := hs.rows
 have hr := hs.cols
 refine PC.of ⟨Tryz.func112,by kernel_rfl,rfl,by kernel_rfl⟩ tabOk mixed (by show 1 ≤ Tryz.f112.ntmps; decide) ?_
 refine W.r fun K hK => ?_
 simp (disch := omega) only [↓RU,RV,RH,↓reduceIte,reduceEqDiff,reduceCtorEq,if_pos]
 refine hK _ _ ?_;clear hK K
 refine W.seq ?_
 refine W.r fun K hK => ?_
 simp (disch := omega) only [↓RU,RV,RH,↓reduceIte,reduceEqDiff,reduceCtorEq,if_pos]
 refine hK _ _ ?_;clear hK K
 refine W.block ?_
 refine W.loop [0,3] (fun n vs S => ∃ i : Nat,n = p.length - i ∧ i ≤ p.length ∧ ((p.take i).all (rowB (hdRow p).length) = true) ∧ vs = [eStrs p,.int .i64 i] ∧ S = ⟨[],0⟩) (p.length) ?_ ?_
 ·refine ⟨0,0,rfl,Nat.zero_le _,rfl,?_,rfl⟩
  simp [Env.put,Env.of,argEnv]
 rintro n vs S - ⟨i,rfl,h_i,hg,rfl,rfl⟩
 refine W.seq ?_
 refine W.r fun K hK => ?_
 simp (disch := omega) only [↓RU,RV,RH,↓reduceIte,reduceEqDiff,reduceCtorEq,if_pos,w64,ty5,tyint,tystring]
 refine hK _ _ ?_;clear hK K
 refine W.cond rfl (fun h => ?_) (fun h => ?_)
 ·try simp only [RL] at h
  obtain ⟨row,hrow,hrm⟩ := get_of (show i < p.length by omega)
  have hrl := hr row hrm
  obtain ⟨row0,hrow0,hrm0⟩ := get_of (show 0 < p.length by omega)
  have hhd := hdRow_of hrow0
  refine W.skip ?_
  refine xn ?_
  refine W.seq ?_
  refine W.block ?_
  refine W.seq ?_
  refine W.seq_draw (by kernel_rfl) fun K hK => ?_
  cases hw : ((row.length : Int) != (row0.length : Int))
  ·skip
   simp (disch := omega) only [↓RU,RV,RH,↓reduceIte,reduceEqDiff,reduceCtorEq,if_pos,w64,List.append_nil,ty5,tyint,tystring,hrow,hrow0,Int.toNat_zero,Nat.zero_mul,Int.reduceToNat,hw]
   refine CallR.pc (l6In_pc _ _ _) rfl (.inl rfl) ?_
   simp (disch := omega) only [↓RU,RV,RH,↓reduceIte,reduceEqDiff,reduceCtorEq,if_pos,w64,List.append_nil,ty5,tyint,tystring,hrow,hrow0,Int.toNat_zero,Nat.zero_mul,Int.reduceToNat,hw]
   refine hK _ _ ?_;clear hK K
   simp only [bne_eq_false_iff_eq] at hw
   refine W.cond rfl (fun h2 => ?_) (fun h2 => ?_)
   ·skip
    simp only [Bool.not_eq_true',Bool.and_eq_false_iff,decide_eq_false_iff_not] at h2
    refine W.r fun K hK => ?_
    simp (disch := omega) only [↓RU,RV,RH,↓reduceIte,reduceEqDiff,reduceCtorEq,if_pos]
    refine hK _ _ ?_;clear hK K
    refine W.ret ?_
    refine XThen.ret ?_
    refine XBlock.ret ?_
    refine XThen.ret ?_
    refine XThen.ret ?_
    refine XBlock.ret ?_
    refine XThen.ret ?_
    refine Br rfl ?_
    rw [gridB_no hrow (by cases hb : rowB (hdRow p).length row with | false => rfl | true => exfalso; simp only [rowB,Bool.and_eq_true,decide_eq_true_eq] at hb; rw [hhd] at hb; omega)]
    rfl
   ·skip
    simp only [Bool.not_eq_false',Bool.and_eq_true,decide_eq_true_eq] at h2
    refine W.skip ?_
    refine xn ?_
    refine W.r fun K hK => ?_
    simp (disch := omega) only [↓RU,RV,RH,↓reduceIte,reduceEqDiff,reduceCtorEq,if_pos]
    refine hK _ _ ?_;clear hK K
    refine W.block ?_
    refine W.loop [0,3,4] (fun n vs S => ∃ k : Nat,n = row.length - k ∧ k ≤ row.length ∧ ((row.take k).all letterB = true) ∧ vs = [eStrs p,.int .i64 i,.int .i64 k] ∧ S = ⟨[],0⟩) (row.length) ?_ ?_
    ·refine ⟨0,0,rfl,Nat.zero_le _,rfl,?_,rfl⟩
     simp [Env.put,Env.of,argEnv]
    rintro n vs S - ⟨k,rfl,h_k,hl,rfl,rfl⟩
    refine W.seq ?_
    refine W.r fun K hK => ?_
    simp (disch := omega) only [↓RU,RV,RH,↓reduceIte,reduceEqDiff,reduceCtorEq,if_pos,w64,ty5,tyint,tystring,hrow]
    refine hK _ _ ?_;clear hK K
    refine W.cond rfl (fun h3 => ?_) (fun h3 => ?_)
    ·try simp only [RL] at h3
     obtain ⟨c,hc,-⟩ := get_of (show k < row.length by omega)
     have hcl := c.toNat_lt
     refine W.skip ?_
     refine xn ?_
     refine W.seq ?_
     refine W.block ?_
     refine W.r fun K hK => ?_
     cases hlo : decide ((c.toNat : Int) < 97)
     ·skip
      simp (disch := omega) only [↓RU,RV,RH,↓reduceIte,reduceEqDiff,reduceCtorEq,if_pos,w64,ty5,tystring,ty30,hrow,hc,hlo]
      refine hK _ _ ?_;clear hK K
      refine W.cond rfl (fun h4 => ?_) (fun h4 => ?_)
      ·try simp only [RL] at h4
       refine W.r fun K hK => ?_
       simp (disch := omega) only [↓RU,RV,RH,↓reduceIte,reduceEqDiff,reduceCtorEq,if_pos]
       refine hK _ _ ?_;clear hK K
       refine W.ret ?_
       refine XBlock.ret ?_
       refine XThen.ret ?_
       refine XThen.ret ?_
       refine XBlock.ret ?_
       refine XBlock.ret ?_
       refine XThen.ret ?_
       refine XThen.ret ?_
       refine XBlock.ret ?_
       refine XThen.ret ?_
       refine Br rfl ?_
       rw [gridB_no hrow (row_letter_no hc (by cases hb : letterB c with | false => rfl | true => exfalso; simp only [letterB,Bool.and_eq_true,decide_eq_true_eq] at hb; omega))]
       rfl
      ·try simp only [RL] at h4
       refine W.skip ?_
       refine XbN ?_
       refine xn ?_
       refine W.k fun K hK => ?_
       simp (disch := omega) only [↓RU,RV,RH,↓reduceIte,reduceEqDiff,reduceCtorEq,if_pos,w64,tyint]
       refine hK _ _ ?_;clear hK K
       refine xn ?_
       refine ⟨row.length - (k + 1),by omega,0,k + 1,rfl,by omega,all_tk hc hl (by simp only [decide_eq_false_iff_not] at hlo; simp only [letterB,Bool.and_eq_true,decide_eq_true_eq]; omega),?_,rfl⟩
       simp [Env.put,Env.of]
     ·skip
      simp (disch := omega) only [↓RU,RV,RH,↓reduceIte,reduceEqDiff,reduceCtorEq,if_pos,w64,ty5,tystring,ty30,hrow,hc,hlo]
      refine hK _ _ ?_;clear hK K
      refine W.cond rfl (fun h4 => ?_) (fun h4 => ?_)
      ·try simp only [RL] at h4
       refine W.r fun K hK => ?_
       simp (disch := omega) only [↓RU,RV,RH,↓reduceIte,reduceEqDiff,reduceCtorEq,if_pos]
       refine hK _ _ ?_;clear hK K
       refine W.ret ?_
       refine XBlock.ret ?_
       refine XThen.ret ?_
       refine XThen.ret ?_
       refine XBlock.ret ?_
       refine XBlock.ret ?_
       refine XThen.ret ?_
       refine XThen.ret ?_
       refine XBlock.ret ?_
       refine XThen.ret ?_
       refine Br rfl ?_
       simp only [decide_eq_true_eq] at hlo
       rw [gridB_no hrow (row_letter_no hc (by cases hb : letterB c with | false => rfl | true => exfalso; simp only [letterB,Bool.and_eq_true,decide_eq_true_eq] at hb; omega))]
       rfl
      ·try simp only [RL] at h4
       exact absurd h4 (by simp)
    ·try simp only [RL] at h3
     have hl2 : row.all letterB = true := by rw [show k = row.length by omega,List.take_length] at hl; exact hl
     refine W.exit ?_
     refine xe ?_
     refine xe ?_
     refine XBlock.hit ?_
     refine XbN ?_
     refine xn ?_
     refine W.k fun K hK => ?_
     simp (disch := omega) only [↓RU,RV,RH,↓reduceIte,reduceEqDiff,reduceCtorEq,if_pos,w64,tyint]
     refine hK _ _ ?_;clear hK K
     refine xn ?_
     refine ⟨p.length - (i + 1),by omega,0,i + 1,rfl,by omega,all_tk hrow hg (by rw [hhd]; simp only [rowB,hl2,Bool.and_true,Bool.and_eq_true,decide_eq_true_eq]; omega),?_,rfl⟩
     simp [Env.put,Env.of]
  ·skip
   simp (disch := omega) only [↓RU,RV,RH,↓reduceIte,reduceEqDiff,reduceCtorEq,if_pos,w64,List.append_nil,ty5,tyint,tystring,hrow,hrow0,Int.toNat_zero,Nat.zero_mul,Int.reduceToNat,hw]
   refine hK _ _ ?_;clear hK K
   simp only [bne_iff_ne,ne_eq] at hw
   refine W.cond rfl (fun h2 => ?_) (fun h2 => ?_)
   ·try simp only [RL] at h2
    refine W.r fun K hK => ?_
    simp (disch := omega) only [↓RU,RV,RH,↓reduceIte,reduceEqDiff,reduceCtorEq,if_pos]
    refine hK _ _ ?_;clear hK K
    refine W.ret ?_
    refine XThen.ret ?_
    refine XBlock.ret ?_
    refine XThen.ret ?_
    refine XThen.ret ?_
    refine XBlock.ret ?_
    refine XThen.ret ?_
    refine Br rfl ?_
    rw [gridB_no hrow (by cases hb : rowB (hdRow p).length row with | false => rfl | true => exfalso; simp only [rowB,Bool.and_eq_true,decide_eq_true_eq] at hb; rw [hhd] at hb; omega)]
    rfl
   ·try simp only [RL] at h2
    exact absurd h2 (by simp)
 ·try simp only [RL] at h
  refine W.exit ?_
  refine xe ?_
  refine xe ?_
  refine XBlock.hit ?_
  refine xn ?_
  refine W.r fun K hK => ?_
  simp (disch := omega) only [↓RU,RV,RH,↓reduceIte,reduceEqDiff,reduceCtorEq,if_pos,List.append_nil,ty5,tystring]
  refine CallR.pc (l6In_pc _ _ _) rfl (.inl rfl) ?_
  simp (disch := omega) only [↓RU,RV,RH,↓reduceIte,reduceEqDiff,reduceCtorEq,if_pos,List.append_nil,ty5,tystring]
  refine hK _ _ ?_;clear hK K
  refine W.ret ?_
  refine Br rfl ?_
  have hip : i = p.length := by omega
  rw [hip,List.take_length] at hg
  rw [gridB_yes hg,← in_nat]
  rfl
theorem l1Names_pc {p : List Txt} (hs : Sm p) : PC Tryz.prog 114 [eStrs p] (eStrs (names p)) true := by
 have hp := hs.rows
 have hr := hs.cols
 refine PC.of ⟨Tryz.func114,by kernel_rfl,rfl,by kernel_rfl⟩ tabOk mixed (by show 1 ≤ Tryz.f114.ntmps; decide) ?_
 refine W.r fun K hK => ?_
 simp (disch := omega) only [↓RU,RV,RH,↓reduceIte,reduceEqDiff,reduceCtorEq,if_pos,↓RS,RG,reduceAdd,reduceMul,reduceLeDiff]
 refine hK _ _ ?_;clear hK K
 refine W.r fun K hK => ?_
 simp (disch := omega) only [↓RU,RV,RH,↓reduceIte,reduceEqDiff,reduceCtorEq,if_pos,↓RS,RG,reduceAdd,reduceMul,reduceLeDiff,ty6,ty30]
 refine hK _ _ ?_;clear hK K
 refine W.r fun K hK => ?_
 simp (disch := omega) only [↓RU,RV,RH,↓reduceIte,reduceEqDiff,reduceCtorEq,if_pos,↓RS,RG,reduceAdd,reduceMul,reduceLeDiff,ty5,tystring]
 refine hK _ _ ?_;clear hK K
 refine W.seq ?_
 refine W.r fun K hK => ?_
 simp (disch := omega) only [↓RU,RV,RH,↓reduceIte,reduceEqDiff,reduceCtorEq,if_pos,↓RS,RG,reduceAdd,reduceMul,reduceLeDiff]
 refine hK _ _ ?_;clear hK K
 refine W.block ?_
 refine W.loop [0,3,4,5] (fun n vs S => ∃ i v0 v1 tk : Nat,n = p.length - i ∧ i ≤ p.length ∧ vs = [eStrs p,.loc 0 v0 0 (allSt p i).1.length,.loc 1 v1 0 (allSt p i).2.length,.int .i64 i] ∧ S = ⟨[.arr v0 5 1 ((allSt p i).1.map eB),.arr v1 9 1 ((allSt p i).2.map .str)],tk⟩) (p.length) ?_ ?_
 ·refine ⟨2,0,0,1,2,rfl,Nat.zero_le _,?_,rfl⟩
  simp [Env.put,Env.of,argEnv,allSt]
 rintro n vs S - ⟨i,v0,v1,tk,rfl,h_i,rfl,rfl⟩
 refine W.seq ?_
 refine W.r fun K hK => ?_
 simp (disch := omega) only [↓RU,RV,RH,↓reduceIte,reduceEqDiff,reduceCtorEq,if_pos,w64,↓RS,RG,reduceAdd,reduceMul,reduceLeDiff,ty5,tyint,tystring]
 refine hK _ _ ?_;clear hK K
 refine W.cond rfl (fun h => ?_) (fun h => ?_)
 ·try simp only [RL] at h
  obtain ⟨row,hrow,hrm⟩ := get_of (show i < p.length by omega)
  have hrl := hr row hrm
  have hal := allSt_len hs.2 h_i
  have hs1 := hs.1
  refine W.skip ?_
  refine xn ?_
  refine W.seq ?_
  refine W.block ?_
  refine W.r fun K hK => ?_
  simp (disch := omega) only [↓RU,RV,RH,↓reduceIte,reduceEqDiff,reduceCtorEq,if_pos,↓RS,RG,reduceAdd,reduceMul,reduceLeDiff,ty6,ty30]
  refine hK _ _ ?_;clear hK K
  refine W.seq ?_
  refine W.r fun K hK => ?_
  simp (disch := omega) only [↓RU,RV,RH,↓reduceIte,reduceEqDiff,reduceCtorEq,if_pos,↓RS,RG,reduceAdd,reduceMul,reduceLeDiff]
  refine hK _ _ ?_;clear hK K
  refine W.block ?_
  refine W.loop [0,3,4,5,6,7] (fun n vs S => ∃ k v0 v2 tk : Nat,n = row.length - k ∧ k ≤ row.length ∧ vs = [eStrs p,.loc 0 v0 0 (rowSt (allSt p i).1 row k).1.length,.loc 1 v1 0 (allSt p i).2.length,.int .i64 i,.loc 2 v2 0 (rowSt (allSt p i).1 row k).2.length,.int .i64 k] ∧ S = ⟨[.arr v0 5 1 ((rowSt (allSt p i).1 row k).1.map eB),.arr v1 9 1 ((allSt p i).2.map .str),.arr v2 5 1 ((rowSt (allSt p i).1 row k).2.map eB)],tk⟩) (row.length) ?_ ?_
  ·refine ⟨3,0,v0,tk,tk + 1,rfl,Nat.zero_le _,?_,rfl⟩
   simp [Env.put,Env.of,argEnv,rowSt]
  rintro n vs S - ⟨k,v0,v2,tk,rfl,h_k,rfl,rfl⟩
  refine W.seq ?_
  refine W.r fun K hK => ?_
  simp (disch := omega) only [↓RU,RV,RH,↓reduceIte,reduceEqDiff,reduceCtorEq,if_pos,w64,↓RS,RG,reduceAdd,reduceMul,reduceLeDiff,ty5,tyint,tystring,hrow]
  refine hK _ _ ?_;clear hK K
  refine W.cond rfl (fun h1 => ?_) (fun h1 => ?_)
  ·try simp only [RL] at h1
   obtain ⟨c,hc,-⟩ := get_of (show k < row.length by omega)
   have hcl := c.toNat_lt
   have hrs := rowSt_len (o := (allSt p i).1) h_k
   generalize hst : rowSt (allSt p i).1 row k = st at hrs ⊢
   refine W.skip ?_
   refine xn ?_
   refine W.seq ?_
   refine W.block ?_
   refine W.r fun K hK => ?_
   simp (disch := omega) only [↓RU,RV,RH,↓reduceIte,reduceEqDiff,reduceCtorEq,if_pos,↓RS,RG,reduceAdd,reduceMul,reduceLeDiff]
   refine hK _ _ ?_;clear hK K
   refine W.seq ?_
   refine W.block ?_
   refine W.loop [0,3,4,5,6,7,8] (fun n vs S => ∃ a : Nat,n = st.1.length - a ∧ a ≤ st.1.length ∧ (∀ j,j < a → st.1[j]? ≠ some c) ∧ vs = [eStrs p,.loc 0 v0 0 st.1.length,.loc 1 v1 0 (allSt p i).2.length,.int .i64 i,.loc 2 v2 0 st.2.length,.int .i64 k,.int .i64 a] ∧ S = ⟨[.arr v0 5 1 (st.1.map eB),.arr v1 9 1 ((allSt p i).2.map .str),.arr v2 5 1 (st.2.map eB)],tk⟩) (st.1.length) ?_ ?_
   ·refine ⟨3,0,rfl,Nat.zero_le _,fun j hj => absurd hj (Nat.not_lt_zero _),?_,rfl⟩
    simp [Env.put,Env.of,argEnv]
   rintro n vs S - ⟨a,rfl,h_a,ha,rfl,rfl⟩
   refine W.seq ?_
   refine W.seq_draw (by kernel_rfl) fun K hK => ?_
   cases ho : decide ((a : Int) < (st.1.length : Int))
   ·skip
    simp (disch := omega) only [↓RU,RV,RH,↓reduceIte,reduceEqDiff,reduceCtorEq,if_pos,w64,↓RS,RG,reduceAdd,reduceMul,reduceLeDiff,ty5,ty6,tyint,tystring,ty30,hrow,hc,ho]
    refine hK _ _ ?_;clear hK K
    refine W.cond rfl (fun h2 => ?_) (fun h2 => ?_)
    ·try simp only [RL] at h2
     exact absurd h2 (by simp)
    ·try simp only [RL] at h2
     have hal2 : a = st.1.length := by simp at ho; omega
     have hix : st.1.idxOf c = a := idxOf_is ha (.inl hal2)
     refine W.exit ?_
     refine xe ?_
     refine xe ?_
     refine XBlock.hit ?_
     refine xn ?_
     refine W.seq ?_
     refine W.r fun K hK => ?_
     simp (disch := omega) only [↓RU,RV,RH,↓reduceIte,reduceEqDiff,reduceCtorEq,if_pos,w64,↓RS,RG,reduceAdd,reduceMul,reduceLeDiff,ty6,tyint,ty30]
     refine hK _ _ ?_;clear hK K
     refine W.cond rfl (fun h3 => ?_) (fun h3 => ?_)
     ·try simp only [RL] at h3
      refine W.k fun K hK => ?_
      simp (disch := omega) only [↓RU,RV,RH,↓reduceIte,reduceEqDiff,reduceCtorEq,if_pos,↓RS,RG,reduceAdd,reduceMul,reduceLeDiff,ty5,ty6,tystring,ty30,hrow,hc]
      refine hK _ _ ?_;clear hK K
      refine xn ?_
      refine W.k fun K hK => ?_
      simp (disch := omega) only [↓RU,RV,RH,↓reduceIte,reduceEqDiff,reduceCtorEq,if_pos,w64,w64,↓RS,RG,reduceAdd,reduceMul,reduceLeDiff,ty6,tyint,ty30,u8_97]
      refine hK _ _ ?_;clear hK K
      refine XbN ?_
      refine xn ?_
      refine W.k fun K hK => ?_
      simp (disch := omega) only [↓RU,RV,RH,↓reduceIte,reduceEqDiff,reduceCtorEq,if_pos,w64,↓RS,RG,reduceAdd,reduceMul,reduceLeDiff,tyint]
      refine hK _ _ ?_;clear hK K
      refine xn ?_
      refine ⟨row.length - (k + 1),by omega,3,k + 1,tk + 1,tk + 3,tk + 4,rfl,by omega,?_,?_⟩
      all_goals rw [rowSt_succ hc,hst,name_new hix hal2]
      all_goals simp [Env.put,Env.of,take_eq]
     ·try simp only [RL] at h3
      simp at ho; omega
   ·skip
    obtain ⟨x,hx,-⟩ := get_of (show a < st.1.length by simpa using ho)
    have ho2 : a < st.1.length := by simpa using ho
    simp (disch := omega) only [↓RU,RV,RH,↓reduceIte,reduceEqDiff,reduceCtorEq,if_pos,w64,↓RS,RG,reduceAdd,reduceMul,reduceLeDiff,ty5,ty6,tyint,tystring,ty30,hrow,hc,ho,hx]
    refine hK _ _ ?_;clear hK K
    refine W.cond rfl (fun h2 => ?_) (fun h2 => ?_)
    ·try simp only [RL] at h2
     refine W.skip ?_
     refine xn ?_
     refine W.block ?_
     refine W.k fun K hK => ?_
     simp (disch := omega) only [↓RU,RV,RH,↓reduceIte,reduceEqDiff,reduceCtorEq,if_pos,w64,↓RS,RG,reduceAdd,reduceMul,reduceLeDiff,tyint]
     refine hK _ _ ?_;clear hK K
     refine XbN ?_
     refine xn ?_
     refine ⟨st.1.length - (a + 1),by omega,3,a + 1,rfl,by omega,fun j hj => (Nat.lt_succ_iff_lt_or_eq.1 hj).elim (ha j) fun e => by rw [e,hx]; intro e2; exact h2 (by rw [Option.some.inj e2]),?_,rfl⟩
     simp [Env.put,Env.of]
    ·try simp only [RL] at h2
     have hal2 : a < st.1.length := by simpa using ho
     have hix : st.1.idxOf c = a := idxOf_is ha (.inr (by rw [hx,UInt8.toNat_inj.1 (show x.toNat = c.toNat by omega)]))
     refine W.exit ?_
     refine xe ?_
     refine xe ?_
     refine XBlock.hit ?_
     refine xn ?_
     refine W.seq ?_
     refine W.r fun K hK => ?_
     simp (disch := omega) only [↓RU,RV,RH,↓reduceIte,reduceEqDiff,reduceCtorEq,if_pos,w64,↓RS,RG,reduceAdd,reduceMul,reduceLeDiff,ty6,tyint,ty30]
     refine hK _ _ ?_;clear hK K
     refine W.cond rfl (fun h3 => ?_) (fun h3 => ?_)
     ·try simp only [RL] at h3
      simp at ho; omega
     ·try simp only [RL] at h3
      refine W.skip ?_
      refine xn ?_
      refine W.k fun K hK => ?_
      simp (disch := omega) only [↓RU,RV,RH,↓reduceIte,reduceEqDiff,reduceCtorEq,if_pos,w64,w64,↓RS,RG,reduceAdd,reduceMul,reduceLeDiff,ty6,tyint,ty30,u8_97]
      refine hK _ _ ?_;clear hK K
      refine XbN ?_
      refine xn ?_
      refine W.k fun K hK => ?_
      simp (disch := omega) only [↓RU,RV,RH,↓reduceIte,reduceEqDiff,reduceCtorEq,if_pos,w64,↓RS,RG,reduceAdd,reduceMul,reduceLeDiff,tyint]
      refine hK _ _ ?_;clear hK K
      refine xn ?_
      refine ⟨row.length - (k + 1),by omega,3,k + 1,v0,tk + 1,tk + 2,rfl,by omega,?_,?_⟩
      all_goals rw [rowSt_succ hc,hst,name_old hix hal2]
      all_goals simp [Env.put,Env.of,take_eq]
  ·try simp only [RL] at h1
   have hkr : k = row.length := by omega
   subst hkr
   refine W.exit ?_
   refine xe ?_
   refine xe ?_
   refine XBlock.hit ?_
   refine xn ?_
   refine W.k fun K hK => ?_
   simp (disch := omega) only [↓RU,RV,RH,↓reduceIte,reduceEqDiff,reduceCtorEq,if_pos,w64,↓RS,RG,reduceAdd,reduceMul,reduceLeDiff,ty5,ty6,tystring,ty30]
   refine hK _ _ ?_;clear hK K
   refine XbN ?_
   refine xn ?_
   refine W.k fun K hK => ?_
   simp (disch := omega) only [↓RU,RV,RH,↓reduceIte,reduceEqDiff,reduceCtorEq,if_pos,w64,↓RS,RG,reduceAdd,reduceMul,reduceLeDiff,tyint]
   refine hK _ _ ?_;clear hK K
   refine xn ?_
   refine ⟨p.length - (i + 1),by omega,2,i + 1,v0,tk + 1,tk + 2,rfl,by omega,?_,?_⟩
   all_goals rw [allSt_succ hrow]
   all_goals simp [Env.put,Env.of,take_eq]
 ·try simp only [RL] at h
  refine W.exit ?_
  refine xe ?_
  refine xe ?_
  refine XBlock.hit ?_
  refine xn ?_
  refine W.r fun K hK => ?_
  simp (disch := omega) only [↓RU,RV,RH,↓reduceIte,reduceEqDiff,reduceCtorEq,if_pos,↓RS,RG,reduceAdd,reduceMul,reduceLeDiff]
  refine hK _ _ ?_;clear hK K
  refine W.ret ?_
  refine Br rfl ?_
  have hip : i = p.length := by omega
  subst hip
  rw [allSt_all]
  exact reify_loc (k := 9) rfl (by simp) (mapM_str _)
theorem sPlanIn_pc {p : List Txt} (hs : Sm p) : PC Tryz.prog 78 [eStrs p] (.bool (planB p)) true := by
 have hp := hs.rows
 have hrb := l1Rooms_bound p
 obtain ⟨R,hR⟩ : ∃ R : Nat,l1Rooms p = R := ⟨_,(Int.toNat_of_nonneg hrb.1).symm⟩
 refine PC.of ⟨Tryz.func78,by kernel_rfl,rfl,by kernel_rfl⟩ tabOk mixed (by show 1 ≤ Tryz.f78.ntmps; decide) ?_
 refine W.r fun K hK => ?_
 simp (disch := omega) only [↓RU,RV,RH,↓reduceIte,reduceEqDiff,reduceCtorEq,if_pos]
 refine hK _ _ ?_;clear hK K
 refine W.seq ?_
 refine W.r fun K hK => ?_
 rcases hx : (gridB p,decide (names p = p)) with ⟨_ | _,_ | _⟩
 ·skip
  simp only [Prod.mk.injEq] at hx
  obtain ⟨hg,hn⟩ := hx
  simp (disch := omega) only [↓RU,RV,RH,↓reduceIte,reduceEqDiff,reduceCtorEq,if_pos,List.append_nil,w64,tyint,hg]
  refine CallR.pc (l1Grid_pc hs) rfl (.inl rfl) ?_
  simp (disch := omega) only [↓RU,RV,RH,↓reduceIte,reduceEqDiff,reduceCtorEq,if_pos,List.append_nil,w64,tyint,hg]
  refine hK _ _ ?_;clear hK K
  refine W.cond rfl (fun h0 => ?_) (fun h0 => ?_)
  ·try simp only [RL] at h0
   refine W.r fun K hK => ?_
   simp (disch := omega) only [↓RU,RV,RH,↓reduceIte,reduceEqDiff,reduceCtorEq,if_pos]
   refine hK _ _ ?_;clear hK K
   refine W.ret ?_
   refine XThen.ret ?_
   refine Br rfl ?_
   rw [planB_no (.inl hg)]
   rfl
  ·try simp only [RL] at h0
   exact absurd h0 (by simp)
 ·skip
  simp only [Prod.mk.injEq] at hx
  obtain ⟨hg,hn⟩ := hx
  simp (disch := omega) only [↓RU,RV,RH,↓reduceIte,reduceEqDiff,reduceCtorEq,if_pos,List.append_nil,w64,tyint,hg]
  refine CallR.pc (l1Grid_pc hs) rfl (.inl rfl) ?_
  simp (disch := omega) only [↓RU,RV,RH,↓reduceIte,reduceEqDiff,reduceCtorEq,if_pos,List.append_nil,w64,tyint,hg]
  refine hK _ _ ?_;clear hK K
  refine W.cond rfl (fun h0 => ?_) (fun h0 => ?_)
  ·try simp only [RL] at h0
   refine W.r fun K hK => ?_
   simp (disch := omega) only [↓RU,RV,RH,↓reduceIte,reduceEqDiff,reduceCtorEq,if_pos]
   refine hK _ _ ?_;clear hK K
   refine W.ret ?_
   refine XThen.ret ?_
   refine Br rfl ?_
   rw [planB_no (.inl hg)]
   rfl
  ·try simp only [RL] at h0
   exact absurd h0 (by simp)
 ·skip
  simp only [Prod.mk.injEq] at hx
  obtain ⟨hg,hn⟩ := hx
  simp (disch := omega) only [↓RU,RV,RH,↓reduceIte,reduceEqDiff,reduceCtorEq,if_pos,List.append_nil,w64,tyint,hg,hn]
  refine CallR.pc (l1Grid_pc hs) rfl (.inl rfl) ?_
  simp (disch := omega) only [↓RU,RV,RH,↓reduceIte,reduceEqDiff,reduceCtorEq,if_pos,List.append_nil,w64,tyint,hg,hn]
  refine CallR.pc (l1Names_pc hs) rfl (.inl rfl) ?_
  simp (disch := omega) only [↓RU,RV,RH,↓reduceIte,reduceEqDiff,reduceCtorEq,if_pos,List.append_nil,w64,tyint,hg,hn]
  refine CallR.pc (l1Same_pc hs.names) rfl (.inl rfl) ?_
  simp (disch := omega) only [↓RU,RV,RH,↓reduceIte,reduceEqDiff,reduceCtorEq,if_pos,List.append_nil,w64,tyint,hg,hn]
  refine hK _ _ ?_;clear hK K
  refine W.cond rfl (fun h0 => ?_) (fun h0 => ?_)
  ·try simp only [RL] at h0
   refine W.r fun K hK => ?_
   simp (disch := omega) only [↓RU,RV,RH,↓reduceIte,reduceEqDiff,reduceCtorEq,if_pos]
   refine hK _ _ ?_;clear hK K
   refine W.ret ?_
   refine XThen.ret ?_
   refine Br rfl ?_
   rw [planB_no (.inr (.inl hn))]
   rfl
  ·try simp only [RL] at h0
   exact absurd h0 (by simp)
 ·skip
  simp only [Prod.mk.injEq] at hx
  obtain ⟨hg,hn⟩ := hx
  simp (disch := omega) only [↓RU,RV,RH,↓reduceIte,reduceEqDiff,reduceCtorEq,if_pos,List.append_nil,w64,tyint,hg,hn]
  refine CallR.pc (l1Grid_pc hs) rfl (.inl rfl) ?_
  simp (disch := omega) only [↓RU,RV,RH,↓reduceIte,reduceEqDiff,reduceCtorEq,if_pos,List.append_nil,w64,tyint,hg,hn]
  refine CallR.pc (l1Names_pc hs) rfl (.inl rfl) ?_
  simp (disch := omega) only [↓RU,RV,RH,↓reduceIte,reduceEqDiff,reduceCtorEq,if_pos,List.append_nil,w64,tyint,hg,hn]
  refine CallR.pc (l1Same_pc hs.names) rfl (.inl rfl) ?_
  simp (disch := omega) only [↓RU,RV,RH,↓reduceIte,reduceEqDiff,reduceCtorEq,if_pos,List.append_nil,w64,tyint,hg,hn]
  refine CallR.pc (l1Rooms_pc hs) rfl (.inl rfl) ?_
  simp (disch := omega) only [↓RU,RV,RH,↓reduceIte,reduceEqDiff,reduceCtorEq,if_pos,List.append_nil,w64,tyint,hg,hn]
  refine hK _ _ ?_;clear hK K
  refine W.cond rfl (fun h0 => ?_) (fun h0 => ?_)
  ·try simp only [RL] at h0
   refine W.r fun K hK => ?_
   simp (disch := omega) only [↓RU,RV,RH,↓reduceIte,reduceEqDiff,reduceCtorEq,if_pos]
   refine hK _ _ ?_;clear hK K
   refine W.ret ?_
   refine XThen.ret ?_
   refine Br rfl ?_
   rw [planB_no (.inr (.inr h0))]
   rfl
  ·try simp only [RL] at h0
   have hsm := grid_small hg
   refine W.skip ?_
   refine xn ?_
   refine W.seq ?_
   refine W.r fun K hK => ?_
   simp (disch := omega) only [↓RU,RV,RH,↓reduceIte,reduceEqDiff,reduceCtorEq,if_pos]
   refine hK _ _ ?_;clear hK K
   refine W.block ?_
   refine W.loop [0,3] (fun n vs S => ∃ i : Nat,n = R - i ∧ i ≤ R ∧ ((List.range i).all (roomB p) = true) ∧ vs = [eStrs p,.int .i64 i] ∧ S = ⟨[],0⟩) (R) ?_ ?_
   ·refine ⟨0,0,rfl,Nat.zero_le _,rfl,?_,rfl⟩
    simp [Env.put,Env.of,argEnv]
   rintro n vs S - ⟨i,rfl,h_i,hi,rfl,rfl⟩
   refine W.seq ?_
   refine W.r fun K hK => ?_
   simp (disch := omega) only [↓RU,RV,RH,↓reduceIte,reduceEqDiff,reduceCtorEq,if_pos,List.append_nil,w64,tyint,hR]
   refine CallR.pc (l1Rooms_pc hs) rfl (.inl rfl) ?_
   simp (disch := omega) only [↓RU,RV,RH,↓reduceIte,reduceEqDiff,reduceCtorEq,if_pos,List.append_nil,w64,tyint,hR]
   refine hK _ _ ?_;clear hK K
   refine W.cond rfl (fun h1 => ?_) (fun h1 => ?_)
   ·try simp only [RL] at h1
    have hbs := box_small (i : Int) hsm.2.1 hsm.2.2
    refine W.skip ?_
    refine xn ?_
    refine W.seq ?_
    refine W.block ?_
    refine W.r fun K hK => ?_
    simp (disch := omega) only [↓RU,RV,RH,↓reduceIte,reduceEqDiff,reduceCtorEq,if_pos,List.append_nil]
    refine CallR.pc (l1Room_pc hs hsm.1 (i : Int)) rfl (.inl rfl) ?_
    simp (disch := omega) only [↓RU,RV,RH,↓reduceIte,reduceEqDiff,reduceCtorEq,if_pos,List.append_nil]
    refine hK _ _ ?_;clear hK K
    refine W.r fun K hK => ?_
    simp (disch := omega) only [↓RU,RV,RH,↓reduceIte,reduceEqDiff,reduceCtorEq,if_pos,List.append_nil,w64,tyint]
    refine CallR.pc (l1Cells_pc hs (by omega) (fun r hr => by have := hsm.2.2 r hr; omega) (i : Int)) rfl (.inl rfl) ?_
    simp (disch := omega) only [↓RU,RV,RH,↓reduceIte,reduceEqDiff,reduceCtorEq,if_pos,List.append_nil,w64,tyint]
    refine hK _ _ ?_;clear hK K
    refine W.cond rfl (fun h2 => ?_) (fun h2 => ?_)
    ·try simp only [RL] at h2
     refine W.r fun K hK => ?_
     simp (disch := omega) only [↓RU,RV,RH,↓reduceIte,reduceEqDiff,reduceCtorEq,if_pos]
     refine hK _ _ ?_;clear hK K
     refine W.ret ?_
     refine XBlock.ret ?_
     refine XThen.ret ?_
     refine XThen.ret ?_
     refine XBlock.ret ?_
     refine XThen.ret ?_
     refine Br rfl ?_
     have : (List.range R).all (roomB p) = false := by
      rw [List.all_eq_false]
      exact ⟨i,by simp; omega,by simpa [roomB] using h2⟩
     rw [planB_is hg hn (by omega) hR,this]
     rfl
    ·try simp only [RL] at h2
     refine W.skip ?_
     refine XbN ?_
     refine xn ?_
     refine W.k fun K hK => ?_
     simp (disch := omega) only [↓RU,RV,RH,↓reduceIte,reduceEqDiff,reduceCtorEq,if_pos,w64,tyint]
     refine hK _ _ ?_;clear hK K
     refine xn ?_
     refine ⟨R - (i + 1),by omega,0,i + 1,rfl,by omega,by rw [List.range_succ,List.all_append,hi]; simpa [roomB] using h2,?_,rfl⟩
     simp [Env.put,Env.of]
   ·try simp only [RL] at h1
    refine W.exit ?_
    refine xe ?_
    refine xe ?_
    refine XBlock.hit ?_
    refine xn ?_
    refine W.r fun K hK => ?_
    simp (disch := omega) only [↓RU,RV,RH,↓reduceIte,reduceEqDiff,reduceCtorEq,if_pos]
    refine hK _ _ ?_;clear hK K
    refine W.ret ?_
    refine Br rfl ?_
    have hip : i = R := by omega
    rw [hip] at hi
    rw [planB_is hg hn (by omega) hR,hi]
    rfl
theorem l1Given_pc {p : List Txt} (hs : Sm p) (room : Int) : PC Tryz.prog 178 [eStrs p,.int .i64 room] (.bool (planB p && (decide (0 ≤ room) && decide (room ≤ l1Rooms p - 1)))) true := by
 have hrb := l1Rooms_bound p
 refine PC.of ⟨Tryz.func178,by kernel_rfl,rfl,by kernel_rfl⟩ tabOk mixed (by show 2 ≤ Tryz.f178.ntmps; decide) ?_
 refine W.r fun K hK => ?_
 simp (disch := omega) only [↓RU,RV,RH,↓reduceIte,reduceEqDiff,reduceCtorEq,if_pos]
 refine hK _ _ ?_;clear hK K
 refine W.r fun K hK => ?_
 cases hg : planB p
 ·skip
  simp (disch := omega) only [↓RU,RV,RH,↓reduceIte,reduceEqDiff,reduceCtorEq,if_pos,List.append_nil,w64,tyint,hg]
  refine CallR.pc (sPlanIn_pc hs) rfl (.inl rfl) ?_
  simp (disch := omega) only [↓RU,RV,RH,↓reduceIte,reduceEqDiff,reduceCtorEq,if_pos,List.append_nil,w64,tyint,hg]
  refine hK _ _ ?_;clear hK K
  refine W.ret ?_
  refine Br rfl ?_
  rw [hg]
  rfl
 ·skip
  simp (disch := omega) only [↓RU,RV,RH,↓reduceIte,reduceEqDiff,reduceCtorEq,if_pos,List.append_nil,w64,tyint,hg]
  refine CallR.pc (sPlanIn_pc hs) rfl (.inl rfl) ?_
  simp (disch := omega) only [↓RU,RV,RH,↓reduceIte,reduceEqDiff,reduceCtorEq,if_pos,List.append_nil,w64,tyint,hg]
  refine CallR.pc (l1Rooms_pc hs) rfl (.inl rfl) ?_
  simp (disch := omega) only [↓RU,RV,RH,↓reduceIte,reduceEqDiff,reduceCtorEq,if_pos,List.append_nil,w64,tyint,hg]
  refine CallR.pc (l6In_pc _ _ _) rfl (.inl rfl) ?_
  simp (disch := omega) only [↓RU,RV,RH,↓reduceIte,reduceEqDiff,reduceCtorEq,if_pos,List.append_nil,w64,tyint,hg]
  refine hK _ _ ?_;clear hK K
  refine W.ret ?_
  refine Br rfl ?_
  rw [hg]
  rfl
theorem l2Meets_pc {p : List Txt} (hs : Sm p) {i k : Nat} {r1 r2 : Txt} {a b c d : UInt8} (hi : 1 ≤ i) (hk : 1 ≤ k) (h1 : p[i - 1]? = some r1) (h2 : p[i]? = some r2) (ha : r1[k - 1]? = some a) (hb : r1[k]? = some b) (hc : r2[k - 1]? = some c) (hd : r2[k]? = some d) : PC Tryz.prog 144 [eStrs p,.int .i64 i,.int .i64 k] (.int .i64 (distTo [a,b,c,d] 4)) true := by
 have l1 := len_of h1
 have l2 := len_of h2
 have l3 := len_of ha
 have l4 := len_of hb
 have l5 := len_of hc
 have l6 := len_of hd
 have hp := hs.rows
 have hq := hs.cols r1 (List.mem_of_getElem? h1)
 generalize hcs : [a,b,c,d] = cs
 have hcl : cs.length = 4 := by rw [← hcs]; rfl
 refine PC.of ⟨Tryz.func144,by kernel_rfl,rfl,by kernel_rfl⟩ tabOk mixed (by show 3 ≤ Tryz.f144.ntmps; decide) ?_
 refine W.r fun K hK => ?_
 simp (disch := omega) only [↓RU,RV,RH,↓reduceIte,reduceEqDiff,reduceCtorEq,if_pos,↓RS,RG,reduceAdd,reduceMul,reduceLeDiff]
 refine hK _ _ ?_;clear hK K
 refine W.seq_draw (by kernel_rfl) fun K hK => ?_
 simp (disch := omega) only [↓RU,RV,RH,↓reduceIte,reduceEqDiff,reduceCtorEq,if_pos,w64,↓RS,RG,reduceAdd,reduceMul,reduceLeDiff,ty5,ty6,tyint,tystring,ty30,h1,h2,ha,hb,hc,hd,toNat_pred]
 refine hK _ _ ?_;clear hK K
 refine W.r fun K hK => ?_
 simp (disch := omega) only [↓RU,RV,RH,↓reduceIte,reduceEqDiff,reduceCtorEq,if_pos,↓RS,RG,reduceAdd,reduceMul,reduceLeDiff]
 refine hK _ _ ?_;clear hK K
 refine W.seq ?_
 refine W.r fun K hK => ?_
 simp (disch := omega) only [↓RU,RV,RH,↓reduceIte,reduceEqDiff,reduceCtorEq,if_pos,↓RS,RG,reduceAdd,reduceMul,reduceLeDiff]
 refine hK _ _ ?_;clear hK K
 refine W.block ?_
 refine W.loop [7,8,9] (fun n vs S => ∃ x : Nat,n = 4 - x ∧ x ≤ 4 ∧ vs = [.loc 0 0 0 4,.int .i64 (distTo cs x),.int .i64 x] ∧ S = ⟨[.arr 0 5 1 (cs.map eB)],1⟩) (4) ?_ ?_
 ·refine ⟨1,0,rfl,Nat.zero_le _,?_,by rw [← hcs]; rfl⟩
  simp [Env.put,Env.of,argEnv,distTo]
 rintro n vs S - ⟨x,rfl,h_x,rfl,rfl⟩
 refine W.seq ?_
 refine W.r fun K hK => ?_
 simp (disch := omega) only [↓RU,RV,RH,↓reduceIte,reduceEqDiff,reduceCtorEq,if_pos,w64,↓RS,RG,reduceAdd,reduceMul,reduceLeDiff,tyint]
 refine hK _ _ ?_;clear hK K
 refine W.cond rfl (fun h3 => ?_) (fun h3 => ?_)
 ·try simp only [RL] at h3
  obtain ⟨cx,hcx,-⟩ := get_of (show x < cs.length by omega)
  have hdb := distTo_bound cs x
  refine W.skip ?_
  refine xn ?_
  refine W.seq ?_
  refine W.block ?_
  refine W.r fun K hK => ?_
  simp (disch := omega) only [↓RU,RV,RH,↓reduceIte,reduceEqDiff,reduceCtorEq,if_pos,↓RS,RG,reduceAdd,reduceMul,reduceLeDiff]
  refine hK _ _ ?_;clear hK K
  refine W.seq ?_
  refine W.r fun K hK => ?_
  simp (disch := omega) only [↓RU,RV,RH,↓reduceIte,reduceEqDiff,reduceCtorEq,if_pos,↓RS,RG,reduceAdd,reduceMul,reduceLeDiff]
  refine hK _ _ ?_;clear hK K
  refine W.block ?_
  refine W.loop [7,8,9,10,11] (fun n vs S => ∃ y : Nat,n = x - y ∧ y ≤ x ∧ vs = [.loc 0 0 0 4,.int .i64 (distTo cs x),.int .i64 x,.bool (newTo cs cx y),.int .i64 y] ∧ S = ⟨[.arr 0 5 1 (cs.map eB)],1⟩) (x) ?_ ?_
  ·refine ⟨1,0,rfl,Nat.zero_le _,?_,rfl⟩
   simp [Env.put,Env.of,argEnv,newTo]
  rintro n vs S - ⟨y,rfl,h_y,rfl,rfl⟩
  refine W.seq ?_
  refine W.r fun K hK => ?_
  simp (disch := omega) only [↓RU,RV,RH,↓reduceIte,reduceEqDiff,reduceCtorEq,if_pos,w64,↓RS,RG,reduceAdd,reduceMul,reduceLeDiff,tyint]
  refine hK _ _ ?_;clear hK K
  refine W.cond rfl (fun h4 => ?_) (fun h4 => ?_)
  ·try simp only [RL] at h4
   obtain ⟨cy,hcy,-⟩ := get_of (show y < cs.length by omega)
   refine W.skip ?_
   refine xn ?_
   refine W.seq ?_
   refine W.block ?_
   refine W.draw_k (by kernel_rfl) fun K hK => ?_
   cases hf : newTo cs cx y
   ·skip
    simp (disch := omega) only [↓RU,RV,RH,↓reduceIte,reduceEqDiff,reduceCtorEq,if_pos,w64,↓RS,RG,reduceAdd,reduceMul,reduceLeDiff,ty6,ty30,hcx,hcy,hcl,hf]
    refine hK _ _ ?_;clear hK K
    refine XbN ?_
    refine xn ?_
    refine W.k fun K hK => ?_
    simp (disch := omega) only [↓RU,RV,RH,↓reduceIte,reduceEqDiff,reduceCtorEq,if_pos,w64,↓RS,RG,reduceAdd,reduceMul,reduceLeDiff,tyint]
    refine hK _ _ ?_;clear hK K
    refine xn ?_
    refine ⟨x - (y + 1),by omega,1,y + 1,rfl,by omega,?_,rfl⟩
    rw [newTo_succ hcy,hf]
    simp [Env.put,Env.of]
   ·skip
    simp (disch := omega) only [↓RU,RV,RH,↓reduceIte,reduceEqDiff,reduceCtorEq,if_pos,w64,↓RS,RG,reduceAdd,reduceMul,reduceLeDiff,ty6,ty30,hcx,hcy,hcl,hf,bne_u8]
    refine hK _ _ ?_;clear hK K
    refine XbN ?_
    refine xn ?_
    refine W.k fun K hK => ?_
    simp (disch := omega) only [↓RU,RV,RH,↓reduceIte,reduceEqDiff,reduceCtorEq,if_pos,w64,↓RS,RG,reduceAdd,reduceMul,reduceLeDiff,tyint]
    refine hK _ _ ?_;clear hK K
    refine xn ?_
    refine ⟨x - (y + 1),by omega,1,y + 1,rfl,by omega,?_,rfl⟩
    rw [newTo_succ hcy,hf]
    simp [Env.put,Env.of]
  ·try simp only [RL] at h4
   refine W.exit ?_
   refine xe ?_
   refine xe ?_
   refine XBlock.hit ?_
   refine xn ?_
   refine W.r fun K hK => ?_
   simp (disch := omega) only [↓RU,RV,RH,↓reduceIte,reduceEqDiff,reduceCtorEq,if_pos,↓RS,RG,reduceAdd,reduceMul,reduceLeDiff]
   refine hK _ _ ?_;clear hK K
   refine W.cond rfl (fun h6 => ?_) (fun h6 => ?_)
   ·try simp only [RL] at h6
    refine W.k fun K hK => ?_
    simp (disch := omega) only [↓RU,RV,RH,↓reduceIte,reduceEqDiff,reduceCtorEq,if_pos,w64,↓RS,RG,reduceAdd,reduceMul,reduceLeDiff,tyint]
    refine hK _ _ ?_;clear hK K
    refine XbN ?_
    refine xn ?_
    refine W.k fun K hK => ?_
    simp (disch := omega) only [↓RU,RV,RH,↓reduceIte,reduceEqDiff,reduceCtorEq,if_pos,w64,↓RS,RG,reduceAdd,reduceMul,reduceLeDiff,tyint]
    refine hK _ _ ?_;clear hK K
    refine xn ?_
    refine ⟨4 - (x + 1),by omega,1,x + 1,rfl,by omega,?_,rfl⟩
    rw [distTo,newAt_is hcx,show x = y by omega]
    simp [Env.put,Env.of,h6]
   ·try simp only [RL] at h6
    refine W.skip ?_
    refine XbN ?_
    refine xn ?_
    refine W.k fun K hK => ?_
    simp (disch := omega) only [↓RU,RV,RH,↓reduceIte,reduceEqDiff,reduceCtorEq,if_pos,w64,↓RS,RG,reduceAdd,reduceMul,reduceLeDiff,tyint]
    refine hK _ _ ?_;clear hK K
    refine xn ?_
    refine ⟨4 - (x + 1),by omega,1,x + 1,rfl,by omega,?_,rfl⟩
    rw [distTo,newAt_is hcx,show x = y by omega]
    simp [Env.put,Env.of,h6]
 ·try simp only [RL] at h3
  refine W.exit ?_
  refine xe ?_
  refine xe ?_
  refine XBlock.hit ?_
  refine xn ?_
  refine W.r fun K hK => ?_
  simp (disch := omega) only [↓RU,RV,RH,↓reduceIte,reduceEqDiff,reduceCtorEq,if_pos,↓RS,RG,reduceAdd,reduceMul,reduceLeDiff]
  refine hK _ _ ?_;clear hK K
  refine W.ret ?_
  refine Br rfl ?_
  have hx4 : x = 4 := by omega
  rw [hx4]
  rfl
theorem l2Points_pc {p : List Txt} (hs : Sm p) (hg : gridB p = true) (many : Int) : PC Tryz.prog 122 [eStrs p,.int .i64 many] (.int .i64 (points p many)) true := by
 have hp := hs.rows
 have hsm := grid_small hg
 obtain ⟨row0,hrow0,hrm0⟩ := get_of hsm.1
 have hhd := hdRow_of hrow0
 have hw6 := hsm.2.2 row0 hrm0
 refine PC.of ⟨Tryz.func122,by kernel_rfl,rfl,by kernel_rfl⟩ tabOk mixed (by show 2 ≤ Tryz.f122.ntmps; decide) ?_
 refine W.r fun K hK => ?_
 simp (disch := omega) only [↓RU,RV,RH,↓reduceIte,reduceEqDiff,reduceCtorEq,if_pos]
 refine hK _ _ ?_;clear hK K
 refine W.r fun K hK => ?_
 simp (disch := omega) only [↓RU,RV,RH,↓reduceIte,reduceEqDiff,reduceCtorEq,if_pos]
 refine hK _ _ ?_;clear hK K
 refine W.seq ?_
 refine W.r fun K hK => ?_
 simp (disch := omega) only [↓RU,RV,RH,↓reduceIte,reduceEqDiff,reduceCtorEq,if_pos]
 refine hK _ _ ?_;clear hK K
 refine W.block ?_
 refine W.loop [0,1,5,6] (fun n vs S => ∃ i : Nat,n = p.length - i ∧ i ≤ p.length ∧ (1 ≤ i) ∧ vs = [eStrs p,.int .i64 many,.int .i64 (ptsTo p many row0.length i),.int .i64 i] ∧ S = ⟨[],0⟩) (p.length - 1) ?_ ?_
 ·refine ⟨0,1,rfl,by omega,Nat.le_refl _,?_,rfl⟩
  simp [Env.put,Env.of,argEnv,ptsTo]
 rintro n vs S - ⟨i,rfl,h_i,h1i,rfl,rfl⟩
 refine W.seq ?_
 refine W.r fun K hK => ?_
 simp (disch := omega) only [↓RU,RV,RH,↓reduceIte,reduceEqDiff,reduceCtorEq,if_pos,w64,ty5,tyint,tystring]
 refine hK _ _ ?_;clear hK K
 refine W.cond rfl (fun h => ?_) (fun h => ?_)
 ·try simp only [RL] at h
  obtain ⟨r1,hr1,hm1⟩ := get_of (show i - 1 < p.length by omega)
  obtain ⟨r2,hr2,hm2⟩ := get_of (show i < p.length by omega)
  have hl1 := grid_row hg hr1
  have hl2 := grid_row hg hr2
  rw [hhd] at hl1 hl2
  have hb1 := ptsTo_bound p many hw6 i
  have hw1 := (row_pos hg hrow0)
  refine W.skip ?_
  refine xn ?_
  refine W.seq ?_
  refine W.block ?_
  refine W.r fun K hK => ?_
  simp (disch := omega) only [↓RU,RV,RH,↓reduceIte,reduceEqDiff,reduceCtorEq,if_pos]
  refine hK _ _ ?_;clear hK K
  refine W.block ?_
  refine W.loop [0,1,5,6,7] (fun n vs S => ∃ k : Nat,n = row0.length - k ∧ k ≤ row0.length ∧ (1 ≤ k) ∧ vs = [eStrs p,.int .i64 many,.int .i64 (ptsTo p many row0.length i + ptsRow p many i k),.int .i64 i,.int .i64 k] ∧ S = ⟨[],0⟩) (row0.length - 1) ?_ ?_
  ·refine ⟨0,1,rfl,by omega,Nat.le_refl _,?_,rfl⟩
   simp [Env.put,Env.of,argEnv,ptsRow]
  rintro n vs S - ⟨k,rfl,h_k,h1k,rfl,rfl⟩
  refine W.seq ?_
  refine W.r fun K hK => ?_
  simp (disch := omega) only [↓RU,RV,RH,↓reduceIte,reduceEqDiff,reduceCtorEq,if_pos,w64,ty5,tyint,tystring,hrow0,Int.toNat_zero,Nat.zero_mul,Int.reduceToNat]
  refine hK _ _ ?_;clear hK K
  refine W.cond rfl (fun h1 => ?_) (fun h1 => ?_)
  ·try simp only [RL] at h1
   obtain ⟨a,ha,-⟩ := get_of (show k - 1 < r1.length by omega)
   obtain ⟨b,hb,-⟩ := get_of (show k < r1.length by omega)
   obtain ⟨c,hc,-⟩ := get_of (show k - 1 < r2.length by omega)
   obtain ⟨d,hd,-⟩ := get_of (show k < r2.length by omega)
   have hmt : meetsAt p i k = distTo [a,b,c,d] 4 := by simp [meetsAt,hr1,hr2,ha,hb,hc,hd]
   have hb2 := ptsRow_bound p many i k
   refine W.skip ?_
   refine xn ?_
   refine W.seq ?_
   refine W.block ?_
   refine W.r fun K hK => ?_
   simp (disch := omega) only [↓RU,RV,RH,↓reduceIte,reduceEqDiff,reduceCtorEq,if_pos,List.append_nil,w64,tyint]
   refine CallR.pc (l2Meets_pc hs h1i h1k hr1 hr2 ha hb hc hd) rfl (.inl rfl) ?_
   simp (disch := omega) only [↓RU,RV,RH,↓reduceIte,reduceEqDiff,reduceCtorEq,if_pos,List.append_nil,w64,tyint]
   refine hK _ _ ?_;clear hK K
   refine W.cond rfl (fun h2 => ?_) (fun h2 => ?_)
   ·try simp only [RL] at h2
    refine W.k fun K hK => ?_
    simp (disch := omega) only [↓RU,RV,RH,↓reduceIte,reduceEqDiff,reduceCtorEq,if_pos,w64,tyint]
    refine hK _ _ ?_;clear hK K
    refine XbN ?_
    refine xn ?_
    refine W.k fun K hK => ?_
    simp (disch := omega) only [↓RU,RV,RH,↓reduceIte,reduceEqDiff,reduceCtorEq,if_pos,w64,tyint]
    refine hK _ _ ?_;clear hK K
    refine xn ?_
    refine ⟨row0.length - (k + 1),by omega,0,k + 1,rfl,by omega,by omega,?_,rfl⟩
    rw [ptsRow]
    simp [Env.put,Env.of,hmt,h2,h1k,Int.add_assoc]
   ·try simp only [RL] at h2
    refine W.skip ?_
    refine XbN ?_
    refine xn ?_
    refine W.k fun K hK => ?_
    simp (disch := omega) only [↓RU,RV,RH,↓reduceIte,reduceEqDiff,reduceCtorEq,if_pos,w64,tyint]
    refine hK _ _ ?_;clear hK K
    refine xn ?_
    refine ⟨row0.length - (k + 1),by omega,0,k + 1,rfl,by omega,by omega,?_,rfl⟩
    rw [ptsRow]
    simp [Env.put,Env.of,hmt,h2,h1k,Int.add_assoc]
  ·try simp only [RL] at h1
   refine W.exit ?_
   refine xe ?_
   refine xe ?_
   refine XBlock.hit ?_
   refine XbN ?_
   refine xn ?_
   refine W.k fun K hK => ?_
   simp (disch := omega) only [↓RU,RV,RH,↓reduceIte,reduceEqDiff,reduceCtorEq,if_pos,w64,tyint]
   refine hK _ _ ?_;clear hK K
   refine xn ?_
   refine ⟨p.length - (i + 1),by omega,0,i + 1,rfl,by omega,by omega,?_,rfl⟩
   rw [ptsTo,if_pos h1i]
   simp [Env.put,Env.of,show row0.length = k by omega]
 ·try simp only [RL] at h
  refine W.exit ?_
  refine xe ?_
  refine xe ?_
  refine XBlock.hit ?_
  refine xn ?_
  refine W.r fun K hK => ?_
  simp (disch := omega) only [↓RU,RV,RH,↓reduceIte,reduceEqDiff,reduceCtorEq,if_pos]
  refine hK _ _ ?_;clear hK K
  refine W.ret ?_
  refine Br rfl ?_
  have hip : i = p.length := by omega
  rw [points,hhd,← hip]
  rfl
theorem sWallPlain_pc {p : List Txt} (hs : Sm p) : PC Tryz.prog 89 [eStrs p] (.bool (plainB p)) true := by
 refine PC.of ⟨Tryz.func89,by kernel_rfl,rfl,by kernel_rfl⟩ tabOk mixed (by show 1 ≤ Tryz.f89.ntmps; decide) ?_
 refine W.r fun K hK => ?_
 simp (disch := omega) only [↓RU,RV,RH,↓reduceIte,reduceEqDiff,reduceCtorEq,if_pos]
 refine hK _ _ ?_;clear hK K
 refine W.r fun K hK => ?_
 cases hg : planB p
 ·skip
  simp (disch := omega) only [↓RU,RV,RH,↓reduceIte,reduceEqDiff,reduceCtorEq,if_pos,List.append_nil,w64,tyint,hg]
  refine CallR.pc (sPlanIn_pc hs) rfl (.inl rfl) ?_
  simp (disch := omega) only [↓RU,RV,RH,↓reduceIte,reduceEqDiff,reduceCtorEq,if_pos,List.append_nil,w64,tyint,hg]
  refine hK _ _ ?_;clear hK K
  refine W.ret ?_
  refine Br rfl ?_
  rw [plainB,hg]
  rfl
 ·skip
  simp (disch := omega) only [↓RU,RV,RH,↓reduceIte,reduceEqDiff,reduceCtorEq,if_pos,List.append_nil,w64,tyint,hg]
  refine CallR.pc (sPlanIn_pc hs) rfl (.inl rfl) ?_
  simp (disch := omega) only [↓RU,RV,RH,↓reduceIte,reduceEqDiff,reduceCtorEq,if_pos,List.append_nil,w64,tyint,hg]
  refine CallR.pc (l2Points_pc hs (planB_grid hg) 4) rfl (.inl rfl) ?_
  simp (disch := omega) only [↓RU,RV,RH,↓reduceIte,reduceEqDiff,reduceCtorEq,if_pos,List.append_nil,w64,tyint,hg]
  refine hK _ _ ?_;clear hK K
  refine W.ret ?_
  refine Br rfl ?_
  rw [plainB,hg]
  rfl
theorem l5Plain_pc {p : List Txt} (hs : Sm p) : PC Tryz.prog 49 [eStrs p] (.bool (plainB p)) true := by
 refine PC.of ⟨Tryz.func49,by kernel_rfl,rfl,by kernel_rfl⟩ tabOk mixed (by show 1 ≤ Tryz.f49.ntmps; decide) ?_
 refine W.r fun K hK => ?_
 simp (disch := omega) only [↓RU,RV,RH,↓reduceIte,reduceEqDiff,reduceCtorEq,if_pos]
 refine hK _ _ ?_;clear hK K
 refine W.r fun K hK => ?_
 simp (disch := omega) only [↓RU,RV,RH,↓reduceIte,reduceEqDiff,reduceCtorEq,if_pos,List.append_nil]
 refine CallR.pc (sWallPlain_pc hs) rfl (.inl rfl) ?_
 simp (disch := omega) only [↓RU,RV,RH,↓reduceIte,reduceEqDiff,reduceCtorEq,if_pos,List.append_nil]
 refine hK _ _ ?_;clear hK K
 refine W.ret ?_
 refine Br rfl ?_
 rfl
theorem l1Trans_pc {p : List Txt} (hs : Sm p) (hg : gridB p = true) : PC Tryz.prog 92 [eStrs p] (eStrs (transP p)) true := by
 have hp := hs.rows
 have hsm := grid_small hg
 obtain ⟨row0,hrow0,hrm0⟩ := get_of hsm.1
 have hhd := hdRow_of hrow0
 have hw6 := hsm.2.2 row0 hrm0
 refine PC.of ⟨Tryz.func92,by kernel_rfl,rfl,by kernel_rfl⟩ tabOk mixed (by show 1 ≤ Tryz.f92.ntmps; decide) ?_
 refine W.r fun K hK => ?_
 simp (disch := omega) only [↓RU,RV,RH,↓reduceIte,reduceEqDiff,reduceCtorEq,if_pos,↓RS,RG,reduceAdd,reduceMul,reduceLeDiff]
 refine hK _ _ ?_;clear hK K
 refine W.r fun K hK => ?_
 simp (disch := omega) only [↓RU,RV,RH,↓reduceIte,reduceEqDiff,reduceCtorEq,if_pos,↓RS,RG,reduceAdd,reduceMul,reduceLeDiff,ty5,tystring]
 refine hK _ _ ?_;clear hK K
 refine W.seq ?_
 refine W.r fun K hK => ?_
 simp (disch := omega) only [↓RU,RV,RH,↓reduceIte,reduceEqDiff,reduceCtorEq,if_pos,↓RS,RG,reduceAdd,reduceMul,reduceLeDiff]
 refine hK _ _ ?_;clear hK K
 refine W.block ?_
 refine W.loop [0,3,4] (fun n vs S => ∃ k v0 tk : Nat,n = row0.length - k ∧ k ≤ row0.length ∧ vs = [eStrs p,.loc 0 v0 0 k,.int .i64 k] ∧ S = ⟨[.arr v0 9 1 ((colsTo p k).map .str)],tk⟩) (row0.length) ?_ ?_
 ·refine ⟨1,0,0,1,rfl,Nat.zero_le _,?_,rfl⟩
  simp [Env.put,Env.of,argEnv]
 rintro n vs S - ⟨k,v0,tk,rfl,h_k,rfl,rfl⟩
 refine W.seq ?_
 refine W.r fun K hK => ?_
 simp (disch := omega) only [↓RU,RV,RH,↓reduceIte,reduceEqDiff,reduceCtorEq,if_pos,w64,↓RS,RG,reduceAdd,reduceMul,reduceLeDiff,ty5,tyint,tystring,hrow0,Int.toNat_zero,Nat.zero_mul,Int.reduceToNat]
 refine hK _ _ ?_;clear hK K
 refine W.cond rfl (fun h => ?_) (fun h => ?_)
 ·try simp only [RL] at h
  have hcl0 := colsTo_len (p := p) (k := k)
  refine W.skip ?_
  refine xn ?_
  refine W.seq ?_
  refine W.block ?_
  refine W.r fun K hK => ?_
  simp (disch := omega) only [↓RU,RV,RH,↓reduceIte,reduceEqDiff,reduceCtorEq,if_pos,↓RS,RG,reduceAdd,reduceMul,reduceLeDiff,ty6,ty30]
  refine hK _ _ ?_;clear hK K
  refine W.seq ?_
  refine W.r fun K hK => ?_
  simp (disch := omega) only [↓RU,RV,RH,↓reduceIte,reduceEqDiff,reduceCtorEq,if_pos,↓RS,RG,reduceAdd,reduceMul,reduceLeDiff]
  refine hK _ _ ?_;clear hK K
  refine W.block ?_
  refine W.loop [0,3,4,5,6] (fun n vs S => ∃ i v1 tk : Nat,n = p.length - i ∧ i ≤ p.length ∧ vs = [eStrs p,.loc 0 v0 0 k,.int .i64 k,.loc 1 v1 0 i,.int .i64 i] ∧ S = ⟨[.arr v0 9 1 ((colsTo p k).map .str),.arr v1 5 1 ((colTo p k i).map eB)],tk⟩) (p.length) ?_ ?_
  ·refine ⟨2,0,tk,tk + 1,rfl,Nat.zero_le _,?_,rfl⟩
   simp [Env.put,Env.of,argEnv]
  rintro n vs S - ⟨i,v1,tk,rfl,h_i,rfl,rfl⟩
  refine W.seq ?_
  refine W.r fun K hK => ?_
  simp (disch := omega) only [↓RU,RV,RH,↓reduceIte,reduceEqDiff,reduceCtorEq,if_pos,w64,↓RS,RG,reduceAdd,reduceMul,reduceLeDiff,ty5,tyint,tystring]
  refine hK _ _ ?_;clear hK K
  refine W.cond rfl (fun h1 => ?_) (fun h1 => ?_)
  ·try simp only [RL] at h1
   obtain ⟨row,hrow,hrm⟩ := get_of (show i < p.length by omega)
   have hrl := grid_row hg hrow
   rw [hhd] at hrl
   obtain ⟨c,hc,-⟩ := get_of (show k < row.length by omega)
   have hctl := colTo_len (p := p) (k := k) h_i
   refine W.skip ?_
   refine xn ?_
   refine W.seq ?_
   refine W.block ?_
   refine W.k fun K hK => ?_
   simp (disch := omega) only [↓RU,RV,RH,↓reduceIte,reduceEqDiff,reduceCtorEq,if_pos,↓RS,RG,reduceAdd,reduceMul,reduceLeDiff,ty5,ty6,tystring,ty30,hrow,hc]
   refine hK _ _ ?_;clear hK K
   refine XbN ?_
   refine xn ?_
   refine W.k fun K hK => ?_
   simp (disch := omega) only [↓RU,RV,RH,↓reduceIte,reduceEqDiff,reduceCtorEq,if_pos,w64,↓RS,RG,reduceAdd,reduceMul,reduceLeDiff,tyint]
   refine hK _ _ ?_;clear hK K
   refine xn ?_
   refine ⟨p.length - (i + 1),by omega,2,i + 1,tk + 1,tk + 2,rfl,by omega,?_,?_⟩
   all_goals simp [Env.put,Env.of,take_eq,colTo_succ hrow hc,hcl0,hctl,tk_le]
  ·try simp only [RL] at h1
   have hip : i = p.length := by omega
   subst hip
   have hctl := colTo_len (p := p) (k := k) (Nat.le_refl _)
   refine W.exit ?_
   refine xe ?_
   refine xe ?_
   refine XBlock.hit ?_
   refine xn ?_
   refine W.k fun K hK => ?_
   simp (disch := omega) only [↓RU,RV,RH,↓reduceIte,reduceEqDiff,reduceCtorEq,if_pos,w64,↓RS,RG,reduceAdd,reduceMul,reduceLeDiff,ty5,ty6,tystring,ty30]
   refine hK _ _ ?_;clear hK K
   refine XbN ?_
   refine xn ?_
   refine W.k fun K hK => ?_
   simp (disch := omega) only [↓RU,RV,RH,↓reduceIte,reduceEqDiff,reduceCtorEq,if_pos,w64,↓RS,RG,reduceAdd,reduceMul,reduceLeDiff,tyint]
   refine hK _ _ ?_;clear hK K
   refine xn ?_
   refine ⟨row0.length - (k + 1),by omega,1,k + 1,tk + 1,tk + 2,rfl,by omega,?_,?_⟩
   all_goals simp [Env.put,Env.of,take_eq,colsTo_succ,hctl,tk_le,hcl0]
 ·try simp only [RL] at h
  refine W.exit ?_
  refine xe ?_
  refine xe ?_
  refine XBlock.hit ?_
  refine xn ?_
  refine W.r fun K hK => ?_
  simp (disch := omega) only [↓RU,RV,RH,↓reduceIte,reduceEqDiff,reduceCtorEq,if_pos,↓RS,RG,reduceAdd,reduceMul,reduceLeDiff]
  refine hK _ _ ?_;clear hK K
  refine W.ret ?_
  refine Br rfl ?_
  have hkp : k = row0.length := by omega
  subst hkp
  rw [transP,hhd]
  exact reify_loc (k := 9) rfl (by simp [colsTo_len]) (mapM_str _) |>.trans (by simp [colsTo_len])

theorem reify_tup2 {S : Store} {im : Bool} {k : Nat} {a b a2 b2 : PV} (h1 : reify S im k a = some a2) (h2 : reify S im k b = some b2) : reify S im (k + 1) (.tup [a,b]) = some (.tup [a2,b2]) := by
 simp [reify,h1,h2]
theorem l2Upright_pc {p : List Txt} (hs : Sm p) (hg : gridB p = true) : PC Tryz.prog 117 [eStrs p] (.sl ((uprights p).map eInts) (uprights p).length) false := by
 have hp := hs.rows
 have hsm := grid_small hg
 obtain ⟨row0,hrow0,hrm0⟩ := get_of hsm.1
 have hhd := hdRow_of hrow0
 have hw6 := hsm.2.2 row0 hrm0
 have hw1 := row_pos hg hrow0
 refine PC.of ⟨Tryz.func117,by kernel_rfl,rfl,by kernel_rfl⟩ tabOk mixed (by show 1 ≤ Tryz.f117.ntmps; decide) ?_
 refine W.r fun K hK => ?_
 simp (disch := omega) only [↓RU,RV,RH,↓reduceIte,reduceEqDiff,reduceCtorEq,if_pos,↓RS,RG,reduceAdd,reduceMul,reduceLeDiff]
 refine hK _ _ ?_;clear hK K
 refine W.r fun K hK => ?_
 simp (disch := omega) only [↓RU,RV,RH,↓reduceIte,reduceEqDiff,reduceCtorEq,if_pos,↓RS,RG,reduceAdd,reduceMul,reduceLeDiff,ty1,tyLint,tyint]
 refine hK _ _ ?_;clear hK K
 refine W.seq ?_
 refine W.r fun K hK => ?_
 simp (disch := omega) only [↓RU,RV,RH,↓reduceIte,reduceEqDiff,reduceCtorEq,if_pos,↓RS,RG,reduceAdd,reduceMul,reduceLeDiff]
 refine hK _ _ ?_;clear hK K
 refine W.block ?_
 refine W.loopZ [0,3,4] (fun n vs S => ∃ k v0 tk : Nat,n = row0.length - k ∧ k ≤ row0.length ∧ (1 ≤ k) ∧ vs = [eStrs p,.loc 0 v0 0 (upsTo p k).length,.int .i64 k] ∧ S = ⟨[.arr v0 24 1 ((upsTo p k).map eInts)],tk⟩) (row0.length - 1) ?_ ?_
 ·refine ⟨1,[eStrs p,.loc 0 0 0 (upsTo p 1).length,.int .i64 1],⟨[.arr 0 24 1 ((upsTo p 1).map eInts)],1⟩,?_,?_,1,0,1,rfl,by omega,Nat.le_refl _,rfl,rfl⟩
  ·rfl
  ·rfl
 rintro n vs S - ⟨k,v0,tk,rfl,h_k,h1k,rfl,rfl⟩
 refine W.seq ?_
 refine W.r fun K hK => ?_
 simp (disch := omega) only [↓RU,RV,RH,↓reduceIte,reduceEqDiff,reduceCtorEq,if_pos,w64,↓RS,RG,reduceAdd,reduceMul,reduceLeDiff,ty5,tyint,tystring,hrow0,Int.toNat_zero,Nat.zero_mul,Int.reduceToNat]
 refine hK _ _ ?_;clear hK K
 refine W.cond rfl (fun h => ?_) (fun h => ?_)
 ·try simp only [RL] at h
  have hul := Nat.le_trans (upsTo_len p k) (Nat.mul_le_mul (show p.length + 1 ≤ 7 by omega) (show k ≤ 6 by omega))
  refine W.skip ?_
  refine xn ?_
  refine W.seq ?_
  refine W.block ?_
  refine W.r fun K hK => ?_
  simp (disch := omega) only [↓RU,RV,RH,↓reduceIte,reduceEqDiff,reduceCtorEq,if_pos,↓RS,RG,reduceAdd,reduceMul,reduceLeDiff]
  refine hK _ _ ?_;clear hK K
  refine W.r fun K hK => ?_
  simp (disch := omega) only [↓RU,RV,RH,↓reduceIte,reduceEqDiff,reduceCtorEq,if_pos,↓RS,RG,reduceAdd,reduceMul,reduceLeDiff]
  refine hK _ _ ?_;clear hK K
  refine W.block ?_
  refine W.loopZ [0,3,4,5,6] (fun n vs S => ∃ i v0 tk : Nat,n = (p.length + 1) - i ∧ i ≤ (p.length + 1) ∧ vs = [eStrs p,.loc 0 v0 0 (upTo p k (upsTo p k) i).2.length,.int .i64 k,.int .i64 (upTo p k (upsTo p k) i).1,.int .i64 i] ∧ S = ⟨[.arr v0 24 1 ((upTo p k (upsTo p k) i).2.map eInts)],tk⟩) ((p.length + 1)) ?_ ?_
  ·refine ⟨1,[eStrs p,.loc 0 v0 0 (upTo p k (upsTo p k) 0).2.length,.int .i64 k,.int .i64 (upTo p k (upsTo p k) 0).1,.int .i64 0],⟨[.arr v0 24 1 ((upTo p k (upsTo p k) 0).2.map eInts)],tk⟩,?_,?_,0,v0,tk,rfl,by omega,rfl,rfl⟩
   ·simp [-List.mapM_map,Store.frz,frzObs,frzOb,frz_eInts,frz_loc,rfz_loc,frz_int,frz_sl,frz_ints,rfz_ints,frz_strs,frz_bytes,rfz_bytes,rfz_str,rfz_bool,frz_str,frz_bool,Env.put,Env.of,argEnv,rfz_int,List.mapM_append,List.mapM_cons] <;> simp [upTo]
   ·simp [-List.mapM_map,Store.frz,frzObs,frzOb,frz_eInts,frz_loc,rfz_loc,frz_int,frz_sl,frz_ints,rfz_ints,frz_strs,frz_bytes,rfz_bytes,rfz_str,rfz_bool,frz_str,frz_bool,Env.put,Env.of,argEnv,rfz_int,List.mapM_append,List.mapM_cons] <;> simp [upTo]
  rintro n vs S - ⟨i,v0,tk,rfl,h_i,rfl,rfl⟩
  refine W.seq ?_
  refine W.r fun K hK => ?_
  simp (disch := omega) only [↓RU,RV,RH,↓reduceIte,reduceEqDiff,reduceCtorEq,if_pos,w64,↓RS,RG,reduceAdd,reduceMul,reduceLeDiff,ty5,tyint,tystring]
  refine hK _ _ ?_;clear hK K
  refine W.cond rfl (fun h1 => ?_) (fun h1 => ?_)
  ·try simp only [RL] at h1
   have hutl := upTo_len p k (upsTo p k) i
   have hutb := upTo_bound p k (upsTo p k) i
   refine W.skip ?_
   refine xn ?_
   refine W.seq ?_
   refine W.block ?_
   refine W.join [0,3,4,5,6,7] (fun vs S => vs = [eStrs p,.loc 0 v0 0 (upTo p k (upsTo p k) i).2.length,.int .i64 k,.int .i64 (upTo p k (upsTo p k) i).1,.int .i64 i,.bool (wallB p k i)] ∧ S = ⟨[.arr v0 24 1 ((upTo p k (upsTo p k) i).2.map eInts)],tk⟩) ?_ ?_
   ·
    refine W.draw_k (by kernel_rfl) fun K hK => ?_
    by_cases hip : i < p.length
    ·skip
     obtain ⟨r1,hr1,-⟩ := get_of hip
     have hrl := grid_row hg hr1
     rw [hhd] at hrl
     obtain ⟨c1,hc1,-⟩ := get_of (show k - 1 < r1.length by omega)
     obtain ⟨c2,hc2,-⟩ := get_of (show k < r1.length by omega)
     have hid : ((i : Int) < (p.length : Int)) := by omega
     simp (disch := omega) only [↓RU,RV,RH,↓reduceIte,reduceEqDiff,reduceCtorEq,if_pos,w64,↓RS,RG,reduceAdd,reduceMul,reduceLeDiff,ty5,tyint,tystring,ty30,hid,decide_true,hr1,hc1,hc2,toNat_pred]
     refine hK _ _ ?_;clear hK K
     refine xn ?_
     refine ⟨1,?_,?_⟩
     all_goals simp [Env.put,Env.of,take_eq,wallB,hip]
     try simp [cellZ_is hr1 hc1,cellZ_is hr1 hc2,u8_eq,bne_int]
    ·skip
     have hid : ¬ ((i : Int) < (p.length : Int)) := by omega
     simp (disch := omega) only [↓RU,RV,RH,↓reduceIte,reduceEqDiff,reduceCtorEq,if_pos,w64,↓RS,RG,reduceAdd,reduceMul,reduceLeDiff,ty5,tyint,tystring,ty30,hid,decide_false]
     refine hK _ _ ?_;clear hK K
     refine xn ?_
     refine ⟨1,?_,?_⟩
     all_goals simp [Env.put,Env.of,take_eq,wallB,hip]
     try simp [cellZ_is hr1 hc1,cellZ_is hr1 hc2,u8_eq,bne_int]
   rintro vs S - ⟨rfl,rfl⟩
   refine W.seq ?_
   refine W.r fun K hK => ?_
   cases hw : wallB p k i
   ·skip
    simp (disch := omega) only [↓RU,RV,RH,↓reduceIte,reduceEqDiff,reduceCtorEq,if_pos,w64,↓RS,RG,reduceAdd,reduceMul,reduceLeDiff,tyint,hw]
    refine hK _ _ ?_;clear hK K
    refine W.cond rfl (fun h2 => ?_) (fun h2 => ?_)
    ·try simp only [RL] at h2
     exact absurd h2 (by simp)
    ·try simp only [RL] at h2
     refine W.skip ?_
     refine xn ?_
     refine W.r fun K hK => ?_
     simp (disch := omega) only [↓RU,RV,RH,↓reduceIte,reduceEqDiff,reduceCtorEq,if_pos,w64,↓RS,RG,reduceAdd,reduceMul,reduceLeDiff,tyint]
     refine hK _ _ ?_;clear hK K
     refine W.cond rfl (fun h3 => ?_) (fun h3 => ?_)
     ·try simp only [RL] at h3
      refine W.r fun K hK => ?_
      simp (disch := omega) only [↓RU,RV,RH,↓reduceIte,reduceEqDiff,reduceCtorEq,if_pos,w64,↓RS,RG,reduceAdd,reduceMul,reduceLeDiff,ty1,tyLint,tyint]
      refine hK _ _ ?_;clear hK K
      refine W.k fun K hK => ?_
      simp (disch := omega) only [↓RU,RV,RH,↓reduceIte,reduceEqDiff,reduceCtorEq,if_pos,↓RS,RG,reduceAdd,reduceMul,reduceLeDiff]
      refine hK _ _ ?_;clear hK K
      refine XbN ?_
      refine xn ?_
      refine W.k fun K hK => ?_
      simp (disch := omega) only [↓RU,RV,RH,↓reduceIte,reduceEqDiff,reduceCtorEq,if_pos,w64,↓RS,RG,reduceAdd,reduceMul,reduceLeDiff,tyint]
      refine hK _ _ ?_;clear hK K
      refine xn ?_
      refine ⟨(p.length + 1) - (i + 1),by omega,1,[eStrs p,.loc 0 (tk + 2) 0 (upTo p k (upsTo p k) (i + 1)).2.length,.int .i64 k,.int .i64 (upTo p k (upsTo p k) (i + 1)).1,.int .i64 (i + 1)],⟨[.arr (tk + 2) 24 1 ((upTo p k (upsTo p k) (i + 1)).2.map eInts)],(tk + 3)⟩,?_,?_,(i + 1),tk + 2,tk + 3,rfl,by omega,rfl,rfl⟩
      ·simp [-List.mapM_map,Store.frz,frzObs,frzOb,frz_eInts,frz_loc,rfz_loc,frz_int,frz_sl,frz_ints,rfz_ints,frz_strs,frz_bytes,rfz_bytes,rfz_str,rfz_bool,frz_str,frz_bool,Env.put,Env.of,argEnv,rfz_int,List.mapM_append,List.mapM_cons,upTo,upStep,hw,h2,h3]
      ·simp [-List.mapM_map,Store.frz,frzObs,frzOb,frz_eInts,frz_loc,rfz_loc,frz_int,frz_sl,frz_ints,rfz_ints,frz_strs,frz_bytes,rfz_bytes,rfz_str,rfz_bool,frz_str,frz_bool,Env.put,Env.of,argEnv,rfz_int,List.mapM_append,List.mapM_cons,upTo,upStep,hw,h2,h3]
     ·try simp only [RL] at h3
      refine W.skip ?_
      refine XbN ?_
      refine xn ?_
      refine W.k fun K hK => ?_
      simp (disch := omega) only [↓RU,RV,RH,↓reduceIte,reduceEqDiff,reduceCtorEq,if_pos,w64,↓RS,RG,reduceAdd,reduceMul,reduceLeDiff,tyint]
      refine hK _ _ ?_;clear hK K
      refine xn ?_
      refine ⟨(p.length + 1) - (i + 1),by omega,1,[eStrs p,.loc 0 v0 0 (upTo p k (upsTo p k) (i + 1)).2.length,.int .i64 k,.int .i64 (upTo p k (upsTo p k) (i + 1)).1,.int .i64 (i + 1)],⟨[.arr v0 24 1 ((upTo p k (upsTo p k) (i + 1)).2.map eInts)],tk⟩,?_,?_,(i + 1),v0,tk,rfl,by omega,rfl,rfl⟩
      ·simp [-List.mapM_map,Store.frz,frzObs,frzOb,frz_eInts,frz_loc,rfz_loc,frz_int,frz_sl,frz_ints,rfz_ints,frz_strs,frz_bytes,rfz_bytes,rfz_str,rfz_bool,frz_str,frz_bool,Env.put,Env.of,argEnv,rfz_int,List.mapM_append,List.mapM_cons,upTo,upStep,hw,h2,h3]
      ·simp [-List.mapM_map,Store.frz,frzObs,frzOb,frz_eInts,frz_loc,rfz_loc,frz_int,frz_sl,frz_ints,rfz_ints,frz_strs,frz_bytes,rfz_bytes,rfz_str,rfz_bool,frz_str,frz_bool,Env.put,Env.of,argEnv,rfz_int,List.mapM_append,List.mapM_cons,upTo,upStep,hw,h2,h3]
   ·skip
    simp (disch := omega) only [↓RU,RV,RH,↓reduceIte,reduceEqDiff,reduceCtorEq,if_pos,w64,↓RS,RG,reduceAdd,reduceMul,reduceLeDiff,tyint,hw]
    refine hK _ _ ?_;clear hK K
    refine W.cond rfl (fun h2 => ?_) (fun h2 => ?_)
    ·try simp only [RL] at h2
     refine W.k fun K hK => ?_
     simp (disch := omega) only [↓RU,RV,RH,↓reduceIte,reduceEqDiff,reduceCtorEq,if_pos,↓RS,RG,reduceAdd,reduceMul,reduceLeDiff]
     refine hK _ _ ?_;clear hK K
     refine xn ?_
     refine W.r fun K hK => ?_
     simp (disch := omega) only [↓RU,RV,RH,↓reduceIte,reduceEqDiff,reduceCtorEq,if_pos,w64,↓RS,RG,reduceAdd,reduceMul,reduceLeDiff,tyint]
     refine hK _ _ ?_;clear hK K
     refine W.cond rfl (fun h3 => ?_) (fun h3 => ?_)
     ·try simp only [RL] at h3
      exact absurd h3 (by simp)
     ·try simp only [RL] at h3
      refine W.skip ?_
      refine XbN ?_
      refine xn ?_
      refine W.k fun K hK => ?_
      simp (disch := omega) only [↓RU,RV,RH,↓reduceIte,reduceEqDiff,reduceCtorEq,if_pos,w64,↓RS,RG,reduceAdd,reduceMul,reduceLeDiff,tyint]
      refine hK _ _ ?_;clear hK K
      refine xn ?_
      refine ⟨(p.length + 1) - (i + 1),by omega,1,[eStrs p,.loc 0 v0 0 (upTo p k (upsTo p k) (i + 1)).2.length,.int .i64 k,.int .i64 (upTo p k (upsTo p k) (i + 1)).1,.int .i64 (i + 1)],⟨[.arr v0 24 1 ((upTo p k (upsTo p k) (i + 1)).2.map eInts)],tk⟩,?_,?_,(i + 1),v0,tk,rfl,by omega,rfl,rfl⟩
      ·simp [-List.mapM_map,Store.frz,frzObs,frzOb,frz_eInts,frz_loc,rfz_loc,frz_int,frz_sl,frz_ints,rfz_ints,frz_strs,frz_bytes,rfz_bytes,rfz_str,rfz_bool,frz_str,frz_bool,Env.put,Env.of,argEnv,rfz_int,List.mapM_append,List.mapM_cons,upTo,upStep,hw,h2,h3]
      ·simp [-List.mapM_map,Store.frz,frzObs,frzOb,frz_eInts,frz_loc,rfz_loc,frz_int,frz_sl,frz_ints,rfz_ints,frz_strs,frz_bytes,rfz_bytes,rfz_str,rfz_bool,frz_str,frz_bool,Env.put,Env.of,argEnv,rfz_int,List.mapM_append,List.mapM_cons,upTo,upStep,hw,h2,h3]
    ·try simp only [RL] at h2
     refine W.skip ?_
     refine xn ?_
     refine W.r fun K hK => ?_
     simp (disch := omega) only [↓RU,RV,RH,↓reduceIte,reduceEqDiff,reduceCtorEq,if_pos,w64,↓RS,RG,reduceAdd,reduceMul,reduceLeDiff,tyint]
     refine hK _ _ ?_;clear hK K
     refine W.cond rfl (fun h3 => ?_) (fun h3 => ?_)
     ·try simp only [RL] at h3
      exact absurd h3 (by simp)
     ·try simp only [RL] at h3
      refine W.skip ?_
      refine XbN ?_
      refine xn ?_
      refine W.k fun K hK => ?_
      simp (disch := omega) only [↓RU,RV,RH,↓reduceIte,reduceEqDiff,reduceCtorEq,if_pos,w64,↓RS,RG,reduceAdd,reduceMul,reduceLeDiff,tyint]
      refine hK _ _ ?_;clear hK K
      refine xn ?_
      refine ⟨(p.length + 1) - (i + 1),by omega,1,[eStrs p,.loc 0 v0 0 (upTo p k (upsTo p k) (i + 1)).2.length,.int .i64 k,.int .i64 (upTo p k (upsTo p k) (i + 1)).1,.int .i64 (i + 1)],⟨[.arr v0 24 1 ((upTo p k (upsTo p k) (i + 1)).2.map eInts)],tk⟩,?_,?_,(i + 1),v0,tk,rfl,by omega,rfl,rfl⟩
      ·simp [-List.mapM_map,Store.frz,frzObs,frzOb,frz_eInts,frz_loc,rfz_loc,frz_int,frz_sl,frz_ints,rfz_ints,frz_strs,frz_bytes,rfz_bytes,rfz_str,rfz_bool,frz_str,frz_bool,Env.put,Env.of,argEnv,rfz_int,List.mapM_append,List.mapM_cons,upTo,upStep,hw,h2,h3]
      ·simp [-List.mapM_map,Store.frz,frzObs,frzOb,frz_eInts,frz_loc,rfz_loc,frz_int,frz_sl,frz_ints,rfz_ints,frz_strs,frz_bytes,rfz_bytes,rfz_str,rfz_bool,frz_str,frz_bool,Env.put,Env.of,argEnv,rfz_int,List.mapM_append,List.mapM_cons,upTo,upStep,hw,h2,h3]
  ·try simp only [RL] at h1
   refine W.exit ?_
   refine xe ?_
   refine xe ?_
   refine XBlock.hit ?_
   refine XbN ?_
   refine xn ?_
   refine W.k fun K hK => ?_
   simp (disch := omega) only [↓RU,RV,RH,↓reduceIte,reduceEqDiff,reduceCtorEq,if_pos,w64,↓RS,RG,reduceAdd,reduceMul,reduceLeDiff,tyint]
   refine hK _ _ ?_;clear hK K
   refine xn ?_
   refine ⟨row0.length - (k + 1),by omega,1,[eStrs p,.loc 0 v0 0 (upsTo p (k + 1)).length,.int .i64 (k + 1)],⟨[.arr v0 24 1 ((upsTo p (k + 1)).map eInts)],tk⟩,?_,?_,(k + 1),v0,tk,rfl,by omega,by omega,rfl,rfl⟩
   ·simp [-List.mapM_map,Store.frz,frzObs,frzOb,frz_eInts,frz_loc,rfz_loc,frz_int,frz_sl,frz_ints,rfz_ints,frz_strs,frz_bytes,rfz_bytes,rfz_str,rfz_bool,frz_str,frz_bool,Env.put,Env.of,argEnv,rfz_int,List.mapM_append,List.mapM_cons] <;> (rw [upsTo_succ h1k]; obtain rfl : i = p.length + 1 := (by omega); simp)
   ·simp [-List.mapM_map,Store.frz,frzObs,frzOb,frz_eInts,frz_loc,rfz_loc,frz_int,frz_sl,frz_ints,rfz_ints,frz_strs,frz_bytes,rfz_bytes,rfz_str,rfz_bool,frz_str,frz_bool,Env.put,Env.of,argEnv,rfz_int,List.mapM_append,List.mapM_cons] <;> (rw [upsTo_succ h1k]; obtain rfl : i = p.length + 1 := (by omega); simp)
 ·try simp only [RL] at h
  refine W.exit ?_
  refine xe ?_
  refine xe ?_
  refine XBlock.hit ?_
  refine xn ?_
  refine W.r fun K hK => ?_
  simp (disch := omega) only [↓RU,RV,RH,↓reduceIte,reduceEqDiff,reduceCtorEq,if_pos,↓RS,RG,reduceAdd,reduceMul,reduceLeDiff]
  refine hK _ _ ?_;clear hK K
  refine W.ret ?_
  refine Br rfl ?_
  have hkp : k = row0.length := by omega
  subst hkp
  rw [uprights,hhd]
  exact reify_loc (k := 9) rfl (by simp) (mapM_ints2 _)
def UpOk (p : List Txt) (k0 : Nat) (w : List Int) : Prop :=
 ∃ k f l : Nat,w = [(k : Int),(f : Int),(l : Int)] ∧ 1 ≤ k ∧ k < k0 ∧ 1 ≤ l ∧ f + l ≤ p.length ∧ ∀ j,f ≤ j → j < f + l → wallB p k j = true
theorem wallB_end {p : List Txt} {k : Nat} : wallB p k p.length = false := by simp [wallB]
theorem upTo_ok {p : List Txt} {k k0 : Nat} (hk : 1 ≤ k) (hk0 : k < k0) {s0 : List (List Int)} (h0 : ∀ w ∈ s0,UpOk p k0 w) : ∀ i,i ≤ p.length + 1 →
  (∀ w ∈ (upTo p k s0 i).2,UpOk p k0 w) ∧ ((upTo p k s0 i).1 = -1 ∨ ∃ f : Nat,(upTo p k s0 i).1 = f ∧ f < i ∧ ∀ j,f ≤ j → j < i → wallB p k j = true)
 | 0,_ => ⟨h0,.inl rfl⟩
 | i + 1,hi => by
  obtain ⟨ih1,ih2⟩ := upTo_ok hk hk0 h0 i (by omega)
  unfold upTo upStep
  cases hw : wallB p k i with
  | true =>
   simp only [Bool.true_and,decide_eq_true_eq,Bool.not_true,Bool.false_and,Bool.false_eq_true,if_false]
   refine ⟨ih1,.inr ?_⟩
   rcases ih2 with h | ⟨f,h,hf,hr⟩
   ·rw [h,if_pos (by omega)]
    exact ⟨i,rfl,by omega,fun j h1 h2 => by rw [show j = i by omega]; exact hw⟩
   ·rw [h,if_neg (by omega)]
    refine ⟨f,rfl,by omega,fun j h1 h2 => ?_⟩
    by_cases hj : j = i
    ·rw [hj]; exact hw
    ·exact hr j h1 (by omega)
  | false =>
   simp only [Bool.false_and,Bool.false_eq_true,if_false,Bool.not_false,Bool.true_and,decide_eq_true_eq]
   rcases ih2 with h | ⟨f,h,hf,hr⟩
   ·rw [h,if_neg (by omega)]
    exact ⟨ih1,.inl rfl⟩
   ·rw [h,if_pos (by omega)]
    refine ⟨fun w hw' => ?_,.inl rfl⟩
    rcases List.mem_append.1 hw' with h1 | h1
    ·exact ih1 w h1
    ·rw [List.mem_singleton] at h1
     have hip : i ≤ p.length := by omega
     refine ⟨k,f,i - f,by rw [h1]; simp; omega,hk,hk0,by omega,by omega,fun j h1 h2 => hr j h1 (by omega)⟩
theorem UpOk.up {p : List Txt} {k k' : Nat} (h : k ≤ k') {w : List Int} (hw : UpOk p k w) : UpOk p k' w := by
 obtain ⟨a,f,l,h1,h2,h3,h4⟩ := hw
 exact ⟨a,f,l,h1,h2,by omega,h4⟩
theorem upsTo_ok (p : List Txt) : ∀ k,∀ w ∈ upsTo p k,UpOk p k w
 | 0,w,h => by simp [upsTo] at h
 | k + 1,w,h => by
  unfold upsTo at h
  split at h
  ·rename_i hk
   exact (upTo_ok hk (Nat.lt_succ_self k) (fun w hw => (upsTo_ok p k w hw).up (by omega)) _ (Nat.le_refl _)).1 w h
  ·exact (upsTo_ok p k w h).up (by omega)
theorem ups_ok {p : List Txt} {w : List Int} (h : w ∈ uprights p) : UpOk p (hdRow p).length w := upsTo_ok p _ w h
theorem get_row {p : List Txt} {i : Nat} (h : i < p.length) : ∃ row,p[i]? = some row ∧ row ∈ p := by
 obtain ⟨r,h1,h2⟩ := get_of h; exact ⟨r,h1,h2⟩
theorem colTo_get {p : List Txt} {k i : Nat} {row : Txt} (h : p[i]? = some row) : (colTo p k p.length)[i]? = some (row.getD k 0) := by
 simp [colTo,h]
theorem trans_get {p : List Txt} {k : Nat} (h : k < (hdRow p).length) : (transP p)[k]? = some (colTo p k p.length) := by
 simp [transP,colsTo,h]
theorem trans_len {p : List Txt} : (transP p).length = (hdRow p).length := by simp [transP,colsTo_len]
theorem trans_hd {p : List Txt} (h : 0 < (hdRow p).length) : (hdRow (transP p)).length = p.length := by
 rw [hdRow_of (trans_get h)]; exact colTo_len (Nat.le_refl _)
theorem grid_mem {p : List Txt} (h : gridB p = true) {i k : Nat} {row : Txt} (hr : p[i]? = some row) (hk : k < (hdRow p).length) : ∃ c,row[k]? = some c ∧ letterB c = true := by
 have hl := grid_row h hr
 unfold gridB at h
 simp only [Bool.and_eq_true,decide_eq_true_eq,List.all_eq_true] at h
 have := h.1.1 row (List.mem_of_getElem? hr)
 simp only [rowB,Bool.and_eq_true,decide_eq_true_eq,List.all_eq_true] at this
 obtain ⟨c,hc,hm⟩ := get_of (show k < row.length by omega)
 exact ⟨c,hc,this.2 c hm⟩
theorem trans_grid {p : List Txt} (h : gridB p = true) : gridB (transP p) = true := by
 have hsm := grid_small h
 obtain ⟨row0,hrow0,hrm0⟩ := get_of hsm.1
 have hhd := hdRow_of hrow0
 have hw1 := row_pos h hrow0
 have hw6 := hsm.2.2 row0 hrm0
 have hlen := trans_len (p := p)
 have hhd2 := trans_hd (p := p) (by rw [hhd]; omega)
 rw [hhd] at hlen
 unfold gridB
 simp only [Bool.and_eq_true,decide_eq_true_eq,List.all_eq_true]
 refine ⟨⟨fun r hr => ?_,by omega⟩,by omega⟩
 simp only [transP,colsTo,List.mem_map,List.mem_range] at hr
 obtain ⟨k,hk,rfl⟩ := hr
 simp only [rowB,Bool.and_eq_true,decide_eq_true_eq,List.all_eq_true]
 refine ⟨⟨⟨by rw [hhd2]; exact colTo_len (Nat.le_refl _),by rw [colTo_len (Nat.le_refl _)]; omega⟩,by rw [colTo_len (Nat.le_refl _)]; omega⟩,fun c hc => ?_⟩
 simp only [colTo,List.take_length,List.mem_map] at hc
 obtain ⟨row,hrm,rfl⟩ := hc
 obtain ⟨i,hi⟩ := List.mem_iff_getElem?.1 hrm
 obtain ⟨c,hc,hl⟩ := grid_mem h hi hk
 simpa [List.getD_eq_getElem?_getD,hc] using hl
theorem Sm.grid {p : List Txt} (h : gridB p = true) : Sm p := by
 have := grid_small h
 exact ⟨by omega,fun r hr => by have := this.2.2 r hr; omega⟩
theorem cellZ_trans {p : List Txt} {i k : Nat} (h : i < p.length) (hk : k < (hdRow p).length) : cellZ (transP p) k i = cellZ p i k := by
 obtain ⟨row,hr,-⟩ := get_of h
 simp [cellZ,trans_get hk,colTo_get hr,hr,List.getD_eq_getElem?_getD]
def walls (p : List Txt) : List (List Int) := (uprights p).map (0 :: ·) ++ (uprights (transP p)).map (1 :: ·)
theorem rowMax_le (row : Txt) : ∀ (n : Int),n ≤ rowMax n row ∧ ∀ (k : Nat) (c : UInt8),row[k]? = some c → (c.toNat : Int) - 97 + 1 ≤ rowMax n row := by
 induction row with
 | nil => intro n; exact ⟨Int.le_refl _,by simp⟩
 | cons a row ih =>
  intro n
  have h := ih (max n ((a.toNat : Int) - 97 + 1))
  have e : rowMax n (a :: row) = rowMax (max n ((a.toNat : Int) - 97 + 1)) row := rfl
  rw [e]
  refine ⟨by omega,?_⟩
  rintro (_ | k) c hc
  ·simp at hc; subst hc; omega
  ·simp at hc; exact h.2 k c hc
theorem rooms_fold (p : List Txt) : ∀ (n : Int),n ≤ p.foldl rowMax n ∧ ∀ (i k : Nat) (row : Txt) (c : UInt8),p[i]? = some row → row[k]? = some c → (c.toNat : Int) - 97 + 1 ≤ p.foldl rowMax n := by
 induction p with
 | nil => intro n; exact ⟨Int.le_refl _,by simp⟩
 | cons r p ih =>
  intro n
  have h := ih (rowMax n r)
  have h2 := rowMax_le r n
  simp only [List.foldl_cons]
  refine ⟨by omega,?_⟩
  rintro (_ | i) k row c hr hc
  ·simp at hr; subst hr
   have := h2.2 k c hc; omega
  ·simp at hr; exact h.2 i k row c hr hc
def orBit (ms : List Nat) (a b : Nat) : List Nat := ms.set a ((ms[a]?.getD 0) ||| 2 ^ b)
def justB (a : Nat) (ms : List Nat) (bs : List Int) : List Nat := bs.foldl (fun ms b => orBit ms a b.toNat) ms
def justA (bs : List Int) (ms : List Nat) (la : List Int) : List Nat := la.foldl (fun ms a => justB a.toNat ms bs) ms
def sidesW (p : List Txt) (w : List Int) : List Int × List Int :=
 match w with
 | [kind,line,fr,long] => sidesTo p kind.toNat line.toNat fr.toNat long.toNat
 | _ => ([],[])
def justW (p : List Txt) (kind : Int) (ms : List Nat) (w : List Int) : List Nat :=
 if w[0]?.getD 0 = kind then justA (sidesW p w).2 ms (sidesW p w).1 else ms
def just (p : List Txt) (kind : Int) : List Nat := (walls p).foldl (justW p kind) (List.replicate (l1Rooms p).toNat 0)
def allA (c : Nat) (ms : List Nat) (a : Nat) : List Nat := if (ms[a]?.getD 0).testBit c then ms.set a ((ms[a]?.getD 0) ||| (ms[c]?.getD 0)) else ms
def allC (n : Nat) (ms : List Nat) (c : Nat) : List Nat := (List.range n).foldl (allA c) ms
def allS (p : List Txt) (kind : Int) : List Nat := (List.range (just p kind).length).foldl (allC (just p kind).length) (just p kind)
def Msk (n : Nat) (ms : List Nat) : Prop := ms.length = n ∧ ∀ m ∈ ms,m < 512
theorem Msk.get {n : Nat} {ms : List Nat} (h : Msk n ms) (a : Nat) : ms[a]?.getD 0 < 512 := by
 cases e : ms[a]? with
 | none => simp
 | some m => simpa using h.2 m (List.mem_of_getElem? e)
theorem or_small {a b : Nat} (ha : a < 512) (hb : b < 512) : a ||| b < 512 := Nat.or_lt_two_pow (n := 9) ha hb
theorem Msk.set {n : Nat} {ms : List Nat} (h : Msk n ms) {a m : Nat} (hm : m < 512) : Msk n (ms.set a m) := by
 refine ⟨by simpa using h.1,fun x hx => ?_⟩
 rcases List.mem_or_eq_of_mem_set hx with h1 | rfl
 ·exact h.2 x h1
 ·exact hm
theorem Msk.orBit {n : Nat} {ms : List Nat} (h : Msk n ms) {a b : Nat} (hb : b < 9) : Msk n (orBit ms a b) :=
 h.set (or_small (h.get a) (Nat.pow_lt_pow_right (by omega) hb))
theorem Msk.foldl {n : Nat} {α : Type} {f : List Nat → α → List Nat} : ∀ {l : List α} {ms : List Nat},(∀ ms,Msk n ms → ∀ a ∈ l,Msk n (f ms a)) → Msk n ms → Msk n (l.foldl f ms)
 | [],ms,_,h => h
 | a :: l,ms,hf,h => Msk.foldl (l := l) (fun ms hm x hx => hf ms hm x (by simp [hx])) (hf ms h a (by simp))
theorem putL_mem {l : List Int} {x y : Int} (h : y ∈ putL l x) : y ∈ l ∨ y = x := by
 unfold putL at h
 split at h
 ·exact .inl h
 ·simpa using h
theorem sh_ints {S : Store} {im : Bool} {k : Nat} {q : IntKind} (l : List Int) : (l.map (PV.int q)).mapM (sh S im (k + 1)) = some (l.map (PV.int q)) :=
 mapM_same fun x hx => by obtain ⟨a,_,rfl⟩ := List.mem_map.1 hx; rfl
theorem sh_one {S : Store} {im : Bool} {v et n : Nat} {cells : List PV} {R : List Ob} (hS : S.obs = .arr v et 1 cells :: R) (hc : cells.mapM (sh (S.take 1) im 10) = some cells) :
  ∃ k,sh (S.take k) im 10 (.loc 0 v 0 n) = some (.loc 0 0 0 n) ∧ shObs (S.take k) im (S.take k).obs = some [.arr 0 et 1 cells] := by
 refine ⟨1,?_,?_⟩
 ·simp [sh,Store.take,hS]
 ·have e : (S.take 1).obs = [.arr v et 1 cells] := by simp [Store.take,hS]
  rw [e]
  simp [shObs,shOb,hc]
theorem foldl_tk {α β : Type} {f : β → α → β} {z : β} {l : List α} {i : Nat} {a : α} (h : l[i]? = some a) : (l.take (i + 1)).foldl f z = f ((l.take i).foldl f z) a := by
 simp [tk h,List.foldl_append]
theorem Msk.at_ {n : Nat} {ms : List Nat} (h : Msk n ms) {a : Nat} (ha : a < n) : ∃ m,ms[a]? = some m ∧ m < 512 := by
 obtain ⟨m,hm,h2⟩ := get_of (show a < ms.length by rw [h.1]; exact ha)
 exact ⟨m,hm,h.2 m h2⟩
theorem ile_true {a b : Int} (h : a ≤ b) : (a ≤ b) = True := eq_true h
theorem orBit_is {ms : List Nat} {a b m : Nat} (h : ms[a]? = some m) : orBit ms a b = ms.set a (m ||| 2 ^ b) := by simp [orBit,h]
theorem set_spl {α : Type} {f : α → PV} {l : List α} {a : Nat} {v : PV} (h : a < l.length) : (l.map f).take a ++ [v] ++ (l.map f).drop (a + 1) = (l.map f).set a v := by
 rw [List.set_eq_take_append_cons_drop,if_pos (by simpa using h)]; simp
theorem set_int {l : List Int} {q : IntKind} {a : Nat} {m : Int} : (l.map (PV.int q)).set a (.int q m) = (l.set a m).map (PV.int q) := by
 rw [List.map_set]
theorem foldl_rg {β : Type} {f : β → Nat → β} {z : β} {i : Nat} : (List.range (i + 1)).foldl f z = f ((List.range i).foldl f z) i := by
 simp [List.range_succ,List.foldl_append]
theorem allA_yes {ms : List Nat} {c a m k : Nat} (h : ms[a]? = some m) (hc : ms[c]? = some k) (hb : m.testBit c = true) : allA c ms a = ms.set a (m ||| k) := by simp [allA,h,hc,hb]
theorem allA_no {ms : List Nat} {c a m : Nat} (h : ms[a]? = some m) (hb : m.testBit c = false) : allA c ms a = ms := by simp [allA,h,hb]

def Bnd (n : Nat) (M : Int) (l : List Int) : Prop := l.length = n ∧ ∀ x ∈ l,0 ≤ x ∧ x ≤ M
theorem Bnd.at_ {n : Nat} {M : Int} {l : List Int} (h : Bnd n M l) {a : Nat} (ha : a < n) : ∃ x,l[a]? = some x ∧ 0 ≤ x ∧ x ≤ M := by
 obtain ⟨x,hx,hm⟩ := get_of (show a < l.length by rw [h.1]; exact ha)
 exact ⟨x,hx,h.2 x hm⟩
theorem Bnd.up {n : Nat} {M M' : Int} {l : List Int} (h : Bnd n M l) (hM : M ≤ M') : Bnd n M' l := ⟨h.1,fun x hx => by have := h.2 x hx; omega⟩
theorem Bnd.set {n : Nat} {M : Int} {l : List Int} (h : Bnd n M l) {a : Nat} {x : Int} (h0 : 0 ≤ x) (hx : x ≤ M) : Bnd n M (l.set a x) := by
 refine ⟨by simpa using h.1,fun y hy => ?_⟩
 rcases List.mem_or_eq_of_mem_set hy with h1 | rfl
 ·exact h.2 y h1
 ·exact ⟨h0,hx⟩
theorem Bnd.zero {n : Nat} : Bnd n 0 (List.replicate n 0) := ⟨by simp,fun x hx => by rw [(List.mem_replicate.1 hx).2]; omega⟩
def getI (l : List Int) (a : Nat) : Int := l[a]?.getD 0
theorem getI_is {l : List Int} {a : Nat} {x : Int} (h : l[a]? = some x) : getI l a = x := by simp [getI,h]
def bitOf (ms : List Nat) (a b : Nat) : Bool := (ms[a]?.getD 0).testBit b
theorem bitOf_is {ms : List Nat} {a b m : Nat} (h : ms[a]? = some m) : bitOf ms a b = m.testBit b := by simp [bitOf,h]
def plB (sets : List Nat) (needs : List Int) (a : Nat) (out : List Int) (b : Nat) : List Int :=
 if bitOf sets a b then out.set b (max (getI out b) (getI out a + getI needs a)) else out
def plA (sets : List Nat) (needs : List Int) (out : List Int) (a : Nat) : List Int := (List.range needs.length).foldl (plB sets needs a) out
def plN (sets : List Nat) (needs : List Int) (out : List Int) (_ : Nat) : List Int := (List.range needs.length).foldl (plA sets needs) out
def places (sets : List Nat) (needs : List Int) : List Int := (List.range needs.length).foldl (plN sets needs) (List.replicate needs.length 0)
def NeedOk (needs : List Int) : Prop := ∀ x ∈ needs,1 ≤ x ∧ x ≤ 9
def least (sets : List Nat) (needs : List Int) : Int := (List.range needs.length).foldl (fun m a => max m (getI (places sets needs) a + getI needs a)) 0
def needB (x : Int) : Bool := decide (1 ≤ x) && decide (x ≤ 9)
def needsB (p : List Txt) (needs : List Int) : Bool := plainB p && decide ((needs.length : Int) = l1Rooms p) && needs.all needB
theorem repz_int : ∀ (n : Nat),repz [PV.int .i64 0] n = (List.replicate n 0).map (PV.int .i64)
 | 0 => rfl
 | n + 1 => by rw [repz_succ,repz_int n,List.replicate_succ]; rfl
theorem repz_str : ∀ (n : Nat),repz [PV.str []] n = (List.replicate n []).map PV.str
 | 0 => rfl
 | n + 1 => by rw [repz_succ,repz_str n,List.replicate_succ]; rfl
theorem set_str {l : List Txt} {a : Nat} {m : Txt} : (l.map PV.str).set a (.str m) = (l.set a m).map PV.str := by
 rw [List.map_set]
def szAll : List Txt → Nat
 | [] => 0
 | r :: p => r.length + szAll p
def sz (p : List Txt) (left : Int) : Int := if (p.length + szAll p : Nat) ≤ left then left - (p.length + szAll p : Nat) else -1
theorem take_eq_succ {α : Type} {p q : List α} {i : Nat} {x y : α} (h : p.take i = q.take i) (hx : p[i]? = some x) (hy : q[i]? = some y) (e : x = y) : p.take (i + 1) = q.take (i + 1) := by
 rw [tk hx,tk hy,h,e]
section
abbrev eGrid (g : List (List Int)) : PV := .sl (g.map eInts) g.length
structure Rect where
 row : Int
 col : Int
 high : Int
 wide : Int
 deriving DecidableEq
def Rect.cells (r : Rect) : List PV := [.int .i64 r.row,.int .i64 r.col,.int .i64 r.high,.int .i64 r.wide]
abbrev eRect (r : Rect) : PV := .agg r.cells
def rcs (rs : List Rect) : List PV := rs.flatMap Rect.cells
abbrev eRects (rs : List Rect) : PV := .sl (rcs rs) rs.length
abbrev eFloor (g : List (List Int)) (rs : List Rect) : PV := .ip [eGrid g,eRects rs] 0
theorem rcs_len (rs : List Rect) : (rcs rs).length = rs.length * 4 := by
 induction rs with
 | nil => rfl
 | cons r rs ih => simp only [rcs,List.flatMap_cons,List.length_append,List.length_cons] at ih ⊢; rw [ih]; simp [Rect.cells]; omega
theorem rcs_app (rs ss : List Rect) : rcs (rs ++ ss) = rcs rs ++ rcs ss := by simp [rcs]
theorem rcs_cons (r : Rect) (rs : List Rect) : rcs (r :: rs) = r.cells ++ rcs rs := rfl
theorem rcs_take (rs : List Rect) (n : Nat) : (rcs rs).take (n * 4) = rcs (rs.take n) := by
 induction rs generalizing n with
 | nil => simp [rcs]
 | cons r rs ih =>
  cases n with
  | zero => simp [rcs]
  | succ n =>
   rw [rcs_cons,List.take_succ_cons,rcs_cons,← ih n]
   rw [show (n + 1) * 4 = r.cells.length + n * 4 by simp [Rect.cells]; omega,List.take_length_add_append]
theorem rcs_drop (rs : List Rect) (n : Nat) : (rcs rs).drop (n * 4) = rcs (rs.drop n) := by
 induction rs generalizing n with
 | nil => simp [rcs]
 | cons r rs ih =>
  cases n with
  | zero => simp
  | succ n =>
   rw [rcs_cons,List.drop_succ_cons,← ih n]
   rw [show (n + 1) * 4 = r.cells.length + n * 4 by simp [Rect.cells]; omega,List.drop_length_add_append]
theorem rcs_at {rs : List Rect} {n : Nat} {r : Rect} (h : rs[n]? = some r) : ((rcs rs).drop (n * 4)).take 4 = r.cells := by
 rw [rcs_drop]
 have : rs.drop n = r :: rs.drop (n + 1) := by
  obtain ⟨hn,rfl⟩ := List.getElem?_eq_some_iff.1 h
  exact List.drop_eq_getElem_cons hn
 rw [this,rcs_cons]
 simp [Rect.cells]
theorem rcs_set {rs : List Rect} {n : Nat} {r : Rect} (h : n < rs.length) : (rcs rs).take (n * 4) ++ r.cells ++ (rcs rs).drop (n * 4 + 4) = rcs (rs.set n r) := by
 rw [rcs_take,show n * 4 + 4 = (n + 1) * 4 by omega,rcs_drop,show r.cells = rcs [r] by simp [rcs],← rcs_app,← rcs_app]
 congr 1
 rw [List.set_eq_take_append_cons_drop,if_pos h]
 simp
def ixf {α : Type} (test : α → Bool) (l : List α) : Int :=
 match l.findIdx? test with
 | some i => i
 | none => -1
theorem ixf_at {α : Type} {test : α → Bool} {l : List α} {i : Nat} {x : α} (h : l[i]? = some x) (hall : (l.take i).any test = false) (hx : test x = true) : ixf test l = i := by
 have : l.findIdx? test = some i := by
  obtain ⟨hi,rfl⟩ := List.getElem?_eq_some_iff.1 h
  rw [List.findIdx?_eq_some_iff_getElem]
  refine ⟨hi,hx,fun j hj => ?_⟩
  rw [List.any_eq_false] at hall
  have := hall l[j] (by rw [List.mem_take_iff_getElem]; exact ⟨j,by omega,rfl⟩)
  simpa using this
 simp [ixf,this]
theorem ixf_none {α : Type} {test : α → Bool} {l : List α} (hall : l.any test = false) : ixf test l = -1 := by
 have : l.findIdx? test = none := by
  rw [List.findIdx?_eq_none_iff]
  intro x hx
  rw [List.any_eq_false] at hall
  simpa using hall x hx
 simp [ixf,this]
theorem ixf_any {α : Type} {test : α → Bool} {l : List α} : decide (0 ≤ ixf test l) = l.any test := by
 cases h : l.any test with
 | false => rw [ixf_none h]; rfl
 | true =>
  unfold ixf
  cases hi : l.findIdx? test with
  | none =>
   rw [List.findIdx?_eq_none_iff] at hi
   rw [List.any_eq_true] at h
   obtain ⟨x,hx,hx2⟩ := h
   rw [hi x hx] at hx2; cases hx2
  | some i => simp
theorem any_tk {α : Type} {f : α → Bool} {l : List α} {i : Nat} {a : α} (h : l[i]? = some a) (h1 : (l.take i).any f = false) (h2 : f a = false) : (l.take (i + 1)).any f = false := by
 rw [tk h,List.any_append,h1]; simp [h2]
def Rect.both (b o : Rect) : Rect := ⟨min b.row o.row,min b.col o.col,max (b.row + b.high) (o.row + o.high) - min b.row o.row,max (b.col + b.wide) (o.col + o.wide) - min b.col o.col⟩
def Rect.In (M : Int) (r : Rect) : Prop := 0 ≤ r.row ∧ r.row ≤ M ∧ 0 ≤ r.col ∧ r.col ≤ M ∧ 0 ≤ r.high ∧ r.high ≤ M ∧ 0 ≤ r.wide ∧ r.wide ≤ M
theorem reify_fn {S : Store} {im : Bool} {k : Nat} {g : FuncId} {cap : List PV} : reify S im (k + 1) (.fn g cap) = (cap.mapM (reify S im k)).map (.fn g) := rfl
section
variable {S : Store} {k f lo : Nat} {sel : List Nat} {fr : Nat → Bool} {im : Bool}
theorem rn_int {q : IntKind} {n : Int} : rn S k sel (f + 1) (.int q n) = some (.int q n) := rfl
theorem rn_bool {b : Bool} : rn S k sel (f + 1) (.bool b) = some (.bool b) := rfl
theorem rn_str {b : Txt} : rn S k sel (f + 1) (.str b) = some (.str b) := rfl
theorem rn_sl {cs : List PV} {n : Nat} : rn S k sel (f + 1) (.sl cs n) = some (.sl cs n) := rfl
theorem rn_ip {cs : List PV} {n : Nat} : rn S k sel (f + 1) (.ip cs n) = some (.ip cs n) := rfl
theorem rn_nils : rn S k sel (f + 1) .nils = some .nils := rfl
theorem rn_nilp : rn S k sel (f + 1) .nilp = some .nilp := rfl
theorem rn_undef : rn S k sel (f + 1) .undef = some .undef := rfl
theorem rn_agg {cs : List PV} : rn S k sel (f + 1) (.agg cs) = (cs.mapM (rn S k sel f)).map .agg := rfl
theorem rn_tup {cs : List PV} : rn S k sel (f + 1) (.tup cs) = (cs.mapM (rn S k sel f)).map .tup := rfl
theorem rn_fn {g : FuncId} {cs : List PV} : rn S k sel (f + 1) (.fn g cs) = (cs.mapM (rn S k sel f)).map (.fn g) := rfl
theorem rn_loc {o ver off n : Nat} : rn S k sel (f + 1) (.loc o ver off n) = (if o < k then some (.loc o ver off n) else
   if sel.contains o then (match S.obs[o]? with | some (.arr v _ _ _) => if v = ver then some (.loc (k + sel.idxOf o) S.tick off n) else none | _ => none)
   else rfq S (frOf k sel) 10 (.loc o ver off n)) := rfl
theorem rn_ref {o ver off : Nat} : rn S k sel (f + 1) (.ref o ver off) = (if o < k then some (.ref o ver off) else
   if sel.contains o then (match S.obs[o]? with | some (.arr v _ _ _) => if v = ver then some (.ref (k + sel.idxOf o) S.tick off) else none | _ => none)
   else rfq S (frOf k sel) 10 (.ref o ver off)) := rfl
theorem rn_mp {o ver : Nat} : rn S k sel (f + 1) (.mp o ver) = (if o < k then some (.mp o ver) else
   if sel.contains o then (match S.obs[o]? with | some (.map v _) => if v = ver then some (.mp (k + sel.idxOf o) S.tick) else none | _ => none)
   else none) := rfl
theorem rfq_loc {o ver off n : Nat} : rfq S fr (f + 1) (.loc o ver off n) = (match S.obs[o]? with
   | some (.arr v _ sz cells) => if fr o = true ∧ v = ver ∧ off + n * sz ≤ cells.length then (((cells.drop off).take (n * sz)).mapM (rfq S fr f)).map (.sl · n) else none
   | _ => none) := rfl
theorem rfq_int {q : IntKind} {n : Int} : rfq S fr (f + 1) (.int q n) = some (.int q n) := rfl
theorem rfq_bool {b : Bool} : rfq S fr (f + 1) (.bool b) = some (.bool b) := rfl
theorem rfq_str {b : Txt} : rfq S fr (f + 1) (.str b) = some (.str b) := rfl
theorem rfq_sl {cs : List PV} {n : Nat} : rfq S fr (f + 1) (.sl cs n) = some (.sl cs n) := rfl
theorem rnObs_nil {old : Bool} : rnObs S k sel old [] = some [] := rfl
theorem rnObs_cons {old : Bool} {o : Nat} {r : List Nat} : rnObs S k sel old (o :: r) = ((S.obs[o]?).bind (rnOb S k sel old)).bind fun a => (rnObs S k sel old r).map (a :: ·) := rfl
theorem rnOb_arr {old : Bool} {ver et sz : Nat} {cells : List PV} : rnOb S k sel old (.arr ver et sz cells) = (cells.mapM (rn S k sel 10)).map (.arr (if old then ver else S.tick) et sz ·) := rfl
theorem rnOb_map {old : Bool} {ver : Nat} {es : List (PV × PV)} : rnOb S k sel old (.map ver es) = (es.mapM fun q => (rn S k sel 10 q.1).bind fun a => (rn S k sel 10 q.2).map fun b => (a,b)).map (.map (if old then ver else S.tick) ·) := rfl
theorem Srn_eq : S.rn k sel = (if sel.all (fun o => decide (k ≤ o)) && decide sel.Nodup && decide (k ≤ S.obs.length) then
  (rnObs S k sel true (List.range k)).bind fun a => (rnObs S k sel false sel).map fun b => ⟨a ++ b,S.tick + 1⟩
 else none) := rfl
def scal : PV → Bool
 | .int _ _ | .bool _ | .str _ => true
 | _ => false
theorem rn_scal {l : List PV} (h : l.all scal = true) : l.mapM (rn S k sel (f + 1)) = some l := by
 rw [List.all_eq_true] at h
 exact mapM_same fun x hx => by have := h x hx; cases x <;> simp [scal] at this <;> rfl
theorem reify_scal {l : List PV} (h : l.all scal = true) : l.mapM (reify S im (f + 1)) = some l := by
 rw [List.all_eq_true] at h
 exact mapM_same fun x hx => by have := h x hx; cases x <;> simp [scal] at this <;> rfl
theorem sh_scal {l : List PV} (h : l.all scal = true) : l.mapM (sh S im (f + 1)) = some l := by
 rw [List.all_eq_true] at h
 exact mapM_same fun x hx => by have := h x hx; cases x <;> simp [scal] at this <;> rfl
theorem scal_rcs (rs : List Rect) : (rcs rs).all scal = true := by
 induction rs with
 | nil => rfl
 | cons r rs ih => rw [rcs_cons,List.all_append,ih]; rfl
end
end
theorem high_pc (g : List (List Int)) (rs : List Rect) : PC Tryz.prog 74 [eFloor g rs] (.int .i64 g.length) true := by
 refine PC.of ⟨Tryz.func74,by kernel_rfl,rfl,by kernel_rfl⟩ tabOk mixed (by show 1 ≤ Tryz.f74.ntmps; decide) ?_
 refine W.r fun K hK => ?_
 simp (disch := omega) only [↓RU,RV,RH,↓reduceIte,reduceEqDiff,reduceCtorEq,if_pos,↓RS,RG,reduceAdd,reduceMul,reduceLeDiff]
 refine hK _ _ ?_;clear hK K
 refine W.r fun K hK => ?_
 simp (disch := omega) only [↓RU,RV,RH,↓reduceIte,reduceEqDiff,reduceCtorEq,if_pos,↓RS,RG,reduceAdd,reduceMul,reduceLeDiff,ty1,ty3,tyLint,ty10,ty11,ty15,tyint,ty24,ty28]
 refine hK _ _ ?_;clear hK K
 refine W.ret ?_
 refine Br rfl ?_
 rfl
theorem wide_pc {g : List (List Int)} {row : List Int} (h : g[0]? = some row) (rs : List Rect) : PC Tryz.prog 75 [eFloor g rs] (.int .i64 row.length) true := by
 have hl := len_of h
 refine PC.of ⟨Tryz.func75,by kernel_rfl,rfl,by kernel_rfl⟩ tabOk mixed (by show 1 ≤ Tryz.f75.ntmps; decide) ?_
 refine W.r fun K hK => ?_
 simp (disch := omega) only [↓RU,RV,RH,↓reduceIte,reduceEqDiff,reduceCtorEq,if_pos,↓RS,RG,reduceAdd,reduceMul,reduceLeDiff]
 refine hK _ _ ?_;clear hK K
 refine W.r fun K hK => ?_
 simp (disch := omega) only [↓RU,RV,RH,↓reduceIte,reduceEqDiff,reduceCtorEq,if_pos,↓RS,RG,reduceAdd,reduceMul,reduceLeDiff,ty1,ty3,tyLint,ty10,ty11,ty15,tyint,ty24,ty28,h,Int.toNat_zero,Nat.zero_mul,Int.reduceToNat]
 refine hK _ _ ?_;clear hK K
 refine W.ret ?_
 refine Br rfl ?_
 rfl
theorem area_pc {r : Rect} (h1 : 0 ≤ r.high * r.wide) (h2 : r.high * r.wide ≤ 1048576) : PC Tryz.prog 153 [eRect r] (.int .i64 (r.high * r.wide)) true := by
 simp only [eRect,Rect.cells]
 refine PC.of ⟨Tryz.func153,by kernel_rfl,rfl,by kernel_rfl⟩ tabOk mixed (by show 1 ≤ Tryz.f153.ntmps; decide) ?_
 refine W.r fun K hK => ?_
 simp (disch := omega) only [↓RU,RV,RH,↓reduceIte,reduceEqDiff,reduceCtorEq,if_pos,↓RS,RG,reduceAdd,reduceMul,reduceLeDiff,ty15,tyint,ty28]
 refine hK _ _ ?_;clear hK K
 refine W.r fun K hK => ?_
 simp (disch := omega) only [↓RU,RV,RH,↓reduceIte,reduceEqDiff,reduceCtorEq,if_pos,w64,↓RS,RG,reduceAdd,reduceMul,reduceLeDiff,ty15,tyint,ty28]
 refine hK _ _ ?_;clear hK K
 refine W.ret ?_
 refine Br rfl ?_
 rfl
theorem both_pc {b o : Rect} (hb : b.In 1000) (ho : o.In 1000) : PC Tryz.prog 110 [eRect b,eRect o] (eRect (b.both o)) true := by
 unfold Rect.In at hb ho
 simp only [eRect,Rect.cells,Rect.both]
 refine PC.of ⟨Tryz.func110,by kernel_rfl,rfl,by kernel_rfl⟩ tabOk mixed (by show 2 ≤ Tryz.f110.ntmps; decide) ?_
 refine W.r fun K hK => ?_
 simp (disch := omega) only [↓RU,RV,RH,↓reduceIte,reduceEqDiff,reduceCtorEq,if_pos,↓RS,RG,reduceAdd,reduceMul,reduceLeDiff,ty15,tyint,ty28]
 refine hK _ _ ?_;clear hK K
 refine W.seq_draw (by kernel_rfl) fun K hK => ?_
 simp (disch := omega) only [↓RU,RV,RH,↓reduceIte,reduceEqDiff,reduceCtorEq,if_pos,ite_min,↓RS,RG,reduceAdd,reduceMul,reduceLeDiff,ty15,tyint,ty28]
 refine hK _ _ ?_;clear hK K
 refine W.r fun K hK => ?_
 simp (disch := omega) only [↓RU,RV,RH,↓reduceIte,reduceEqDiff,reduceCtorEq,if_pos,w64,ite_max,↓RS,RG,reduceAdd,reduceMul,reduceLeDiff,ty15,tyint,ty28]
 refine hK _ _ ?_;clear hK K
 refine W.ret ?_
 refine Br rfl ?_
 rfl
theorem needing1_pc (n : Int) : PC Tryz.prog 70 [.int .i64 n] (.bool (!needB n)) true := by
 refine PC.of ⟨Tryz.func70,by kernel_rfl,rfl,by kernel_rfl⟩ tabOk mixed (by show 1 ≤ Tryz.f70.ntmps; decide) ?_
 refine W.r fun K hK => ?_
 simp (disch := omega) only [↓RU,RV,RH,↓reduceIte,reduceEqDiff,reduceCtorEq,if_pos]
 refine hK _ _ ?_;clear hK K
 refine W.r fun K hK => ?_
 by_cases h : n < 1
 ·skip
  simp (disch := omega) only [↓RU,RV,RH,↓reduceIte,reduceEqDiff,reduceCtorEq,if_pos,w64,tyint,h,decide_true]
  refine hK _ _ ?_;clear hK K
  refine W.ret ?_
  refine Br rfl ?_
  rw [show needB n = false by simp [needB]; omega]
  rfl
 ·skip
  simp (disch := omega) only [↓RU,RV,RH,↓reduceIte,reduceEqDiff,reduceCtorEq,if_pos,w64,tyint,h,decide_false]
  refine hK _ _ ?_;clear hK K
  refine W.ret ?_
  refine Br rfl ?_
  have hx : needB n = decide (n ≤ 9) := by simp [needB]; omega
  rw [show (!needB n) = decide (9 < n) by rw [hx,← decide_not]; apply decide_eq_decide.2; omega]
  rfl
theorem settled1_pc (row : List Int) (w : Int) (hr : row.length < 2147483648) : PC Tryz.prog 151 [eInts row,.ip [.int .i64 w] 0] (.bool (decide ((row.length : Int) ≠ w))) true := by
 refine PC.of ⟨Tryz.func151,by kernel_rfl,rfl,by kernel_rfl⟩ tabOk mixed (by show 2 ≤ Tryz.f151.ntmps; decide) ?_
 refine W.r fun K hK => ?_
 simp (disch := omega) only [↓RU,RV,RH,↓reduceIte,reduceEqDiff,reduceCtorEq,if_pos,↓RS,RG,reduceAdd,reduceMul,reduceLeDiff]
 refine hK _ _ ?_;clear hK K
 refine W.r fun K hK => ?_
 simp (disch := omega) only [↓RU,RV,RH,↓reduceIte,reduceEqDiff,reduceCtorEq,if_pos,w64,↓RS,RG,reduceAdd,reduceMul,reduceLeDiff,tyLint,tyint]
 refine hK _ _ ?_;clear hK K
 refine W.ret ?_
 refine Br rfl ?_
 rw [show decide ((row.length : Int) ≠ w) = ((row.length : Int) != w) by rw [bne_int]; simp]
 rfl
theorem indexInt_pc {l : List Int} (hl : l.length < 2147483648) {g : FuncId} {cap : List PV} (hc : cap.mapM (reify ⟨[],0⟩ true 10) = some cap) {test : Int → Bool} (hg : ∀ x ∈ l,PC Tryz.prog g (.int .i64 x :: cap) (.bool (test x)) true) : PC Tryz.prog 109 [eInts l,.fn g cap] (.int .i64 (ixf test l)) true := by
 refine PC.of ⟨Tryz.func109,by kernel_rfl,rfl,by kernel_rfl⟩ tabOk mixed (by show 2 ≤ Tryz.f109.ntmps; decide) ?_
 refine W.r fun K hK => ?_
 simp (disch := omega) only [↓RU,RV,RH,↓reduceIte,reduceEqDiff,reduceCtorEq,if_pos]
 refine hK _ _ ?_;clear hK K
 refine W.seq ?_
 refine W.r fun K hK => ?_
 simp (disch := omega) only [↓RU,RV,RH,↓reduceIte,reduceEqDiff,reduceCtorEq,if_pos,tyLint,tyint]
 refine hK _ _ ?_;clear hK K
 refine W.block ?_
 refine W.loop [0,1,6,7,8] (fun n vs S => ∃ i : Nat,n = l.length - i ∧ i ≤ l.length ∧ ((l.take i).any test = false) ∧ vs = [eInts l,.fn g cap,eInts l,.int .i64 l.length,.int .i64 i] ∧ S = ⟨[],0⟩) (l.length) ?_ ?_
 ·refine ⟨0,0,rfl,Nat.zero_le _,rfl,?_,rfl⟩
  simp [Env.put,Env.of,argEnv]
 rintro n vs S - ⟨i,rfl,h_i,hall,rfl,rfl⟩
 refine W.r fun K hK => ?_
 simp (disch := omega) only [↓RU,RV,RH,↓reduceIte,reduceEqDiff,reduceCtorEq,if_pos,w64,tyint]
 refine hK _ _ ?_;clear hK K
 refine W.seq ?_
 refine W.cond rfl (fun h => ?_) (fun h => ?_)
 ·try simp only [RL] at h
  obtain ⟨x,hx,hxm⟩ := get_of (show i < l.length by omega)
  refine W.skip ?_
  refine xn ?_
  refine W.seq ?_
  refine W.block ?_
  refine W.r fun K hK => ?_
  simp (disch := omega) only [↓RU,RV,RH,↓reduceIte,reduceEqDiff,reduceCtorEq,if_pos]
  refine hK _ _ ?_;clear hK K
  refine W.r fun K hK => ?_
  simp (disch := omega) only [↓RU,RV,RH,↓reduceIte,reduceEqDiff,reduceCtorEq,if_pos,List.append_nil,tyLint,tyint,hx]
  refine CallR.pc (hg x hxm) (mapM_one rfl hc) (.inl rfl) ?_
  simp (disch := omega) only [↓RU,RV,RH,↓reduceIte,reduceEqDiff,reduceCtorEq,if_pos,List.append_nil,tyLint,tyint,hx]
  refine hK _ _ ?_;clear hK K
  refine W.cond rfl (fun h1 => ?_) (fun h1 => ?_)
  ·try simp only [RL] at h1
   refine W.r fun K hK => ?_
   simp (disch := omega) only [↓RU,RV,RH,↓reduceIte,reduceEqDiff,reduceCtorEq,if_pos]
   refine hK _ _ ?_;clear hK K
   refine W.ret ?_
   refine XBlock.ret ?_
   refine XThen.ret ?_
   refine XThen.ret ?_
   refine XBlock.ret ?_
   refine XThen.ret ?_
   refine Br rfl ?_
   rw [ixf_at hx hall h1]
   rfl
  ·try simp only [RL] at h1
   refine W.skip ?_
   refine XbN ?_
   refine xn ?_
   refine W.k fun K hK => ?_
   simp (disch := omega) only [↓RU,RV,RH,↓reduceIte,reduceEqDiff,reduceCtorEq,if_pos,w64,tyint]
   refine hK _ _ ?_;clear hK K
   refine xn ?_
   refine ⟨l.length - (i + 1),by omega,0,i + 1,rfl,by omega,any_tk hx (by assumption) h1,?_,rfl⟩
   simp [Env.put,Env.of]
 ·try simp only [RL] at h
  refine W.exit ?_
  refine xe ?_
  refine xe ?_
  refine XBlock.hit ?_
  refine xn ?_
  refine W.r fun K hK => ?_
  simp (disch := omega) only [↓RU,RV,RH,↓reduceIte,reduceEqDiff,reduceCtorEq,if_pos]
  refine hK _ _ ?_;clear hK K
  refine W.ret ?_
  refine Br rfl ?_
  have hip : l.take i = l := List.take_of_length_le (by omega)
  rw [hip] at hall
  rw [ixf_none hall]
  rfl
theorem indexRow_pc {l : List (List Int)} (hl : l.length < 2147483648) {g : FuncId} {cap : List PV} (hc : cap.mapM (reify ⟨[],0⟩ true 10) = some cap) {test : (List Int) → Bool} (hg : ∀ x ∈ l,PC Tryz.prog g (eInts x :: cap) (.bool (test x)) true) : PC Tryz.prog 171 [eGrid l,.fn g cap] (.int .i64 (ixf test l)) true := by
 refine PC.of ⟨Tryz.func171,by kernel_rfl,rfl,by kernel_rfl⟩ tabOk mixed (by show 2 ≤ Tryz.f171.ntmps; decide) ?_
 refine W.r fun K hK => ?_
 simp (disch := omega) only [↓RU,RV,RH,↓reduceIte,reduceEqDiff,reduceCtorEq,if_pos]
 refine hK _ _ ?_;clear hK K
 refine W.seq ?_
 refine W.r fun K hK => ?_
 simp (disch := omega) only [↓RU,RV,RH,↓reduceIte,reduceEqDiff,reduceCtorEq,if_pos,ty1,tyLint,ty11,tyint]
 refine hK _ _ ?_;clear hK K
 refine W.block ?_
 refine W.loop [0,1,6,7,8] (fun n vs S => ∃ i : Nat,n = l.length - i ∧ i ≤ l.length ∧ ((l.take i).any test = false) ∧ vs = [eGrid l,.fn g cap,eGrid l,.int .i64 l.length,.int .i64 i] ∧ S = ⟨[],0⟩) (l.length) ?_ ?_
 ·refine ⟨0,0,rfl,Nat.zero_le _,rfl,?_,rfl⟩
  simp [Env.put,Env.of,argEnv]
 rintro n vs S - ⟨i,rfl,h_i,hall,rfl,rfl⟩
 refine W.r fun K hK => ?_
 simp (disch := omega) only [↓RU,RV,RH,↓reduceIte,reduceEqDiff,reduceCtorEq,if_pos,w64,tyint]
 refine hK _ _ ?_;clear hK K
 refine W.seq ?_
 refine W.cond rfl (fun h => ?_) (fun h => ?_)
 ·try simp only [RL] at h
  obtain ⟨x,hx,hxm⟩ := get_of (show i < l.length by omega)
  refine W.skip ?_
  refine xn ?_
  refine W.seq ?_
  refine W.block ?_
  refine W.r fun K hK => ?_
  simp (disch := omega) only [↓RU,RV,RH,↓reduceIte,reduceEqDiff,reduceCtorEq,if_pos]
  refine hK _ _ ?_;clear hK K
  refine W.r fun K hK => ?_
  simp (disch := omega) only [↓RU,RV,RH,↓reduceIte,reduceEqDiff,reduceCtorEq,if_pos,List.append_nil,ty1,tyLint,ty11,tyint,hx]
  refine CallR.pc (hg x hxm) (mapM_one rfl hc) (.inl rfl) ?_
  simp (disch := omega) only [↓RU,RV,RH,↓reduceIte,reduceEqDiff,reduceCtorEq,if_pos,List.append_nil,ty1,tyLint,ty11,tyint,hx]
  refine hK _ _ ?_;clear hK K
  refine W.cond rfl (fun h1 => ?_) (fun h1 => ?_)
  ·try simp only [RL] at h1
   refine W.r fun K hK => ?_
   simp (disch := omega) only [↓RU,RV,RH,↓reduceIte,reduceEqDiff,reduceCtorEq,if_pos]
   refine hK _ _ ?_;clear hK K
   refine W.ret ?_
   refine XBlock.ret ?_
   refine XThen.ret ?_
   refine XThen.ret ?_
   refine XBlock.ret ?_
   refine XThen.ret ?_
   refine Br rfl ?_
   rw [ixf_at hx hall h1]
   rfl
  ·try simp only [RL] at h1
   refine W.skip ?_
   refine XbN ?_
   refine xn ?_
   refine W.k fun K hK => ?_
   simp (disch := omega) only [↓RU,RV,RH,↓reduceIte,reduceEqDiff,reduceCtorEq,if_pos,w64,tyint]
   refine hK _ _ ?_;clear hK K
   refine xn ?_
   refine ⟨l.length - (i + 1),by omega,0,i + 1,rfl,by omega,any_tk hx (by assumption) h1,?_,rfl⟩
   simp [Env.put,Env.of]
 ·try simp only [RL] at h
  refine W.exit ?_
  refine xe ?_
  refine xe ?_
  refine XBlock.hit ?_
  refine xn ?_
  refine W.r fun K hK => ?_
  simp (disch := omega) only [↓RU,RV,RH,↓reduceIte,reduceEqDiff,reduceCtorEq,if_pos]
  refine hK _ _ ?_;clear hK K
  refine W.ret ?_
  refine Br rfl ?_
  have hip : l.take i = l := List.take_of_length_le (by omega)
  rw [hip] at hall
  rw [ixf_none hall]
  rfl
theorem containsInt_pc {l : List Int} (hl : l.length < 2147483648) {g : FuncId} {cap : List PV} (hc9 : cap.mapM (reify ⟨[],0⟩ true 9) = some cap) (hc : cap.mapM (reify ⟨[],0⟩ true 10) = some cap) {test : Int → Bool} (hg : ∀ x ∈ l,PC Tryz.prog g (.int .i64 x :: cap) (.bool (test x)) true) : PC Tryz.prog 71 [eInts l,.fn g cap] (.bool (l.any test)) true := by
 have hcr : [eInts l,.fn g cap].mapM (reify ⟨[],0⟩ true 10) = some [eInts l,.fn g cap] := mapM_one rfl (mapM_one (by rw [reify_fn,hc9]; rfl) rfl)
 refine PC.of ⟨Tryz.func71,by kernel_rfl,rfl,by kernel_rfl⟩ tabOk mixed (by show 2 ≤ Tryz.f71.ntmps; decide) ?_
 refine W.r fun K hK => ?_
 simp (disch := omega) only [↓RU,RV,RH,↓reduceIte,reduceEqDiff,reduceCtorEq,if_pos]
 refine hK _ _ ?_;clear hK K
 refine W.r fun K hK => ?_
 simp (disch := omega) only [↓RU,RV,RH,↓reduceIte,reduceEqDiff,reduceCtorEq,if_pos,List.append_nil,w64,tyint]
 refine CallR.pc (indexInt_pc hl hc hg) hcr (.inl rfl) ?_
 simp (disch := omega) only [↓RU,RV,RH,↓reduceIte,reduceEqDiff,reduceCtorEq,if_pos,List.append_nil,w64,tyint]
 refine hK _ _ ?_;clear hK K
 refine W.ret ?_
 refine Br rfl ?_
 rw [← ixf_any]
 rfl
theorem containsRow_pc {l : List (List Int)} (hl : l.length < 2147483648) {g : FuncId} {cap : List PV} (hc9 : cap.mapM (reify ⟨[],0⟩ true 9) = some cap) (hc : cap.mapM (reify ⟨[],0⟩ true 10) = some cap) {test : (List Int) → Bool} (hg : ∀ x ∈ l,PC Tryz.prog g (eInts x :: cap) (.bool (test x)) true) : PC Tryz.prog 150 [eGrid l,.fn g cap] (.bool (l.any test)) true := by
 have hcr : [eGrid l,.fn g cap].mapM (reify ⟨[],0⟩ true 10) = some [eGrid l,.fn g cap] := mapM_one rfl (mapM_one (by rw [reify_fn,hc9]; rfl) rfl)
 refine PC.of ⟨Tryz.func150,by kernel_rfl,rfl,by kernel_rfl⟩ tabOk mixed (by show 2 ≤ Tryz.f150.ntmps; decide) ?_
 refine W.r fun K hK => ?_
 simp (disch := omega) only [↓RU,RV,RH,↓reduceIte,reduceEqDiff,reduceCtorEq,if_pos]
 refine hK _ _ ?_;clear hK K
 refine W.r fun K hK => ?_
 simp (disch := omega) only [↓RU,RV,RH,↓reduceIte,reduceEqDiff,reduceCtorEq,if_pos,List.append_nil,w64,tyint]
 refine CallR.pc (indexRow_pc hl hc hg) hcr (.inl rfl) ?_
 simp (disch := omega) only [↓RU,RV,RH,↓reduceIte,reduceEqDiff,reduceCtorEq,if_pos,List.append_nil,w64,tyint]
 refine hK _ _ ?_;clear hK K
 refine W.ret ?_
 refine Br rfl ?_
 rw [← ixf_any]
 rfl
theorem equalStrs_pc {p q : List Txt} (hp : p.length < 2147483648) (hq : q.length < 2147483648) : PC Tryz.prog 129 [eStrs p,eStrs q] (.bool (decide (p = q))) true := by
 refine PC.of ⟨Tryz.func129,by kernel_rfl,rfl,by kernel_rfl⟩ tabOk mixed (by show 2 ≤ Tryz.f129.ntmps; decide) ?_
 refine W.r fun K hK => ?_
 simp (disch := omega) only [↓RU,RV,RH,↓reduceIte,reduceEqDiff,reduceCtorEq,if_pos]
 refine hK _ _ ?_;clear hK K
 refine W.seq ?_
 refine W.r fun K hK => ?_
 simp (disch := omega) only [↓RU,RV,RH,↓reduceIte,reduceEqDiff,reduceCtorEq,if_pos,w64,ty5,tyint,tystring]
 refine hK _ _ ?_;clear hK K
 refine W.cond rfl (fun h => ?_) (fun h => ?_)
 ·try simp only [RL] at h
  refine W.r fun K hK => ?_
  simp (disch := omega) only [↓RU,RV,RH,↓reduceIte,reduceEqDiff,reduceCtorEq,if_pos]
  refine hK _ _ ?_;clear hK K
  refine W.ret ?_
  refine XThen.ret ?_
  refine Br rfl ?_
  rw [show decide (p = q) = false by simp; rintro rfl; exact h rfl]
  rfl
 ·try simp only [RL] at h
  refine W.skip ?_
  refine xn ?_
  refine W.seq ?_
  refine W.r fun K hK => ?_
  simp (disch := omega) only [↓RU,RV,RH,↓reduceIte,reduceEqDiff,reduceCtorEq,if_pos,ty5,tystring]
  refine hK _ _ ?_;clear hK K
  refine W.block ?_
  refine W.loop [0,1,11,12,13] (fun n vs S => ∃ i : Nat,n = p.length - i ∧ i ≤ p.length ∧ (p.take i = q.take i) ∧ vs = [eStrs p,eStrs q,eStrs p,.int .i64 p.length,.int .i64 i] ∧ S = ⟨[],0⟩) (p.length) ?_ ?_
  ·refine ⟨0,0,rfl,Nat.zero_le _,rfl,?_,rfl⟩
   simp [Env.put,Env.of,argEnv]
  rintro n vs S - ⟨i,rfl,h_i,htk,rfl,rfl⟩
  refine W.r fun K hK => ?_
  simp (disch := omega) only [↓RU,RV,RH,↓reduceIte,reduceEqDiff,reduceCtorEq,if_pos,w64,tyint]
  refine hK _ _ ?_;clear hK K
  refine W.seq ?_
  refine W.cond rfl (fun h1 => ?_) (fun h1 => ?_)
  ·try simp only [RL] at h1
   obtain ⟨x,hx,-⟩ := get_of (show i < p.length by omega)
   obtain ⟨y,hy,-⟩ := get_of (show i < q.length by omega)
   refine W.skip ?_
   refine xn ?_
   refine W.seq ?_
   refine W.block ?_
   refine W.r fun K hK => ?_
   simp (disch := omega) only [↓RU,RV,RH,↓reduceIte,reduceEqDiff,reduceCtorEq,if_pos]
   refine hK _ _ ?_;clear hK K
   refine W.seq_draw (by kernel_rfl) fun K hK => ?_
   simp (disch := omega) only [↓RU,RV,RH,↓reduceIte,reduceEqDiff,reduceCtorEq,if_pos,w64,ty5,tystring,hx,hy]
   refine hK _ _ ?_;clear hK K
   refine W.cond rfl (fun h2 => ?_) (fun h2 => ?_)
   ·try simp only [RL] at h2
    refine W.r fun K hK => ?_
    simp (disch := omega) only [↓RU,RV,RH,↓reduceIte,reduceEqDiff,reduceCtorEq,if_pos]
    refine hK _ _ ?_;clear hK K
    refine W.ret ?_
    refine XBlock.ret ?_
    refine XThen.ret ?_
    refine XThen.ret ?_
    refine XBlock.ret ?_
    refine XThen.ret ?_
    refine Br rfl ?_
    rw [show decide (p = q) = false by simp; rintro rfl; rw [hx] at hy; simp_all]
    rfl
   ·try simp only [RL] at h2
    refine W.skip ?_
    refine XbN ?_
    refine xn ?_
    refine W.k fun K hK => ?_
    simp (disch := omega) only [↓RU,RV,RH,↓reduceIte,reduceEqDiff,reduceCtorEq,if_pos,w64,tyint]
    refine hK _ _ ?_;clear hK K
    refine xn ?_
    refine ⟨p.length - (i + 1),by omega,0,i + 1,rfl,by omega,take_eq_succ htk hx hy h2,?_,rfl⟩
    simp [Env.put,Env.of]
  ·try simp only [RL] at h1
   refine W.exit ?_
   refine xe ?_
   refine xe ?_
   refine XBlock.hit ?_
   refine xn ?_
   refine W.r fun K hK => ?_
   simp (disch := omega) only [↓RU,RV,RH,↓reduceIte,reduceEqDiff,reduceCtorEq,if_pos]
   refine hK _ _ ?_;clear hK K
   refine W.ret ?_
   refine Br rfl ?_
   have h1 : p.take i = p := List.take_of_length_le (by omega)
   have h2 : q.take i = q := List.take_of_length_le (by omega)
   rw [show decide (p = q) = true by simp; rw [← h1,← h2]; exact htk]
   rfl
def GW (g : List (List Int)) (H W : Nat) : Prop := g.length = H ∧ (∀ r ∈ g,r.length = W) ∧ 1 ≤ H ∧ H ≤ 6 ∧ 1 ≤ W ∧ W ≤ 6
def gz (g : List (List Int)) (i j : Nat) : Int := (g[i]?.getD [])[j]?.getD 0
theorem GW.at_ {g : List (List Int)} {H W : Nat} (h : GW g H W) {i j : Nat} (hi : i < H) (hj : j < W) : ∃ row,g[i]? = some row ∧ row.length = W ∧ row[j]? = some (gz g i j) := by
 obtain ⟨row,hr,hm⟩ := get_of (show i < g.length by rw [h.1]; exact hi)
 have hl := h.2.1 row hm
 obtain ⟨x,hx,-⟩ := get_of (show j < row.length by omega)
 exact ⟨row,hr,hl,by simp [gz,hr,hx]⟩
def sidesG (g : List (List Int)) (level : Bool) (line at_ : Nat) : Int × Int := if level then (gz g (line - 1) at_,gz g line at_) else (gz g at_ (line - 1),gz g at_ line)
def InL (H W : Nat) (level : Bool) (line at_ : Nat) : Prop := 1 ≤ line ∧ if level then line < H ∧ at_ < W else line < W ∧ at_ < H
structure Wall where
 level : Bool
 line : Int
 fr : Int
 long : Int
def Wall.cells (w : Wall) : List PV := [.bool w.level,.int .i64 w.line,.int .i64 w.fr,.int .i64 w.long]
abbrev eWall (w : Wall) : PV := .agg w.cells
def wcs (ws : List Wall) : List PV := ws.flatMap Wall.cells
abbrev eWalls (ws : List Wall) : PV := .sl (wcs ws) ws.length
theorem wcs_cons (r : Wall) (rs : List Wall) : wcs (r :: rs) = r.cells ++ wcs rs := rfl
theorem wcs_app (rs ss : List Wall) : wcs (rs ++ ss) = wcs rs ++ wcs ss := by simp [wcs]
theorem wcs_len (rs : List Wall) : (wcs rs).length = rs.length * 4 := by
 induction rs with
 | nil => rfl
 | cons r rs ih => rw [wcs_cons,List.length_append,ih,List.length_cons]; simp [Wall.cells]; omega
theorem wcs_at {ws : List Wall} {n : Nat} {w : Wall} (h : ws[n]? = some w) : ((wcs ws).drop (n * 4)).take 4 = w.cells := by
 induction ws generalizing n with
 | nil => simp at h
 | cons a ws ih =>
  cases n with
  | zero => simp at h; subst h; rw [wcs_cons]; simp [Wall.cells]
  | succ n =>
   simp at h
   rw [wcs_cons,show (n + 1) * 4 = a.cells.length + n * 4 by simp [Wall.cells]; omega,List.drop_length_add_append]
   exact ih h
def wlStep (d : Bool) (level : Bool) (line at_ : Nat) (s : List Wall × Bool) : List Wall × Bool :=
 if d && s.2 then (s.1.dropLast ++ (s.1.getLast?.map fun w => { w with long := w.long + 1 }).toList,d)
 else if d then (s.1 ++ [⟨level,line,at_,1⟩],d) else (s.1,d)
def difG (g : List (List Int)) (level : Bool) (line at_ : Nat) : Bool := decide ((sidesG g level line at_).1 ≠ (sidesG g level line at_).2)
def wlLine (g : List (List Int)) (level : Bool) (line : Nat) (ws : List Wall) (n : Nat) : List Wall × Bool :=
 (List.range n).foldl (fun s at_ => wlStep (difG g level line at_) level line at_ s) (ws,false)
def wlLevel (g : List (List Int)) (level : Bool) (places : Nat) (ws : List Wall) (line : Nat) : List Wall :=
 (List.range line).foldl (fun ws l => if 1 ≤ l then (wlLine g level l ws places).1 else ws) ws
def wallsG (g : List (List Int)) (H W : Nat) : List Wall := wlLevel g true W (wlLevel g false H [] W) H
theorem wlLine_succ {g : List (List Int)} {level : Bool} {line : Nat} {ws : List Wall} {n : Nat} : wlLine g level line ws (n + 1) = wlStep (difG g level line n) level line n (wlLine g level line ws n) := by
 unfold wlLine; rw [foldl_rg]
theorem wlLevel_succ {g : List (List Int)} {level : Bool} {places : Nat} {ws : List Wall} {line : Nat} (h : 1 ≤ line) : wlLevel g level places ws (line + 1) = (wlLine g level line (wlLevel g level places ws line) places).1 := by
 unfold wlLevel; rw [foldl_rg,if_pos h]
theorem wlStep_open {d level : Bool} {line at_ : Nat} {s : List Wall × Bool} (h : s.2 = true → s.1 ≠ []) : (wlStep d level line at_ s).2 = d ∧ (d = true → (wlStep d level line at_ s).1 ≠ []) ∧ (wlStep d level line at_ s).1.length ≤ s.1.length + 1 ∧ s.1.length ≤ (wlStep d level line at_ s).1.length := by
 unfold wlStep
 cases d with
 | false => simp
 | true =>
  cases ho : s.2 with
  | false => simp
  | true =>
   have := h ho
   cases hl : s.1.getLast? with
   | none => rw [List.getLast?_eq_none_iff] at hl; exact absurd hl this
   | some w =>
    have : 0 < s.1.length := List.length_pos_iff.2 this
    simp; omega
theorem wlLine_open (g : List (List Int)) (level : Bool) (line : Nat) (ws : List Wall) : ∀ n,((wlLine g level line ws n).2 = true → (wlLine g level line ws n).1 ≠ []) ∧ (wlLine g level line ws n).1.length ≤ ws.length + n ∧ ws.length ≤ (wlLine g level line ws n).1.length
 | 0 => by simp [wlLine]
 | n + 1 => by
  have ih := wlLine_open g level line ws n
  have := wlStep_open (d := difG g level line n) (level := level) (line := line) (at_ := n) ih.1
  rw [wlLine_succ]
  refine ⟨fun h => this.2.1 (this.1 ▸ h),by omega,by omega⟩
theorem wlLevel_len (g : List (List Int)) (level : Bool) {places : Nat} (hp : places ≤ 6) (ws : List Wall) : ∀ line,(wlLevel g level places ws line).length ≤ ws.length + 6 * line
 | 0 => by simp [wlLevel]
 | line + 1 => by
  have ih := wlLevel_len g level hp ws line
  by_cases h : 1 ≤ line
  ·rw [wlLevel_succ h]
   have := (wlLine_open g level line (wlLevel g level places ws line) places).2.1
   omega
  ·have : line = 0 := by omega
   subst this
   simp [wlLevel] at ih ⊢
theorem wlLine_long (g : List (List Int)) (level : Bool) (line : Nat) {ws : List Wall} {M : Int} (hM : 1 ≤ M) (hws : ∀ w ∈ ws,0 ≤ w.long ∧ w.long ≤ M) : ∀ n : Nat,∀ w ∈ (wlLine g level line ws n).1,0 ≤ w.long ∧ w.long ≤ M + n
 | 0,w,h => by simp [wlLine] at h; have := hws w h; omega
 | n + 1,w,h => by
  have ih := wlLine_long g level line hM hws n
  rw [wlLine_succ] at h
  unfold wlStep at h
  split at h
  ·simp only [List.mem_append,Option.mem_toList,Option.mem_def,Option.map_eq_some_iff] at h
   rcases h with h | ⟨u,hu,rfl⟩
   ·have := ih w ((List.dropLast_sublist _).subset h); omega
   ·have := ih u (List.mem_of_getLast? hu); simp only; omega
  ·split at h
   ·simp only [List.mem_append,List.mem_singleton] at h
    rcases h with h | rfl
    ·have := ih w h; omega
    ·simp only; omega
   ·have := ih w h; omega
theorem wlLevel_long (g : List (List Int)) (level : Bool) {places : Nat} (hp : places ≤ 6) {ws : List Wall} {M : Int} (hM : 1 ≤ M) (hws : ∀ w ∈ ws,0 ≤ w.long ∧ w.long ≤ M) : ∀ line : Nat,∀ w ∈ wlLevel g level places ws line,0 ≤ w.long ∧ w.long ≤ M + 6 * line
 | 0,w,h => by simp [wlLevel] at h; have := hws w h; omega
 | line + 1,w,h => by
  have ih := wlLevel_long g level hp hM hws line
  by_cases hl : 1 ≤ line
  ·rw [wlLevel_succ hl] at h
   have := wlLine_long g level line (M := M + 6 * line) (by omega) ih places w h
   omega
  ·have : line = 0 := by omega
   subst this
   simp [wlLevel] at h
   have := hws w h; omega
theorem scal_wcs (ws : List Wall) : (wcs ws).all scal = true := by
 induction ws with
 | nil => rfl
 | cons r rs ih => rw [wcs_cons,List.all_append,ih]; rfl
def slW (ws : List Wall) (v : Nat) : PV := match ws with | [] => .nils | _ => .loc 0 v 0 ws.length
def stW (ws : List Wall) (v t : Nat) : Store := match ws with | [] => ⟨[],t⟩ | _ => ⟨[.arr v 116 4 (wcs ws)],t⟩
theorem slW_nil {v : Nat} : slW [] v = .nils := rfl
theorem stW_nil {v t : Nat} : stW [] v t = ⟨[],t⟩ := rfl
theorem slW_ne {ws : List Wall} {v : Nat} (h : ws ≠ []) : slW ws v = .loc 0 v 0 ws.length := by cases ws with | nil => exact absurd rfl h | cons a l => rfl
theorem stW_ne {ws : List Wall} {v t : Nat} (h : ws ≠ []) : stW ws v t = ⟨[.arr v 116 4 (wcs ws)],t⟩ := by cases ws with | nil => exact absurd rfl h | cons a l => rfl
theorem rn_wcs {S : Store} {k f : Nat} {sel : List Nat} (ws : List Wall) : (wcs ws).mapM (rn S k sel (f + 1)) = some (wcs ws) := rn_scal (scal_wcs ws)
theorem reify_wcs {S : Store} {im : Bool} {f : Nat} (ws : List Wall) : (wcs ws).mapM (reify S im (f + 1)) = some (wcs ws) := reify_scal (scal_wcs ws)
theorem wl_cases {d op : Bool} {ws : List Wall} (h : op = true → ws ≠ []) : d = false ∨ (d = true ∧ op = false ∧ ws = []) ∨ (d = true ∧ op = false ∧ ws ≠ []) ∨ (d = true ∧ op = true ∧ ws ≠ []) := by
 cases d <;> cases op <;> simp_all
 by_cases hw : ws = [] <;> simp [hw]
theorem last_of {α : Type} {l : List α} (h : l ≠ []) : ∃ l0 a,l = l0 ++ [a] := ⟨l.dropLast,l.getLast h,(List.dropLast_concat_getLast h).symm⟩
theorem wcs_long {ws : List Wall} {w : Wall} : (wcs (ws ++ [w]))[ws.length * 4 + 3]? = some (.int .i64 w.long) := by
 rw [wcs_app,List.getElem?_append_right (by rw [wcs_len]; omega),wcs_len]
 simp [wcs,Wall.cells]
theorem wcs_set {ws : List Wall} {w : Wall} {x : Int} : (wcs (ws ++ [w])).take (ws.length * 4 + 3) ++ [.int .i64 x] ++ (wcs (ws ++ [w])).drop (ws.length * 4 + 4) = wcs (ws ++ [{ w with long := x }]) := by
 rw [wcs_app,wcs_app,← wcs_len,List.take_length_add_append,List.drop_length_add_append]
 simp [wcs,Wall.cells]
def wsI (g : List (List Int)) (nh nw : Nat) (i : Nat) : List Wall := if i = 0 then [] else if i = 1 then wlLevel g false nh [] nw else wallsG g nh nw
theorem wlLevel_one {g : List (List Int)} {level : Bool} {places : Nat} {ws : List Wall} : wlLevel g level places ws 1 = ws := by simp [wlLevel]
theorem wlLine_zero {g : List (List Int)} {level : Bool} {line : Nat} {ws : List Wall} : wlLine g level line ws 0 = (ws,false) := rfl
theorem wsI_succ {g : List (List Int)} {nh nw i : Nat} (h : i < 2) : wsI g nh nw (i + 1) = wlLevel g (decide (i = 1)) (if i = 1 then nw else nh) (wsI g nh nw i) (if i = 1 then nh else nw) := by
 rcases (show i = 0 ∨ i = 1 by omega) with rfl | rfl <;> simp [wsI,wallsG]
theorem wsI_len {g : List (List Int)} {nh nw i : Nat} (hh : nh ≤ 6) (hw : nw ≤ 6) : (wsI g nh nw i).length ≤ 72 := by
 have h1 := wlLevel_len g false (places := nh) hh [] nw
 have h2 := wlLevel_len g true (places := nw) hw (wlLevel g false nh [] nw) nh
 unfold wsI
 split
 ·simp
 ·split
  ·simp at h1; omega
  ·simp at h1; simp only [wallsG]; omega
theorem wsI_long {g : List (List Int)} {nh nw i : Nat} (hh : nh ≤ 6) (hw : nw ≤ 6) : ∀ w ∈ wsI g nh nw i,0 ≤ w.long ∧ w.long ≤ 100 := by
 have h1 := wlLevel_long g false (places := nh) hh (ws := []) (M := 1) (by omega) (by simp) nw
 have h2 := wlLevel_long g true (places := nw) hw (M := 1 + 6 * nw) (by omega) h1 nh
 unfold wsI
 split
 ·simp
 ·split
  ·intro w hw; have := h1 w hw; omega
  ·intro w hw; have := h2 w hw; omega
theorem rn_slW {ws : List Wall} {v t f : Nat} : rn (stW ws v t) (stW ws v t).obs.length [] (f + 1) (slW ws v) = some (slW ws v) := by
 cases ws <;> rfl
theorem rn_stW {ws : List Wall} {v t : Nat} : (stW ws v t).rn (stW ws v t).obs.length [] = some (stW ws v (t + 1)) := by
 cases ws with
 | nil => rfl
 | cons w ws =>
  rw [stW_ne (by simp),stW_ne (by simp)]
  simp [Srn_eq,rnObs_cons,rnObs_nil,rnOb_arr,rn_wcs,List.range_succ]
theorem take_all {S : Store} : S.take S.obs.length = S := by simp [Store.take]
theorem wcs_tk {ws : List Wall} : (wcs ws).take (ws.length * 4) = wcs ws := by rw [← wcs_len,List.take_length]
theorem wcs_snoc {ws : List Wall} {w : Wall} : wcs (ws ++ [w]) = wcs ws ++ w.cells := by rw [wcs_app]; simp [wcs]
theorem reify_slW {ws : List Wall} {v t : Nat} {im : Bool} {k : Nat} : reify (stW ws v t) im (k + 2) (slW ws v) = some (eWalls ws) := by
 cases ws with
 | nil => rfl
 | cons w ws =>
  rw [slW_ne (by simp),stW_ne (by simp)]
  exact reify_loc rfl (wcs_len _) (reify_wcs _)
theorem toNat_last {n : Nat} : (((n + 1 : Nat) : Int) - 1).toNat = n := by omega
theorem sides_pc {g : List (List Int)} {nh nw : Nat} (hg : GW g nh nw) (rs : List Rect) {level : Bool} {line at_ : Nat} (hi : InL nh nw level line at_) : PC Tryz.prog 119 [eFloor g rs,.bool level,.int .i64 line,.int .i64 at_] (.tup [.int .i64 (sidesG g level line at_).1,.int .i64 (sidesG g level line at_).2]) true := by
 have hl := hg.1
 obtain ⟨hi1,hi2⟩ := hi
 have hb : line ≤ 6 ∧ at_ ≤ 6 := by have := hg.2.2; cases level <;> simp at hi2 <;> omega
 refine PC.of ⟨Tryz.func119,by kernel_rfl,rfl,by kernel_rfl⟩ tabOk mixed (by show 4 ≤ Tryz.f119.ntmps; decide) ?_
 refine W.r fun K hK => ?_
 simp (disch := omega) only [↓RU,RV,RH,↓reduceIte,reduceEqDiff,reduceCtorEq,if_pos,↓RS,RG,reduceAdd,reduceMul,reduceLeDiff]
 refine hK _ _ ?_;clear hK K
 refine W.seq ?_
 refine W.r fun K hK => ?_
 simp (disch := omega) only [↓RU,RV,RH,↓reduceIte,reduceEqDiff,reduceCtorEq,if_pos,↓RS,RG,reduceAdd,reduceMul,reduceLeDiff]
 refine hK _ _ ?_;clear hK K
 refine W.cond rfl (fun h0 => ?_) (fun h0 => ?_)
 ·try simp only [RL] at h0
  subst h0
  simp only [if_true] at hi2
  obtain ⟨r1,hr1,hl1,hx1⟩ := hg.at_ (i := line - 1) (j := at_) (by omega) hi2.2
  obtain ⟨r2,hr2,hl2,hx2⟩ := hg.at_ (i := line) (j := at_) hi2.1 hi2.2
  refine W.seq_draw (by kernel_rfl) fun K hK => ?_
  simp (disch := omega) only [↓RU,RV,RH,↓reduceIte,reduceEqDiff,reduceCtorEq,if_pos,w64,↓RS,RG,reduceAdd,reduceMul,reduceLeDiff,ty1,ty3,tyLint,ty10,ty11,ty15,tyint,ty24,ty28,hr1,hx1,hr2,hx2,toNat_pred]
  refine hK _ _ ?_;clear hK K
  refine W.ret ?_
  refine XThen.ret ?_
  refine Br rfl ?_
  rfl
 ·try simp only [RL] at h0
  subst h0
  simp only [Bool.false_eq_true,if_false] at hi2
  obtain ⟨r1,hr1,hl1,hx1⟩ := hg.at_ (i := at_) (j := line - 1) hi2.2 (by omega)
  obtain ⟨r2,hr2,hl2,hx2⟩ := hg.at_ (i := at_) (j := line) hi2.2 hi2.1
  obtain rfl : r1 = r2 := by rw [hr1] at hr2; exact Option.some.inj hr2
  refine W.skip ?_
  refine xn ?_
  refine W.seq_draw (by kernel_rfl) fun K hK => ?_
  simp (disch := omega) only [↓RU,RV,RH,↓reduceIte,reduceEqDiff,reduceCtorEq,if_pos,w64,↓RS,RG,reduceAdd,reduceMul,reduceLeDiff,ty1,ty3,tyLint,ty10,ty11,ty15,tyint,ty24,ty28,hr1,hx1,hr2,hx2,toNat_pred]
  refine hK _ _ ?_;clear hK K
  refine W.ret ?_
  refine Br rfl ?_
  rfl
theorem differ_pc {g : List (List Int)} {nh nw : Nat} (hg : GW g nh nw) (rs : List Rect) {level : Bool} {line at_ : Nat} (hi : InL nh nw level line at_) : PC Tryz.prog 118 [eFloor g rs,.bool level,.int .i64 line,.int .i64 at_] (.bool (difG g level line at_)) true := by
 refine PC.of ⟨Tryz.func118,by kernel_rfl,rfl,by kernel_rfl⟩ tabOk mixed (by show 4 ≤ Tryz.f118.ntmps; decide) ?_
 refine W.r fun K hK => ?_
 simp (disch := omega) only [↓RU,RV,RH,↓reduceIte,reduceEqDiff,reduceCtorEq,if_pos]
 refine hK _ _ ?_;clear hK K
 refine W.r fun K hK => ?_
 simp (disch := omega) only [↓RU,RV,RH,↓reduceIte,reduceEqDiff,reduceCtorEq,if_pos,List.append_nil]
 refine CallR.pc (sides_pc hg rs hi) rfl (.inl rfl) ?_
 simp (disch := omega) only [↓RU,RV,RH,↓reduceIte,reduceEqDiff,reduceCtorEq,if_pos,List.append_nil]
 refine hK _ _ ?_;clear hK K
 refine W.r fun K hK => ?_
 simp (disch := omega) only [↓RU,RV,RH,↓reduceIte,reduceEqDiff,reduceCtorEq,if_pos,w64,tyint]
 refine hK _ _ ?_;clear hK K
 refine W.ret ?_
 refine Br rfl ?_
 rw [show difG g level line at_ = ((sidesG g level line at_).1 != (sidesG g level line at_).2) by rw [bne_int,difG]; simp]
 rfl
theorem walls_pc {g : List (List Int)} {nh nw : Nat} (hg : GW g nh nw) (rs : List Rect) : PC Tryz.prog 84 [eFloor g rs] (eWalls (wallsG g nh nw)) true := by
 have hl := hg.1
 obtain ⟨hg1,hg2,hg3,hg4⟩ := hg.2.2
 obtain ⟨row0,hrow0,hrl0,-⟩ := hg.at_ (i := 0) (j := 0) (by omega) (by omega)
 refine PC.of ⟨Tryz.func84,by kernel_rfl,rfl,by kernel_rfl⟩ tabOk mixed (by show 1 ≤ Tryz.f84.ntmps; decide) ?_
 refine W.r fun K hK => ?_
 simp (disch := omega) only [↓RU,RV,RH,↓reduceIte,reduceEqDiff,reduceCtorEq,if_pos,↓RS,RG,reduceAdd,reduceMul,reduceLeDiff]
 refine hK _ _ ?_;clear hK K
 refine W.r fun K hK => ?_
 simp (disch := omega) only [↓RU,RV,RH,↓reduceIte,reduceEqDiff,reduceCtorEq,if_pos,↓RS,RG,reduceAdd,reduceMul,reduceLeDiff]
 refine hK _ _ ?_;clear hK K
 refine W.seq ?_
 refine W.r fun K hK => ?_
 simp (disch := omega) only [↓RU,RV,RH,↓reduceIte,reduceEqDiff,reduceCtorEq,if_pos,↓RS,RG,reduceAdd,reduceMul,reduceLeDiff,ty2,tybool]
 refine hK _ _ ?_;clear hK K
 refine W.block ?_
 refine W.loopS [0,12,13,14,3] (fun n vs S => ∃ i v t : Nat,n = 2 - i ∧ (i ≤ 2) ∧ vs = [eFloor g rs,.sl [.bool false,.bool true] 2,.int .i64 2,.int .i64 i,slW (wsI g nh nw i) v] ∧ S = stW (wsI g nh nw i) v t) 2 ?_ ?_
 ·refine ⟨0,[],[eFloor g rs,.sl [.bool false,.bool true] 2,.int .i64 2,.int .i64 (0 : Nat),.nils],⟨[],2⟩,?_,?_,0,0,2,rfl,by omega,rfl,rfl⟩
  ·simp [-List.mapM_map,Env.put,Env.of,argEnv,Srn_eq,rnObs_cons,rnObs_nil,rnOb_arr,rnOb_map,rn_loc,rn_ref,rn_mp,rn_int,rn_bool,rn_str,rn_ip,rn_sl,rn_nils,rn_nilp,rn_undef,rn_agg,rn_tup,rn_fn,rfq_loc,rfq_int,rfq_bool,rfq_str,rfq_sl,frOf,List.range_succ,List.mapM_append,List.mapM_cons]
  ·simp [-List.mapM_map,Env.put,Env.of,argEnv,Srn_eq,rnObs_cons,rnObs_nil,rnOb_arr,rnOb_map,rn_loc,rn_ref,rn_mp,rn_int,rn_bool,rn_str,rn_ip,rn_sl,rn_nils,rn_nilp,rn_undef,rn_agg,rn_tup,rn_fn,rfq_loc,rfq_int,rfq_bool,rfq_str,rfq_sl,frOf,List.range_succ,List.mapM_append,List.mapM_cons]
 rintro n vs S - ⟨i,v,t,rfl,h_i,rfl,rfl⟩
 refine W.r fun K hK => ?_
 simp (disch := omega) only [↓RU,RV,RH,↓reduceIte,reduceEqDiff,reduceCtorEq,if_pos,w64,↓RS,RG,reduceAdd,reduceMul,reduceLeDiff,tyint]
 refine hK _ _ ?_;clear hK K
 refine W.seq ?_
 refine W.cond rfl (fun h => ?_) (fun h => ?_)
 ·try simp only [RL] at h
  have hi2 : i < 2 := by omega
  obtain ⟨ls,hls⟩ : ∃ ls : Nat,(if i = 1 then nh else nw) = ls := ⟨_,rfl⟩
  obtain ⟨ps,hps⟩ : ∃ ps : Nat,(if i = 1 then nw else nh) = ps := ⟨_,rfl⟩
  have hlp : 1 ≤ ls ∧ ls ≤ 6 ∧ 1 ≤ ps ∧ ps ≤ 6 := by subst hls hps; split <;> omega
  have hwl := wsI_len (g := g) (nh := nh) (nw := nw) (i := i) hg2 hg4
  have hlong := wsI_long (g := g) (nh := nh) (nw := nw) (i := i) hg2 hg4
  have hlev : [PV.bool false,PV.bool true][i]? = some (.bool (decide (i = 1))) := by rcases (show i = 0 ∨ i = 1 by omega) with rfl | rfl <;> rfl
  refine W.skip ?_
  refine xn ?_
  refine W.seq ?_
  refine W.block ?_
  refine W.r fun K hK => ?_
  simp (disch := omega) only [↓RU,RV,RH,↓reduceIte,reduceEqDiff,reduceCtorEq,if_pos,↓RS,RG,reduceAdd,reduceMul,reduceLeDiff,ty2,tybool,hlev]
  refine hK _ _ ?_;clear hK K
  refine W.r fun K hK => ?_
  simp (disch := omega) only [↓RU,RV,RH,↓reduceIte,reduceEqDiff,reduceCtorEq,if_pos,List.append_nil,↓RS,RG,reduceAdd,reduceMul,reduceLeDiff,hl,hrl0]
  refine CallR.pc (wide_pc hrow0 rs) rfl (.inl rfl) ?_
  simp (disch := omega) only [↓RU,RV,RH,↓reduceIte,reduceEqDiff,reduceCtorEq,if_pos,List.append_nil,↓RS,RG,reduceAdd,reduceMul,reduceLeDiff,hl,hrl0]
  refine CallR.pc (high_pc g rs) rfl (.inl rfl) ?_
  simp (disch := omega) only [↓RU,RV,RH,↓reduceIte,reduceEqDiff,reduceCtorEq,if_pos,List.append_nil,↓RS,RG,reduceAdd,reduceMul,reduceLeDiff,hl,hrl0]
  refine hK _ _ ?_;clear hK K
  refine W.join [0,12,13,14,3,5,6,7] (fun vs S => vs = [eFloor g rs,.sl [.bool false,.bool true] 2,.int .i64 2,.int .i64 i,slW (wsI g nh nw i) v,.bool (decide (i = 1)),.int .i64 ls,.int .i64 ps] ∧ S = stW (wsI g nh nw i) v t) ?_ ?_
  ·
   refine W.r fun K hK => ?_
   simp (disch := omega) only [↓RU,RV,RH,↓reduceIte,reduceEqDiff,reduceCtorEq,if_pos,↓RS,RG,reduceAdd,reduceMul,reduceLeDiff]
   refine hK _ _ ?_;clear hK K
   refine W.cond rfl (fun h1 => ?_) (fun h1 => ?_)
   ·try simp only [RL] at h1
    refine W.k fun K hK => ?_
    simp (disch := omega) only [↓RU,RV,RH,↓reduceIte,reduceEqDiff,reduceCtorEq,if_pos,↓RS,RG,reduceAdd,reduceMul,reduceLeDiff]
    refine hK _ _ ?_;clear hK K
    refine xn ?_
    refine ⟨_,?_,take_all⟩
    subst hls hps
    simp [Env.put,Env.of,h1]
   ·try simp only [RL] at h1
    refine W.skip ?_
    refine xn ?_
    refine ⟨_,?_,take_all⟩
    subst hls hps
    simp [Env.put,Env.of,h1]
  rintro vs S - ⟨rfl,rfl⟩
  refine W.r fun K hK => ?_
  simp (disch := omega) only [↓RU,RV,RH,↓reduceIte,reduceEqDiff,reduceCtorEq,if_pos,↓RS,RG,reduceAdd,reduceMul,reduceLeDiff]
  refine hK _ _ ?_;clear hK K
  refine W.block ?_
  refine W.loopS [0,12,13,14,3,5,6,7,8] (fun n vs S => ∃ line v t : Nat,n = ls - line ∧ (1 ≤ line) ∧ (line ≤ ls) ∧ vs = [eFloor g rs,.sl [.bool false,.bool true] 2,.int .i64 2,.int .i64 i,slW (wlLevel g (decide (i = 1)) ps (wsI g nh nw i) line) v,.bool (decide (i = 1)),.int .i64 ls,.int .i64 ps,.int .i64 line] ∧ S = stW (wlLevel g (decide (i = 1)) ps (wsI g nh nw i) line) v t) (ls - 1) ?_ ?_
  ·refine ⟨_,[],[eFloor g rs,.sl [.bool false,.bool true] 2,.int .i64 2,.int .i64 i,slW (wsI g nh nw i) v,.bool (decide (i = 1)),.int .i64 ls,.int .i64 ps,.int .i64 (1 : Nat)],stW (wsI g nh nw i) v (t + 1),?_,rn_stW,1,v,t + 1,rfl,by omega,by omega,by rw [wlLevel_one],by rw [wlLevel_one]⟩
   simp [-List.mapM_map,Env.put,Env.of,argEnv,Srn_eq,rnObs_cons,rnObs_nil,rnOb_arr,rnOb_map,rn_loc,rn_ref,rn_mp,rn_int,rn_bool,rn_str,rn_ip,rn_sl,rn_nils,rn_nilp,rn_undef,rn_agg,rn_tup,rn_fn,rfq_loc,rfq_int,rfq_bool,rfq_str,rfq_sl,frOf,List.range_succ,List.mapM_append,List.mapM_cons,rn_slW]
  rintro n vs S - ⟨line,v,t,rfl,h1l,h_l,rfl,rfl⟩
  refine W.seq ?_
  refine W.r fun K hK => ?_
  simp (disch := omega) only [↓RU,RV,RH,↓reduceIte,reduceEqDiff,reduceCtorEq,if_pos,w64,↓RS,RG,reduceAdd,reduceMul,reduceLeDiff,tyint]
  refine hK _ _ ?_;clear hK K
  refine W.cond rfl (fun h2 => ?_) (fun h2 => ?_)
  ·try simp only [RL] at h2
   have hwl2 := wlLevel_len g (decide (i = 1)) hlp.2.2.2 (wsI g nh nw i) line
   have hlong2 := wlLevel_long g (decide (i = 1)) hlp.2.2.2 (M := 100) (by omega) hlong line
   generalize hWs : (wlLevel g (decide (i = 1)) ps (wsI g nh nw i) line) = Ws at hwl2 hlong2
   refine W.skip ?_
   refine xn ?_
   refine W.seq ?_
   refine W.block ?_
   refine W.r fun K hK => ?_
   simp (disch := omega) only [↓RU,RV,RH,↓reduceIte,reduceEqDiff,reduceCtorEq,if_pos,↓RS,RG,reduceAdd,reduceMul,reduceLeDiff]
   refine hK _ _ ?_;clear hK K
   refine W.r fun K hK => ?_
   simp (disch := omega) only [↓RU,RV,RH,↓reduceIte,reduceEqDiff,reduceCtorEq,if_pos,↓RS,RG,reduceAdd,reduceMul,reduceLeDiff]
   refine hK _ _ ?_;clear hK K
   refine W.block ?_
   refine W.loopS [0,12,13,14,3,5,6,7,8,9,30,31] (fun n vs S => ∃ at_ v t : Nat,n = ps - at_ ∧ (at_ ≤ ps) ∧ vs = [eFloor g rs,.sl [.bool false,.bool true] 2,.int .i64 2,.int .i64 i,slW (wlLine g (decide (i = 1)) line Ws at_).1 v,.bool (decide (i = 1)),.int .i64 ls,.int .i64 ps,.int .i64 line,.bool (wlLine g (decide (i = 1)) line Ws at_).2,.int .i64 ps,.int .i64 at_] ∧ S = stW (wlLine g (decide (i = 1)) line Ws at_).1 v t) ps ?_ ?_
   ·refine ⟨_,[],[eFloor g rs,.sl [.bool false,.bool true] 2,.int .i64 2,.int .i64 i,slW Ws v,.bool (decide (i = 1)),.int .i64 ls,.int .i64 ps,.int .i64 line,.bool false,.int .i64 ps,.int .i64 (0 : Nat)],stW Ws v (t + 1),?_,rn_stW,0,v,t + 1,rfl,by omega,rfl,rfl⟩
    simp [-List.mapM_map,Env.put,Env.of,argEnv,Srn_eq,rnObs_cons,rnObs_nil,rnOb_arr,rnOb_map,rn_loc,rn_ref,rn_mp,rn_int,rn_bool,rn_str,rn_ip,rn_sl,rn_nils,rn_nilp,rn_undef,rn_agg,rn_tup,rn_fn,rfq_loc,rfq_int,rfq_bool,rfq_str,rfq_sl,frOf,List.range_succ,List.mapM_append,List.mapM_cons,rn_slW]
   rintro n vs S - ⟨at_,v,t,rfl,h_a,rfl,rfl⟩
   refine W.r fun K hK => ?_
   simp (disch := omega) only [↓RU,RV,RH,↓reduceIte,reduceEqDiff,reduceCtorEq,if_pos,w64,↓RS,RG,reduceAdd,reduceMul,reduceLeDiff,tyint]
   refine hK _ _ ?_;clear hK K
   refine W.seq ?_
   refine W.cond rfl (fun h3 => ?_) (fun h3 => ?_)
   ·try simp only [RL] at h3
    have hop := (wlLine_open g (decide (i = 1)) line Ws at_)
    have hlong3 := wlLine_long g (decide (i = 1)) line (M := 100 + 6 * line) (by omega) hlong2 at_
    have hin : InL nh nw (decide (i = 1)) line at_ := by refine ⟨h1l,?_⟩; rcases (show i = 0 ∨ i = 1 by omega) with rfl | rfl <;> simp at hls hps ⊢ <;> omega
    generalize hs : wlLine g (decide (i = 1)) line Ws at_ = s at hop hlong3
    obtain ⟨ws,op⟩ := s
    simp only at hop hlong3
    refine W.skip ?_
    refine xn ?_
    refine W.seq ?_
    refine W.block ?_
    refine W.r fun K hK => ?_
    simp (disch := omega) only [↓RU,RV,RH,↓reduceIte,reduceEqDiff,reduceCtorEq,if_pos,↓RS,RG,reduceAdd,reduceMul,reduceLeDiff]
    refine hK _ _ ?_;clear hK K
    refine W.r fun K hK => ?_
    simp (disch := omega) only [↓RU,RV,RH,↓reduceIte,reduceEqDiff,reduceCtorEq,if_pos,List.append_nil,↓RS,RG,reduceAdd,reduceMul,reduceLeDiff]
    refine CallR.pc (differ_pc hg rs hin) rfl (.inl rfl) ?_
    simp (disch := omega) only [↓RU,RV,RH,↓reduceIte,reduceEqDiff,reduceCtorEq,if_pos,List.append_nil,↓RS,RG,reduceAdd,reduceMul,reduceLeDiff]
    refine hK _ _ ?_;clear hK K
    refine W.seq ?_
    refine W.block ?_
    refine W.r fun K hK => ?_
    obtain hd | ⟨hd,rfl,rfl⟩ | ⟨hd,rfl,hw⟩ | ⟨hd,rfl,hw⟩ := wl_cases (d := difG g (decide (i = 1)) line at_) hop.1
    ·skip
     simp (disch := omega) only [↓RU,RV,RH,↓reduceIte,reduceEqDiff,reduceCtorEq,if_pos,↓RS,RG,reduceAdd,reduceMul,reduceLeDiff,hd]
     refine hK _ _ ?_;clear hK K
     refine W.cond rfl (fun h4 => ?_) (fun h4 => ?_)
     ·try simp only [RL] at h4
      exact absurd h4 (by simp)
     ·try simp only [RL] at h4
      refine W.r fun K hK => ?_
      simp (disch := omega) only [↓RU,RV,RH,↓reduceIte,reduceEqDiff,reduceCtorEq,if_pos,↓RS,RG,reduceAdd,reduceMul,reduceLeDiff]
      refine hK _ _ ?_;clear hK K
      refine W.cond rfl (fun h5 => ?_) (fun h5 => ?_)
      ·try simp only [RL] at h5
       exact absurd h5 (by simp)
      ·try simp only [RL] at h5
       refine W.skip ?_
       refine XbN ?_
       refine xn ?_
       refine W.k fun K hK => ?_
       simp (disch := omega) only [↓RU,RV,RH,↓reduceIte,reduceEqDiff,reduceCtorEq,if_pos,↓RS,RG,reduceAdd,reduceMul,reduceLeDiff]
       refine hK _ _ ?_;clear hK K
       refine XbN ?_
       refine xn ?_
       refine W.k fun K hK => ?_
       simp (disch := omega) only [↓RU,RV,RH,↓reduceIte,reduceEqDiff,reduceCtorEq,if_pos,w64,↓RS,RG,reduceAdd,reduceMul,reduceLeDiff,tyint]
       refine hK _ _ ?_;clear hK K
       refine xn ?_
       have hnx : wlLine g (decide (i = 1)) line Ws (at_ + 1) = (ws,false) := by rw [wlLine_succ,hs,hd]; simp [wlStep]
       refine ⟨ps - (at_ + 1),by omega,(stW ws v t).obs.length,[],[eFloor g rs,.sl [.bool false,.bool true] 2,.int .i64 2,.int .i64 i,slW (wlLine g (decide (i = 1)) line Ws (at_ + 1)).1 v,.bool (decide (i = 1)),.int .i64 ls,.int .i64 ps,.int .i64 line,.bool (wlLine g (decide (i = 1)) line Ws (at_ + 1)).2,.int .i64 ps,.int .i64 ((at_ + 1 : Nat) : Int)],stW (wlLine g (decide (i = 1)) line Ws (at_ + 1)).1 v (t + 1),?_,?_,at_ + 1,v,(t + 1),rfl,by omega,rfl,rfl⟩
       ·rw [hnx]; simp [-List.mapM_map,Env.put,Env.of,argEnv,Srn_eq,rnObs_cons,rnObs_nil,rnOb_arr,rnOb_map,rn_loc,rn_ref,rn_mp,rn_int,rn_bool,rn_str,rn_ip,rn_sl,rn_nils,rn_nilp,rn_undef,rn_agg,rn_tup,rn_fn,rfq_loc,rfq_int,rfq_bool,rfq_str,rfq_sl,frOf,List.range_succ,List.mapM_append,List.mapM_cons,rn_slW]
       ·rw [hnx]; exact rn_stW
    ·skip
     rw [slW_nil,stW_nil]
     simp (disch := omega) only [↓RU,RV,RH,↓reduceIte,reduceEqDiff,reduceCtorEq,if_pos,↓RS,RG,reduceAdd,reduceMul,reduceLeDiff,hd]
     refine hK _ _ ?_;clear hK K
     refine W.cond rfl (fun h4 => ?_) (fun h4 => ?_)
     ·try simp only [RL] at h4
      exact absurd h4 (by simp)
     ·try simp only [RL] at h4
      refine W.r fun K hK => ?_
      simp (disch := omega) only [↓RU,RV,RH,↓reduceIte,reduceEqDiff,reduceCtorEq,if_pos,↓RS,RG,reduceAdd,reduceMul,reduceLeDiff]
      refine hK _ _ ?_;clear hK K
      refine W.cond rfl (fun h5 => ?_) (fun h5 => ?_)
      ·try simp only [RL] at h5
       refine W.k fun K hK => ?_
       simp (disch := omega) only [↓RU,RV,RH,↓reduceIte,reduceEqDiff,reduceCtorEq,if_pos,↓RS,RG,reduceAdd,reduceMul,reduceLeDiff,ty4,tybool,ty17,tyint,ty26,wcs_len,wcs_tk]
       refine hK _ _ ?_;clear hK K
       refine XbN ?_
       refine xn ?_
       refine W.k fun K hK => ?_
       simp (disch := omega) only [↓RU,RV,RH,↓reduceIte,reduceEqDiff,reduceCtorEq,if_pos,↓RS,RG,reduceAdd,reduceMul,reduceLeDiff]
       refine hK _ _ ?_;clear hK K
       refine XbN ?_
       refine xn ?_
       refine W.k fun K hK => ?_
       simp (disch := omega) only [↓RU,RV,RH,↓reduceIte,reduceEqDiff,reduceCtorEq,if_pos,w64,↓RS,RG,reduceAdd,reduceMul,reduceLeDiff,tyint]
       refine hK _ _ ?_;clear hK K
       refine xn ?_
       have hnx : wlLine g (decide (i = 1)) line Ws (at_ + 1) = ([⟨decide (i = 1),line,at_,1⟩],true) := by rw [wlLine_succ,hs,hd]; simp [wlStep]
       refine ⟨ps - (at_ + 1),by omega,0,[1],[eFloor g rs,.sl [.bool false,.bool true] 2,.int .i64 2,.int .i64 i,slW (wlLine g (decide (i = 1)) line Ws (at_ + 1)).1 (t + 2),.bool (decide (i = 1)),.int .i64 ls,.int .i64 ps,.int .i64 line,.bool (wlLine g (decide (i = 1)) line Ws (at_ + 1)).2,.int .i64 ps,.int .i64 ((at_ + 1 : Nat) : Int)],stW (wlLine g (decide (i = 1)) line Ws (at_ + 1)).1 (t + 2) (t + 3),?_,?_,at_ + 1,(t + 2),(t + 3),rfl,by omega,rfl,rfl⟩
       ·rw [hnx]; simp [-List.mapM_map,Env.put,Env.of,argEnv,Srn_eq,rnObs_cons,rnObs_nil,rnOb_arr,rnOb_map,rn_loc,rn_ref,rn_mp,rn_int,rn_bool,rn_str,rn_ip,rn_sl,rn_nils,rn_nilp,rn_undef,rn_agg,rn_tup,rn_fn,rfq_loc,rfq_int,rfq_bool,rfq_str,rfq_sl,frOf,List.range_succ,List.mapM_append,List.mapM_cons,slW_ne]
       ·rw [hnx]; simp [-List.mapM_map,Env.put,Env.of,argEnv,Srn_eq,rnObs_cons,rnObs_nil,rnOb_arr,rnOb_map,rn_loc,rn_ref,rn_mp,rn_int,rn_bool,rn_str,rn_ip,rn_sl,rn_nils,rn_nilp,rn_undef,rn_agg,rn_tup,rn_fn,rfq_loc,rfq_int,rfq_bool,rfq_str,rfq_sl,frOf,List.range_succ,List.mapM_append,List.mapM_cons,stW_ne,wcs,Wall.cells]
      ·try simp only [RL] at h5
       exact absurd h5 (by simp)
    ·skip
     rw [slW_ne hw,stW_ne hw]
     simp (disch := omega) only [↓RU,RV,RH,↓reduceIte,reduceEqDiff,reduceCtorEq,if_pos,↓RS,RG,reduceAdd,reduceMul,reduceLeDiff,hd]
     refine hK _ _ ?_;clear hK K
     refine W.cond rfl (fun h4 => ?_) (fun h4 => ?_)
     ·try simp only [RL] at h4
      exact absurd h4 (by simp)
     ·try simp only [RL] at h4
      refine W.r fun K hK => ?_
      simp (disch := omega) only [↓RU,RV,RH,↓reduceIte,reduceEqDiff,reduceCtorEq,if_pos,↓RS,RG,reduceAdd,reduceMul,reduceLeDiff]
      refine hK _ _ ?_;clear hK K
      refine W.cond rfl (fun h5 => ?_) (fun h5 => ?_)
      ·try simp only [RL] at h5
       refine W.k fun K hK => ?_
       simp (disch := omega) only [↓RU,RV,RH,↓reduceIte,reduceEqDiff,reduceCtorEq,if_pos,↓RS,RG,reduceAdd,reduceMul,reduceLeDiff,ty4,tybool,ty17,tyint,ty26,wcs_len,wcs_tk]
       refine hK _ _ ?_;clear hK K
       refine XbN ?_
       refine xn ?_
       refine W.k fun K hK => ?_
       simp (disch := omega) only [↓RU,RV,RH,↓reduceIte,reduceEqDiff,reduceCtorEq,if_pos,↓RS,RG,reduceAdd,reduceMul,reduceLeDiff]
       refine hK _ _ ?_;clear hK K
       refine XbN ?_
       refine xn ?_
       refine W.k fun K hK => ?_
       simp (disch := omega) only [↓RU,RV,RH,↓reduceIte,reduceEqDiff,reduceCtorEq,if_pos,w64,↓RS,RG,reduceAdd,reduceMul,reduceLeDiff,tyint]
       refine hK _ _ ?_;clear hK K
       refine xn ?_
       have hnx : wlLine g (decide (i = 1)) line Ws (at_ + 1) = (ws ++ [⟨decide (i = 1),line,at_,1⟩],true) := by rw [wlLine_succ,hs,hd]; simp [wlStep]
       refine ⟨ps - (at_ + 1),by omega,1,[],[eFloor g rs,.sl [.bool false,.bool true] 2,.int .i64 2,.int .i64 i,slW (wlLine g (decide (i = 1)) line Ws (at_ + 1)).1 (t + 1),.bool (decide (i = 1)),.int .i64 ls,.int .i64 ps,.int .i64 line,.bool (wlLine g (decide (i = 1)) line Ws (at_ + 1)).2,.int .i64 ps,.int .i64 ((at_ + 1 : Nat) : Int)],stW (wlLine g (decide (i = 1)) line Ws (at_ + 1)).1 (t + 1) (t + 3),?_,?_,at_ + 1,(t + 1),(t + 3),rfl,by omega,rfl,rfl⟩
       ·rw [hnx]; simp [-List.mapM_map,Env.put,Env.of,argEnv,Srn_eq,rnObs_cons,rnObs_nil,rnOb_arr,rnOb_map,rn_loc,rn_ref,rn_mp,rn_int,rn_bool,rn_str,rn_ip,rn_sl,rn_nils,rn_nilp,rn_undef,rn_agg,rn_tup,rn_fn,rfq_loc,rfq_int,rfq_bool,rfq_str,rfq_sl,frOf,List.range_succ,List.mapM_append,List.mapM_cons,slW_ne]
       ·rw [hnx]; simp [-List.mapM_map,Env.put,Env.of,argEnv,Srn_eq,rnObs_cons,rnObs_nil,rnOb_arr,rnOb_map,rn_loc,rn_ref,rn_mp,rn_int,rn_bool,rn_str,rn_ip,rn_sl,rn_nils,rn_nilp,rn_undef,rn_agg,rn_tup,rn_fn,rfq_loc,rfq_int,rfq_bool,rfq_str,rfq_sl,frOf,List.range_succ,List.mapM_append,List.mapM_cons,stW_ne,rn_wcs,wcs_snoc,Wall.cells]
      ·try simp only [RL] at h5
       exact absurd h5 (by simp)
    ·skip
     obtain ⟨ws,w,rfl⟩ := last_of hw
     rw [slW_ne hw,stW_ne hw]
     have hwlg := hlong3 w (by simp)
     have hwl3 : ws.length + 1 ≤ 200 := by have := hop.2.1; simp at this; omega
     simp (disch := omega) only [↓RU,RV,RH,↓reduceIte,reduceEqDiff,reduceCtorEq,if_pos,↓RS,RG,reduceAdd,reduceMul,reduceLeDiff,hd]
     refine hK _ _ ?_;clear hK K
     refine W.cond rfl (fun h4 => ?_) (fun h4 => ?_)
     ·try simp only [RL] at h4
      refine W.k fun K hK => ?_
      simp (disch := omega) only [↓RU,RV,RH,↓reduceIte,reduceEqDiff,reduceCtorEq,if_pos,w64,↓RS,RG,reduceAdd,reduceMul,reduceLeDiff,ty4,tybool,ty17,tyint,ty26,List.length_append,wcs_len,wcs_long,wcs_set,toNat_last]
      refine hK _ _ ?_;clear hK K
      refine XbN ?_
      refine xn ?_
      refine W.k fun K hK => ?_
      simp (disch := omega) only [↓RU,RV,RH,↓reduceIte,reduceEqDiff,reduceCtorEq,if_pos,↓RS,RG,reduceAdd,reduceMul,reduceLeDiff]
      refine hK _ _ ?_;clear hK K
      refine XbN ?_
      refine xn ?_
      refine W.k fun K hK => ?_
      simp (disch := omega) only [↓RU,RV,RH,↓reduceIte,reduceEqDiff,reduceCtorEq,if_pos,w64,↓RS,RG,reduceAdd,reduceMul,reduceLeDiff,tyint]
      refine hK _ _ ?_;clear hK K
      refine xn ?_
      have hnx : wlLine g (decide (i = 1)) line Ws (at_ + 1) = (ws ++ [{ w with long := w.long + 1 }],true) := by rw [wlLine_succ,hs,hd]; simp [wlStep]
      refine ⟨ps - (at_ + 1),by omega,1,[],[eFloor g rs,.sl [.bool false,.bool true] 2,.int .i64 2,.int .i64 i,slW (wlLine g (decide (i = 1)) line Ws (at_ + 1)).1 v,.bool (decide (i = 1)),.int .i64 ls,.int .i64 ps,.int .i64 line,.bool (wlLine g (decide (i = 1)) line Ws (at_ + 1)).2,.int .i64 ps,.int .i64 ((at_ + 1 : Nat) : Int)],stW (wlLine g (decide (i = 1)) line Ws (at_ + 1)).1 v (t + 1),?_,?_,at_ + 1,v,(t + 1),rfl,by omega,rfl,rfl⟩
      ·rw [hnx]; simp [-List.mapM_map,Env.put,Env.of,argEnv,Srn_eq,rnObs_cons,rnObs_nil,rnOb_arr,rnOb_map,rn_loc,rn_ref,rn_mp,rn_int,rn_bool,rn_str,rn_ip,rn_sl,rn_nils,rn_nilp,rn_undef,rn_agg,rn_tup,rn_fn,rfq_loc,rfq_int,rfq_bool,rfq_str,rfq_sl,frOf,List.range_succ,List.mapM_append,List.mapM_cons,slW_ne]
      ·rw [hnx]; simp [-List.mapM_map,Env.put,Env.of,argEnv,Srn_eq,rnObs_cons,rnObs_nil,rnOb_arr,rnOb_map,rn_loc,rn_ref,rn_mp,rn_int,rn_bool,rn_str,rn_ip,rn_sl,rn_nils,rn_nilp,rn_undef,rn_agg,rn_tup,rn_fn,rfq_loc,rfq_int,rfq_bool,rfq_str,rfq_sl,frOf,List.range_succ,List.mapM_append,List.mapM_cons,stW_ne,rn_wcs]
     ·try simp only [RL] at h4
      exact absurd h4 (by simp)
   ·try simp only [RL] at h3
    obtain rfl : ps = at_ := by omega
    refine W.exit ?_
    refine xe ?_
    refine xe ?_
    refine XBlock.hit ?_
    refine XbN ?_
    refine xn ?_
    refine W.k fun K hK => ?_
    simp (disch := omega) only [↓RU,RV,RH,↓reduceIte,reduceEqDiff,reduceCtorEq,if_pos,w64,↓RS,RG,reduceAdd,reduceMul,reduceLeDiff,tyint]
    refine hK _ _ ?_;clear hK K
    refine xn ?_
    refine ⟨ls - (line + 1),by omega,(stW (wlLine g (decide (i = 1)) line Ws ps).1 v t).obs.length,[],[eFloor g rs,.sl [.bool false,.bool true] 2,.int .i64 2,.int .i64 i,slW (wlLevel g (decide (i = 1)) ps (wsI g nh nw i) (line + 1)) v,.bool (decide (i = 1)),.int .i64 ls,.int .i64 ps,.int .i64 ((line + 1 : Nat) : Int)],stW (wlLevel g (decide (i = 1)) ps (wsI g nh nw i) (line + 1)) v (t + 1),?_,?_,line + 1,v,t + 1,rfl,by omega,by omega,rfl,rfl⟩
    rotate_left
    ·rw [wlLevel_succ h1l,hWs]; exact rn_stW
    ·rw [wlLevel_succ h1l,hWs]; simp [-List.mapM_map,Env.put,Env.of,argEnv,Srn_eq,rnObs_cons,rnObs_nil,rnOb_arr,rnOb_map,rn_loc,rn_ref,rn_mp,rn_int,rn_bool,rn_str,rn_ip,rn_sl,rn_nils,rn_nilp,rn_undef,rn_agg,rn_tup,rn_fn,rfq_loc,rfq_int,rfq_bool,rfq_str,rfq_sl,frOf,List.range_succ,List.mapM_append,List.mapM_cons,rn_slW]
  ·try simp only [RL] at h2
   obtain rfl : ls = line := by omega
   refine W.exit ?_
   refine xe ?_
   refine xe ?_
   refine XBlock.hit ?_
   refine XbN ?_
   refine xn ?_
   refine W.k fun K hK => ?_
   simp (disch := omega) only [↓RU,RV,RH,↓reduceIte,reduceEqDiff,reduceCtorEq,if_pos,w64,↓RS,RG,reduceAdd,reduceMul,reduceLeDiff,tyint]
   refine hK _ _ ?_;clear hK K
   refine xn ?_
   have hwn := wsI_succ (g := g) (nh := nh) (nw := nw) hi2
   rw [hps,hls] at hwn
   refine ⟨2 - (i + 1),by omega,(stW (wlLevel g (decide (i = 1)) ps (wsI g nh nw i) ls) v t).obs.length,[],[eFloor g rs,.sl [.bool false,.bool true] 2,.int .i64 2,.int .i64 ((i + 1 : Nat) : Int),slW (wsI g nh nw (i + 1)) v],stW (wsI g nh nw (i + 1)) v (t + 1),?_,?_,i + 1,v,t + 1,rfl,by omega,rfl,rfl⟩
   rotate_left
   ·rw [hwn]; exact rn_stW
   ·rw [hwn]; simp [-List.mapM_map,Env.put,Env.of,argEnv,Srn_eq,rnObs_cons,rnObs_nil,rnOb_arr,rnOb_map,rn_loc,rn_ref,rn_mp,rn_int,rn_bool,rn_str,rn_ip,rn_sl,rn_nils,rn_nilp,rn_undef,rn_agg,rn_tup,rn_fn,rfq_loc,rfq_int,rfq_bool,rfq_str,rfq_sl,frOf,List.range_succ,List.mapM_append,List.mapM_cons,rn_slW]
 ·try simp only [RL] at h
  refine W.exit ?_
  refine xe ?_
  refine xe ?_
  refine XBlock.hit ?_
  refine xn ?_
  refine W.r fun K hK => ?_
  simp (disch := omega) only [↓RU,RV,RH,↓reduceIte,reduceEqDiff,reduceCtorEq,if_pos,↓RS,RG,reduceAdd,reduceMul,reduceLeDiff]
  refine hK _ _ ?_;clear hK K
  refine W.ret ?_
  refine Br rfl ?_
  obtain rfl : i = 2 := by omega
  rw [show wsI g nh nw 2 = wallsG g nh nw from rfl]
  exact reify_slW
theorem gF {F R : List Ob} {a : Ob} : (F ++ a :: R)[F.length]? = some a := by simp
theorem setF {F R : List Ob} {a b : Ob} : (F ++ a :: R).set F.length b = F ++ b :: R := by simp
theorem set_app2 {α : Type} {f : α → PV} {l : List α} {x : α} {a n : Nat} : (l.map f).take a ++ (List.replicate n x).map f ++ (l.map f).drop (a + n) = (l.take a ++ List.replicate n x ++ l.drop (a + n)).map f := by simp
theorem allc_int {q : IntKind} {l : List Int} : allCells (l.map (PV.int q)) = True := eq_true (allCells_map (fun _ => rfl) l)
def ddp (l : List Int) : List Int := l.foldl putL []
theorem ddp_succ {l : List Int} {p : Nat} {x : Int} (h : l[p]? = some x) : ddp (l.take (p + 1)) = putL (ddp (l.take p)) x := foldl_tk h
theorem putL_last (l : List Int) (x : Int) : (putL l x).getLast? = some x := by
 unfold putL; split
 ·assumption
 ·simp
theorem ddp_last {l : List Int} {p : Nat} {y : Int} (h : l[p]? = some y) : (ddp (l.take (p + 1))).getLast? = some y := by rw [ddp_succ h]; exact putL_last _ _
theorem ddp_same {l : List Int} {p : Nat} {x y : Int} (hp : 1 ≤ p) (h0 : l[p - 1]? = some y) (h : l[p]? = some x) (e : x = y) : ddp (l.take (p + 1)) = ddp (l.take p) := by
 have := ddp_last h0
 rw [show p - 1 + 1 = p by omega] at this
 rw [ddp_succ h,putL,this,e]; simp
theorem ddp_new {l : List Int} {p : Nat} {x y : Int} (hp : 1 ≤ p) (h0 : l[p - 1]? = some y) (h : l[p]? = some x) (e : ¬ x = y) : ddp (l.take (p + 1)) = ddp (l.take p) ++ [x] := by
 have := ddp_last h0
 rw [show p - 1 + 1 = p by omega] at this
 rw [ddp_succ h,putL,this,if_neg (by simpa using Ne.symm e)]
theorem ddp_one {l : List Int} (h : 1 ≤ l.length) : ddp (l.take 1) = l.take 1 := by
 cases l with
 | nil => simp at h
 | cons a l => rfl
theorem ddp_short {l : List Int} (h : l.length < 2) : ddp l = l := by
 match l,h with
 | [],_ => rfl
 | [a],_ => rfl
theorem ddp_len (l : List Int) : (ddp l).length ≤ l.length := by
 unfold ddp
 have : ∀ (l m : List Int),(l.foldl putL m).length ≤ m.length + l.length := by
  intro l
  induction l with
  | nil => intro m; simp
  | cons a l ih => intro m; have := ih (putL m a); have := putL_len (l := m) (x := a); simp only [List.foldl_cons,List.length_cons]; omega
 have := this l []
 simpa using this
structure DC (l c : List Int) (k p : Nat) : Prop where
 len : c.length = l.length
 dk : (ddp (l.take p)).length = k
 hd : c.take k = ddp (l.take p)
 dr : c.drop (p - 1) = l.drop (p - 1)
 kp : k + 1 ≤ p
theorem DC.get {l c : List Int} {k p j : Nat} (h : DC l c k p) (hj : p - 1 ≤ j) : c[j]? = l[j]? := by
 have := congrArg (fun x => x[j - (p - 1)]?) h.dr
 simp only [List.getElem?_drop] at this
 rwa [show p - 1 + (j - (p - 1)) = j by omega] at this
theorem DC.first {l : List Int} {k : Nat} {x y : Int} (h1 : 1 ≤ k) (hd : ddp (l.take k) = l.take k) (hy : l[k - 1]? = some y) (hx : l[k]? = some x) (e : x = y) : DC l l k (k + 1) := by
 have hk := len_of hx
 refine ⟨rfl,?_,?_,rfl,Nat.le_refl _⟩
 ·rw [ddp_same h1 hy hx e,hd,List.length_take]; omega
 ·rw [ddp_same h1 hy hx e,hd]
theorem DC.same {l c : List Int} {k p : Nat} {x y : Int} (h : DC l c k p) (h1 : 1 ≤ p) (hy : l[p - 1]? = some y) (hx : l[p]? = some x) (e : x = y) : DC l c k (p + 1) := by
 refine ⟨h.len,?_,?_,?_,by have := h.kp; omega⟩
 ·rw [ddp_same h1 hy hx e]; exact h.dk
 ·rw [ddp_same h1 hy hx e]; exact h.hd
 ·have := congrArg (List.drop 1) h.dr
  rw [List.drop_drop,List.drop_drop] at this
  rwa [show p - 1 + 1 = p by omega] at this
theorem DC.new {l c : List Int} {k p : Nat} {x y : Int} (h : DC l c k p) (h1 : 1 ≤ p) (hy : l[p - 1]? = some y) (hx : l[p]? = some x) (e : ¬ x = y) : DC l (c.set k x) (k + 1) (p + 1) := by
 have hp := len_of hx
 have hk := h.kp
 have hl := h.len
 refine ⟨by simpa using hl,?_,?_,?_,by omega⟩
 ·rw [ddp_new h1 hy hx e,List.length_append,h.dk]; rfl
 ·rw [ddp_new h1 hy hx e,← h.hd]
  have : (c.set k x)[k]? = some x := by rw [List.getElem?_set]; simp; omega
  rw [tk this,List.take_set_of_le (Nat.le_refl _)]
 ·rw [Nat.add_sub_cancel,List.drop_set_of_lt (by omega)]
  have := congrArg (List.drop 1) h.dr
  rw [List.drop_drop,List.drop_drop] at this
  rwa [show p - 1 + 1 = p by omega] at this
def alongG (g : List (List Int)) (level : Bool) (line fr : Nat) (n : Nat) : List Int × List Int :=
 ((List.range n).map fun j => (sidesG g level line (fr + j)).1,(List.range n).map fun j => (sidesG g level line (fr + j)).2)
theorem alongG_succ1 {g : List (List Int)} {level : Bool} {line fr n : Nat} : (alongG g level line fr (n + 1)).1 = (alongG g level line fr n).1 ++ [(sidesG g level line (fr + n)).1] := by simp [alongG,List.range_succ]
theorem alongG_succ2 {g : List (List Int)} {level : Bool} {line fr n : Nat} : (alongG g level line fr (n + 1)).2 = (alongG g level line fr n).2 ++ [(sidesG g level line (fr + n)).2] := by simp [alongG,List.range_succ]
theorem alongG_len {g : List (List Int)} {level : Bool} {line fr n : Nat} : (alongG g level line fr n).1.length = n ∧ (alongG g level line fr n).2.length = n := by simp [alongG]
def slL (l : List Int) (k v : Nat) : PV := match l with | [] => .nils | _ => .loc k v 0 l.length
def tlL (l m : List Int) (v0 v1 : Nat) : List Ob := match l with | [] => [] | _ => [.arr v0 3 1 (l.map (.int .i64)),.arr v1 3 1 (m.map (.int .i64))]
theorem slL_ne {l : List Int} {k v : Nat} (h : l ≠ []) : slL l k v = .loc k v 0 l.length := by cases l with | nil => exact absurd rfl h | cons a l => rfl
theorem tlL_ne {l m : List Int} {v0 v1 : Nat} (h : l ≠ []) : tlL l m v0 v1 = [.arr v0 3 1 (l.map (.int .i64)),.arr v1 3 1 (m.map (.int .i64))] := by cases l with | nil => exact absurd rfl h | cons a l => rfl
theorem rn_ints {S : Store} {k f : Nat} {sel : List Nat} {q : IntKind} (l : List Int) : (l.map (PV.int q)).mapM (rn S k sel (f + 1)) = some (l.map (PV.int q)) :=
 mapM_same fun x hx => by obtain ⟨a,_,rfl⟩ := List.mem_map.1 hx; rfl
theorem reify_pre {S : Store} {im : Bool} {k o ver et : Nat} {l z : List Int} (h : S.obs[o]? = some (.arr ver et 1 ((l ++ z).map (.int .i64)))) : reify S im (k + 2) (.loc o ver 0 l.length) = some (eInts l) := by
 simp only [reify,h,Nat.zero_add,Nat.mul_one,List.length_map,List.length_append,Nat.le_add_right,and_self,if_true,List.drop_zero,List.map_append]
 rw [List.take_append_of_le_length (by simp),List.take_of_length_le (by simp)]
 have := mapM_int (S := S) (im := im) (k := k) (q := .i64) l
 simp only [eInts]
 exact congrArg (Option.map fun x => PV.sl x l.length) this
theorem compact_ev {F R : List Ob} {ver t : Nat} {l : List Int} (hl : l.length < 2147483648) : Ev Tryz.prog 120 [.loc F.length ver 0 l.length] ⟨F ++ .arr ver 3 1 (l.map (.int .i64)) :: R,t⟩ fun v S => ∃ z : List Int,v = .loc F.length ver 0 (ddp l).length ∧ S = ⟨F ++ .arr ver 3 1 ((ddp l ++ z).map (.int .i64)) :: R,t⟩ := by
 refine Ev.of ⟨Tryz.func120,by kernel_rfl,rfl,by kernel_rfl⟩ tabOk mixed (by show 1 ≤ Tryz.f120.ntmps; decide) ?_
 refine W.r fun K hK => ?_
 simp (disch := omega) only [↓RU,RV,RH,↓reduceIte,reduceEqDiff,reduceCtorEq,if_pos,↓RS,RG,reduceAdd,reduceMul,reduceLeDiff,gF,setF]
 refine hK _ _ ?_;clear hK K
 refine W.seq ?_
 refine W.r fun K hK => ?_
 simp (disch := omega) only [↓RU,RV,RH,↓reduceIte,reduceEqDiff,reduceCtorEq,if_pos,w64,↓RS,RG,reduceAdd,reduceMul,reduceLeDiff,tyLint,tyint,gF,setF]
 refine hK _ _ ?_;clear hK K
 refine W.cond rfl (fun h => ?_) (fun h => ?_)
 ·try simp only [RL] at h
  refine W.r fun K hK => ?_
  simp (disch := omega) only [↓RU,RV,RH,↓reduceIte,reduceEqDiff,reduceCtorEq,if_pos,↓RS,RG,reduceAdd,reduceMul,reduceLeDiff,gF,setF]
  refine hK _ _ ?_;clear hK K
  refine W.ret ?_
  refine XThen.ret ?_
  refine Br rfl ?_
  refine ⟨(F ++ Ob.arr ver 3 1 (l.map (.int .i64)) :: R).length,[],?_,?_⟩
  ·rw [ddp_short (by omega)]; rfl
  ·rw [List.append_nil,ddp_short (by omega)]; exact take_all
 ·try simp only [RL] at h
  refine W.skip ?_
  refine xn ?_
  refine W.seq ?_
  refine W.r fun K hK => ?_
  simp (disch := omega) only [↓RU,RV,RH,↓reduceIte,reduceEqDiff,reduceCtorEq,if_pos,↓RS,RG,reduceAdd,reduceMul,reduceLeDiff,gF,setF]
  refine hK _ _ ?_;clear hK K
  refine W.block ?_
  refine W.loop [0,3] (fun n vs S => ∃ k0 : Nat,n = l.length - k0 ∧ k0 ≤ l.length ∧ (1 ≤ k0) ∧ (ddp (l.take k0) = l.take k0) ∧ vs = [.loc F.length ver 0 l.length,.int .i64 k0] ∧ S = ⟨F ++ .arr ver 3 1 (l.map (.int .i64)) :: R,t⟩) (l.length - 1) ?_ ?_
  ·refine ⟨_,1,rfl,by omega,Nat.le_refl _,ddp_one (by omega),?_,take_all⟩
   simp [Env.put,Env.of,argEnv]
  rintro n vs S - ⟨k0,rfl,h_k0,h1k,hd,rfl,rfl⟩
  refine W.seq ?_
  refine W.r fun K hK => ?_
  simp (disch := omega) only [↓RU,RV,RH,↓reduceIte,reduceEqDiff,reduceCtorEq,if_pos,w64,↓RS,RG,reduceAdd,reduceMul,reduceLeDiff,tyLint,tyint,gF,setF]
  refine hK _ _ ?_;clear hK K
  refine W.cond rfl (fun h1 => ?_) (fun h1 => ?_)
  ·try simp only [RL] at h1
   obtain ⟨x,hx,-⟩ := get_of (show k0 < l.length by omega)
   obtain ⟨y,hy,-⟩ := get_of (show k0 - 1 < l.length by omega)
   refine W.skip ?_
   refine xn ?_
   refine W.seq ?_
   refine W.block ?_
   refine W.seq_draw (by kernel_rfl) fun K hK => ?_
   simp (disch := omega) only [↓RU,RV,RH,↓reduceIte,reduceEqDiff,reduceCtorEq,if_pos,w64,↓RS,RG,reduceAdd,reduceMul,reduceLeDiff,tyLint,tyint,gF,setF,hx,hy,toNat_pred]
   refine hK _ _ ?_;clear hK K
   refine W.cond rfl (fun h2 => ?_) (fun h2 => ?_)
   ·try simp only [RL] at h2
    refine W.r fun K hK => ?_
    simp (disch := omega) only [↓RU,RV,RH,↓reduceIte,reduceEqDiff,reduceCtorEq,if_pos,Option.map_none,↓RS,RG,reduceAdd,reduceMul,reduceLeDiff,tyLint,tyint,gF,setF]
    refine hK _ _ ?_;clear hK K
    refine W.seq ?_
    refine W.r fun K hK => ?_
    simp (disch := omega) only [↓RU,RV,RH,↓reduceIte,reduceEqDiff,reduceCtorEq,if_pos,↓RS,RG,reduceAdd,reduceMul,reduceLeDiff,gF,setF]
    refine hK _ _ ?_;clear hK K
    refine W.block ?_
    refine W.loop [0,3,4,5] (fun n vs S => ∃ k p : Nat,∃ c : List Int,n = l.length - p ∧ DC l c k p ∧ k0 + 1 ≤ p ∧ p ≤ l.length ∧ vs = [.loc F.length ver 0 l.length,.int .i64 k,.loc F.length ver k0 (l.length - k0),.int .i64 ((p - k0 : Nat) : Int)] ∧ S = ⟨F ++ .arr ver 3 1 (c.map (.int .i64)) :: R,t⟩) (l.length - (k0 + 1)) ?_ ?_
    ·refine ⟨_,k0,k0 + 1,l,rfl,DC.first h1k hd hy hx h2,Nat.le_refl _,by omega,?_,take_all⟩
     simp [Env.put,Env.of]
    rintro n vs S - ⟨k,p,c,rfl,hdc,hk0,h_p,rfl,rfl⟩
    refine W.seq ?_
    refine W.r fun K hK => ?_
    simp (disch := omega) only [↓RU,RV,RH,↓reduceIte,reduceEqDiff,reduceCtorEq,if_pos,w64,↓RS,RG,reduceAdd,reduceMul,reduceLeDiff,tyLint,tyint,gF,setF]
    refine hK _ _ ?_;clear hK K
    refine W.cond rfl (fun h3 => ?_) (fun h3 => ?_)
    ·try simp only [RL] at h3
     have hkp := hdc.kp
     obtain ⟨x2,hx2,-⟩ := get_of (show p < l.length by omega)
     obtain ⟨y2,hy2,-⟩ := get_of (show p - 1 < l.length by omega)
     have hcx := hdc.get (j := p) (by omega)
     have hcy := hdc.get (j := p - 1) (by omega)
     rw [hx2] at hcx
     rw [hy2] at hcy
     have hcl := hdc.len
     have e1 : k0 + (p - k0) = p := by omega
     have e2 : k0 + (p - k0 - 1) = p - 1 := by omega
     refine W.skip ?_
     refine xn ?_
     refine W.seq ?_
     refine W.block ?_
     refine W.seq_draw (by kernel_rfl) fun K hK => ?_
     simp (disch := omega) only [↓RU,RV,RH,↓reduceIte,reduceEqDiff,reduceCtorEq,if_pos,w64,↓RS,RG,reduceAdd,reduceMul,reduceLeDiff,tyLint,tyint,gF,setF,hcx,hcy,toNat_pred,e1,e2]
     refine hK _ _ ?_;clear hK K
     refine W.cond rfl (fun h4 => ?_) (fun h4 => ?_)
     ·try simp only [RL] at h4
      refine W.r fun K hK => ?_
      simp (disch := omega) only [↓RU,RV,RH,↓reduceIte,reduceEqDiff,reduceCtorEq,if_pos,↓RS,RG,reduceAdd,reduceMul,reduceLeDiff,tyLint,tyint,gF,setF,hcx,e1,hcl,set_spl,set_int]
      refine hK _ _ ?_;clear hK K
      refine W.k fun K hK => ?_
      simp (disch := omega) only [↓RU,RV,RH,↓reduceIte,reduceEqDiff,reduceCtorEq,if_pos,w64,↓RS,RG,reduceAdd,reduceMul,reduceLeDiff,tyint,gF,setF]
      refine hK _ _ ?_;clear hK K
      refine XbN ?_
      refine xn ?_
      refine W.k fun K hK => ?_
      simp (disch := omega) only [↓RU,RV,RH,↓reduceIte,reduceEqDiff,reduceCtorEq,if_pos,w64,↓RS,RG,reduceAdd,reduceMul,reduceLeDiff,tyint,gF,setF]
      refine hK _ _ ?_;clear hK K
      refine xn ?_
      refine ⟨l.length - (p + 1),by omega,_,k + 1,p + 1,c.set k x2,rfl,hdc.new (by omega) hy2 hx2 h4,by omega,by omega,?_,take_all⟩
      simp [Env.put,Env.of,show p + 1 - k0 = p - k0 + 1 by omega]
     ·try simp only [RL] at h4
      refine W.skip ?_
      refine XbN ?_
      refine xn ?_
      refine W.k fun K hK => ?_
      simp (disch := omega) only [↓RU,RV,RH,↓reduceIte,reduceEqDiff,reduceCtorEq,if_pos,w64,↓RS,RG,reduceAdd,reduceMul,reduceLeDiff,tyint,gF,setF]
      refine hK _ _ ?_;clear hK K
      refine xn ?_
      refine ⟨l.length - (p + 1),by omega,_,k,p + 1,c,rfl,hdc.same (by omega) hy2 hx2 h4,by omega,by omega,?_,take_all⟩
      simp [Env.put,Env.of,show p + 1 - k0 = p - k0 + 1 by omega]
    ·try simp only [RL] at h3
     have hkp := hdc.kp
     have hcl := hdc.len
     obtain rfl : p = l.length := by omega
     refine W.exit ?_
     refine xe ?_
     refine xe ?_
     refine XBlock.hit ?_
     refine xn ?_
     refine W.r fun K hK => ?_
     simp (disch := omega) only [↓RU,RV,RH,↓reduceIte,reduceEqDiff,reduceCtorEq,if_pos,Option.map_none,repz_length,repz_int,↓RS,RG,reduceAdd,reduceMul,reduceLeDiff,tyLint,tyint,gF,setF,hcl,repz_int,set_app2,allc_int,List.length_replicate]
     refine hK _ _ ?_;clear hK K
     refine W.r fun K hK => ?_
     simp (disch := omega) only [↓RU,RV,RH,↓reduceIte,reduceEqDiff,reduceCtorEq,if_pos,Option.map_none,↓RS,RG,reduceAdd,reduceMul,reduceLeDiff,tyLint,tyint,gF,setF]
     refine hK _ _ ?_;clear hK K
     refine W.ret ?_
     refine XBlock.ret ?_
     refine XThen.ret ?_
     refine XThen.ret ?_
     refine XBlock.ret ?_
     refine XThen.ret ?_
     refine Br rfl ?_
     have hdk := hdc.dk
     rw [List.take_length] at hdk
     have htk := hdc.hd
     rw [List.take_length] at htk
     have hdrop : c.drop (k + (l.length - k)) = [] := List.drop_of_length_le (by omega)
     rw [hdrop,List.append_nil,htk]
     refine ⟨(F ++ Ob.arr ver 3 1 ((ddp l ++ List.replicate (l.length - k) 0).map (.int .i64)) :: R).length,_,?_,take_all⟩
     rw [hdk]; rfl
   ·try simp only [RL] at h2
    refine W.skip ?_
    refine XbN ?_
    refine xn ?_
    refine W.k fun K hK => ?_
    simp (disch := omega) only [↓RU,RV,RH,↓reduceIte,reduceEqDiff,reduceCtorEq,if_pos,w64,↓RS,RG,reduceAdd,reduceMul,reduceLeDiff,tyint,gF,setF]
    refine hK _ _ ?_;clear hK K
    refine xn ?_
    refine ⟨l.length - (k0 + 1),by omega,_,k0 + 1,rfl,by omega,by omega,by rw [ddp_new h1k hy hx h2,hd,← tk hx],?_,take_all⟩
    simp [Env.put,Env.of]
  ·try simp only [RL] at h1
   refine W.exit ?_
   refine xe ?_
   refine xe ?_
   refine XBlock.hit ?_
   refine xn ?_
   refine W.r fun K hK => ?_
   simp (disch := omega) only [↓RU,RV,RH,↓reduceIte,reduceEqDiff,reduceCtorEq,if_pos,↓RS,RG,reduceAdd,reduceMul,reduceLeDiff,gF,setF]
   refine hK _ _ ?_;clear hK K
   refine W.ret ?_
   refine Br rfl ?_
   obtain rfl : k0 = l.length := by omega
   refine ⟨(F ++ Ob.arr ver 3 1 (l.map (.int .i64)) :: R).length,[],?_,?_⟩
   ·rw [show ddp l = l by simpa using hd]; rfl
   ·rw [List.append_nil,show ddp l = l by simpa using hd]; exact take_all
theorem along_pc {g : List (List Int)} {nh nw : Nat} (hg : GW g nh nw) (rs : List Rect) {level : Bool} {line fr long : Nat} (h1 : 1 ≤ long) (hin : ∀ j,fr ≤ j → j < fr + long → InL nh nw level line j) : PC Tryz.prog 85 [eFloor g rs,eWall ⟨level,line,fr,long⟩] (.tup [eInts (ddp (alongG g level line fr long).1),eInts (ddp (alongG g level line fr long).2)]) true := by
 have hgg := hg.2.2
 have hb : fr + long ≤ 6 := by have h := hin (fr + long - 1) (by omega) (by omega); unfold InL at h; cases level <;> simp at h <;> omega
 simp only [eWall,Wall.cells]
 refine PC.of ⟨Tryz.func85,by kernel_rfl,rfl,by kernel_rfl⟩ tabOk mixed (by show 2 ≤ Tryz.f85.ntmps; decide) ?_
 refine W.r fun K hK => ?_
 simp (disch := omega) only [↓RU,RV,RH,↓reduceIte,reduceEqDiff,reduceCtorEq,if_pos,↓RS,RG,reduceAdd,reduceMul,reduceLeDiff,tybool,ty17,tyint,ty26]
 refine hK _ _ ?_;clear hK K
 refine W.r fun K hK => ?_
 simp (disch := omega) only [↓RU,RV,RH,↓reduceIte,reduceEqDiff,reduceCtorEq,if_pos,↓RS,RG,reduceAdd,reduceMul,reduceLeDiff]
 refine hK _ _ ?_;clear hK K
 refine W.seq ?_
 refine W.r fun K hK => ?_
 simp (disch := omega) only [↓RU,RV,RH,↓reduceIte,reduceEqDiff,reduceCtorEq,if_pos,↓RS,RG,reduceAdd,reduceMul,reduceLeDiff,tybool,ty17,tyint,ty26]
 refine hK _ _ ?_;clear hK K
 refine W.block ?_
 refine W.loopS [0,3,6,7,8] (fun n vs S => ∃ j v0 v1 t : Nat,n = long - j ∧ j ≤ long ∧ vs = [eFloor g rs,.ref 0 0 0,slL (alongG g level line fr j).1 1 v0,slL (alongG g level line fr j).2 2 v1,.int .i64 (((fr + j : Nat) : Int))] ∧ S = ⟨(.arr 0 116 4 [.bool level,.int .i64 line,.int .i64 fr,.int .i64 long]) :: tlL (alongG g level line fr j).1 (alongG g level line fr j).2 v0 v1,t⟩) long ?_ ?_
 ·refine ⟨1,[],[eFloor g rs,.ref 0 0 0,slL (alongG g level line fr 0).1 1 0,slL (alongG g level line fr 0).2 2 0,.int .i64 (((fr + 0 : Nat) : Int))],⟨(.arr 0 116 4 [.bool level,.int .i64 line,.int .i64 fr,.int .i64 long]) :: tlL (alongG g level line fr 0).1 (alongG g level line fr 0).2 0 0,2⟩,?_,?_,0,0,0,2,rfl,by omega,rfl,rfl⟩
  ·simp [-List.mapM_map,Env.put,Env.of,argEnv,Srn_eq,rnObs_cons,rnObs_nil,rnOb_arr,rnOb_map,rn_loc,rn_ref,rn_mp,rn_int,rn_bool,rn_str,rn_ip,rn_sl,rn_nils,rn_nilp,rn_undef,rn_agg,rn_tup,rn_fn,rfq_loc,rfq_int,rfq_bool,rfq_str,rfq_sl,frOf,List.range_succ,List.mapM_append,List.mapM_cons,alongG,slL]
  ·simp [-List.mapM_map,Env.put,Env.of,argEnv,Srn_eq,rnObs_cons,rnObs_nil,rnOb_arr,rnOb_map,rn_loc,rn_ref,rn_mp,rn_int,rn_bool,rn_str,rn_ip,rn_sl,rn_nils,rn_nilp,rn_undef,rn_agg,rn_tup,rn_fn,rfq_loc,rfq_int,rfq_bool,rfq_str,rfq_sl,frOf,List.range_succ,List.mapM_append,List.mapM_cons,alongG,tlL]
 rintro n vs S - ⟨j,v0,v1,t,rfl,h_j,rfl,rfl⟩
 refine W.seq ?_
 refine W.r fun K hK => ?_
 simp (disch := omega) only [↓RU,RV,RH,↓reduceIte,reduceEqDiff,reduceCtorEq,if_pos,w64,↓RS,RG,reduceAdd,reduceMul,reduceLeDiff,tybool,ty17,tyint,ty26]
 refine hK _ _ ?_;clear hK K
 refine W.cond rfl (fun h => ?_) (fun h => ?_)
 ·try simp only [RL] at h
  have hjl : j < long := by omega
  have hij := hin (fr + j) (by omega) (by omega)
  have hal := alongG_len (g := g) (level := level) (line := line) (fr := fr) (n := j)
  refine W.skip ?_
  refine xn ?_
  refine W.seq ?_
  refine W.block ?_
  refine W.r fun K hK => ?_
  simp (disch := omega) only [↓RU,RV,RH,↓reduceIte,reduceEqDiff,reduceCtorEq,if_pos,List.append_nil,↓RS,RG,reduceAdd,reduceMul,reduceLeDiff,tybool,ty17,tyint,ty26]
  refine CallR.pc (sides_pc hg rs hij) rfl (.inl rfl) ?_
  simp (disch := omega) only [↓RU,RV,RH,↓reduceIte,reduceEqDiff,reduceCtorEq,if_pos,List.append_nil,↓RS,RG,reduceAdd,reduceMul,reduceLeDiff,tybool,ty17,tyint,ty26]
  refine hK _ _ ?_;clear hK K
  refine W.k fun K hK => ?_
  by_cases hj0 : j = 0
  ·skip
   subst hj0
   rw [show (alongG g level line fr 0) = ([],[]) from rfl]
   rw [show slL ([],[]).1 1 v0 = .nils from rfl,show slL ([],[]).2 2 v1 = .nils from rfl,show tlL ([],[]).1 ([],[]).2 v0 v1 = [] from rfl]
   simp (disch := omega) only [↓RU,RV,RH,↓reduceIte,reduceEqDiff,reduceCtorEq,if_pos,↓RS,RG,reduceAdd,reduceMul,reduceLeDiff,tyLint,tyint]
   refine hK _ _ ?_;clear hK K
   refine XbN ?_
   refine xn ?_
   refine W.k fun K hK => ?_
   simp (disch := omega) only [↓RU,RV,RH,↓reduceIte,reduceEqDiff,reduceCtorEq,if_pos,w64,↓RS,RG,reduceAdd,reduceMul,reduceLeDiff,tyint]
   refine hK _ _ ?_;clear hK K
   refine xn ?_
   refine ⟨long - ((0 + 1)),by omega,1,[2,4],[eFloor g rs,.ref 0 0 0,slL (alongG g level line fr (0 + 1)).1 1 (t + 4),slL (alongG g level line fr (0 + 1)).2 2 (t + 4),.int .i64 (((fr + (0 + 1) : Nat) : Int))],⟨(.arr 0 116 4 [.bool level,.int .i64 line,.int .i64 fr,.int .i64 long]) :: tlL (alongG g level line fr (0 + 1)).1 (alongG g level line fr (0 + 1)).2 (t + 4) (t + 4),(t + 5)⟩,?_,?_,(0 + 1),(t + 4),(t + 4),(t + 5),rfl,by omega,rfl,rfl⟩
   ·simp [-List.mapM_map,Env.put,Env.of,argEnv,Srn_eq,rnObs_cons,rnObs_nil,rnOb_arr,rnOb_map,rn_loc,rn_ref,rn_mp,rn_int,rn_bool,rn_str,rn_ip,rn_sl,rn_nils,rn_nilp,rn_undef,rn_agg,rn_tup,rn_fn,rfq_loc,rfq_int,rfq_bool,rfq_str,rfq_sl,frOf,List.range_succ,List.mapM_append,List.mapM_cons,show alongG g level line fr 0 = ([],[]) from rfl,show List.idxOf 4 [2,4] = 1 from rfl,Int.add_assoc,alongG_succ1,alongG_succ2,slL_ne,hal.1,hal.2]
   ·simp [-List.mapM_map,Env.put,Env.of,argEnv,Srn_eq,rnObs_cons,rnObs_nil,rnOb_arr,rnOb_map,rn_loc,rn_ref,rn_mp,rn_int,rn_bool,rn_str,rn_ip,rn_sl,rn_nils,rn_nilp,rn_undef,rn_agg,rn_tup,rn_fn,rfq_loc,rfq_int,rfq_bool,rfq_str,rfq_sl,frOf,List.range_succ,List.mapM_append,List.mapM_cons,show alongG g level line fr 0 = ([],[]) from rfl,show List.idxOf 4 [2,4] = 1 from rfl,alongG_succ1,alongG_succ2,tlL_ne,rn_ints,tk_le,hal.1,hal.2]
  ·skip
   have hne1 : (alongG g level line fr j).1 ≠ [] := by intro h; have := hal.1; rw [h] at this; simp at this; omega
   have hne2 : (alongG g level line fr j).2 ≠ [] := by intro h; have := hal.2; rw [h] at this; simp at this; omega
   rw [slL_ne hne1,slL_ne hne2,tlL_ne hne1]
   simp (disch := omega) only [↓RU,RV,RH,↓reduceIte,reduceEqDiff,reduceCtorEq,if_pos,↓RS,RG,reduceAdd,reduceMul,reduceLeDiff,tyLint,tyint,hal.1,hal.2]
   refine hK _ _ ?_;clear hK K
   refine XbN ?_
   refine xn ?_
   refine W.k fun K hK => ?_
   simp (disch := omega) only [↓RU,RV,RH,↓reduceIte,reduceEqDiff,reduceCtorEq,if_pos,w64,↓RS,RG,reduceAdd,reduceMul,reduceLeDiff,tyint]
   refine hK _ _ ?_;clear hK K
   refine xn ?_
   refine ⟨long - ((j + 1)),by omega,3,[],[eFloor g rs,.ref 0 0 0,slL (alongG g level line fr (j + 1)).1 1 (t + 1),slL (alongG g level line fr (j + 1)).2 2 (t + 3),.int .i64 (((fr + (j + 1) : Nat) : Int))],⟨(.arr 0 116 4 [.bool level,.int .i64 line,.int .i64 fr,.int .i64 long]) :: tlL (alongG g level line fr (j + 1)).1 (alongG g level line fr (j + 1)).2 (t + 1) (t + 3),(t + 5)⟩,?_,?_,(j + 1),(t + 1),(t + 3),(t + 5),rfl,by omega,rfl,rfl⟩
   ·simp [-List.mapM_map,Env.put,Env.of,argEnv,Srn_eq,rnObs_cons,rnObs_nil,rnOb_arr,rnOb_map,rn_loc,rn_ref,rn_mp,rn_int,rn_bool,rn_str,rn_ip,rn_sl,rn_nils,rn_nilp,rn_undef,rn_agg,rn_tup,rn_fn,rfq_loc,rfq_int,rfq_bool,rfq_str,rfq_sl,frOf,List.range_succ,List.mapM_append,List.mapM_cons,Int.add_assoc,alongG_succ1,alongG_succ2,slL_ne,hal.1,hal.2]
   ·simp [-List.mapM_map,Env.put,Env.of,argEnv,Srn_eq,rnObs_cons,rnObs_nil,rnOb_arr,rnOb_map,rn_loc,rn_ref,rn_mp,rn_int,rn_bool,rn_str,rn_ip,rn_sl,rn_nils,rn_nilp,rn_undef,rn_agg,rn_tup,rn_fn,rfq_loc,rfq_int,rfq_bool,rfq_str,rfq_sl,frOf,List.range_succ,List.mapM_append,List.mapM_cons,alongG_succ1,alongG_succ2,tlL_ne,rn_ints,tk_le,hal.1,hal.2]
 ·try simp only [RL] at h
  obtain rfl : long = j := by omega
  refine W.exit ?_
  refine xe ?_
  refine xe ?_
  refine XBlock.hit ?_
  refine xn ?_
  refine W.r fun K hK => ?_
  have hal := alongG_len (g := g) (level := level) (line := line) (fr := fr) (n := long)
  have hne1 : (alongG g level line fr long).1 ≠ [] := by intro h; have := hal.1; rw [h] at this; simp at this; omega
  have hne2 : (alongG g level line fr long).2 ≠ [] := by intro h; have := hal.2; rw [h] at this; simp at this; omega
  rw [slL_ne hne1,slL_ne hne2,tlL_ne hne1]
  simp (disch := omega) only [↓RU,RV,RH,↓reduceIte,reduceEqDiff,reduceCtorEq,if_pos,List.append_nil,↓RS,RG,reduceAdd,reduceMul,reduceLeDiff]
  refine CallR.ev (compact_ev (F := [(.arr 0 116 4 [.bool level,.int .i64 line,.int .i64 fr,.int .i64 long])]) (R := [.arr v1 3 1 ((alongG g level line fr long).2.map (.int .i64))]) (l := (alongG g level line fr long).1) (by omega)) ?_
  rintro _ _ ⟨z1,rfl,rfl⟩
  simp (disch := omega) only [↓RU,RV,RH,↓reduceIte,reduceEqDiff,reduceCtorEq,if_pos,List.append_nil,↓RS,RG,reduceAdd,reduceMul,reduceLeDiff]
  refine CallR.ev (compact_ev (F := [(.arr 0 116 4 [.bool level,.int .i64 line,.int .i64 fr,.int .i64 long]),.arr v0 3 1 ((ddp (alongG g level line fr long).1 ++ z1).map (.int .i64))]) (R := []) (l := (alongG g level line fr long).2) (by omega)) ?_
  rintro _ _ ⟨z2,rfl,rfl⟩
  simp (disch := omega) only [↓RU,RV,RH,↓reduceIte,reduceEqDiff,reduceCtorEq,if_pos,List.append_nil,↓RS,RG,reduceAdd,reduceMul,reduceLeDiff]
  refine hK _ _ ?_;clear hK K
  refine W.ret ?_
  refine Br rfl ?_
  exact reify_tup2 (reify_pre (k := 7) rfl) (reify_pre (k := 7) rfl)
abbrev eBools (l : List Bool) : PV := .sl (l.map .bool) l.length
abbrev eRel (M : List (List Bool)) : PV := .sl (M.map eBools) M.length
theorem take_all_of {S S' : Store} (h : S = S') : S.take S.obs.length = S' := by rw [take_all,h]
def Sq (n : Nat) (M : List (List Bool)) : Prop := M.length = n ∧ ∀ r ∈ M,r.length = n
def getB (M : List (List Bool)) (a b : Nat) : Bool := (M[a]?.getD [])[b]?.getD false
def setB (M : List (List Bool)) (a b : Nat) (x : Bool) : List (List Bool) := M.set a ((M[a]?.getD []).set b x)
theorem Sq.at_ {n : Nat} {M : List (List Bool)} (h : Sq n M) {a b : Nat} (ha : a < n) (hb : b < n) : ∃ row,M[a]? = some row ∧ row.length = n ∧ row[b]? = some (getB M a b) := by
 obtain ⟨row,hr,hm⟩ := get_of (show a < M.length by rw [h.1]; exact ha)
 have hl := h.2 row hm
 obtain ⟨x,hx,-⟩ := get_of (show b < row.length by omega)
 exact ⟨row,hr,hl,by simp [getB,hr,hx]⟩
theorem Sq.set {n : Nat} {M : List (List Bool)} (h : Sq n M) {a b : Nat} {x : Bool} (ha : a < n) : Sq n (setB M a b x) := by
 obtain ⟨row,hr,hm⟩ := get_of (show a < M.length by rw [h.1]; exact ha)
 refine ⟨by simp [setB,h.1],fun r hr' => ?_⟩
 rcases List.mem_or_eq_of_mem_set hr' with h1 | rfl
 ·exact h.2 r h1
 ·simp [hr,h.2 row hm]
theorem setB_is {M : List (List Bool)} {a b : Nat} {x : Bool} {row : List Bool} (h : M[a]? = some row) : setB M a b x = M.set a (row.set b x) := by simp [setB,h]
def emptyM (n : Nat) : List (List Bool) := List.replicate n (List.replicate n false)
theorem emptyM_sq (n : Nat) : Sq n (emptyM n) := ⟨by simp [emptyM],fun r hr => by rw [(List.mem_replicate.1 hr).2]; simp⟩
def relObs (k t : Nat) (M : List (List Bool)) : List Ob :=
 .arr t 119 1 ((List.range M.length).map fun i => .loc (k + 1 + i) t 0 M.length) :: M.map fun r => .arr t 4 1 (r.map .bool)
theorem relObs_len {k t : Nat} {M : List (List Bool)} : (relObs k t M).length = M.length + 1 := by simp [relObs]
theorem rel0 {F R : List Ob} {t : Nat} {M : List (List Bool)} {n : Nat} (h : M.length = n) : (F ++ (relObs F.length t M ++ R))[F.length]? = some (.arr t 119 1 ((List.range n).map fun i => .loc (F.length + 1 + i) t 0 n)) := by
 subst h; simp [relObs]
theorem relR {F R : List Ob} {t a : Nat} {M : List (List Bool)} {row : List Bool} (h : M[a]? = some row) : (F ++ (relObs F.length t M ++ R))[F.length + 1 + a]? = some (.arr t 4 1 (row.map .bool)) := by
 have ha := len_of h
 rw [List.getElem?_append_right (by omega),List.getElem?_append_left (by rw [relObs_len]; omega),show F.length + 1 + a - F.length = a + 1 by omega]
 simp [relObs,h]
theorem relSet {F R : List Ob} {t a : Nat} {M : List (List Bool)} {row : List Bool} {n : Nat} (hn : M.length = n) (h : a < n) : (F ++ (relObs F.length t M ++ R)).set (F.length + 1 + a) (.arr t 4 1 (row.map .bool)) = F ++ (relObs F.length t (M.set a row) ++ R) := by
 subst hn
 rw [List.set_append_right _ _ (by omega),List.set_append_left _ _ (by rw [relObs_len]; omega),show F.length + 1 + a - F.length = a + 1 by omega]
 simp [relObs,List.map_set]
theorem rg_get {n a : Nat} (h : a < n) : (List.range n)[a]? = some a := List.getElem?_range h
theorem set_bool {l : List Bool} {a : Nat} {x : Bool} : (l.map PV.bool).set a (.bool x) = (l.set a x).map PV.bool := by rw [List.map_set]
theorem repz_bool : ∀ (n : Nat),repz [PV.bool false] n = (List.replicate n false).map PV.bool
 | 0 => rfl
 | n + 1 => by rw [repz_succ,repz_bool n,List.replicate_succ]; rfl
theorem repz_nils : ∀ (n : Nat),repz [PV.nils] n = List.replicate n PV.nils
 | 0 => rfl
 | n + 1 => by rw [repz_succ,repz_nils n,List.replicate_succ]; rfl
theorem mapM_of {α : Type} {f : α → PV} {g : PV → Option PV} {h : α → PV} : ∀ {l : List α},(∀ a ∈ l,g (f a) = some (h a)) → (l.map f).mapM g = some (l.map h)
 | [],_ => rfl
 | a :: l,H => by
  rw [List.map_cons,List.mapM_cons,H a (by simp),mapM_of (l := l) fun x hx => H x (by simp [hx])]; rfl
theorem shObs_of {α : Type} {f h : α → Ob} {S : Store} {im : Bool} : ∀ {l : List α},(∀ a ∈ l,shOb S im (f a) = some (h a)) → shObs S im (l.map f) = some (l.map h)
 | [],_ => rfl
 | a :: l,H => by
  rw [List.map_cons,shObs,H a (by simp),Option.bind_some,shObs_of (l := l) fun x hx => H x (by simp [hx])]; rfl
def grX (n i : Nat) : List PV := ((List.range i).map fun j => PV.loc (j + 1) (j + 1) 0 n) ++ List.replicate (n - i) .nils
def grY (n i : Nat) : List Ob := (List.range i).map fun j => .arr (j + 1) 4 1 ((List.replicate n false).map .bool)
theorem grX_len {n i : Nat} (h : i ≤ n) : (grX n i).length = n := by simp [grX]; omega
theorem grY_len {n i : Nat} : (grY n i).length = i := by simp [grY]
theorem grY_succ {n i : Nat} : grY n (i + 1) = grY n i ++ [.arr (i + 1) 4 1 ((List.replicate n false).map .bool)] := by simp [grY,List.range_succ]
theorem grX_succ {n i : Nat} (h : i < n) : (grX n i).take i ++ [.loc (i + 1) (i + 1) 0 n] ++ (grX n i).drop (i + 1) = grX n (i + 1) := by
 unfold grX
 have e : ((List.range i).map fun j => PV.loc (j + 1) (j + 1) 0 n).length = i := by simp
 rw [List.take_append_of_le_length (by omega),List.take_of_length_le (by omega)]
 have : (((List.range i).map fun j => PV.loc (j + 1) (j + 1) 0 n) ++ List.replicate (n - i) PV.nils).drop (i + 1) = List.replicate (n - (i + 1)) PV.nils := by
  rw [List.drop_append,List.drop_of_length_le (by omega),e,List.nil_append,List.drop_replicate]; congr 1; omega
 rw [this,List.range_succ]; simp
def growObs (n i : Nat) : List Ob := .arr 0 119 1 (grX n i) :: grY n i
theorem grow_sh {n t : Nat} {im : Bool} : ∃ k,sh (Store.take ⟨growObs n n,t⟩ k) im 10 (.loc 0 0 0 n) = some (.loc 0 0 0 n) ∧ shObs (Store.take ⟨growObs n n,t⟩ k) im (Store.take ⟨growObs n n,t⟩ k).obs = some (relObs 0 0 (emptyM n)) := by
 refine ⟨(growObs n n).length,?_⟩
 have e : Store.take ⟨growObs n n,t⟩ (growObs n n).length = ⟨growObs n n,t⟩ := take_all
 rw [e]
 refine ⟨rfl,?_⟩
 have hrow : ∀ j,j < n → (growObs n n)[j + 1]? = some (.arr (j + 1) 4 1 ((List.replicate n false).map .bool)) := by
  intro j hj; simp [growObs,grY,hj]
 have h1 : ((List.range n).map fun j => PV.loc (j + 1) (j + 1) 0 n).mapM (sh ⟨growObs n n,t⟩ im 10) = some ((List.range n).map fun j => PV.loc (0 + 1 + j) 0 0 n) := by
  refine mapM_of fun j hj => ?_
  have hj := List.mem_range.1 hj
  simp only [sh,hrow j hj,if_true]
  congr 2; omega
 have h2 : shObs ⟨growObs n n,t⟩ im ((List.range n).map fun j => .arr (j + 1) 4 1 ((List.replicate n false).map .bool)) = some ((List.range n).map fun _ => .arr 0 4 1 ((List.replicate n false).map .bool)) := by
  refine shObs_of fun j _ => ?_
  simp only [shOb]
  rw [sh_scal (by simp [List.all_replicate,scal])]; rfl
 have h3 : (emptyM n).length = n := by simp [emptyM]
 show shObs ⟨growObs n n,t⟩ im (growObs n n) = _
 conv => lhs; arg 3; unfold growObs grX grY
 rw [shObs,Nat.sub_self,List.replicate_zero,List.append_nil]
 simp only [shOb]
 rw [h1]
 simp only [Option.map_some,Option.bind_some]
 rw [h2]
 simp only [Option.map_some,relObs,h3]
 congr 2
 simp [emptyM,List.map_const']
theorem up_rel {k t : Nat} {M : List (List Bool)} : (relObs 0 0 M).map (upOb k t) = relObs k t M := by
 simp only [relObs,List.map_cons,upOb_arr,List.map_map]
 congr 1
 ·congr 1
  apply List.map_congr_left
  intro i _
  simp only [Function.comp,up_loc]
  congr 1; omega
 ·apply List.map_congr_left
  intro r _
  simp only [Function.comp,upOb_arr,up_bools]
theorem reify_rel {S : Store} {im : Bool} {f k t : Nat} {M : List (List Bool)} {n : Nat} (hM : Sq n M) (h0 : S.obs[k]? = some (.arr t 119 1 ((List.range n).map fun i => .loc (k + 1 + i) t 0 n)))
  (h1 : ∀ a row,M[a]? = some row → S.obs[k + 1 + a]? = some (.arr t 4 1 (row.map .bool))) : reify S im (f + 3) (.loc k t 0 n) = some (eRel M) := by
 have hm : ((List.range n).map fun i => PV.loc (k + 1 + i) t 0 n).mapM (reify S im (f + 2)) = some ((List.range n).map fun i => eBools (M[i]?.getD [])) := by
  refine mapM_of fun i hi => ?_
  have hi := List.mem_range.1 hi
  obtain ⟨row,hr,hm⟩ := get_of (show i < M.length by rw [hM.1]; exact hi)
  have hl := hM.2 row hm
  rw [hr]
  have := reify_loc (n := n) (k := f + 1) (im := im) (h1 i row hr) (by simp [hl]) (mapM_bool row)
  rw [this]
  simp [eBools,hl]
 have := reify_loc (n := n) (k := f + 2) (im := im) h0 (by simp) hm
 rw [this]
 have e : ((List.range n).map fun i => eBools (M[i]?.getD [])) = M.map eBools := by
  apply List.ext_getElem
  ·simp [hM.1]
  ·intro i a b
   have : i < M.length := by rw [hM.1]; simpa using a
   simp [this]
 rw [e]
 simp [eRel,hM.1]
def clB (k a : Nat) (M : List (List Bool)) (b : Nat) : List (List Bool) := setB M a b (getB M a b || (getB M a k && getB M k b))
def clA (n k : Nat) (M : List (List Bool)) (a : Nat) : List (List Bool) := (List.range n).foldl (clB k a) M
def clK (n : Nat) (M : List (List Bool)) (k : Nat) : List (List Bool) := (List.range n).foldl (clA n k) M
def closeM (M : List (List Bool)) : List (List Bool) := (List.range M.length).foldl (clK M.length) M
theorem Sq.foldl {n : Nat} {f : List (List Bool) → Nat → List (List Bool)} : ∀ (i : Nat) {M : List (List Bool)},(∀ M j,j < i → Sq n M → Sq n (f M j)) → Sq n M → Sq n ((List.range i).foldl f M)
 | 0,M,_,h => by simpa using h
 | i + 1,M,hf,h => by
  rw [foldl_rg]
  exact hf _ i (Nat.lt_succ_self i) (Sq.foldl i (fun M j hj => hf M j (by omega)) h)
theorem Sq.clB {n : Nat} {M : List (List Bool)} {k a b : Nat} (h : Sq n M) (ha : a < n) : Sq n (clB k a M b) := h.set ha
theorem Sq.clA {n : Nat} {M : List (List Bool)} {k a : Nat} (h : Sq n M) (ha : a < n) : Sq n (clA n k M a) := Sq.foldl n (fun _ _ _ h => h.clB ha) h
theorem Sq.clK {n : Nat} {M : List (List Bool)} {k : Nat} (h : Sq n M) : Sq n (clK n M k) := Sq.foldl n (fun _ _ hj h => h.clA hj) h
theorem Sq.close {n : Nat} {M : List (List Bool)} (h : Sq n M) : Sq n (closeM M) := by
 unfold closeM; rw [h.1]; exact Sq.foldl n (fun _ _ _ h => h.clK) h
theorem emptyRel_pn {nr : Nat} (hn : nr ≤ 9) : PN Tryz.prog 83 [.int .i64 nr] (.loc 0 0 0 nr) (relObs 0 0 (emptyM nr)) false := by
 refine PN.of ⟨Tryz.func83,by kernel_rfl,rfl,by kernel_rfl⟩ tabOk mixed (by show 1 ≤ Tryz.f83.ntmps; decide) ?_
 refine W.r fun K hK => ?_
 simp (disch := omega) only [↓RU,RV,RH,↓reduceIte,reduceEqDiff,reduceCtorEq,if_pos,↓RS,RG,reduceAdd,reduceMul,reduceLeDiff]
 refine hK _ _ ?_;clear hK K
 refine W.r fun K hK => ?_
 simp (disch := omega) only [↓RU,RV,RH,↓reduceIte,reduceEqDiff,reduceCtorEq,if_pos,↓RS,RG,reduceAdd,reduceMul,reduceLeDiff,ty0,ty2,tybool,ty16,repz_nils,ile_true]
 refine hK _ _ ?_;clear hK K
 refine W.seq ?_
 refine W.r fun K hK => ?_
 simp (disch := omega) only [↓RU,RV,RH,↓reduceIte,reduceEqDiff,reduceCtorEq,if_pos,↓RS,RG,reduceAdd,reduceMul,reduceLeDiff,ty0,ty2,tybool,ty16]
 refine hK _ _ ?_;clear hK K
 refine W.block ?_
 refine W.loop [0,3,8,9] (fun n vs S => ∃ i : Nat,n = nr - i ∧ i ≤ nr ∧ vs = [.int .i64 nr,.loc 0 0 0 nr,.int .i64 nr,.int .i64 i] ∧ S = ⟨.arr 0 119 1 (grX nr i) :: grY nr i,i + 1⟩) (nr) ?_ ?_
 ·refine ⟨_,0,rfl,Nat.zero_le _,?_,take_all_of (by simp [grX,grY])⟩
  simp [Env.put,Env.of,argEnv]
 rintro n vs S - ⟨i,rfl,h_i,rfl,rfl⟩
 refine W.r fun K hK => ?_
 simp (disch := omega) only [↓RU,RV,RH,↓reduceIte,reduceEqDiff,reduceCtorEq,if_pos,w64,↓RS,RG,reduceAdd,reduceMul,reduceLeDiff,tyint]
 refine hK _ _ ?_;clear hK K
 refine W.seq ?_
 refine W.cond rfl (fun h => ?_) (fun h => ?_)
 ·try simp only [RL] at h
  have hx := grX_len (show i ≤ nr by omega)
  refine W.skip ?_
  refine xn ?_
  refine W.seq ?_
  refine W.block ?_
  refine W.r fun K hK => ?_
  simp (disch := omega) only [↓RU,RV,RH,↓reduceIte,reduceEqDiff,reduceCtorEq,if_pos,↓RS,RG,reduceAdd,reduceMul,reduceLeDiff]
  refine hK _ _ ?_;clear hK K
  refine W.k fun K hK => ?_
  simp (disch := omega) only [↓RU,RV,RH,↓reduceIte,reduceEqDiff,reduceCtorEq,if_pos,↓RS,RG,reduceAdd,reduceMul,reduceLeDiff,ty0,ty2,tybool,ty16,repz_bool,ile_true,grY_len,hx,grX_succ]
  refine hK _ _ ?_;clear hK K
  refine XbN ?_
  refine xn ?_
  refine W.k fun K hK => ?_
  simp (disch := omega) only [↓RU,RV,RH,↓reduceIte,reduceEqDiff,reduceCtorEq,if_pos,w64,↓RS,RG,reduceAdd,reduceMul,reduceLeDiff,tyint]
  refine hK _ _ ?_;clear hK K
  refine xn ?_
  refine ⟨nr - (i + 1),by omega,_,i + 1,rfl,by omega,?_,take_all_of (by simp [grY_succ])⟩
  simp [Env.put,Env.of]
 ·try simp only [RL] at h
  refine W.exit ?_
  refine xe ?_
  refine xe ?_
  refine XBlock.hit ?_
  refine xn ?_
  refine W.r fun K hK => ?_
  simp (disch := omega) only [↓RU,RV,RH,↓reduceIte,reduceEqDiff,reduceCtorEq,if_pos,↓RS,RG,reduceAdd,reduceMul,reduceLeDiff]
  refine hK _ _ ?_;clear hK K
  refine W.ret ?_
  refine Br rfl ?_
  obtain rfl : nr = i := by omega
  exact grow_sh
theorem close_ev {F R : List Ob} {t tk nr : Nat} {M : List (List Bool)} (hM : Sq nr M) (hn : nr ≤ 9) : Ev Tryz.prog 86 [.loc F.length t 0 nr] ⟨F ++ (relObs F.length t (M) ++ R),tk⟩ fun v S => v = .tup [] ∧ S = ⟨F ++ (relObs F.length t (closeM M) ++ R),tk⟩ := by
 refine Ev.of ⟨Tryz.func86,by kernel_rfl,rfl,by kernel_rfl⟩ tabOk mixed (by show 1 ≤ Tryz.f86.ntmps; decide) ?_
 refine W.r fun K hK => ?_
 simp (disch := omega) only [↓RU,RV,RH,↓reduceIte,reduceEqDiff,reduceCtorEq,if_pos,↓RS,RG,reduceAdd,reduceMul,reduceLeDiff,ty0,ty2,tybool,ty16,rel0 hM.1]
 refine hK _ _ ?_;clear hK K
 refine W.block ?_
 refine W.loop [0,6,7] (fun n vs S => ∃ k : Nat,n = nr - k ∧ k ≤ nr ∧ vs = [.loc F.length t 0 nr,.int .i64 nr,.int .i64 k] ∧ S = ⟨F ++ (relObs F.length t ((List.range k).foldl (clK nr) M) ++ R),tk⟩) (nr) ?_ ?_
 ·refine ⟨_,0,rfl,Nat.zero_le _,?_,take_all_of rfl⟩
  simp [Env.put,Env.of,argEnv]
 rintro n vs S - ⟨k,rfl,h_k,rfl,rfl⟩
 refine W.r fun K hK => ?_
 simp (disch := omega) only [↓RU,RV,RH,↓reduceIte,reduceEqDiff,reduceCtorEq,if_pos,w64,↓RS,RG,reduceAdd,reduceMul,reduceLeDiff,tyint]
 refine hK _ _ ?_;clear hK K
 refine W.seq ?_
 refine W.cond rfl (fun h => ?_) (fun h => ?_)
 ·try simp only [RL] at h
  have hX := Sq.foldl (f := clK nr) k (fun _ _ _ h => h.clK) hM
  generalize hXe : (List.range k).foldl (clK nr) M = X at hX
  refine W.skip ?_
  refine xn ?_
  refine W.seq ?_
  refine W.block ?_
  refine W.r fun K hK => ?_
  simp (disch := omega) only [↓RU,RV,RH,↓reduceIte,reduceEqDiff,reduceCtorEq,if_pos,↓RS,RG,reduceAdd,reduceMul,reduceLeDiff]
  refine hK _ _ ?_;clear hK K
  refine W.r fun K hK => ?_
  simp (disch := omega) only [↓RU,RV,RH,↓reduceIte,reduceEqDiff,reduceCtorEq,if_pos,↓RS,RG,reduceAdd,reduceMul,reduceLeDiff,ty0,ty2,tybool,ty16,hXe,rel0 hX.1]
  refine hK _ _ ?_;clear hK K
  refine W.block ?_
  refine W.loop [0,2,6,7,11,12] (fun n vs S => ∃ a : Nat,n = nr - a ∧ a ≤ nr ∧ vs = [.loc F.length t 0 nr,.int .i64 k,.int .i64 nr,.int .i64 k,.int .i64 nr,.int .i64 a] ∧ S = ⟨F ++ (relObs F.length t ((List.range a).foldl (clA nr k) X) ++ R),tk⟩) (nr) ?_ ?_
  ·refine ⟨_,0,rfl,Nat.zero_le _,?_,take_all_of rfl⟩
   simp [Env.put,Env.of,argEnv]
  rintro n vs S - ⟨a,rfl,h_a,rfl,rfl⟩
  refine W.r fun K hK => ?_
  simp (disch := omega) only [↓RU,RV,RH,↓reduceIte,reduceEqDiff,reduceCtorEq,if_pos,w64,↓RS,RG,reduceAdd,reduceMul,reduceLeDiff,tyint]
  refine hK _ _ ?_;clear hK K
  refine W.seq ?_
  refine W.cond rfl (fun h1 => ?_) (fun h1 => ?_)
  ·try simp only [RL] at h1
   have hY := Sq.foldl (f := clA nr k) a (fun _ _ hj h => h.clA (by omega)) hX
   generalize hYe : (List.range a).foldl (clA nr k) X = Y at hY
   refine W.skip ?_
   refine xn ?_
   refine W.seq ?_
   refine W.block ?_
   refine W.r fun K hK => ?_
   simp (disch := omega) only [↓RU,RV,RH,↓reduceIte,reduceEqDiff,reduceCtorEq,if_pos,↓RS,RG,reduceAdd,reduceMul,reduceLeDiff]
   refine hK _ _ ?_;clear hK K
   refine W.r fun K hK => ?_
   simp (disch := omega) only [↓RU,RV,RH,↓reduceIte,reduceEqDiff,reduceCtorEq,if_pos,↓RS,RG,reduceAdd,reduceMul,reduceLeDiff,ty0,ty2,tybool,ty16,hYe,rel0 hY.1]
   refine hK _ _ ?_;clear hK K
   refine W.block ?_
   refine W.loop [0,2,3,6,7,11,12,16,17] (fun n vs S => ∃ b : Nat,n = nr - b ∧ b ≤ nr ∧ vs = [.loc F.length t 0 nr,.int .i64 k,.int .i64 a,.int .i64 nr,.int .i64 k,.int .i64 nr,.int .i64 a,.int .i64 nr,.int .i64 b] ∧ S = ⟨F ++ (relObs F.length t ((List.range b).foldl (clB k a) Y) ++ R),tk⟩) (nr) ?_ ?_
   ·refine ⟨_,0,rfl,Nat.zero_le _,?_,take_all_of rfl⟩
    simp [Env.put,Env.of,argEnv]
   rintro n vs S - ⟨b,rfl,h_b,rfl,rfl⟩
   refine W.r fun K hK => ?_
   simp (disch := omega) only [↓RU,RV,RH,↓reduceIte,reduceEqDiff,reduceCtorEq,if_pos,w64,↓RS,RG,reduceAdd,reduceMul,reduceLeDiff,tyint]
   refine hK _ _ ?_;clear hK K
   refine W.seq ?_
   refine W.cond rfl (fun h2 => ?_) (fun h2 => ?_)
   ·try simp only [RL] at h2
    have hZ := Sq.foldl (f := clB k a) b (fun _ _ _ h => h.clB (show a < nr by omega)) hY
    generalize hZe : (List.range b).foldl (clB k a) Y = Z at hZ
    have hZl := hZ.1
    obtain ⟨ra,hra,hral,hrab⟩ := hZ.at_ (show a < nr by omega) (show b < nr by omega)
    obtain ⟨ra2,hra2,-,hrak⟩ := hZ.at_ (show a < nr by omega) (show k < nr by omega)
    obtain ⟨rk,hrk,hrkl,hrkb⟩ := hZ.at_ (show k < nr by omega) (show b < nr by omega)
    obtain rfl : ra = ra2 := by rw [hra] at hra2; exact Option.some.inj hra2
    refine W.skip ?_
    refine xn ?_
    refine W.seq ?_
    refine W.block ?_
    refine W.r fun K hK => ?_
    simp (disch := omega) only [↓RU,RV,RH,↓reduceIte,reduceEqDiff,reduceCtorEq,if_pos,↓RS,RG,reduceAdd,reduceMul,reduceLeDiff]
    refine hK _ _ ?_;clear hK K
    refine W.draw_k (by kernel_rfl) fun K hK => ?_
    rcases hv : (getB Z a b,getB Z a k,getB Z k b) with ⟨_ | _,_ | _,_ | _⟩
    ·skip
     simp only [Prod.mk.injEq] at hv
     obtain ⟨hv1,hv2,hv3⟩ := hv
     rw [hv1] at hrab
     rw [hv2] at hrak
     rw [hv3] at hrkb
     simp (disch := omega) only [↓RU,RV,RH,↓reduceIte,reduceEqDiff,reduceCtorEq,if_pos,↓RS,RG,reduceAdd,reduceMul,reduceLeDiff,ty0,ty2,tybool,ty16,hZe,rel0 hZl,rg_get,relR hra,relR hrk,hrab,hrak,hrkb,set_spl,set_bool,hral,relSet hZl]
     refine hK _ _ ?_;clear hK K
     refine XbN ?_
     refine xn ?_
     refine W.k fun K hK => ?_
     simp (disch := omega) only [↓RU,RV,RH,↓reduceIte,reduceEqDiff,reduceCtorEq,if_pos,w64,↓RS,RG,reduceAdd,reduceMul,reduceLeDiff,tyint]
     refine hK _ _ ?_;clear hK K
     refine xn ?_
     refine ⟨nr - (b + 1),by omega,_,b + 1,rfl,by omega,?_,take_all_of (by rw [foldl_rg,hZe,clB,setB_is hra]; simp [hv1,hv2,hv3])⟩
     simp [Env.put,Env.of]
    ·skip
     simp only [Prod.mk.injEq] at hv
     obtain ⟨hv1,hv2,hv3⟩ := hv
     rw [hv1] at hrab
     rw [hv2] at hrak
     rw [hv3] at hrkb
     simp (disch := omega) only [↓RU,RV,RH,↓reduceIte,reduceEqDiff,reduceCtorEq,if_pos,↓RS,RG,reduceAdd,reduceMul,reduceLeDiff,ty0,ty2,tybool,ty16,hZe,rel0 hZl,rg_get,relR hra,relR hrk,hrab,hrak,hrkb,set_spl,set_bool,hral,relSet hZl]
     refine hK _ _ ?_;clear hK K
     refine XbN ?_
     refine xn ?_
     refine W.k fun K hK => ?_
     simp (disch := omega) only [↓RU,RV,RH,↓reduceIte,reduceEqDiff,reduceCtorEq,if_pos,w64,↓RS,RG,reduceAdd,reduceMul,reduceLeDiff,tyint]
     refine hK _ _ ?_;clear hK K
     refine xn ?_
     refine ⟨nr - (b + 1),by omega,_,b + 1,rfl,by omega,?_,take_all_of (by rw [foldl_rg,hZe,clB,setB_is hra]; simp [hv1,hv2,hv3])⟩
     simp [Env.put,Env.of]
    ·skip
     simp only [Prod.mk.injEq] at hv
     obtain ⟨hv1,hv2,hv3⟩ := hv
     rw [hv1] at hrab
     rw [hv2] at hrak
     rw [hv3] at hrkb
     simp (disch := omega) only [↓RU,RV,RH,↓reduceIte,reduceEqDiff,reduceCtorEq,if_pos,↓RS,RG,reduceAdd,reduceMul,reduceLeDiff,ty0,ty2,tybool,ty16,hZe,rel0 hZl,rg_get,relR hra,relR hrk,hrab,hrak,hrkb,set_spl,set_bool,hral,relSet hZl]
     refine hK _ _ ?_;clear hK K
     refine XbN ?_
     refine xn ?_
     refine W.k fun K hK => ?_
     simp (disch := omega) only [↓RU,RV,RH,↓reduceIte,reduceEqDiff,reduceCtorEq,if_pos,w64,↓RS,RG,reduceAdd,reduceMul,reduceLeDiff,tyint]
     refine hK _ _ ?_;clear hK K
     refine xn ?_
     refine ⟨nr - (b + 1),by omega,_,b + 1,rfl,by omega,?_,take_all_of (by rw [foldl_rg,hZe,clB,setB_is hra]; simp [hv1,hv2,hv3])⟩
     simp [Env.put,Env.of]
    ·skip
     simp only [Prod.mk.injEq] at hv
     obtain ⟨hv1,hv2,hv3⟩ := hv
     rw [hv1] at hrab
     rw [hv2] at hrak
     rw [hv3] at hrkb
     simp (disch := omega) only [↓RU,RV,RH,↓reduceIte,reduceEqDiff,reduceCtorEq,if_pos,↓RS,RG,reduceAdd,reduceMul,reduceLeDiff,ty0,ty2,tybool,ty16,hZe,rel0 hZl,rg_get,relR hra,relR hrk,hrab,hrak,hrkb,set_spl,set_bool,hral,relSet hZl]
     refine hK _ _ ?_;clear hK K
     refine XbN ?_
     refine xn ?_
     refine W.k fun K hK => ?_
     simp (disch := omega) only [↓RU,RV,RH,↓reduceIte,reduceEqDiff,reduceCtorEq,if_pos,w64,↓RS,RG,reduceAdd,reduceMul,reduceLeDiff,tyint]
     refine hK _ _ ?_;clear hK K
     refine xn ?_
     refine ⟨nr - (b + 1),by omega,_,b + 1,rfl,by omega,?_,take_all_of (by rw [foldl_rg,hZe,clB,setB_is hra]; simp [hv1,hv2,hv3])⟩
     simp [Env.put,Env.of]
    ·skip
     simp only [Prod.mk.injEq] at hv
     obtain ⟨hv1,hv2,hv3⟩ := hv
     rw [hv1] at hrab
     rw [hv2] at hrak
     rw [hv3] at hrkb
     simp (disch := omega) only [↓RU,RV,RH,↓reduceIte,reduceEqDiff,reduceCtorEq,if_pos,↓RS,RG,reduceAdd,reduceMul,reduceLeDiff,ty0,ty2,tybool,ty16,hZe,rel0 hZl,rg_get,relR hra,relR hrk,hrab,hrak,hrkb,set_spl,set_bool,hral,relSet hZl]
     refine hK _ _ ?_;clear hK K
     refine XbN ?_
     refine xn ?_
     refine W.k fun K hK => ?_
     simp (disch := omega) only [↓RU,RV,RH,↓reduceIte,reduceEqDiff,reduceCtorEq,if_pos,w64,↓RS,RG,reduceAdd,reduceMul,reduceLeDiff,tyint]
     refine hK _ _ ?_;clear hK K
     refine xn ?_
     refine ⟨nr - (b + 1),by omega,_,b + 1,rfl,by omega,?_,take_all_of (by rw [foldl_rg,hZe,clB,setB_is hra]; simp [hv1,hv2,hv3])⟩
     simp [Env.put,Env.of]
    ·skip
     simp only [Prod.mk.injEq] at hv
     obtain ⟨hv1,hv2,hv3⟩ := hv
     rw [hv1] at hrab
     rw [hv2] at hrak
     rw [hv3] at hrkb
     simp (disch := omega) only [↓RU,RV,RH,↓reduceIte,reduceEqDiff,reduceCtorEq,if_pos,↓RS,RG,reduceAdd,reduceMul,reduceLeDiff,ty0,ty2,tybool,ty16,hZe,rel0 hZl,rg_get,relR hra,relR hrk,hrab,hrak,hrkb,set_spl,set_bool,hral,relSet hZl]
     refine hK _ _ ?_;clear hK K
     refine XbN ?_
     refine xn ?_
     refine W.k fun K hK => ?_
     simp (disch := omega) only [↓RU,RV,RH,↓reduceIte,reduceEqDiff,reduceCtorEq,if_pos,w64,↓RS,RG,reduceAdd,reduceMul,reduceLeDiff,tyint]
     refine hK _ _ ?_;clear hK K
     refine xn ?_
     refine ⟨nr - (b + 1),by omega,_,b + 1,rfl,by omega,?_,take_all_of (by rw [foldl_rg,hZe,clB,setB_is hra]; simp [hv1,hv2,hv3])⟩
     simp [Env.put,Env.of]
    ·skip
     simp only [Prod.mk.injEq] at hv
     obtain ⟨hv1,hv2,hv3⟩ := hv
     rw [hv1] at hrab
     rw [hv2] at hrak
     rw [hv3] at hrkb
     simp (disch := omega) only [↓RU,RV,RH,↓reduceIte,reduceEqDiff,reduceCtorEq,if_pos,↓RS,RG,reduceAdd,reduceMul,reduceLeDiff,ty0,ty2,tybool,ty16,hZe,rel0 hZl,rg_get,relR hra,relR hrk,hrab,hrak,hrkb,set_spl,set_bool,hral,relSet hZl]
     refine hK _ _ ?_;clear hK K
     refine XbN ?_
     refine xn ?_
     refine W.k fun K hK => ?_
     simp (disch := omega) only [↓RU,RV,RH,↓reduceIte,reduceEqDiff,reduceCtorEq,if_pos,w64,↓RS,RG,reduceAdd,reduceMul,reduceLeDiff,tyint]
     refine hK _ _ ?_;clear hK K
     refine xn ?_
     refine ⟨nr - (b + 1),by omega,_,b + 1,rfl,by omega,?_,take_all_of (by rw [foldl_rg,hZe,clB,setB_is hra]; simp [hv1,hv2,hv3])⟩
     simp [Env.put,Env.of]
    ·skip
     simp only [Prod.mk.injEq] at hv
     obtain ⟨hv1,hv2,hv3⟩ := hv
     rw [hv1] at hrab
     rw [hv2] at hrak
     rw [hv3] at hrkb
     simp (disch := omega) only [↓RU,RV,RH,↓reduceIte,reduceEqDiff,reduceCtorEq,if_pos,↓RS,RG,reduceAdd,reduceMul,reduceLeDiff,ty0,ty2,tybool,ty16,hZe,rel0 hZl,rg_get,relR hra,relR hrk,hrab,hrak,hrkb,set_spl,set_bool,hral,relSet hZl]
     refine hK _ _ ?_;clear hK K
     refine XbN ?_
     refine xn ?_
     refine W.k fun K hK => ?_
     simp (disch := omega) only [↓RU,RV,RH,↓reduceIte,reduceEqDiff,reduceCtorEq,if_pos,w64,↓RS,RG,reduceAdd,reduceMul,reduceLeDiff,tyint]
     refine hK _ _ ?_;clear hK K
     refine xn ?_
     refine ⟨nr - (b + 1),by omega,_,b + 1,rfl,by omega,?_,take_all_of (by rw [foldl_rg,hZe,clB,setB_is hra]; simp [hv1,hv2,hv3])⟩
     simp [Env.put,Env.of]
   ·try simp only [RL] at h2
    obtain rfl : nr = b := by omega
    refine W.exit ?_
    refine xe ?_
    refine xe ?_
    refine XBlock.hit ?_
    refine XbN ?_
    refine xn ?_
    refine W.k fun K hK => ?_
    simp (disch := omega) only [↓RU,RV,RH,↓reduceIte,reduceEqDiff,reduceCtorEq,if_pos,w64,↓RS,RG,reduceAdd,reduceMul,reduceLeDiff,tyint]
    refine hK _ _ ?_;clear hK K
    refine xn ?_
    refine ⟨nr - (a + 1),by omega,_,a + 1,rfl,by omega,?_,take_all_of (by rw [foldl_rg,hYe]; rfl)⟩
    simp [Env.put,Env.of]
  ·try simp only [RL] at h1
   obtain rfl : nr = a := by omega
   refine W.exit ?_
   refine xe ?_
   refine xe ?_
   refine XBlock.hit ?_
   refine XbN ?_
   refine xn ?_
   refine W.k fun K hK => ?_
   simp (disch := omega) only [↓RU,RV,RH,↓reduceIte,reduceEqDiff,reduceCtorEq,if_pos,w64,↓RS,RG,reduceAdd,reduceMul,reduceLeDiff,tyint]
   refine hK _ _ ?_;clear hK K
   refine xn ?_
   refine ⟨nr - (k + 1),by omega,_,k + 1,rfl,by omega,?_,take_all_of (by rw [foldl_rg,hXe]; rfl)⟩
   simp [Env.put,Env.of]
 ·try simp only [RL] at h
  obtain rfl : nr = k := by omega
  refine W.exit ?_
  refine xe ?_
  refine xe ?_
  refine XBlock.hit ?_
  refine BodyQ.norm rfl ?_
  refine ⟨_,rfl,take_all_of ?_⟩
  rw [closeM,hM.1]
section
def relB (a : Int) (bs : List Int) (M : List (List Bool)) : List (List Bool) := bs.foldl (fun M b => setB M a.toNat b.toNat true) M
def relW (M : List (List Bool)) (la bs : List Int) : List (List Bool) := la.foldl (fun M a => relB a bs M) M
def sidesOf (g : List (List Int)) (w : Wall) : List Int × List Int :=
 (ddp (alongG g w.level w.line.toNat w.fr.toNat w.long.toNat).1,ddp (alongG g w.level w.line.toNat w.fr.toNat w.long.toNat).2)
def ordW (g : List (List Int)) (M : List (List Bool) × List (List Bool)) (w : Wall) : List (List Bool) × List (List Bool) :=
 if w.level then (M.1,relW M.2 (sidesOf g w).1 (sidesOf g w).2) else (relW M.1 (sidesOf g w).1 (sidesOf g w).2,M.2)
def ordM (g : List (List Int)) (nh nw n : Nat) : List (List Bool) × List (List Bool) := (wallsG g nh nw).foldl (ordW g) (emptyM n,emptyM n)
def leftG (g : List (List Int)) (nh nw n : Nat) : List (List Bool) := closeM (ordM g nh nw n).1
def aboveG (g : List (List Int)) (nh nw n : Nat) : List (List Bool) := closeM (ordM g nh nw n).2
def WlOk (g : List (List Int)) (nh nw : Nat) (w : Wall) : Prop :=
 ∃ line fr long : Nat,w = ⟨w.level,line,fr,long⟩ ∧ 1 ≤ long ∧ ∀ j,fr ≤ j → j < fr + long → InL nh nw w.level line j ∧ difG g w.level line j = true
theorem wlLine_ok {g : List (List Int)} {nh nw : Nat} {level : Bool} {line places : Nat} (hin : ∀ j,j < places → InL nh nw level line j) {ws : List Wall} (hws : ∀ w ∈ ws,WlOk g nh nw w) : ∀ n,n ≤ places →
  (∀ w ∈ (wlLine g level line ws n).1,WlOk g nh nw w) ∧ ((wlLine g level line ws n).2 = true → ∃ ws0,∃ fr long : Nat,(wlLine g level line ws n).1 = ws0 ++ [⟨level,line,fr,long⟩] ∧ fr + long = n ∧ 1 ≤ long ∧ ∀ j,fr ≤ j → j < fr + long → InL nh nw level line j ∧ difG g level line j = true)
 | 0,_ => ⟨hws,by simp [wlLine]⟩
 | n + 1,hn => by
  obtain ⟨ih1,ih2⟩ := wlLine_ok hin hws n (by omega)
  rw [wlLine_succ]
  generalize wlLine g level line ws n = s at ih1 ih2
  obtain ⟨ws',op⟩ := s
  simp only at ih1 ih2
  cases hd : difG g level line n with
  | false => simp only [wlStep,Bool.false_and,Bool.false_eq_true,if_false]; exact ⟨ih1,by simp⟩
  | true =>
   cases op with
   | false =>
    simp only [wlStep,Bool.and_false,Bool.false_eq_true,if_false,if_true]
    have hnew : ∀ j,n ≤ j → j < n + 1 → InL nh nw level line j ∧ difG g level line j = true := by
     intro j h1 h2
     obtain rfl : j = n := by omega
     exact ⟨hin _ (by omega),hd⟩
    refine ⟨fun w hw => ?_,fun _ => ⟨ws',n,1,rfl,rfl,Nat.le_refl _,hnew⟩⟩
    rcases List.mem_append.1 hw with h | h
    ·exact ih1 w h
    ·rw [List.mem_singleton] at h; subst h
     exact ⟨line,n,1,rfl,Nat.le_refl _,hnew⟩
   | true =>
    obtain ⟨ws0,fr,long,e,h1,h2,h3⟩ := ih2 rfl
    subst e
    have hnew : ∀ j,fr ≤ j → j < fr + (long + 1) → InL nh nw level line j ∧ difG g level line j = true := by
     intro j a b
     by_cases hj : j = n
     ·subst hj; exact ⟨hin _ (by omega),hd⟩
     ·exact h3 j a (by omega)
    simp only [wlStep,Bool.and_self,if_true,List.dropLast_concat,List.getLast?_concat,Option.map_some,Option.toList_some]
    refine ⟨fun w hw => ?_,fun _ => ⟨ws0,fr,long + 1,rfl,by omega,by omega,hnew⟩⟩
    rcases List.mem_append.1 hw with h | h
    ·exact ih1 w (List.mem_append_left _ h)
    ·rw [List.mem_singleton] at h; subst h
     exact ⟨line,fr,long + 1,rfl,by omega,hnew⟩
theorem wlLevel_ok {g : List (List Int)} {nh nw : Nat} {level : Bool} {lines places : Nat} (hin : ∀ l j,1 ≤ l → l < lines → j < places → InL nh nw level l j) {ws : List Wall} (hws : ∀ w ∈ ws,WlOk g nh nw w) : ∀ line,line ≤ lines →
  ∀ w ∈ wlLevel g level places ws line,WlOk g nh nw w
 | 0,_ => by simpa [wlLevel] using hws
 | line + 1,hl => by
  have ih := wlLevel_ok hin hws line (by omega)
  by_cases h : 1 ≤ line
  ·rw [wlLevel_succ h]
   exact (wlLine_ok (fun j hj => hin line j h (by omega) hj) ih places (Nat.le_refl _)).1
  ·have : line = 0 := by omega
   subst this
   simpa [wlLevel] using hws
theorem wallsG_ok {g : List (List Int)} {nh nw : Nat} : ∀ w ∈ wallsG g nh nw,WlOk g nh nw w :=
 wlLevel_ok (lines := nh) (fun l j h1 h2 h3 => ⟨h1,by simp; omega⟩) (wlLevel_ok (lines := nw) (fun l j h1 h2 h3 => ⟨h1,by simp; omega⟩) (by simp) nw (Nat.le_refl _)) nh (Nat.le_refl _)
def RmOk (g : List (List Int)) (nh nw n : Nat) : Prop := ∀ i j,i < nh → j < nw → 0 ≤ gz g i j ∧ gz g i j < n
theorem sides_rooms {g : List (List Int)} {nh nw n : Nat} (h : RmOk g nh nw n) {level : Bool} {line j : Nat} (hi : InL nh nw level line j) :
  0 ≤ (sidesG g level line j).1 ∧ (sidesG g level line j).1 < n ∧ 0 ≤ (sidesG g level line j).2 ∧ (sidesG g level line j).2 < n := by
 obtain ⟨h1,h2⟩ := hi
 cases level with
 | true => simp only [if_true] at h2; have a := h (line - 1) j (by omega) h2.2; have b := h line j h2.1 h2.2; simp only [sidesG,if_true]; omega
 | false => simp only [Bool.false_eq_true,if_false] at h2; have a := h j (line - 1) h2.2 (by omega); have b := h j line h2.2 h2.1; simp only [sidesG,Bool.false_eq_true,if_false]; omega
theorem ddp_mem {l : List Int} {x : Int} (h : x ∈ ddp l) : x ∈ l := by
 unfold ddp at h
 have : ∀ (l m : List Int),x ∈ l.foldl putL m → x ∈ m ∨ x ∈ l := by
  intro l
  induction l with
  | nil => intro m h; exact .inl h
  | cons a l ih =>
   intro m h
   rcases ih _ h with h | h
   ·rcases putL_mem h with h | h
    ·exact .inl h
    ·exact .inr (by simp [h])
   ·exact .inr (by simp [h])
 rcases this l [] h with h | h
 ·simp at h
 ·exact h
theorem sidesOf_rooms {g : List (List Int)} {nh nw n : Nat} (h : RmOk g nh nw n) {w : Wall} (hw : WlOk g nh nw w) : (∀ x ∈ (sidesOf g w).1,0 ≤ x ∧ x < n) ∧ (∀ x ∈ (sidesOf g w).2,0 ≤ x ∧ x < n) := by
 obtain ⟨line,fr,long,e,h1,h2⟩ := hw
 have e1 : w.line.toNat = line := by rw [e]; simp
 have e2 : w.fr.toNat = fr := by rw [e]; simp
 have e3 : w.long.toNat = long := by rw [e]; simp
 simp only [sidesOf,e1,e2,e3]
 refine ⟨fun x hx => ?_,fun x hx => ?_⟩
 ·have := ddp_mem hx
  simp only [alongG,List.mem_map,List.mem_range] at this
  obtain ⟨j,hj,rfl⟩ := this
  have := sides_rooms h (h2 (fr + j) (by omega) (by omega)).1
  omega
 ·have := ddp_mem hx
  simp only [alongG,List.mem_map,List.mem_range] at this
  obtain ⟨j,hj,rfl⟩ := this
  have := sides_rooms h (h2 (fr + j) (by omega) (by omega)).1
  omega
theorem sidesOf_len {g : List (List Int)} {nh nw : Nat} (hg : GW g nh nw) {w : Wall} (hw : WlOk g nh nw w) : (sidesOf g w).1.length ≤ 6 ∧ (sidesOf g w).2.length ≤ 6 := by
 obtain ⟨line,fr,long,e,h1,h2⟩ := hw
 have hgg := hg.2.2
 have hb : fr + long ≤ 6 := by
  have h := (h2 (fr + long - 1) (by omega) (by omega)).1.2
  cases hl : w.level <;> rw [hl] at h <;> simp at h <;> omega
 have e3 : w.long.toNat = long := by rw [e]; simp
 have h3 := alongG_len (g := g) (level := w.level) (line := w.line.toNat) (fr := w.fr.toNat) (n := long)
 simp only [sidesOf,e3]
 exact ⟨Nat.le_trans (ddp_len _) (by omega),Nat.le_trans (ddp_len _) (by omega)⟩
theorem Sq.relB {n : Nat} {a : Int} (ha : a.toNat < n) : ∀ {bs : List Int} {M : List (List Bool)},Sq n M → Sq n (relB a bs M)
 | [],M,h => h
 | b :: bs,M,h => by
  show Sq n (Fw.relB a bs (setB M a.toNat b.toNat true))
  exact Sq.relB ha (h.set ha)
theorem Sq.relW {n : Nat} {bs : List Int} : ∀ {la : List Int} {M : List (List Bool)},(∀ a ∈ la,a.toNat < n) → Sq n M → Sq n (relW M la bs)
 | [],M,_,h => h
 | a :: la,M,ha,h => by
  show Sq n (Fw.relW (Fw.relB a bs M) la bs)
  exact Sq.relW (fun x hx => ha x (by simp [hx])) (h.relB (ha a (by simp)))
theorem ordW_sq {g : List (List Int)} {nh nw n : Nat} (h : RmOk g nh nw n) {w : Wall} (hw : WlOk g nh nw w) {M : List (List Bool) × List (List Bool)} (h1 : Sq n M.1) (h2 : Sq n M.2) : Sq n (ordW g M w).1 ∧ Sq n (ordW g M w).2 := by
 have hs := (sidesOf_rooms h hw).1
 unfold ordW
 split
 ·exact ⟨h1,h2.relW fun a ha => by have := hs a ha; omega⟩
 ·exact ⟨h1.relW fun a ha => by have := hs a ha; omega,h2⟩
theorem ordTo_sq {g : List (List Int)} {nh nw n : Nat} (h : RmOk g nh nw n) : ∀ {ws : List Wall},(∀ w ∈ ws,WlOk g nh nw w) → ∀ {M : List (List Bool) × List (List Bool)},Sq n M.1 → Sq n M.2 → Sq n (ws.foldl (ordW g) M).1 ∧ Sq n (ws.foldl (ordW g) M).2
 | [],_,M,h1,h2 => ⟨h1,h2⟩
 | w :: ws,hw,M,h1,h2 => by
  obtain ⟨k1,k2⟩ := ordW_sq h (hw w (by simp)) h1 h2
  exact ordTo_sq h (ws := ws) (fun x hx => hw x (by simp [hx])) k1 k2
theorem rel0' {F R : List Ob} {k t : Nat} {M : List (List Bool)} {n : Nat} (hk : F.length = k) (h : M.length = n) : (F ++ (relObs k t M ++ R))[k]? = some (.arr t 119 1 ((List.range n).map fun i => .loc (k + 1 + i) t 0 n)) := by subst hk; exact rel0 h
theorem relR' {F R : List Ob} {k t a : Nat} {M : List (List Bool)} {row : List Bool} (hk : F.length = k) (h : M[a]? = some row) : (F ++ (relObs k t M ++ R))[k + 1 + a]? = some (.arr t 4 1 (row.map .bool)) := by subst hk; exact relR h
theorem relSet' {F R : List Ob} {k t a : Nat} {M : List (List Bool)} {row : List Bool} {n : Nat} (hk : F.length = k) (hn : M.length = n) (h : a < n) : (F ++ (relObs k t M ++ R)).set (k + 1 + a) (.arr t 4 1 (row.map .bool)) = F ++ (relObs k t (M.set a row) ++ R) := by subst hk; exact relSet hn h
structure Lay (n : Nat) where
 f : Ob → Ob → List Ob → List (List Bool) → List (List Bool) → List Ob
 pL : Nat
 vL : Nat
 pA : Nat
 vA : Nat
 p3 : Nat
 v3 : Nat
 appR : ∀ {o2 : Ob} {o3 : Ob} {R : List Ob} {L : List (List Bool)} {A : List (List Bool)},f o2 o3 R L A = f o2 o3 [] L A ++ R
 len0 : ∀ {o2 : Ob} {o3 : Ob} {L : List (List Bool)} {A : List (List Bool)},L.length = n → A.length = n → (f o2 o3 [] L A).length = 2 * n + 4
 get0 : ∀ {o2 : Ob} {o3 : Ob} {R : List Ob} {L : List (List Bool)} {A : List (List Bool)},(f o2 o3 R L A)[0]? = some o2
 set0 : ∀ {o2 : Ob} {o3 : Ob} {R : List Ob} {L : List (List Bool)} {A : List (List Bool)} {o : Ob},(f o2 o3 R L A).set 0 o = f o o3 R L A
 get3 : ∀ {o2 : Ob} {o3 : Ob} {R : List Ob} {L : List (List Bool)} {A : List (List Bool)},L.length = n → A.length = n → (f o2 o3 R L A)[p3]? = some o3
 getL : ∀ {o2 : Ob} {o3 : Ob} {R : List Ob} {L : List (List Bool)} {A : List (List Bool)},L.length = n → (f o2 o3 R L A)[pL]? = some (.arr vL 119 1 ((List.range n).map fun i => .loc (pL + 1 + i) vL 0 n))
 getLr : ∀ {o2 : Ob} {o3 : Ob} {R : List Ob} {L : List (List Bool)} {A : List (List Bool)} {a : Nat} {row : List Bool},L[a]? = some row → (f o2 o3 R L A)[pL + 1 + a]? = some (.arr vL 4 1 (row.map .bool))
 setL : ∀ {o2 : Ob} {o3 : Ob} {R : List Ob} {L : List (List Bool)} {A : List (List Bool)} {a : Nat} {row : List Bool},L.length = n → a < n → (f o2 o3 R L A).set (pL + 1 + a) (.arr vL 4 1 (row.map .bool)) = f o2 o3 R (L.set a row) A
 getA : ∀ {o2 : Ob} {o3 : Ob} {R : List Ob} {L : List (List Bool)} {A : List (List Bool)},L.length = n → A.length = n → (f o2 o3 R L A)[pA]? = some (.arr vA 119 1 ((List.range n).map fun i => .loc (pA + 1 + i) vA 0 n))
 getAr : ∀ {o2 : Ob} {o3 : Ob} {R : List Ob} {L : List (List Bool)} {A : List (List Bool)} {a : Nat} {row : List Bool},L.length = n → A[a]? = some row → (f o2 o3 R L A)[pA + 1 + a]? = some (.arr vA 4 1 (row.map .bool))
 setA : ∀ {o2 : Ob} {o3 : Ob} {R : List Ob} {L : List (List Bool)} {A : List (List Bool)} {a : Nat} {row : List Bool},L.length = n → A.length = n → a < n → (f o2 o3 R L A).set (pA + 1 + a) (.arr vA 4 1 (row.map .bool)) = f o2 o3 R L (A.set a row)
 splL : ∀ {o2 : Ob} {o3 : Ob} {R : List Ob} {L : List (List Bool)} {A : List (List Bool)},∃ F R',pL = F.length ∧ ∀ L' : List (List Bool),L'.length = L.length → f o2 o3 R L' A = F ++ (relObs F.length vL L' ++ R')
 splA : ∀ {o2 : Ob} {o3 : Ob} {R : List Ob} {L : List (List Bool)} {A : List (List Bool)},L.length = n → ∃ F R',pA = F.length ∧ ∀ A' : List (List Bool),A'.length = A.length → f o2 o3 R L A' = F ++ (relObs F.length vA A' ++ R')
section
variable {n : Nat} (Y : Lay n) {o2 o3 : Ob} {R : List Ob} {a t : Nat} {L A : List (List Bool)} {w w' : Ob}
theorem Lay.app : Y.f o2 o3 R L A ++ [w] = Y.f o2 o3 (R ++ [w]) L A := by rw [Y.appR,Y.appR (R := R ++ [w])]; simp
theorem Lay.len (hl : L.length = n) (h : A.length = n) : (Y.f o2 o3 R L A).length = 2 * n + 4 + R.length := by rw [Y.appR,List.length_append,Y.len0 hl h]
theorem Lay.get4 (hl : L.length = n) (h : A.length = n) : (Y.f o2 o3 (w :: R) L A)[2 * n + 4]? = some w := by
 rw [Y.appR,List.getElem?_append_right (by rw [Y.len0 hl h]; exact Nat.le_refl _),Y.len0 hl h]; simp
theorem Lay.set4 (hl : L.length = n) (h : A.length = n) : (Y.f o2 o3 (w :: R) L A).set (2 * n + 4) w' = Y.f o2 o3 (w' :: R) L A := by
 rw [Y.appR,List.set_append_right _ _ (by rw [Y.len0 hl h]; exact Nat.le_refl _),Y.len0 hl h,Y.appR (R := w' :: R)]; simp
theorem Lay.take (hl : L.length = n) (h : A.length = n) : Store.take ⟨Y.f o2 o3 R L A,t⟩ (2 * n + 4) = ⟨Y.f o2 o3 [] L A,t⟩ := by
 simp only [Store.take]
 rw [Y.appR,List.take_append_of_le_length (by rw [Y.len0 hl h]; exact Nat.le_refl _),List.take_of_length_le (by rw [Y.len0 hl h]; exact Nat.le_refl _)]
end
def lay3 (n : Nat) : Lay n where
 f o2 o3 R L A := [o2] ++ (relObs 1 1 L ++ (relObs (n + 2) 2 A ++ o3 :: R))
 pL := 1
 vL := 1
 pA := n + 2
 vA := 2
 p3 := 2 * n + 3
 v3 := 3
 appR := by intros; simp
 len0 := by intros o2 o3 L A h1 h2; simp [relObs_len]; omega
 get0 := rfl
 set0 := rfl
 get3 := by
  intros o2 o3 R L A h1 h2
  rw [List.getElem?_append_right (by simp),List.getElem?_append_right (by simp [relObs_len]; omega),List.getElem?_append_right (by simp [relObs_len]; omega)]
  rw [relObs_len,relObs_len,show 2 * n + 3 - [o2].length - (L.length + 1) - (A.length + 1) = 0 by simp; omega]; rfl
 getL := fun h => rel0' rfl h
 getLr := fun h => relR' rfl h
 setL := fun h1 h2 => relSet' rfl h1 h2
 getA := by intros o2 o3 R L A h1 h2; rw [← List.append_assoc]; exact rel0' (by simp [relObs_len]; omega) h2
 getAr := by intros o2 o3 R L A a row h1 h2; rw [← List.append_assoc]; exact relR' (by simp [relObs_len]; omega) h2
 setA := by intros o2 o3 R L A a row h1 h2 h3; rw [← List.append_assoc,relSet' (by simp [relObs_len]; omega) h2 h3,List.append_assoc]
 splL := by intros o2 o3 R L A; exact ⟨[o2],_,rfl,fun _ _ => rfl⟩
 splA := by intros o2 o3 R L A h; exact ⟨[o2] ++ relObs 1 1 L,o3 :: R,by simp [relObs_len]; omega,fun A' _ => by rw [show ([o2] ++ relObs 1 1 L).length = n + 2 by simp [relObs_len]; omega,List.append_assoc]⟩
def lay2 (n : Nat) : Lay n where
 f o2 o3 R L A := [o2] ++ (relObs 1 1 L ++ (o3 :: (relObs (n + 3) 3 A ++ R)))
 pL := 1
 vL := 1
 pA := n + 3
 vA := 3
 p3 := n + 2
 v3 := 2
 appR := by intros; simp
 len0 := by intros o2 o3 L A h1 h2; simp [relObs_len]; omega
 get0 := rfl
 set0 := rfl
 get3 := by
  intros o2 o3 R L A h1 h2
  rw [List.getElem?_append_right (by simp),List.getElem?_append_right (by simp [relObs_len]; omega)]
  rw [relObs_len,show n + 2 - [o2].length - (L.length + 1) = 0 by simp; omega]; rfl
 getL := fun h => rel0' rfl h
 getLr := fun h => relR' rfl h
 setL := fun h1 h2 => relSet' rfl h1 h2
 getA := by intros o2 o3 R L A h1 h2; rw [show [o2] ++ (relObs 1 1 L ++ (o3 :: (relObs (n + 3) 3 A ++ R))) = ([o2] ++ relObs 1 1 L ++ [o3]) ++ (relObs (n + 3) 3 A ++ R) by simp]; exact rel0' (by simp [relObs_len]; omega) h2
 getAr := by intros o2 o3 R L A a row h1 h2; rw [show [o2] ++ (relObs 1 1 L ++ (o3 :: (relObs (n + 3) 3 A ++ R))) = ([o2] ++ relObs 1 1 L ++ [o3]) ++ (relObs (n + 3) 3 A ++ R) by simp]; exact relR' (by simp [relObs_len]; omega) h2
 setA := by intros o2 o3 R L A a row h1 h2 h3; rw [show [o2] ++ (relObs 1 1 L ++ (o3 :: (relObs (n + 3) 3 A ++ R))) = ([o2] ++ relObs 1 1 L ++ [o3]) ++ (relObs (n + 3) 3 A ++ R) by simp,relSet' (by simp [relObs_len]; omega) h2 h3]; simp
 splL := by intros o2 o3 R L A; exact ⟨[o2],_,rfl,fun _ _ => rfl⟩
 splA := by intros o2 o3 R L A h; exact ⟨[o2] ++ relObs 1 1 L ++ [o3],R,by simp [relObs_len]; omega,fun A' _ => by rw [show ([o2] ++ relObs 1 1 L ++ [o3]).length = n + 3 by simp [relObs_len]; omega]; simp⟩
def lay1 (n : Nat) : Lay n where
 f o2 o3 R L A := [o2,o3] ++ (relObs 2 2 L ++ (relObs (n + 3) 3 A ++ R))
 pL := 2
 vL := 2
 pA := n + 3
 vA := 3
 p3 := 1
 v3 := 1
 appR := by intros; simp
 len0 := by intros o2 o3 L A h1 h2; simp [relObs_len]; omega
 get0 := rfl
 set0 := rfl
 get3 := fun _ _ => rfl
 getL := fun h => rel0' rfl h
 getLr := fun h => relR' rfl h
 setL := fun h1 h2 => relSet' rfl h1 h2
 getA := by intros o2 o3 R L A h1 h2; rw [← List.append_assoc]; exact rel0' (by simp [relObs_len]; omega) h2
 getAr := by intros o2 o3 R L A a row h1 h2; rw [← List.append_assoc]; exact relR' (by simp [relObs_len]; omega) h2
 setA := by intros o2 o3 R L A a row h1 h2 h3; rw [← List.append_assoc,relSet' (by simp [relObs_len]; omega) h2 h3,List.append_assoc]
 splL := by intros o2 o3 R L A; exact ⟨[o2,o3],_,rfl,fun _ _ => rfl⟩
 splA := by intros o2 o3 R L A h; exact ⟨[o2,o3] ++ relObs 2 2 L,R,by simp [relObs_len]; omega,fun A' _ => by rw [show ([o2,o3] ++ relObs 2 2 L).length = n + 3 by simp [relObs_len]; omega,List.append_assoc]⟩
def selM (lv : Bool) (M : List (List Bool) × List (List Bool)) (X : List (List Bool)) : List (List Bool) × List (List Bool) := if lv then (M.1,X) else (X,M.2)
def baseM (lv : Bool) (M : List (List Bool) × List (List Bool)) : List (List Bool) := if lv then M.2 else M.1
theorem selM_base {lv : Bool} {M : List (List Bool) × List (List Bool)} : selM lv M (baseM lv M) = M := by cases lv <;> rfl
theorem baseM_sq {n : Nat} {lv : Bool} {M : List (List Bool) × List (List Bool)} (h1 : Sq n M.1) (h2 : Sq n M.2) : Sq n (baseM lv M) := by cases lv <;> simp [baseM,h1,h2]
theorem ordW_sel {g : List (List Int)} {M : List (List Bool) × List (List Bool)} {w : Wall} : ordW g M w = selM w.level M (relW (baseM w.level M) (sidesOf g w).1 (sidesOf g w).2) := by
 unfold ordW selM baseM; cases w.level <;> rfl
theorem relW_tk {M : List (List Bool)} {la bs : List Int} {x : Nat} {a : Int} (h : la[x]? = some a) : relW M (la.take (x + 1)) bs = relB a bs (relW M (la.take x) bs) := foldl_tk h
theorem relB_tk {M : List (List Bool)} {bs : List Int} {y : Nat} {a b : Int} (h : bs[y]? = some b) : relB a (bs.take (y + 1)) M = setB (relB a (bs.take y) M) a.toNat b.toNat true := foldl_tk h
theorem reify_agg2 {S : Store} {im : Bool} {k : Nat} {a b a2 b2 : PV} (h1 : reify S im k a = some a2) (h2 : reify S im k b = some b2) : reify S im (k + 1) (.agg [a,b]) = some (.agg [a2,b2]) := by
 simp [reify,h1,h2]
theorem gMid1 {nr : Nat} {x : Ob} {B : List Ob} : (relObs 1 1 (emptyM nr) ++ [x] ++ B)[nr + 1]? = some x := by
 have : (relObs 1 1 (emptyM nr)).length = nr + 1 := by simp [relObs_len,emptyM]
 rw [List.append_assoc,List.getElem?_append_right (by omega),this]; simp
theorem sMid1 {nr : Nat} {x y : Ob} {B : List Ob} : (relObs 1 1 (emptyM nr) ++ [x] ++ B).set (nr + 1) y = relObs 1 1 (emptyM nr) ++ [y] ++ B := by
 have : (relObs 1 1 (emptyM nr)).length = nr + 1 := by simp [relObs_len,emptyM]
 rw [List.append_assoc,List.set_append_right _ _ (by omega),this]; simp
theorem eRunM_f {P : Program} {T : Tab} {e : Env} {S : Store} {ds pd : List (Option Tmp)} {t d : Nat} {o : Oper} {r l2 : List Oper} {K : Env → Store → Prop} (hp : pd.contains o.dst = false) (h : isFlatE o.op = true)
  (k : eRun false P T ds [o] e S fun e S => eRunM P T ds pd t d l2 r e S K) : eRunM P T ds pd t d l2 (o :: r) e S K := (eRunM_flat hp h).symm ▸ k
theorem gEnd {l : List Ob} {a : Ob} : (l ++ [a])[l.length]? = some a := by simp
theorem setEnd {l : List Ob} {a b : Ob} : (l ++ [a]).set l.length b = l ++ [b] := by simp
theorem emptyM_len {n : Nat} : (emptyM n).length = n := by simp [emptyM]
end
end Fw
end Go.Proofs.YtjobkanbijpfgaaGreat
