/- Parts of the framework and of the proof: Orders of the program, gone through; Heaviest sums in plain words; Numbers put in order by putting one after the other in; Sort, gone through; How many rooms meet at the points of a grid of the program; Points of the program, gone through; The text of a grid; strings.Builder: copyCheck and String, in the model's own words; The text of a plan of the program, gone through; How the program numbers rooms and finds the rectangles around them; The numbering of rooms by the program, gone through; The numbering of all rooms of a grid; Grids of the program, gone through; A plan of a grid, as the program finds it; Plans of the program, gone through; Plans that are read, in plain words; Reading plans, gone through; The two closures of relations are the same; The heaviest sums and the least sizes are the same; The program's walls and orders are the specification's; The program's direct orders are the specification's; Sums and counts of cells; The least rectangle around cells, by the program; The least rectangle around a room and its cells, by the specification; Plans that are read are the specification's: grids and names. -/
import Derived.Test.YtjobkanbijpfgaaGreatJ2
import Derived.Test.YtjobkanbijpfgaaGreatJ1
import Derived.Lib.Builder
import Derived.Lib.UnsafeStr
import Derived.Lib.Walk
import Derived.WalkKit
import Derived.Laws.Externs
set_option linter.all false
namespace Go.Proofs.YtjobkanbijpfgaaGreat
namespace Fw
open Go
open Nat (reduceEqDiff reduceLeDiff reduceAdd reduceMul)
theorem closeL_ev {nr tk : Nat} (Y : Lay nr) {o2 o3 : Ob} {R : List Ob} {L A : List (List Bool)} (hL : Sq nr L) (hn : nr ≤ 9) :
  Ev Tryz.prog 86 [.loc Y.pL Y.vL 0 nr] ⟨Y.f o2 o3 R L A,tk⟩ fun v S => v = .tup [] ∧ S = ⟨Y.f o2 o3 R (closeM L) A,tk⟩ := by
 obtain ⟨F,R',hp,hF⟩ := Y.splL (o2 := o2) (o3 := o3) (R := R) (L := L) (A := A)
 rw [hp,hF L rfl,hF (closeM L) (by rw [hL.1,hL.close.1])]
 exact close_ev hL hn
theorem closeA_ev {nr tk : Nat} (Y : Lay nr) {o2 o3 : Ob} {R : List Ob} {L A : List (List Bool)} (hL : L.length = nr) (hA : Sq nr A) (hn : nr ≤ 9) :
  Ev Tryz.prog 86 [.loc Y.pA Y.vA 0 nr] ⟨Y.f o2 o3 R L A,tk⟩ fun v S => v = .tup [] ∧ S = ⟨Y.f o2 o3 R L (closeM A),tk⟩ := by
 obtain ⟨F,R',hp,hF⟩ := Y.splA (o2 := o2) (o3 := o3) (R := R) (L := L) (A := A) hL
 rw [hp,hF A rfl,hF (closeM A) (by rw [hA.1,hA.close.1])]
 exact close_ev hA hn
theorem orders_pc {g : List (List Int)} {nh nw nr : Nat} (hg : GW g nh nw) {rs : List Rect} (hr : rs.length = nr) (hn : nr ≤ 9) (hrm : RmOk g nh nw nr) : PC Tryz.prog 41 [eFloor g rs] (.agg [eRel (leftG g nh nw nr),eRel (aboveG g nh nw nr)]) true := by
 have hwsl := wsI_len (g := g) (nh := nh) (nw := nw) (i := 2) hg.2.2.2.1 hg.2.2.2.2.2
 rw [show wsI g nh nw 2 = wallsG g nh nw from rfl] at hwsl
 refine PC.of ⟨Tryz.func41,by kernel_rfl,rfl,by kernel_rfl⟩ tabOk mixed (by show 1 ≤ Tryz.f41.ntmps; decide) ?_
 refine W.r fun K hK => ?_
 simp (disch := omega) only [↓RU,RV,RH,↓reduceIte,reduceEqDiff,reduceCtorEq,if_pos,↓RS,RG,reduceAdd,reduceMul,reduceLeDiff,ty0,ty2,tybool,ty12,ty16,ty25]
 refine hK _ _ ?_;clear hK K
 refine W.join [0,2,3] (fun vs S => ∃ (Y : Lay nr) (tk : Nat),vs = [eFloor g rs,.ref 0 0 0,.ref Y.p3 Y.v3 0] ∧ S = ⟨Y.f (.arr 0 68 2 [.nils,.nils]) (.arr Y.v3 68 2 [.loc Y.pL Y.vL 0 nr,.loc Y.pA Y.vA 0 nr]) [] (emptyM nr) (emptyM nr),tk⟩) ?_ ?_
 ·
  refine W.region_mk (r1 := [_,_,_,_,_,_,_,_,_,_,_,_,_]) (r2 := [_]) 13 68 3 [0,1,2,3,4,6,7,8,9,10,5,11,12] [14] [7,8,9,10] [some 20,some 21,some 22,some 23] (by kernel_rfl) (by kernel_rfl) (by kernel_rfl) rfl rfl fun K hK => ?_
  refine eRunM_f rfl rfl ?_
  simp (disch := omega) only [↓RU,RV,RH,↓reduceIte,reduceEqDiff,reduceCtorEq,if_pos,List.append_nil,↓RS,RG,reduceAdd,reduceMul,reduceLeDiff,ty0,ty1,ty2,ty3,tyLint,tybool,ty10,ty11,ty12,ty15,ty16,tyint,ty24,ty25,ty28,hr,up_rel,relObs_len,emptyM_len,gEnd,setEnd,gMid1,sMid1]
  refine eRunM_f rfl rfl ?_
  simp (disch := omega) only [↓RU,RV,RH,↓reduceIte,reduceEqDiff,reduceCtorEq,if_pos,List.append_nil,↓RS,RG,reduceAdd,reduceMul,reduceLeDiff,ty0,ty1,ty2,ty3,tyLint,tybool,ty10,ty11,ty12,ty15,ty16,tyint,ty24,ty25,ty28,hr,up_rel,relObs_len,emptyM_len,gEnd,setEnd,gMid1,sMid1]
  refine eRunM_f rfl rfl ?_
  simp (disch := omega) only [↓RU,RV,RH,↓reduceIte,reduceEqDiff,reduceCtorEq,if_pos,List.append_nil,↓RS,RG,reduceAdd,reduceMul,reduceLeDiff,ty0,ty1,ty2,ty3,tyLint,tybool,ty10,ty11,ty12,ty15,ty16,tyint,ty24,ty25,ty28,hr,up_rel,relObs_len,emptyM_len,gEnd,setEnd,gMid1,sMid1]
  refine eRunM_f rfl rfl ?_
  simp (disch := omega) only [↓RU,RV,RH,↓reduceIte,reduceEqDiff,reduceCtorEq,if_pos,List.append_nil,↓RS,RG,reduceAdd,reduceMul,reduceLeDiff,ty0,ty1,ty2,ty3,tyLint,tybool,ty10,ty11,ty12,ty15,ty16,tyint,ty24,ty25,ty28,hr,up_rel,relObs_len,emptyM_len,gEnd,setEnd,gMid1,sMid1]
  refine eRunM_f rfl rfl ?_
  simp (disch := omega) only [↓RU,RV,RH,↓reduceIte,reduceEqDiff,reduceCtorEq,if_pos,List.append_nil,↓RS,RG,reduceAdd,reduceMul,reduceLeDiff,ty0,ty1,ty2,ty3,tyLint,tybool,ty10,ty11,ty12,ty15,ty16,tyint,ty24,ty25,ty28,hr,up_rel,relObs_len,emptyM_len,gEnd,setEnd,gMid1,sMid1]
  refine eRunM_f rfl rfl ?_
  simp (disch := omega) only [↓RU,RV,RH,↓reduceIte,reduceEqDiff,reduceCtorEq,if_pos,List.append_nil,↓RS,RG,reduceAdd,reduceMul,reduceLeDiff,ty0,ty1,ty2,ty3,tyLint,tybool,ty10,ty11,ty12,ty15,ty16,tyint,ty24,ty25,ty28,hr,up_rel,relObs_len,emptyM_len,gEnd,setEnd,gMid1,sMid1]
  refine eRunM_pend rfl rfl rfl (fun S' => rfl) ?_
  refine eRunM_pend rfl rfl rfl (fun S' => rfl) ?_
  refine eRunM_pend rfl rfl rfl (fun S' => rfl) ?_
  refine eRunM_pend rfl rfl rfl (fun S' => rfl) ?_
  refine eRunM_eff rfl (by decide) ?_ ?_
  ·simp (disch := omega) only [↓RU,RV,RH,↓reduceIte,reduceEqDiff,reduceCtorEq,if_pos,List.append_nil,↓RS,RG,reduceAdd,reduceMul,reduceLeDiff,ty0,ty1,ty2,ty3,tyLint,tybool,ty10,ty11,ty12,ty15,ty16,tyint,ty24,ty25,ty28,hr,up_rel,relObs_len,emptyM_len,gEnd,setEnd,gMid1,sMid1]
   refine CallR.pn (emptyRel_pn hn) rfl (.inl rfl) ?_
   simp (disch := omega) only [↓RU,RV,RH,↓reduceIte,reduceEqDiff,reduceCtorEq,if_pos,List.append_nil,↓RS,RG,reduceAdd,reduceMul,reduceLeDiff,ty0,ty1,ty2,ty3,tyLint,tybool,ty10,ty11,ty12,ty15,ty16,tyint,ty24,ty25,ty28,hr,up_rel,relObs_len,emptyM_len,gEnd,setEnd,gMid1,sMid1,RN]
   refine CallR.pn (emptyRel_pn hn) rfl (.inl rfl) ?_
   simp (disch := omega) only [↓RU,RV,RH,↓reduceIte,reduceEqDiff,reduceCtorEq,if_pos,List.append_nil,↓RS,RG,reduceAdd,reduceMul,reduceLeDiff,ty0,ty1,ty2,ty3,tyLint,tybool,ty10,ty11,ty12,ty15,ty16,tyint,ty24,ty25,ty28,hr,up_rel,relObs_len,emptyM_len,gEnd,setEnd,gMid1,sMid1,RN]
   refine hK _ _ ?_;clear hK K
   refine xn ?_
   refine ⟨_,lay1 nr,4,?_,take_all_of ?_⟩
   ·simp [Env.put,Env.of,argEnv,lay1,relObs_len,emptyM_len]; try omega
   ·simp [lay1,relObs_len,emptyM_len]
  ·simp (disch := omega) only [↓RU,RV,RH,↓reduceIte,reduceEqDiff,reduceCtorEq,if_pos,List.append_nil,↓RS,RG,reduceAdd,reduceMul,reduceLeDiff,ty0,ty1,ty2,ty3,tyLint,tybool,ty10,ty11,ty12,ty15,ty16,tyint,ty24,ty25,ty28,hr,up_rel,relObs_len,emptyM_len,gEnd,setEnd,gMid1,sMid1]
   refine CallR.pn (emptyRel_pn hn) rfl (.inl rfl) ?_
   simp (disch := omega) only [↓RU,RV,RH,↓reduceIte,reduceEqDiff,reduceCtorEq,if_pos,List.append_nil,↓RS,RG,reduceAdd,reduceMul,reduceLeDiff,ty0,ty1,ty2,ty3,tyLint,tybool,ty10,ty11,ty12,ty15,ty16,tyint,ty24,ty25,ty28,hr,up_rel,relObs_len,emptyM_len,gEnd,setEnd,gMid1,sMid1,RN]
   refine eRunM_eff rfl (by decide) ?_ ?_
   ·simp (disch := omega) only [↓RU,RV,RH,↓reduceIte,reduceEqDiff,reduceCtorEq,if_pos,List.append_nil,↓RS,RG,reduceAdd,reduceMul,reduceLeDiff,ty0,ty1,ty2,ty3,tyLint,tybool,ty10,ty11,ty12,ty15,ty16,tyint,ty24,ty25,ty28,hr,up_rel,relObs_len,emptyM_len,gEnd,setEnd,gMid1,sMid1]
    refine CallR.pn (emptyRel_pn hn) rfl (.inl rfl) ?_
    simp (disch := omega) only [↓RU,RV,RH,↓reduceIte,reduceEqDiff,reduceCtorEq,if_pos,List.append_nil,↓RS,RG,reduceAdd,reduceMul,reduceLeDiff,ty0,ty1,ty2,ty3,tyLint,tybool,ty10,ty11,ty12,ty15,ty16,tyint,ty24,ty25,ty28,hr,up_rel,relObs_len,emptyM_len,gEnd,setEnd,gMid1,sMid1,RN]
    refine hK _ _ ?_;clear hK K
    refine xn ?_
    refine ⟨_,lay2 nr,4,?_,take_all_of ?_⟩
    ·simp [Env.put,Env.of,argEnv,lay2,relObs_len,emptyM_len]; try omega
    ·simp [lay2,relObs_len,emptyM_len]
   ·simp (disch := omega) only [↓RU,RV,RH,↓reduceIte,reduceEqDiff,reduceCtorEq,if_pos,List.append_nil,↓RS,RG,reduceAdd,reduceMul,reduceLeDiff,ty0,ty1,ty2,ty3,tyLint,tybool,ty10,ty11,ty12,ty15,ty16,tyint,ty24,ty25,ty28,hr,up_rel,relObs_len,emptyM_len,gEnd,setEnd,gMid1,sMid1]
    refine CallR.pn (emptyRel_pn hn) rfl (.inl rfl) ?_
    simp (disch := omega) only [↓RU,RV,RH,↓reduceIte,reduceEqDiff,reduceCtorEq,if_pos,List.append_nil,↓RS,RG,reduceAdd,reduceMul,reduceLeDiff,ty0,ty1,ty2,ty3,tyLint,tybool,ty10,ty11,ty12,ty15,ty16,tyint,ty24,ty25,ty28,hr,up_rel,relObs_len,emptyM_len,gEnd,setEnd,gMid1,sMid1,RN]
    refine eRunM_f rfl rfl ?_
    simp (disch := omega) only [↓RU,RV,RH,↓reduceIte,reduceEqDiff,reduceCtorEq,if_pos,List.append_nil,↓RS,RG,reduceAdd,reduceMul,reduceLeDiff,ty0,ty1,ty2,ty3,tyLint,tybool,ty10,ty11,ty12,ty15,ty16,tyint,ty24,ty25,ty28,hr,up_rel,relObs_len,emptyM_len,gEnd,setEnd,gMid1,sMid1,RN]
    refine ⟨by decide,?_⟩
    simp (disch := omega) only [↓RU,RV,RH,↓reduceIte,reduceEqDiff,reduceCtorEq,if_pos,List.append_nil,↓RS,RG,reduceAdd,reduceMul,reduceLeDiff,ty0,ty1,ty2,ty3,tyLint,tybool,ty10,ty11,ty12,ty15,ty16,tyint,ty24,ty25,ty28,hr,up_rel,relObs_len,emptyM_len,gEnd,setEnd,gMid1,sMid1,RN]
    refine hK _ _ ?_;clear hK K
    refine xn ?_
    refine ⟨_,lay3 nr,4,?_,take_all_of ?_⟩
    ·simp [Env.put,Env.of,argEnv,lay3,relObs_len,emptyM_len]; try omega
    ·simp [lay3,relObs_len,emptyM_len]
 rintro vs S - ⟨Y,tk,rfl,rfl⟩
 refine W.seq ?_
 refine W.r fun K hK => ?_
 simp (disch := omega) only [↓RU,RV,RH,↓reduceIte,reduceEqDiff,reduceCtorEq,if_pos,List.append_nil,↓RS,RG,reduceAdd,reduceMul,reduceLeDiff,ty4,tybool,ty17,tyint,ty26,gEnd,setEnd]
 refine CallR.pc (walls_pc hg rs) rfl (.inl rfl) ?_
 simp (disch := omega) only [↓RU,RV,RH,↓reduceIte,reduceEqDiff,reduceCtorEq,if_pos,List.append_nil,↓RS,RG,reduceAdd,reduceMul,reduceLeDiff,ty4,tybool,ty17,tyint,ty26,gEnd,setEnd]
 refine hK _ _ ?_;clear hK K
 refine W.block ?_
 refine W.loop [0,2,3,27,28,29] (fun n vs S => ∃ i tk : Nat,n = (wallsG g nh nw).length - i ∧ i ≤ (wallsG g nh nw).length ∧ vs = [eFloor g rs,.ref 0 0 0,.ref Y.p3 Y.v3 0,eWalls (wallsG g nh nw),.int .i64 (wallsG g nh nw).length,.int .i64 i] ∧ S = ⟨Y.f (.arr 0 68 2 [.nils,.nils]) (.arr Y.v3 68 2 [.loc Y.pL Y.vL 0 nr,.loc Y.pA Y.vA 0 nr]) [] (((wallsG g nh nw).take i).foldl (ordW g) (emptyM nr,emptyM nr)).1 (((wallsG g nh nw).take i).foldl (ordW g) (emptyM nr,emptyM nr)).2,tk⟩) (wallsG g nh nw).length ?_ ?_
 ·refine ⟨_,0,tk,rfl,by omega,?_,take_all_of rfl⟩
  simp [Env.put,Env.of,argEnv]
 rintro n vs S - ⟨i,tk,rfl,h_i,rfl,rfl⟩
 refine W.r fun K hK => ?_
 simp (disch := omega) only [↓RU,RV,RH,↓reduceIte,reduceEqDiff,reduceCtorEq,if_pos,w64,↓RS,RG,reduceAdd,reduceMul,reduceLeDiff,tyint]
 refine hK _ _ ?_;clear hK K
 refine W.seq ?_
 refine W.cond rfl (fun h => ?_) (fun h => ?_)
 ·try simp only [RL] at h
  obtain ⟨w,hw,hwm⟩ := get_of (show i < (wallsG g nh nw).length by omega)
  obtain ⟨hL,hA⟩ := ordTo_sq hrm (ws := (wallsG g nh nw).take i) (fun w hw => wallsG_ok w (List.mem_of_mem_take hw)) (M := (emptyM nr,emptyM nr)) (emptyM_sq nr) (emptyM_sq nr)
  generalize hMe : (((wallsG g nh nw).take i).foldl (ordW g) (emptyM nr,emptyM nr)) = M at hL hA
  obtain ⟨ln,fr,lg,hwe,hlg,hin⟩ := wallsG_ok w hwm
  obtain ⟨lv,wl,wf,wg⟩ := w
  simp only [Wall.mk.injEq,true_and] at hwe hin
  obtain ⟨rfl,rfl,rfl⟩ := hwe
  have hsr := sidesOf_rooms hrm (wallsG_ok _ hwm)
  obtain ⟨hLl,-⟩ := id hL
  obtain ⟨hAl,-⟩ := id hA
  refine W.skip ?_
  refine xn ?_
  refine W.seq ?_
  refine W.block ?_
  refine W.r fun K hK => ?_
  simp (disch := omega) only [↓RU,RV,RH,↓reduceIte,reduceEqDiff,reduceCtorEq,if_pos,↓RS,RG,reduceAdd,reduceMul,reduceLeDiff,ty4,tybool,ty17,tyint,ty26,hMe,hw,wcs_at hw,wcs_len,Y.app,Y.len hLl hAl,Y.get4 hLl hAl,Y.set4 hLl hAl,Wall.cells]
  refine hK _ _ ?_;clear hK K
  refine W.r fun K hK => ?_
  simp (disch := omega) only [↓RU,RV,RH,↓reduceIte,reduceEqDiff,reduceCtorEq,if_pos,↓RS,RG,reduceAdd,reduceMul,reduceLeDiff,ty0,ty2,tybool,ty12,ty16,ty25,Y.get3 hLl hAl]
  refine hK _ _ ?_;clear hK K
  refine W.join [0,2,3,27,28,29,5,6] (fun vs S => vs = [eFloor g rs,.ref 0 0 0,.ref Y.p3 Y.v3 0,eWalls (wallsG g nh nw),.int .i64 (wallsG g nh nw).length,.int .i64 i,.ref (2 * nr + 4) tk 0,(if lv then .loc Y.pA Y.vA 0 nr else .loc Y.pL Y.vL 0 nr)] ∧ S = ⟨Y.f (.arr 0 68 2 [.nils,.nils]) (.arr Y.v3 68 2 [.loc Y.pL Y.vL 0 nr,.loc Y.pA Y.vA 0 nr]) [.arr tk 116 4 [.bool lv,.int .i64 ln,.int .i64 fr,.int .i64 lg]] M.1 M.2,tk + 1⟩) ?_ ?_
  ·
   refine W.r fun K hK => ?_
   simp (disch := omega) only [↓RU,RV,RH,↓reduceIte,reduceEqDiff,reduceCtorEq,if_pos,↓RS,RG,reduceAdd,reduceMul,reduceLeDiff,tybool,ty17,tyint,ty26,Y.get4 hLl hAl]
   refine hK _ _ ?_;clear hK K
   refine W.cond rfl (fun h1 => ?_) (fun h1 => ?_)
   ·try simp only [RL] at h1
    refine W.k fun K hK => ?_
    simp (disch := omega) only [↓RU,RV,RH,↓reduceIte,reduceEqDiff,reduceCtorEq,if_pos,↓RS,RG,reduceAdd,reduceMul,reduceLeDiff,ty0,ty2,tybool,ty12,ty16,ty25,Y.get3 hLl hAl]
    refine hK _ _ ?_;clear hK K
    refine xn ?_
    refine ⟨_,?_,take_all⟩
    simp [Env.put,Env.of,h1]
   ·try simp only [RL] at h1
    refine W.skip ?_
    refine xn ?_
    refine ⟨_,?_,take_all⟩
    simp [Env.put,Env.of,h1]
  rintro vs S - ⟨rfl,rfl⟩
  refine W.r fun K hK => ?_
  simp (disch := omega) only [↓RU,RV,RH,↓reduceIte,reduceEqDiff,reduceCtorEq,if_pos,List.append_nil,↓RS,RG,reduceAdd,reduceMul,reduceLeDiff,tybool,ty17,tyint,ty26,Y.get4 hLl hAl]
  refine CallR.pc (along_pc hg rs hlg fun j a b => (hin j a b).1) rfl (.inl rfl) ?_
  simp (disch := omega) only [↓RU,RV,RH,↓reduceIte,reduceEqDiff,reduceCtorEq,if_pos,List.append_nil,↓RS,RG,reduceAdd,reduceMul,reduceLeDiff,tybool,ty17,tyint,ty26,Y.get4 hLl hAl]
  refine hK _ _ ?_;clear hK K
  have hs1 : ddp (alongG g lv ln fr lg).1 = (sidesOf g ⟨lv,ln,fr,lg⟩).1 := by simp [sidesOf]
  have hs2 : ddp (alongG g lv ln fr lg).2 = (sidesOf g ⟨lv,ln,fr,lg⟩).2 := by simp [sidesOf]
  rw [hs1,hs2]
  obtain ⟨hsr1,hsr2⟩ := hsr
  have hsl := sidesOf_len hg (wallsG_ok _ hwm)
  generalize hasE : (sidesOf g ⟨lv,ln,fr,lg⟩).1 = av at hsr1 hsl
  generalize hbsE : (sidesOf g ⟨lv,ln,fr,lg⟩).2 = bv at hsr2 hsl
  refine W.r fun K hK => ?_
  simp (disch := omega) only [↓RU,RV,RH,↓reduceIte,reduceEqDiff,reduceCtorEq,if_pos,↓RS,RG,reduceAdd,reduceMul,reduceLeDiff,tyLint,tyint]
  refine hK _ _ ?_;clear hK K
  refine W.block ?_
  refine W.loop [0,2,3,27,28,29,6,8,45,46,47] (fun n vs S => ∃ x tk : Nat,n = av.length - x ∧ x ≤ av.length ∧ vs = [eFloor g rs,.ref 0 0 0,.ref Y.p3 Y.v3 0,eWalls (wallsG g nh nw),.int .i64 (wallsG g nh nw).length,.int .i64 i,(if lv then .loc Y.pA Y.vA 0 nr else .loc Y.pL Y.vL 0 nr),eInts bv,eInts av,.int .i64 av.length,.int .i64 x] ∧ S = ⟨Y.f (.arr 0 68 2 [.nils,.nils]) (.arr Y.v3 68 2 [.loc Y.pL Y.vL 0 nr,.loc Y.pA Y.vA 0 nr]) [] (selM lv M (relW (baseM lv M) (av.take x) bv)).1 (selM lv M (relW (baseM lv M) (av.take x) bv)).2,tk⟩) av.length ?_ ?_
  ·refine ⟨2 * nr + 4,0,tk + 1,rfl,by omega,?_,?_⟩
   ·simp [Env.put,Env.of]
   ·rw [Y.take hLl hAl,List.take_zero]; rw [show relW (baseM lv M) [] bv = baseM lv M from rfl,selM_base]
  rintro n vs S - ⟨x,tk,rfl,h_x,rfl,rfl⟩
  refine W.r fun K hK => ?_
  simp (disch := omega) only [↓RU,RV,RH,↓reduceIte,reduceEqDiff,reduceCtorEq,if_pos,w64,↓RS,RG,reduceAdd,reduceMul,reduceLeDiff,tyint]
  refine hK _ _ ?_;clear hK K
  refine W.seq ?_
  refine W.cond rfl (fun h2 => ?_) (fun h2 => ?_)
  ·try simp only [RL] at h2
   obtain ⟨a,ha,ham⟩ := get_of (show x < av.length by omega)
   have hab := hsr1 a ham
   have hX : Sq nr (relW (baseM lv M) (av.take x) bv) := Sq.relW (fun a ha => by have := hsr1 a (List.mem_of_mem_take ha); omega) (baseM_sq hL hA)
   generalize hXe : relW (baseM lv M) (av.take x) bv = X at hX
   have hasl2 := hsl.1
   have hbsl2 := hsl.2
   refine W.skip ?_
   refine xn ?_
   refine W.seq ?_
   refine W.block ?_
   refine W.r fun K hK => ?_
   simp (disch := omega) only [↓RU,RV,RH,↓reduceIte,reduceEqDiff,reduceCtorEq,if_pos,↓RS,RG,reduceAdd,reduceMul,reduceLeDiff,tyLint,tyint,ha]
   refine hK _ _ ?_;clear hK K
   refine W.r fun K hK => ?_
   simp (disch := omega) only [↓RU,RV,RH,↓reduceIte,reduceEqDiff,reduceCtorEq,if_pos,↓RS,RG,reduceAdd,reduceMul,reduceLeDiff,tyLint,tyint]
   refine hK _ _ ?_;clear hK K
   refine W.block ?_
   refine W.loop [0,2,3,27,28,29,6,8,45,46,47,10,51,52,53] (fun n vs S => ∃ y tk : Nat,n = bv.length - y ∧ y ≤ bv.length ∧ vs = [eFloor g rs,.ref 0 0 0,.ref Y.p3 Y.v3 0,eWalls (wallsG g nh nw),.int .i64 (wallsG g nh nw).length,.int .i64 i,(if lv then .loc Y.pA Y.vA 0 nr else .loc Y.pL Y.vL 0 nr),eInts bv,eInts av,.int .i64 av.length,.int .i64 x,.int .i64 a,eInts bv,.int .i64 bv.length,.int .i64 y] ∧ S = ⟨Y.f (.arr 0 68 2 [.nils,.nils]) (.arr Y.v3 68 2 [.loc Y.pL Y.vL 0 nr,.loc Y.pA Y.vA 0 nr]) [] (selM lv M (relB a (bv.take y) X)).1 (selM lv M (relB a (bv.take y) X)).2,tk⟩) bv.length ?_ ?_
   ·refine ⟨_,0,tk,rfl,by omega,?_,take_all_of ?_⟩
    ·simp [Env.put,Env.of]
    ·rfl
   rintro n vs S - ⟨y,tk,rfl,h_y,rfl,rfl⟩
   refine W.r fun K hK => ?_
   simp (disch := omega) only [↓RU,RV,RH,↓reduceIte,reduceEqDiff,reduceCtorEq,if_pos,w64,↓RS,RG,reduceAdd,reduceMul,reduceLeDiff,tyint]
   refine hK _ _ ?_;clear hK K
   refine W.seq ?_
   refine W.cond rfl (fun h3 => ?_) (fun h3 => ?_)
   ·try simp only [RL] at h3
    obtain ⟨b,hb,hbm⟩ := get_of (show y < bv.length by omega)
    have hbb := hsr2 b hbm
    have hZ : Sq nr (relB a (bv.take y) X) := hX.relB (by omega)
    generalize hZe : relB a (bv.take y) X = Z at hZ
    obtain ⟨a,rfl⟩ : ∃ a2 : Nat,a = a2 := ⟨a.toNat,by omega⟩
    obtain ⟨b,rfl⟩ : ∃ b2 : Nat,b = b2 := ⟨b.toNat,by omega⟩
    obtain ⟨row,hrow,hrl,-⟩ := hZ.at_ (show a < nr by omega) (show b < nr by omega)
    have hZl := hZ.1
    refine W.skip ?_
    refine xn ?_
    refine W.seq ?_
    refine W.block ?_
    refine W.r fun K hK => ?_
    simp (disch := omega) only [↓RU,RV,RH,↓reduceIte,reduceEqDiff,reduceCtorEq,if_pos,↓RS,RG,reduceAdd,reduceMul,reduceLeDiff,tyLint,tyint,hb]
    refine hK _ _ ?_;clear hK K
    refine W.k fun K hK => ?_
    cases lv
    ·skip
     simp only [selM,Bool.false_eq_true,if_false]
     try rw [hZe]
     simp (disch := omega) only [↓RU,RV,RH,↓reduceIte,reduceEqDiff,reduceCtorEq,if_pos,↓RS,RG,reduceAdd,reduceMul,reduceLeDiff,ty0,ty2,tybool,ty16,Y.getL hZl,Y.getLr hrow,rg_get,hrl,set_spl,set_bool,Y.setL hZl]
     refine hK _ _ ?_;clear hK K
     refine XbN ?_
     refine xn ?_
     refine W.k fun K hK => ?_
     simp (disch := omega) only [↓RU,RV,RH,↓reduceIte,reduceEqDiff,reduceCtorEq,if_pos,w64,↓RS,RG,reduceAdd,reduceMul,reduceLeDiff,tyint]
     refine hK _ _ ?_;clear hK K
     refine xn ?_
     refine ⟨bv.length - (y + 1),by omega,_,y + 1,tk,rfl,by omega,?_,take_all_of ?_⟩
     ·simp [Env.put,Env.of]
     ·rw [relB_tk hb,hZe,Int.toNat_natCast,Int.toNat_natCast,setB_is hrow]; rfl
    ·skip
     simp only [selM,if_true]
     try rw [hZe]
     simp (disch := omega) only [↓RU,RV,RH,↓reduceIte,reduceEqDiff,reduceCtorEq,if_pos,↓RS,RG,reduceAdd,reduceMul,reduceLeDiff,ty0,ty2,tybool,ty16,Y.getA hLl hZl,Y.getAr hLl hrow,rg_get,hrl,set_spl,set_bool,Y.setA hLl hZl]
     refine hK _ _ ?_;clear hK K
     refine XbN ?_
     refine xn ?_
     refine W.k fun K hK => ?_
     simp (disch := omega) only [↓RU,RV,RH,↓reduceIte,reduceEqDiff,reduceCtorEq,if_pos,w64,↓RS,RG,reduceAdd,reduceMul,reduceLeDiff,tyint]
     refine hK _ _ ?_;clear hK K
     refine xn ?_
     refine ⟨bv.length - (y + 1),by omega,_,y + 1,tk,rfl,by omega,?_,take_all_of ?_⟩
     ·simp [Env.put,Env.of]
     ·rw [relB_tk hb,hZe,Int.toNat_natCast,Int.toNat_natCast,setB_is hrow]; rfl
   ·try simp only [RL] at h3
    obtain rfl : y = bv.length := by omega
    rw [List.take_length]
    refine W.exit ?_
    refine xe ?_
    refine xe ?_
    refine XBlock.hit ?_
    refine XbN ?_
    refine xn ?_
    refine W.k fun K hK => ?_
    simp (disch := omega) only [↓RU,RV,RH,↓reduceIte,reduceEqDiff,reduceCtorEq,if_pos,w64,↓RS,RG,reduceAdd,reduceMul,reduceLeDiff,tyint]
    refine hK _ _ ?_;clear hK K
    refine xn ?_
    refine ⟨av.length - (x + 1),by omega,_,x + 1,tk,rfl,by omega,?_,take_all_of ?_⟩
    ·simp [Env.put,Env.of]
    ·rw [relW_tk ha,hXe]
  ·try simp only [RL] at h2
   obtain rfl : x = av.length := by omega
   refine W.exit ?_
   refine xe ?_
   refine xe ?_
   refine XBlock.hit ?_
   refine XbN ?_
   refine xn ?_
   refine W.k fun K hK => ?_
   simp (disch := omega) only [↓RU,RV,RH,↓reduceIte,reduceEqDiff,reduceCtorEq,if_pos,w64,↓RS,RG,reduceAdd,reduceMul,reduceLeDiff,tyint]
   refine hK _ _ ?_;clear hK K
   refine xn ?_
   refine ⟨(wallsG g nh nw).length - (i + 1),by omega,_,i + 1,tk,rfl,by omega,?_,take_all_of ?_⟩
   ·simp [Env.put,Env.of]
   ·rw [foldl_tk hw,hMe,ordW_sel,List.take_length,hasE,hbsE]
 ·try simp only [RL] at h
  obtain rfl : i = (wallsG g nh nw).length := by omega
  rw [List.take_length]
  have hLA := ordTo_sq hrm (ws := wallsG g nh nw) wallsG_ok (M := (emptyM nr,emptyM nr)) (emptyM_sq nr) (emptyM_sq nr)
  rw [show (wallsG g nh nw).foldl (ordW g) (emptyM nr,emptyM nr) = ordM g nh nw nr from rfl] at hLA ⊢
  obtain ⟨hL,hA⟩ := hLA
  have hLl := hL.1
  have hAl := hA.1
  have hLc := hL.close
  have hAc := hA.close
  have hLcl := hLc.1
  have hAcl := hAc.1
  refine W.exit ?_
  refine xe ?_
  refine xe ?_
  refine XBlock.hit ?_
  refine xn ?_
  refine W.r fun K hK => ?_
  simp (disch := omega) only [↓RU,RV,RH,↓reduceIte,reduceEqDiff,reduceCtorEq,if_pos,List.append_nil,↓RS,RG,reduceAdd,reduceMul,reduceLeDiff,ty0,ty2,tybool,ty12,ty16,ty25,Y.get3 hLl hAl]
  refine CallR.ev (closeL_ev Y hL hn) ?_
  rintro _ _ ⟨rfl,rfl⟩
  simp (disch := omega) only [↓RU,RV,RH,↓reduceIte,reduceEqDiff,reduceCtorEq,if_pos,List.append_nil,↓RS,RG,reduceAdd,reduceMul,reduceLeDiff,ty0,ty2,tybool,ty12,ty16,ty25,Y.get3 hLl hAl]
  refine hK _ _ ?_;clear hK K
  refine W.r fun K hK => ?_
  simp (disch := omega) only [↓RU,RV,RH,↓reduceIte,reduceEqDiff,reduceCtorEq,if_pos,List.append_nil,↓RS,RG,reduceAdd,reduceMul,reduceLeDiff,ty0,ty2,tybool,ty12,ty16,ty25,Y.get3 hLcl hAl]
  refine CallR.ev (closeA_ev Y hLcl hA hn) ?_
  rintro _ _ ⟨rfl,rfl⟩
  simp (disch := omega) only [↓RU,RV,RH,↓reduceIte,reduceEqDiff,reduceCtorEq,if_pos,List.append_nil,↓RS,RG,reduceAdd,reduceMul,reduceLeDiff,ty0,ty2,tybool,ty12,ty16,ty25,Y.get3 hLcl hAl]
  refine hK _ _ ?_;clear hK K
  refine W.r fun K hK => ?_
  simp (disch := omega) only [↓RU,RV,RH,↓reduceIte,reduceEqDiff,reduceCtorEq,if_pos,↓RS,RG,reduceAdd,reduceMul,reduceLeDiff,ty0,ty2,tybool,ty12,ty16,ty25,Y.get3 hLcl hAcl,Y.get0,Y.set0]
  refine hK _ _ ?_;clear hK K
  refine W.ret ?_
  refine Br (v := .agg [.loc Y.pL Y.vL 0 nr,.loc Y.pA Y.vA 0 nr]) (by simp only [resPV,resList,show Tryz.f41.results.toList = [.cell 2 68] from rfl,resOne,Env.put,Env.of,reduceEqDiff,↓reduceIte,pLoad_ref,co_eq,Y.get0]; rfl) ?_
  exact reify_agg2 (reify_rel (f := 6) hLc (Y.getL hLcl) fun a row h => Y.getLr h) (reify_rel (f := 6) hAc (Y.getA hLcl hAcl) fun a row h => Y.getAr hLcl h)
def hvF (M : List (List Bool)) (g : Nat → Int) (b i : Nat) : Int := (List.range i).foldl (fun m a => if getB M a b then max m (g a) else m) 0
def hv (M : List (List Bool)) (ws : List Int) (n : Nat) : Nat → Nat → Int
 | 0,_ => 0
 | f + 1,b => hvF M (hv M ws n f) b n + getI ws b
theorem hvF_succ {M : List (List Bool)} {g : Nat → Int} {b i : Nat} : hvF M g b (i + 1) = if getB M i b then max (hvF M g b i) (g i) else hvF M g b i := by
 unfold hvF; rw [foldl_rg]
theorem hvF_congr {M : List (List Bool)} {g h : Nat → Int} {b : Nat} : ∀ {i : Nat},(∀ a,a < i → getB M a b = true → g a = h a) → hvF M g b i = hvF M h b i
 | 0,_ => rfl
 | i + 1,H => by
  rw [hvF_succ,hvF_succ,hvF_congr (i := i) fun a ha => H a (by omega)]
  cases hb : getB M i b with
  | false => rfl
  | true => rw [H i (by omega) hb]
theorem hvF_bound {M : List (List Bool)} {g : Nat → Int} {b : Nat} {B : Int} (hB : 0 ≤ B) : ∀ {i : Nat},(∀ a,a < i → getB M a b = true → g a ≤ B) → 0 ≤ hvF M g b i ∧ hvF M g b i ≤ B
 | 0,_ => by simp [hvF,hB]
 | i + 1,H => by
  have ih := hvF_bound (M := M) (g := g) (b := b) hB (i := i) fun a ha => H a (by omega)
  rw [hvF_succ]
  cases hb : getB M i b with
  | false => simpa using ih
  | true => have := H i (by omega) hb; simp only [if_true]; omega
theorem hvF_ge {M : List (List Bool)} {g : Nat → Int} {b : Nat} : ∀ {i a : Nat},a < i → getB M a b = true → g a ≤ hvF M g b i
 | i + 1,a,h,hb => by
  rw [hvF_succ]
  by_cases e : a = i
  ·subst e; rw [hb]; simp only [if_true]; omega
  ·have := hvF_ge (M := M) (g := g) (i := i) (a := a) (by omega) hb
   split <;> omega
structure Up (M : List (List Bool)) (n : Nat) (rk : Nat → Nat) : Prop where
 sq : Sq n M
 up : ∀ a b,a < n → b < n → getB M a b = true → rk a < rk b
 le : ∀ b,rk b ≤ 100
theorem hv_eq {M : List (List Bool)} {ws : List Int} {n : Nat} {rk : Nat → Nat} (hu : Up M n rk) : ∀ (f f' b : Nat),b < n → rk b < f → rk b < f' → hv M ws n f b = hv M ws n f' b
 | 0,_,_,_,h,_ => by omega
 | _ + 1,0,_,_,_,h => by omega
 | f + 1,f' + 1,b,hb,h1,h2 => by
  show hvF M (hv M ws n f) b n + getI ws b = hvF M (hv M ws n f') b n + getI ws b
  congr 1
  apply hvF_congr
  intro a ha hab
  have h3 := hu.up a b ha hb hab
  exact hv_eq hu f f' a ha (by omega) (by omega)
def HB (M : List (List Bool)) (ws : List Int) (n b : Nat) : Int := hv M ws n 101 b
theorem HB_eq {M : List (List Bool)} {ws : List Int} {n : Nat} {rk : Nat → Nat} (hu : Up M n rk) {b : Nat} (hb : b < n) : HB M ws n b = hvF M (HB M ws n) b n + getI ws b := by
 have e : HB M ws n b = hvF M (hv M ws n 100) b n + getI ws b := rfl
 rw [e,hvF_congr (h := HB M ws n)]
 intro a ha hab
 have h3 := hu.up a b ha hb hab
 have h4 := hu.le b
 exact hv_eq hu 100 101 a ha (by omega) (by omega)
theorem hv_bound {M : List (List Bool)} {ws : List Int} {n : Nat} (hw : NeedOk ws) : ∀ (f b : Nat),0 ≤ hv M ws n f b ∧ hv M ws n f b ≤ 9 * f
 | 0,b => by simp [hv]
 | f + 1,b => by
  have ih := hv_bound (M := M) (n := n) hw f
  have h := hvF_bound (M := M) (g := hv M ws n f) (b := b) (B := 9 * f) (by omega) (i := n) fun a _ _ => (ih a).2
  have hg : 0 ≤ getI ws b ∧ getI ws b ≤ 9 := by
   unfold getI
   cases e : ws[b]? with
   | none => simp
   | some x => have := hw x (List.mem_of_getElem? e); simp; omega
  show 0 ≤ hvF M (hv M ws n f) b n + getI ws b ∧ hvF M (hv M ws n f) b n + getI ws b ≤ 9 * (f + 1 : Nat)
  omega
theorem HB_bound {M : List (List Bool)} {ws : List Int} {n : Nat} (hw : NeedOk ws) (b : Nat) : 0 ≤ HB M ws n b ∧ HB M ws n b ≤ 909 := by
 have := hv_bound (M := M) (n := n) hw 101 b
 unfold HB; omega
theorem HB_pos {M : List (List Bool)} {ws : List Int} {n : Nat} (hw : NeedOk ws) {b : Nat} (hb : b < ws.length) : 1 ≤ HB M ws n b := by
 have ih := hv_bound (M := M) (n := n) hw 100
 have h := hvF_bound (M := M) (g := hv M ws n 100) (b := b) (B := 900) (by omega) (i := n) fun a _ _ => by have := (ih a).2; omega
 obtain ⟨x,hx,hm⟩ := get_of hb
 have := hw x hm
 show 1 ≤ hvF M (hv M ws n 100) b n + getI ws b
 rw [getI_is hx]; omega
def Memo (M : List (List Bool)) (ws : List Int) (n : Nat) (out : List Int) : Prop := out.length = n ∧ ∀ (b : Nat) x,out[b]? = some x → x = 0 ∨ x = HB M ws n b
def Keep (out out' : List Int) : Prop := ∀ (b : Nat) x,out[b]? = some x → x ≠ 0 → out'[b]? = some x
theorem Keep.refl (out : List Int) : Keep out out := fun _ _ h _ => h
theorem Keep.trans {a b c : List Int} (h : Keep a b) (k : Keep b c) : Keep a c := fun i x h1 h2 => k i x (h i x h1 h2) h2
theorem Memo.at_ {M : List (List Bool)} {ws out : List Int} {n : Nat} (h : Memo M ws n out) {b : Nat} (hb : b < n) : ∃ x,out[b]? = some x ∧ (x = 0 ∨ x = HB M ws n b) := by
 obtain ⟨x,hx,-⟩ := get_of (show b < out.length by rw [h.1]; exact hb)
 exact ⟨x,hx,h.2 b x hx⟩
theorem Memo.set {M : List (List Bool)} {ws out : List Int} {n : Nat} (h : Memo M ws n out) {b : Nat} : Memo M ws n (out.set b (HB M ws n b)) := by
 refine ⟨by simpa using h.1,fun c x hx => ?_⟩
 rw [List.getElem?_set] at hx
 split at hx
 ·rename_i e; subst e
  split at hx
  ·cases hx; exact .inr rfl
  ·cases hx
 ·exact h.2 c x hx
theorem Memo.keep {M : List (List Bool)} {ws out : List Int} {n : Nat} (h : Memo M ws n out) {b : Nat} : Keep out (out.set b (HB M ws n b)) := by
 intro c x hx h0
 rw [List.getElem?_set]
 split
 ·rename_i e; subst e
  have := (h.2 b x hx).resolve_left h0
  rw [if_pos (len_of hx),this]
 ·exact hx
def heaviest (M : List (List Bool)) (ws : List Int) (n : Nat) : List Int := (List.range n).map (HB M ws n)
theorem memo_all {M : List (List Bool)} {ws out : List Int} {n : Nat} (h : Memo M ws n out) (hall : ∀ b,b < n → out[b]? = some (HB M ws n b)) : out = heaviest M ws n := by
 apply List.ext_getElem?
 intro i
 by_cases hi : i < n
 ·rw [hall i hi]; simp [heaviest,hi]
 ·rw [List.getElem?_eq_none (by rw [h.1]; omega),List.getElem?_eq_none (by simp [heaviest]; omega)]
theorem memo_zero {M : List (List Bool)} {ws : List Int} {n : Nat} : Memo M ws n (List.replicate n 0) := by
 refine ⟨by simp,fun b x hx => ?_⟩
 rw [List.getElem?_replicate] at hx
 split at hx <;> cases hx
 exact .inl rfl
def maxL : List Int → Int
 | [] => 0
 | a :: l => l.foldl max a
theorem maxL_start {l : List Int} {x0 : Int} : ((l.take 1).drop 1).foldl max x0 = x0 := by
 rw [List.drop_of_length_le (by simp; omega)]; rfl
theorem maxL_step {l : List Int} {x0 x : Int} {i : Nat} (h1 : 1 ≤ i) (h : l[i]? = some x) : ((l.take (i + 1)).drop 1).foldl max x0 = max (((l.take i).drop 1).foldl max x0) x := by
 have hi := len_of h
 rw [tk h,List.drop_append_of_le_length (by simp; omega),List.foldl_append]; rfl
theorem maxL_end {l : List Int} {x0 : Int} {i : Nat} (h0 : l[0]? = some x0) (hi : l.length ≤ i) : ((l.take i).drop 1).foldl max x0 = maxL l := by
 rw [List.take_of_length_le hi]
 cases l with
 | nil => simp at h0
 | cons a l => simp at h0; subst h0; rfl
theorem cells_fn {f : FuncId} {cs : List PV} : (PV.fn f cs).cells = [.fn f cs] := rfl
theorem ic_fn {f : FuncId} {cs : List PV} : (PV.fn f cs).isCell = true := rfl
def Ord (c : List Int) (i : Nat) : Prop := ∀ p q x y,p < q → q < i → c[p]? = some x → c[q]? = some y → x ≤ y
def InsO (c : List Int) (j i : Nat) : Prop := ∀ p q x y,p < q → q ≤ i → q ≠ j → c[p]? = some x → c[q]? = some y → x ≤ y
theorem Ord.one (c : List Int) : Ord c 1 := by intro p q x y h1 h2; omega
theorem Ord.ins {c : List Int} {i : Nat} (h : Ord c i) : InsO c i i := by
 intro p q x y h1 h2 h3 hx hy
 exact h p q x y h1 (by omega) hx hy
theorem InsO.zero {c : List Int} {i : Nat} (h : InsO c 0 i) : Ord c (i + 1) := by
 intro p q x y h1 h2 hx hy
 exact h p q x y h1 (by omega) (by omega) hx hy
theorem InsO.stop {c : List Int} {i j : Nat} {a b : Int} (h : InsO c j i) (ha : c[j]? = some a) (hb : c[j - 1]? = some b) (hle : ¬ a < b) : Ord c (i + 1) := by
 intro p q x y h1 h2 hx hy
 by_cases e : q = j
 ·subst e
  rw [ha] at hy; cases hy
  by_cases e2 : p = q - 1
  ·subst e2; rw [hb] at hx; cases hx; omega
  ·have := h p (q - 1) x b (by omega) (by omega) (by omega) hx hb; omega
 ·exact h p q x y h1 (by omega) e hx hy
theorem InsO.swap {c : List Int} {i j : Nat} {a b : Int} (h : InsO c j i) (hj : j ≠ 0) (hji : j ≤ i) (ha : c[j]? = some a) (hb : c[j - 1]? = some b) (hlt : a < b) : InsO ((c.set j b).set (j - 1) a) (j - 1) i := by
 have hl := len_of ha
 have g : ∀ k,((c.set j b).set (j - 1) a)[k]? = if k = j - 1 then some a else if k = j then some b else c[k]? := by
  intro k
  rw [List.getElem?_set]
  by_cases e : j - 1 = k
  ·rw [if_pos e,if_pos e.symm,if_pos (by simp; omega)]
  ·rw [if_neg e,if_neg (Ne.symm e),List.getElem?_set]
   by_cases e2 : j = k
   ·rw [if_pos e2,if_pos e2.symm,if_pos (by omega)]
   ·rw [if_neg e2,if_neg (Ne.symm e2)]
 intro p q x y h1 h2 h3 hx hy
 rw [g] at hx hy
 rw [if_neg h3] at hy
 by_cases e : q = j
 ·rw [if_pos e] at hy; cases hy
  by_cases e2 : p = j - 1
  ·rw [if_pos e2] at hx; cases hx; omega
  ·rw [if_neg e2,if_neg (by omega)] at hx
   exact h p (j - 1) x b (by omega) (by omega) (by omega) hx hb
 ·rw [if_neg e] at hy
  by_cases e2 : p = j - 1
  ·rw [if_pos e2] at hx; cases hx
   exact h j q a y (by omega) h2 e ha hy
  ·rw [if_neg e2] at hx
   by_cases e3 : p = j
   ·rw [if_pos e3] at hx; cases hx
    exact h (j - 1) q b y (by omega) h2 e hb hy
   ·rw [if_neg e3] at hx
    exact h p q x y h1 h2 e hx hy
theorem swap_perm {c l : List Int} {j : Nat} {a b : Int} (h : c.Perm l) (ha : c[j]? = some a) (hb : c[j - 1]? = some b) : ((c.set j b).set (j - 1) a).Perm l := by
 obtain ⟨h1,e1⟩ := List.getElem?_eq_some_iff.mp ha
 obtain ⟨h2,e2⟩ := List.getElem?_eq_some_iff.mp hb
 have := @List.set_set_perm _ c _ _ h1 h2
 rw [e1,e2] at this
 exact this.trans h
theorem Ord.pair {c : List Int} (h : Ord c c.length) : c.Pairwise (· ≤ ·) := by
 rw [List.pairwise_iff_getElem]
 intro i j hi hj hij
 exact h i j _ _ hij hj (List.getElem?_eq_getElem hi) (List.getElem?_eq_getElem hj)
theorem isNaN_pc {x : Int} : PC Tryz.prog 138 [.int .i64 x] (.bool false) true := by
 refine PC.of ⟨Tryz.func138,by kernel_rfl,rfl,by kernel_rfl⟩ tabOk mixed (by show 1 ≤ Tryz.f138.ntmps; decide) ?_
 refine W.r fun K hK => ?_
 simp (disch := omega) only [↓RU,RV,RH,↓reduceIte,reduceEqDiff,reduceCtorEq,if_pos]
 refine hK _ _ ?_;clear hK K
 refine W.r fun K hK => ?_
 simp (disch := omega) only [↓RU,RV,RH,↓reduceIte,reduceEqDiff,reduceCtorEq,if_pos,w64,tyint]
 refine hK _ _ ?_;clear hK K
 refine W.ret ?_
 refine Br rfl ?_
 rw [show (x != x) = false by simp]
 rfl
theorem less_pc {x y : Int} : PC Tryz.prog 197 [.int .i64 x,.int .i64 y] (.bool (decide (x < y))) true := by
 refine PC.of ⟨Tryz.func197,by kernel_rfl,rfl,by kernel_rfl⟩ tabOk mixed (by show 2 ≤ Tryz.f197.ntmps; decide) ?_
 refine W.r fun K hK => ?_
 simp (disch := omega) only [↓RU,RV,RH,↓reduceIte,reduceEqDiff,reduceCtorEq,if_pos]
 refine hK _ _ ?_;clear hK K
 refine W.r fun K hK => ?_
 simp (disch := omega) only [↓RU,RV,RH,↓reduceIte,reduceEqDiff,reduceCtorEq,if_pos,List.append_nil,w64,tyint]
 refine CallR.pc (isNaN_pc) rfl (.inl rfl) ?_
 simp (disch := omega) only [↓RU,RV,RH,↓reduceIte,reduceEqDiff,reduceCtorEq,if_pos,List.append_nil,w64,tyint]
 refine hK _ _ ?_;clear hK K
 refine W.ret ?_
 refine Br rfl ?_
 rfl
theorem insort_ev {F R : List Ob} {ver t : Nat} {l : List Int} (hl : l.length < 2147483648) (h1 : 1 ≤ l.length) : Ev Tryz.prog 191 [.loc F.length ver 0 l.length,.int .i64 0,.int .i64 l.length] ⟨F ++ .arr ver 3 1 (l.map (.int .i64)) :: R,t⟩ fun v S => v = .tup [] ∧ ∃ z : List Int,z.Perm l ∧ z.Pairwise (· ≤ ·) ∧ S = ⟨F ++ .arr ver 3 1 (z.map (.int .i64)) :: R,t⟩ := by
 refine Ev.of ⟨Tryz.func191,by kernel_rfl,rfl,by kernel_rfl⟩ tabOk mixed (by show 3 ≤ Tryz.f191.ntmps; decide) ?_
 refine W.r fun K hK => ?_
 simp (disch := omega) only [↓RU,RV,RH,↓reduceIte,reduceEqDiff,reduceCtorEq,if_pos,w64,↓RS,RG,reduceAdd,reduceMul,reduceLeDiff,tyint,gF,setF]
 refine hK _ _ ?_;clear hK K
 refine W.block ?_
 refine W.loop [0,1,2,6] (fun n vs S => ∃ (i : Nat) (c : List Int),n = l.length - i ∧ 1 ≤ i ∧ i ≤ l.length ∧ c.Perm l ∧ Ord c i ∧ vs = [.loc F.length ver 0 l.length,.int .i64 0,.int .i64 l.length,.int .i64 i] ∧ S = ⟨F ++ .arr ver 3 1 (c.map (.int .i64)) :: R,t⟩) (l.length - 1) ?_ ?_
 ·refine ⟨_,1,l,rfl,Nat.le_refl _,h1,List.Perm.refl _,Ord.one l,?_,take_all⟩
  simp [Env.put,Env.of,argEnv]
 rintro n vs S - ⟨i,c,rfl,hi1,h_i,hp,ho,rfl,rfl⟩
 refine W.seq ?_
 refine W.r fun K hK => ?_
 simp (disch := omega) only [↓RU,RV,RH,↓reduceIte,reduceEqDiff,reduceCtorEq,if_pos,w64,↓RS,RG,reduceAdd,reduceMul,reduceLeDiff,tyint,gF,setF]
 refine hK _ _ ?_;clear hK K
 refine W.cond rfl (fun h => ?_) (fun h => ?_)
 ·try simp only [RL] at h
  refine W.skip ?_
  refine xn ?_
  refine W.seq ?_
  refine W.block ?_
  refine W.r fun K hK => ?_
  simp (disch := omega) only [↓RU,RV,RH,↓reduceIte,reduceEqDiff,reduceCtorEq,if_pos,↓RS,RG,reduceAdd,reduceMul,reduceLeDiff,gF,setF]
  refine hK _ _ ?_;clear hK K
  refine W.block ?_
  refine W.loop [0,1,2,6,7] (fun n vs S => ∃ (j : Nat) (d : List Int),n = j + 1 ∧ j ≤ i ∧ d.Perm l ∧ InsO d j i ∧ vs = [.loc F.length ver 0 l.length,.int .i64 0,.int .i64 l.length,.int .i64 i,.int .i64 j] ∧ S = ⟨F ++ .arr ver 3 1 (d.map (.int .i64)) :: R,t⟩) (i + 1) ?_ ?_
  ·refine ⟨_,i,c,rfl,Nat.le_refl _,hp,ho.ins,?_,take_all⟩
   simp [Env.put,Env.of]
  rintro n vs S - ⟨j,d,rfl,h_j,hq,hO,rfl,rfl⟩
  refine W.seq ?_
  refine W.seq_draw (by kernel_rfl) fun K hK => ?_
  cases hd : decide ((j : Int) > 0)
  ·skip
   obtain rfl : j = 0 := by simpa using hd
   simp (disch := omega) only [↓RU,RV,RH,↓reduceIte,reduceEqDiff,reduceCtorEq,if_pos,w64,List.append_nil,↓RS,RG,reduceAdd,reduceMul,reduceLeDiff,tyLint,tyint,gF,setF,hd]
   refine hK _ _ ?_;clear hK K
   refine W.cond rfl (fun h2 => ?_) (fun h2 => ?_)
   ·try simp only [RL] at h2
    exact absurd h2 (by simp)
   ·try simp only [RL] at h2
    have hO2 : Ord d (i + 1) := hO.zero
    refine W.exit ?_
    refine xe ?_
    refine xe ?_
    refine XBlock.hit ?_
    refine XbN ?_
    refine xn ?_
    refine W.k fun K hK => ?_
    simp (disch := omega) only [↓RU,RV,RH,↓reduceIte,reduceEqDiff,reduceCtorEq,if_pos,w64,↓RS,RG,reduceAdd,reduceMul,reduceLeDiff,tyint,gF,setF]
    refine hK _ _ ?_;clear hK K
    refine xn ?_
    refine ⟨l.length - (i + 1),by omega,_,i + 1,d,rfl,by omega,by omega,hq,hO2,?_,take_all⟩
    simp [Env.put,Env.of]
  ·skip
   have hj0 : j ≠ 0 := by have := of_decide_eq_true hd; omega
   have hdl := hq.length_eq
   obtain ⟨x,hx,-⟩ := get_of (show j < d.length by omega)
   obtain ⟨y,hy,-⟩ := get_of (show j - 1 < d.length by omega)
   simp (disch := omega) only [↓RU,RV,RH,↓reduceIte,reduceEqDiff,reduceCtorEq,if_pos,w64,List.append_nil,↓RS,RG,reduceAdd,reduceMul,reduceLeDiff,tyLint,tyint,gF,setF,hd,hx,hy,toNat_pred]
   refine CallR.pc (less_pc (x := x) (y := y)) rfl (.inl rfl) ?_
   simp (disch := omega) only [↓RU,RV,RH,↓reduceIte,reduceEqDiff,reduceCtorEq,if_pos,w64,List.append_nil,↓RS,RG,reduceAdd,reduceMul,reduceLeDiff,tyLint,tyint,gF,setF,hd,hx,hy,toNat_pred]
   refine hK _ _ ?_;clear hK K
   refine W.cond rfl (fun h2 => ?_) (fun h2 => ?_)
   ·try simp only [RL] at h2
    have hjl := len_of hx
    have hsl : (d.set j y).length = d.length := by simp
    refine W.skip ?_
    refine xn ?_
    refine W.seq ?_
    refine W.block ?_
    refine W.draw_k (by kernel_rfl) fun K hK => ?_
    simp (disch := omega) only [↓RU,RV,RH,↓reduceIte,reduceEqDiff,reduceCtorEq,if_pos,w64,↓RS,RG,reduceAdd,reduceMul,reduceLeDiff,tyLint,tyint,gF,setF,hx,hy,toNat_pred,set_spl,set_int,List.length_set]
    refine hK _ _ ?_;clear hK K
    refine XbN ?_
    refine xn ?_
    refine W.k fun K hK => ?_
    simp (disch := omega) only [↓RU,RV,RH,↓reduceIte,reduceEqDiff,reduceCtorEq,if_pos,w64,↓RS,RG,reduceAdd,reduceMul,reduceLeDiff,tyint,gF,setF]
    refine hK _ _ ?_;clear hK K
    refine xn ?_
    refine ⟨j - 1 + 1,by omega,_,j - 1,(d.set j y).set (j - 1) x,rfl,by omega,swap_perm hq hx hy,hO.swap hj0 h_j hx hy h2,?_,take_all⟩
    simp [Env.put,Env.of]; omega
   ·try simp only [RL] at h2
    have hO2 : Ord d (i + 1) := hO.stop hx hy h2
    refine W.exit ?_
    refine xe ?_
    refine xe ?_
    refine XBlock.hit ?_
    refine XbN ?_
    refine xn ?_
    refine W.k fun K hK => ?_
    simp (disch := omega) only [↓RU,RV,RH,↓reduceIte,reduceEqDiff,reduceCtorEq,if_pos,w64,↓RS,RG,reduceAdd,reduceMul,reduceLeDiff,tyint,gF,setF]
    refine hK _ _ ?_;clear hK K
    refine xn ?_
    refine ⟨l.length - (i + 1),by omega,_,i + 1,d,rfl,by omega,by omega,hq,hO2,?_,take_all⟩
    simp [Env.put,Env.of]
 ·try simp only [RL] at h
  obtain rfl : l.length = i := by omega
  refine W.exit ?_
  refine xe ?_
  refine xe ?_
  refine XBlock.hit ?_
  refine BodyQ.norm rfl ?_
  exact ⟨_,rfl,c,hp,by rw [← hp.length_eq] at ho; exact ho.pair,take_all⟩
theorem len64_pc  : PC Tryz.prog 163 [.int .u64 4] (.int .i64 3) true := by
 refine PC.of ⟨Tryz.func163,by kernel_rfl,rfl,by kernel_rfl⟩ tabOk mixed (by show 1 ≤ Tryz.f163.ntmps; decide) ?_
 refine W.r fun K hK => ?_
 simp (disch := omega) only [↓RU,RV,RH,↓reduceIte,reduceEqDiff,reduceCtorEq,if_pos]
 refine hK _ _ ?_;clear hK K
 refine W.seq ?_
 refine W.r fun K hK => ?_
 simp (disch := omega) only [↓RU,RV,RH,↓reduceIte,reduceEqDiff,reduceCtorEq,if_pos,w64,ty29]
 refine hK _ _ ?_;clear hK K
 refine W.cond rfl (fun h => ?_) (fun h => ?_)
 ·try simp only [RL] at h
  exact absurd h (by decide)
 ·try simp only [RL] at h
  refine W.skip ?_
  refine xn ?_
  refine W.seq ?_
  refine W.r fun K hK => ?_
  simp (disch := omega) only [↓RU,RV,RH,↓reduceIte,reduceEqDiff,reduceCtorEq,if_pos,w64,ty29]
  refine hK _ _ ?_;clear hK K
  refine W.cond rfl (fun h1 => ?_) (fun h1 => ?_)
  ·try simp only [RL] at h1
   exact absurd h1 (by decide)
  ·try simp only [RL] at h1
   refine W.skip ?_
   refine xn ?_
   refine W.seq ?_
   refine W.r fun K hK => ?_
   simp (disch := omega) only [↓RU,RV,RH,↓reduceIte,reduceEqDiff,reduceCtorEq,if_pos,w64,ty29]
   refine hK _ _ ?_;clear hK K
   refine W.cond rfl (fun h2 => ?_) (fun h2 => ?_)
   ·try simp only [RL] at h2
    exact absurd h2 (by decide)
   ·try simp only [RL] at h2
    refine W.skip ?_
    refine xn ?_
    refine W.r fun K hK => ?_
    simp (disch := omega) only [↓RU,RV,RH,↓reduceIte,reduceEqDiff,reduceCtorEq,if_pos,w64,w64,tyint,tystring,ty29,ty30]
    refine hK _ _ ?_;clear hK K
    refine W.ret ?_
    refine Br rfl ?_
    rfl
theorem len_pc  : PC Tryz.prog 137 [.int .u64 4] (.int .i64 3) true := by
 refine PC.of ⟨Tryz.func137,by kernel_rfl,rfl,by kernel_rfl⟩ tabOk mixed (by show 1 ≤ Tryz.f137.ntmps; decide) ?_
 refine W.r fun K hK => ?_
 simp (disch := omega) only [↓RU,RV,RH,↓reduceIte,reduceEqDiff,reduceCtorEq,if_pos]
 refine hK _ _ ?_;clear hK K
 refine W.seq ?_
 refine W.cond rfl (fun h => ?_) (fun h => ?_)
 ·try simp only [RL] at h
  exact absurd h (by decide)
 ·try simp only [RL] at h
  refine W.skip ?_
  refine xn ?_
  refine W.r fun K hK => ?_
  simp (disch := omega) only [↓RU,RV,RH,↓reduceIte,reduceEqDiff,reduceCtorEq,if_pos,List.append_nil]
  refine CallR.pc (len64_pc) rfl (.inl rfl) ?_
  simp (disch := omega) only [↓RU,RV,RH,↓reduceIte,reduceEqDiff,reduceCtorEq,if_pos,List.append_nil]
  refine hK _ _ ?_;clear hK K
  refine W.ret ?_
  refine Br rfl ?_
  rfl
theorem pdq_ev {F R : List Ob} {ver t : Nat} {l : List Int} (hl : l.length ≤ 12) (h1 : 1 ≤ l.length) (lim : Int) : Ev Tryz.prog 177 [.loc F.length ver 0 l.length,.int .i64 0,.int .i64 l.length,.int .i64 lim] ⟨F ++ .arr ver 3 1 (l.map (.int .i64)) :: R,t⟩ fun v S => v = .tup [] ∧ ∃ z : List Int,z.Perm l ∧ z.Pairwise (· ≤ ·) ∧ S = ⟨F ++ .arr ver 3 1 (z.map (.int .i64)) :: R,t⟩ := by
 refine Ev.of ⟨Tryz.func177,by kernel_rfl,rfl,by kernel_rfl⟩ tabOk mixed (by show 4 ≤ Tryz.f177.ntmps; decide) ?_
 refine W.r fun K hK => ?_
 simp (disch := omega) only [↓RU,RV,RH,↓reduceIte,reduceEqDiff,reduceCtorEq,if_pos,↓RS,RG,reduceAdd,reduceMul,reduceLeDiff,gF,setF]
 refine hK _ _ ?_;clear hK K
 refine W.r fun K hK => ?_
 simp (disch := omega) only [↓RU,RV,RH,↓reduceIte,reduceEqDiff,reduceCtorEq,if_pos,↓RS,RG,reduceAdd,reduceMul,reduceLeDiff,gF,setF]
 refine hK _ _ ?_;clear hK K
 refine W.block ?_
 refine W.loop [0,1,2] (fun n vs S => vs = [.loc F.length ver 0 l.length,.int .i64 0,.int .i64 l.length] ∧ S = ⟨F ++ .arr ver 3 1 (l.map (.int .i64)) :: R,t⟩) 0 ?_ ?_
 ·refine ⟨_,?_,take_all⟩
  simp [Env.put,Env.of,argEnv]
 rintro n vs S - ⟨rfl,rfl⟩
 refine W.block ?_
 refine W.r fun K hK => ?_
 simp (disch := omega) only [↓RU,RV,RH,↓reduceIte,reduceEqDiff,reduceCtorEq,if_pos,w64,↓RS,RG,reduceAdd,reduceMul,reduceLeDiff,tyint,gF,setF]
 refine hK _ _ ?_;clear hK K
 refine W.seq ?_
 refine W.r fun K hK => ?_
 simp (disch := omega) only [↓RU,RV,RH,↓reduceIte,reduceEqDiff,reduceCtorEq,if_pos,w64,↓RS,RG,reduceAdd,reduceMul,reduceLeDiff,tyint,gF,setF]
 refine hK _ _ ?_;clear hK K
 refine W.cond rfl (fun h => ?_) (fun h => ?_)
 ·try simp only [RL] at h
  refine W.r fun K hK => ?_
  simp (disch := omega) only [↓RU,RV,RH,↓reduceIte,reduceEqDiff,reduceCtorEq,if_pos,List.append_nil,↓RS,RG,reduceAdd,reduceMul,reduceLeDiff,gF,setF]
  refine CallR.ev (insort_ev (by omega) h1) ?_
  rintro _ _ ⟨rfl,z,hz1,hz2,rfl⟩
  simp (disch := omega) only [↓RU,RV,RH,↓reduceIte,reduceEqDiff,reduceCtorEq,if_pos,List.append_nil,↓RS,RG,reduceAdd,reduceMul,reduceLeDiff,gF,setF]
  refine hK _ _ ?_;clear hK K
  refine W.ret ?_
  refine XThen.ret ?_
  refine XBlock.ret ?_
  refine XThen.ret ?_
  refine XBlock.ret ?_
  refine Br rfl ?_
  exact ⟨_,rfl,z,hz1,hz2,take_all⟩
 ·try simp only [RL] at h
  exact absurd (show (l.length : Int) ≤ 12 by omega) h
theorem sort_ev {F R : List Ob} {ver t : Nat} {l : List Int} (hl : l.length = 4) : Ev Tryz.prog 164 [.loc F.length ver 0 l.length] ⟨F ++ .arr ver 3 1 (l.map (.int .i64)) :: R,t⟩ fun v S => v = .tup [] ∧ ∃ z : List Int,z.Perm l ∧ z.Pairwise (· ≤ ·) ∧ S = ⟨F ++ .arr ver 3 1 (z.map (.int .i64)) :: R,t⟩ := by
 have hw4 : IntKind.u64.wrap ((l.length : Nat) : Int) = 4 := by rw [hl]; rfl
 refine Ev.of ⟨Tryz.func164,by kernel_rfl,rfl,by kernel_rfl⟩ tabOk mixed (by show 1 ≤ Tryz.f164.ntmps; decide) ?_
 refine W.r fun K hK => ?_
 simp (disch := omega) only [↓RU,RV,RH,↓reduceIte,reduceEqDiff,reduceCtorEq,if_pos,↓RS,RG,reduceAdd,reduceMul,reduceLeDiff,tyLint,tyint,gF,setF]
 refine hK _ _ ?_;clear hK K
 refine W.k fun K hK => ?_
 simp (disch := omega) only [↓RU,RV,RH,↓reduceIte,reduceEqDiff,reduceCtorEq,if_pos,w64,List.append_nil,↓RS,RG,reduceAdd,reduceMul,reduceLeDiff,tyint,tyuint,gF,setF,hw4]
 refine CallR.pc (len_pc) rfl (.inl rfl) ?_
 simp (disch := omega) only [↓RU,RV,RH,↓reduceIte,reduceEqDiff,reduceCtorEq,if_pos,w64,List.append_nil,↓RS,RG,reduceAdd,reduceMul,reduceLeDiff,tyint,tyuint,gF,setF,hw4]
 refine CallR.ev (pdq_ev (by omega) (by omega) 3) ?_
 rintro _ _ ⟨rfl,z,hz1,hz2,rfl⟩
 simp (disch := omega) only [↓RU,RV,RH,↓reduceIte,reduceEqDiff,reduceCtorEq,if_pos,w64,List.append_nil,↓RS,RG,reduceAdd,reduceMul,reduceLeDiff,tyint,tyuint,gF,setF,hw4]
 refine hK _ _ ?_;clear hK K
 refine BodyQ.norm rfl ?_
 exact ⟨_,rfl,z,hz1,hz2,take_all⟩
def dn : List Int → Nat
 | [] => 0
 | a :: l => (if a ∈ l then 0 else 1) + dn l
theorem dn_of : ∀ {m l : List Int},l.Nodup → (∀ x,x ∈ l ↔ x ∈ m) → l.length = dn m
 | [],l,_,h => by
  cases l with
  | nil => rfl
  | cons a l => exact absurd ((h a).1 (by simp)) (by simp)
 | a :: m,l,hn,h => by
  unfold dn
  by_cases ha : a ∈ m
  ·rw [if_pos ha,dn_of (m := m) hn fun x => ?_]; · omega
   rw [h x,List.mem_cons]
   constructor
   ·rintro (rfl | h)
    ·exact ha
    ·exact h
   ·exact .inr
  ·have hal : a ∈ l := (h a).2 (by simp)
   have hl := List.length_erase_of_mem hal
   have h0 := List.length_pos_of_mem hal
   rw [if_neg ha,← dn_of (m := m) (l := l.erase a) (hn.erase a) fun x => ?_]
   ·omega
   ·rw [hn.mem_erase_iff,h x,List.mem_cons]
    constructor
    ·rintro ⟨h1,h2 | h2⟩
     ·exact absurd h2 h1
     ·exact h2
    ·intro hx
     exact ⟨fun e => ha (e ▸ hx),.inr hx⟩
theorem mem_putL {l : List Int} {x y : Int} : y ∈ putL l x ↔ y ∈ l ∨ y = x := by
 unfold putL
 split
 ·rename_i h
  constructor
  ·exact .inl
  ·rintro (h' | rfl)
   ·exact h'
   ·exact List.mem_of_getLast? h
 ·simp
theorem ddp_sorted {z : List Int} (hz : z.Pairwise (· ≤ ·)) : ∀ p,p ≤ z.length → (ddp (z.take p)).Pairwise (· < ·) ∧ ∀ x,x ∈ ddp (z.take p) ↔ x ∈ z.take p
 | 0,_ => by simp [ddp]
 | p + 1,hp => by
  obtain ⟨x,hx,-⟩ := get_of (show p < z.length by omega)
  obtain ⟨h1,h2⟩ := ddp_sorted hz p (by omega)
  have hle : ∀ a ∈ z.take p,a ≤ x := by
   intro a ha
   obtain ⟨j,hj,rfl⟩ := List.mem_take_iff_getElem.1 ha
   obtain ⟨hp',rfl⟩ := List.getElem?_eq_some_iff.1 hx
   exact (List.pairwise_iff_getElem.1 hz) j p (by omega) hp' (by omega)
  rw [ddp_succ hx]
  constructor
  ·unfold putL
   split
   ·exact h1
   ·rename_i hl
    rw [List.pairwise_append]
    refine ⟨h1,by simp,?_⟩
    intro a ha b hb
    rw [List.mem_singleton] at hb
    subst hb
    have ha' := (h2 a).1 ha
    by_cases hp0 : p = 0
    ·subst hp0; simp at ha'
    ·obtain ⟨y,hy,-⟩ := get_of (show p - 1 < z.length by omega)
     have hlast := ddp_last hy
     rw [show p - 1 + 1 = p by omega] at hlast
     have hyb : y ≠ b := fun e => hl (e ▸ hlast)
     have hyl : y ≤ b := hle y ((h2 y).1 (List.mem_of_getLast? hlast))
     have : a ≤ y := by
      obtain ⟨j,hj,rfl⟩ := List.mem_take_iff_getElem.1 ha'
      obtain ⟨hp',rfl⟩ := List.getElem?_eq_some_iff.1 hy
      by_cases e : j = p - 1
      ·subst e; exact Int.le_refl _
      ·exact (List.pairwise_iff_getElem.1 hz) j (p - 1) (by omega) hp' (by omega)
     omega
  ·intro y
   rw [mem_putL,h2 y,tk hx]
   simp
theorem ddp_dn {l z : List Int} (hp : z.Perm l) (hz : z.Pairwise (· ≤ ·)) : (ddp z).length = dn l := by
 have h := ddp_sorted hz z.length (Nat.le_refl _)
 rw [List.take_length] at h
 refine dn_of (h.1.imp fun h => Int.ne_of_lt h) fun x => ?_
 rw [h.2 x]
 exact hp.mem_iff
def four (g : List (List Int)) (i k : Nat) : List Int := [gz g (i - 1) (k - 1),gz g (i - 1) k,gz g i (k - 1),gz g i k]
def ptsRowG (g : List (List Int)) (many : Int) (i : Nat) : Nat → Int
 | 0 => 0
 | k + 1 => ptsRowG g many i k + if 1 ≤ k ∧ ((dn (four g i k) : Nat) : Int) = many then 1 else 0
def ptsG (g : List (List Int)) (many : Int) (w : Nat) : Nat → Int
 | 0 => 0
 | i + 1 => ptsG g many w i + if 1 ≤ i then ptsRowG g many i w else 0
theorem ptsRowG_bound (g : List (List Int)) (many : Int) (i : Nat) : ∀ k,0 ≤ ptsRowG g many i k ∧ ptsRowG g many i k ≤ k
 | 0 => by simp [ptsRowG]
 | k + 1 => by have := ptsRowG_bound g many i k; unfold ptsRowG; split <;> omega
theorem ptsG_bound (g : List (List Int)) (many : Int) {w : Nat} (hw : w ≤ 6) : ∀ i,0 ≤ ptsG g many w i ∧ ptsG g many w i ≤ 6 * i
 | 0 => by simp [ptsG]
 | i + 1 => by have := ptsG_bound g many hw i; have := ptsRowG_bound g many i w; unfold ptsG; split <;> omega
theorem ptsG_one {g : List (List Int)} {many : Int} {w : Nat} : ptsG g many w 1 = 0 := by simp [ptsG]
theorem ptsRowG_one {g : List (List Int)} {many : Int} {i : Nat} : ptsRowG g many i 1 = 0 := by simp [ptsRowG]
theorem ptsG_succ {g : List (List Int)} {many : Int} {w i : Nat} (h : 1 ≤ i) : ptsG g many w (i + 1) = ptsG g many w i + ptsRowG g many i w := by simp [ptsG,h]
theorem ptsRowG_hit {g : List (List Int)} {many : Int} {i k : Nat} (h : 1 ≤ k) (e : ((dn (four g i k) : Nat) : Int) = many) : ptsRowG g many i (k + 1) = ptsRowG g many i k + 1 := by simp [ptsRowG,h,e]
theorem ptsRowG_miss {g : List (List Int)} {many : Int} {i k : Nat} (e : ¬ ((dn (four g i k) : Nat) : Int) = many) : ptsRowG g many i (k + 1) = ptsRowG g many i k := by simp [ptsRowG,e]
theorem compact4_ev {v t : Nat} {z : List Int} (hz : z.length = 4) : Ev Tryz.prog 120 [.loc 0 v 0 4] ⟨[.arr v 3 1 (z.map (.int .i64))],t⟩ fun r S => ∃ y : List Int,r = .loc 0 v 0 (ddp z).length ∧ S = ⟨[.arr v 3 1 ((ddp z ++ y).map (.int .i64))],t⟩ := by
 have h := compact_ev (F := []) (R := []) (ver := v) (t := t) (l := z) (by omega)
 rw [hz] at h
 exact h
theorem points_pc {g : List (List Int)} {nh nw : Nat} (hg : GW g nh nw) (rs : List Rect) (many : Int) : PC Tryz.prog 139 [eFloor g rs,.int .i64 many] (.int .i64 (ptsG g many nw nh)) true := by
 have hl := hg.1
 obtain ⟨hg1,hg2,hg3,hg4⟩ := hg.2.2
 obtain ⟨row0,hrow0,hrl0,-⟩ := hg.at_ (i := 0) (j := 0) (by omega) (by omega)
 refine PC.of ⟨Tryz.func139,by kernel_rfl,rfl,by kernel_rfl⟩ tabOk mixed (by show 2 ≤ Tryz.f139.ntmps; decide) ?_
 refine W.r fun K hK => ?_
 simp (disch := omega) only [↓RU,RV,RH,↓reduceIte,reduceEqDiff,reduceCtorEq,if_pos,↓RS,RG,reduceAdd,reduceMul,reduceLeDiff]
 refine hK _ _ ?_;clear hK K
 refine W.r fun K hK => ?_
 simp (disch := omega) only [↓RU,RV,RH,↓reduceIte,reduceEqDiff,reduceCtorEq,if_pos,↓RS,RG,reduceAdd,reduceMul,reduceLeDiff]
 refine hK _ _ ?_;clear hK K
 refine W.seq ?_
 refine W.r fun K hK => ?_
 simp (disch := omega) only [↓RU,RV,RH,↓reduceIte,reduceEqDiff,reduceCtorEq,if_pos,↓RS,RG,reduceAdd,reduceMul,reduceLeDiff]
 refine hK _ _ ?_;clear hK K
 refine W.block ?_
 refine W.loop [0,1,5,6] (fun n vs S => ∃ i t : Nat,n = nh - i ∧ i ≤ nh ∧ (1 ≤ i) ∧ vs = [eFloor g rs,.int .i64 many,.int .i64 (ptsG g many nw i),.int .i64 (i : Nat)] ∧ S = ⟨[],t⟩) (nh - 1) ?_ ?_
 ·refine ⟨0,1,_,rfl,by omega,Nat.le_refl _,?_,rfl⟩
  simp [Env.put,Env.of,argEnv,ptsG_one]
 rintro n vs S - ⟨i,t,rfl,h_i,h1i,rfl,rfl⟩
 refine W.seq ?_
 refine W.r fun K hK => ?_
 simp (disch := omega) only [↓RU,RV,RH,↓reduceIte,reduceEqDiff,reduceCtorEq,if_pos,List.append_nil,w64,↓RS,RG,reduceAdd,reduceMul,reduceLeDiff,tyint,hl]
 refine CallR.pc (high_pc g rs) rfl (.inl rfl) ?_
 simp (disch := omega) only [↓RU,RV,RH,↓reduceIte,reduceEqDiff,reduceCtorEq,if_pos,List.append_nil,w64,↓RS,RG,reduceAdd,reduceMul,reduceLeDiff,tyint,hl]
 refine hK _ _ ?_;clear hK K
 refine W.cond rfl (fun h => ?_) (fun h => ?_)
 ·try simp only [RL] at h
  have hpb := ptsG_bound g many hg4 i
  refine W.skip ?_
  refine xn ?_
  refine W.seq ?_
  refine W.block ?_
  refine W.r fun K hK => ?_
  simp (disch := omega) only [↓RU,RV,RH,↓reduceIte,reduceEqDiff,reduceCtorEq,if_pos,↓RS,RG,reduceAdd,reduceMul,reduceLeDiff]
  refine hK _ _ ?_;clear hK K
  refine W.block ?_
  refine W.loop [0,1,5,6,7] (fun n vs S => ∃ k t : Nat,n = nw - k ∧ k ≤ nw ∧ (1 ≤ k) ∧ vs = [eFloor g rs,.int .i64 many,.int .i64 (ptsG g many nw i + ptsRowG g many i k),.int .i64 (i : Nat),.int .i64 (k : Nat)] ∧ S = ⟨[],t⟩) (nw - 1) ?_ ?_
  ·refine ⟨0,1,_,rfl,by omega,Nat.le_refl _,?_,rfl⟩
   simp [Env.put,Env.of,ptsRowG_one]
  rintro n vs S - ⟨k,t,rfl,h_k,h1k,rfl,rfl⟩
  refine W.seq ?_
  refine W.r fun K hK => ?_
  simp (disch := omega) only [↓RU,RV,RH,↓reduceIte,reduceEqDiff,reduceCtorEq,if_pos,List.append_nil,w64,↓RS,RG,reduceAdd,reduceMul,reduceLeDiff,tyint,hrl0]
  refine CallR.pc (wide_pc hrow0 rs) rfl (.inl rfl) ?_
  simp (disch := omega) only [↓RU,RV,RH,↓reduceIte,reduceEqDiff,reduceCtorEq,if_pos,List.append_nil,w64,↓RS,RG,reduceAdd,reduceMul,reduceLeDiff,tyint,hrl0]
  refine hK _ _ ?_;clear hK K
  refine W.cond rfl (fun h1 => ?_) (fun h1 => ?_)
  ·try simp only [RL] at h1
   have hrb := ptsRowG_bound g many i k
   obtain ⟨r1,hr1,hl1,hx1⟩ := hg.at_ (i := i - 1) (j := k - 1) (by omega) (by omega)
   obtain ⟨r1b,hr1b,-,hx2⟩ := hg.at_ (i := i - 1) (j := k) (by omega) (by omega)
   obtain ⟨r2,hr2,hl2,hx3⟩ := hg.at_ (i := i) (j := k - 1) (by omega) (by omega)
   obtain ⟨r2b,hr2b,-,hx4⟩ := hg.at_ (i := i) (j := k) (by omega) (by omega)
   obtain rfl : r1 = r1b := by rw [hr1] at hr1b; exact Option.some.inj hr1b
   obtain rfl : r2 = r2b := by rw [hr2] at hr2b; exact Option.some.inj hr2b
   refine W.skip ?_
   refine xn ?_
   refine W.seq ?_
   refine W.block ?_
   refine W.seq_draw (by kernel_rfl) fun K hK => ?_
   simp (disch := omega) only [↓RU,RV,RH,↓reduceIte,reduceEqDiff,reduceCtorEq,if_pos,w64,↓RS,RG,reduceAdd,reduceMul,reduceLeDiff,ty1,ty3,tyLint,ty10,ty11,ty15,tyint,ty24,ty28,hr1,hx1,hx2,hr2,hx3,hx4,toNat_pred]
   refine hK _ _ ?_;clear hK K
   refine W.r fun K hK => ?_
   simp (disch := omega) only [↓RU,RV,RH,↓reduceIte,reduceEqDiff,reduceCtorEq,if_pos,List.append_nil,↓RS,RG,reduceAdd,reduceMul,reduceLeDiff]
   refine CallR.ev (sort_ev (F := []) (R := []) (l := four g i k) rfl) ?_
   rintro _ _ ⟨rfl,z,hz1,hz2,rfl⟩
   simp (disch := omega) only [↓RU,RV,RH,↓reduceIte,reduceEqDiff,reduceCtorEq,if_pos,List.append_nil,↓RS,RG,reduceAdd,reduceMul,reduceLeDiff]
   refine hK _ _ ?_;clear hK K
   have hz4 : z.length = 4 := hz1.length_eq
   have hdn := ddp_dn hz1 hz2
   refine W.r fun K hK => ?_
   simp (disch := omega) only [↓RU,RV,RH,↓reduceIte,reduceEqDiff,reduceCtorEq,if_pos,List.append_nil,w64,↓RS,RG,reduceAdd,reduceMul,reduceLeDiff,tyLint,tyint,hdn]
   refine CallR.ev (compact4_ev hz4) ?_
   rintro _ _ ⟨y,rfl,rfl⟩
   simp (disch := omega) only [↓RU,RV,RH,↓reduceIte,reduceEqDiff,reduceCtorEq,if_pos,List.append_nil,w64,↓RS,RG,reduceAdd,reduceMul,reduceLeDiff,tyLint,tyint,hdn]
   refine hK _ _ ?_;clear hK K
   refine W.cond rfl (fun h2 => ?_) (fun h2 => ?_)
   ·try simp only [RL] at h2
    refine W.k fun K hK => ?_
    simp (disch := omega) only [↓RU,RV,RH,↓reduceIte,reduceEqDiff,reduceCtorEq,if_pos,w64,↓RS,RG,reduceAdd,reduceMul,reduceLeDiff,tyint]
    refine hK _ _ ?_;clear hK K
    refine XbN ?_
    refine xn ?_
    refine W.k fun K hK => ?_
    simp (disch := omega) only [↓RU,RV,RH,↓reduceIte,reduceEqDiff,reduceCtorEq,if_pos,w64,↓RS,RG,reduceAdd,reduceMul,reduceLeDiff,tyint]
    refine hK _ _ ?_;clear hK K
    refine xn ?_
    refine ⟨nw - (k + 1),by omega,0,k + 1,_,rfl,by omega,by omega,?_,rfl⟩
    simp [Env.put,Env.of,ptsRowG_hit h1k h2,Int.add_assoc]
   ·try simp only [RL] at h2
    refine W.skip ?_
    refine XbN ?_
    refine xn ?_
    refine W.k fun K hK => ?_
    simp (disch := omega) only [↓RU,RV,RH,↓reduceIte,reduceEqDiff,reduceCtorEq,if_pos,w64,↓RS,RG,reduceAdd,reduceMul,reduceLeDiff,tyint]
    refine hK _ _ ?_;clear hK K
    refine xn ?_
    refine ⟨nw - (k + 1),by omega,0,k + 1,_,rfl,by omega,by omega,?_,rfl⟩
    simp [Env.put,Env.of,ptsRowG_miss h2,Int.add_assoc]
  ·try simp only [RL] at h1
   obtain rfl : nw = k := by omega
   refine W.exit ?_
   refine xe ?_
   refine xe ?_
   refine XBlock.hit ?_
   refine XbN ?_
   refine xn ?_
   refine W.k fun K hK => ?_
   simp (disch := omega) only [↓RU,RV,RH,↓reduceIte,reduceEqDiff,reduceCtorEq,if_pos,w64,↓RS,RG,reduceAdd,reduceMul,reduceLeDiff,tyint]
   refine hK _ _ ?_;clear hK K
   refine xn ?_
   refine ⟨nh - (i + 1),by omega,0,i + 1,_,rfl,by omega,by omega,?_,rfl⟩
   simp [Env.put,Env.of,ptsG_succ h1i]
 ·try simp only [RL] at h
  obtain rfl : nh = i := by omega
  refine W.exit ?_
  refine xe ?_
  refine xe ?_
  refine XBlock.hit ?_
  refine xn ?_
  refine W.r fun K hK => ?_
  simp (disch := omega) only [↓RU,RV,RH,↓reduceIte,reduceEqDiff,reduceCtorEq,if_pos,↓RS,RG,reduceAdd,reduceMul,reduceLeDiff]
  refine hK _ _ ?_;clear hK K
  refine W.ret ?_
  refine Br rfl ?_
  rfl
theorem fplain_pc {g : List (List Int)} {nh nw : Nat} (hg : GW g nh nw) (rs : List Rect) : PC Tryz.prog 108 [eFloor g rs] (.bool (decide (ptsG g 4 nw nh = 0))) true := by
 refine PC.of ⟨Tryz.func108,by kernel_rfl,rfl,by kernel_rfl⟩ tabOk mixed (by show 1 ≤ Tryz.f108.ntmps; decide) ?_
 refine W.r fun K hK => ?_
 simp (disch := omega) only [↓RU,RV,RH,↓reduceIte,reduceEqDiff,reduceCtorEq,if_pos]
 refine hK _ _ ?_;clear hK K
 refine W.r fun K hK => ?_
 simp (disch := omega) only [↓RU,RV,RH,↓reduceIte,reduceEqDiff,reduceCtorEq,if_pos,List.append_nil,w64,tyint]
 refine CallR.pc (points_pc hg rs 4) rfl (.inl rfl) ?_
 simp (disch := omega) only [↓RU,RV,RH,↓reduceIte,reduceEqDiff,reduceCtorEq,if_pos,List.append_nil,w64,tyint]
 refine hK _ _ ?_;clear hK K
 refine W.ret ?_
 refine Br rfl ?_
 rfl
def letZ (z : Int) : UInt8 := UInt8.ofNat (97 + z.toNat)
def rowT (row : List Int) : Txt := row.map letZ
def textG (g : List (List Int)) : List Txt := g.map rowT
theorem u8_let {z : Int} (h : 0 ≤ z) : IntKind.u8.wrap (97 + z) = ((letZ z).toNat : Int) := by
 obtain ⟨n,rfl⟩ := Int.eq_ofNat_of_zero_le h
 exact u8_97
def stB (o : List Txt) (vo vb : Nat) (l : Txt) (vq t : Nat) : Store :=
 match l with
 | [] => ⟨[.arr vo 9 1 (o.map .str),.arr vb 164 2 [.nilp,.nils]],t⟩
 | l => ⟨[.arr vo 9 1 (o.map .str),.arr vb 164 2 [.ref 1 vb 0,.loc 2 vq 0 l.length],.arr vq 5 1 (l.map eB)],t⟩
theorem stB_ne {o : List Txt} {vo vb : Nat} {l : Txt} {vq t : Nat} (h : l ≠ []) : stB o vo vb l vq t = ⟨[.arr vo 9 1 (o.map .str),.arr vb 164 2 [.ref 1 vb 0,.loc 2 vq 0 l.length],.arr vq 5 1 (l.map eB)],t⟩ := by
 cases l with
 | nil => exact absurd rfl h
 | cons a l => rfl
theorem rn_strs {S : Store} {k f : Nat} {sel : List Nat} (o : List Txt) : (o.map PV.str).mapM (rn S k sel (f + 1)) = some (o.map PV.str) := rn_scal (by simp [scal])
theorem reify_txts {S : Store} {im : Bool} {f : Nat} (o : List Txt) : (o.map PV.str).mapM (reify S im (f + 1)) = some (o.map PV.str) := reify_scal (by simp [scal])
theorem rowT_len (row : List Int) : (rowT row).length = row.length := by simp [rowT]
theorem rowT_ne {row : List Int} (h : 1 ≤ row.length) : rowT row ≠ [] := by
 intro e
 have := rowT_len row
 rw [e] at this
 simp at this; omega
theorem rowT_succ {row : List Int} {k : Nat} {z : Int} (h : row[k]? = some z) : rowT (row.take (k + 1)) = rowT (row.take k) ++ [letZ z] := by simp [rowT,tk h]
theorem text_done {g : List (List Int)} {o : List Txt} (hl : o.length = g.length) (h : ∀ j,j < g.length → o[j]? = (textG g)[j]?) : o = textG g := by
 refine List.ext_getElem? fun j => ?_
 by_cases hj : j < g.length
 ·exact h j hj
 ·rw [List.getElem?_eq_none (by omega),List.getElem?_eq_none (by simp [textG]; omega)]
theorem textG_at {g : List (List Int)} {j : Nat} {row : List Int} (h : g[j]? = some row) : (textG g)[j]? = some (rowT row) := by simp [textG,h]
section
open Go Go.RowKit
set_option maxHeartbeats 1000000 in
set_option maxRecDepth 100000 in
theorem copyCheck_used (b : Nat) (w : World) (h0 : w.cell? ⟨b,0,none⟩ = some (.pointer (some ⟨b,0,none⟩))) :
  Calls Tryz.prog 170 #[.pointer (some ⟨b,0,none⟩)] w fun e w' => e = .returned (.tuple #[]) ∧ w' = w := by
 obtain ⟨j,d,z,hj,_⟩ := (tabOk 164 (by decide)).1
 go_enter Tryz.func170,Tryz.ntmps170
 go_wp2
 rw [Lib.run_neq_ptr_same w _ Tryz.underlying162 hj]
 go_wp2
 go_end0
 exact ⟨rfl,rfl⟩
theorem liesB (count : Nat) (hn : 1 ≤ count) : liesAt Tryz.prog Tryz.prog.depth 164 count 0 164 1 = true := by
 have hc : Tryz.prog.cellsOf 164 = 2 := by kernel_rfl
 have hd : Tryz.prog.depth = (2 * (Tryz.prog.types.size + Made.depth) + 1) + 1 := rfl
 rw [hd]
 simp only [liesAt,Bool.or_eq_true]
 left
 rw [hd]
 simp [rowAt,hc,hn,sameLayout]
set_option maxHeartbeats 1000000 in
set_option maxRecDepth 100000 in
theorem copyCheck_fresh (b n : Nat) (hn : 2 ≤ n) (w : World) (h0 : w.cell? ⟨b,0,none⟩ = some (.pointer none)) (hsh : w.shape? b = some (164,n)) (hfz : w.frozen? ⟨b,0,none⟩ = false) :
  Calls Tryz.prog 170 #[.pointer (some ⟨b,0,none⟩)] w fun e w' => e = .returned (.tuple #[]) ∧ w' = w.setCell ⟨b,0,none⟩ (.pointer (some ⟨b,0,none⟩)) := by
 obtain ⟨j,d,z,hj,hd,hf,hsz,hby,hz,_⟩ := (tabOk 164 (by decide)).1
 have hjs : j.size ≠ 0 := by rw [hsz]; decide
 have hlies : liesAt Tryz.prog Tryz.prog.depth 164 (n / Tryz.prog.cellsOf 164) 0 164 1 = true := by
  rw [show Tryz.prog.cellsOf 164 = 2 by kernel_rfl]
  exact liesB _ (by omega)
 go_enter Tryz.func170,Tryz.ntmps170
 go_wp2
 rw [Lib.run_to_unsafe w ⟨b,0,none⟩ Tryz.underlying162 Tryz.underlying204 hj hjs hsh (show 0 < n by omega)]
 simp only [Result.andThen]
 rw [Oper.upon_value]
 go_wp2
 rw [run_callFunc_extern Tryz.func189 (by kernel_rfl) (by kernel_rfl) (by kernel_rfl) (e := Extern.AbiNoEscape.same) (by kernel_rfl)]
 rw [Lib.run_noEscape]
 simp only [Result.andThen]
 rw [Oper.upon_value]
 go_wp2
 rw [Lib.run_from_unsafe w ⟨b,0,none⟩ Tryz.underlying204 Tryz.underlying162 hj hsh hlies]
 simp only [Result.andThen]
 rw [Oper.upon_value]
 go_wp2
 go_end0
 exact ⟨rfl,rfl⟩
set_option maxHeartbeats 1000000 in
set_option maxRecDepth 100000 in
theorem builderString (b g cap : Nat) (cur : Array Value) (fz : Nat × Nat) (l : List UInt8) (w : World) (hbk : w.cell? ⟨b,1,none⟩ = some (.slice (some ⟨g,0,none⟩) l.length cap))
  (hg : w.heap[g]? = some (.cells cur 5 fz)) (hc : l.length ≤ cur.size) (hcap : cap ≠ 0) (h63 : l.length ≤ 9223372036854775807) (h0 : l ≠ [])
  (hl : ∀ (j : Nat) x,l[j]? = some x → cur[j]? = some (.int .u8 x.toNat)) :
  Calls Tryz.prog 149 #[.pointer (some ⟨b,0,none⟩)] w fun e w' => e = .returned (.string ⟨l.toArray⟩) ∧ w' = w.drew.freeze ⟨g,0,none⟩ l.length := by
 have c1 : w.drew.cell? ⟨b,1,none⟩ = some (.slice (some ⟨g,0,none⟩) l.length cap) := hbk
 have hSD : (Builtin.unsafeSliceData_ #[22] 187 #[.slice (some ⟨g,0,none⟩) l.length cap]).run Tryz.prog w.drew = .ok (.pointer (some ⟨g,0,none⟩)) w.drew :=
  Lib.run_unsafeSliceData_row _ _ _ _ _ _ hcap
 have hUS : (Builtin.unsafeString_ #[187,3] 9 #[.pointer (some ⟨g,0,none⟩),.int .i64 l.length]).run Tryz.prog w.drew = .ok (.string ⟨l.toArray⟩) (w.drew.freeze ⟨g,0,none⟩ l.length) := by
  have hg' : w.drew.heap[g]? = some (.cells cur 5 fz) := hg
  refine Lib.run_unsafeString_row w.drew 187 3 9 5 Tryz.underlying187 (by kernel_rfl) g cur.size (by simp [World.shape?,hg']) l h0 hc h63 ?_
  intro j x hx
  by_cases hj : j = 0
  ·subst hj; simp [World.cell?,Addr.add,hg',hl 0 x hx]
  ·simp [World.cell?,Addr.add,hj,hg',hl j x hx]
 go_enter Tryz.func149,Tryz.ntmps149
 go_wp2
 go_region
 all_goals (go_wp2; go_ret; exact ⟨rfl,rfl⟩)
variable {F : Nat → Prop} {G : GSt} {w : World}
theorem copyCheck_ev {S : Store} {o ver : Nat} {c0 c1 : PV} (hS : S.obs[o]? = some (.arr ver 164 2 [c0,c1])) (h0 : c0 = .nilp ∨ c0 = .ref o ver 0) :
  Ev Tryz.prog 170 [.ref o ver 0] S fun v S' => v = .tup [] ∧ S' = ⟨S.obs.set o (.arr ver 164 2 [.ref o ver 0,c1]),S.tick⟩ := by
 refine ⟨Fn.ent ⟨Tryz.func170,by kernel_rfl,rfl,by kernel_rfl⟩,fun F G w cargs hE hi hl hv => ?_⟩
 subst hE
 obtain ⟨c,rfl⟩ : ∃ c,cargs = #[c] := by
  match cargs,hl with
  | ⟨[c]⟩,_ => exact ⟨c,rfl⟩
 have hco : G.er.cellsOf o ver = some [c0,c1] := by simp [Store.cellsOf,hS]
 obtain ⟨et,sz,l,hG,rfl,hver⟩ := (hv 0 _ c rfl rfl).ref_at hi hco
 obtain ⟨l2,hG2⟩ := er_get hS
 rw [hG] at hG2
 cases hG2
 obtain ⟨cs,⟨fz,hb,hz⟩,hcs,hle,hcell⟩ := hi.arr o _ _ _ _ l hG
 obtain ⟨-,v0,hv0,hr0⟩ := hcell 0 c0 rfl
 obtain ⟨hc1,v1,hv1,hr1⟩ := hcell 1 c1 rfl
 have hle2 : 2 ≤ cs.size := by simp only [List.length_cons,List.length_nil] at hle; omega
 have hself : ∀ (G' : GSt),G.tick ≤ G'.tick → (∀ ob l',G'.obs[o]? = some (ob,l') → ob.ver = ver → ∃ et sz cells,ob = .arr ver et sz cells ∧ l' = l) → VR w.heap F G' (.ref o ver 0) (.pointer (some ⟨l.blk,0,none⟩)) := by
  intro G' ht h
  refine .ref _ _ _ _ (Nat.lt_of_lt_of_le hver ht) fun ob l' h1 h2 => ?_
  obtain ⟨a,b,c,d,rfl⟩ := h ob l' h1 h2
  exact ⟨a,b,c,d,rfl⟩
 have hcell0 : w.cell? ⟨l.blk,0,none⟩ = some v0 := by simp [World.cell?,hb,hv0]
 have put : ∀ w' : World,w'.os = w.os → w'.tape = w.tape → w'.output = w.output → w.drawn ≤ w'.drawn → w'.heap.size = w.heap.size → (∀ b,b ≠ l.blk → w'.heap[b]? = w.heap[b]?) →
   (∃ cs' : Array Value,w'.heap[l.blk]? = some (.cells cs' 164 fz) ∧ cs'.size = cs.size ∧ cs'[0]? = some (.pointer (some ⟨l.blk,0,none⟩)) ∧ cs'[1]? = some v1) →
   Inv F ⟨G.obs.set o (.arr ver 164 2 [.ref o ver 0,c1],l),G.tick⟩ w' ∧ Next F G w F ⟨G.obs.set o (.arr ver 164 2 [.ref o ver 0,c1],l),G.tick⟩ w' := by
  rintro w' h1 h2 h3 hd h4 h5 ⟨cs',k1,k2,k3,k4⟩
  refine put_obj hi hG _ l G.tick w' h1 h2 h3 hd (by omega) (.inl rfl) (fun b _ hb => h5 b hb) (Nat.le_refl _) (show ver < G.tick from hver) (.inl ⟨rfl,by simp [Ob.like],rfl⟩) ?_
  refine ⟨cs',⟨fz,k1,hz.of k2⟩,by omega,by simp; omega,?_⟩
  rintro (_ | _ | i) p hp
  ·simp at hp; subst hp
   exact ⟨rfl,_,k3,hself G (Nat.le_refl _) fun ob l' h1 h2 => by rw [hG] at h1; cases h1; exact ⟨_,_,_,rfl,rfl⟩⟩
  ·simp at hp; subst hp
   exact ⟨hc1,v1,k4,hr1⟩
  ·simp at hp
 have er : ∀ ob,(⟨G.obs.set o (ob,l),G.tick⟩ : GSt).er = ⟨G.er.obs.set o ob,G.er.tick⟩ := by intro ob; simp [GSt.er,List.map_set]
 rcases h0 with rfl | rfl
 ·have hv0' : v0 = .pointer none := by cases hr0 with | imm _ _ h => cases h; rfl
  subst hv0'
  refine (copyCheck_fresh l.blk cs.size hle2 w hcell0 (by simp [World.shape?,hb]) (by obtain ⟨lo,hi'⟩ := fz; simp only [World.frozen?,hb,Bool.and_eq_false_iff,decide_eq_false_iff_not]; rcases hz with h | h <;> simp only at h <;> omega)).mono ?_
  rintro e w' ⟨rfl,rfl⟩
  obtain ⟨i1,n1⟩ := put (w.setCell ⟨l.blk,0,none⟩ (.pointer (some ⟨l.blk,0,none⟩))) rfl rfl rfl (Nat.le_refl _) (by simp) (fun b hb => by simp [World.setCell,Array.getElem?_modify,Ne.symm hb])
   ⟨cs.setIfInBounds 0 (.pointer (some ⟨l.blk,0,none⟩)),by simp [World.setCell,Array.getElem?_modify,hb],by simp,by rw [Array.getElem?_setIfInBounds,if_pos rfl,if_pos (by omega)],by simp [Array.getElem?_setIfInBounds,hv1]⟩
  exact ⟨_,_,F,_,rfl,⟨rfl,er _⟩,i1,n1,.tup [] #[] rfl (by simp)⟩
 ·have hv0' : v0 = .pointer (some ⟨l.blk,0,none⟩) := by
   obtain ⟨_,_,l3,h1,h2,_⟩ := hr0.ref_at hi hco
   rw [hG] at h1; cases h1; exact h2
  subst hv0'
  refine (copyCheck_used l.blk w hcell0).mono ?_
  rintro e w' ⟨rfl,rfl⟩
  obtain ⟨i1,n1⟩ := put w' rfl rfl rfl (Nat.le_refl _) rfl (fun _ _ => rfl) ⟨cs,hb,rfl,hv0,hv1⟩
  exact ⟨_,_,F,_,rfl,⟨rfl,er _⟩,i1,n1,.tup [] #[] rfl (by simp)⟩
theorem builderString_ev {A : List Ob} {t ver vq : Nat} {c0 : PV} {l : Txt} (h0 : l ≠ []) :
  Ev Tryz.prog 149 [.ref A.length ver 0] ⟨A ++ [.arr ver 164 2 [c0,.loc (A.length + 1) vq 0 l.length],.arr vq 5 1 (l.map eB)],t⟩ fun v S' => v = .str l ∧ S' = ⟨A,t⟩ := by
 refine ⟨Fn.ent ⟨Tryz.func149,by kernel_rfl,rfl,by kernel_rfl⟩,fun F G w cargs hE hi hl hv => ?_⟩
 obtain ⟨c,rfl⟩ : ∃ c,cargs = #[c] := by
  match cargs,hl with
  | ⟨[c]⟩,_ => exact ⟨c,rfl⟩
 have hobs : G.er.obs = A ++ [.arr ver 164 2 [c0,.loc (A.length + 1) vq 0 l.length],.arr vq 5 1 (l.map eB)] := by rw [hE]
 have htk : G.tick = t := congrArg Store.tick hE
 have hSo : G.er.obs[A.length]? = some (.arr ver 164 2 [c0,.loc (A.length + 1) vq 0 l.length]) := by rw [hobs]; simp
 have hSq : G.er.obs[A.length + 1]? = some (.arr vq 5 1 (l.map eB)) := by rw [hobs]; simp
 obtain ⟨et,sz,lo,hGo,rfl,hver⟩ := (hv 0 _ c rfl rfl).ref_at hi (cells := [c0,.loc (A.length + 1) vq 0 l.length]) (by simp [Store.cellsOf,hSo])
 obtain ⟨lo2,hGo2⟩ := er_get hSo
 rw [hGo] at hGo2
 cases hGo2
 obtain ⟨lq,hGq⟩ := er_get hSq
 obtain ⟨cs,⟨fo,hb,-⟩,hcs,hle,hcell⟩ := hi.arr _ _ _ _ _ lo hGo
 obtain ⟨cq,⟨fq,hbq,-⟩,hcq,hleq,hcellq⟩ := hi.arr _ _ _ _ _ lq hGq
 obtain ⟨-,v0,hv0,hr0⟩ := hcell 0 c0 rfl
 obtain ⟨-,v1,hv1,hr1⟩ := hcell 1 _ rfl
 obtain ⟨_,_,lq2,cap,hGq2,rfl,_,hnc,hcm,hroom⟩ := hr1.loc_at hi (cells := l.map eB) (by simp [Store.cellsOf,hSq])
 rw [hGq] at hGq2
 cases hGq2
 have hl0 : l.length ≠ 0 := by simpa using h0
 have hc1 : w.cell? ⟨lo.blk,1,none⟩ = some (.slice (some ⟨lq.blk,0,none⟩) l.length cap) := by simp [World.cell?,hb,hv1]
 refine (builderString lo.blk lq.blk cap cq fq l w hc1 hbq (by simp at hleq; omega) (by omega) (by unfold maxLen at hcm; omega) h0 ?_).mono ?_
 ·intro j x hx
  obtain ⟨-,v,k1,k2⟩ := hcellq j (eB x) (by simp [hx])
  rw [k1,k2.int]
 ·rintro e w' ⟨rfl,rfl⟩
  have hoth : ∀ b,b ≠ lq.blk → (w.drew.freeze ⟨lq.blk,0,none⟩ l.length).heap[b]? = w.heap[b]? := by
   intro b hb'
   show _ = w.drew.heap[b]?
   simp only [World.freeze,if_neg hl0,Array.getElem?_modify,Ne.symm hb',if_false]
  have hsz : (w.drew.freeze ⟨lq.blk,0,none⟩ l.length).heap.size = w.heap.size := by
   show (w.drew.freeze ⟨lq.blk,0,none⟩ l.length).heap.size = w.drew.heap.size
   simp only [World.freeze,if_neg hl0,Array.size_modify]
  have hos : ∀ w2 : World,(w2.freeze ⟨lq.blk,0,none⟩ l.length).os = w2.os ∧ (w2.freeze ⟨lq.blk,0,none⟩ l.length).tape = w2.tape ∧ (w2.freeze ⟨lq.blk,0,none⟩ l.length).output = w2.output := by
   intro w2; simp [World.freeze,hl0]
  have nx : Next F G w F (G.take A.length) (w.drew.freeze ⟨lq.blk,0,none⟩ l.length) :=
   ⟨(hos _).1,(hos _).2.1,(hos _).2.2,by omega,fun _ h => h,fun _ h => .inl h,fun o x h => .inr ⟨o,x,take_get h,rfl⟩,Nat.le_refl _,
    fun b _ hG => hoth b fun e => hG _ _ hGq e.symm,fun _ ob' _ h _ => ⟨ob',take_get h,rfl,Ob.like.refl _⟩,by simp [World.freeze,hl0]⟩
  have tlt : ∀ (o : Nat) x,(G.take A.length).obs[o]? = some x → o < A.length := by
   intro o x hx
   have := (List.getElem?_eq_some_iff.1 hx).1
   simp only [GSt.take,List.length_take] at this; omega
  refine ⟨.str l,_,F,G.take A.length,rfl,⟨rfl,?_⟩,inv_of (fun b hb => by rw [hsz]; exact hi.fr b hb) (fun o ob l' h => hi.ver o ob l' (take_get h)) (fun o ob l' h => hi.nF o ob l' (take_get h))
   (fun o ob l' h => (hi.holds (take_get h)).next hi nx (hoth _ fun e => ?_)) (fun o o' x x' h h' => hi.inj o o' x x' (take_get h) (take_get h')),nx,.imm _ _ (.str _ _ rfl)⟩
  ·rw [take_er,hE]; simp [Store.take]
  ·have := hi.inj o _ _ _ (take_get h) hGq e
   have := tlt o _ h
   omega
end
theorem writeByte0_ev {o : List Txt} {vo vb t : Nat} (x : UInt8) : Ev Tryz.prog 148 [.ref 1 vb 0,eB x] ⟨[.arr vo 9 1 (o.map .str),.arr vb 164 2 [.nilp,.nils]],t⟩ fun v S => v = .undef ∧ ∃ vq t2 : Nat,S = ⟨[.arr vo 9 1 (o.map .str),.arr vb 164 2 [.ref 1 vb 0,.loc 2 vq 0 ([x]).length],.arr vq 5 1 (([x]).map eB)],t2⟩ := by
 refine Ev.of ⟨Tryz.func148,by kernel_rfl,rfl,by kernel_rfl⟩ tabOk mixed (by show 2 ≤ Tryz.f148.ntmps; decide) ?_
 refine W.r fun K hK => ?_
 simp (disch := omega) only [↓RU,RV,RH,↓reduceIte,reduceEqDiff,reduceCtorEq,if_pos,↓RS,RG,reduceAdd,reduceMul,reduceLeDiff]
 refine hK _ _ ?_;clear hK K
 refine W.r fun K hK => ?_
 simp (disch := omega) only [↓RU,RV,RH,↓reduceIte,reduceEqDiff,reduceCtorEq,if_pos,List.append_nil,↓RS,RG,reduceAdd,reduceMul,reduceLeDiff,List.set_cons_succ,List.set_cons_zero]
 refine CallR.ev (copyCheck_ev (S := ⟨[.arr vo 9 1 (o.map .str),.arr vb 164 2 [.nilp,.nils]],t⟩) (o := 1) rfl (.inl rfl)) ?_
 rintro _ _ ⟨rfl,rfl⟩
 simp (disch := omega) only [↓RU,RV,RH,↓reduceIte,reduceEqDiff,reduceCtorEq,if_pos,List.append_nil,↓RS,RG,reduceAdd,reduceMul,reduceLeDiff,List.set_cons_succ,List.set_cons_zero]
 refine hK _ _ ?_;clear hK K
 refine W.joinS [] (fun vs S => vs = [] ∧ ∃ vq t2 : Nat,S = ⟨[.arr vo 9 1 (o.map .str),.arr vb 164 2 [.ref 1 vb 0,.loc 2 vq 0 ([x]).length],.arr vq 5 1 (([x]).map eB)],t2⟩) ?_ ?_
 ·
  refine W.k fun K hK => ?_
  simp (disch := omega) only [↓RU,RV,RH,↓reduceIte,reduceEqDiff,reduceCtorEq,if_pos,↓RS,RG,reduceAdd,reduceMul,reduceLeDiff,ty6,ty8,ty20,ty22,ty30]
  refine hK _ _ ?_;clear hK K
  refine xn ?_
  refine ⟨2,[3],[],⟨[.arr vo 9 1 (o.map .str),.arr vb 164 2 [.ref 1 vb 0,.loc 2 (t + 2) 0 ([x]).length],.arr (t + 2) 5 1 (([x]).map eB)],(t + 3)⟩,?_,?_,rfl,t + 2,t + 3,rfl⟩
  ·simp [-List.mapM_map,Env.put,Env.of,argEnv,Srn_eq,rnObs_cons,rnObs_nil,rnOb_arr,rnOb_map,rn_loc,rn_ref,rn_mp,rn_int,rn_bool,rn_str,rn_ip,rn_sl,rn_nils,rn_nilp,rn_undef,rn_agg,rn_tup,rn_fn,rfq_loc,rfq_int,rfq_bool,rfq_str,rfq_sl,frOf,List.range_succ,List.mapM_append,List.mapM_cons]
  ·simp [-List.mapM_map,Env.put,Env.of,argEnv,Srn_eq,rnObs_cons,rnObs_nil,rnOb_arr,rnOb_map,rn_loc,rn_ref,rn_mp,rn_int,rn_bool,rn_str,rn_ip,rn_sl,rn_nils,rn_nilp,rn_undef,rn_agg,rn_tup,rn_fn,rfq_loc,rfq_int,rfq_bool,rfq_str,rfq_sl,frOf,List.range_succ,List.mapM_append,List.mapM_cons,rn_strs]
 rintro vs S - ⟨rfl,vq,t2,rfl⟩
 refine W.r fun K hK => ?_
 simp (disch := omega) only [↓RU,RV,RH,↓reduceIte,reduceEqDiff,reduceCtorEq,if_pos,↓RS,RG,reduceAdd,reduceMul,reduceLeDiff]
 refine hK _ _ ?_;clear hK K
 refine W.ret ?_
 refine Br rfl ?_
 exact ⟨_,rfl,vq,t2,take_all⟩
theorem writeByte1_ev {o : List Txt} {vo vb vq t : Nat} {l : Txt} (hl : l.length < 2147483647) (x : UInt8) : Ev Tryz.prog 148 [.ref 1 vb 0,eB x] ⟨[.arr vo 9 1 (o.map .str),.arr vb 164 2 [.ref 1 vb 0,.loc 2 vq 0 (l).length],.arr vq 5 1 ((l).map eB)],t⟩ fun v S => v = .undef ∧ ∃ vq t2 : Nat,S = ⟨[.arr vo 9 1 (o.map .str),.arr vb 164 2 [.ref 1 vb 0,.loc 2 vq 0 (l ++ [x]).length],.arr vq 5 1 ((l ++ [x]).map eB)],t2⟩ := by
 refine Ev.of ⟨Tryz.func148,by kernel_rfl,rfl,by kernel_rfl⟩ tabOk mixed (by show 2 ≤ Tryz.f148.ntmps; decide) ?_
 refine W.r fun K hK => ?_
 simp (disch := omega) only [↓RU,RV,RH,↓reduceIte,reduceEqDiff,reduceCtorEq,if_pos,↓RS,RG,reduceAdd,reduceMul,reduceLeDiff]
 refine hK _ _ ?_;clear hK K
 refine W.r fun K hK => ?_
 simp (disch := omega) only [↓RU,RV,RH,↓reduceIte,reduceEqDiff,reduceCtorEq,if_pos,List.append_nil,↓RS,RG,reduceAdd,reduceMul,reduceLeDiff,List.set_cons_succ,List.set_cons_zero]
 refine CallR.ev (copyCheck_ev (S := ⟨[.arr vo 9 1 (o.map .str),.arr vb 164 2 [.ref 1 vb 0,.loc 2 vq 0 (l).length],.arr vq 5 1 ((l).map eB)],t⟩) (o := 1) rfl (.inr rfl)) ?_
 rintro _ _ ⟨rfl,rfl⟩
 simp (disch := omega) only [↓RU,RV,RH,↓reduceIte,reduceEqDiff,reduceCtorEq,if_pos,List.append_nil,↓RS,RG,reduceAdd,reduceMul,reduceLeDiff,List.set_cons_succ,List.set_cons_zero]
 refine hK _ _ ?_;clear hK K
 refine W.r fun K hK => ?_
 simp (disch := omega) only [↓RU,RV,RH,↓reduceIte,reduceEqDiff,reduceCtorEq,if_pos,↓RS,RG,reduceAdd,reduceMul,reduceLeDiff,ty6,ty8,ty20,ty22,ty30]
 refine hK _ _ ?_;clear hK K
 refine W.r fun K hK => ?_
 simp (disch := omega) only [↓RU,RV,RH,↓reduceIte,reduceEqDiff,reduceCtorEq,if_pos,↓RS,RG,reduceAdd,reduceMul,reduceLeDiff]
 refine hK _ _ ?_;clear hK K
 refine W.ret ?_
 refine Br rfl ?_
 exact ⟨3,rfl,t + 1,t + 2,by simp [take_eq]⟩
theorem writeByte_ev {o : List Txt} {vo vb vq t : Nat} {l : Txt} (hl : l.length < 2147483647) (x : UInt8) : Ev Tryz.prog 148 [.ref 1 vb 0,eB x] (stB o vo vb l vq t) fun v S => v = .undef ∧ ∃ vq2 t2 : Nat,S = stB o vo vb (l ++ [x]) vq2 t2 := by
 cases l with
 | nil => exact writeByte0_ev x
 | cons a l => exact writeByte1_ev hl x
theorem bstring_ev {o : List Txt} {vo vb vq t : Nat} {l : Txt} (h0 : l ≠ []) : Ev Tryz.prog 149 [.ref 1 vb 0] (stB o vo vb l vq t) fun v S => v = .str l ∧ S = ⟨[.arr vo 9 1 (o.map .str)],t⟩ := by
 rw [stB_ne h0]
 exact builderString_ev (A := [.arr vo 9 1 (o.map .str)]) h0
theorem text_pc {g : List (List Int)} {nh nw : Nat} (hg : GW g nh nw) (rs : List Rect) (hz : ∀ r ∈ g,∀ z ∈ r,0 ≤ z ∧ z ≤ 100) : PC Tryz.prog 130 [eFloor g rs] (eStrs (textG g)) true := by
 have hl := hg.1
 obtain ⟨hg1,hg2,hg3,hg4⟩ := hg.2.2
 refine PC.of ⟨Tryz.func130,by kernel_rfl,rfl,by kernel_rfl⟩ tabOk mixed (by show 1 ≤ Tryz.f130.ntmps; decide) ?_
 refine W.r fun K hK => ?_
 simp (disch := omega) only [↓RU,RV,RH,↓reduceIte,reduceEqDiff,reduceCtorEq,if_pos,↓RS,RG,reduceAdd,reduceMul,reduceLeDiff]
 refine hK _ _ ?_;clear hK K
 refine W.r fun K hK => ?_
 simp (disch := omega) only [↓RU,RV,RH,↓reduceIte,reduceEqDiff,reduceCtorEq,if_pos,List.append_nil,↓RS,RG,reduceAdd,reduceMul,reduceLeDiff,ty5,tystring,hl,repz_int,repz_str,ile_true]
 refine CallR.pc (high_pc g rs) rfl (.inl rfl) ?_
 simp (disch := omega) only [↓RU,RV,RH,↓reduceIte,reduceEqDiff,reduceCtorEq,if_pos,List.append_nil,↓RS,RG,reduceAdd,reduceMul,reduceLeDiff,ty5,tystring,hl,repz_int,repz_str,ile_true]
 refine hK _ _ ?_;clear hK K
 refine W.seq ?_
 refine W.r fun K hK => ?_
 simp (disch := omega) only [↓RU,RV,RH,↓reduceIte,reduceEqDiff,reduceCtorEq,if_pos,↓RS,RG,reduceAdd,reduceMul,reduceLeDiff,ty1,ty3,tyLint,ty10,ty11,ty15,tyint,ty24,ty28,hl]
 refine hK _ _ ?_;clear hK K
 refine W.block ?_
 refine W.loop [0,3,15,16,17] (fun n vs S => ∃ (i vo t : Nat) (o : List Txt),n = nh - i ∧ i ≤ nh ∧ o.length = nh ∧ (∀ j,j < i → o[j]? = (textG g)[j]?) ∧ vs = [eFloor g rs,.loc 0 vo 0 nh,eGrid g,.int .i64 nh,.int .i64 (i : Nat)] ∧ S = ⟨[.arr vo 9 1 (o.map .str)],t⟩) nh ?_ ?_
 ·refine ⟨1,0,0,1,List.replicate nh [],rfl,Nat.zero_le _,by simp,fun j h => absurd h (by omega),?_,?_⟩
  ·simp [Env.put,Env.of,argEnv,hl]
  ·simp [take_eq,repz_str]
 rintro n vs S - ⟨i,vo,t,o,rfl,h_i,hol,hdone,rfl,rfl⟩
 refine W.r fun K hK => ?_
 simp (disch := omega) only [↓RU,RV,RH,↓reduceIte,reduceEqDiff,reduceCtorEq,if_pos,w64,↓RS,RG,reduceAdd,reduceMul,reduceLeDiff,tyint]
 refine hK _ _ ?_;clear hK K
 refine W.seq ?_
 refine W.cond rfl (fun h => ?_) (fun h => ?_)
 ·try simp only [RL] at h
  obtain ⟨row,hrow,hrm⟩ := get_of (show i < g.length by omega)
  have hrl := hg.2.1 row hrm
  have hrz := hz row hrm
  refine W.skip ?_
  refine xn ?_
  refine W.seq ?_
  refine W.block ?_
  refine W.r fun K hK => ?_
  simp (disch := omega) only [↓RU,RV,RH,↓reduceIte,reduceEqDiff,reduceCtorEq,if_pos,↓RS,RG,reduceAdd,reduceMul,reduceLeDiff,ty1,tyLint,ty11,tyint,hrow]
  refine hK _ _ ?_;clear hK K
  refine W.r fun K hK => ?_
  simp (disch := omega) only [↓RU,RV,RH,↓reduceIte,reduceEqDiff,reduceCtorEq,if_pos,↓RS,RG,reduceAdd,reduceMul,reduceLeDiff,ty6,ty8,ty20,ty22,ty30]
  refine hK _ _ ?_;clear hK K
  refine W.seq ?_
  refine W.r fun K hK => ?_
  simp (disch := omega) only [↓RU,RV,RH,↓reduceIte,reduceEqDiff,reduceCtorEq,if_pos,↓RS,RG,reduceAdd,reduceMul,reduceLeDiff,tyLint,tyint,hrl]
  refine hK _ _ ?_;clear hK K
  refine W.block ?_
  refine W.loop [0,3,15,16,17,4,6,22,23,24] (fun n vs S => ∃ (k vb vq t : Nat),n = nw - k ∧ k ≤ nw ∧ vs = [eFloor g rs,.loc 0 vo 0 nh,eGrid g,.int .i64 nh,.int .i64 (i : Nat),.int .i64 (i : Nat),.ref 1 vb 0,eInts row,.int .i64 nw,.int .i64 (k : Nat)] ∧ S = stB o vo vb (rowT (row.take k)) vq t) nw ?_ ?_
  ·refine ⟨2,0,_,0,_,rfl,Nat.zero_le _,?_,rfl⟩
   simp [Env.put,Env.of,hrl]
  rintro n vs S - ⟨k,vb,vq,t,rfl,h_k,rfl,rfl⟩
  refine W.r fun K hK => ?_
  simp (disch := omega) only [↓RU,RV,RH,↓reduceIte,reduceEqDiff,reduceCtorEq,if_pos,w64,↓RS,RG,reduceAdd,reduceMul,reduceLeDiff,tyint]
  refine hK _ _ ?_;clear hK K
  refine W.seq ?_
  refine W.cond rfl (fun h1 => ?_) (fun h1 => ?_)
  ·try simp only [RL] at h1
   obtain ⟨z,hzk,hzm⟩ := get_of (show k < row.length by omega)
   have hzb := hrz z hzm
   have hul := u8_let hzb.1
   refine W.skip ?_
   refine xn ?_
   refine W.seq ?_
   refine W.block ?_
   refine W.r fun K hK => ?_
   simp (disch := omega) only [↓RU,RV,RH,↓reduceIte,reduceEqDiff,reduceCtorEq,if_pos,↓RS,RG,reduceAdd,reduceMul,reduceLeDiff,tyLint,tyint,hzk]
   refine hK _ _ ?_;clear hK K
   refine W.k fun K hK => ?_
   simp (disch := omega) only [↓RU,RV,RH,↓reduceIte,reduceEqDiff,reduceCtorEq,if_pos,w64,w64,List.append_nil,↓RS,RG,reduceAdd,reduceMul,reduceLeDiff,tyint,ty30,hul]
   refine CallR.ev (writeByte_ev (by rw [rowT_len,List.length_take]; omega) (letZ z)) ?_
   rintro _ _ ⟨rfl,vq2,t2,rfl⟩
   simp (disch := omega) only [↓RU,RV,RH,↓reduceIte,reduceEqDiff,reduceCtorEq,if_pos,w64,w64,List.append_nil,↓RS,RG,reduceAdd,reduceMul,reduceLeDiff,tyint,ty30,hul]
   refine hK _ _ ?_;clear hK K
   refine XbN ?_
   refine xn ?_
   refine W.k fun K hK => ?_
   simp (disch := omega) only [↓RU,RV,RH,↓reduceIte,reduceEqDiff,reduceCtorEq,if_pos,w64,↓RS,RG,reduceAdd,reduceMul,reduceLeDiff,tyint]
   refine hK _ _ ?_;clear hK K
   refine xn ?_
   refine ⟨nw - (k + 1),by omega,_,k + 1,vb,vq2,t2,rfl,by omega,?_,by rw [rowT_succ hzk]; exact take_all⟩
   simp [Env.put,Env.of]
  ·try simp only [RL] at h1
   obtain rfl : nw = k := by omega
   refine W.exit ?_
   refine xe ?_
   refine xe ?_
   refine XBlock.hit ?_
   refine xn ?_
   refine W.k fun K hK => ?_
   have htk : row.take nw = row := List.take_of_length_le (by omega)
   rw [htk]
   have hne := rowT_ne (row := row) (by omega)
   simp (disch := omega) only [↓RU,RV,RH,↓reduceIte,reduceEqDiff,reduceCtorEq,if_pos,List.append_nil,↓RS,RG,reduceAdd,reduceMul,reduceLeDiff,ty5,tystring,hol,set_spl,set_str]
   refine CallR.ev (bstring_ev hne) ?_
   rintro _ _ ⟨rfl,rfl⟩
   simp (disch := omega) only [↓RU,RV,RH,↓reduceIte,reduceEqDiff,reduceCtorEq,if_pos,List.append_nil,↓RS,RG,reduceAdd,reduceMul,reduceLeDiff,ty5,tystring,hol,set_spl,set_str]
   refine hK _ _ ?_;clear hK K
   refine XbN ?_
   refine xn ?_
   refine W.k fun K hK => ?_
   simp (disch := omega) only [↓RU,RV,RH,↓reduceIte,reduceEqDiff,reduceCtorEq,if_pos,w64,↓RS,RG,reduceAdd,reduceMul,reduceLeDiff,tyint]
   refine hK _ _ ?_;clear hK K
   refine xn ?_
   refine ⟨nh - (i + 1),by omega,1,i + 1,vo,t,o.set i (rowT row),rfl,by omega,by simp [hol],?_,?_,?_⟩
   ·intro j hj
    by_cases e : j = i
    ·subst e; rw [textG_at hrow,List.getElem?_set,if_pos rfl,if_pos (by omega)]
    ·rw [List.getElem?_set,if_neg (Ne.symm e)]; exact hdone j (by omega)
   ·simp [Env.put,Env.of]
   ·simp [take_eq]
 ·try simp only [RL] at h
  obtain rfl : nh = i := by omega
  refine W.exit ?_
  refine xe ?_
  refine xe ?_
  refine XBlock.hit ?_
  refine xn ?_
  refine W.r fun K hK => ?_
  simp (disch := omega) only [↓RU,RV,RH,↓reduceIte,reduceEqDiff,reduceCtorEq,if_pos,↓RS,RG,reduceAdd,reduceMul,reduceLeDiff]
  refine hK _ _ ?_;clear hK K
  refine W.ret ?_
  refine Br rfl ?_
  have hdo := text_done (by omega) (fun j hj => hdone j (by omega))
  subst hdo
  obtain rfl : nh = (textG g).length := hol.symm
  exact reify_loc (k := 9) rfl (by simp) (reify_txts _)
def mE (ks : List Int) : List (PV × PV) := ks.zipIdx.map fun q => (.int .i64 q.1,.int .i64 ((q.2 : Nat) : Int))
theorem mE_len (ks : List Int) : (mE ks).length = ks.length := by simp [mE]
theorem mE_app (ks : List Int) (z : Int) : mE (ks ++ [z]) = mE ks ++ [(.int .i64 z,.int .i64 ((ks.length : Nat) : Int))] := by simp [mE,List.zipIdx_append]
theorem sameKey_int {q : IntKind} {a b : Int} : sameKey (.int q a) (.int q b) = some (decide (a = b)) := by
 simp only [sameKey]
 by_cases h : a = b <;> simp [h]
theorem findKey_go {z : Int} : ∀ (ks : List Int) (i : Nat),findKey (.int .i64 z) ((ks.zipIdx i).map fun q => (PV.int .i64 q.1,PV.int .i64 ((q.2 : Nat) : Int))) i = some (if ks.idxOf z = ks.length then none else some (i + ks.idxOf z,.int .i64 ((i + ks.idxOf z : Nat) : Int)))
 | [],i => by simp [findKey]
 | a :: ks,i => by
  simp only [List.zipIdx_cons,List.map_cons,findKey,sameKey_int]
  by_cases h : z = a
  ·subst h
   simp [List.idxOf_cons]
  ·have h' : (a == z) = false := by simpa using Ne.symm h
   have := findKey_go (z := z) ks (i + 1)
   simp only [h,decide_false]
   rw [this,List.idxOf_cons,h']
   simp only [cond_false,List.length_cons,Nat.add_right_cancel_iff]
   have e : i + 1 + ks.idxOf z = i + (ks.idxOf z + 1) := by omega
   rw [e]
theorem findKey_none {ks : List Int} {z : Int} (h : ks.idxOf z = ks.length) : findKey (.int .i64 z) (mE ks) 0 = some none := by
 rw [mE,findKey_go,if_pos h]
theorem findKey_some {ks : List Int} {z : Int} (h : ¬ ks.idxOf z = ks.length) : findKey (.int .i64 z) (mE ks) 0 = some (some (ks.idxOf z,.int .i64 ((ks.idxOf z : Nat) : Int))) := by
 rw [mE,findKey_go,if_neg h]; simp
def Rect.Fit (b : Rect) : Prop := 0 ≤ b.row ∧ 0 ≤ b.col ∧ 1 ≤ b.high ∧ 1 ≤ b.wide ∧ b.row + b.high ≤ 6 ∧ b.col + b.wide ≤ 6
theorem Rect.Fit.in_ {b : Rect} (h : b.Fit) : b.In 1000 := by unfold Rect.Fit at h; unfold Rect.In; omega
theorem Rect.Fit.both {b o : Rect} (h : b.Fit) (k : o.Fit) : (b.both o).Fit := by
 unfold Rect.Fit at *
 simp only [Rect.both]
 omega
def oneR (r c : Nat) : Rect := ⟨r,c,1,1⟩
theorem oneR_fit {r c : Nat} (hr : r < 6) (hc : c < 6) : (oneR r c).Fit := by unfold Rect.Fit oneR; simp only; omega
theorem oneR_cells {r c : Nat} : (oneR r c).cells = [.int .i64 r,.int .i64 c,.int .i64 1,.int .i64 1] := rfl
def seKs (ks : List Int) (z : Int) : List Int := if ks.idxOf z = ks.length then ks ++ [z] else ks
def seIn (ks : List Int) (rs : List Rect) (z : Int) (q : Rect) : List Rect := if ks.idxOf z = ks.length then rs ++ [q] else rs
def seRs (ks : List Int) (rs : List Rect) (z : Int) (q : Rect) : List Rect := (seIn ks rs z q).set (ks.idxOf z) (((seIn ks rs z q).getD (ks.idxOf z) q).both q)
def SeOk (ks : List Int) (rs : List Rect) : Prop := rs.length = ks.length ∧ ∀ b ∈ rs,b.Fit
theorem SeOk.nil : SeOk [] [] := ⟨rfl,by simp⟩
theorem idxOf_le {ks : List Int} {z : Int} : ks.idxOf z ≤ ks.length := List.idxOf_le_length
theorem SeOk.in_ {ks : List Int} {rs : List Rect} (h : SeOk ks rs) {z : Int} {q : Rect} (hq : q.Fit) : (seIn ks rs z q).length = (seKs ks z).length ∧ (∀ b ∈ seIn ks rs z q,b.Fit) ∧ ∃ b,(seIn ks rs z q)[ks.idxOf z]? = some b ∧ b.Fit := by
 have h1 := h.1
 have h2 := idxOf_le (ks := ks) (z := z)
 have hf : ∀ b ∈ seIn ks rs z q,b.Fit := by
  unfold seIn
  split
  ·intro b hb
   rcases List.mem_append.1 hb with hb | hb
   ·exact h.2 b hb
   ·rw [List.mem_singleton] at hb; subst hb; exact hq
  ·exact h.2
 have hl : (seIn ks rs z q).length = (seKs ks z).length := by
  unfold seIn seKs; split <;> simp [h1]
 refine ⟨hl,hf,?_⟩
 obtain ⟨b,hb,hm⟩ := get_of (show ks.idxOf z < (seIn ks rs z q).length by rw [hl]; unfold seKs; split <;> (try rw [List.length_append,List.length_singleton]) <;> omega)
 exact ⟨b,hb,hf b hm⟩
theorem SeOk.step {ks : List Int} {rs : List Rect} (h : SeOk ks rs) {z : Int} {q : Rect} (hq : q.Fit) : SeOk (seKs ks z) (seRs ks rs z q) := by
 obtain ⟨h1,h2,b,hb,hbf⟩ := h.in_ (z := z) hq
 refine ⟨by rw [seRs,List.length_set,h1],fun c hc => ?_⟩
 unfold seRs at hc
 rcases List.mem_or_eq_of_mem_set hc with hc | rfl
 ·exact h2 c hc
 ·rw [List.getD_eq_getElem?_getD,hb]; exact hbf.both hq
theorem seRs_is {ks : List Int} {rs : List Rect} {z : Int} {q b : Rect} (hb : (seIn ks rs z q)[ks.idxOf z]? = some b) : seRs ks rs z q = (seIn ks rs z q).set (ks.idxOf z) (b.both q) := by
 rw [seRs,List.getD_eq_getElem?_getD,hb]; rfl
theorem rcs_set4 {rs : List Rect} {n : Nat} {r : Rect} (h : n < rs.length) : (rcs rs).take (n * 4) ++ r.cells ++ (rcs rs).drop (n * 4 + 4) = rcs (rs.set n r) := rcs_set h
theorem rn_mE {S : Store} {k f : Nat} {sel : List Nat} (ks : List Int) : ((mE ks).mapM fun q => (rn S k sel (f + 1) q.1).bind fun a => (rn S k sel (f + 1) q.2).map fun b => (a,b)) = some (mE ks) := by
 have : ∀ l : List (PV × PV),(∀ q ∈ l,∃ a b : Int,q = (.int .i64 a,.int .i64 b)) → (l.mapM fun q => (rn S k sel (f + 1) q.1).bind fun a => (rn S k sel (f + 1) q.2).map fun b => (a,b)) = some l := by
  intro l
  induction l with
  | nil => intro _; rfl
  | cons q l ih =>
   intro h
   obtain ⟨a,b,rfl⟩ := h q (by simp)
   rw [List.mapM_cons,ih fun x hx => h x (by simp [hx])]
   rfl
 refine this _ fun q hq => ?_
 obtain ⟨a,_,rfl⟩ := List.mem_map.1 hq
 exact ⟨_,_,rfl⟩
theorem rn_rcs {S : Store} {k f : Nat} {sel : List Nat} (rs : List Rect) : (rcs rs).mapM (rn S k sel (f + 1)) = some (rcs rs) := rn_scal (scal_rcs rs)
theorem pp_load {T : Tab} {S : Store} {e : Env} {t : TypeId} {x : Operand} : pPure T S e (.load t x) = pLoad (T t) S (e.ev x) := rfl
theorem pp_nil {T : Tab} {S : Store} {e : Env} {x : Operand} : pPure T S e (.nilCheck x) = pNilCheck S (e.ev x) := rfl
theorem pp_fa {T : Tab} {S : Store} {e : Env} {t : TypeId} {x : Operand} {f : Nat} : pPure T S e (.fieldAddr t x f) = pFieldAddr T S t (e.ev x) f := rfl
theorem pp_ia {T : Tab} {S : Store} {e : Env} {t : TypeId} {x i : Operand} : pPure T S e (.indexAddr t x i) = pIndexAddr T S t (e.ev x) (e.ev i) := rfl
theorem rcs_one {r : Rect} : rcs [r] = r.cells := by simp [rcs]
theorem rcs_tk {rs : List Rect} : (rcs rs).take (rs.length * 4) = rcs rs := by rw [← rcs_len,List.take_length]
theorem rcell_len {r : Rect} : r.cells.length = 4 := rfl
theorem rcell_all {r : Rect} : allCells r.cells = True := eq_true (by intro p hp; simp [Rect.cells] at hp; rcases hp with rfl | rfl | rfl | rfl <;> rfl)
def gcs (d : List (List Int)) (cur : PV) (m : Nat) : List PV := d.map eInts ++ cur :: List.replicate m .nils
theorem rn_gcs {S : Store} {k f : Nat} {sel : List Nat} {d : List (List Int)} {cur cur2 : PV} {m : Nat} (h : rn S k sel (f + 1) cur = some cur2) : (gcs d cur m).mapM (rn S k sel (f + 1)) = some (gcs d cur2 m) := by
 unfold gcs
 rw [List.mapM_append,mapM_same (l := d.map eInts) (fun x hx => by obtain ⟨a,_,rfl⟩ := List.mem_map.1 hx; rfl),List.mapM_cons,h,mapM_same (l := List.replicate m PV.nils) (fun x hx => by obtain rfl := List.eq_of_mem_replicate hx; rfl)]
 rfl
theorem keyed_int {z : Int} : TK.keyed tab 3 (.int .i64 z) = true := by simp only [TK.keyed,tyint]; rfl
theorem settled2_old_ev {g d : List (List Int)} {y : List Int} {row ks : List Int} {rs : List Rect} {z : Int} {r c w m xv yv vq t : Nat} (hr : r < 6) (hc : c < 6) (hrow : g[r]? = some row) (hz : row[c]? = some z) (hs : SeOk ks rs) (hk : ks.length ≤ 64) (hin : ¬ ks.idxOf z = ks.length) : Ev Tryz.prog 152 [.int .i64 (r : Nat),.int .i64 (c : Nat),.ref 5 5 0,.ref 0 0 0,.ref 3 3 0] ⟨[.arr 0 98 1 [eGrid g],.arr 1 3 1 [.int .i64 w],.arr 2 101 2 [.nils,.loc 8 vq 0 (rs).length],.arr 3 49 1 [.ref 2 2 0],.map 4 (mE ks),.arr 5 170 1 [.mp 4 4],.arr xv 24 1 (gcs d (.loc 7 yv 0 w) m),.arr yv 3 1 (y.map (.int .i64)),.arr vq 55 4 (rcs rs)],t⟩ fun v S => v = .int .i64 ((ks.idxOf z : Nat) : Int) ∧ ∃ vq t : Nat,S = ⟨[.arr 0 98 1 [eGrid g],.arr 1 3 1 [.int .i64 w],.arr 2 101 2 [.nils,.loc 8 vq 0 ((seRs ks rs z (oneR r c))).length],.arr 3 49 1 [.ref 2 2 0],.map 4 (mE (seKs ks z)),.arr 5 170 1 [.mp 4 4],.arr xv 24 1 (gcs d (.loc 7 yv 0 w) m),.arr yv 3 1 (y.map (.int .i64)),.arr vq 55 4 (rcs (seRs ks rs z (oneR r c)))],t⟩ := by
 have hrl := len_of hrow
 have hcl := len_of hz
 have hgl : g.length = g.length := rfl
 obtain ⟨hi1,hi2,b,hb,hbf⟩ := hs.in_ (z := z) (oneR_fit hr hc)
 have hil := idxOf_le (ks := ks) (z := z)
 have hsl := hs.1
 have hst := hs.step (z := z) (oneR_fit hr hc)
 have hfs := findKey_some hin
 have hki : seKs ks z = ks := by simp [seKs,hin]
 have hri : seIn ks rs z (oneR r c) = rs := by simp [seIn,hin]
 refine Ev.of ⟨Tryz.func152,by kernel_rfl,rfl,by kernel_rfl⟩ tabOk mixed (by show 5 ≤ Tryz.f152.ntmps; decide) ?_
 refine W.r fun K hK => ?_
 simp (disch := omega) only [↓RU,RV,RH,↓reduceIte,reduceEqDiff,reduceCtorEq,if_pos,↓RS,RG,reduceAdd,reduceMul,reduceLeDiff]
 refine hK _ _ ?_;clear hK K
 refine W.seq_draw (by kernel_rfl) fun K hK => ?_
 simp (disch := omega) only [↓RU,RV,RH,↓reduceIte,reduceEqDiff,reduceCtorEq,if_pos,↓RS,RG,reduceAdd,reduceMul,reduceLeDiff,ty1,tyLint,ty11,tyint,ty18,hrow,hz,mE_len,hfs]
 refine hK _ _ ?_;clear hK K
 refine W.joinS [0,1,2,3,4,8] (fun vs S => ∃ vq t : Nat,vs = [.int .i64 (r : Nat),.int .i64 (c : Nat),.ref 5 5 0,.ref 0 0 0,.ref 3 3 0,.int .i64 ((ks.idxOf z : Nat) : Int)] ∧ S = ⟨[.arr 0 98 1 [eGrid g],.arr 1 3 1 [.int .i64 w],.arr 2 101 2 [.nils,.loc 8 vq 0 ((seIn ks rs z (oneR r c))).length],.arr 3 49 1 [.ref 2 2 0],.map 4 (mE (seKs ks z)),.arr 5 170 1 [.mp 4 4],.arr xv 24 1 (gcs d (.loc 7 yv 0 w) m),.arr yv 3 1 (y.map (.int .i64)),.arr vq 55 4 (rcs (seIn ks rs z (oneR r c)))],t⟩) ?_ ?_
 ·
  refine W.r fun K hK => ?_
  simp (disch := omega) only [↓RU,RV,RH,↓reduceIte,reduceEqDiff,reduceCtorEq,if_pos,↓RS,RG,reduceAdd,reduceMul,reduceLeDiff]
  refine hK _ _ ?_;clear hK K
  refine W.cond rfl (fun h => ?_) (fun h => ?_)
  ·try simp only [RL] at h
   exact absurd h (by simp)
  ·try simp only [RL] at h
   refine W.skip ?_
   refine xn ?_
   refine ⟨9,[],[.int .i64 (r : Nat),.int .i64 (c : Nat),.ref 5 5 0,.ref 0 0 0,.ref 3 3 0,.int .i64 ((ks.idxOf z : Nat) : Int)],⟨[.arr 0 98 1 [eGrid g],.arr 1 3 1 [.int .i64 w],.arr 2 101 2 [.nils,.loc 8 vq 0 ((seIn ks rs z (oneR r c))).length],.arr 3 49 1 [.ref 2 2 0],.map 4 (mE (seKs ks z)),.arr 5 170 1 [.mp 4 4],.arr xv 24 1 (gcs d (.loc 7 yv 0 w) m),.arr yv 3 1 (y.map (.int .i64)),.arr vq 55 4 (rcs (seIn ks rs z (oneR r c)))],(t + 1)⟩,?_,?_,vq,t + 1,rfl,rfl⟩
   ·simp [-List.mapM_map,Env.put,Env.of,argEnv,Srn_eq,rnObs_cons,rnObs_nil,rnOb_arr,rnOb_map,rn_loc,rn_ref,rn_mp,rn_int,rn_bool,rn_str,rn_ip,rn_sl,rn_nils,rn_nilp,rn_undef,rn_agg,rn_tup,rn_fn,rfq_loc,rfq_int,rfq_bool,rfq_str,rfq_sl,frOf,List.range_succ,List.mapM_append,List.mapM_cons]
   ·rw [hki,hri]; simp [-List.mapM_map,Env.put,Env.of,argEnv,Srn_eq,rnObs_cons,rnObs_nil,rnOb_arr,rnOb_map,rn_loc,rn_ref,rn_mp,rn_int,rn_bool,rn_str,rn_ip,rn_sl,rn_nils,rn_nilp,rn_undef,rn_agg,rn_tup,rn_fn,rfq_loc,rfq_int,rfq_bool,rfq_str,rfq_sl,frOf,List.range_succ,List.mapM_append,List.mapM_cons,rn_mE,rn_rcs,rn_ints,rn_gcs]
 rintro vs S - ⟨vq,t,rfl,rfl⟩
 have hrs2 := seRs_is hb
 generalize hks1 : seKs ks z = ks1 at hi1 hst
 generalize hrs1 : seIn ks rs z (oneR r c) = rs1 at hb hi1 hi2 hrs2
 have hbl := len_of hb
 refine W.seq_draw (by kernel_rfl) fun K hK => ?_
 have hcell := (oneR_cells (r := r) (c := c)).symm
 have hba : PV.agg b.cells = eRect b := rfl
 simp (disch := omega) only [↓RU,RV,RH,↓reduceIte,reduceEqDiff,reduceCtorEq,if_pos,List.append_nil,↓RS,RG,reduceAdd,reduceMul,reduceLeDiff,ty1,ty3,tyLint,ty7,ty10,ty11,ty15,tyint,ty24,ty28,rcs_at hb,rcs_len,← oneR_cells,hcell,rcell_len,rcell_all,rcs_set4]
 refine CallR.pc (both_pc (b := b) (o := oneR r c) hbf.in_ (oneR_fit hr hc).in_) rfl (.inl rfl) ?_
 simp (disch := omega) only [↓RU,RV,RH,↓reduceIte,reduceEqDiff,reduceCtorEq,if_pos,List.append_nil,↓RS,RG,reduceAdd,reduceMul,reduceLeDiff,ty1,ty3,tyLint,ty7,ty10,ty11,ty15,tyint,ty24,ty28,rcs_at hb,rcs_len,← oneR_cells,hcell,rcell_len,rcell_all,rcs_set4]
 refine hK _ _ ?_;clear hK K
 refine W.r fun K hK => ?_
 simp (disch := omega) only [↓RU,RV,RH,↓reduceIte,reduceEqDiff,reduceCtorEq,if_pos,↓RS,RG,reduceAdd,reduceMul,reduceLeDiff]
 refine hK _ _ ?_;clear hK K
 refine W.ret ?_
 refine Br rfl ?_
 refine ⟨9,rfl,vq,t,?_⟩
 rw [hrs2]
 simp [take_eq]
theorem settled2_first_ev {g d : List (List Int)} {y : List Int} {row ks : List Int} {rs : List Rect} {z : Int} {r c w m xv yv vq t : Nat} (hr : r < 6) (hc : c < 6) (hrow : g[r]? = some row) (hz : row[c]? = some z) (hs : SeOk ks rs) (hk : ks.length ≤ 64) (hn : rs = []) (hn2 : ks = []) : Ev Tryz.prog 152 [.int .i64 (r : Nat),.int .i64 (c : Nat),.ref 5 5 0,.ref 0 0 0,.ref 3 3 0] ⟨[.arr 0 98 1 [eGrid g],.arr 1 3 1 [.int .i64 w],.arr 2 101 2 [.nils,.nils],.arr 3 49 1 [.ref 2 2 0],.map 4 (mE ks),.arr 5 170 1 [.mp 4 4],.arr xv 24 1 (gcs d (.loc 7 yv 0 w) m),.arr yv 3 1 (y.map (.int .i64))],t⟩ fun v S => v = .int .i64 ((ks.idxOf z : Nat) : Int) ∧ ∃ vq t : Nat,S = ⟨[.arr 0 98 1 [eGrid g],.arr 1 3 1 [.int .i64 w],.arr 2 101 2 [.nils,.loc 8 vq 0 ((seRs ks rs z (oneR r c))).length],.arr 3 49 1 [.ref 2 2 0],.map 4 (mE (seKs ks z)),.arr 5 170 1 [.mp 4 4],.arr xv 24 1 (gcs d (.loc 7 yv 0 w) m),.arr yv 3 1 (y.map (.int .i64)),.arr vq 55 4 (rcs (seRs ks rs z (oneR r c)))],t⟩ := by
 have hin : ks.idxOf z = ks.length := by rw [hn2]; rfl
 have hrl := len_of hrow
 have hcl := len_of hz
 have hgl : g.length = g.length := rfl
 obtain ⟨hi1,hi2,b,hb,hbf⟩ := hs.in_ (z := z) (oneR_fit hr hc)
 have hil := idxOf_le (ks := ks) (z := z)
 have hsl := hs.1
 have hst := hs.step (z := z) (oneR_fit hr hc)
 have hfn := findKey_none hin
 have hki : seKs ks z = ks ++ [z] := by simp [seKs,hin]
 have hri : seIn ks rs z (oneR r c) = rs ++ [oneR r c] := by simp [seIn,hin]
 refine Ev.of ⟨Tryz.func152,by kernel_rfl,rfl,by kernel_rfl⟩ tabOk mixed (by show 5 ≤ Tryz.f152.ntmps; decide) ?_
 refine W.r fun K hK => ?_
 simp (disch := omega) only [↓RU,RV,RH,↓reduceIte,reduceEqDiff,reduceCtorEq,if_pos,↓RS,RG,reduceAdd,reduceMul,reduceLeDiff]
 refine hK _ _ ?_;clear hK K
 refine W.seq_draw (by kernel_rfl) fun K hK => ?_
 simp (disch := omega) only [↓RU,RV,RH,↓reduceIte,reduceEqDiff,reduceCtorEq,if_pos,↓RS,RG,reduceAdd,reduceMul,reduceLeDiff,ty1,tyLint,ty11,tyint,ty18,hrow,hz,mE_len,hfn]
 refine hK _ _ ?_;clear hK K
 refine W.joinS [0,1,2,3,4,8] (fun vs S => ∃ vq t : Nat,vs = [.int .i64 (r : Nat),.int .i64 (c : Nat),.ref 5 5 0,.ref 0 0 0,.ref 3 3 0,.int .i64 ((ks.idxOf z : Nat) : Int)] ∧ S = ⟨[.arr 0 98 1 [eGrid g],.arr 1 3 1 [.int .i64 w],.arr 2 101 2 [.nils,.loc 8 vq 0 ((seIn ks rs z (oneR r c))).length],.arr 3 49 1 [.ref 2 2 0],.map 4 (mE (seKs ks z)),.arr 5 170 1 [.mp 4 4],.arr xv 24 1 (gcs d (.loc 7 yv 0 w) m),.arr yv 3 1 (y.map (.int .i64)),.arr vq 55 4 (rcs (seIn ks rs z (oneR r c)))],t⟩) ?_ ?_
 ·
  refine W.r fun K hK => ?_
  simp (disch := omega) only [↓RU,RV,RH,↓reduceIte,reduceEqDiff,reduceCtorEq,if_pos,↓RS,RG,reduceAdd,reduceMul,reduceLeDiff]
  refine hK _ _ ?_;clear hK K
  refine W.cond rfl (fun h => ?_) (fun h => ?_)
  ·try simp only [RL] at h
   refine W.r fun K hK => ?_
   simp (disch := omega) only [↓RU,RV,RH,↓reduceIte,reduceEqDiff,reduceCtorEq,if_pos,↓RS,RG,reduceAdd,reduceMul,reduceLeDiff,tyint,ty18,mE_len]
   refine hK _ _ ?_;clear hK K
   refine W.seq_draw (by kernel_rfl) fun K hK => ?_
   simp (disch := omega) only [↓RU,RV,RH,↓reduceIte,reduceEqDiff,reduceCtorEq,if_pos,↓RS,RG,reduceAdd,reduceMul,reduceLeDiff,ty1,tyLint,ty11,tyint,ty18,hrow,hz,hfn,keyed_int]
   refine hK _ _ ?_;clear hK K
   refine W.region_pk 10 [some 35,some 36,some 37,some 38,some 39] [2,3] (by decide) (by kernel_rfl) fun K hK => ?_
   simp only [List.take_succ_cons,List.take_zero,List.drop_succ_cons,List.drop_zero]
   refine eRunK_pend (.ref 2 2 0) rfl rfl rfl (fun S' hS => ?_) ?_
   ·skip
    have k2 := (hS 2 (by decide)).trans (show _ = some _ from rfl)
    have k3 := (hS 3 (by decide)).trans (show _ = some _ from rfl)
    simp (disch := omega) only [↓RU,RV,RH,↓reduceIte,reduceEqDiff,reduceCtorEq,if_pos,↓RS,RG,reduceAdd,reduceMul,reduceLeDiff,ty1,ty3,tyLint,ty7,ty10,ty11,ty15,tyint,ty24,ty28,rcs_len,rcell_len,rcell_all,pp_load,pp_nil,pp_fa,pp_ia,k2,k3]
   refine eRunK_pend (.ref 2 2 0) rfl rfl rfl (fun S' hS => ?_) ?_
   ·skip
    have k2 := (hS 2 (by decide)).trans (show _ = some _ from rfl)
    have k3 := (hS 3 (by decide)).trans (show _ = some _ from rfl)
    simp (disch := omega) only [↓RU,RV,RH,↓reduceIte,reduceEqDiff,reduceCtorEq,if_pos,↓RS,RG,reduceAdd,reduceMul,reduceLeDiff,ty1,ty3,tyLint,ty7,ty10,ty11,ty15,tyint,ty24,ty28,rcs_len,rcell_len,rcell_all,pp_load,pp_nil,pp_fa,pp_ia,k2,k3]
   refine eRunK_pend (.ref 2 2 0) rfl rfl rfl (fun S' hS => ?_) ?_
   ·skip
    have k2 := (hS 2 (by decide)).trans (show _ = some _ from rfl)
    have k3 := (hS 3 (by decide)).trans (show _ = some _ from rfl)
    simp (disch := omega) only [↓RU,RV,RH,↓reduceIte,reduceEqDiff,reduceCtorEq,if_pos,↓RS,RG,reduceAdd,reduceMul,reduceLeDiff,ty1,ty3,tyLint,ty7,ty10,ty11,ty15,tyint,ty24,ty28,rcs_len,rcell_len,rcell_all,pp_load,pp_nil,pp_fa,pp_ia,k2,k3]
   refine eRunK_pend (.ref 2 2 1) rfl rfl rfl (fun S' hS => ?_) ?_
   ·skip
    have k2 := (hS 2 (by decide)).trans (show _ = some _ from rfl)
    have k3 := (hS 3 (by decide)).trans (show _ = some _ from rfl)
    simp (disch := omega) only [↓RU,RV,RH,↓reduceIte,reduceEqDiff,reduceCtorEq,if_pos,↓RS,RG,reduceAdd,reduceMul,reduceLeDiff,ty1,ty3,tyLint,ty7,ty10,ty11,ty15,tyint,ty24,ty28,rcs_len,rcell_len,rcell_all,pp_load,pp_nil,pp_fa,pp_ia,k2,k3]
   refine eRunK_pend (.nils) rfl rfl rfl (fun S' hS => ?_) ?_
   ·skip
    have k2 := (hS 2 (by decide)).trans (show _ = some _ from rfl)
    have k3 := (hS 3 (by decide)).trans (show _ = some _ from rfl)
    simp (disch := omega) only [↓RU,RV,RH,↓reduceIte,reduceEqDiff,reduceCtorEq,if_pos,↓RS,RG,reduceAdd,reduceMul,reduceLeDiff,ty1,ty3,tyLint,ty7,ty10,ty11,ty15,tyint,ty24,ty28,rcs_len,rcell_len,rcell_all,pp_load,pp_nil,pp_fa,pp_ia,k2,k3]
   refine eRunK_go rfl ?_
   simp (disch := omega) only [↓RU,RV,RH,↓reduceIte,reduceEqDiff,reduceCtorEq,if_pos,↓RS,RG,reduceAdd,reduceMul,reduceLeDiff,ty1,ty3,tyLint,ty7,ty10,ty11,ty15,tyint,ty24,ty28,rcs_len,rcell_len,rcell_all,keeps_cons,keeps_nil]
   refine eRunK_go rfl ?_
   simp (disch := omega) only [↓RU,RV,RH,↓reduceIte,reduceEqDiff,reduceCtorEq,if_pos,↓RS,RG,reduceAdd,reduceMul,reduceLeDiff,ty1,ty3,tyLint,ty7,ty10,ty11,ty15,tyint,ty24,ty28,rcs_len,rcell_len,rcell_all,keeps_cons,keeps_nil]
   refine eRunK_go rfl ?_
   simp (disch := omega) only [↓RU,RV,RH,↓reduceIte,reduceEqDiff,reduceCtorEq,if_pos,↓RS,RG,reduceAdd,reduceMul,reduceLeDiff,ty1,ty3,tyLint,ty7,ty10,ty11,ty15,tyint,ty24,ty28,rcs_len,rcell_len,rcell_all,keeps_cons,keeps_nil]
   refine eRunK_go rfl ?_
   simp (disch := omega) only [↓RU,RV,RH,↓reduceIte,reduceEqDiff,reduceCtorEq,if_pos,↓RS,RG,reduceAdd,reduceMul,reduceLeDiff,ty1,ty3,tyLint,ty7,ty10,ty11,ty15,tyint,ty24,ty28,rcs_len,rcell_len,rcell_all,keeps_cons,keeps_nil]
   refine eRunK_go rfl ?_
   simp (disch := omega) only [↓RU,RV,RH,↓reduceIte,reduceEqDiff,reduceCtorEq,if_pos,↓RS,RG,reduceAdd,reduceMul,reduceLeDiff,ty1,ty3,tyLint,ty7,ty10,ty11,ty15,tyint,ty24,ty28,rcs_len,rcell_len,rcell_all,keeps_cons,keeps_nil]
   refine eRunK_end ?_
   simp (disch := omega) only [↓RU,RV,RH,↓reduceIte,reduceEqDiff,reduceCtorEq,if_pos,↓RS,RG,reduceAdd,reduceMul,reduceLeDiff,ty1,ty3,tyLint,ty7,ty10,ty11,ty15,tyint,ty24,ty28,rcs_len,rcell_len,rcell_all]
   refine hK _ _ ?_;clear hK K
   refine xn ?_
   refine ⟨8,[9],[.int .i64 (r : Nat),.int .i64 (c : Nat),.ref 5 5 0,.ref 0 0 0,.ref 3 3 0,.int .i64 ((ks.idxOf z : Nat) : Int)],⟨[.arr 0 98 1 [eGrid g],.arr 1 3 1 [.int .i64 w],.arr 2 101 2 [.nils,.loc 8 (t + 2) 0 ((seIn ks rs z (oneR r c))).length],.arr 3 49 1 [.ref 2 2 0],.map 4 (mE (seKs ks z)),.arr 5 170 1 [.mp 4 4],.arr xv 24 1 (gcs d (.loc 7 yv 0 w) m),.arr yv 3 1 (y.map (.int .i64)),.arr (t + 2) 55 4 (rcs (seIn ks rs z (oneR r c)))],(t + 3)⟩,?_,?_,(t + 2),(t + 3),rfl,rfl⟩
   ·rw [hin]; simp [-List.mapM_map,Env.put,Env.of,argEnv,Srn_eq,rnObs_cons,rnObs_nil,rnOb_arr,rnOb_map,rn_loc,rn_ref,rn_mp,rn_int,rn_bool,rn_str,rn_ip,rn_sl,rn_nils,rn_nilp,rn_undef,rn_agg,rn_tup,rn_fn,rfq_loc,rfq_int,rfq_bool,rfq_str,rfq_sl,frOf,List.range_succ,List.mapM_append,List.mapM_cons]
   ·rw [hki,hri,hn]; simp [-List.mapM_map,Env.put,Env.of,argEnv,Srn_eq,rnObs_cons,rnObs_nil,rnOb_arr,rnOb_map,rn_loc,rn_ref,rn_mp,rn_int,rn_bool,rn_str,rn_ip,rn_sl,rn_nils,rn_nilp,rn_undef,rn_agg,rn_tup,rn_fn,rfq_loc,rfq_int,rfq_bool,rfq_str,rfq_sl,frOf,List.range_succ,List.mapM_append,List.mapM_cons,rn_mE,rn_rcs,rn_ints,rn_gcs,mE_app,rcs_app,rcs_one,oneR_cells,rcs_tk]
  ·try simp only [RL] at h
   exact absurd h (by simp)
 rintro vs S - ⟨vq,t,rfl,rfl⟩
 have hrs2 := seRs_is hb
 generalize hks1 : seKs ks z = ks1 at hi1 hst
 generalize hrs1 : seIn ks rs z (oneR r c) = rs1 at hb hi1 hi2 hrs2
 have hbl := len_of hb
 refine W.seq_draw (by kernel_rfl) fun K hK => ?_
 have hcell := (oneR_cells (r := r) (c := c)).symm
 have hba : PV.agg b.cells = eRect b := rfl
 simp (disch := omega) only [↓RU,RV,RH,↓reduceIte,reduceEqDiff,reduceCtorEq,if_pos,List.append_nil,↓RS,RG,reduceAdd,reduceMul,reduceLeDiff,ty1,ty3,tyLint,ty7,ty10,ty11,ty15,tyint,ty24,ty28,rcs_at hb,rcs_len,← oneR_cells,hcell,rcell_len,rcell_all,rcs_set4]
 refine CallR.pc (both_pc (b := b) (o := oneR r c) hbf.in_ (oneR_fit hr hc).in_) rfl (.inl rfl) ?_
 simp (disch := omega) only [↓RU,RV,RH,↓reduceIte,reduceEqDiff,reduceCtorEq,if_pos,List.append_nil,↓RS,RG,reduceAdd,reduceMul,reduceLeDiff,ty1,ty3,tyLint,ty7,ty10,ty11,ty15,tyint,ty24,ty28,rcs_at hb,rcs_len,← oneR_cells,hcell,rcell_len,rcell_all,rcs_set4]
 refine hK _ _ ?_;clear hK K
 refine W.r fun K hK => ?_
 simp (disch := omega) only [↓RU,RV,RH,↓reduceIte,reduceEqDiff,reduceCtorEq,if_pos,↓RS,RG,reduceAdd,reduceMul,reduceLeDiff]
 refine hK _ _ ?_;clear hK K
 refine W.ret ?_
 refine Br rfl ?_
 refine ⟨9,rfl,vq,t,?_⟩
 rw [hrs2]
 simp [take_eq]
theorem settled2_new_ev {g d : List (List Int)} {y : List Int} {row ks : List Int} {rs : List Rect} {z : Int} {r c w m xv yv vq t : Nat} (hr : r < 6) (hc : c < 6) (hrow : g[r]? = some row) (hz : row[c]? = some z) (hs : SeOk ks rs) (hk : ks.length ≤ 64) (hin : ks.idxOf z = ks.length) : Ev Tryz.prog 152 [.int .i64 (r : Nat),.int .i64 (c : Nat),.ref 5 5 0,.ref 0 0 0,.ref 3 3 0] ⟨[.arr 0 98 1 [eGrid g],.arr 1 3 1 [.int .i64 w],.arr 2 101 2 [.nils,.loc 8 vq 0 (rs).length],.arr 3 49 1 [.ref 2 2 0],.map 4 (mE ks),.arr 5 170 1 [.mp 4 4],.arr xv 24 1 (gcs d (.loc 7 yv 0 w) m),.arr yv 3 1 (y.map (.int .i64)),.arr vq 55 4 (rcs rs)],t⟩ fun v S => v = .int .i64 ((ks.idxOf z : Nat) : Int) ∧ ∃ vq t : Nat,S = ⟨[.arr 0 98 1 [eGrid g],.arr 1 3 1 [.int .i64 w],.arr 2 101 2 [.nils,.loc 8 vq 0 ((seRs ks rs z (oneR r c))).length],.arr 3 49 1 [.ref 2 2 0],.map 4 (mE (seKs ks z)),.arr 5 170 1 [.mp 4 4],.arr xv 24 1 (gcs d (.loc 7 yv 0 w) m),.arr yv 3 1 (y.map (.int .i64)),.arr vq 55 4 (rcs (seRs ks rs z (oneR r c)))],t⟩ := by
 have hrl := len_of hrow
 have hcl := len_of hz
 have hgl : g.length = g.length := rfl
 obtain ⟨hi1,hi2,b,hb,hbf⟩ := hs.in_ (z := z) (oneR_fit hr hc)
 have hil := idxOf_le (ks := ks) (z := z)
 have hsl := hs.1
 have hst := hs.step (z := z) (oneR_fit hr hc)
 have hfn := findKey_none hin
 have hki : seKs ks z = ks ++ [z] := by simp [seKs,hin]
 have hri : seIn ks rs z (oneR r c) = rs ++ [oneR r c] := by simp [seIn,hin]
 refine Ev.of ⟨Tryz.func152,by kernel_rfl,rfl,by kernel_rfl⟩ tabOk mixed (by show 5 ≤ Tryz.f152.ntmps; decide) ?_
 refine W.r fun K hK => ?_
 simp (disch := omega) only [↓RU,RV,RH,↓reduceIte,reduceEqDiff,reduceCtorEq,if_pos,↓RS,RG,reduceAdd,reduceMul,reduceLeDiff]
 refine hK _ _ ?_;clear hK K
 refine W.seq_draw (by kernel_rfl) fun K hK => ?_
 simp (disch := omega) only [↓RU,RV,RH,↓reduceIte,reduceEqDiff,reduceCtorEq,if_pos,↓RS,RG,reduceAdd,reduceMul,reduceLeDiff,ty1,tyLint,ty11,tyint,ty18,hrow,hz,mE_len,hfn]
 refine hK _ _ ?_;clear hK K
 refine W.joinS [0,1,2,3,4,8] (fun vs S => ∃ vq t : Nat,vs = [.int .i64 (r : Nat),.int .i64 (c : Nat),.ref 5 5 0,.ref 0 0 0,.ref 3 3 0,.int .i64 ((ks.idxOf z : Nat) : Int)] ∧ S = ⟨[.arr 0 98 1 [eGrid g],.arr 1 3 1 [.int .i64 w],.arr 2 101 2 [.nils,.loc 8 vq 0 ((seIn ks rs z (oneR r c))).length],.arr 3 49 1 [.ref 2 2 0],.map 4 (mE (seKs ks z)),.arr 5 170 1 [.mp 4 4],.arr xv 24 1 (gcs d (.loc 7 yv 0 w) m),.arr yv 3 1 (y.map (.int .i64)),.arr vq 55 4 (rcs (seIn ks rs z (oneR r c)))],t⟩) ?_ ?_
 ·
  refine W.r fun K hK => ?_
  simp (disch := omega) only [↓RU,RV,RH,↓reduceIte,reduceEqDiff,reduceCtorEq,if_pos,↓RS,RG,reduceAdd,reduceMul,reduceLeDiff]
  refine hK _ _ ?_;clear hK K
  refine W.cond rfl (fun h => ?_) (fun h => ?_)
  ·try simp only [RL] at h
   refine W.r fun K hK => ?_
   simp (disch := omega) only [↓RU,RV,RH,↓reduceIte,reduceEqDiff,reduceCtorEq,if_pos,↓RS,RG,reduceAdd,reduceMul,reduceLeDiff,tyint,ty18,mE_len]
   refine hK _ _ ?_;clear hK K
   refine W.seq_draw (by kernel_rfl) fun K hK => ?_
   simp (disch := omega) only [↓RU,RV,RH,↓reduceIte,reduceEqDiff,reduceCtorEq,if_pos,↓RS,RG,reduceAdd,reduceMul,reduceLeDiff,ty1,tyLint,ty11,tyint,ty18,hrow,hz,hfn,keyed_int]
   refine hK _ _ ?_;clear hK K
   refine W.region_pk 10 [some 35,some 36,some 37,some 38,some 39] [2,3] (by decide) (by kernel_rfl) fun K hK => ?_
   simp only [List.take_succ_cons,List.take_zero,List.drop_succ_cons,List.drop_zero]
   refine eRunK_pend (.ref 2 2 0) rfl rfl rfl (fun S' hS => ?_) ?_
   ·skip
    have k2 := (hS 2 (by decide)).trans (show _ = some _ from rfl)
    have k3 := (hS 3 (by decide)).trans (show _ = some _ from rfl)
    simp (disch := omega) only [↓RU,RV,RH,↓reduceIte,reduceEqDiff,reduceCtorEq,if_pos,↓RS,RG,reduceAdd,reduceMul,reduceLeDiff,ty1,ty3,tyLint,ty7,ty10,ty11,ty15,tyint,ty24,ty28,rcs_len,rcell_len,rcell_all,pp_load,pp_nil,pp_fa,pp_ia,k2,k3]
   refine eRunK_pend (.ref 2 2 0) rfl rfl rfl (fun S' hS => ?_) ?_
   ·skip
    have k2 := (hS 2 (by decide)).trans (show _ = some _ from rfl)
    have k3 := (hS 3 (by decide)).trans (show _ = some _ from rfl)
    simp (disch := omega) only [↓RU,RV,RH,↓reduceIte,reduceEqDiff,reduceCtorEq,if_pos,↓RS,RG,reduceAdd,reduceMul,reduceLeDiff,ty1,ty3,tyLint,ty7,ty10,ty11,ty15,tyint,ty24,ty28,rcs_len,rcell_len,rcell_all,pp_load,pp_nil,pp_fa,pp_ia,k2,k3]
   refine eRunK_pend (.ref 2 2 0) rfl rfl rfl (fun S' hS => ?_) ?_
   ·skip
    have k2 := (hS 2 (by decide)).trans (show _ = some _ from rfl)
    have k3 := (hS 3 (by decide)).trans (show _ = some _ from rfl)
    simp (disch := omega) only [↓RU,RV,RH,↓reduceIte,reduceEqDiff,reduceCtorEq,if_pos,↓RS,RG,reduceAdd,reduceMul,reduceLeDiff,ty1,ty3,tyLint,ty7,ty10,ty11,ty15,tyint,ty24,ty28,rcs_len,rcell_len,rcell_all,pp_load,pp_nil,pp_fa,pp_ia,k2,k3]
   refine eRunK_pend (.ref 2 2 1) rfl rfl rfl (fun S' hS => ?_) ?_
   ·skip
    have k2 := (hS 2 (by decide)).trans (show _ = some _ from rfl)
    have k3 := (hS 3 (by decide)).trans (show _ = some _ from rfl)
    simp (disch := omega) only [↓RU,RV,RH,↓reduceIte,reduceEqDiff,reduceCtorEq,if_pos,↓RS,RG,reduceAdd,reduceMul,reduceLeDiff,ty1,ty3,tyLint,ty7,ty10,ty11,ty15,tyint,ty24,ty28,rcs_len,rcell_len,rcell_all,pp_load,pp_nil,pp_fa,pp_ia,k2,k3]
   refine eRunK_pend (.loc 8 vq 0 rs.length) rfl rfl rfl (fun S' hS => ?_) ?_
   ·skip
    have k2 := (hS 2 (by decide)).trans (show _ = some _ from rfl)
    have k3 := (hS 3 (by decide)).trans (show _ = some _ from rfl)
    simp (disch := omega) only [↓RU,RV,RH,↓reduceIte,reduceEqDiff,reduceCtorEq,if_pos,↓RS,RG,reduceAdd,reduceMul,reduceLeDiff,ty1,ty3,tyLint,ty7,ty10,ty11,ty15,tyint,ty24,ty28,rcs_len,rcell_len,rcell_all,pp_load,pp_nil,pp_fa,pp_ia,k2,k3]
   refine eRunK_go rfl ?_
   simp (disch := omega) only [↓RU,RV,RH,↓reduceIte,reduceEqDiff,reduceCtorEq,if_pos,↓RS,RG,reduceAdd,reduceMul,reduceLeDiff,ty1,ty3,tyLint,ty7,ty10,ty11,ty15,tyint,ty24,ty28,rcs_len,rcell_len,rcell_all,keeps_cons,keeps_nil]
   refine eRunK_go rfl ?_
   simp (disch := omega) only [↓RU,RV,RH,↓reduceIte,reduceEqDiff,reduceCtorEq,if_pos,↓RS,RG,reduceAdd,reduceMul,reduceLeDiff,ty1,ty3,tyLint,ty7,ty10,ty11,ty15,tyint,ty24,ty28,rcs_len,rcell_len,rcell_all,keeps_cons,keeps_nil]
   refine eRunK_go rfl ?_
   simp (disch := omega) only [↓RU,RV,RH,↓reduceIte,reduceEqDiff,reduceCtorEq,if_pos,↓RS,RG,reduceAdd,reduceMul,reduceLeDiff,ty1,ty3,tyLint,ty7,ty10,ty11,ty15,tyint,ty24,ty28,rcs_len,rcell_len,rcell_all,keeps_cons,keeps_nil]
   refine eRunK_go rfl ?_
   simp (disch := omega) only [↓RU,RV,RH,↓reduceIte,reduceEqDiff,reduceCtorEq,if_pos,↓RS,RG,reduceAdd,reduceMul,reduceLeDiff,ty1,ty3,tyLint,ty7,ty10,ty11,ty15,tyint,ty24,ty28,rcs_len,rcell_len,rcell_all,keeps_cons,keeps_nil]
   refine eRunK_go rfl ?_
   simp (disch := omega) only [↓RU,RV,RH,↓reduceIte,reduceEqDiff,reduceCtorEq,if_pos,↓RS,RG,reduceAdd,reduceMul,reduceLeDiff,ty1,ty3,tyLint,ty7,ty10,ty11,ty15,tyint,ty24,ty28,rcs_len,rcell_len,rcell_all,keeps_cons,keeps_nil]
   refine eRunK_end ?_
   simp (disch := omega) only [↓RU,RV,RH,↓reduceIte,reduceEqDiff,reduceCtorEq,if_pos,↓RS,RG,reduceAdd,reduceMul,reduceLeDiff,ty1,ty3,tyLint,ty7,ty10,ty11,ty15,tyint,ty24,ty28,rcs_len,rcell_len,rcell_all]
   refine hK _ _ ?_;clear hK K
   refine xn ?_
   refine ⟨9,[],[.int .i64 (r : Nat),.int .i64 (c : Nat),.ref 5 5 0,.ref 0 0 0,.ref 3 3 0,.int .i64 ((ks.idxOf z : Nat) : Int)],⟨[.arr 0 98 1 [eGrid g],.arr 1 3 1 [.int .i64 w],.arr 2 101 2 [.nils,.loc 8 (t + 1) 0 ((seIn ks rs z (oneR r c))).length],.arr 3 49 1 [.ref 2 2 0],.map 4 (mE (seKs ks z)),.arr 5 170 1 [.mp 4 4],.arr xv 24 1 (gcs d (.loc 7 yv 0 w) m),.arr yv 3 1 (y.map (.int .i64)),.arr (t + 1) 55 4 (rcs (seIn ks rs z (oneR r c)))],(t + 3)⟩,?_,?_,(t + 1),(t + 3),rfl,rfl⟩
   ·rw [hin]; simp [-List.mapM_map,Env.put,Env.of,argEnv,Srn_eq,rnObs_cons,rnObs_nil,rnOb_arr,rnOb_map,rn_loc,rn_ref,rn_mp,rn_int,rn_bool,rn_str,rn_ip,rn_sl,rn_nils,rn_nilp,rn_undef,rn_agg,rn_tup,rn_fn,rfq_loc,rfq_int,rfq_bool,rfq_str,rfq_sl,frOf,List.range_succ,List.mapM_append,List.mapM_cons]
   ·rw [hki,hri]; simp [-List.mapM_map,Env.put,Env.of,argEnv,Srn_eq,rnObs_cons,rnObs_nil,rnOb_arr,rnOb_map,rn_loc,rn_ref,rn_mp,rn_int,rn_bool,rn_str,rn_ip,rn_sl,rn_nils,rn_nilp,rn_undef,rn_agg,rn_tup,rn_fn,rfq_loc,rfq_int,rfq_bool,rfq_str,rfq_sl,frOf,List.range_succ,List.mapM_append,List.mapM_cons,rn_mE,rn_rcs,rn_ints,rn_gcs,mE_app,rcs_app,rcs_one,oneR_cells,rcs_tk]
  ·try simp only [RL] at h
   exact absurd h (by simp)
 rintro vs S - ⟨vq,t,rfl,rfl⟩
 have hrs2 := seRs_is hb
 generalize hks1 : seKs ks z = ks1 at hi1 hst
 generalize hrs1 : seIn ks rs z (oneR r c) = rs1 at hb hi1 hi2 hrs2
 have hbl := len_of hb
 refine W.seq_draw (by kernel_rfl) fun K hK => ?_
 have hcell := (oneR_cells (r := r) (c := c)).symm
 have hba : PV.agg b.cells = eRect b := rfl
 simp (disch := omega) only [↓RU,RV,RH,↓reduceIte,reduceEqDiff,reduceCtorEq,if_pos,List.append_nil,↓RS,RG,reduceAdd,reduceMul,reduceLeDiff,ty1,ty3,tyLint,ty7,ty10,ty11,ty15,tyint,ty24,ty28,rcs_at hb,rcs_len,← oneR_cells,hcell,rcell_len,rcell_all,rcs_set4]
 refine CallR.pc (both_pc (b := b) (o := oneR r c) hbf.in_ (oneR_fit hr hc).in_) rfl (.inl rfl) ?_
 simp (disch := omega) only [↓RU,RV,RH,↓reduceIte,reduceEqDiff,reduceCtorEq,if_pos,List.append_nil,↓RS,RG,reduceAdd,reduceMul,reduceLeDiff,ty1,ty3,tyLint,ty7,ty10,ty11,ty15,tyint,ty24,ty28,rcs_at hb,rcs_len,← oneR_cells,hcell,rcell_len,rcell_all,rcs_set4]
 refine hK _ _ ?_;clear hK K
 refine W.r fun K hK => ?_
 simp (disch := omega) only [↓RU,RV,RH,↓reduceIte,reduceEqDiff,reduceCtorEq,if_pos,↓RS,RG,reduceAdd,reduceMul,reduceLeDiff]
 refine hK _ _ ?_;clear hK K
 refine W.ret ?_
 refine Br rfl ?_
 refine ⟨9,rfl,vq,t,?_⟩
 rw [hrs2]
 simp [take_eq]
section
def prS (g : List (List Int)) (w : Nat) (rv : PV) (ks : List Int) : List Ob := [.arr 0 98 1 [eGrid g],.arr 1 3 1 [.int .i64 w],.arr 2 101 2 [.nils,rv],.arr 3 49 1 [.ref 2 2 0],.map 4 (mE ks),.arr 5 170 1 [.mp 4 4]]
def seS (g : List (List Int)) (w : Nat) (xv yv : Nat) (x y : List PV) (ks : List Int) (rs : List Rect) (vq t : Nat) : Store :=
 match rs with
 | [] => ⟨prS g w .nils ks ++ [.arr xv 24 1 x,.arr yv 3 1 y],t⟩
 | rs => ⟨prS g w (.loc 8 vq 0 rs.length) ks ++ [.arr xv 24 1 x,.arr yv 3 1 y,.arr vq 55 4 (rcs rs)],t⟩
theorem seS_nil {g : List (List Int)} {w xv yv : Nat} {x y : List PV} {ks : List Int} {vq t : Nat} : seS g w xv yv x y ks [] vq t = ⟨prS g w .nils ks ++ [.arr xv 24 1 x,.arr yv 3 1 y],t⟩ := rfl
theorem seS_ne {g : List (List Int)} {w xv yv : Nat} {x y : List PV} {ks : List Int} {rs : List Rect} {vq t : Nat} (h : rs ≠ []) : seS g w xv yv x y ks rs vq t = ⟨prS g w (.loc 8 vq 0 rs.length) ks ++ [.arr xv 24 1 x,.arr yv 3 1 y,.arr vq 55 4 (rcs rs)],t⟩ := by
 cases rs with
 | nil => exact absurd rfl h
 | cons a l => rfl
section
variable {g : List (List Int)} {w xv yv : Nat} {x y y2 : List PV} {ks : List Int} {rs : List Rect} {vq t : Nat}
theorem seS_get6 : (seS g w xv yv x y ks rs vq t).obs[6]? = some (.arr xv 24 1 x) := by cases rs <;> rfl
theorem seS_get7 : (seS g w xv yv x y ks rs vq t).obs[7]? = some (.arr yv 3 1 y) := by cases rs <;> rfl
theorem seS_upd : (seS g w xv yv x y ks rs vq t).set 7 (.arr yv 3 1 y2) = seS g w xv yv x y2 ks rs vq t := by cases rs <;> rfl
end
theorem rn_rep {S : Store} {k f : Nat} {sel : List Nat} {n : Nat} {q : IntKind} {z : Int} : (List.replicate n (PV.int q z)).mapM (rn S k sel (f + 1)) = some (List.replicate n (PV.int q z)) :=
 mapM_same fun x hx => by obtain rfl := List.eq_of_mem_replicate hx; rfl
theorem rn_nilsr {S : Store} {k f : Nat} {sel : List Nat} {n : Nat} : (List.replicate n PV.nils).mapM (rn S k sel (f + 1)) = some (List.replicate n PV.nils) :=
 mapM_same fun x hx => by obtain rfl := List.eq_of_mem_replicate hx; rfl
theorem rn_gcs2 {S : Store} {k f : Nat} {sel : List Nat} {d : List (List Int)} {cur : PV} {m : Nat} : (gcs d cur m).mapM (rn S k sel (f + 1)) = (rn S k sel (f + 1) cur).map fun c => gcs d c m := by
 unfold gcs
 rw [List.mapM_append,mapM_same (l := d.map eInts) (fun x hx => by obtain ⟨a,_,rfl⟩ := List.mem_map.1 hx; rfl),List.mapM_cons,mapM_same (l := List.replicate m PV.nils) (fun x hx => by obtain rfl := List.eq_of_mem_replicate hx; rfl)]
 cases rn S k sel (f + 1) cur <;> rfl
theorem rfq_ints {S : Store} {fr : Nat → Bool} {f : Nat} {q : IntKind} (l : List Int) : (l.map (PV.int q)).mapM (rfq S fr (f + 1)) = some (l.map (PV.int q)) :=
 mapM_same fun x hx => by obtain ⟨a,_,rfl⟩ := List.mem_map.1 hx; rfl
def seO (g : List (List Int)) (w : Nat) (xv : Nat) (x : List PV) (ks : List Int) (rs : List Rect) (vq t : Nat) : Store :=
 match rs with
 | [] => ⟨prS g w .nils ks ++ [.arr xv 24 1 x],t⟩
 | rs => ⟨prS g w (.loc 7 vq 0 rs.length) ks ++ [.arr xv 24 1 x,.arr vq 55 4 (rcs rs)],t⟩
theorem seO_nil {g : List (List Int)} {w xv : Nat} {x : List PV} {ks : List Int} {vq t : Nat} : seO g w xv x ks [] vq t = ⟨prS g w .nils ks ++ [.arr xv 24 1 x],t⟩ := rfl
theorem seO_ne {g : List (List Int)} {w xv : Nat} {x : List PV} {ks : List Int} {rs : List Rect} {vq t : Nat} (h : rs ≠ []) : seO g w xv x ks rs vq t = ⟨prS g w (.loc 7 vq 0 rs.length) ks ++ [.arr xv 24 1 x,.arr vq 55 4 (rcs rs)],t⟩ := by
 cases rs with
 | nil => exact absurd rfl h
 | cons a l => rfl
def seRow (g : List (List Int)) (i : Nat) (s : List Int × List Rect) : Nat → List Int × List Rect
 | 0 => s
 | j + 1 => (seKs (seRow g i s j).1 (gz g i j),seRs (seRow g i s j).1 (seRow g i s j).2 (gz g i j) (oneR i j))
def seRows (g : List (List Int)) (nw : Nat) : Nat → List Int × List Rect
 | 0 => ([],[])
 | i + 1 => seRow g i (seRows g nw i) nw
def zRow (g : List (List Int)) (i : Nat) (s : List Int × List Rect) : Nat → List Int
 | 0 => []
 | j + 1 => zRow g i s j ++ [(((seRow g i s j).1.idxOf (gz g i j) : Nat) : Int)]
def zRows (g : List (List Int)) (nw : Nat) : Nat → List (List Int)
 | 0 => []
 | i + 1 => zRows g nw i ++ [zRow g i (seRows g nw i) nw]
theorem zRow_len {g : List (List Int)} {i : Nat} {s : List Int × List Rect} : ∀ j,(zRow g i s j).length = j
 | 0 => rfl
 | j + 1 => by simp [zRow,zRow_len j]
theorem zRow_set {g : List (List Int)} {i nw j : Nat} {s : List Int × List Rect} (h : j < nw) : zRow g i s (j + 1) ++ List.replicate (nw - (j + 1)) 0 = (zRow g i s j ++ List.replicate (nw - j) 0).set j (((seRow g i s j).1.idxOf (gz g i j) : Nat) : Int) := by
 obtain ⟨m,hm⟩ : ∃ m,nw - j = m + 1 := ⟨nw - j - 1,by omega⟩
 rw [hm,show nw - (j + 1) = m by omega,List.set_append_right _ _ (by rw [zRow_len]; exact Nat.le_refl _),zRow_len,Nat.sub_self]
 simp [zRow,List.replicate_succ]
theorem zRows_len {g : List (List Int)} {nw : Nat} : ∀ i,(zRows g nw i).length = i
 | 0 => rfl
 | i + 1 => by simp [zRows,zRows_len i]
theorem seKs_len {ks : List Int} {z : Int} : (seKs ks z).length ≤ ks.length + 1 ∧ ks.length ≤ (seKs ks z).length ∧ 1 ≤ (seKs ks z).length := by
 have h := idxOf_le (ks := ks) (z := z)
 unfold seKs
 split
 ·simp
 ·refine ⟨by omega,by omega,?_⟩
  have : ks.idxOf z ≠ ks.length := by assumption
  omega
theorem seRow_ok {g : List (List Int)} {i : Nat} (hi : i < 6) {s : List Int × List Rect} (h : SeOk s.1 s.2) : ∀ j,j ≤ 6 → SeOk (seRow g i s j).1 (seRow g i s j).2 ∧ (seRow g i s j).1.length ≤ s.1.length + j ∧ s.1.length ≤ (seRow g i s j).1.length ∧ (1 ≤ j → 1 ≤ (seRow g i s j).1.length)
 | 0,_ => ⟨h,by simp [seRow],by simp [seRow],by omega⟩
 | j + 1,hj => by
  obtain ⟨h1,h2,h3,h4⟩ := seRow_ok hi h j (by omega)
  have := seKs_len (ks := (seRow g i s j).1) (z := gz g i j)
  exact ⟨h1.step (oneR_fit hi (by omega)),by simp only [seRow]; omega,by simp only [seRow]; omega,fun _ => by simp only [seRow]; omega⟩
theorem seRows_ok {g : List (List Int)} {nw : Nat} (hw : nw ≤ 6) (hw1 : 1 ≤ nw) : ∀ i,i ≤ 6 → SeOk (seRows g nw i).1 (seRows g nw i).2 ∧ (seRows g nw i).1.length ≤ 6 * i ∧ (1 ≤ i → 1 ≤ (seRows g nw i).1.length)
 | 0,_ => ⟨SeOk.nil,by simp [seRows],by omega⟩
 | i + 1,hi => by
  obtain ⟨h1,h2,h3⟩ := seRows_ok hw hw1 i (by omega)
  obtain ⟨k1,k2,k3,k4⟩ := seRow_ok (g := g) (i := i) (by omega) h1 nw hw
  exact ⟨k1,by simp only [seRows]; omega,fun _ => by simp only [seRows]; exact k4 hw1⟩
theorem SeOk.ne {ks : List Int} {rs : List Rect} (h : SeOk ks rs) (h1 : 1 ≤ ks.length) : rs ≠ [] := by
 rintro rfl
 have := h.1
 simp at this; omega
theorem SeOk.nl {ks : List Int} (h : SeOk ks []) : ks = [] := List.eq_nil_of_length_eq_zero h.1.symm
theorem gcs_get {d : List (List Int)} {cur : PV} {m i : Nat} (h : d.length = i) : (gcs d cur m)[i]? = some cur := by subst h; simp [gcs]
theorem gcs_len {d : List (List Int)} {cur : PV} {m : Nat} : (gcs d cur m).length = d.length + 1 + m := by simp [gcs]; omega
def gc0 (d : List (List Int)) (m : Nat) : List PV := d.map eInts ++ List.replicate m .nils
theorem gc0_len {d : List (List Int)} {m : Nat} : (gc0 d m).length = d.length + m := by simp [gc0]
theorem gc0_set {d : List (List Int)} {m i : Nat} {c : PV} (h : d.length = i) (hm : 1 ≤ m) : (gc0 d m).take i ++ [c] ++ (gc0 d m).drop (i + 1) = gcs d c (m - 1) := by
 subst h
 obtain ⟨m,rfl⟩ : ∃ n,m = n + 1 := ⟨m - 1,by omega⟩
 simp only [gc0,gcs,Nat.add_sub_cancel]
 rw [show d.length = (d.map eInts).length by simp,List.take_left,List.drop_length_add_append]
 simp [List.replicate_succ]
theorem gcs_gc0 {d : List (List Int)} {r : List Int} {m : Nat} : gcs d (eInts r) m = gc0 (d ++ [r]) m := by simp [gcs,gc0]
theorem gc0_all {d : List (List Int)} : gc0 d 0 = d.map eInts := by simp [gc0]
theorem gc0_nil {m : Nat} : gc0 [] m = List.replicate m .nils := rfl
end
theorem settled2_ev {g d : List (List Int)} {y : List Int} {row ks : List Int} {rs : List Rect} {z : Int} {r c w m xv yv vq t : Nat} (hr : r < 6) (hc : c < 6) (hrow : g[r]? = some row) (hz : row[c]? = some z) (hs : SeOk ks rs) (hk : ks.length ≤ 64) :
  Ev Tryz.prog 152 [.int .i64 (r : Nat),.int .i64 (c : Nat),.ref 5 5 0,.ref 0 0 0,.ref 3 3 0] (seS g w xv yv (gcs d (.loc 7 yv 0 w) m) (y.map (.int .i64)) ks rs vq t)
   fun v S => v = .int .i64 ((ks.idxOf z : Nat) : Int) ∧ ∃ vq t : Nat,S = seS g w xv yv (gcs d (.loc 7 yv 0 w) m) (y.map (.int .i64)) (seKs ks z) (seRs ks rs z (oneR r c)) vq t := by
 have hne : seRs ks rs z (oneR r c) ≠ [] := (hs.step (z := z) (oneR_fit hr hc)).ne seKs_len.2.2
 simp only [seS_ne hne]
 by_cases h0 : rs = []
 ·subst h0
  rw [seS_nil]
  exact settled2_first_ev (vq := 0) hr hc hrow hz hs hk rfl hs.nl
 ·rw [seS_ne h0]
  by_cases hin : ks.idxOf z = ks.length
  ·exact settled2_new_ev hr hc hrow hz hs hk hin
  ·exact settled2_old_ev hr hc hrow hz hs hk hin
theorem blank_ev {g : List (List Int)} {nh nw : Nat} (hg : GW g nh nw) : Ev Tryz.prog 99 [.int .i64 nh,.int .i64 nw,.fn 152 [.ref 5 5 0,.ref 0 0 0,.ref 3 3 0]] ⟨prS g nw .nils [],6⟩ fun v S => ∃ xv vq t : Nat,v = .loc 6 xv 0 nh ∧ S = seO g nw xv ((zRows g nw nh).map eInts) (seRows g nw nh).1 (seRows g nw nh).2 vq t := by
 have hl := hg.1
 obtain ⟨hg1,hg2,hg3,hg4⟩ := hg.2.2
 refine Ev.of ⟨Tryz.func99,by kernel_rfl,rfl,by kernel_rfl⟩ tabOk mixed (by show 3 ≤ Tryz.f99.ntmps; decide) ?_
 refine W.r fun K hK => ?_
 simp (disch := omega) only [↓RU,RV,RH,↓reduceIte,reduceEqDiff,reduceCtorEq,if_pos,↓RS,RG,reduceAdd,reduceMul,reduceLeDiff,prS]
 refine hK _ _ ?_;clear hK K
 refine W.r fun K hK => ?_
 simp (disch := omega) only [↓RU,RV,RH,↓reduceIte,reduceEqDiff,reduceCtorEq,if_pos,↓RS,RG,reduceAdd,reduceMul,reduceLeDiff,ty1,tyLint,ty11,tyint,prS,repz_nils,repz_int,ile_true]
 refine hK _ _ ?_;clear hK K
 refine W.seq ?_
 refine W.r fun K hK => ?_
 simp (disch := omega) only [↓RU,RV,RH,↓reduceIte,reduceEqDiff,reduceCtorEq,if_pos,↓RS,RG,reduceAdd,reduceMul,reduceLeDiff,ty1,tyLint,ty11,tyint,prS]
 refine hK _ _ ?_;clear hK K
 refine W.block ?_
 refine W.loopS [1,2,7,13,14] (fun n vs S => ∃ (i xv vq t : Nat),n = nh - i ∧ i ≤ nh ∧ vs = [.int .i64 nw,.fn 152 [.ref 5 5 0,.ref 0 0 0,.ref 3 3 0],.loc 6 xv 0 nh,.int .i64 nh,.int .i64 (i : Nat)] ∧ S = seO g nw xv (gc0 (zRows g nw i) (nh - i)) (seRows g nw i).1 (seRows g nw i).2 vq t) nh ?_ ?_
 ·refine ⟨7,[],[.int .i64 nw,.fn 152 [.ref 5 5 0,.ref 0 0 0,.ref 3 3 0],.loc 6 6 0 nh,.int .i64 nh,.int .i64 (0 : Nat)],seO g nw 6 (gc0 (zRows g nw 0) (nh - 0)) (seRows g nw 0).1 (seRows g nw 0).2 0 8,?_,?_,0,6,0,8,rfl,Nat.zero_le _,rfl,rfl⟩
  ·simp [-List.mapM_map,Env.put,Env.of,argEnv,Srn_eq,rnObs_cons,rnObs_nil,rnOb_arr,rnOb_map,rn_loc,rn_ref,rn_mp,rn_int,rn_bool,rn_str,rn_ip,rn_sl,rn_nils,rn_nilp,rn_undef,rn_agg,rn_tup,rn_fn,rfq_loc,rfq_int,rfq_bool,rfq_str,rfq_sl,frOf,List.range_succ,List.mapM_append,List.mapM_cons]
  ·simp [-List.mapM_map,Env.put,Env.of,argEnv,Srn_eq,rnObs_cons,rnObs_nil,rnOb_arr,rnOb_map,rn_loc,rn_ref,rn_mp,rn_int,rn_bool,rn_str,rn_ip,rn_sl,rn_nils,rn_nilp,rn_undef,rn_agg,rn_tup,rn_fn,rfq_loc,rfq_int,rfq_bool,rfq_str,rfq_sl,frOf,List.range_succ,List.mapM_append,List.mapM_cons,prS,seO_nil,seRows,zRows,gc0_nil,rn_nilsr,rn_mE]
 rintro n vs S - ⟨i,xv,vq,t,rfl,h_i,rfl,rfl⟩
 refine W.r fun K hK => ?_
 simp (disch := omega) only [↓RU,RV,RH,↓reduceIte,reduceEqDiff,reduceCtorEq,if_pos,w64,↓RS,RG,reduceAdd,reduceMul,reduceLeDiff,tyint,prS]
 refine hK _ _ ?_;clear hK K
 refine W.seq ?_
 refine W.cond rfl (fun h => ?_) (fun h => ?_)
 ·try simp only [RL] at h
  have hzl := zRows_len (g := g) (nw := nw) i
  have hiw : i < nh := by omega
  obtain ⟨hso,hsl,hsp⟩ := seRows_ok (g := g) hg4 hg3 i (by omega)
  refine W.skip ?_
  refine xn ?_
  refine W.seq ?_
  refine W.block ?_
  refine W.r fun K hK => ?_
  simp (disch := omega) only [↓RU,RV,RH,↓reduceIte,reduceEqDiff,reduceCtorEq,if_pos,↓RS,RG,reduceAdd,reduceMul,reduceLeDiff,prS]
  refine hK _ _ ?_;clear hK K
  refine W.joinS [1,2,7,8,13,14] (fun vs S => ∃ (yv vq t : Nat),vs = [.int .i64 nw,.fn 152 [.ref 5 5 0,.ref 0 0 0,.ref 3 3 0],.loc 6 xv 0 nh,.int .i64 (i : Nat),.int .i64 nh,.int .i64 (i : Nat)] ∧ S = seS g nw xv yv (gcs (zRows g nw i) (.loc 7 yv 0 nw) (nh - i - 1)) ((List.replicate nw 0).map (.int .i64)) (seRows g nw i).1 (seRows g nw i).2 vq t) ?_ ?_
  ·
   refine W.k fun K hK => ?_
   by_cases hi0 : seRows g nw i = ([],[])
   ·skip
    rw [hi0,seO_nil]
    simp (disch := omega) only [↓RU,RV,RH,↓reduceIte,reduceEqDiff,reduceCtorEq,if_pos,↓RS,RG,reduceAdd,reduceMul,reduceLeDiff,ty1,tyLint,ty11,tyint,prS,repz_int,ile_true,gc0_len,zRows_len,gc0_set]
    refine hK _ _ ?_;clear hK K
    refine xn ?_
    refine ⟨8,[],[.int .i64 nw,.fn 152 [.ref 5 5 0,.ref 0 0 0,.ref 3 3 0],.loc 6 xv 0 nh,.int .i64 (i : Nat),.int .i64 nh,.int .i64 (i : Nat)],seS g nw xv t (gcs (zRows g nw i) (.loc 7 t 0 nw) (nh - i - 1)) ((List.replicate nw 0).map (.int .i64)) (seRows g nw i).1 (seRows g nw i).2 vq (t + 2),?_,?_,t,vq,t + 2,rfl,rfl⟩
    ·simp [-List.mapM_map,Env.put,Env.of,argEnv,Srn_eq,rnObs_cons,rnObs_nil,rnOb_arr,rnOb_map,rn_loc,rn_ref,rn_mp,rn_int,rn_bool,rn_str,rn_ip,rn_sl,rn_nils,rn_nilp,rn_undef,rn_agg,rn_tup,rn_fn,rfq_loc,rfq_int,rfq_bool,rfq_str,rfq_sl,frOf,List.range_succ,List.mapM_append,List.mapM_cons]
    ·rw [hi0,seS_nil]; simp [-List.mapM_map,Env.put,Env.of,argEnv,Srn_eq,rnObs_cons,rnObs_nil,rnOb_arr,rnOb_map,rn_loc,rn_ref,rn_mp,rn_int,rn_bool,rn_str,rn_ip,rn_sl,rn_nils,rn_nilp,rn_undef,rn_agg,rn_tup,rn_fn,rfq_loc,rfq_int,rfq_bool,rfq_str,rfq_sl,frOf,List.range_succ,List.mapM_append,List.mapM_cons,prS,rn_mE,rn_rcs,rn_ints,rn_gcs,rn_rep,show List.idxOf 7 [8,7] = 1 from rfl]
   ·skip
    have hne : (seRows g nw i).2 ≠ [] := fun e => hi0 (by have := hso; rw [e] at this; rw [← Prod.eta (seRows g nw i),e,this.nl])
    rw [seO_ne hne]
    simp (disch := omega) only [↓RU,RV,RH,↓reduceIte,reduceEqDiff,reduceCtorEq,if_pos,↓RS,RG,reduceAdd,reduceMul,reduceLeDiff,ty1,tyLint,ty11,tyint,prS,repz_int,ile_true,gc0_len,zRows_len,gc0_set]
    refine hK _ _ ?_;clear hK K
    refine xn ?_
    refine ⟨7,[8,7],[.int .i64 nw,.fn 152 [.ref 5 5 0,.ref 0 0 0,.ref 3 3 0],.loc 6 xv 0 nh,.int .i64 (i : Nat),.int .i64 nh,.int .i64 (i : Nat)],seS g nw xv (t + 1) (gcs (zRows g nw i) (.loc 7 (t + 1) 0 nw) (nh - i - 1)) ((List.replicate nw 0).map (.int .i64)) (seRows g nw i).1 (seRows g nw i).2 (t + 1) (t + 2),?_,?_,t + 1,t + 1,t + 2,rfl,rfl⟩
    ·simp [-List.mapM_map,Env.put,Env.of,argEnv,Srn_eq,rnObs_cons,rnObs_nil,rnOb_arr,rnOb_map,rn_loc,rn_ref,rn_mp,rn_int,rn_bool,rn_str,rn_ip,rn_sl,rn_nils,rn_nilp,rn_undef,rn_agg,rn_tup,rn_fn,rfq_loc,rfq_int,rfq_bool,rfq_str,rfq_sl,frOf,List.range_succ,List.mapM_append,List.mapM_cons]
    ·rw [seS_ne hne]; simp [-List.mapM_map,Env.put,Env.of,argEnv,Srn_eq,rnObs_cons,rnObs_nil,rnOb_arr,rnOb_map,rn_loc,rn_ref,rn_mp,rn_int,rn_bool,rn_str,rn_ip,rn_sl,rn_nils,rn_nilp,rn_undef,rn_agg,rn_tup,rn_fn,rfq_loc,rfq_int,rfq_bool,rfq_str,rfq_sl,frOf,List.range_succ,List.mapM_append,List.mapM_cons,prS,rn_mE,rn_rcs,rn_ints,rn_gcs,rn_rep,show List.idxOf 7 [8,7] = 1 from rfl]
  rintro vs S - ⟨yv,vq,t,rfl,rfl⟩
  refine W.r fun K hK => ?_
  simp (disch := omega) only [↓RU,RV,RH,↓reduceIte,reduceEqDiff,reduceCtorEq,if_pos,↓RS,RG,reduceAdd,reduceMul,reduceLeDiff,ty1,tyLint,ty11,tyint,prS,seS_get6,seS_get7,gcs_get,gcs_len,hzl]
  refine hK _ _ ?_;clear hK K
  refine W.block ?_
  refine W.loop [1,2,7,8,13,14,26,27] (fun n vs S => ∃ (j vq t : Nat),n = nw - j ∧ j ≤ nw ∧ vs = [.int .i64 nw,.fn 152 [.ref 5 5 0,.ref 0 0 0,.ref 3 3 0],.loc 6 xv 0 nh,.int .i64 (i : Nat),.int .i64 nh,.int .i64 (i : Nat),.int .i64 nw,.int .i64 (j : Nat)] ∧ S = seS g nw xv yv (gcs (zRows g nw i) (.loc 7 yv 0 nw) (nh - i - 1)) ((zRow g i (seRows g nw i) j ++ List.replicate (nw - j) 0).map (.int .i64)) (seRow g i (seRows g nw i) j).1 (seRow g i (seRows g nw i) j).2 vq t) nw ?_ ?_
  ·refine ⟨_,0,vq,t,rfl,Nat.zero_le _,?_,take_all⟩
   simp [Env.put,Env.of]
  rintro n vs S - ⟨j,vq,t,rfl,h_j,rfl,rfl⟩
  refine W.r fun K hK => ?_
  simp (disch := omega) only [↓RU,RV,RH,↓reduceIte,reduceEqDiff,reduceCtorEq,if_pos,w64,↓RS,RG,reduceAdd,reduceMul,reduceLeDiff,tyint,prS]
  refine hK _ _ ?_;clear hK K
  refine W.seq ?_
  refine W.cond rfl (fun h1 => ?_) (fun h1 => ?_)
  ·try simp only [RL] at h1
   have hjw : j < nw := by omega
   obtain ⟨row,hrow,hrl,hz⟩ := hg.at_ hiw hjw
   obtain ⟨hro,hrl2,-,-⟩ := seRow_ok (g := g) (i := i) (by omega) hso j (by omega)
   have hYl : (zRow g i (seRows g nw i) j ++ List.replicate (nw - j) 0).length = nw := by simp only [List.length_append,List.length_replicate,zRow_len]; omega
   generalize hY : zRow g i (seRows g nw i) j ++ List.replicate (nw - j) 0 = Y at hYl
   refine W.skip ?_
   refine xn ?_
   refine W.seq ?_
   refine W.block ?_
   refine W.r fun K hK => ?_
   simp (disch := omega) only [↓RU,RV,RH,↓reduceIte,reduceEqDiff,reduceCtorEq,if_pos,↓RS,RG,reduceAdd,reduceMul,reduceLeDiff,prS]
   refine hK _ _ ?_;clear hK K
   refine W.region_pk 9 [some 32,some 33] [6] (by decide) (by kernel_rfl) fun K hK => ?_
   simp only [List.take_succ_cons,List.take_zero,List.drop_succ_cons,List.drop_zero]
   refine eRunK_go rfl ?_
   simp (disch := omega) only [↓RU,RV,RH,↓reduceIte,reduceEqDiff,reduceCtorEq,if_pos,List.append_nil,↓RS,RG,reduceAdd,reduceMul,reduceLeDiff,ty1,tyLint,ty11,tyint,prS,seS_get6,seS_get7,gcs_get,gcs_len,hzl,seS_upd,set_spl,set_int,hYl,keeps_cons,keeps_nil]
   refine eRunK_go rfl ?_
   simp (disch := omega) only [↓RU,RV,RH,↓reduceIte,reduceEqDiff,reduceCtorEq,if_pos,List.append_nil,↓RS,RG,reduceAdd,reduceMul,reduceLeDiff,ty1,tyLint,ty11,tyint,prS,seS_get6,seS_get7,gcs_get,gcs_len,hzl,seS_upd,set_spl,set_int,hYl,keeps_cons,keeps_nil]
   refine eRunK_pend (.ref 6 xv i) rfl rfl rfl (fun S' hS => ?_) ?_
   ·skip
    have k6 := (hS 6 (by decide)).trans seS_get6
    simp (disch := omega) only [↓RU,RV,RH,↓reduceIte,reduceEqDiff,reduceCtorEq,if_pos,List.append_nil,↓RS,RG,reduceAdd,reduceMul,reduceLeDiff,ty1,tyLint,ty11,tyint,prS,seS_get6,seS_get7,gcs_get,gcs_len,hzl,seS_upd,set_spl,set_int,hYl,pp_load,pp_nil,pp_fa,pp_ia,k6]
   refine eRunK_pend (.loc 7 yv 0 nw) rfl rfl rfl (fun S' hS => ?_) ?_
   ·skip
    have k6 := (hS 6 (by decide)).trans seS_get6
    simp (disch := omega) only [↓RU,RV,RH,↓reduceIte,reduceEqDiff,reduceCtorEq,if_pos,List.append_nil,↓RS,RG,reduceAdd,reduceMul,reduceLeDiff,ty1,tyLint,ty11,tyint,prS,seS_get6,seS_get7,gcs_get,gcs_len,hzl,seS_upd,set_spl,set_int,hYl,pp_load,pp_nil,pp_fa,pp_ia,k6]
   refine eRunK_go rfl ?_
   simp (disch := omega) only [↓RU,RV,RH,↓reduceIte,reduceEqDiff,reduceCtorEq,if_pos,List.append_nil,↓RS,RG,reduceAdd,reduceMul,reduceLeDiff,ty1,tyLint,ty11,tyint,prS,seS_get6,seS_get7,gcs_get,gcs_len,hzl,seS_upd,set_spl,set_int,hYl,keeps_cons,keeps_nil]
   refine eRunK_go rfl ?_
   simp (disch := omega) only [↓RU,RV,RH,↓reduceIte,reduceEqDiff,reduceCtorEq,if_pos,List.append_nil,↓RS,RG,reduceAdd,reduceMul,reduceLeDiff,ty1,tyLint,ty11,tyint,prS,seS_get6,seS_get7,gcs_get,gcs_len,hzl,seS_upd,set_spl,set_int,hYl,keeps_cons,keeps_nil]
   refine eRunK_go rfl ?_
   simp (disch := omega) only [↓RU,RV,RH,↓reduceIte,reduceEqDiff,reduceCtorEq,if_pos,List.append_nil,↓RS,RG,reduceAdd,reduceMul,reduceLeDiff,ty1,tyLint,ty11,tyint,prS,seS_get6,seS_get7,gcs_get,gcs_len,hzl,seS_upd,set_spl,set_int,hYl,keeps_cons,keeps_nil]
   refine eRunK_go rfl ?_
   simp (disch := omega) only [↓RU,RV,RH,↓reduceIte,reduceEqDiff,reduceCtorEq,if_pos,List.append_nil,↓RS,RG,reduceAdd,reduceMul,reduceLeDiff,ty1,tyLint,ty11,tyint,prS,seS_get6,seS_get7,gcs_get,gcs_len,hzl,seS_upd,set_spl,set_int,hYl,keeps_cons,keeps_nil]
   refine eRunK_go rfl ?_
   simp (disch := omega) only [↓RU,RV,RH,↓reduceIte,reduceEqDiff,reduceCtorEq,if_pos,List.append_nil,↓RS,RG,reduceAdd,reduceMul,reduceLeDiff,ty1,tyLint,ty11,tyint,prS,seS_get6,seS_get7,gcs_get,gcs_len,hzl,seS_upd,set_spl,set_int,hYl,keeps_cons,keeps_nil]
   refine CallR.ev (settled2_ev (y := Y) (by omega) (by omega) hrow hz hro (by omega)) ?_
   rintro _ _ ⟨rfl,vq2,t2,rfl⟩
   simp (disch := omega) only [↓RU,RV,RH,↓reduceIte,reduceEqDiff,reduceCtorEq,if_pos,List.append_nil,↓RS,RG,reduceAdd,reduceMul,reduceLeDiff,ty1,tyLint,ty11,tyint,prS,seS_get6,seS_get7,gcs_get,gcs_len,hzl,seS_upd,set_spl,set_int,hYl,keeps_cons,keeps_nil]
   refine eRunK_end ?_
   simp (disch := omega) only [↓RU,RV,RH,↓reduceIte,reduceEqDiff,reduceCtorEq,if_pos,List.append_nil,↓RS,RG,reduceAdd,reduceMul,reduceLeDiff,ty1,tyLint,ty11,tyint,prS,seS_get6,seS_get7,gcs_get,gcs_len,hzl,seS_upd,set_spl,set_int,hYl]
   refine hK _ _ ?_;clear hK K
   refine XbN ?_
   refine xn ?_
   refine W.k fun K hK => ?_
   simp (disch := omega) only [↓RU,RV,RH,↓reduceIte,reduceEqDiff,reduceCtorEq,if_pos,w64,↓RS,RG,reduceAdd,reduceMul,reduceLeDiff,tyint,prS]
   refine hK _ _ ?_;clear hK K
   refine xn ?_
   refine ⟨nw - (j + 1),by omega,_,j + 1,vq2,t2,rfl,by omega,?_,take_all_of ?_⟩
   rotate_left
   ·rw [show zRow g i (seRows g nw i) (j + 1) ++ List.replicate (nw - (j + 1)) 0 = (zRow g i (seRows g nw i) j ++ List.replicate (nw - j) 0).set j (((seRow g i (seRows g nw i) j).1.idxOf (gz g i j) : Nat) : Int) from zRow_set hjw,hY]; rfl
   ·simp [Env.put,Env.of]
  ·try simp only [RL] at h1
   obtain rfl : nw = j := by omega
   obtain ⟨hro,hrl2,-,hro4⟩ := seRow_ok (g := g) (i := i) (by omega) hso nw hg4
   have hne := hro.ne (hro4 hg3)
   have hY : zRow g i (seRows g nw i) nw ++ List.replicate (nw - nw) 0 = zRow g i (seRows g nw i) nw := by rw [Nat.sub_self]; exact List.append_nil _
   have hYl := zRow_len (g := g) (i := i) (s := seRows g nw i) nw
   rw [hY,seS_ne hne]
   generalize hYe : zRow g i (seRows g nw i) nw = Y at hYl
   have hYt : (Y.map (PV.int .i64)).take nw = Y.map (PV.int .i64) := List.take_of_length_le (by rw [List.length_map]; omega)
   have hYE : eInts Y = PV.sl (Y.map (PV.int .i64)) nw := by rw [← hYl]
   have hsr : seRow g i (seRows g nw i) nw = seRows g nw (i + 1) := rfl
   rw [hsr] at hne ⊢
   have hzs : zRows g nw (i + 1) = zRows g nw i ++ [Y] := by rw [← hYe]; rfl
   refine W.exit ?_
   refine xe ?_
   refine xe ?_
   refine XBlock.hit ?_
   refine XbN ?_
   refine xn ?_
   refine W.k fun K hK => ?_
   simp (disch := omega) only [↓RU,RV,RH,↓reduceIte,reduceEqDiff,reduceCtorEq,if_pos,w64,↓RS,RG,reduceAdd,reduceMul,reduceLeDiff,tyint,prS]
   refine hK _ _ ?_;clear hK K
   refine xn ?_
   refine ⟨nh - (i + 1),by omega,7,[8],[.int .i64 nw,.fn 152 [.ref 5 5 0,.ref 0 0 0,.ref 3 3 0],.loc 6 xv 0 nh,.int .i64 nh,.int .i64 ((i + 1 : Nat) : Int)],seO g nw xv (gc0 (zRows g nw (i + 1)) (nh - (i + 1))) (seRows g nw (i + 1)).1 (seRows g nw (i + 1)).2 t (t + 1),?_,?_,i + 1,xv,t + 0,t + 1,rfl,by omega,rfl,rfl⟩
   ·simp [-List.mapM_map,Env.put,Env.of,argEnv,Srn_eq,rnObs_cons,rnObs_nil,rnOb_arr,rnOb_map,rn_loc,rn_ref,rn_mp,rn_int,rn_bool,rn_str,rn_ip,rn_sl,rn_nils,rn_nilp,rn_undef,rn_agg,rn_tup,rn_fn,rfq_loc,rfq_int,rfq_bool,rfq_str,rfq_sl,frOf,List.range_succ,List.mapM_append,List.mapM_cons]
   ·rw [seO_ne hne,hzs,← gcs_gc0]; simp [-List.mapM_map,Env.put,Env.of,argEnv,Srn_eq,rnObs_cons,rnObs_nil,rnOb_arr,rnOb_map,rn_loc,rn_ref,rn_mp,rn_int,rn_bool,rn_str,rn_ip,rn_sl,rn_nils,rn_nilp,rn_undef,rn_agg,rn_tup,rn_fn,rfq_loc,rfq_int,rfq_bool,rfq_str,rfq_sl,frOf,List.range_succ,List.mapM_append,List.mapM_cons,prS,rn_mE,rn_rcs,rn_ints,rn_gcs2,hYl,hYt,hYE,rfq_ints,show nh - i - 1 = nh - (i + 1) by omega,show List.idxOf 8 [8] = 0 from rfl]
 ·try simp only [RL] at h
  obtain rfl : nh = i := by omega
  refine W.exit ?_
  refine xe ?_
  refine xe ?_
  refine XBlock.hit ?_
  refine xn ?_
  refine W.r fun K hK => ?_
  simp (disch := omega) only [↓RU,RV,RH,↓reduceIte,reduceEqDiff,reduceCtorEq,if_pos,↓RS,RG,reduceAdd,reduceMul,reduceLeDiff,prS]
  refine hK _ _ ?_;clear hK K
  refine W.ret ?_
  refine Br rfl ?_
  rw [Nat.sub_self,gc0_all]
  exact ⟨_,xv,vq,t,rfl,take_all⟩
def w0 (g : List (List Int)) : Nat := (g[0]?.getD []).length
def okG (g : List (List Int)) : Bool := decide (1 ≤ g.length) && decide (g.length ≤ 6) && decide (1 ≤ w0 g) && decide (w0 g ≤ 6) && !(g.any fun r => decide ((r.length : Int) ≠ (w0 g : Nat)))
def stG (g : List (List Int)) : List Int × List Rect := seRows g (w0 g) g.length
def zG (g : List (List Int)) : List (List Int) := zRows g (w0 g) g.length
def sumA (rs : List Rect) : Int := rs.foldl (fun s b => s + b.high * b.wide) 0
def okS (g : List (List Int)) : Bool := okG g && decide ((stG g).2.length ≤ 9)
def fullG (g : List (List Int)) : Bool := decide (sumA (stG g).2 = ((g.length * w0 g : Nat) : Int))
def settledV (g : List (List Int)) : PV := if okS g then .tup [eFloor (zG g) (stG g).2,.bool (fullG g)] else .tup [.nilp,.bool false]
theorem w0_is {g : List (List Int)} {row : List Int} (h : g[0]? = some row) : w0 g = row.length := by simp [w0,h]
theorem okG_iff {g : List (List Int)} : okG g = true ↔ GW g g.length (w0 g) := by
 unfold okG GW
 simp only [Bool.and_eq_true,decide_eq_true_eq,Bool.not_eq_true',List.any_eq_false,decide_eq_true_eq,ne_eq,Decidable.not_not]
 constructor
 ·rintro ⟨⟨⟨⟨h1,h2⟩,h3⟩,h4⟩,h5⟩
  exact ⟨trivial,fun r hr => by have := h5 r hr; omega,h1,h2,h3,h4⟩
 ·rintro ⟨_,h5,h1,h2,h3,h4⟩
  exact ⟨⟨⟨⟨h1,h2⟩,h3⟩,h4⟩,fun r hr => by have := h5 r hr; omega⟩
theorem sumA_succ {rs : List Rect} {k : Nat} {b : Rect} (h : rs[k]? = some b) : sumA (rs.take (k + 1)) = sumA (rs.take k) + b.high * b.wide := by
 unfold sumA; rw [foldl_tk h]
theorem Rect.Fit.area {b : Rect} (h : b.Fit) : 1 ≤ b.high * b.wide ∧ b.high * b.wide ≤ 36 := by
 unfold Rect.Fit at h
 obtain ⟨h1,h2,h3,h4,h5,h6⟩ := h
 obtain ⟨m,hm⟩ : ∃ m : Nat,b.high = m := ⟨b.high.toNat,by omega⟩
 obtain ⟨n,hn⟩ : ∃ n : Nat,b.wide = n := ⟨b.wide.toNat,by omega⟩
 rw [hm,hn]
 have h7 := Nat.mul_le_mul (show m ≤ 6 by omega) (show n ≤ 6 by omega)
 have h8 := Nat.mul_le_mul (show 1 ≤ m by omega) (show 1 ≤ n by omega)
 have : ((m * n : Nat) : Int) = (m : Int) * n := by simp
 omega
theorem sumA_bound {rs : List Rect} (h : ∀ b ∈ rs,b.Fit) : ∀ k,0 ≤ sumA (rs.take k) ∧ sumA (rs.take k) ≤ 36 * k
 | 0 => by simp [sumA]
 | k + 1 => by
  have ih := sumA_bound h k
  by_cases hk : k < rs.length
  ·obtain ⟨b,hb,hm⟩ := get_of hk
   rw [sumA_succ hb]
   have := (h b hm).area
   omega
  ·rw [List.take_of_length_le (by omega)] at ih ⊢
   omega
theorem zRows_at {g : List (List Int)} {nw : Nat} : ∀ {i k : Nat},k < i → (zRows g nw i)[k]? = some (zRow g k (seRows g nw k) nw)
 | 0,k,h => by omega
 | i + 1,k,h => by
  unfold zRows
  by_cases e : k = i
  ·subst e; rw [List.getElem?_append_right (by rw [zRows_len]; exact Nat.le_refl _),zRows_len]; simp
  ·rw [List.getElem?_append_left (by rw [zRows_len]; omega)]; exact zRows_at (by omega)
theorem zG_ok {g : List (List Int)} {nh nw : Nat} (hg : GW g nh nw) : GW (zRows g nw nh) nh nw := by
 refine ⟨zRows_len _,fun r hr => ?_,hg.2.2⟩
 obtain ⟨k,hk⟩ := List.getElem?_of_mem hr
 have hkl := len_of hk
 rw [zRows_len] at hkl
 rw [zRows_at hkl] at hk
 cases hk
 exact zRow_len _
theorem reify_floor {S : Store} {xv vq nh f : Nat} {Z : List (List Int)} {rs : List Rect} (h2 : S.obs[2]? = some (.arr 2 101 2 [.loc 6 xv 0 nh,.loc 7 vq 0 rs.length])) (h6 : S.obs[6]? = some (.arr xv 24 1 (Z.map eInts))) (hZ : Z.length = nh)
  (h7 : S.obs[7]? = some (.arr vq 55 4 (rcs rs))) : reify S true (f + 4) (.ref 2 2 0) = some (eFloor Z rs) := by
 have e1 : reify S true (f + 3) (.loc 6 xv 0 nh) = some (eGrid Z) := by
  rw [← hZ]
  exact reify_loc (k := f + 2) h6 (by simp) (mapM_ints2 _)
 have e2 : reify S true (f + 3) (.loc 7 vq 0 rs.length) = some (eRects rs) := reify_loc (k := f + 2) h7 (rcs_len _) (reify_scal (scal_rcs _))
 have hc : S.cellsOf 2 2 = some [.loc 6 xv 0 nh,.loc 7 vq 0 rs.length] := by simp [Store.cellsOf,h2]
 have e0 : reify S true (f + 4) (.ref 2 2 0) = (S.cellsOf 2 2).bind fun cells => (cells.mapM (reify S true (f + 3))).map (.ip · 0) := rfl
 rw [e0,hc,Option.bind_some,List.mapM_cons,e1,List.mapM_cons,e2]
 rfl
theorem settled_pc {g : List (List Int)} (hsm : g.length < 2147483648) (hsr : ∀ r ∈ g,r.length < 2147483648) : PC Tryz.prog 131 [eGrid g] (settledV g) false := by
 refine PC.of ⟨Tryz.func131,by kernel_rfl,rfl,by kernel_rfl⟩ tabOk mixed (by show 1 ≤ Tryz.f131.ntmps; decide) ?_
 refine W.r fun K hK => ?_
 simp (disch := omega) only [↓RU,RV,RH,↓reduceIte,reduceEqDiff,reduceCtorEq,if_pos,↓RS,RG,reduceAdd,reduceMul,reduceLeDiff,ty1,tyLint,ty11,tyint]
 refine hK _ _ ?_;clear hK K
 refine W.seq ?_
 refine W.r fun K hK => ?_
 have hcase : g.length < 1 ∨ 6 < g.length ∨ ∃ row : List Int,g[0]? = some row ∧ row ∈ g ∧ (1 ≤ g.length ∧ g.length ≤ 6) ∧ (row.length < 1 ∨ 6 < row.length ∨ (1 ≤ row.length ∧ row.length ≤ 6)) := by
  by_cases h1 : g.length < 1
  ·exact .inl h1
  ·obtain ⟨row,h2,h3⟩ := get_of (show 0 < g.length by omega)
   by_cases h4 : 6 < g.length
   ·exact .inr (.inl h4)
   ·exact .inr (.inr ⟨row,h2,h3,by omega,by omega⟩)
 rcases hcase with hb | hb | ⟨row,hrow,hrm,hgl,hb | hb | hb⟩
 ·skip
  have hd : decide ((g.length : Int) < 1) = true := decide_eq_true (by omega)
  simp (disch := omega) only [↓RU,RV,RH,↓reduceIte,reduceEqDiff,reduceCtorEq,if_pos,w64,↓RS,RG,reduceAdd,reduceMul,reduceLeDiff,ty1,tyLint,ty11,tyint,hd]
  refine hK _ _ ?_;clear hK K
  refine W.cond rfl (fun h => ?_) (fun h => ?_)
  ·try simp only [RL] at h
   refine W.r fun K hK => ?_
   simp (disch := omega) only [↓RU,RV,RH,↓reduceIte,reduceEqDiff,reduceCtorEq,if_pos,↓RS,RG,reduceAdd,reduceMul,reduceLeDiff]
   refine hK _ _ ?_;clear hK K
   refine W.ret ?_
   refine XThen.ret ?_
   refine Br rfl ?_
   have hok : okS g = false := by simp [okS,okG]; omega
   rw [settledV,hok]
   rfl
  ·try simp only [RL] at h
   exact absurd h (by simp)
 ·skip
  have hd : decide ((g.length : Int) < 1) = false := decide_eq_false (by omega)
  have hd2 : decide ((g.length : Int) > 6) = true := decide_eq_true (by omega)
  simp (disch := omega) only [↓RU,RV,RH,↓reduceIte,reduceEqDiff,reduceCtorEq,if_pos,w64,↓RS,RG,reduceAdd,reduceMul,reduceLeDiff,ty1,tyLint,ty11,tyint,hd,hd2]
  refine hK _ _ ?_;clear hK K
  refine W.cond rfl (fun h => ?_) (fun h => ?_)
  ·try simp only [RL] at h
   refine W.r fun K hK => ?_
   simp (disch := omega) only [↓RU,RV,RH,↓reduceIte,reduceEqDiff,reduceCtorEq,if_pos,↓RS,RG,reduceAdd,reduceMul,reduceLeDiff]
   refine hK _ _ ?_;clear hK K
   refine W.ret ?_
   refine XThen.ret ?_
   refine Br rfl ?_
   have hok : okS g = false := by simp [okS,okG]; omega
   rw [settledV,hok]
   rfl
  ·try simp only [RL] at h
   exact absurd h (by simp)
 ·skip
  have hrl := hsr row hrm
  have hw0 := w0_is hrow
  have hd : decide ((g.length : Int) < 1) = false := decide_eq_false (by omega)
  have hd2 : decide ((g.length : Int) > 6) = false := decide_eq_false (by omega)
  have hd3 : decide ((row.length : Int) < 1) = true := decide_eq_true (by omega)
  simp (disch := omega) only [↓RU,RV,RH,↓reduceIte,reduceEqDiff,reduceCtorEq,if_pos,w64,↓RS,RG,reduceAdd,reduceMul,reduceLeDiff,ty1,tyLint,ty11,tyint,hd,hd2,hd3,hrow,Int.toNat_zero,Nat.zero_mul,Int.reduceToNat]
  refine hK _ _ ?_;clear hK K
  refine W.cond rfl (fun h => ?_) (fun h => ?_)
  ·try simp only [RL] at h
   refine W.r fun K hK => ?_
   simp (disch := omega) only [↓RU,RV,RH,↓reduceIte,reduceEqDiff,reduceCtorEq,if_pos,↓RS,RG,reduceAdd,reduceMul,reduceLeDiff]
   refine hK _ _ ?_;clear hK K
   refine W.ret ?_
   refine XThen.ret ?_
   refine Br rfl ?_
   have hok : okS g = false := by simp [okS,okG]; omega
   rw [settledV,hok]
   rfl
  ·try simp only [RL] at h
   exact absurd h (by simp)
 ·skip
  have hrl := hsr row hrm
  have hw0 := w0_is hrow
  have hd : decide ((g.length : Int) < 1) = false := decide_eq_false (by omega)
  have hd2 : decide ((g.length : Int) > 6) = false := decide_eq_false (by omega)
  have hd3 : decide ((row.length : Int) < 1) = false := decide_eq_false (by omega)
  have hd4 : decide ((row.length : Int) > 6) = true := decide_eq_true (by omega)
  simp (disch := omega) only [↓RU,RV,RH,↓reduceIte,reduceEqDiff,reduceCtorEq,if_pos,w64,↓RS,RG,reduceAdd,reduceMul,reduceLeDiff,ty1,tyLint,ty11,tyint,hd,hd2,hd3,hd4,hrow,Int.toNat_zero,Nat.zero_mul,Int.reduceToNat]
  refine hK _ _ ?_;clear hK K
  refine W.cond rfl (fun h => ?_) (fun h => ?_)
  ·try simp only [RL] at h
   refine W.r fun K hK => ?_
   simp (disch := omega) only [↓RU,RV,RH,↓reduceIte,reduceEqDiff,reduceCtorEq,if_pos,↓RS,RG,reduceAdd,reduceMul,reduceLeDiff]
   refine hK _ _ ?_;clear hK K
   refine W.ret ?_
   refine XThen.ret ?_
   refine Br rfl ?_
   have hok : okS g = false := by simp [okS,okG]; omega
   rw [settledV,hok]
   rfl
  ·try simp only [RL] at h
   exact absurd h (by simp)
 ·skip
  have hrl := hsr row hrm
  have hw0 := w0_is hrow
  have hd : decide ((g.length : Int) < 1) = false := decide_eq_false (by omega)
  have hd2 : decide ((g.length : Int) > 6) = false := decide_eq_false (by omega)
  have hd3 : decide ((row.length : Int) < 1) = false := decide_eq_false (by omega)
  have hd4 : decide ((row.length : Int) > 6) = false := decide_eq_false (by omega)
  simp (disch := omega) only [↓RU,RV,RH,↓reduceIte,reduceEqDiff,reduceCtorEq,if_pos,w64,↓RS,RG,reduceAdd,reduceMul,reduceLeDiff,ty1,tyLint,ty11,tyint,hd,hd2,hd3,hd4,hrow,Int.toNat_zero,Nat.zero_mul,Int.reduceToNat]
  refine hK _ _ ?_;clear hK K
  refine W.cond rfl (fun h => ?_) (fun h => ?_)
  ·try simp only [RL] at h
   exact absurd h (by simp)
  ·try simp only [RL] at h
   refine W.skip ?_
   refine xn ?_
   refine W.r fun K hK => ?_
   simp (disch := omega) only [↓RU,RV,RH,↓reduceIte,reduceEqDiff,reduceCtorEq,if_pos,↓RS,RG,reduceAdd,reduceMul,reduceLeDiff,ty1,tyLint,ty11,tyint,hrow,Int.toNat_zero,Nat.zero_mul,Int.reduceToNat]
   refine hK _ _ ?_;clear hK K
   refine W.seq ?_
   refine W.r fun K hK => ?_
   simp (disch := omega) only [↓RU,RV,RH,↓reduceIte,reduceEqDiff,reduceCtorEq,if_pos,List.append_nil,↓RS,RG,reduceAdd,reduceMul,reduceLeDiff,ty1,tyLint,ty11,tyint,hrow]
   refine CallR.pc (containsRow_pc (l := g) hsm (g := 151) (cap := [.ip [.int .i64 row.length] 0]) rfl rfl (test := fun r => decide ((r.length : Int) ≠ (row.length : Nat))) (fun r hr => settled1_pc r _ (hsr r hr))) rfl (.inl rfl) ?_
   simp (disch := omega) only [↓RU,RV,RH,↓reduceIte,reduceEqDiff,reduceCtorEq,if_pos,List.append_nil,↓RS,RG,reduceAdd,reduceMul,reduceLeDiff,ty1,tyLint,ty11,tyint,hrow]
   refine hK _ _ ?_;clear hK K
   refine W.cond rfl (fun h1 => ?_) (fun h1 => ?_)
   ·try simp only [RL] at h1
    refine W.r fun K hK => ?_
    simp (disch := omega) only [↓RU,RV,RH,↓reduceIte,reduceEqDiff,reduceCtorEq,if_pos,↓RS,RG,reduceAdd,reduceMul,reduceLeDiff]
    refine hK _ _ ?_;clear hK K
    refine W.ret ?_
    refine XThen.ret ?_
    refine Br rfl ?_
    have hok : okS g = false := by unfold okS okG; rw [hw0,h1]; simp
    rw [settledV,hok]
    rfl
   ·try simp only [RL] at h1
    have hg : GW g g.length row.length := by have := okG_iff (g := g); rw [hw0] at this; refine this.1 ?_; unfold okG; rw [hw0,h1]; simp; omega
    obtain ⟨hso,hsl,hs1⟩ := seRows_ok (g := g) (nw := row.length) (by omega) (by omega) g.length (by omega)
    have hne := hso.ne (hs1 (by omega))
    refine W.skip ?_
    refine xn ?_
    refine W.r fun K hK => ?_
    simp (disch := omega) only [↓RU,RV,RH,↓reduceIte,reduceEqDiff,reduceCtorEq,if_pos,↓RS,RG,reduceAdd,reduceMul,reduceLeDiff,ty1,ty3,tyLint,ty7,ty10,ty11,ty15,tyint,ty24,ty28]
    refine hK _ _ ?_;clear hK K
    refine W.r fun K hK => ?_
    simp (disch := omega) only [↓RU,RV,RH,↓reduceIte,reduceEqDiff,reduceCtorEq,if_pos,↓RS,RG,reduceAdd,reduceMul,reduceLeDiff,tyint,ty18]
    refine hK _ _ ?_;clear hK K
    refine W.seq_pk 6 [some 42] [3] (by decide) (by kernel_rfl) fun K hK => ?_
    simp only [List.take_succ_cons,List.take_zero,List.drop_succ_cons,List.drop_zero]
    refine eRunK_pend (.ref 2 2 0) rfl rfl rfl (fun S' hS => ?_) ?_
    ·skip
     have k3 := (hS 3 (by decide)).trans (show _ = some _ from rfl)
     simp (disch := omega) only [↓RU,RV,RH,↓reduceIte,reduceEqDiff,reduceCtorEq,if_pos,List.append_nil,↓RS,RG,reduceAdd,reduceMul,reduceLeDiff,ty1,ty3,tyLint,ty7,ty10,ty11,ty15,tyint,ty24,ty28,pp_load,pp_nil,pp_fa,pp_ia,k3]
    refine eRunK_go rfl ?_
    simp (disch := omega) only [↓RU,RV,RH,↓reduceIte,reduceEqDiff,reduceCtorEq,if_pos,List.append_nil,↓RS,RG,reduceAdd,reduceMul,reduceLeDiff,ty1,ty3,tyLint,ty7,ty10,ty11,ty15,tyint,ty24,ty28,keeps_cons,keeps_nil]
    refine eRunK_go rfl ?_
    simp (disch := omega) only [↓RU,RV,RH,↓reduceIte,reduceEqDiff,reduceCtorEq,if_pos,List.append_nil,↓RS,RG,reduceAdd,reduceMul,reduceLeDiff,ty1,ty3,tyLint,ty7,ty10,ty11,ty15,tyint,ty24,ty28,keeps_cons,keeps_nil]
    refine eRunK_go rfl ?_
    simp (disch := omega) only [↓RU,RV,RH,↓reduceIte,reduceEqDiff,reduceCtorEq,if_pos,List.append_nil,↓RS,RG,reduceAdd,reduceMul,reduceLeDiff,ty1,ty3,tyLint,ty7,ty10,ty11,ty15,tyint,ty24,ty28,keeps_cons,keeps_nil]
    refine eRunK_go rfl ?_
    simp (disch := omega) only [↓RU,RV,RH,↓reduceIte,reduceEqDiff,reduceCtorEq,if_pos,List.append_nil,↓RS,RG,reduceAdd,reduceMul,reduceLeDiff,ty1,ty3,tyLint,ty7,ty10,ty11,ty15,tyint,ty24,ty28,keeps_cons,keeps_nil]
    refine eRunK_go rfl ?_
    simp (disch := omega) only [↓RU,RV,RH,↓reduceIte,reduceEqDiff,reduceCtorEq,if_pos,List.append_nil,↓RS,RG,reduceAdd,reduceMul,reduceLeDiff,ty1,ty3,tyLint,ty7,ty10,ty11,ty15,tyint,ty24,ty28,keeps_cons,keeps_nil]
    refine CallR.ev (blank_ev hg) ?_
    rintro _ _ ⟨xv,vq,t,rfl,rfl⟩
    rw [seO_ne hne]
    simp only [prS]
    simp (disch := omega) only [↓RU,RV,RH,↓reduceIte,reduceEqDiff,reduceCtorEq,if_pos,List.append_nil,↓RS,RG,reduceAdd,reduceMul,reduceLeDiff,ty1,ty3,tyLint,ty7,ty10,ty11,ty15,tyint,ty24,ty28,keeps_cons,keeps_nil]
    refine eRunK_end ?_
    simp (disch := omega) only [↓RU,RV,RH,↓reduceIte,reduceEqDiff,reduceCtorEq,if_pos,List.append_nil,↓RS,RG,reduceAdd,reduceMul,reduceLeDiff,ty1,ty3,tyLint,ty7,ty10,ty11,ty15,tyint,ty24,ty28]
    refine hK _ _ ?_;clear hK K
    refine W.seq ?_
    refine W.r fun K hK => ?_
    simp (disch := omega) only [↓RU,RV,RH,↓reduceIte,reduceEqDiff,reduceCtorEq,if_pos,w64,↓RS,RG,reduceAdd,reduceMul,reduceLeDiff,ty1,ty3,tyLint,ty7,ty10,ty11,ty15,tyint,ty24,ty28]
    refine hK _ _ ?_;clear hK K
    refine W.cond rfl (fun h2 => ?_) (fun h2 => ?_)
    ·try simp only [RL] at h2
     refine W.r fun K hK => ?_
     simp (disch := omega) only [↓RU,RV,RH,↓reduceIte,reduceEqDiff,reduceCtorEq,if_pos,↓RS,RG,reduceAdd,reduceMul,reduceLeDiff]
     refine hK _ _ ?_;clear hK K
     refine W.ret ?_
     refine XThen.ret ?_
     refine Br rfl ?_
     have hok : okS g = false := by unfold okS stG; rw [hw0]; simp only [Bool.and_eq_false_iff]; right; exact decide_eq_false (by omega)
     rw [settledV,hok]
     rfl
    ·try simp only [RL] at h2
     refine W.skip ?_
     refine xn ?_
     refine W.r fun K hK => ?_
     simp (disch := omega) only [↓RU,RV,RH,↓reduceIte,reduceEqDiff,reduceCtorEq,if_pos,↓RS,RG,reduceAdd,reduceMul,reduceLeDiff]
     refine hK _ _ ?_;clear hK K
     refine W.seq ?_
     refine W.r fun K hK => ?_
     simp (disch := omega) only [↓RU,RV,RH,↓reduceIte,reduceEqDiff,reduceCtorEq,if_pos,↓RS,RG,reduceAdd,reduceMul,reduceLeDiff,ty1,ty3,tyLint,ty7,ty10,ty11,ty15,tyint,ty24,ty28]
     refine hK _ _ ?_;clear hK K
     refine W.block ?_
     refine W.loop [5,7,59,60,61] (fun n vs S => ∃ k t : Nat,n = (seRows g row.length g.length).2.length - k ∧ k ≤ (seRows g row.length g.length).2.length ∧ vs = [.ref 3 3 0,.int .i64 (sumA ((seRows g row.length g.length).2.take k)),.loc 7 vq 0 (seRows g row.length g.length).2.length,.int .i64 (seRows g row.length g.length).2.length,.int .i64 (k : Nat)] ∧ S = ⟨[.arr 0 98 1 [eGrid g],.arr 1 3 1 [.int .i64 row.length],.arr 2 101 2 [.loc 6 xv 0 g.length,.loc 7 vq 0 (seRows g row.length g.length).2.length],.arr 3 49 1 [.ref 2 2 0],.map 4 (mE (seRows g row.length g.length).1),.arr 5 170 1 [.mp 4 4],.arr xv 24 1 ((zRows g row.length g.length).map eInts),.arr vq 55 4 (rcs (seRows g row.length g.length).2)],t⟩) (seRows g row.length g.length).2.length ?_ ?_
     ·refine ⟨8,0,t,rfl,Nat.zero_le _,?_,?_⟩
      ·simp [Env.put,Env.of,argEnv,sumA]
      ·simp [take_eq]
     rintro n vs S - ⟨k,t,rfl,h_k,rfl,rfl⟩
     refine W.r fun K hK => ?_
     simp (disch := omega) only [↓RU,RV,RH,↓reduceIte,reduceEqDiff,reduceCtorEq,if_pos,w64,↓RS,RG,reduceAdd,reduceMul,reduceLeDiff,tyint]
     refine hK _ _ ?_;clear hK K
     refine W.seq ?_
     refine W.cond rfl (fun h3 => ?_) (fun h3 => ?_)
     ·try simp only [RL] at h3
      obtain ⟨b,hb2,hbm⟩ := get_of (show k < (seRows g row.length g.length).2.length by omega)
      have hbf := hso.2 b hbm
      have hba := hbf.area
      have hsb := sumA_bound hso.2 k
      refine W.skip ?_
      refine xn ?_
      refine W.seq ?_
      refine W.block ?_
      refine W.r fun K hK => ?_
      simp (disch := omega) only [↓RU,RV,RH,↓reduceIte,reduceEqDiff,reduceCtorEq,if_pos,↓RS,RG,reduceAdd,reduceMul,reduceLeDiff,ty3,ty15,tyint,ty28,rcs_at hb2,rcs_len,rcell_len,rcell_all]
      refine hK _ _ ?_;clear hK K
      refine W.k fun K hK => ?_
      simp (disch := omega) only [↓RU,RV,RH,↓reduceIte,reduceEqDiff,reduceCtorEq,if_pos,List.append_nil,w64,↓RS,RG,reduceAdd,reduceMul,reduceLeDiff,ty15,tyint,ty28,rcs_at hb2,rcell_len,rcs_len]
      refine CallR.pc (area_pc (r := b) (by omega) (by omega)) rfl (.inl rfl) ?_
      simp (disch := omega) only [↓RU,RV,RH,↓reduceIte,reduceEqDiff,reduceCtorEq,if_pos,List.append_nil,w64,↓RS,RG,reduceAdd,reduceMul,reduceLeDiff,ty15,tyint,ty28,rcs_at hb2,rcell_len,rcs_len]
      refine hK _ _ ?_;clear hK K
      refine XbN ?_
      refine xn ?_
      refine W.k fun K hK => ?_
      simp (disch := omega) only [↓RU,RV,RH,↓reduceIte,reduceEqDiff,reduceCtorEq,if_pos,w64,↓RS,RG,reduceAdd,reduceMul,reduceLeDiff,tyint]
      refine hK _ _ ?_;clear hK K
      refine xn ?_
      refine ⟨(seRows g row.length g.length).2.length - (k + 1),by omega,8,k + 1,_,rfl,by omega,?_,rfl⟩
      simp [Env.put,Env.of,sumA_succ hb2]
     ·try simp only [RL] at h3
      obtain rfl : k = (seRows g row.length g.length).2.length := by omega
      rw [List.take_length]
      refine W.exit ?_
      refine xe ?_
      refine xe ?_
      refine XBlock.hit ?_
      refine xn ?_
      refine W.seq_draw (by kernel_rfl) fun K hK => ?_
      obtain ⟨zr,hzr,hzl,-⟩ := (zG_ok hg).at_ (i := 0) (j := 0) (by omega) (by omega)
      have hZl := zRows_len (g := g) (nw := row.length) g.length
      have hpr := Nat.mul_le_mul hgl.2 hb.2
      simp (disch := omega) only [↓RU,RV,RH,↓reduceIte,reduceEqDiff,reduceCtorEq,if_pos,List.append_nil,w64,↓RS,RG,reduceAdd,reduceMul,reduceLeDiff,ty7,tyint,hZl,hzl]
      refine CallR.pc (high_pc (zRows g row.length g.length) (seRows g row.length g.length).2) (mapM_one (reify_floor (f := 6) rfl rfl (zRows_len _) rfl) rfl) (.inl rfl) ?_
      simp (disch := omega) only [↓RU,RV,RH,↓reduceIte,reduceEqDiff,reduceCtorEq,if_pos,List.append_nil,w64,↓RS,RG,reduceAdd,reduceMul,reduceLeDiff,ty7,tyint,hZl,hzl]
      refine CallR.pc (wide_pc (g := (zRows g row.length g.length)) hzr (seRows g row.length g.length).2) (mapM_one (reify_floor (f := 6) rfl rfl (zRows_len _) rfl) rfl) (.inl rfl) ?_
      simp (disch := omega) only [↓RU,RV,RH,↓reduceIte,reduceEqDiff,reduceCtorEq,if_pos,List.append_nil,w64,↓RS,RG,reduceAdd,reduceMul,reduceLeDiff,ty7,tyint,hZl,hzl]
      refine hK _ _ ?_;clear hK K
      refine W.ret ?_
      refine Br rfl ?_
      have hok : okS g = true := by unfold okS stG; rw [hw0,okG_iff.2 (by rw [hw0]; exact hg)]; simp; omega
      rw [settledV,hok,if_pos rfl]
      unfold stG zG fullG stG
      rw [hw0]
      refine reify_tup2 (k := 9) (reify_floor (f := 5) rfl rfl (zRows_len _) rfl) ?_
      have he : (sumA (seRows g row.length g.length).2 == (g.length : Int) * row.length) = decide (sumA (seRows g row.length g.length).2 = ((g.length * row.length : Nat) : Int)) := by rw [Int.natCast_mul]; rfl
      rw [← he]
      rfl
def rowZ (t : Txt) : List Int := t.map fun c => (c.toNat : Int)
def readG (p : List Txt) : List (List Int) := p.map rowZ
def lettersB (p : List Txt) : Bool := p.all fun r => r.all letterB
def readV (p : List Txt) : PV := if lettersB p then settledV (readG p) else .tup [.nilp,.bool false]
def okB (p : List Txt) : Bool := lettersB p && okS (readG p)
def gP (p : List Txt) : List (List Int) := zG (readG p)
def rP (p : List Txt) : List Rect := (stG (readG p)).2
theorem rowZ_len (t : Txt) : (rowZ t).length = t.length := by simp [rowZ]
theorem rowZ_succ {t : Txt} {k : Nat} {c : UInt8} (h : t[k]? = some c) : rowZ (t.take (k + 1)) = rowZ (t.take k) ++ [(c.toNat : Int)] := by simp [rowZ,tk h]
theorem readG_succ {p : List Txt} {i : Nat} {t : Txt} (h : p[i]? = some t) : readG (p.take (i + 1)) = readG (p.take i) ++ [rowZ t] := by simp [readG,tk h]
theorem readG_len (p : List Txt) : (readG p).length = p.length := by simp [readG]
theorem letters_bad {p : List Txt} {r : Txt} {c : UInt8} (hr : r ∈ p) (hc : c ∈ r) (h : letterB c = false) : lettersB p = false := by
 unfold lettersB
 rw [List.all_eq_false]
 refine ⟨r,hr,?_⟩
 rw [Bool.not_eq_true,List.all_eq_false]
 exact ⟨c,hc,by rw [h]; exact Bool.false_ne_true⟩
theorem zRow_bound {g : List (List Int)} {i : Nat} (hi : i < 6) {s : List Int × List Rect} (hs : SeOk s.1 s.2) {n : Nat} (hn : n ≤ 6) : ∀ j,j ≤ n → ∀ z ∈ zRow g i s j,0 ≤ z ∧ z ≤ s.1.length + n
 | 0,_,z,h => by simp [zRow] at h
 | j + 1,hj,z,h => by
  simp only [zRow,List.mem_append,List.mem_singleton] at h
  rcases h with h | rfl
  ·exact zRow_bound hi hs hn j (by omega) z h
  ·have h1 := idxOf_le (ks := (seRow g i s j).1) (z := gz g i j)
   obtain ⟨-,h2,-,-⟩ := seRow_ok (g := g) hi hs j (by omega)
   omega
theorem zRows_bound {g : List (List Int)} {nw : Nat} (hw : nw ≤ 6) (hw1 : 1 ≤ nw) : ∀ i,i ≤ 6 → ∀ r ∈ zRows g nw i,∀ z ∈ r,0 ≤ z ∧ z ≤ 100
 | 0,_,r,h => by simp [zRows] at h
 | i + 1,hi,r,h => by
  simp only [zRows,List.mem_append,List.mem_singleton] at h
  rcases h with h | rfl
  ·exact zRows_bound hw hw1 i (by omega) r h
  ·intro z hz
   obtain ⟨h1,h2,-⟩ := seRows_ok (g := g) hw hw1 i (by omega)
   have := zRow_bound (g := g) (i := i) (by omega) h1 hw nw (Nat.le_refl _) z hz
   omega
theorem okS_gw {g : List (List Int)} (h : okS g = true) : GW g g.length (w0 g) := by
 unfold okS at h
 rw [Bool.and_eq_true] at h
 exact okG_iff.1 h.1
theorem zG_gw {g : List (List Int)} (h : okS g = true) : GW (zG g) g.length (w0 g) := zG_ok (okS_gw h)
theorem zG_bound {g : List (List Int)} (h : okS g = true) : ∀ r ∈ zG g,∀ z ∈ r,0 ≤ z ∧ z ≤ 100 := by
 obtain ⟨-,-,h1,h2,h3,h4⟩ := okS_gw h
 exact zRows_bound h4 h3 _ h2
theorem settledV_no {g : List (List Int)} (h : okS g = false) : settledV g = .tup [.nilp,.bool false] := by rw [settledV,h]; rfl
theorem settledV_yes {g : List (List Int)} (h : okS g = true) : settledV g = .tup [eFloor (zG g) (stG g).2,.bool (fullG g)] := by rw [settledV,h]; rfl
theorem rfz_eIntss {S : Store} {lo k : Nat} (l : List (List Int)) : (l.map eInts).mapM (rfz S lo (k + 1)) = some (l.map eInts) := rfz_map (fun _ => rfl) l
theorem readV_no {p : List Txt} (h : okB p = false) : readV p = .tup [.nilp,.bool false] := by
 unfold okB at h
 unfold readV
 cases hl : lettersB p with
 | false => rfl
 | true => rw [hl,Bool.true_and] at h; rw [if_pos rfl,settledV_no h]
theorem readV_yes {p : List Txt} (h : okB p = true) : readV p = .tup [eFloor (gP p) (rP p),.bool (fullG (readG p))] := by
 unfold okB at h
 rw [Bool.and_eq_true] at h
 rw [readV,if_pos h.1,settledV_yes h.2]
 rfl
theorem okB_gw {p : List Txt} (h : okB p = true) : GW (gP p) p.length (w0 (readG p)) := by
 unfold okB at h
 rw [Bool.and_eq_true] at h
 have := zG_gw h.2
 rwa [readG_len] at this
theorem okB_bound {p : List Txt} (h : okB p = true) : ∀ r ∈ gP p,∀ z ∈ r,0 ≤ z ∧ z ≤ 100 := by
 unfold okB at h
 rw [Bool.and_eq_true] at h
 exact zG_bound h.2
theorem textG_len (g : List (List Int)) : (textG g).length = g.length := by simp [textG]
def floorV (p : List Txt) : Bool := fullG (readG p) && decide (textG (gP p) = p)
def floorI (p : List Txt) : Bool := okB p && floorV p
def plainI (p : List Txt) : Bool := floorI p && decide (ptsG (gP p) 4 (w0 (readG p)) p.length = 0)
def needW (p : List Txt) (ws : List Int) : Bool := decide (ws.length = (rP p).length) && ws.all needB
def needV (p : List Txt) (wss : List (List Int)) : Bool := plainI p && wss.all (needW p)
theorem needV_no {p : List Txt} {wss : List (List Int)} {ws : List Int} (hm : ws ∈ wss) (h : needW p ws = false) : needV p wss = false := by
 unfold needV
 rw [Bool.and_eq_false_iff]
 right
 rw [List.all_eq_false]
 exact ⟨ws,hm,by rw [h]; exact Bool.false_ne_true⟩
theorem okB_rooms {p : List Txt} (h : okB p = true) : (rP p).length ≤ 9 := by
 unfold okB okS at h
 simp only [Bool.and_eq_true,decide_eq_true_eq] at h
 exact h.2.2
theorem okB_rooms1 {p : List Txt} (h : okB p = true) : 1 ≤ (rP p).length := by
 unfold okB at h
 rw [Bool.and_eq_true] at h
 obtain ⟨-,-,h1,h2,h3,h4⟩ := okS_gw h.2
 obtain ⟨k1,-,k3⟩ := seRows_ok (g := readG p) h4 h3 _ h2
 have := k1.1
 have := k3 h1
 unfold rP stG
 omega
theorem needV_one {p : List Txt} {ws : List Int} (h : needV p [ws] = true) : plainI p = true ∧ ws.length = (rP p).length ∧ NeedOk ws := by
 unfold needV needW at h
 simp only [List.all_cons,List.all_nil,Bool.and_true,Bool.and_eq_true,decide_eq_true_eq,List.all_eq_true,needB] at h
 exact ⟨h.1,h.2.1,fun x hx => h.2.2 x hx⟩
def sizeV (b : Bool) (M : List (List Bool)) (ws : List Int) (n : Nat) : PV := if b then .tup [.int .i64 (maxL (heaviest M ws n)),.bool true] else .tup [.int .i64 0,.bool false]
theorem heaviest_len {M : List (List Bool)} {ws : List Int} {n : Nat} : (heaviest M ws n).length = n := by simp [heaviest]
theorem reify_hv {S : Store} {o v et k : Nat} {M : List (List Bool)} {ws : List Int} {n : Nat} (h : S.obs[o]? = some (.arr v et 1 ((heaviest M ws n).map (.int .i64)))) : reify S true (k + 2) (.loc o v 0 n) = some (eInts (heaviest M ws n)) := by
 have := reify_loc (S := S) (im := true) (k := k + 1) (n := n) h (by rw [List.length_map,heaviest_len,Nat.mul_one]) (mapM_int _)
 rw [this]
 show some (PV.sl _ n) = some (PV.sl _ (heaviest M ws n).length)
 rw [heaviest_len]
theorem settled_no {g : List (List Int)} (hsm : g.length < 2147483648) (hsr : ∀ r ∈ g,r.length < 2147483648) (h : okS g = false) : PC Tryz.prog 131 [eGrid g] (.tup [.nilp,.bool false]) false := by
 rw [← settledV_no h]; exact settled_pc hsm hsr
theorem settled_yes {g : List (List Int)} (hsm : g.length < 2147483648) (hsr : ∀ r ∈ g,r.length < 2147483648) (h : okS g = true) : PC Tryz.prog 131 [eGrid g] (.tup [eFloor (zG g) (stG g).2,.bool (fullG g)]) false := by
 rw [← settledV_yes h]; exact settled_pc hsm hsr
theorem read_pc {p : List Txt} (hs : Sm p) : PC Tryz.prog 128 [eStrs p] (readV p) false := by
 have hp := hs.rows
 refine PC.of ⟨Tryz.func128,by kernel_rfl,rfl,by kernel_rfl⟩ tabOk mixed (by show 1 ≤ Tryz.f128.ntmps; decide) ?_
 refine W.r fun K hK => ?_
 simp (disch := omega) only [↓RU,RV,RH,↓reduceIte,reduceEqDiff,reduceCtorEq,if_pos,↓RS,RG,reduceAdd,reduceMul,reduceLeDiff]
 refine hK _ _ ?_;clear hK K
 refine W.r fun K hK => ?_
 simp (disch := omega) only [↓RU,RV,RH,↓reduceIte,reduceEqDiff,reduceCtorEq,if_pos,↓RS,RG,reduceAdd,reduceMul,reduceLeDiff,ty1,tyLint,ty11,tyint]
 refine hK _ _ ?_;clear hK K
 refine W.joinZ [4] (fun vs S => ∃ tk : Nat,lettersB p = true ∧ vs = [eGrid (readG p)] ∧ S = ⟨[],tk⟩) ?_ ?_
 ·
  refine W.r fun K hK => ?_
  simp (disch := omega) only [↓RU,RV,RH,↓reduceIte,reduceEqDiff,reduceCtorEq,if_pos,↓RS,RG,reduceAdd,reduceMul,reduceLeDiff,ty5,tystring]
  refine hK _ _ ?_;clear hK K
  refine W.block ?_
  refine W.loopZ [4,11,12,13] (fun n vs S => ∃ i v0 tk : Nat,n = p.length - i ∧ i ≤ p.length ∧ ((p.take i).all (fun r => r.all letterB) = true) ∧ vs = [.loc 0 v0 0 i,eStrs p,.int .i64 p.length,.int .i64 i] ∧ S = ⟨[.arr v0 24 1 ((readG (p.take i)).map eInts)],tk⟩) (p.length) ?_ ?_
  ·refine ⟨1,[.loc 0 0 0 0,eStrs p,.int .i64 p.length,.int .i64 0],⟨[.arr 0 24 1 ((readG (p.take 0)).map eInts)],1⟩,?_,?_,0,0,1,rfl,by omega,rfl,rfl,rfl⟩
   ·rfl
   ·rfl
  rintro n vs S - ⟨i,v0,tk,rfl,h_i,hall,rfl,rfl⟩
  refine W.r fun K hK => ?_
  simp (disch := omega) only [↓RU,RV,RH,↓reduceIte,reduceEqDiff,reduceCtorEq,if_pos,w64,↓RS,RG,reduceAdd,reduceMul,reduceLeDiff,tyint]
  refine hK _ _ ?_;clear hK K
  refine W.seq ?_
  refine W.cond rfl (fun h => ?_) (fun h => ?_)
  ·try simp only [RL] at h
   obtain ⟨row,hrow,hrm⟩ := get_of (show i < p.length by omega)
   have hrl := hs.cols row hrm
   have hgk : (readG (p.take i)).length = i := by rw [readG_len,List.length_take]; omega
   have hgt : ((readG (p.take i)).map eInts).take i = (readG (p.take i)).map eInts := List.take_of_length_le (by rw [List.length_map]; omega)
   refine W.skip ?_
   refine xn ?_
   refine W.seq ?_
   refine W.block ?_
   refine W.r fun K hK => ?_
   simp (disch := omega) only [↓RU,RV,RH,↓reduceIte,reduceEqDiff,reduceCtorEq,if_pos,↓RS,RG,reduceAdd,reduceMul,reduceLeDiff,ty5,tystring,hrow]
   refine hK _ _ ?_;clear hK K
   refine W.r fun K hK => ?_
   simp (disch := omega) only [↓RU,RV,RH,↓reduceIte,reduceEqDiff,reduceCtorEq,if_pos,↓RS,RG,reduceAdd,reduceMul,reduceLeDiff,tyLint,tyint]
   refine hK _ _ ?_;clear hK K
   refine W.seq ?_
   refine W.r fun K hK => ?_
   simp (disch := omega) only [↓RU,RV,RH,↓reduceIte,reduceEqDiff,reduceCtorEq,if_pos,w64,↓RS,RG,reduceAdd,reduceMul,reduceLeDiff,ty6,tystring,ty30]
   refine hK _ _ ?_;clear hK K
   refine W.block ?_
   refine W.loop [4,11,12,13,7,19,20,21] (fun n vs S => ∃ k v1 t : Nat,n = row.length - k ∧ k ≤ row.length ∧ ((row.take k).all letterB = true) ∧ vs = [.loc 0 v0 0 i,eStrs p,.int .i64 p.length,.int .i64 i,.loc 1 v1 0 k,.sl (row.map eB) row.length,.int .i64 row.length,.int .i64 k] ∧ S = ⟨[.arr v0 24 1 ((readG (p.take i)).map eInts),.arr v1 3 1 ((rowZ (row.take k)).map (.int .i64))],t⟩) (row.length) ?_ ?_
   ·refine ⟨2,0,_,_,rfl,Nat.zero_le _,rfl,?_,rfl⟩
    simp [Env.put,Env.of]
   rintro n vs S - ⟨k,v1,t,rfl,h_k,hrk,rfl,rfl⟩
   refine W.r fun K hK => ?_
   simp (disch := omega) only [↓RU,RV,RH,↓reduceIte,reduceEqDiff,reduceCtorEq,if_pos,w64,↓RS,RG,reduceAdd,reduceMul,reduceLeDiff,tyint]
   refine hK _ _ ?_;clear hK K
   refine W.seq ?_
   refine W.cond rfl (fun h1 => ?_) (fun h1 => ?_)
   ·try simp only [RL] at h1
    obtain ⟨c,hc,hcm⟩ := get_of (show k < row.length by omega)
    have hcb := c.toNat_lt
    have hrowk : (rowZ (row.take k)).length = k := by rw [rowZ_len,List.length_take]; omega
    have hrowt : ((rowZ (row.take k)).map (PV.int .i64)).take k = (rowZ (row.take k)).map (PV.int .i64) := List.take_of_length_le (by rw [List.length_map]; omega)
    refine W.skip ?_
    refine xn ?_
    refine W.seq ?_
    refine W.block ?_
    refine W.r fun K hK => ?_
    simp (disch := omega) only [↓RU,RV,RH,↓reduceIte,reduceEqDiff,reduceCtorEq,if_pos,↓RS,RG,reduceAdd,reduceMul,reduceLeDiff,ty6,ty30,hc]
    refine hK _ _ ?_;clear hK K
    refine W.seq ?_
    refine W.r fun K hK => ?_
    rcases (show (c.toNat : Int) < 97 ∨ (c.toNat : Int) > 122 ∨ (97 ≤ c.toNat ∧ c.toNat ≤ 122) by omega) with hb | hb | hb
    ·skip
     have hd : decide ((c.toNat : Int) < 97) = true := decide_eq_true hb
     have hlc : letterB c = false := by unfold letterB; rw [decide_eq_false (by omega)]; rfl
     simp (disch := omega) only [↓RU,RV,RH,↓reduceIte,reduceEqDiff,reduceCtorEq,if_pos,w64,↓RS,RG,reduceAdd,reduceMul,reduceLeDiff,ty30,hd]
     refine hK _ _ ?_;clear hK K
     refine W.cond rfl (fun h2 => ?_) (fun h2 => ?_)
     ·try simp only [RL] at h2
      refine W.r fun K hK => ?_
      simp (disch := omega) only [↓RU,RV,RH,↓reduceIte,reduceEqDiff,reduceCtorEq,if_pos,↓RS,RG,reduceAdd,reduceMul,reduceLeDiff]
      refine hK _ _ ?_;clear hK K
      refine W.ret ?_
      refine XThen.ret ?_
      refine XBlock.ret ?_
      refine XThen.ret ?_
      refine XThen.ret ?_
      refine XBlock.ret ?_
      refine XThen.ret ?_
      refine XBlock.ret ?_
      refine XThen.ret ?_
      refine XThen.ret ?_
      refine XBlock.ret ?_
      refine XThen.ret ?_
      refine Br rfl ?_
      rw [readV,letters_bad hrm hcm hlc]
      rfl
     ·try simp only [RL] at h2
      exact absurd h2 (by simp)
    ·skip
     have hd : decide ((c.toNat : Int) < 97) = false := decide_eq_false (by omega)
     have hd2 : decide ((c.toNat : Int) > 122) = true := decide_eq_true hb
     have hlc : letterB c = false := by unfold letterB; rw [decide_eq_false (p := c.toNat ≤ 122) (by omega),Bool.and_false]
     simp (disch := omega) only [↓RU,RV,RH,↓reduceIte,reduceEqDiff,reduceCtorEq,if_pos,w64,↓RS,RG,reduceAdd,reduceMul,reduceLeDiff,ty30,hd,hd2]
     refine hK _ _ ?_;clear hK K
     refine W.cond rfl (fun h2 => ?_) (fun h2 => ?_)
     ·try simp only [RL] at h2
      refine W.r fun K hK => ?_
      simp (disch := omega) only [↓RU,RV,RH,↓reduceIte,reduceEqDiff,reduceCtorEq,if_pos,↓RS,RG,reduceAdd,reduceMul,reduceLeDiff]
      refine hK _ _ ?_;clear hK K
      refine W.ret ?_
      refine XThen.ret ?_
      refine XBlock.ret ?_
      refine XThen.ret ?_
      refine XThen.ret ?_
      refine XBlock.ret ?_
      refine XThen.ret ?_
      refine XBlock.ret ?_
      refine XThen.ret ?_
      refine XThen.ret ?_
      refine XBlock.ret ?_
      refine XThen.ret ?_
      refine Br rfl ?_
      rw [readV,letters_bad hrm hcm hlc]
      rfl
     ·try simp only [RL] at h2
      exact absurd h2 (by simp)
    ·skip
     have hd : decide ((c.toNat : Int) < 97) = false := decide_eq_false (by omega)
     have hd2 : decide ((c.toNat : Int) > 122) = false := decide_eq_false (by omega)
     have hlc : letterB c = true := by unfold letterB; rw [decide_eq_true hb.1,decide_eq_true hb.2]; rfl
     simp (disch := omega) only [↓RU,RV,RH,↓reduceIte,reduceEqDiff,reduceCtorEq,if_pos,w64,↓RS,RG,reduceAdd,reduceMul,reduceLeDiff,ty30,hd,hd2]
     refine hK _ _ ?_;clear hK K
     refine W.cond rfl (fun h2 => ?_) (fun h2 => ?_)
     ·try simp only [RL] at h2
      exact absurd h2 (by simp)
     ·try simp only [RL] at h2
      refine W.skip ?_
      refine xn ?_
      refine W.k fun K hK => ?_
      simp (disch := omega) only [↓RU,RV,RH,↓reduceIte,reduceEqDiff,reduceCtorEq,if_pos,w64,↓RS,RG,reduceAdd,reduceMul,reduceLeDiff,tyLint,tyint,ty30,hrowk,hrowt,Nat.le_refl]
      refine hK _ _ ?_;clear hK K
      refine XbN ?_
      refine xn ?_
      refine W.k fun K hK => ?_
      simp (disch := omega) only [↓RU,RV,RH,↓reduceIte,reduceEqDiff,reduceCtorEq,if_pos,w64,↓RS,RG,reduceAdd,reduceMul,reduceLeDiff,tyint]
      refine hK _ _ ?_;clear hK K
      refine xn ?_
      refine ⟨row.length - (k + 1),by omega,2,k + 1,t + 1,t + 2,rfl,by omega,all_tk hc hrk hlc,?_,?_⟩
      ·simp [Env.put,Env.of]
      ·simp [take_eq,rowZ_succ hc]
   ·try simp only [RL] at h1
    obtain rfl : k = row.length := by omega
    have hra : row.all letterB = true := by rw [List.take_length] at hrk; exact hrk
    have hrz := rowZ_len row
    rw [List.take_length]
    generalize hYe : rowZ row = Y at hrz
    have hYt : (Y.map (PV.int .i64)).take row.length = Y.map (PV.int .i64) := List.take_of_length_le (by rw [List.length_map]; omega)
    have hYE : eInts Y = PV.sl (Y.map (PV.int .i64)) row.length := by rw [← hrz]
    refine W.exit ?_
    refine xe ?_
    refine xe ?_
    refine XBlock.hit ?_
    refine xn ?_
    refine W.k fun K hK => ?_
    simp (disch := omega) only [↓RU,RV,RH,↓reduceIte,reduceEqDiff,reduceCtorEq,if_pos,↓RS,RG,reduceAdd,reduceMul,reduceLeDiff,ty1,tyLint,ty11,tyint,hgk,hgt,Nat.le_refl]
    refine hK _ _ ?_;clear hK K
    refine XbN ?_
    refine xn ?_
    refine W.k fun K hK => ?_
    simp (disch := omega) only [↓RU,RV,RH,↓reduceIte,reduceEqDiff,reduceCtorEq,if_pos,w64,↓RS,RG,reduceAdd,reduceMul,reduceLeDiff,tyint]
    refine hK _ _ ?_;clear hK K
    refine xn ?_
    refine ⟨p.length - (i + 1),by omega,1,[.loc 0 (t + 1) 0 (i + 1),eStrs p,.int .i64 p.length,.int .i64 (i + 1)],⟨[.arr (t + 1) 24 1 ((readG (p.take (i + 1))).map eInts)],(t + 2)⟩,?_,?_,(i + 1),(t + 1),(t + 2),rfl,by omega,all_tk hrow hall hra,rfl,rfl⟩
    ·simp [-List.mapM_map,Store.frz,frzObs,frzOb,frz_eInts,frz_loc,rfz_loc,frz_int,frz_sl,frz_ints,rfz_ints,frz_strs,frz_bytes,rfz_bytes,rfz_str,rfz_bool,frz_str,frz_bool,Env.put,Env.of,argEnv,rfz_int,List.mapM_append,List.mapM_cons]
    ·simp [-List.mapM_map,Store.frz,frzObs,frzOb,frz_eInts,frz_loc,rfz_loc,frz_int,frz_sl,frz_ints,rfz_ints,frz_strs,frz_bytes,rfz_bytes,rfz_str,rfz_bool,frz_str,frz_bool,Env.put,Env.of,argEnv,rfz_int,List.mapM_append,List.mapM_cons,readG_succ hrow,hYe,hYt,hYE,hrz]
  ·try simp only [RL] at h
   refine W.exit ?_
   refine xe ?_
   refine xe ?_
   refine XBlock.hit ?_
   refine xn ?_
   obtain rfl : i = p.length := by omega
   rw [List.take_length] at hall ⊢
   have hgt2 : ((readG p).map eInts).take p.length = (readG p).map eInts := List.take_of_length_le (by simp [readG])
   have hgE : eGrid (readG p) = PV.sl ((readG p).map eInts) p.length := by rw [← readG_len p]
   refine ⟨0,[eGrid (readG p)],⟨[],tk⟩,?_,?_,tk,hall,rfl,rfl⟩
   ·simp [-List.mapM_map,Store.frz,frzObs,frzOb,frz_eInts,frz_loc,rfz_loc,frz_int,frz_sl,frz_ints,rfz_ints,frz_strs,frz_bytes,rfz_bytes,rfz_str,rfz_bool,frz_str,frz_bool,Env.put,Env.of,argEnv,rfz_int,List.mapM_append,List.mapM_cons,hgt2,hgE,readG_len,rfz_eIntss]
   ·simp [-List.mapM_map,Store.frz,frzObs,frzOb,frz_eInts,frz_loc,rfz_loc,frz_int,frz_sl,frz_ints,rfz_ints,frz_strs,frz_bytes,rfz_bytes,rfz_str,rfz_bool,frz_str,frz_bool,Env.put,Env.of,argEnv,rfz_int,List.mapM_append,List.mapM_cons]
 rintro vs S - ⟨tk,hlet,rfl,rfl⟩
 refine W.r fun K hK => ?_
 cases hok : okS (readG p)
 ·skip
  simp (disch := omega) only [↓RU,RV,RH,↓reduceIte,reduceEqDiff,reduceCtorEq,if_pos,List.append_nil,↓RS,RG,reduceAdd,reduceMul,reduceLeDiff]
  refine CallR.pc (settled_no (g := readG p) (by rw [readG_len]; omega) (fun r hr => by obtain ⟨t,ht,rfl⟩ := List.mem_map.1 hr; rw [rowZ_len]; exact hs.cols t ht) hok) rfl (.inr rfl) ?_
  simp (disch := omega) only [↓RU,RV,RH,↓reduceIte,reduceEqDiff,reduceCtorEq,if_pos,List.append_nil,↓RS,RG,reduceAdd,reduceMul,reduceLeDiff]
  refine hK _ _ ?_;clear hK K
  refine W.ret ?_
  refine Br rfl ?_
  rw [readV,hlet,if_pos rfl,settledV_no hok]
  rfl
 ·skip
  simp (disch := omega) only [↓RU,RV,RH,↓reduceIte,reduceEqDiff,reduceCtorEq,if_pos,List.append_nil,↓RS,RG,reduceAdd,reduceMul,reduceLeDiff]
  refine CallR.pc (settled_yes (g := readG p) (by rw [readG_len]; omega) (fun r hr => by obtain ⟨t,ht,rfl⟩ := List.mem_map.1 hr; rw [rowZ_len]; exact hs.cols t ht) hok) rfl (.inr rfl) ?_
  simp (disch := omega) only [↓RU,RV,RH,↓reduceIte,reduceEqDiff,reduceCtorEq,if_pos,List.append_nil,↓RS,RG,reduceAdd,reduceMul,reduceLeDiff]
  refine hK _ _ ?_;clear hK K
  refine W.ret ?_
  refine Br rfl ?_
  rw [readV,hlet,if_pos rfl,settledV_yes hok]
  rfl
theorem read_no {p : List Txt} (hs : Sm p) (h : okB p = false) : PC Tryz.prog 128 [eStrs p] (.tup [.nilp,.bool false]) false := by
 rw [← readV_no h]; exact read_pc hs
theorem read_yes {p : List Txt} (hs : Sm p) (h : okB p = true) : PC Tryz.prog 128 [eStrs p] (.tup [eFloor (gP p) (rP p),.bool (fullG (readG p))]) false := by
 rw [← readV_yes h]; exact read_pc hs
theorem floorOf_no {p : List Txt} (hs : Sm p) (h : okB p = false) : PC Tryz.prog 97 [eStrs p] (.tup [.nilp,.bool false]) false := by
 refine PC.of ⟨Tryz.func97,by kernel_rfl,rfl,by kernel_rfl⟩ tabOk mixed (by show 1 ≤ Tryz.f97.ntmps; decide) ?_
 refine W.r fun K hK => ?_
 simp (disch := omega) only [↓RU,RV,RH,↓reduceIte,reduceEqDiff,reduceCtorEq,if_pos]
 refine hK _ _ ?_;clear hK K
 refine W.r fun K hK => ?_
 simp (disch := omega) only [↓RU,RV,RH,↓reduceIte,reduceEqDiff,reduceCtorEq,if_pos,List.append_nil]
 refine CallR.pc (read_no hs h) rfl (.inr rfl) ?_
 simp (disch := omega) only [↓RU,RV,RH,↓reduceIte,reduceEqDiff,reduceCtorEq,if_pos,List.append_nil]
 refine hK _ _ ?_;clear hK K
 refine W.r fun K hK => ?_
 simp (disch := omega) only [↓RU,RV,RH,↓reduceIte,reduceEqDiff,reduceCtorEq,if_pos,List.append_nil]
 refine hK _ _ ?_;clear hK K
 refine W.ret ?_
 refine Br rfl ?_
 rfl
theorem floorOf_yes {p : List Txt} (hs : Sm p) (h : okB p = true) : PC Tryz.prog 97 [eStrs p] (.tup [eFloor (gP p) (rP p),.bool (floorV p)]) false := by
 have hg := okB_gw h
 have hz := okB_bound h
 have hrows := hs.rows
 refine PC.of ⟨Tryz.func97,by kernel_rfl,rfl,by kernel_rfl⟩ tabOk mixed (by show 1 ≤ Tryz.f97.ntmps; decide) ?_
 refine W.r fun K hK => ?_
 simp (disch := omega) only [↓RU,RV,RH,↓reduceIte,reduceEqDiff,reduceCtorEq,if_pos]
 refine hK _ _ ?_;clear hK K
 refine W.r fun K hK => ?_
 simp (disch := omega) only [↓RU,RV,RH,↓reduceIte,reduceEqDiff,reduceCtorEq,if_pos,List.append_nil]
 refine CallR.pc (read_yes hs h) rfl (.inr rfl) ?_
 simp (disch := omega) only [↓RU,RV,RH,↓reduceIte,reduceEqDiff,reduceCtorEq,if_pos,List.append_nil]
 refine hK _ _ ?_;clear hK K
 refine W.r fun K hK => ?_
 cases hf : fullG (readG p)
 ·skip
  simp (disch := omega) only [↓RU,RV,RH,↓reduceIte,reduceEqDiff,reduceCtorEq,if_pos,List.append_nil]
  refine hK _ _ ?_;clear hK K
  refine W.ret ?_
  refine Br rfl ?_
  rw [floorV,hf]
  rfl
 ·skip
  simp (disch := omega) only [↓RU,RV,RH,↓reduceIte,reduceEqDiff,reduceCtorEq,if_pos,List.append_nil,hf]
  refine CallR.pc (text_pc hg (rP p) hz) rfl (.inl rfl) ?_
  simp (disch := omega) only [↓RU,RV,RH,↓reduceIte,reduceEqDiff,reduceCtorEq,if_pos,List.append_nil,hf]
  refine CallR.pc (equalStrs_pc (p := textG (gP p)) (q := p) (by rw [textG_len,hg.1]; omega) hs.rows) rfl (.inl rfl) ?_
  simp (disch := omega) only [↓RU,RV,RH,↓reduceIte,reduceEqDiff,reduceCtorEq,if_pos,List.append_nil,hf]
  refine hK _ _ ?_;clear hK K
  refine W.ret ?_
  refine Br rfl ?_
  rw [floorV,hf]
  rfl
theorem floorOf_ex {p : List Txt} (hs : Sm p) : ∃ x,PC Tryz.prog 97 [eStrs p] (.tup [x,.bool (floorI p)]) false ∧ (floorI p = true → x = eFloor (gP p) (rP p)) ∧ ∀ (S : Store) (k : Nat),reify S true (k + 1) x = some x := by
 unfold floorI
 cases h : okB p with
 | false => exact ⟨_,floorOf_no hs h,(fun h => by cases h),fun _ _ => rfl⟩
 | true => exact ⟨_,floorOf_yes hs h,fun _ => rfl,fun _ _ => rfl⟩
theorem plainOf_ex0 {p : List Txt} (hs : Sm p) {x : PV} (hx : PC Tryz.prog 97 [eStrs p] (.tup [x,.bool (floorI p)]) false) (hy : floorI p = true → x = eFloor (gP p) (rP p)) (hr : ∀ (S : Store) (k : Nat),reify S true (k + 1) x = some x) : PC Tryz.prog 69 [eStrs p] (.tup [x,.bool (plainI p)]) false := by
 refine PC.of ⟨Tryz.func69,by kernel_rfl,rfl,by kernel_rfl⟩ tabOk mixed (by show 1 ≤ Tryz.f69.ntmps; decide) ?_
 refine W.r fun K hK => ?_
 simp (disch := omega) only [↓RU,RV,RH,↓reduceIte,reduceEqDiff,reduceCtorEq,if_pos]
 refine hK _ _ ?_;clear hK K
 refine W.r fun K hK => ?_
 simp (disch := omega) only [↓RU,RV,RH,↓reduceIte,reduceEqDiff,reduceCtorEq,if_pos,List.append_nil]
 refine CallR.pc (hx) rfl (.inr rfl) ?_
 simp (disch := omega) only [↓RU,RV,RH,↓reduceIte,reduceEqDiff,reduceCtorEq,if_pos,List.append_nil]
 refine hK _ _ ?_;clear hK K
 refine W.r fun K hK => ?_
 cases hf : floorI p
 ·skip
  simp (disch := omega) only [↓RU,RV,RH,↓reduceIte,reduceEqDiff,reduceCtorEq,if_pos,List.append_nil]
  refine hK _ _ ?_;clear hK K
  refine W.ret ?_
  refine Br rfl ?_
  rw [plainI,hf]
  exact reify_tup2 (k := 9) (hr _ 8) rfl
 ·skip
  have hxe := hy hf
  subst hxe
  have hok : okB p = true := by unfold floorI at hf; rw [Bool.and_eq_true] at hf; exact hf.1
  have hg := okB_gw hok
  simp (disch := omega) only [↓RU,RV,RH,↓reduceIte,reduceEqDiff,reduceCtorEq,if_pos,List.append_nil,hf]
  refine CallR.pc (fplain_pc hg (rP p)) rfl (.inl rfl) ?_
  simp (disch := omega) only [↓RU,RV,RH,↓reduceIte,reduceEqDiff,reduceCtorEq,if_pos,List.append_nil,hf]
  refine hK _ _ ?_;clear hK K
  refine W.ret ?_
  refine Br rfl ?_
  rw [plainI,hf]
  rfl
theorem plain_okB {p : List Txt} (h : plainI p = true) : okB p = true ∧ plainI p = true := by
 refine ⟨?_,h⟩
 unfold plainI floorI at h
 simp only [Bool.and_eq_true] at h
 exact h.1.1
theorem plainOf_ex {p : List Txt} (hs : Sm p) : ∃ x,PC Tryz.prog 69 [eStrs p] (.tup [x,.bool (plainI p)]) false ∧ (plainI p = true → x = eFloor (gP p) (rP p)) ∧ ∀ (S : Store) (k : Nat),reify S true (k + 1) x = some x := by
 obtain ⟨x,h1,h2,h3⟩ := floorOf_ex hs
 refine ⟨x,plainOf_ex0 hs h1 h2 h3,fun h => h2 ?_,h3⟩
 unfold plainI at h
 rw [Bool.and_eq_true] at h
 exact h.1
def Same (n : Nat) (M : List (List Bool)) (ms : List Nat) : Prop := Sq n M ∧ ms.length = n ∧ ∀ a b,a < n → b < n → getB M a b = bitOf ms a b
theorem getB_setB {n : Nat} {M : List (List Bool)} (h : Sq n M) {a b x y : Nat} {v : Bool} (ha : a < n) (hb : b < n) : getB (setB M a b v) x y = if x = a ∧ y = b then v else getB M x y := by
 obtain ⟨row,hr,hl,-⟩ := h.at_ ha hb
 rw [setB_is hr]
 unfold getB
 rw [List.getElem?_set]
 by_cases hx : a = x
 ·subst hx
  rw [if_pos rfl,if_pos (by rw [h.1]; exact ha),Option.getD_some,List.getElem?_set,hr]
  by_cases hy : b = y
  ·subst hy
   rw [if_pos rfl,if_pos (by omega),if_pos ⟨rfl,rfl⟩]; rfl
  ·rw [if_neg hy,if_neg (fun h => hy h.2.symm)]; rfl
 ·rw [if_neg hx,if_neg (fun h => hx h.1.symm)]
theorem clA_to {n : Nat} {M : List (List Bool)} (h : Sq n M) {k a : Nat} (hk : k < n) (ha : a < n) : ∀ i,i ≤ n → Sq n ((List.range i).foldl (clB k a) M) ∧
  ∀ x y,x < n → y < n → getB ((List.range i).foldl (clB k a) M) x y = if x = a ∧ y < i then getB M a y || (getB M a k && getB M k y) else getB M x y
 | 0,_ => ⟨h,fun x y _ _ => by simp⟩
 | i + 1,hi => by
  obtain ⟨h1,h2⟩ := clA_to h hk ha i (by omega)
  rw [foldl_rg]
  generalize (List.range i).foldl (clB k a) M = X at h1 h2 ⊢
  refine ⟨h1.clB ha,fun x y hx hy => ?_⟩
  unfold clB
  rw [getB_setB h1 ha (by omega),h2 a i ha (by omega),h2 a k ha hk,h2 k i hk (by omega),h2 x y hx hy]
  have e1 : (if a = a ∧ k < i then getB M a k || (getB M a k && getB M k k) else getB M a k) = getB M a k := by
   split
   ·cases getB M a k <;> simp
   ·rfl
  have e2 : (if k = a ∧ i < i then getB M a i || (getB M a k && getB M k i) else getB M k i) = getB M k i := by rw [if_neg (by omega)]
  have e3 : (if a = a ∧ i < i then getB M a i || (getB M a k && getB M k i) else getB M a i) = getB M a i := by rw [if_neg (by omega)]
  rw [e1,e2,e3]
  by_cases hxa : x = a
  ·subst hxa
   by_cases hyi : y = i
   ·subst hyi; rw [if_pos ⟨rfl,rfl⟩,if_pos ⟨rfl,by omega⟩]
   ·rw [if_neg (fun h => hyi h.2)]
    by_cases hlt : y < i
    ·rw [if_pos ⟨rfl,hlt⟩,if_pos ⟨rfl,by omega⟩]
    ·rw [if_neg (fun h => hlt h.2),if_neg (fun h => hlt (by have := h.2; omega))]
  ·rw [if_neg (fun h => hxa h.1),if_neg (fun h => hxa h.1),if_neg (fun h => hxa h.1)]
theorem bitOf_set {ms : List Nat} {a m x y : Nat} (ha : a < ms.length) : bitOf (ms.set a m) x y = if x = a then m.testBit y else bitOf ms x y := by
 unfold bitOf
 rw [List.getElem?_set]
 by_cases h : a = x
 ·subst h; rw [if_pos rfl,if_pos ha,if_pos rfl]; rfl
 ·rw [if_neg h,if_neg (Ne.symm h)]
theorem allA_len {c a : Nat} {ms : List Nat} : (allA c ms a).length = ms.length := by unfold allA; split <;> simp
theorem Same.clA {n : Nat} {M : List (List Bool)} {ms : List Nat} (h : Same n M ms) {k a : Nat} (hk : k < n) (ha : a < n) : Same n (clA n k M a) (allA k ms a) := by
 obtain ⟨h1,h2,h3⟩ := h
 obtain ⟨k1,k2⟩ := clA_to h1 hk ha n (Nat.le_refl _)
 refine ⟨k1,by rw [allA_len,h2],fun x y hx hy => ?_⟩
 unfold Fw.clA
 rw [k2 x y hx hy]
 obtain ⟨m,hm,-⟩ := get_of (show a < ms.length by omega)
 obtain ⟨c,hc,-⟩ := get_of (show k < ms.length by omega)
 have hak : getB M a k = m.testBit k := by rw [h3 a k ha hk,bitOf_is hm]
 cases hb : m.testBit k with
 | true =>
  rw [allA_yes hm hc hb,bitOf_set (by omega),hak,hb]
  by_cases hxa : x = a
  ·subst hxa
   rw [if_pos ⟨rfl,hy⟩,if_pos rfl,Nat.testBit_or,h3 x y hx hy,h3 k y hk hy,bitOf_is hm,bitOf_is hc,Bool.true_and]
  ·rw [if_neg (fun h => hxa h.1),if_neg hxa,h3 x y hx hy]
 | false =>
  rw [allA_no hm hb,hak,hb]
  by_cases hxa : x = a
  ·subst hxa; rw [if_pos ⟨rfl,hy⟩,Bool.false_and,Bool.or_false,h3 x y hx hy]
  ·rw [if_neg (fun h => hxa h.1),h3 x y hx hy]
theorem Same.fold {n : Nat} {f : List (List Bool) → Nat → List (List Bool)} {g : List Nat → Nat → List Nat} : ∀ (i : Nat) {M : List (List Bool)} {ms : List Nat},i ≤ n → (∀ M ms j,j < n → Same n M ms → Same n (f M j) (g ms j)) → Same n M ms → Same n ((List.range i).foldl f M) ((List.range i).foldl g ms)
 | 0,_,_,_,_,h => h
 | i + 1,M,ms,hi,hs,h => by
  rw [foldl_rg,foldl_rg]
  exact hs _ _ i (by omega) (Same.fold i (by omega) hs h)
theorem Same.close {p : List Txt} {kind : Int} {n : Nat} {M : List (List Bool)} (h : Same n M (just p kind)) : Same n (closeM M) (allS p kind) := by
 unfold closeM allS
 rw [h.1.1,h.2.1]
 exact Same.fold n (Nat.le_refl _) (fun _ _ k hk h => Same.fold n (Nat.le_refl _) (fun _ _ a ha h => h.clA hk ha) h) h
section
theorem count_lt {α : Type} {f g : α → Bool} : ∀ {l : List α},(∀ x ∈ l,f x = true → g x = true) → (∃ x ∈ l,g x = true ∧ f x = false) → l.countP f < l.countP g
 | [],_,h => by obtain ⟨x,hx,_⟩ := h; simp at hx
 | a :: l,h1,h2 => by
  have hle : l.countP f ≤ l.countP g := List.countP_mono_left fun x hx => h1 x (by simp [hx])
  have ha := h1 a (by simp)
  rw [List.countP_cons,List.countP_cons]
  obtain ⟨x,hx,k1,k2⟩ := h2
  rcases List.mem_cons.1 hx with rfl | hx
  ·rw [k1,k2]; simp; omega
  ·have := count_lt (l := l) (fun x hx => h1 x (by simp [hx])) ⟨x,hx,k1,k2⟩
   cases hf : f a with
   | false => simp; omega
   | true => rw [ha hf]; simp; omega
def ahead (n : Nat) (rk : Nat → Nat) (b : Nat) : Nat := (List.range n).countP fun a => decide (rk a < rk b)
section
variable {M : List (List Bool)} {ms : List Nat} {ws : List Int} {n : Nat} {rk : Nat → Nat}
def beg (M : List (List Bool)) (ws : List Int) (n b : Nat) : Int := hvF M (HB M ws n) b n
def Ge (n : Nat) (o out : List Int) : Prop := ∀ b,b < n → getI o b ≤ getI out b
theorem Ge.refl (o : List Int) : Ge n o o := fun _ _ => Int.le_refl _
theorem Ge.trans {a b c : List Int} (h : Ge n a b) (k : Ge n b c) : Ge n a c := fun x hx => Int.le_trans (h x hx) (k x hx)
theorem getI_set {l : List Int} {b y : Nat} {v : Int} (hb : b < l.length) : getI (l.set b v) y = if y = b then v else getI l y := by
 unfold getI
 rw [List.getElem?_set]
 by_cases h : b = y
 ·subst h; rw [if_pos rfl,if_pos hb,if_pos rfl]; rfl
 ·rw [if_neg h,if_neg (Ne.symm h)]
theorem HB_beg (hu : Up M n rk) {b : Nat} (hb : b < n) : HB M ws n b = beg M ws n b + getI ws b := HB_eq hu hb
theorem hvF_pos {g : Nat → Int} {b : Nat} : ∀ i,0 ≤ hvF M g b i
 | 0 => by simp [hvF]
 | i + 1 => by
  have := hvF_pos (g := g) (b := b) i
  rw [hvF_succ]
  split <;> omega
end
end
def kk (lv : Bool) : Int := if lv then 1 else 0
def encW (w : Wall) : List Int := [kk w.level,w.line,w.fr,w.long]
def pendW (L : Nat) (f : Int) (i : Nat) : List (List Int) := if 0 ≤ f then [[(L : Int),f,(i : Int) - f]] else []
theorem wlLine_enc {g : List (List Int)} {q : List Txt} {lv : Bool} {L P : Nat} (hd : ∀ j,j < P → difG g lv L j = wallB q L j) {ws0 : List Wall} {pre s0 : List (List Int)} (h0 : ws0.map encW = pre ++ s0.map (kk lv :: ·)) : ∀ i,i ≤ P →
  -1 ≤ (upTo q L s0 i).1 ∧ (wlLine g lv L ws0 i).2 = decide (0 ≤ (upTo q L s0 i).1) ∧
  (wlLine g lv L ws0 i).1.map encW = pre ++ ((upTo q L s0 i).2 ++ pendW L (upTo q L s0 i).1 i).map (kk lv :: ·)
 | 0,_ => by
  refine ⟨by simp [upTo],by simp [wlLine_zero,upTo],?_⟩
  rw [wlLine_zero]
  simpa [upTo,pendW] using h0
 | i + 1,hi => by
  obtain ⟨h1,h2,h3⟩ := wlLine_enc hd h0 i (by omega)
  have hdi := hd i (by omega)
  rw [wlLine_succ]
  unfold upTo upStep
  rw [hdi]
  generalize wlLine g lv L ws0 i = s at h2 h3 ⊢
  obtain ⟨ws,op⟩ := s
  generalize upTo q L s0 i = u at h1 h2 h3 ⊢
  obtain ⟨f,l⟩ := u
  simp only at h1 h2 h3 ⊢
  cases hw : wallB q L i with
  | false =>
   simp only [wlStep,Bool.false_and,Bool.false_eq_true,if_false,Bool.not_false,Bool.true_and,decide_eq_true_eq]
   by_cases hf : 0 ≤ f
   ·rw [if_pos hf]
    refine ⟨by simp,by simp,?_⟩
    rw [h3]
    simp [pendW,hf]
   ·rw [if_neg hf]
    refine ⟨h1,by simp [hf],?_⟩
    rw [h3]
    simp [pendW,hf]
  | true =>
   simp only [wlStep,Bool.true_and,Bool.not_true,Bool.false_and,Bool.false_eq_true,if_false,if_true,decide_eq_true_eq]
   by_cases hf : 0 ≤ f
   ·have hop : op = true := by rw [h2]; simpa using hf
    rw [if_pos hop,if_neg (show ¬ f < 0 by omega)]
    refine ⟨h1,by simp [hf],?_⟩
    have hne : ws ≠ [] := by
     rintro rfl
     simp [pendW,hf] at h3
    obtain ⟨ws,w,rfl⟩ := last_of hne
    simp only [pendW,hf,if_true,List.map_append,List.map_cons,List.map_nil,← List.append_assoc] at h3 ⊢
    obtain ⟨e1,e2⟩ := List.append_inj' h3 rfl
    simp only [List.dropLast_concat,List.getLast?_append,List.getLast?_singleton,Option.some_or,Option.map_some,Option.toList_some,List.map_append,List.map_cons,List.map_nil,e1]
    simp only [List.cons.injEq,and_true] at e2
    have e3 : w.level = lv ∧ w.line = L ∧ w.fr = f ∧ w.long = i - f := by
     simp only [encW,List.cons.injEq,and_true] at e2
     refine ⟨?_,e2.2.1,e2.2.2.1,e2.2.2.2⟩
     have := e2.1
     unfold kk at this
     cases hwl : w.level <;> cases hlv : lv <;> simp [hwl,hlv] at this ⊢
    obtain ⟨e4,e5,e6,e7⟩ := e3
    simp only [encW,e4,e5,e6,e7,List.append_cancel_left_eq,List.cons.injEq,true_and,and_true]
    omega
   ·have hop : op = false := by rw [h2]; simpa using hf
    rw [if_neg (show ¬ op = true by rw [hop]; exact Bool.false_ne_true),if_pos (show f < 0 by omega)]
    refine ⟨by omega,by simp,?_⟩
    simp only [pendW,hf,if_false,List.append_nil] at h3
    simp only [pendW,List.map_append,h3,List.map_cons,List.map_nil]
    rw [if_pos (by omega)]
    simp [encW]
    omega
theorem wlLine_all {g : List (List Int)} {q : List Txt} {lv : Bool} {L : Nat} (hd : ∀ j,j < q.length → difG g lv L j = wallB q L j) {ws0 : List Wall} {pre s0 : List (List Int)} (h0 : ws0.map encW = pre ++ s0.map (kk lv :: ·)) :
  (wlLine g lv L ws0 q.length).1.map encW = pre ++ (upTo q L s0 (q.length + 1)).2.map (kk lv :: ·) := by
 obtain ⟨h1,-,h3⟩ := wlLine_enc hd h0 q.length (Nat.le_refl _)
 rw [h3]
 congr 2
 have e : upTo q L s0 (q.length + 1) = upStep (wallB q L q.length) L q.length (upTo q L s0 q.length) := rfl
 rw [e,wallB_end]
 clear e h3 h1
 generalize upTo q L s0 q.length = u
 obtain ⟨f,l⟩ := u
 unfold upStep
 simp only [Bool.false_and,Bool.false_eq_true,if_false,Bool.not_false,Bool.true_and,decide_eq_true_eq,pendW]
 split <;> simp
theorem wlLevel_enc {g : List (List Int)} {q : List Txt} {lv : Bool} {n : Nat} (hd : ∀ L j,1 ≤ L → L < n → j < q.length → difG g lv L j = wallB q L j) {ws0 : List Wall} : ∀ i,i ≤ n →
  (wlLevel g lv q.length ws0 i).map encW = ws0.map encW ++ (upsTo q i).map (kk lv :: ·)
 | 0,_ => by simp [wlLevel,upsTo]
 | i + 1,hi => by
  have ih := wlLevel_enc hd (ws0 := ws0) i (by omega)
  by_cases h1 : 1 ≤ i
  ·rw [wlLevel_succ h1,upsTo_succ h1]
   exact wlLine_all (fun j hj => hd i j h1 (by omega) hj) ih
  ·obtain rfl : i = 0 := by omega
   simpa [wlLevel,upsTo] using ih
theorem wallsG_enc {g : List (List Int)} {p : List Txt} (hg : gridB p = true) (hz : ∀ i j,i < p.length → j < (hdRow p).length → gz g i j = cellZ p i j) : (wallsG g p.length (hdRow p).length).map encW = walls p := by
 have hsm := grid_small hg
 obtain ⟨row0,hrow0,hrm0⟩ := get_of hsm.1
 have hhd := hdRow_of hrow0
 have hw1 := row_pos hg hrow0
 have htl := trans_len (p := p)
 have hth := trans_hd (p := p) (by rw [hhd]; omega)
 have d0 : ∀ L j,1 ≤ L → L < (hdRow p).length → j < p.length → difG g false L j = wallB p L j := by
  intro L j h1 h2 h3
  unfold difG sidesG wallB
  simp only [Bool.false_eq_true,if_false]
  rw [hz j (L - 1) h3 (by omega),hz j L h3 h2]
  simp [h3]
 have d1 : ∀ L j,1 ≤ L → L < p.length → j < (transP p).length → difG g true L j = wallB (transP p) L j := by
  intro L j h1 h2 h3
  have h3' := h3
  rw [htl] at h3'
  unfold difG sidesG wallB
  simp only [if_true]
  rw [hz (L - 1) j (by omega) h3',hz L j h2 h3',cellZ_trans (by omega) h3',cellZ_trans h2 h3']
  simp [h3]
 unfold wallsG
 have e1 := wlLevel_enc (lv := true) d1 (ws0 := wlLevel g false p.length [] (hdRow p).length) p.length (Nat.le_refl _)
 have e0 := wlLevel_enc (lv := false) d0 (ws0 := []) (hdRow p).length (Nat.le_refl _)
 rw [htl] at e1
 rw [e1,e0]
 unfold walls uprights
 rw [hth]
 simp [kk]
theorem Same.orBit {n : Nat} {M : List (List Bool)} {ms : List Nat} (h : Same n M ms) {a b : Nat} (ha : a < n) (hb : b < n) : Same n (setB M a b true) (orBit ms a b) := by
 obtain ⟨h1,h2,h3⟩ := h
 obtain ⟨m,hm,-⟩ := get_of (show a < ms.length by omega)
 rw [orBit_is hm]
 refine ⟨h1.set ha,by simp [h2],fun x y hx hy => ?_⟩
 rw [getB_setB h1 ha hb,bitOf_set (by omega)]
 by_cases hxa : x = a
 ·subst hxa
  rw [if_pos rfl,Nat.testBit_or,Nat.testBit_two_pow,h3 x y hx hy,bitOf_is hm]
  by_cases hyb : y = b
  ·subst hyb; simp
  ·rw [if_neg (fun h => hyb h.2),decide_eq_false (fun h => hyb h.symm),Bool.or_false]
 ·rw [if_neg (fun h => hxa h.1),if_neg hxa,h3 x y hx hy]
def Rm (n : Nat) (l : List Int) : Prop := ∀ x ∈ l,0 ≤ x ∧ x < n
theorem Same.relB {n : Nat} {a : Int} (ha : 0 ≤ a ∧ a < n) : ∀ {bs : List Int} {M : List (List Bool)} {ms : List Nat},Rm n bs → Same n M ms → Same n (relB a bs M) (justB a.toNat ms bs)
 | [],_,_,_,h => h
 | b :: bs,M,ms,hb,h => by
  have hb0 := hb b (by simp)
  exact Same.relB ha (bs := bs) (fun x hx => hb x (by simp [hx])) (h.orBit (by omega) (by omega))
theorem Same.relW {n : Nat} {bs : List Int} (hb : Rm n bs) : ∀ {la : List Int} {M : List (List Bool)} {ms : List Nat},Rm n la → Same n M ms → Same n (relW M la bs) (justA bs ms la)
 | [],_,_,_,h => h
 | a :: la,M,ms,ha,h => Same.relW hb (la := la) (fun x hx => ha x (by simp [hx])) (h.relB (ha a (by simp)) hb)
theorem ddp_snoc {l : List Int} {x : Int} : ddp (l ++ [x]) = putL (ddp l) x := by simp [ddp,List.foldl_append]
theorem sides_eq {g : List (List Int)} {p : List Txt} {lv : Bool} {L fr : Nat} : ∀ n,(∀ j,fr ≤ j → j < fr + n → sidesG g lv L j = if lv then (cellZ p (L - 1) j,cellZ p L j) else (cellZ p j (L - 1),cellZ p j L)) →
  (ddp (alongG g lv L fr n).1,ddp (alongG g lv L fr n).2) = sidesTo p (kk lv).toNat L fr n
 | 0,_ => by simp [alongG,ddp,sidesTo]
 | n + 1,h => by
  have ih := sides_eq n fun j a b => h j a (by omega)
  have hx := h (fr + n) (by omega) (by omega)
  rw [alongG_succ1,alongG_succ2,ddp_snoc,ddp_snoc,hx]
  unfold sidesTo
  rw [← ih]
  cases lv <;> simp [kk]
theorem sidesOf_eq {g : List (List Int)} {p : List Txt} (hz : ∀ i j,i < p.length → j < (hdRow p).length → gz g i j = cellZ p i j) {w : Wall} (hw : WlOk g p.length (hdRow p).length w) : sidesOf g w = sidesW p (encW w) := by
 obtain ⟨line,fr,long,he,hl,hin⟩ := hw
 obtain ⟨lv,wl,wf,wg⟩ := w
 simp only [Wall.mk.injEq,true_and] at he hin
 obtain ⟨rfl,rfl,rfl⟩ := he
 unfold sidesOf sidesW encW
 simp only [Int.toNat_natCast]
 refine sides_eq long fun j a b => ?_
 obtain ⟨⟨h1,h2⟩,-⟩ := hin j a b
 unfold sidesG
 cases lv with
 | false =>
  simp only [Bool.false_eq_true,if_false] at h2 ⊢
  rw [hz j (line - 1) h2.2 (by omega),hz j line h2.2 h2.1]
 | true =>
  simp only [if_true] at h2 ⊢
  rw [hz (line - 1) j (by omega) h2.2,hz line j h2.1 h2.2]
theorem Same.empty {n : Nat} : Same n (emptyM n) (List.replicate n 0) := by
 refine ⟨emptyM_sq n,by simp,fun a b ha hb => ?_⟩
 simp [getB,emptyM,bitOf,ha,hb]
theorem same_ord {g : List (List Int)} {p : List Txt} {n : Nat} (hz : ∀ i j,i < p.length → j < (hdRow p).length → gz g i j = cellZ p i j) (hrm : RmOk g p.length (hdRow p).length n) : ∀ (ws : List Wall),(∀ w ∈ ws,WlOk g p.length (hdRow p).length w) →
  ∀ {M : List (List Bool) × List (List Bool)} {m0 m1 : List Nat},Same n M.1 m0 → Same n M.2 m1 → Same n (ws.foldl (ordW g) M).1 ((ws.map encW).foldl (justW p 0) m0) ∧ Same n (ws.foldl (ordW g) M).2 ((ws.map encW).foldl (justW p 1) m1)
 | [],_,_,_,_,h0,h1 => ⟨h0,h1⟩
 | w :: ws,hws,M,m0,m1,h0,h1 => by
  have hw := hws w (by simp)
  obtain ⟨hr1,hr2⟩ := sidesOf_rooms hrm hw
  rw [sidesOf_eq hz hw] at hr1 hr2
  rw [List.foldl_cons,List.map_cons,List.foldl_cons,List.foldl_cons]
  refine same_ord hz hrm ws (fun w hw => hws w (by simp [hw])) ?_ ?_
  ·unfold ordW justW
   rw [sidesOf_eq hz hw]
   cases hlv : w.level with
   | false => simpa [encW,kk,hlv] using h0.relW hr2 hr1
   | true => simpa [encW,kk,hlv] using h0
  ·unfold ordW justW
   rw [sidesOf_eq hz hw]
   cases hlv : w.level with
   | false => simpa [encW,kk,hlv] using h1
   | true => simpa [encW,kk,hlv] using h1.relW hr2 hr1
theorem same_all {g : List (List Int)} {p : List Txt} {n : Nat} (hg : gridB p = true) (hn : (l1Rooms p).toNat = n) (hz : ∀ i j,i < p.length → j < (hdRow p).length → gz g i j = cellZ p i j) (hrm : RmOk g p.length (hdRow p).length n) :
  Same n (leftG g p.length (hdRow p).length n) (allS p 0) ∧ Same n (aboveG g p.length (hdRow p).length n) (allS p 1) := by
 obtain ⟨h0,h1⟩ := same_ord hz hrm (wallsG g p.length (hdRow p).length) wallsG_ok (M := (emptyM n,emptyM n)) Same.empty Same.empty
 rw [wallsG_enc hg hz] at h0 h1
 have e : List.replicate n 0 = List.replicate (l1Rooms p).toNat 0 := by rw [hn]
 rw [e] at h0 h1
 exact ⟨h0.close,h1.close⟩
def sN : Nat → (Nat → Nat) → Nat
 | 0,_ => 0
 | n + 1,f => sN n f + f n
theorem sN_congr {f g : Nat → Nat} : ∀ {n : Nat},(∀ i,i < n → f i = g i) → sN n f = sN n g
 | 0,_ => rfl
 | n + 1,h => by rw [sN,sN,sN_congr (n := n) fun i hi => h i (by omega),h n (by omega)]
theorem sN_le {f g : Nat → Nat} : ∀ {n : Nat},(∀ i,i < n → f i ≤ g i) → sN n f ≤ sN n g
 | 0,_ => Nat.le_refl _
 | n + 1,h => by
  have := sN_le (n := n) fun i hi => h i (by omega)
  have := h n (by omega)
  simp only [sN]; omega
theorem sN_eq {f g : Nat → Nat} : ∀ {n : Nat},(∀ i,i < n → f i ≤ g i) → sN n f = sN n g → ∀ i,i < n → f i = g i
 | 0,_,_,i,hi => by omega
 | n + 1,h,e,i,hi => by
  have h1 := sN_le (n := n) fun i hi => h i (by omega)
  have h2 := h n (by omega)
  simp only [sN] at e
  by_cases hin : i = n
  ·subst hin; omega
  ·exact sN_eq (n := n) (fun i hi => h i (by omega)) (by omega) i (by omega)
theorem sN_zero : ∀ n,sN n (fun _ => 0) = 0
 | 0 => rfl
 | n + 1 => by rw [sN,sN_zero n]
theorem sN_one : ∀ n,sN n (fun _ => 1) = n
 | 0 => rfl
 | n + 1 => by rw [sN,sN_one n]
theorem sN_const (c : Nat) : ∀ n,sN n (fun _ => c) = n * c
 | 0 => by simp [sN]
 | n + 1 => by rw [sN,sN_const c n,Nat.succ_mul]
theorem sN_add {f g : Nat → Nat} : ∀ n,sN n (fun i => f i + g i) = sN n f + sN n g
 | 0 => rfl
 | n + 1 => by rw [sN,sN,sN,sN_add n]; omega
theorem sN_swap {f : Nat → Nat → Nat} {m : Nat} : ∀ n,sN n (fun i => sN m (fun j => f i j)) = sN m (fun j => sN n (fun i => f i j))
 | 0 => by simp only [sN]; rw [sN_zero]
 | n + 1 => by
  simp only [sN]
  rw [sN_swap n,sN_add]
theorem sN_mul {f : Nat → Nat} {c : Nat} : ∀ n,sN n (fun i => f i * c) = sN n f * c
 | 0 => by simp [sN]
 | n + 1 => by rw [sN,sN,sN_mul n,Nat.add_mul]
def b1 (b : Bool) : Nat := if b then 1 else 0
def cnt (H W : Nat) (f : Nat → Nat → Bool) : Nat := sN H fun i => sN W fun j => b1 (f i j)
theorem b1_le {a b : Bool} (h : a = true → b = true) : b1 a ≤ b1 b := by
 cases a with
 | false => simp [b1]
 | true => rw [h rfl]; exact Nat.le_refl _
theorem b1_inj {a b : Bool} (h : b1 a = b1 b) : a = b := by cases a <;> cases b <;> simp [b1] at h ⊢
theorem cnt_le {H W : Nat} {f g : Nat → Nat → Bool} (h : ∀ i j,i < H → j < W → f i j = true → g i j = true) : cnt H W f ≤ cnt H W g :=
 sN_le fun i hi => sN_le fun j hj => b1_le (h i j hi hj)
theorem cnt_eq {H W : Nat} {f g : Nat → Nat → Bool} (h : ∀ i j,i < H → j < W → f i j = true → g i j = true) (e : cnt H W f = cnt H W g) : ∀ i j,i < H → j < W → f i j = g i j := by
 intro i j hi hj
 have h1 := sN_eq (n := H) (fun i hi => sN_le fun j hj => b1_le (h i j hi hj)) e i hi
 exact b1_inj (sN_eq (n := W) (fun j hj => b1_le (h i j hi hj)) h1 j hj)
theorem cnt_congr {H W : Nat} {f g : Nat → Nat → Bool} (h : ∀ i j,i < H → j < W → f i j = g i j) : cnt H W f = cnt H W g :=
 sN_congr fun i hi => sN_congr fun j hj => by rw [h i j hi hj]
theorem sN_seg {a k : Nat} : ∀ {n : Nat},a + k ≤ n → sN n (fun i => b1 (decide (a ≤ i) && decide (i < a + k))) = k
 | 0,h => by simp [sN]; omega
 | n + 1,h => by
  rw [sN]
  by_cases hn : a + k ≤ n
  ·rw [sN_seg hn,decide_eq_false (p := n < a + k) (by omega),Bool.and_false]; rfl
  ·have hnk : n + 1 = a + k := by omega
   cases k with
   | zero =>
    have : sN n (fun i => b1 (decide (a ≤ i) && decide (i < a + 0))) = sN n (fun _ => 0) := sN_congr fun i hi => by
     rw [decide_eq_false (p := a ≤ i) (by omega)]; rfl
    rw [this,sN_zero,decide_eq_false (p := a ≤ n) (by omega)]; rfl
   | succ k =>
    have e : sN n (fun i => b1 (decide (a ≤ i) && decide (i < a + (k + 1)))) = sN n (fun i => b1 (decide (a ≤ i) && decide (i < a + k))) := sN_congr fun i hi => by
     congr 2
     apply decide_eq_decide.2; omega
    rw [e,sN_seg (k := k) (by omega),decide_eq_true (p := a ≤ n) (by omega),decide_eq_true (p := n < a + (k + 1)) (by omega)]
    rfl
def inR (t l h w i j : Nat) : Bool := (decide (t ≤ i) && decide (i < t + h)) && (decide (l ≤ j) && decide (j < l + w))
theorem b1_and {a b : Bool} : b1 (a && b) = b1 a * b1 b := by cases a <;> cases b <;> rfl
theorem cnt_rect {H W t l h w : Nat} (h1 : t + h ≤ H) (h2 : l + w ≤ W) : cnt H W (inR t l h w) = h * w := by
 unfold cnt inR
 have e : (fun i => sN W fun j => b1 ((decide (t ≤ i) && decide (i < t + h)) && (decide (l ≤ j) && decide (j < l + w)))) = fun i => b1 (decide (t ≤ i) && decide (i < t + h)) * w := by
  funext i
  have : (fun j => b1 ((decide (t ≤ i) && decide (i < t + h)) && (decide (l ≤ j) && decide (j < l + w)))) = fun j => b1 (decide (l ≤ j) && decide (j < l + w)) * b1 (decide (t ≤ i) && decide (i < t + h)) := by
   funext j; rw [b1_and,Nat.mul_comm]
  rw [this,sN_mul,sN_seg h2,Nat.mul_comm]
 rw [e,sN_mul,sN_seg h1]
theorem cnt_classes {H W n : Nat} {z : Nat → Nat → Nat} (hz : ∀ i j,i < H → j < W → z i j < n) : sN n (fun r => cnt H W fun i j => decide (z i j = r)) = H * W := by
 unfold cnt
 rw [sN_swap]
 have : sN H (fun i => sN n fun r => sN W fun j => b1 (decide (z i j = r))) = sN H (fun _ => W) := sN_congr fun i hi => by
  rw [sN_swap]
  have : sN W (fun j => sN n fun r => b1 (decide (z i j = r))) = sN W (fun _ => 1) := sN_congr fun j hj => by
   have h1 := hz i j hi hj
   have e : sN n (fun r => b1 (decide (z i j = r))) = sN n (fun r => b1 (decide (z i j ≤ r) && decide (r < z i j + 1))) := sN_congr fun r hr => by
    congr 1
    rw [Bool.eq_iff_iff]
    simp only [Bool.and_eq_true,decide_eq_true_eq]
    omega
   rw [e,sN_seg (by omega)]
  rw [this,sN_one]
 rw [this,sN_const]
structure Hull (pr : Nat → Nat → Prop) (t l lo ri : Int) : Prop where
 inn : ∀ a b,pr a b → t ≤ a ∧ (a : Int) ≤ lo ∧ l ≤ b ∧ (b : Int) ≤ ri
 at_ : ∃ a b : Nat,pr a b ∧ (a : Int) = t
 al : ∃ a b : Nat,pr a b ∧ (b : Int) = l
 ao : ∃ a b : Nat,pr a b ∧ (a : Int) = lo
 ar : ∃ a b : Nat,pr a b ∧ (b : Int) = ri
theorem Hull.uniq {pr : Nat → Nat → Prop} {t l lo ri t' l' lo' ri' : Int} (h : Hull pr t l lo ri) (k : Hull pr t' l' lo' ri') : t = t' ∧ l = l' ∧ lo = lo' ∧ ri = ri' := by
 obtain ⟨a1,b1,p1,e1⟩ := h.at_
 obtain ⟨a2,b2,p2,e2⟩ := h.al
 obtain ⟨a3,b3,p3,e3⟩ := h.ao
 obtain ⟨a4,b4,p4,e4⟩ := h.ar
 obtain ⟨a5,b5,p5,e5⟩ := k.at_
 obtain ⟨a6,b6,p6,e6⟩ := k.al
 obtain ⟨a7,b7,p7,e7⟩ := k.ao
 obtain ⟨a8,b8,p8,e8⟩ := k.ar
 have q1 := k.inn _ _ p1
 have q2 := k.inn _ _ p2
 have q3 := k.inn _ _ p3
 have q4 := k.inn _ _ p4
 have q5 := h.inn _ _ p5
 have q6 := h.inn _ _ p6
 have q7 := h.inn _ _ p7
 have q8 := h.inn _ _ p8
 omega
theorem Hull.congr {pr pr' : Nat → Nat → Prop} {t l lo ri : Int} (h : Hull pr t l lo ri) (e : ∀ a b,pr a b ↔ pr' a b) : Hull pr' t l lo ri := by
 have : pr = pr' := by funext a b; exact propext (e a b)
 exact this ▸ h
theorem Hull.add {pr : Nat → Nat → Prop} {t l lo ri : Int} (h : Hull pr t l lo ri) (i j : Nat) : Hull (fun a b => pr a b ∨ (a = i ∧ b = j)) (min t i) (min l j) (max lo i) (max ri j) := by
 refine ⟨?_,?_,?_,?_,?_⟩
 ·rintro a b (p | ⟨rfl,rfl⟩)
  ·have := h.inn a b p; omega
  ·omega
 ·by_cases e : t ≤ i
  ·obtain ⟨a,b,p,q⟩ := h.at_; exact ⟨a,b,.inl p,by omega⟩
  ·exact ⟨i,j,.inr ⟨rfl,rfl⟩,by omega⟩
 ·by_cases e : l ≤ j
  ·obtain ⟨a,b,p,q⟩ := h.al; exact ⟨a,b,.inl p,by omega⟩
  ·exact ⟨i,j,.inr ⟨rfl,rfl⟩,by omega⟩
 ·by_cases e : (i : Int) ≤ lo
  ·obtain ⟨a,b,p,q⟩ := h.ao; exact ⟨a,b,.inl p,by omega⟩
  ·exact ⟨i,j,.inr ⟨rfl,rfl⟩,by omega⟩
 ·by_cases e : (j : Int) ≤ ri
  ·obtain ⟨a,b,p,q⟩ := h.ar; exact ⟨a,b,.inl p,by omega⟩
  ·exact ⟨i,j,.inr ⟨rfl,rfl⟩,by omega⟩
theorem Hull.one {pr : Nat → Nat → Prop} (h : ∀ a b,¬ pr a b) (i j : Nat) : Hull (fun a b => pr a b ∨ (a = i ∧ b = j)) i j i j := by
 refine ⟨?_,⟨i,j,.inr ⟨rfl,rfl⟩,rfl⟩,⟨i,j,.inr ⟨rfl,rfl⟩,rfl⟩,⟨i,j,.inr ⟨rfl,rfl⟩,rfl⟩,⟨i,j,.inr ⟨rfl,rfl⟩,rfl⟩⟩
 rintro a b (p | ⟨rfl,rfl⟩)
 ·exact absurd p (h a b)
 ·omega
def Gone (W i j a b : Nat) : Prop := b < W ∧ (a < i ∨ (a = i ∧ b < j))
theorem gone_succ {W i j a b : Nat} (hj : j < W) : Gone W i (j + 1) a b ↔ Gone W i j a b ∨ (a = i ∧ b = j) := by unfold Gone; omega
theorem gone_row {W i a b : Nat} : Gone W i W a b ↔ Gone W (i + 1) 0 a b := by unfold Gone; omega
def Val (z : Nat → Nat → Int) (W i j : Nat) (v : Int) (a b : Nat) : Prop := z a b = v ∧ Gone W i j a b
theorem val_hit {z : Nat → Nat → Int} {W i j : Nat} {v : Int} (hj : j < W) (h : z i j = v) (a b : Nat) : (Val z W i j v a b ∨ (a = i ∧ b = j)) ↔ Val z W i (j + 1) v a b := by
 unfold Val
 rw [gone_succ hj]
 constructor
 ·rintro (⟨h1,h2⟩ | ⟨rfl,rfl⟩)
  ·exact ⟨h1,.inl h2⟩
  ·exact ⟨h,.inr ⟨rfl,rfl⟩⟩
 ·rintro ⟨h1,h2 | h2⟩
  ·exact .inl ⟨h1,h2⟩
  ·exact .inr h2
theorem val_miss {z : Nat → Nat → Int} {W i j : Nat} {v : Int} (hj : j < W) (h : z i j ≠ v) (a b : Nat) : Val z W i j v a b ↔ Val z W i (j + 1) v a b := by
 unfold Val
 rw [gone_succ hj]
 constructor
 ·rintro ⟨h1,h2⟩; exact ⟨h1,.inl h2⟩
 ·rintro ⟨h1,h2 | ⟨rfl,rfl⟩⟩
  ·exact ⟨h1,h2⟩
  ·exact absurd h1 h
theorem val_row {z : Nat → Nat → Int} {W i : Nat} {v : Int} (a b : Nat) : Val z W i W v a b ↔ Val z W (i + 1) 0 v a b := by unfold Val; rw [gone_row]
def HullR (pr : Nat → Nat → Prop) (b : Rect) : Prop := Hull pr b.row b.col (b.row + b.high - 1) (b.col + b.wide - 1)
theorem HullR.both {pr : Nat → Nat → Prop} {b : Rect} (h : HullR pr b) (i j : Nat) : HullR (fun a c => pr a c ∨ (a = i ∧ c = j)) (b.both (oneR i j)) := by
 have := Hull.add h i j
 unfold HullR Rect.both oneR
 simp only
 rw [show min b.row (i : Int) + (max (b.row + b.high) ((i : Int) + 1) - min b.row (i : Int)) - 1 = max (b.row + b.high - 1) i by omega,show min b.col (j : Int) + (max (b.col + b.wide) ((j : Int) + 1) - min b.col (j : Int)) - 1 = max (b.col + b.wide - 1) j by omega]
 exact this
theorem one_both {i j : Nat} : (oneR i j).both (oneR i j) = oneR i j := by
 unfold Rect.both oneR
 simp only [Rect.mk.injEq]
 omega
theorem HullR.one {pr : Nat → Nat → Prop} (h : ∀ a b,¬ pr a b) (i j : Nat) : HullR (fun a b => pr a b ∨ (a = i ∧ b = j)) (oneR i j) := by
 have := Hull.one h i j
 unfold HullR oneR
 simp only
 rw [show (i : Int) + 1 - 1 = i by omega,show (j : Int) + 1 - 1 = j by omega]
 exact this
theorem HullR.congr {pr pr' : Nat → Nat → Prop} {b : Rect} (h : HullR pr b) (e : ∀ a c,pr a c ↔ pr' a c) : HullR pr' b := Hull.congr h e
structure SeInv (z : Nat → Nat → Int) (W i j : Nat) (ks : List Int) (rs : List Rect) : Prop where
 nd : ks.Nodup
 len : rs.length = ks.length
 mem : ∀ a b,Gone W i j a b → z a b ∈ ks
 hull : ∀ (m : Nat) v b,ks[m]? = some v → rs[m]? = some b → HullR (Val z W i j v) b
theorem nodup_one {l : List Int} (h : l.Nodup) {a b : Nat} {v : Int} (ha : l[a]? = some v) (hb : l[b]? = some v) : a = b := by
 obtain ⟨p1,q1⟩ := List.getElem?_eq_some_iff.1 ha
 obtain ⟨p2,q2⟩ := List.getElem?_eq_some_iff.1 hb
 have := List.pairwise_iff_getElem.1 h
 rcases Nat.lt_trichotomy a b with hlt | heq | hgt
 ·exact absurd (q1.trans q2.symm) (this a b p1 p2 hlt)
 ·exact heq
 ·exact absurd (q2.trans q1.symm) (this b a p2 p1 hgt)
theorem idxOf_mem {ks : List Int} {z : Int} (h : ¬ ks.idxOf z = ks.length) : ks[ks.idxOf z]? = some z := by
 have hl := idxOf_le (ks := ks) (z := z)
 have : z ∈ ks := by rw [← List.idxOf_lt_length_iff]; omega
 rw [List.getElem?_eq_getElem (List.idxOf_lt_length_iff.2 this),List.getElem_idxOf]
theorem idxOf_not {ks : List Int} {z : Int} (h : ks.idxOf z = ks.length) : z ∉ ks := by
 intro hm
 have := List.idxOf_lt_length_iff.2 hm
 omega
theorem SeInv.step {z : Nat → Nat → Int} {W i j : Nat} {ks : List Int} {rs : List Rect} (h : SeInv z W i j ks rs) (hj : j < W) : SeInv z W i (j + 1) (seKs ks (z i j)) (seRs ks rs (z i j) (oneR i j)) := by
 have hlen := h.len
 by_cases hin : ks.idxOf (z i j) = ks.length
 ·have hnm := idxOf_not hin
  have e1 : seKs ks (z i j) = ks ++ [z i j] := by simp [seKs,hin]
  have e2 : seRs ks rs (z i j) (oneR i j) = rs ++ [oneR i j] := by
   unfold seRs seIn
   rw [if_pos hin,hin,← hlen,List.getD_eq_getElem?_getD]
   simp [one_both]
  rw [e1,e2]
  refine ⟨?_,by simp [hlen],?_,?_⟩
  ·rw [List.nodup_append]
   refine ⟨h.nd,by simp,?_⟩
   intro a ha b hb
   rw [List.mem_singleton] at hb
   rintro rfl
   exact hnm (hb ▸ ha)
  ·intro a b hab
   rw [gone_succ hj] at hab
   rcases hab with hab | ⟨rfl,rfl⟩
   ·exact List.mem_append_left _ (h.mem a b hab)
   ·simp
  ·intro m v b hm hb
   by_cases hml : m < ks.length
   ·rw [List.getElem?_append_left hml] at hm
    rw [List.getElem?_append_left (by omega)] at hb
    have hv : z i j ≠ v := fun e => hnm (e ▸ List.mem_of_getElem? hm)
    exact (h.hull m v b hm hb).congr (val_miss hj hv)
   ·have hml2 := len_of hm
    simp only [List.length_append,List.length_singleton] at hml2
    obtain rfl : m = ks.length := by omega
    rw [List.getElem?_append_right (Nat.le_refl _),Nat.sub_self] at hm
    rw [← hlen,List.getElem?_append_right (Nat.le_refl _),Nat.sub_self] at hb
    simp only [List.getElem?_cons_zero,Option.some.injEq] at hm hb
    subst hm hb
    exact (HullR.one (pr := Val z W i j (z i j)) (fun a b hab => hnm (hab.1 ▸ h.mem a b hab.2)) i j).congr (val_hit hj rfl)
 ·have hk := idxOf_mem hin
  have hkl := len_of hk
  have e1 : seKs ks (z i j) = ks := by simp [seKs,hin]
  obtain ⟨b0,hb0,-⟩ := get_of (show ks.idxOf (z i j) < rs.length by omega)
  have e2 : seRs ks rs (z i j) (oneR i j) = rs.set (ks.idxOf (z i j)) (b0.both (oneR i j)) := by
   unfold seRs seIn
   rw [if_neg hin,List.getD_eq_getElem?_getD,hb0]; rfl
  rw [e1,e2]
  refine ⟨h.nd,by simp [hlen],?_,?_⟩
  ·intro a b hab
   rw [gone_succ hj] at hab
   rcases hab with hab | ⟨rfl,rfl⟩
   ·exact h.mem a b hab
   ·exact List.mem_of_getElem? hk
  ·intro m v b hm hb
   rw [List.getElem?_set] at hb
   by_cases e : ks.idxOf (z i j) = m
   ·subst e
    rw [if_pos rfl,if_pos (by omega)] at hb
    cases hb
    rw [hk] at hm
    cases hm
    exact ((h.hull _ _ _ hk hb0).both i j).congr (val_hit hj rfl)
   ·rw [if_neg e] at hb
    have hv : z i j ≠ v := by
     rintro rfl
     exact e (nodup_one h.nd hk hm)
    exact (h.hull m v b hm hb).congr (val_miss hj hv)
theorem SeInv.nil {z : Nat → Nat → Int} {W : Nat} : SeInv z W 0 0 [] [] := by
 refine ⟨by simp,rfl,?_,by simp⟩
 intro a b h
 unfold Gone at h; omega
theorem SeInv.row {g : List (List Int)} {W i : Nat} {s : List Int × List Rect} (h : SeInv (gz g) W i 0 s.1 s.2) : ∀ j,j ≤ W → SeInv (gz g) W i j (seRow g i s j).1 (seRow g i s j).2
 | 0,_ => h
 | j + 1,hj => (SeInv.row h j (by omega)).step (by omega)
theorem SeInv.rows {g : List (List Int)} {W : Nat} : ∀ i,SeInv (gz g) W i 0 (seRows g W i).1 (seRows g W i).2
 | 0 => SeInv.nil
 | i + 1 => by
  have h := (SeInv.rows (g := g) (W := W) i).row W (Nat.le_refl _)
  refine ⟨h.nd,h.len,fun a b hab => h.mem a b (gone_row.2 hab),fun m v b hm hb => (h.hull m v b hm hb).congr (fun a c => val_row a c)⟩
theorem seRow_pre {g : List (List Int)} {i : Nat} {s : List Int × List Rect} : ∀ {j k : Nat},j ≤ k → ∃ r,(seRow g i s k).1 = (seRow g i s j).1 ++ r
 | j,0,h => by
  have hj : j = 0 := by omega
  subst hj; exact ⟨[],by simp⟩
 | j,k + 1,h => by
  by_cases e : j = k + 1
  ·subst e; exact ⟨[],by simp⟩
  ·obtain ⟨r,hr⟩ := seRow_pre (g := g) (i := i) (s := s) (show j ≤ k by omega)
   simp only [seRow,seKs]
   split
   ·exact ⟨r ++ [gz g i k],by rw [hr,List.append_assoc]⟩
   ·exact ⟨r,hr⟩
theorem seRows_pre {g : List (List Int)} {W : Nat} : ∀ {i k : Nat},i ≤ k → ∃ r,(seRows g W k).1 = (seRows g W i).1 ++ r
 | i,0,h => by
  have hi : i = 0 := by omega
  subst hi; exact ⟨[],by simp⟩
 | i,k + 1,h => by
  by_cases e : i = k + 1
  ·subst e; exact ⟨[],by simp⟩
  ·obtain ⟨r,hr⟩ := seRows_pre (g := g) (W := W) (show i ≤ k by omega)
   obtain ⟨r2,hr2⟩ := seRow_pre (g := g) (i := k) (s := seRows g W k) (Nat.zero_le W)
   simp only [seRows]
   refine ⟨r ++ r2,?_⟩
   rw [hr2,← List.append_assoc,← hr]; rfl
theorem idxOf_app {l r : List Int} {x : Int} (h : ¬ l.idxOf x = l.length) : (l ++ r).idxOf x = l.idxOf x := by
 have hl := idxOf_le (ks := l) (z := x)
 have hm : x ∈ l := by rw [← List.idxOf_lt_length_iff]; omega
 rw [List.idxOf_append,if_pos hm]
theorem idxOf_new {l r : List Int} {x : Int} (h : l.idxOf x = l.length) : (l ++ [x] ++ r).idxOf x = l.length := by
 have hm : x ∉ l := idxOf_not h
 rw [List.append_assoc,List.idxOf_append,if_neg hm]
 simp
theorem zNum {g : List (List Int)} {W nh i j : Nat} (hi : i < nh) (hj : j < W) : ((seRow g i (seRows g W i) j).1.idxOf (gz g i j)) = (seRows g W nh).1.idxOf (gz g i j) := by
 obtain ⟨r,hr⟩ := seRows_pre (g := g) (W := W) (show i + 1 ≤ nh by omega)
 obtain ⟨r2,hr2⟩ := seRow_pre (g := g) (i := i) (s := seRows g W i) (show j + 1 ≤ W by omega)
 have e : (seRows g W nh).1 = seKs (seRow g i (seRows g W i) j).1 (gz g i j) ++ (r2 ++ r) := by
  rw [hr,← List.append_assoc]
  congr 1
 rw [e]
 generalize (seRow g i (seRows g W i) j).1 = ks
 unfold seKs
 by_cases hin : ks.idxOf (gz g i j) = ks.length
 ·rw [if_pos hin,idxOf_new hin,hin]
 ·rw [if_neg hin,idxOf_app hin]
def inZ (p : List Txt) (r : Int) (i j : Nat) : Bool := decide (cellZ p i j = r)
theorem inRoom_is {p : List Txt} {i k : Nat} {row : Txt} {c : UInt8} {r : Int} (h : p[i]? = some row) (hc : row[k]? = some c) : inRoom r c = inZ p r i k := by
 unfold inRoom inZ; rw [cellZ_is h hc]
theorem cellsRow_cnt {p : List Txt} {i : Nat} {row : Txt} {r : Int} (h : p[i]? = some row) (n : Int) : ∀ k,k ≤ row.length → cellsRow r n (row.take k) = n + sN k fun j => b1 (inZ p r i j)
 | 0,_ => by simp [cellsRow,sN]
 | k + 1,hk => by
  obtain ⟨c,hc,-⟩ := get_of (show k < row.length by omega)
  have ih := cellsRow_cnt (r := r) h n k (by omega)
  unfold cellsRow at ih ⊢
  rw [foldl_tk hc,ih,sN,inRoom_is h hc]
  cases inZ p r i k <;> simp [b1]
  omega
theorem l1Cells_cnt {p : List Txt} {W : Nat} (hW : ∀ row ∈ p,row.length = W) {r : Int} : ∀ i,i ≤ p.length → (p.take i).foldl (cellsRow r) 0 = ((sN i fun i => sN W fun j => b1 (inZ p r i j) : Nat) : Int)
 | 0,_ => by simp [sN]
 | i + 1,hi => by
  obtain ⟨row,hr,hm⟩ := get_of (show i < p.length by omega)
  have ih := l1Cells_cnt hW (r := r) i (by omega)
  have hl := hW row hm
  have := cellsRow_cnt (r := r) hr (((sN i fun i => sN W fun j => b1 (inZ p r i j) : Nat) : Int)) W (by omega)
  rw [List.take_of_length_le (by omega)] at this
  rw [foldl_tk hr,ih,this,sN]
  simp
theorem l1Cells_is {p : List Txt} {W : Nat} (hW : ∀ row ∈ p,row.length = W) {r : Int} : l1Cells p r = ((cnt p.length W (inZ p r) : Nat) : Int) := by
 have := l1Cells_cnt hW (r := r) p.length (Nat.le_refl _)
 rwa [List.take_length] at this
def BoxInv (H W : Nat) (pr : Nat → Nat → Prop) (b : Box) : Prop := ((∀ a c,¬ pr a c) ∧ b = ⟨H,W,-1,-1⟩) ∨ Hull pr b.top b.left b.low b.right
theorem BoxInv.congr {H W : Nat} {pr pr' : Nat → Nat → Prop} {b : Box} (h : BoxInv H W pr b) (e : ∀ a c,pr a c ↔ pr' a c) : BoxInv H W pr' b := by
 have : pr = pr' := by funext a b; exact propext (e a b)
 exact this ▸ h
theorem BoxInv.add {H W : Nat} {pr : Nat → Nat → Prop} {b : Box} (h : BoxInv H W pr b) {i k : Nat} (hi : i < H) (hk : k < W) : BoxInv H W (fun a c => pr a c ∨ (a = i ∧ c = k)) ⟨min b.top i,min b.left k,max b.low i,max b.right k⟩ := by
 rcases h with ⟨h1,rfl⟩ | h
 ·right
  have := Hull.one h1 i k
  simp only
  rw [show min (H : Int) i = i by omega,show min (W : Int) k = k by omega,show max (-1 : Int) i = i by omega,show max (-1 : Int) k = k by omega]
  exact this
 ·exact .inr (Hull.add h i k)
theorem rowTo_inv {p : List Txt} {H W i : Nat} {row : Txt} {r : Int} (hr : p[i]? = some row) (hW : row.length = W) (hi : i < H) {b : Box} (h : BoxInv H W (Val (cellZ p) W i 0 r) b) : ∀ k,k ≤ W → BoxInv H W (Val (cellZ p) W i k r) (rowTo r i b row k)
 | 0,_ => by simpa [rowTo] using h
 | k + 1,hk => by
  obtain ⟨c,hc,-⟩ := get_of (show k < row.length by omega)
  have ih := rowTo_inv hr hW hi h k (by omega)
  rw [rowTo_succ hc]
  unfold boxCell
  simp only
  rw [inRoom_is hr hc]
  by_cases e : cellZ p i k = r
  ·rw [if_pos (by unfold inZ; exact decide_eq_true e)]
   exact (ih.add hi (by omega)).congr (val_hit (by omega) e)
  ·rw [if_neg (by unfold inZ; rw [decide_eq_false e]; exact Bool.false_ne_true)]
   exact ih.congr (val_miss (by omega) e)
theorem boxTo_inv {p : List Txt} {W : Nat} (hW : ∀ row ∈ p,row.length = W) (hh : (hdRow p).length = W) {r : Int} : ∀ i,i ≤ p.length → BoxInv p.length W (Val (cellZ p) W i 0 r) (boxTo p r i)
 | 0,_ => by
  left
  refine ⟨fun a c h => ?_,by simp [boxTo,hh]⟩
  have := h.2
  unfold Gone at this; omega
 | i + 1,hi => by
  obtain ⟨row,hr,hm⟩ := get_of (show i < p.length by omega)
  rw [boxTo_succ hr]
  have := rowTo_inv (r := r) hr (hW row hm) (by omega) (boxTo_inv hW hh i (by omega)) W (Nat.le_refl _)
  rw [hW row hm]
  exact this.congr fun a c => val_row a c
theorem boxOf_inv {p : List Txt} {W : Nat} (hW : ∀ row ∈ p,row.length = W) (hh : (hdRow p).length = W) {r : Int} : BoxInv p.length W (Val (cellZ p) W p.length 0 r) (boxOf p r) := by
 rw [← boxTo_all]; exact boxTo_inv hW hh p.length (Nat.le_refl _)
theorem Hull.nat {z : Nat → Nat → Int} {H W : Nat} {v : Int} {t l lo ri : Int} (h : Hull (Val z W H 0 v) t l lo ri) : ∃ t' l' h' w' : Nat,t = t' ∧ l = l' ∧ lo = t' + h' - 1 ∧ ri = l' + w' - 1 ∧ 1 ≤ h' ∧ 1 ≤ w' ∧ t' + h' ≤ H ∧ l' + w' ≤ W ∧
  ∀ i j,i < H → j < W → z i j = v → inR t' l' h' w' i j = true := by
 obtain ⟨a1,b1,p1,e1⟩ := h.at_
 obtain ⟨a2,b2,p2,e2⟩ := h.al
 obtain ⟨a3,b3,p3,e3⟩ := h.ao
 obtain ⟨a4,b4,p4,e4⟩ := h.ar
 have q1 := h.inn _ _ p1
 have q2 := h.inn _ _ p2
 obtain ⟨-,g3,g3'⟩ := p3
 obtain ⟨-,g4,g4'⟩ := p4
 refine ⟨a1,b2,a3 + 1 - a1,b4 + 1 - b2,e1.symm,e2.symm,by omega,by omega,by omega,by omega,by omega,by omega,fun i j hi hj hv => ?_⟩
 have := h.inn i j ⟨hv,by unfold Gone; omega⟩
 unfold inR
 simp only [Bool.and_eq_true,decide_eq_true_eq]
 omega
def u8I (c : UInt8) : Int := (c.toNat : Int)
theorem u8I_inj {a b : UInt8} (h : u8I a = u8I b) : a = b := by
 unfold u8I at h
 exact UInt8.toNat_inj.1 (by omega)
theorem idxOf_map {α β : Type} [DecidableEq α] [DecidableEq β] {f : α → β} (hf : ∀ a b,f a = f b → a = b) {c : α} : ∀ (l : List α),(l.map f).idxOf (f c) = l.idxOf c
 | [] => rfl
 | a :: l => by
  rw [List.map_cons,List.idxOf_cons,List.idxOf_cons,idxOf_map hf l]
  by_cases e : a = c
  ·subst e; simp
  ·have e2 : f a ≠ f c := fun h => e (hf _ _ h)
   rw [show (f a == f c) = false by simpa using e2,show (a == c) = false by simpa using e]
theorem gz_read {p : List Txt} {i k : Nat} {row : Txt} {c : UInt8} (h : p[i]? = some row) (hc : row[k]? = some c) : gz (readG p) i k = u8I c := by
 simp [gz,readG,rowZ,h,hc,u8I]
theorem nameRow_is {p : List Txt} {i : Nat} {row : Txt} (h : p[i]? = some row) {o : List UInt8} {s : List Int × List Rect} (ho : o.map u8I = s.1) : ∀ j,j ≤ row.length →
  ((row.take j).foldl nameStep (o,[])).1.map u8I = (seRow (readG p) i s j).1 ∧ ((row.take j).foldl nameStep (o,[])).2 = rowT (zRow (readG p) i s j)
 | 0,_ => ⟨by simpa [seRow] using ho,by simp [zRow,rowT]⟩
 | j + 1,hj => by
  obtain ⟨c,hc,-⟩ := get_of (show j < row.length by omega)
  obtain ⟨h1,h2⟩ := nameRow_is h ho j (by omega)
  rw [foldl_tk hc]
  generalize (row.take j).foldl nameStep (o,[]) = q at h1 h2 ⊢
  have hz := gz_read h hc
  have hi : (seRow (readG p) i s j).1.idxOf (gz (readG p) i j) = q.1.idxOf c := by rw [← h1,hz,idxOf_map fun a b => u8I_inj]
  have hl : (seRow (readG p) i s j).1.length = q.1.length := by rw [← h1,List.length_map]
  constructor
  ·simp only [nameStep,seRow,seKs]
   rw [hi,hl]
   split
   ·rw [List.map_append,h1,hz]; rfl
   ·exact h1
  ·simp only [nameStep,zRow]
   rw [hi,h2]
   simp [rowT,letZ]
theorem names_to {p : List Txt} {W : Nat} (hW : ∀ row ∈ p,row.length = W) : ∀ i,i ≤ p.length →
  ((p.take i).foldl nameGo ([],[])).1.map u8I = (seRows (readG p) W i).1 ∧ ((p.take i).foldl nameGo ([],[])).2 = textG (zRows (readG p) W i)
 | 0,_ => by simp [seRows,zRows,textG]
 | i + 1,hi => by
  obtain ⟨row,hr,hm⟩ := get_of (show i < p.length by omega)
  obtain ⟨h1,h2⟩ := names_to hW i (by omega)
  rw [foldl_tk hr]
  generalize (p.take i).foldl nameGo ([],[]) = q at h1 h2 ⊢
  have hl := hW row hm
  obtain ⟨k1,k2⟩ := nameRow_is hr h1 row.length (Nat.le_refl _)
  rw [List.take_length,hl] at k1 k2
  constructor
  ·simp only [nameGo,nameRow,seRows]; exact k1
  ·simp only [nameGo,nameRow,zRows,textG,List.map_append,List.map_cons,List.map_nil]
   rw [k2,h2]
   rfl
theorem w0_read {p : List Txt} : w0 (readG p) = (hdRow p).length := by
 cases p with
 | nil => rfl
 | cons a p => simp [w0,readG,rowZ,hdRow]
theorem grid_rows {p : List Txt} (hg : gridB p = true) : ∀ row ∈ p,row.length = (hdRow p).length := by
 intro row hm
 obtain ⟨i,hi⟩ := List.getElem?_of_mem hm
 exact grid_row hg hi
theorem names_text {p : List Txt} (hg : gridB p = true) : names p = textG (gP p) := by
 have := (names_to (grid_rows hg) p.length (Nat.le_refl _)).2
 rw [List.take_length] at this
 unfold names namesAll gP zG
 rw [this,w0_read,readG_len]
theorem grid_iff {p : List Txt} : gridB p = (lettersB p && okG (readG p)) := by
 rw [Bool.eq_iff_iff,Bool.and_eq_true,okG_iff,readG_len,w0_read]
 unfold gridB lettersB GW rowB
 simp only [Bool.and_eq_true,decide_eq_true_eq,List.all_eq_true,readG_len,true_and]
 constructor
 ·rintro ⟨⟨h1,h2⟩,h3⟩
  obtain ⟨row0,hr0,hm0⟩ := get_of (show 0 < p.length by omega)
  have hh := hdRow_of hr0
  have h4 := h1 row0 hm0
  refine ⟨fun r hr => (h1 r hr).2,fun r hr => ?_,h2,h3,by rw [hh]; omega,by rw [hh]; omega⟩
  obtain ⟨t,ht,rfl⟩ := List.mem_map.1 hr
  rw [rowZ_len]; exact (h1 t ht).1.1.1
 ·rintro ⟨h1,h2,h3,h4,h5,h6⟩
  refine ⟨⟨fun r hr => ?_,h3⟩,h4⟩
  have := h2 (rowZ r) (List.mem_map.2 ⟨r,hr,rfl⟩)
  rw [rowZ_len] at this
  exact ⟨⟨⟨this,by omega⟩,by omega⟩,h1 r hr⟩
end Fw
end Go.Proofs.YtjobkanbijpfgaaGreat
