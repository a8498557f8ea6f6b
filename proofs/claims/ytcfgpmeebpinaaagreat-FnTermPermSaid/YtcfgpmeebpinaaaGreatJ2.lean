/- Parts of the framework and of the proof: Walls of the program, gone through; Lists without neighbours that are the same; the program's relations in plain words; Compact and the sides of walls of the program, gone through; Relations of rooms in plain words, and in the store; Relations, gone through; The program's orders in plain words; Orders of the program, gone through; Heaviest sums in plain words; Numbers put in order by putting one after the other in; Sort, gone through; How many rooms meet at the points of a grid of the program; Points of the program, gone through; The text of a grid; strings.Builder: copyCheck and String, in the model's own words; The text of a plan of the program, gone through; How the program numbers rooms and finds the rectangles around them; The numbering of rooms by the program, gone through; The numbering of all rooms of a grid; Grids of the program, gone through; A plan of a grid, as the program finds it; Plans of the program, gone through; Plans that are read, in plain words; Reading plans, gone through; The two closures of relations are the same; The heaviest sums and the least sizes are the same; The program's walls and orders are the specification's. -/
import Derived.Test.YtcfgpmeebpinaaaGreatJ1
import Derived.Lib.Builder
import Derived.Lib.UnsafeStr
import Derived.Lib.Walk
import Derived.WalkKit
import Derived.Laws.Externs
set_option linter.all false
namespace Go.Proofs.YtcfgpmeebpinaaaGreat
namespace Fw
open Go
open Nat renaming reduceEqDiff → qE, reduceLeDiff → qL, reduceAdd → qA, reduceMul → qM, le_refl → qR
open List renaming append_nil → qN, mapM_append → qP, mapM_cons → qC, mapM_map → qU, range_succ → qS, take_of_length_le → qT
open Bool renaming and_eq_true → qB, false_eq_true → qF
open Option renaming map_some → qO, map_eq_some_iff → qI
open Int renaming reduceToNat → qZ
theorem zz8 {g:List (List Int)} {nh nw:Nat} (hg:GW g nh nw) (rs:List Rect) {level:Bool} {line at_:Nat} (hi:InL nh nw level line at_):PC Tryz.prog 147 [zat g rs,.bool level,.int .i64 line,.int .i64 at_] (.tup [.int .i64 (zb7 g level line at_).1,.int .i64 (zb7 g level line at_).2]) true:=by
 have hl:=hg.1
 obtain ⟨hi1,hi2⟩:=hi
 have hb:line≤6∧at_≤6:=by have:=hg.2.2; cases level <;> simp at hi2 <;> omega
 refine PC.of ⟨Tryz.func147,by kernel_rfl,rfl,by kernel_rfl⟩ zao mixed (by show 4≤Tryz.f147.ntmps; decide) ?_
 refine W.r fun K hK=>?_
 simp(disch:=omega)only[↓RU,RV,RH,↓reduceIte,qE,reduceCtorEq,if_pos,↓RS,RG,qA,qM,qL]
 apply hK;clear hK K
 refine W.seq ?_
 refine W.r fun K hK=>?_
 simp(disch:=omega)only[↓RU,RV,RH,↓reduceIte,qE,reduceCtorEq,if_pos,↓RS,RG,qA,qM,qL]
 apply hK;clear hK K
 refine W.cond rfl (fun h0=>?_) (fun h0=>?_)
 ·try simp only[RL]at h0
  subst h0
  simp only[if_true]at hi2
  obtain ⟨r1,hr1,hl1,hx1⟩:=hg.at_ (i:=line - 1) (j:=at_) (by omega) hi2.2
  obtain ⟨r2,hr2,hl2,hx2⟩:=hg.at_ (i:=line) (j:=at_) hi2.1 hi2.2
  refine W.seq_draw (by kernel_rfl) fun K hK=>?_
  simp(disch:=omega)only[↓RU,RV,RH,↓reduceIte,qE,reduceCtorEq,if_pos,w64,↓RS,RG,qA,qM,qL,ty1,ty5,zab,zc9,zb0,zct,zaa,zda,zcu,hr1,hx1,hr2,hx2,zc1]
  apply hK;clear hK K
  refine W.ret ?_
  refine XThen.ret ?_
  refine Br rfl ?_
  rfl
 try simp only[RL]at h0
 subst h0
 simp only[qF,if_false]at hi2
 obtain ⟨r1,hr1,hl1,hx1⟩:=hg.at_ (i:=at_) (j:=line - 1) hi2.2 (by omega)
 obtain ⟨r2,hr2,hl2,hx2⟩:=hg.at_ (i:=at_) (j:=line) hi2.2 hi2.1
 obtain rfl:r1=r2:=by rw [hr1]at hr2; exact Option.some.inj hr2
 refine W.skip ?_
 refine xn ?_
 refine W.seq_draw (by kernel_rfl) fun K hK=>?_
 simp(disch:=omega)only[↓RU,RV,RH,↓reduceIte,qE,reduceCtorEq,if_pos,w64,↓RS,RG,qA,qM,qL,ty1,ty5,zab,zc9,zb0,zct,zaa,zda,zcu,hr1,hx1,hr2,hx2,zc1]
 apply hK;clear hK K
 refine W.ret ?_
 refine Br rfl ?_
 rfl
theorem z3a {g:List (List Int)} {nh nw:Nat} (hg:GW g nh nw) (rs:List Rect) {level:Bool} {line at_:Nat} (hi:InL nh nw level line at_):PC Tryz.prog 146 [zat g rs,.bool level,.int .i64 line,.int .i64 at_] (.bool (znh g level line at_)) true:=by
 refine PC.of ⟨Tryz.func146,by kernel_rfl,rfl,by kernel_rfl⟩ zao mixed (by show 4≤Tryz.f146.ntmps; decide) ?_
 refine W.r fun K hK=>?_
 simp(disch:=omega)only[↓RU,RV,RH,↓reduceIte,qE,reduceCtorEq,if_pos]
 apply hK;clear hK K
 refine W.r fun K hK=>?_
 simp(disch:=omega)only[↓RU,RV,RH,↓reduceIte,qE,reduceCtorEq,if_pos,qN]
 refine zac.pc (zz8 hg rs hi) rfl (.inl rfl) ?_
 simp(disch:=omega)only[↓RU,RV,RH,↓reduceIte,qE,reduceCtorEq,if_pos,qN]
 apply hK;clear hK K
 refine W.r fun K hK=>?_
 simp(disch:=omega)only[↓RU,RV,RH,↓reduceIte,qE,reduceCtorEq,if_pos,w64,zaa]
 apply hK;clear hK K
 refine W.ret ?_
 refine Br rfl ?_
 rw [show znh g level line at_=((zb7 g level line at_).1 != (zb7 g level line at_).2) by rw [z2t,znh]; simp]
 rfl
theorem z86 {g:List (List Int)} {nh nw:Nat} (hg:GW g nh nw) (rs:List Rect):PC Tryz.prog 127 [zat g rs] (zqc (zb8 g nh nw)) true:=by
 have hl:=hg.1
 obtain ⟨hg1,hg2,hg3,hg4⟩:=hg.2.2
 obtain ⟨row0,hrow0,hrl0,-⟩:=hg.at_ (i:=0) (j:=0) (by omega) (by omega)
 refine PC.of ⟨Tryz.func127,by kernel_rfl,rfl,by kernel_rfl⟩ zao mixed (by show 1≤Tryz.f127.ntmps; decide) ?_
 refine W.r fun K hK=>?_
 simp(disch:=omega)only[↓RU,RV,RH,↓reduceIte,qE,reduceCtorEq,if_pos,↓RS,RG,qA,qM,qL]
 apply hK;clear hK K
 refine W.r fun K hK=>?_
 simp(disch:=omega)only[↓RU,RV,RH,↓reduceIte,qE,reduceCtorEq,if_pos,↓RS,RG,qA,qM,qL]
 apply hK;clear hK K
 refine W.seq ?_
 refine W.r fun K hK=>?_
 simp(disch:=omega)only[↓RU,RV,RH,↓reduceIte,qE,reduceCtorEq,if_pos,↓RS,RG,qA,qM,qL,ty4,zam]
 apply hK;clear hK K
 refine W.block ?_
 refine W.loopS [0,12,13,14,3] (fun n vs S=>∃ i v t:Nat,n=2 - i∧(i≤2)∧vs=[zat g rs,.sl [.bool false,.bool true] 2,.int .i64 2,.int .i64 i,slW (wsI g nh nw i) v]∧S=stW (wsI g nh nw i) v t) 2 ?_ ?_
 ·refine ⟨0,[],[zat g rs,.sl [.bool false,.bool true] 2,.int .i64 2,.int .i64 (0:Nat),.nils],⟨[],2⟩,?_,?_,0,0,2,rfl,by omega,rfl,rfl⟩
  ·simp [-qU,Env.put,Env.of,zaf,zbi,zah,zak,zap,zar,zbo,zbp,zcm,zbn,za3,zbq,zcl,zcn,za5,za4,zas,zbm,zbr,zck,za1,za0,zaq,za2,zbl,zeq,qS,qP,qC]
  simp [-qU,Env.put,Env.of,zaf,zbi,zah,zak,zap,zar,zbo,zbp,zcm,zbn,za3,zbq,zcl,zcn,za5,za4,zas,zbm,zbr,zck,za1,za0,zaq,za2,zbl,zeq,qS,qP,qC]
 rintro n vs S - ⟨i,v,t,rfl,h_i,rfl,rfl⟩
 refine W.r fun K hK=>?_
 simp(disch:=omega)only[↓RU,RV,RH,↓reduceIte,qE,reduceCtorEq,if_pos,w64,↓RS,RG,qA,qM,qL,zaa]
 apply hK;clear hK K
 refine W.seq ?_
 refine W.cond rfl (fun h=>?_) (fun h=>?_)
 ·try simp only[RL]at h
  have hi2:i<2:=by omega
  obtain ⟨ls,hls⟩:∃ ls:Nat,(if i=1 then nh else nw)=ls:=⟨_,rfl⟩
  obtain ⟨ps,hps⟩:∃ ps:Nat,(if i=1 then nw else nh)=ps:=⟨_,rfl⟩
  have hlp:1≤ls∧ls≤6∧1≤ps∧ps≤6:=by subst hls hps; split <;> omega
  have hwl:=z6l (g:=g) (nh:=nh) (nw:=nw) (i:=i) hg2 hg4
  have hlong:=z9a (g:=g) (nh:=nh) (nw:=nw) (i:=i) hg2 hg4
  have hlev:[PV.bool false,PV.bool true][i]?=some (.bool (decide (i=1))):=by rcases (show i=0∨i=1 by omega) with rfl | rfl <;> rfl
  refine W.skip ?_
  refine xn ?_
  refine W.seq ?_
  refine W.block ?_
  refine W.r fun K hK=>?_
  simp(disch:=omega)only[↓RU,RV,RH,↓reduceIte,qE,reduceCtorEq,if_pos,↓RS,RG,qA,qM,qL,ty4,zam,hlev]
  apply hK;clear hK K
  refine W.r fun K hK=>?_
  simp(disch:=omega)only[↓RU,RV,RH,↓reduceIte,qE,reduceCtorEq,if_pos,qN,↓RS,RG,qA,qM,qL,hl,hrl0]
  refine zac.pc (zem hrow0 rs) rfl (.inl rfl) ?_
  simp(disch:=omega)only[↓RU,RV,RH,↓reduceIte,qE,reduceCtorEq,if_pos,qN,↓RS,RG,qA,qM,qL,hl,hrl0]
  refine zac.pc (zd8 g rs) rfl (.inl rfl) ?_
  simp(disch:=omega)only[↓RU,RV,RH,↓reduceIte,qE,reduceCtorEq,if_pos,qN,↓RS,RG,qA,qM,qL,hl,hrl0]
  apply hK;clear hK K
  refine W.join [0,12,13,14,3,5,6,7] (fun vs S=>vs=[zat g rs,.sl [.bool false,.bool true] 2,.int .i64 2,.int .i64 i,slW (wsI g nh nw i) v,.bool (decide (i=1)),.int .i64 ls,.int .i64 ps]∧S=stW (wsI g nh nw i) v t) ?_ ?_
  ·
   refine W.r fun K hK=>?_
   simp(disch:=omega)only[↓RU,RV,RH,↓reduceIte,qE,reduceCtorEq,if_pos,↓RS,RG,qA,qM,qL]
   apply hK;clear hK K
   refine W.cond rfl (fun h1=>?_) (fun h1=>?_)
   ·try simp only[RL]at h1
    refine W.k fun K hK=>?_
    simp(disch:=omega)only[↓RU,RV,RH,↓reduceIte,qE,reduceCtorEq,if_pos,↓RS,RG,qA,qM,qL]
    apply hK;clear hK K
    refine xn ?_
    refine ⟨_,?_,zan⟩
    subst hls hps
    simp [Env.put,Env.of,h1]
   try simp only[RL]at h1
   refine W.skip ?_
   refine xn ?_
   refine ⟨_,?_,zan⟩
   subst hls hps
   simp [Env.put,Env.of,h1]
  rintro vs S - ⟨rfl,rfl⟩
  refine W.r fun K hK=>?_
  simp(disch:=omega)only[↓RU,RV,RH,↓reduceIte,qE,reduceCtorEq,if_pos,↓RS,RG,qA,qM,qL]
  apply hK;clear hK K
  refine W.block ?_
  refine W.loopS [0,12,13,14,3,5,6,7,8] (fun n vs S=>∃ line v t:Nat,n=ls - line∧(1≤line)∧(line≤ls)∧vs=[zat g rs,.sl [.bool false,.bool true] 2,.int .i64 2,.int .i64 i,slW (zbz g (decide (i=1)) ps (wsI g nh nw i) line) v,.bool (decide (i=1)),.int .i64 ls,.int .i64 ps,.int .i64 line]∧S=stW (zbz g (decide (i=1)) ps (wsI g nh nw i) line) v t) (ls - 1) ?_ ?_
  ·refine ⟨_,[],[zat g rs,.sl [.bool false,.bool true] 2,.int .i64 2,.int .i64 i,slW (wsI g nh nw i) v,.bool (decide (i=1)),.int .i64 ls,.int .i64 ps,.int .i64 (1:Nat)],stW (wsI g nh nw i) v (t+1),?_,zvk,1,v,t+1,rfl,by omega,by omega,by rw [zj4],by rw [zj4]⟩
   simp [-qU,Env.put,Env.of,zaf,zbi,zah,zak,zap,zar,zbo,zbp,zcm,zbn,za3,zbq,zcl,zcn,za5,za4,zas,zbm,zbr,zck,za1,za0,zaq,za2,zbl,zeq,qS,qP,qC,zvj]
  rintro n vs S - ⟨line,v,t,rfl,h1l,h_l,rfl,rfl⟩
  refine W.seq ?_
  refine W.r fun K hK=>?_
  simp(disch:=omega)only[↓RU,RV,RH,↓reduceIte,qE,reduceCtorEq,if_pos,w64,↓RS,RG,qA,qM,qL,zaa]
  apply hK;clear hK K
  refine W.cond rfl (fun h2=>?_) (fun h2=>?_)
  ·try simp only[RL]at h2
   have hwl2:=zhp g (decide (i=1)) hlp.2.2.2 (wsI g nh nw i) line
   have hlong2:=zgw g (decide (i=1)) hlp.2.2.2 (M:=100) (by omega) hlong line
   generalize hWs:(zbz g (decide (i=1)) ps (wsI g nh nw i) line)=Ws at hwl2 hlong2
   refine W.skip ?_
   refine xn ?_
   refine W.seq ?_
   refine W.block ?_
   refine W.r fun K hK=>?_
   simp(disch:=omega)only[↓RU,RV,RH,↓reduceIte,qE,reduceCtorEq,if_pos,↓RS,RG,qA,qM,qL]
   apply hK;clear hK K
   refine W.r fun K hK=>?_
   simp(disch:=omega)only[↓RU,RV,RH,↓reduceIte,qE,reduceCtorEq,if_pos,↓RS,RG,qA,qM,qL]
   apply hK;clear hK K
   refine W.block ?_
   refine W.loopS [0,12,13,14,3,5,6,7,8,9,30,31] (fun n vs S=>∃ at_ v t:Nat,n=ps - at_∧(at_≤ps)∧vs=[zat g rs,.sl [.bool false,.bool true] 2,.int .i64 2,.int .i64 i,slW (zbs g (decide (i=1)) line Ws at_).1 v,.bool (decide (i=1)),.int .i64 ls,.int .i64 ps,.int .i64 line,.bool (zbs g (decide (i=1)) line Ws at_).2,.int .i64 ps,.int .i64 at_]∧S=stW (zbs g (decide (i=1)) line Ws at_).1 v t) ps ?_ ?_
   ·refine ⟨_,[],[zat g rs,.sl [.bool false,.bool true] 2,.int .i64 2,.int .i64 i,slW Ws v,.bool (decide (i=1)),.int .i64 ls,.int .i64 ps,.int .i64 line,.bool false,.int .i64 ps,.int .i64 (0:Nat)],stW Ws v (t+1),?_,zvk,0,v,t+1,rfl,by omega,rfl,rfl⟩
    simp [-qU,Env.put,Env.of,zaf,zbi,zah,zak,zap,zar,zbo,zbp,zcm,zbn,za3,zbq,zcl,zcn,za5,za4,zas,zbm,zbr,zck,za1,za0,zaq,za2,zbl,zeq,qS,qP,qC,zvj]
   rintro n vs S - ⟨at_,v,t,rfl,h_a,rfl,rfl⟩
   refine W.r fun K hK=>?_
   simp(disch:=omega)only[↓RU,RV,RH,↓reduceIte,qE,reduceCtorEq,if_pos,w64,↓RS,RG,qA,qM,qL,zaa]
   apply hK;clear hK K
   refine W.seq ?_
   refine W.cond rfl (fun h3=>?_) (fun h3=>?_)
   ·try simp only[RL]at h3
    have hop:=(zj6 g (decide (i=1)) line Ws at_)
    have hlong3:=zj5 g (decide (i=1)) line (M:=100+6*line) (by omega) hlong2 at_
    have hin:InL nh nw (decide (i=1)) line at_:=by refine ⟨h1l,?_⟩; rcases (show i=0∨i=1 by omega) with rfl | rfl <;> simp at hls hps ⊢ <;> omega
    generalize hs:zbs g (decide (i=1)) line Ws at_=s at hop hlong3
    obtain ⟨ws,op⟩:=s
    simp only at hop hlong3
    refine W.skip ?_
    refine xn ?_
    refine W.seq ?_
    refine W.block ?_
    refine W.r fun K hK=>?_
    simp(disch:=omega)only[↓RU,RV,RH,↓reduceIte,qE,reduceCtorEq,if_pos,↓RS,RG,qA,qM,qL]
    apply hK;clear hK K
    refine W.r fun K hK=>?_
    simp(disch:=omega)only[↓RU,RV,RH,↓reduceIte,qE,reduceCtorEq,if_pos,qN,↓RS,RG,qA,qM,qL]
    refine zac.pc (z3a hg rs hin) rfl (.inl rfl) ?_
    simp(disch:=omega)only[↓RU,RV,RH,↓reduceIte,qE,reduceCtorEq,if_pos,qN,↓RS,RG,qA,qM,qL]
    apply hK;clear hK K
    refine W.seq ?_
    refine W.block ?_
    refine W.r fun K hK=>?_
    obtain hd | ⟨hd,rfl,rfl⟩ | ⟨hd,rfl,hw⟩ | ⟨hd,rfl,hw⟩:=z89 (d:=znh g (decide (i=1)) line at_) hop.1
    ·skip
     simp(disch:=omega)only[↓RU,RV,RH,↓reduceIte,qE,reduceCtorEq,if_pos,↓RS,RG,qA,qM,qL,hd]
     apply hK;clear hK K
     refine W.cond rfl (fun h4=>?_) (fun h4=>?_)
     ·try simp only[RL]at h4
      exact absurd h4 (by simp)
     try simp only[RL]at h4
     refine W.r fun K hK=>?_
     simp(disch:=omega)only[↓RU,RV,RH,↓reduceIte,qE,reduceCtorEq,if_pos,↓RS,RG,qA,qM,qL]
     apply hK;clear hK K
     refine W.cond rfl (fun h5=>?_) (fun h5=>?_)
     ·try simp only[RL]at h5
      exact absurd h5 (by simp)
     try simp only[RL]at h5
     refine W.skip ?_
     refine XbN ?_
     refine xn ?_
     refine W.k fun K hK=>?_
     simp(disch:=omega)only[↓RU,RV,RH,↓reduceIte,qE,reduceCtorEq,if_pos,↓RS,RG,qA,qM,qL]
     apply hK;clear hK K
     refine XbN ?_
     refine xn ?_
     refine W.k fun K hK=>?_
     simp(disch:=omega)only[↓RU,RV,RH,↓reduceIte,qE,reduceCtorEq,if_pos,w64,↓RS,RG,qA,qM,qL,zaa]
     apply hK;clear hK K
     refine xn ?_
     have hnx:zbs g (decide (i=1)) line Ws (at_+1)=(ws,false):=by rw [zdr,hs,hd]; simp [zd1]
     refine ⟨ps - (at_+1),by omega,(stW ws v t).obs.length,[],[zat g rs,.sl [.bool false,.bool true] 2,.int .i64 2,.int .i64 i,slW (zbs g (decide (i=1)) line Ws (at_+1)).1 v,.bool (decide (i=1)),.int .i64 ls,.int .i64 ps,.int .i64 line,.bool (zbs g (decide (i=1)) line Ws (at_+1)).2,.int .i64 ps,.int .i64 ((at_+1:Nat):Int)],stW (zbs g (decide (i=1)) line Ws (at_+1)).1 v (t+1),?_,?_,at_+1,v,(t+1),rfl,by omega,rfl,rfl⟩
     ·rw [hnx]; simp [-qU,Env.put,Env.of,zaf,zbi,zah,zak,zap,zar,zbo,zbp,zcm,zbn,za3,zbq,zcl,zcn,za5,za4,zas,zbm,zbr,zck,za1,za0,zaq,za2,zbl,zeq,qS,qP,qC,zvj]
     rw [hnx]; exact zvk
    ·skip
     rw [ycq,ycu]
     simp(disch:=omega)only[↓RU,RV,RH,↓reduceIte,qE,reduceCtorEq,if_pos,↓RS,RG,qA,qM,qL,hd]
     apply hK;clear hK K
     refine W.cond rfl (fun h4=>?_) (fun h4=>?_)
     ·try simp only[RL]at h4
      exact absurd h4 (by simp)
     try simp only[RL]at h4
     refine W.r fun K hK=>?_
     simp(disch:=omega)only[↓RU,RV,RH,↓reduceIte,qE,reduceCtorEq,if_pos,↓RS,RG,qA,qM,qL]
     apply hK;clear hK K
     refine W.cond rfl (fun h5=>?_) (fun h5=>?_)
     ·try simp only[RL]at h5
      refine W.k fun K hK=>?_
      simp(disch:=omega)only[↓RU,RV,RH,↓reduceIte,qE,reduceCtorEq,if_pos,↓RS,RG,qA,qM,qL,ty6,zam,z0g,zaa,z0h,zho,yan]
      apply hK;clear hK K
      refine XbN ?_
      refine xn ?_
      refine W.k fun K hK=>?_
      simp(disch:=omega)only[↓RU,RV,RH,↓reduceIte,qE,reduceCtorEq,if_pos,↓RS,RG,qA,qM,qL]
      apply hK;clear hK K
      refine XbN ?_
      refine xn ?_
      refine W.k fun K hK=>?_
      simp(disch:=omega)only[↓RU,RV,RH,↓reduceIte,qE,reduceCtorEq,if_pos,w64,↓RS,RG,qA,qM,qL,zaa]
      apply hK;clear hK K
      refine xn ?_
      have hnx:zbs g (decide (i=1)) line Ws (at_+1)=([⟨decide (i=1),line,at_,1⟩],true):=by rw [zdr,hs,hd]; simp [zd1]
      refine ⟨ps - (at_+1),by omega,0,[1],[zat g rs,.sl [.bool false,.bool true] 2,.int .i64 2,.int .i64 i,slW (zbs g (decide (i=1)) line Ws (at_+1)).1 (t+2),.bool (decide (i=1)),.int .i64 ls,.int .i64 ps,.int .i64 line,.bool (zbs g (decide (i=1)) line Ws (at_+1)).2,.int .i64 ps,.int .i64 ((at_+1:Nat):Int)],stW (zbs g (decide (i=1)) line Ws (at_+1)).1 (t+2) (t+3),?_,?_,at_+1,(t+2),(t+3),rfl,by omega,rfl,rfl⟩
      ·rw [hnx]; simp [-qU,Env.put,Env.of,zaf,zbi,zah,zak,zap,zar,zbo,zbp,zcm,zbn,za3,zbq,zcl,zcn,za5,za4,zas,zbm,zbr,zck,za1,za0,zaq,za2,zbl,zeq,qS,qP,qC,zrb]
      rw [hnx]; simp [-qU,Env.put,Env.of,zaf,zbi,zah,zak,zap,zar,zbo,zbp,zcm,zbn,za3,zbq,zcl,zcn,za5,za4,zas,zbm,zbr,zck,za1,za0,zaq,za2,zbl,zeq,qS,qP,qC,zm4,wcs,Wall.cells]
     try simp only[RL]at h5
     exact absurd h5 (by simp)
    ·skip
     rw [zrb hw,zm4 hw]
     simp(disch:=omega)only[↓RU,RV,RH,↓reduceIte,qE,reduceCtorEq,if_pos,↓RS,RG,qA,qM,qL,hd]
     apply hK;clear hK K
     refine W.cond rfl (fun h4=>?_) (fun h4=>?_)
     ·try simp only[RL]at h4
      exact absurd h4 (by simp)
     try simp only[RL]at h4
     refine W.r fun K hK=>?_
     simp(disch:=omega)only[↓RU,RV,RH,↓reduceIte,qE,reduceCtorEq,if_pos,↓RS,RG,qA,qM,qL]
     apply hK;clear hK K
     refine W.cond rfl (fun h5=>?_) (fun h5=>?_)
     ·try simp only[RL]at h5
      refine W.k fun K hK=>?_
      simp(disch:=omega)only[↓RU,RV,RH,↓reduceIte,qE,reduceCtorEq,if_pos,↓RS,RG,qA,qM,qL,ty6,zam,z0g,zaa,z0h,zho,yan]
      apply hK;clear hK K
      refine XbN ?_
      refine xn ?_
      refine W.k fun K hK=>?_
      simp(disch:=omega)only[↓RU,RV,RH,↓reduceIte,qE,reduceCtorEq,if_pos,↓RS,RG,qA,qM,qL]
      apply hK;clear hK K
      refine XbN ?_
      refine xn ?_
      refine W.k fun K hK=>?_
      simp(disch:=omega)only[↓RU,RV,RH,↓reduceIte,qE,reduceCtorEq,if_pos,w64,↓RS,RG,qA,qM,qL,zaa]
      apply hK;clear hK K
      refine xn ?_
      have hnx:zbs g (decide (i=1)) line Ws (at_+1)=(ws++[⟨decide (i=1),line,at_,1⟩],true):=by rw [zdr,hs,hd]; simp [zd1]
      refine ⟨ps - (at_+1),by omega,1,[],[zat g rs,.sl [.bool false,.bool true] 2,.int .i64 2,.int .i64 i,slW (zbs g (decide (i=1)) line Ws (at_+1)).1 (t+1),.bool (decide (i=1)),.int .i64 ls,.int .i64 ps,.int .i64 line,.bool (zbs g (decide (i=1)) line Ws (at_+1)).2,.int .i64 ps,.int .i64 ((at_+1:Nat):Int)],stW (zbs g (decide (i=1)) line Ws (at_+1)).1 (t+1) (t+3),?_,?_,at_+1,(t+1),(t+3),rfl,by omega,rfl,rfl⟩
      ·rw [hnx]; simp [-qU,Env.put,Env.of,zaf,zbi,zah,zak,zap,zar,zbo,zbp,zcm,zbn,za3,zbq,zcl,zcn,za5,za4,zas,zbm,zbr,zck,za1,za0,zaq,za2,zbl,zeq,qS,qP,qC,zrb]
      rw [hnx]; simp [-qU,Env.put,Env.of,zaf,zbi,zah,zak,zap,zar,zbo,zbp,zcm,zbn,za3,zbq,zcl,zcn,za5,za4,zas,zbm,zbr,zck,za1,za0,zaq,za2,zbl,zeq,qS,qP,qC,zm4,z5j,z88,Wall.cells]
     try simp only[RL]at h5
     exact absurd h5 (by simp)
    skip
    obtain ⟨ws,w,rfl⟩:=ybm hw
    rw [zrb hw,zm4 hw]
    have hwlg:=hlong3 w (by simp)
    have hwl3:ws.length+1≤200:=by have:=hop.2.1; simp at this; omega
    simp(disch:=omega)only[↓RU,RV,RH,↓reduceIte,qE,reduceCtorEq,if_pos,↓RS,RG,qA,qM,qL,hd]
    apply hK;clear hK K
    refine W.cond rfl (fun h4=>?_) (fun h4=>?_)
    ·try simp only[RL]at h4
     refine W.k fun K hK=>?_
     simp(disch:=omega)only[↓RU,RV,RH,↓reduceIte,qE,reduceCtorEq,if_pos,w64,↓RS,RG,qA,qM,qL,ty6,zam,z0g,zaa,z0h,List.length_append,zho,z87,yda,z19]
     apply hK;clear hK K
     refine XbN ?_
     refine xn ?_
     refine W.k fun K hK=>?_
     simp(disch:=omega)only[↓RU,RV,RH,↓reduceIte,qE,reduceCtorEq,if_pos,↓RS,RG,qA,qM,qL]
     apply hK;clear hK K
     refine XbN ?_
     refine xn ?_
     refine W.k fun K hK=>?_
     simp(disch:=omega)only[↓RU,RV,RH,↓reduceIte,qE,reduceCtorEq,if_pos,w64,↓RS,RG,qA,qM,qL,zaa]
     apply hK;clear hK K
     refine xn ?_
     have hnx:zbs g (decide (i=1)) line Ws (at_+1)=(ws++[{ w with long:=w.long+1 }],true):=by rw [zdr,hs,hd]; simp [zd1]
     refine ⟨ps - (at_+1),by omega,1,[],[zat g rs,.sl [.bool false,.bool true] 2,.int .i64 2,.int .i64 i,slW (zbs g (decide (i=1)) line Ws (at_+1)).1 v,.bool (decide (i=1)),.int .i64 ls,.int .i64 ps,.int .i64 line,.bool (zbs g (decide (i=1)) line Ws (at_+1)).2,.int .i64 ps,.int .i64 ((at_+1:Nat):Int)],stW (zbs g (decide (i=1)) line Ws (at_+1)).1 v (t+1),?_,?_,at_+1,v,(t+1),rfl,by omega,rfl,rfl⟩
     ·rw [hnx]; simp [-qU,Env.put,Env.of,zaf,zbi,zah,zak,zap,zar,zbo,zbp,zcm,zbn,za3,zbq,zcl,zcn,za5,za4,zas,zbm,zbr,zck,za1,za0,zaq,za2,zbl,zeq,qS,qP,qC,zrb]
     rw [hnx]; simp [-qU,Env.put,Env.of,zaf,zbi,zah,zak,zap,zar,zbo,zbp,zcm,zbn,za3,zbq,zcl,zcn,za5,za4,zas,zbm,zbr,zck,za1,za0,zaq,za2,zbl,zeq,qS,qP,qC,zm4,z5j]
    try simp only[RL]at h4
    exact absurd h4 (by simp)
   ·try simp only[RL]at h3
    obtain rfl:ps=at_:=by omega
    refine W.exit ?_
    refine xe ?_
    refine xe ?_
    refine XBlock.hit ?_
    refine XbN ?_
    refine xn ?_
    refine W.k fun K hK=>?_
    simp(disch:=omega)only[↓RU,RV,RH,↓reduceIte,qE,reduceCtorEq,if_pos,w64,↓RS,RG,qA,qM,qL,zaa]
    apply hK;clear hK K
    refine xn ?_
    refine ⟨ls - (line+1),by omega,(stW (zbs g (decide (i=1)) line Ws ps).1 v t).obs.length,[],[zat g rs,.sl [.bool false,.bool true] 2,.int .i64 2,.int .i64 i,slW (zbz g (decide (i=1)) ps (wsI g nh nw i) (line+1)) v,.bool (decide (i=1)),.int .i64 ls,.int .i64 ps,.int .i64 ((line+1:Nat):Int)],stW (zbz g (decide (i=1)) ps (wsI g nh nw i) (line+1)) v (t+1),?_,?_,line+1,v,t+1,rfl,by omega,by omega,rfl,rfl⟩
    rotate_left
    ·rw [zeb h1l,hWs]; exact zvk
    rw [zeb h1l,hWs]; simp [-qU,Env.put,Env.of,zaf,zbi,zah,zak,zap,zar,zbo,zbp,zcm,zbn,za3,zbq,zcl,zcn,za5,za4,zas,zbm,zbr,zck,za1,za0,zaq,za2,zbl,zeq,qS,qP,qC,zvj]
  ·try simp only[RL]at h2
   obtain rfl:ls=line:=by omega
   refine W.exit ?_
   refine xe ?_
   refine xe ?_
   refine XBlock.hit ?_
   refine XbN ?_
   refine xn ?_
   refine W.k fun K hK=>?_
   simp(disch:=omega)only[↓RU,RV,RH,↓reduceIte,qE,reduceCtorEq,if_pos,w64,↓RS,RG,qA,qM,qL,zaa]
   apply hK;clear hK K
   refine xn ?_
   have hwn:=z9b (g:=g) (nh:=nh) (nw:=nw) hi2
   rw [hps,hls]at hwn
   refine ⟨2 - (i+1),by omega,(stW (zbz g (decide (i=1)) ps (wsI g nh nw i) ls) v t).obs.length,[],[zat g rs,.sl [.bool false,.bool true] 2,.int .i64 2,.int .i64 ((i+1:Nat):Int),slW (wsI g nh nw (i+1)) v],stW (wsI g nh nw (i+1)) v (t+1),?_,?_,i+1,v,t+1,rfl,by omega,rfl,rfl⟩
   rotate_left
   ·rw [hwn]; exact zvk
   rw [hwn]; simp [-qU,Env.put,Env.of,zaf,zbi,zah,zak,zap,zar,zbo,zbp,zcm,zbn,za3,zbq,zcl,zcn,za5,za4,zas,zbm,zbr,zck,za1,za0,zaq,za2,zbl,zeq,qS,qP,qC,zvj]
 try simp only[RL]at h
 refine W.exit ?_
 refine xe ?_
 refine xe ?_
 refine XBlock.hit ?_
 refine xn ?_
 refine W.r fun K hK=>?_
 simp(disch:=omega)only[↓RU,RV,RH,↓reduceIte,qE,reduceCtorEq,if_pos,↓RS,RG,qA,qM,qL]
 apply hK;clear hK K
 refine W.ret ?_
 refine Br rfl ?_
 obtain rfl:i=2:=by omega
 rw [show wsI g nh nw 2=zb8 g nh nw from rfl]
 exact z5c
theorem gF {F R:List Ob} {a:Ob}:(F++a::R)[F.length]?=some a:=by simp
theorem zc2 {F R:List Ob} {a b:Ob}:(F++a::R).set F.length b=F++b::R:=by simp
theorem z8s {α:Type} {f:α→PV} {l:List α} {x:α} {a n:Nat}:(l.map f).take a++(List.replicate n x).map f++(l.map f).drop (a+n)=(l.take a++List.replicate n x++l.drop (a+n)).map f:=by simp
theorem z6v {q:IntKind} {l:List Int}:zbu (l.map (PV.int q))=True:=eq_true (zs4 (fun _=>rfl) l)
def ddp (l:List Int):List Int:=l.foldl zpu []
theorem zng {l:List Int} {p:Nat} {x:Int} (h:l[p]?=some x):ddp (l.take (p+1))=zpu (ddp (l.take p)) x:=zfp h
theorem z47 (l:List Int) (x:Int):(zpu l x).getLast?=some x:=by
 unfold zpu; split
 ·assumption
 simp
theorem zrp {l:List Int} {p:Nat} {y:Int} (h:l[p]?=some y):(ddp (l.take (p+1))).getLast?=some y:=by rw [zng h]; exact z47 _ _
theorem znf {l:List Int} {p:Nat} {x y:Int} (hp:1≤p) (h0:l[p - 1]?=some y) (h:l[p]?=some x) (e:x=y):ddp (l.take (p+1))=ddp (l.take p):=by
 have:=zrp h0
 rw [show p - 1+1=p by omega]at this
 rw [zng h,zpu,this,e]; simp
theorem zwk {l:List Int} {p:Nat} {x y:Int} (hp:1≤p) (h0:l[p - 1]?=some y) (h:l[p]?=some x) (e:¬ x=y):ddp (l.take (p+1))=ddp (l.take p)++[x]:=by
 have:=zrp h0
 rw [show p - 1+1=p by omega]at this
 rw [zng h,zpu,this,if_neg (by simpa using Ne.symm e)]
theorem ya2 {l:List Int} (h:1≤l.length):ddp (l.take 1)=l.take 1:=by
 cases l with
 | nil=>simp at h
 | cons a l=>rfl
theorem ztk {l:List Int} (h:l.length<2):ddp l=l:=by
 match l,h with
 | [],_=>rfl
 | [a],_=>rfl
theorem z26 (l:List Int):(ddp l).length≤l.length:=by
 unfold ddp
 have:∀ (l m:List Int),(l.foldl zpu m).length≤m.length+l.length:=by
  intro l
  induction l with
  | nil=>intro m; simp
  | cons a l ih=>intro m; have:=ih (zpu m a); have:=z8g (l:=m) (x:=a); simp only[List.foldl_cons,List.length_cons]; omega
 have:=this l []
 simpa using this
structure DC (l c:List Int) (k p:Nat):Prop where
 len:c.length=l.length
 dk:(ddp (l.take p)).length=k
 hd:c.take k=ddp (l.take p)
 dr:c.drop (p - 1)=l.drop (p - 1)
 kp:k+1≤p
theorem DC.get {l c:List Int} {k p j:Nat} (h:DC l c k p) (hj:p - 1≤j):c[j]?=l[j]?:=by
 have:=congrArg (fun x=>x[j - (p - 1)]?) h.dr
 simp only[List.getElem?_drop]at this
 rwa [show p - 1+(j - (p - 1))=j by omega]at this
theorem DC.first {l:List Int} {k:Nat} {x y:Int} (h1:1≤k) (hd:ddp (l.take k)=l.take k) (hy:l[k - 1]?=some y) (hx:l[k]?=some x) (e:x=y):DC l l k (k+1):=by
 have hk:=zbd hx
 refine ⟨rfl,?_,?_,rfl,qR _⟩
 ·rw [znf h1 hy hx e,hd,List.length_take]; omega
 rw [znf h1 hy hx e,hd]
theorem DC.same {l c:List Int} {k p:Nat} {x y:Int} (h:DC l c k p) (h1:1≤p) (hy:l[p - 1]?=some y) (hx:l[p]?=some x) (e:x=y):DC l c k (p+1):=by
 refine ⟨h.len,?_,?_,?_,by have:=h.kp; omega⟩
 ·rw [znf h1 hy hx e]; exact h.dk
 ·rw [znf h1 hy hx e]; exact h.hd
 have:=congrArg (List.drop 1) h.dr
 rw [List.drop_drop,List.drop_drop]at this
 rwa [show p - 1+1=p by omega]at this
theorem DC.new {l c:List Int} {k p:Nat} {x y:Int} (h:DC l c k p) (h1:1≤p) (hy:l[p - 1]?=some y) (hx:l[p]?=some x) (e:¬ x=y):DC l (c.set k x) (k+1) (p+1):=by
 have hp:=zbd hx
 have hk:=h.kp
 have hl:=h.len
 refine ⟨by simpa using hl,?_,?_,?_,by omega⟩
 ·rw [zwk h1 hy hx e,List.length_append,h.dk]; rfl
 ·rw [zwk h1 hy hx e,← h.hd]
  have:(c.set k x)[k]?=some x:=by rw [List.getElem?_set]; simp; omega
  rw [tk this,List.take_set_of_le (qR _)]
 rw [Nat.add_sub_cancel,List.drop_set_of_lt (by omega)]
 have:=congrArg (List.drop 1) h.dr
 rw [List.drop_drop,List.drop_drop]at this
 rwa [show p - 1+1=p by omega]at this
def zbc (g:List (List Int)) (level:Bool) (line fr:Nat) (n:Nat):List Int × List Int :=
 ((List.range n).map fun j=>(zb7 g level line (fr+j)).1,(List.range n).map fun j=>(zb7 g level line (fr+j)).2)
theorem zgg {g:List (List Int)} {level:Bool} {line fr n:Nat}:(zbc g level line fr (n+1)).1=(zbc g level line fr n).1++[(zb7 g level line (fr+n)).1]:=by simp [zbc,qS]
theorem zgh {g:List (List Int)} {level:Bool} {line fr n:Nat}:(zbc g level line fr (n+1)).2=(zbc g level line fr n).2++[(zb7 g level line (fr+n)).2]:=by simp [zbc,qS]
theorem zlm {g:List (List Int)} {level:Bool} {line fr n:Nat}:(zbc g level line fr n).1.length=n∧(zbc g level line fr n).2.length=n:=by simp [zbc]
def slL (l:List Int) (k v:Nat):PV:=match l with | [] => .nils | _ => .loc k v 0 l.length
def tlL (l m:List Int) (v0 v1:Nat):List Ob:=match l with | []=>[] | _=>[.arr v0 3 1 (l.map (.int .i64)),.arr v1 3 1 (m.map (.int .i64))]
theorem zra {l:List Int} {k v:Nat} (h:l≠[]):slL l k v = .loc k v 0 l.length:=by cases l with | nil=>exact absurd rfl h | cons a l=>rfl
theorem z0e {l m:List Int} {v0 v1:Nat} (h:l≠[]):tlL l m v0 v1=[.arr v0 3 1 (l.map (.int .i64)),.arr v1 3 1 (m.map (.int .i64))]:=by cases l with | nil=>exact absurd rfl h | cons a l=>rfl
theorem zii {S:Store} {k f:Nat} {sel:List Nat} {q:IntKind} (l:List Int):(l.map (PV.int q)).mapM (rn S k sel (f+1))=some (l.map (PV.int q)) :=
 zbk fun x hx=>by obtain ⟨a,_,rfl⟩:=List.mem_map.1 hx; rfl
theorem zvb {S:Store} {im:Bool} {k o ver et:Nat} {l z:List Int} (h:S.obs[o]?=some (.arr ver et 1 ((l++z).map (.int .i64)))):reify S im (k+2) (.loc o ver 0 l.length)=some (eInts l):=by
 simp only[reify,h,Nat.zero_add,Nat.mul_one,List.length_map,List.length_append,Nat.le_add_right,and_self,if_true,List.drop_zero,List.map_append]
 rw [List.take_append_of_le_length (by simp),qT (by simp)]
 have:=ziy (S:=S) (im:=im) (k:=k) (q := .i64) l
 simp only[eInts]
 exact congrArg (Option.map fun x=>PV.sl x l.length) this
theorem zlo {F R:List Ob} {ver t:Nat} {l:List Int} (hl:l.length<2147483648):Ev Tryz.prog 145 [.loc F.length ver 0 l.length] ⟨F ++ .arr ver 3 1 (l.map (.int .i64))::R,t⟩ fun v S=>∃ z:List Int,v = .loc F.length ver 0 (ddp l).length∧S=⟨F ++ .arr ver 3 1 ((ddp l++z).map (.int .i64))::R,t⟩:=by
 refine Ev.of ⟨Tryz.func145,by kernel_rfl,rfl,by kernel_rfl⟩ zao mixed (by show 1≤Tryz.f145.ntmps; decide) ?_
 refine W.r fun K hK=>?_
 simp(disch:=omega)only[↓RU,RV,RH,↓reduceIte,qE,reduceCtorEq,if_pos,↓RS,RG,qA,qM,qL,gF,zc2]
 apply hK;clear hK K
 refine W.seq ?_
 refine W.r fun K hK=>?_
 simp(disch:=omega)only[↓RU,RV,RH,↓reduceIte,qE,reduceCtorEq,if_pos,w64,↓RS,RG,qA,qM,qL,zab,zaa,gF,zc2]
 apply hK;clear hK K
 refine W.cond rfl (fun h=>?_) (fun h=>?_)
 ·try simp only[RL]at h
  refine W.r fun K hK=>?_
  simp(disch:=omega)only[↓RU,RV,RH,↓reduceIte,qE,reduceCtorEq,if_pos,↓RS,RG,qA,qM,qL,gF,zc2]
  apply hK;clear hK K
  refine W.ret ?_
  refine XThen.ret ?_
  refine Br rfl ?_
  refine ⟨(F++Ob.arr ver 3 1 (l.map (.int .i64))::R).length,[],?_,?_⟩
  ·rw [ztk (by omega)]; rfl
  rw [qN,ztk (by omega)]; exact zan
 try simp only[RL]at h
 refine W.skip ?_
 refine xn ?_
 refine W.seq ?_
 refine W.r fun K hK=>?_
 simp(disch:=omega)only[↓RU,RV,RH,↓reduceIte,qE,reduceCtorEq,if_pos,↓RS,RG,qA,qM,qL,gF,zc2]
 apply hK;clear hK K
 refine W.block ?_
 refine W.loop [0,3] (fun n vs S=>∃ k0:Nat,n=l.length - k0∧k0≤l.length∧(1≤k0)∧(ddp (l.take k0)=l.take k0)∧vs=[.loc F.length ver 0 l.length,.int .i64 k0]∧S=⟨F ++ .arr ver 3 1 (l.map (.int .i64))::R,t⟩) (l.length - 1) ?_ ?_
 ·refine ⟨_,1,rfl,by omega,qR _,ya2 (by omega),?_,zan⟩
  simp [Env.put,Env.of,zaf]
 rintro n vs S - ⟨k0,rfl,h_k0,h1k,hd,rfl,rfl⟩
 refine W.seq ?_
 refine W.r fun K hK=>?_
 simp(disch:=omega)only[↓RU,RV,RH,↓reduceIte,qE,reduceCtorEq,if_pos,w64,↓RS,RG,qA,qM,qL,zab,zaa,gF,zc2]
 apply hK;clear hK K
 refine W.cond rfl (fun h1=>?_) (fun h1=>?_)
 ·try simp only[RL]at h1
  obtain ⟨x,hx,-⟩:=zai (show k0<l.length by omega)
  obtain ⟨y,hy,-⟩:=zai (show k0 - 1<l.length by omega)
  refine W.skip ?_
  refine xn ?_
  refine W.seq ?_
  refine W.block ?_
  refine W.seq_draw (by kernel_rfl) fun K hK=>?_
  simp(disch:=omega)only[↓RU,RV,RH,↓reduceIte,qE,reduceCtorEq,if_pos,w64,↓RS,RG,qA,qM,qL,zab,zaa,gF,zc2,hx,hy,zc1]
  apply hK;clear hK K
  refine W.cond rfl (fun h2=>?_) (fun h2=>?_)
  ·try simp only[RL]at h2
   refine W.r fun K hK=>?_
   simp(disch:=omega)only[↓RU,RV,RH,↓reduceIte,qE,reduceCtorEq,if_pos,Option.map_none,↓RS,RG,qA,qM,qL,zab,zaa,gF,zc2]
   apply hK;clear hK K
   refine W.seq ?_
   refine W.r fun K hK=>?_
   simp(disch:=omega)only[↓RU,RV,RH,↓reduceIte,qE,reduceCtorEq,if_pos,↓RS,RG,qA,qM,qL,gF,zc2]
   apply hK;clear hK K
   refine W.block ?_
   refine W.loop [0,3,4,5] (fun n vs S=>∃ k p:Nat,∃ c:List Int,n=l.length - p∧DC l c k p∧k0+1≤p∧p≤l.length∧vs=[.loc F.length ver 0 l.length,.int .i64 k,.loc F.length ver k0 (l.length - k0),.int .i64 ((p - k0:Nat):Int)]∧S=⟨F ++ .arr ver 3 1 (c.map (.int .i64))::R,t⟩) (l.length - (k0+1)) ?_ ?_
   ·refine ⟨_,k0,k0+1,l,rfl,DC.first h1k hd hy hx h2,qR _,by omega,?_,zan⟩
    simp [Env.put,Env.of]
   rintro n vs S - ⟨k,p,c,rfl,hdc,hk0,h_p,rfl,rfl⟩
   refine W.seq ?_
   refine W.r fun K hK=>?_
   simp(disch:=omega)only[↓RU,RV,RH,↓reduceIte,qE,reduceCtorEq,if_pos,w64,↓RS,RG,qA,qM,qL,zab,zaa,gF,zc2]
   apply hK;clear hK K
   refine W.cond rfl (fun h3=>?_) (fun h3=>?_)
   ·try simp only[RL]at h3
    have hkp:=hdc.kp
    obtain ⟨x2,hx2,-⟩:=zai (show p<l.length by omega)
    obtain ⟨y2,hy2,-⟩:=zai (show p - 1<l.length by omega)
    have hcx:=hdc.get (j:=p) (by omega)
    have hcy:=hdc.get (j:=p - 1) (by omega)
    rw [hx2]at hcx
    rw [hy2]at hcy
    have hcl:=hdc.len
    have e1:k0+(p - k0)=p:=by omega
    have e2:k0+(p - k0 - 1)=p - 1:=by omega
    refine W.skip ?_
    refine xn ?_
    refine W.seq ?_
    refine W.block ?_
    refine W.seq_draw (by kernel_rfl) fun K hK=>?_
    simp(disch:=omega)only[↓RU,RV,RH,↓reduceIte,qE,reduceCtorEq,if_pos,w64,↓RS,RG,qA,qM,qL,zab,zaa,gF,zc2,hcx,hcy,zc1,e1,e2]
    apply hK;clear hK K
    refine W.cond rfl (fun h4=>?_) (fun h4=>?_)
    ·try simp only[RL]at h4
     refine W.r fun K hK=>?_
     simp(disch:=omega)only[↓RU,RV,RH,↓reduceIte,qE,reduceCtorEq,if_pos,↓RS,RG,qA,qM,qL,zab,zaa,gF,zc2,hcx,e1,hcl,zbw,zc0]
     apply hK;clear hK K
     refine W.k fun K hK=>?_
     simp(disch:=omega)only[↓RU,RV,RH,↓reduceIte,qE,reduceCtorEq,if_pos,w64,↓RS,RG,qA,qM,qL,zaa,gF,zc2]
     apply hK;clear hK K
     refine XbN ?_
     refine xn ?_
     refine W.k fun K hK=>?_
     simp(disch:=omega)only[↓RU,RV,RH,↓reduceIte,qE,reduceCtorEq,if_pos,w64,↓RS,RG,qA,qM,qL,zaa,gF,zc2]
     apply hK;clear hK K
     refine xn ?_
     refine ⟨l.length - (p+1),by omega,_,k+1,p+1,c.set k x2,rfl,hdc.new (by omega) hy2 hx2 h4,by omega,by omega,?_,zan⟩
     simp [Env.put,Env.of,show p+1 - k0=p - k0+1 by omega]
    try simp only[RL]at h4
    refine W.skip ?_
    refine XbN ?_
    refine xn ?_
    refine W.k fun K hK=>?_
    simp(disch:=omega)only[↓RU,RV,RH,↓reduceIte,qE,reduceCtorEq,if_pos,w64,↓RS,RG,qA,qM,qL,zaa,gF,zc2]
    apply hK;clear hK K
    refine xn ?_
    refine ⟨l.length - (p+1),by omega,_,k,p+1,c,rfl,hdc.same (by omega) hy2 hx2 h4,by omega,by omega,?_,zan⟩
    simp [Env.put,Env.of,show p+1 - k0=p - k0+1 by omega]
   try simp only[RL]at h3
   have hkp:=hdc.kp
   have hcl:=hdc.len
   obtain rfl:p=l.length:=by omega
   refine W.exit ?_
   refine xe ?_
   refine xe ?_
   refine XBlock.hit ?_
   refine xn ?_
   refine W.r fun K hK=>?_
   simp(disch:=omega)only[↓RU,RV,RH,↓reduceIte,qE,reduceCtorEq,if_pos,Option.map_none,zf6,zei,↓RS,RG,qA,qM,qL,zab,zaa,gF,zc2,hcl,zei,z8s,z6v,List.length_replicate]
   apply hK;clear hK K
   refine W.r fun K hK=>?_
   simp(disch:=omega)only[↓RU,RV,RH,↓reduceIte,qE,reduceCtorEq,if_pos,Option.map_none,↓RS,RG,qA,qM,qL,zab,zaa,gF,zc2]
   apply hK;clear hK K
   refine W.ret ?_
   refine XBlock.ret ?_
   refine XThen.ret ?_
   refine XThen.ret ?_
   refine XBlock.ret ?_
   refine XThen.ret ?_
   refine Br rfl ?_
   have hdk:=hdc.dk
   rw [List.take_length]at hdk
   have htk:=hdc.hd
   rw [List.take_length]at htk
   have hdrop:c.drop (k+(l.length - k))=[]:=List.drop_of_length_le (by omega)
   rw [hdrop,qN,htk]
   refine ⟨(F++Ob.arr ver 3 1 ((ddp l++List.replicate (l.length - k) 0).map (.int .i64))::R).length,_,?_,zan⟩
   rw [hdk]; rfl
  try simp only[RL]at h2
  refine W.skip ?_
  refine XbN ?_
  refine xn ?_
  refine W.k fun K hK=>?_
  simp(disch:=omega)only[↓RU,RV,RH,↓reduceIte,qE,reduceCtorEq,if_pos,w64,↓RS,RG,qA,qM,qL,zaa,gF,zc2]
  apply hK;clear hK K
  refine xn ?_
  refine ⟨l.length - (k0+1),by omega,_,k0+1,rfl,by omega,by omega,by rw [zwk h1k hy hx h2,hd,← tk hx],?_,zan⟩
  simp [Env.put,Env.of]
 try simp only[RL]at h1
 refine W.exit ?_
 refine xe ?_
 refine xe ?_
 refine XBlock.hit ?_
 refine xn ?_
 refine W.r fun K hK=>?_
 simp(disch:=omega)only[↓RU,RV,RH,↓reduceIte,qE,reduceCtorEq,if_pos,↓RS,RG,qA,qM,qL,gF,zc2]
 apply hK;clear hK K
 refine W.ret ?_
 refine Br rfl ?_
 obtain rfl:k0=l.length:=by omega
 refine ⟨(F++Ob.arr ver 3 1 (l.map (.int .i64))::R).length,[],?_,?_⟩
 ·rw [show ddp l=l by simpa using hd]; rfl
 rw [qN,show ddp l=l by simpa using hd]; exact zan
theorem z6w {g:List (List Int)} {nh nw:Nat} (hg:GW g nh nw) (rs:List Rect) {level:Bool} {line fr long:Nat} (h1:1≤long) (hin:∀ j,fr≤j→j<fr+long→InL nh nw level line j):PC Tryz.prog 128 [zat g rs,yd0 ⟨level,line,fr,long⟩] (.tup [eInts (ddp (zbc g level line fr long).1),eInts (ddp (zbc g level line fr long).2)]) true:=by
 have hgg:=hg.2.2
 have hb:fr+long≤6:=by have h:=hin (fr+long - 1) (by omega) (by omega); unfold InL at h; cases level <;> simp at h <;> omega
 simp only[yd0,Wall.cells]
 refine PC.of ⟨Tryz.func128,by kernel_rfl,rfl,by kernel_rfl⟩ zao mixed (by show 2≤Tryz.f128.ntmps; decide) ?_
 refine W.r fun K hK=>?_
 simp(disch:=omega)only[↓RU,RV,RH,↓reduceIte,qE,reduceCtorEq,if_pos,↓RS,RG,qA,qM,qL,zam,z0g,zaa,z0h]
 apply hK;clear hK K
 refine W.r fun K hK=>?_
 simp(disch:=omega)only[↓RU,RV,RH,↓reduceIte,qE,reduceCtorEq,if_pos,↓RS,RG,qA,qM,qL]
 apply hK;clear hK K
 refine W.seq ?_
 refine W.r fun K hK=>?_
 simp(disch:=omega)only[↓RU,RV,RH,↓reduceIte,qE,reduceCtorEq,if_pos,↓RS,RG,qA,qM,qL,zam,z0g,zaa,z0h]
 apply hK;clear hK K
 refine W.block ?_
 refine W.loopS [0,3,6,7,8] (fun n vs S=>∃ j v0 v1 t:Nat,n=long - j∧j≤long∧vs=[zat g rs,.ref 0 0 0,slL (zbc g level line fr j).1 1 v0,slL (zbc g level line fr j).2 2 v1,.int .i64 (((fr+j:Nat):Int))]∧S=⟨(.arr 0 156 4 [.bool level,.int .i64 line,.int .i64 fr,.int .i64 long])::tlL (zbc g level line fr j).1 (zbc g level line fr j).2 v0 v1,t⟩) long ?_ ?_
 ·refine ⟨1,[],[zat g rs,.ref 0 0 0,slL (zbc g level line fr 0).1 1 0,slL (zbc g level line fr 0).2 2 0,.int .i64 (((fr+0:Nat):Int))],⟨(.arr 0 156 4 [.bool level,.int .i64 line,.int .i64 fr,.int .i64 long])::tlL (zbc g level line fr 0).1 (zbc g level line fr 0).2 0 0,2⟩,?_,?_,0,0,0,2,rfl,by omega,rfl,rfl⟩
  ·simp [-qU,Env.put,Env.of,zaf,zbi,zah,zak,zap,zar,zbo,zbp,zcm,zbn,za3,zbq,zcl,zcn,za5,za4,zas,zbm,zbr,zck,za1,za0,zaq,za2,zbl,zeq,qS,qP,qC,zbc,slL]
  simp [-qU,Env.put,Env.of,zaf,zbi,zah,zak,zap,zar,zbo,zbp,zcm,zbn,za3,zbq,zcl,zcn,za5,za4,zas,zbm,zbr,zck,za1,za0,zaq,za2,zbl,zeq,qS,qP,qC,zbc,tlL]
 rintro n vs S - ⟨j,v0,v1,t,rfl,h_j,rfl,rfl⟩
 refine W.seq ?_
 refine W.r fun K hK=>?_
 simp(disch:=omega)only[↓RU,RV,RH,↓reduceIte,qE,reduceCtorEq,if_pos,w64,↓RS,RG,qA,qM,qL,zam,z0g,zaa,z0h]
 apply hK;clear hK K
 refine W.cond rfl (fun h=>?_) (fun h=>?_)
 ·try simp only[RL]at h
  have hjl:j<long:=by omega
  have hij:=hin (fr+j) (by omega) (by omega)
  have hal:=zlm (g:=g) (level:=level) (line:=line) (fr:=fr) (n:=j)
  refine W.skip ?_
  refine xn ?_
  refine W.seq ?_
  refine W.block ?_
  refine W.r fun K hK=>?_
  simp(disch:=omega)only[↓RU,RV,RH,↓reduceIte,qE,reduceCtorEq,if_pos,qN,↓RS,RG,qA,qM,qL,zam,z0g,zaa,z0h]
  refine zac.pc (zz8 hg rs hij) rfl (.inl rfl) ?_
  simp(disch:=omega)only[↓RU,RV,RH,↓reduceIte,qE,reduceCtorEq,if_pos,qN,↓RS,RG,qA,qM,qL,zam,z0g,zaa,z0h]
  apply hK;clear hK K
  refine W.k fun K hK=>?_
  by_cases hj0:j=0
  ·skip
   subst hj0
   rw [show (zbc g level line fr 0)=([],[]) from rfl]
   rw [show slL ([],[]).1 1 v0 = .nils from rfl,show slL ([],[]).2 2 v1 = .nils from rfl,show tlL ([],[]).1 ([],[]).2 v0 v1=[] from rfl]
   simp(disch:=omega)only[↓RU,RV,RH,↓reduceIte,qE,reduceCtorEq,if_pos,↓RS,RG,qA,qM,qL,zab,zaa]
   apply hK;clear hK K
   refine XbN ?_
   refine xn ?_
   refine W.k fun K hK=>?_
   simp(disch:=omega)only[↓RU,RV,RH,↓reduceIte,qE,reduceCtorEq,if_pos,w64,↓RS,RG,qA,qM,qL,zaa]
   apply hK;clear hK K
   refine xn ?_
   refine ⟨long - ((0+1)),by omega,1,[2,4],[zat g rs,.ref 0 0 0,slL (zbc g level line fr (0+1)).1 1 (t+4),slL (zbc g level line fr (0+1)).2 2 (t+4),.int .i64 (((fr+(0+1):Nat):Int))],⟨(.arr 0 156 4 [.bool level,.int .i64 line,.int .i64 fr,.int .i64 long])::tlL (zbc g level line fr (0+1)).1 (zbc g level line fr (0+1)).2 (t+4) (t+4),(t+5)⟩,?_,?_,(0+1),(t+4),(t+4),(t+5),rfl,by omega,rfl,rfl⟩
   ·simp [-qU,Env.put,Env.of,zaf,zbi,zah,zak,zap,zar,zbo,zbp,zcm,zbn,za3,zbq,zcl,zcn,za5,za4,zas,zbm,zbr,zck,za1,za0,zaq,za2,zbl,zeq,qS,qP,qC,show zbc g level line fr 0=([],[]) from rfl,show List.idxOf 4 [2,4]=1 from rfl,Int.add_assoc,zgg,zgh,zra,hal.1,hal.2]
   simp [-qU,Env.put,Env.of,zaf,zbi,zah,zak,zap,zar,zbo,zbp,zcm,zbn,za3,zbq,zcl,zcn,za5,za4,zas,zbm,zbr,zck,za1,za0,zaq,za2,zbl,zeq,qS,qP,qC,show zbc g level line fr 0=([],[]) from rfl,show List.idxOf 4 [2,4]=1 from rfl,zgg,zgh,z0e,zii,z8y,hal.1,hal.2]
  skip
  have hne1:(zbc g level line fr j).1≠[]:=by intro h; have:=hal.1; rw [h]at this; simp at this; omega
  have hne2:(zbc g level line fr j).2≠[]:=by intro h; have:=hal.2; rw [h]at this; simp at this; omega
  rw [zra hne1,zra hne2,z0e hne1]
  simp(disch:=omega)only[↓RU,RV,RH,↓reduceIte,qE,reduceCtorEq,if_pos,↓RS,RG,qA,qM,qL,zab,zaa,hal.1,hal.2]
  apply hK;clear hK K
  refine XbN ?_
  refine xn ?_
  refine W.k fun K hK=>?_
  simp(disch:=omega)only[↓RU,RV,RH,↓reduceIte,qE,reduceCtorEq,if_pos,w64,↓RS,RG,qA,qM,qL,zaa]
  apply hK;clear hK K
  refine xn ?_
  refine ⟨long - ((j+1)),by omega,3,[],[zat g rs,.ref 0 0 0,slL (zbc g level line fr (j+1)).1 1 (t+1),slL (zbc g level line fr (j+1)).2 2 (t+3),.int .i64 (((fr+(j+1):Nat):Int))],⟨(.arr 0 156 4 [.bool level,.int .i64 line,.int .i64 fr,.int .i64 long])::tlL (zbc g level line fr (j+1)).1 (zbc g level line fr (j+1)).2 (t+1) (t+3),(t+5)⟩,?_,?_,(j+1),(t+1),(t+3),(t+5),rfl,by omega,rfl,rfl⟩
  ·simp [-qU,Env.put,Env.of,zaf,zbi,zah,zak,zap,zar,zbo,zbp,zcm,zbn,za3,zbq,zcl,zcn,za5,za4,zas,zbm,zbr,zck,za1,za0,zaq,za2,zbl,zeq,qS,qP,qC,Int.add_assoc,zgg,zgh,zra,hal.1,hal.2]
  simp [-qU,Env.put,Env.of,zaf,zbi,zah,zak,zap,zar,zbo,zbp,zcm,zbn,za3,zbq,zcl,zcn,za5,za4,zas,zbm,zbr,zck,za1,za0,zaq,za2,zbl,zeq,qS,qP,qC,zgg,zgh,z0e,zii,z8y,hal.1,hal.2]
 try simp only[RL]at h
 obtain rfl:long=j:=by omega
 refine W.exit ?_
 refine xe ?_
 refine xe ?_
 refine XBlock.hit ?_
 refine xn ?_
 refine W.r fun K hK=>?_
 have hal:=zlm (g:=g) (level:=level) (line:=line) (fr:=fr) (n:=long)
 have hne1:(zbc g level line fr long).1≠[]:=by intro h; have:=hal.1; rw [h]at this; simp at this; omega
 have hne2:(zbc g level line fr long).2≠[]:=by intro h; have:=hal.2; rw [h]at this; simp at this; omega
 rw [zra hne1,zra hne2,z0e hne1]
 simp(disch:=omega)only[↓RU,RV,RH,↓reduceIte,qE,reduceCtorEq,if_pos,qN,↓RS,RG,qA,qM,qL]
 refine zac.ev (zlo (F:=[(.arr 0 156 4 [.bool level,.int .i64 line,.int .i64 fr,.int .i64 long])]) (R:=[.arr v1 3 1 ((zbc g level line fr long).2.map (.int .i64))]) (l:=(zbc g level line fr long).1) (by omega)) ?_
 rintro _ _ ⟨z1,rfl,rfl⟩
 simp(disch:=omega)only[↓RU,RV,RH,↓reduceIte,qE,reduceCtorEq,if_pos,qN,↓RS,RG,qA,qM,qL]
 refine zac.ev (zlo (F:=[(.arr 0 156 4 [.bool level,.int .i64 line,.int .i64 fr,.int .i64 long]),.arr v0 3 1 ((ddp (zbc g level line fr long).1++z1).map (.int .i64))]) (R:=[]) (l:=(zbc g level line fr long).2) (by omega)) ?_
 rintro _ _ ⟨z2,rfl,rfl⟩
 simp(disch:=omega)only[↓RU,RV,RH,↓reduceIte,qE,reduceCtorEq,if_pos,qN,↓RS,RG,qA,qM,qL]
 apply hK;clear hK K
 refine W.ret ?_
 refine Br rfl ?_
 exact zl6 (zvb (k:=7) rfl) (zvb (k:=7) rfl)
abbrev eBools (l:List Bool):PV := .sl (l.map .bool) l.length
abbrev zgk (M:List (List Bool)):PV := .sl (M.map eBools) M.length
theorem zav {S S':Store} (h:S=S'):S.take S.obs.length=S':=by rw [zan,h]
def Sq (n:Nat) (M:List (List Bool)):Prop:=M.length=n∧∀ r∈M,r.length=n
def zb9 (M:List (List Bool)) (a b:Nat):Bool:=(M[a]?.getD [])[b]?.getD false
def z11 (M:List (List Bool)) (a b:Nat) (x:Bool):List (List Bool):=M.set a ((M[a]?.getD []).set b x)
theorem Sq.at_ {n:Nat} {M:List (List Bool)} (h:Sq n M) {a b:Nat} (ha:a<n) (hb:b<n):∃ row,M[a]?=some row∧row.length=n∧row[b]?=some (zb9 M a b):=by
 obtain ⟨row,hr,hm⟩:=zai (show a<M.length by rw [h.1]; exact ha)
 have hl:=h.2 row hm
 obtain ⟨x,hx,-⟩:=zai (show b<row.length by omega)
 exact ⟨row,hr,hl,by simp [zb9,hr,hx]⟩
theorem Sq.set {n:Nat} {M:List (List Bool)} (h:Sq n M) {a b:Nat} {x:Bool} (ha:a<n):Sq n (z11 M a b x):=by
 obtain ⟨row,hr,hm⟩:=zai (show a<M.length by rw [h.1]; exact ha)
 refine ⟨by simp [z11,h.1],fun r hr'=>?_⟩
 rcases List.mem_or_eq_of_mem_set hr' with h1 | rfl
 ·exact h.2 r h1
 simp [hr,h.2 row hm]
theorem zgd {M:List (List Bool)} {a b:Nat} {x:Bool} {row:List Bool} (h:M[a]?=some row):z11 M a b x=M.set a (row.set b x):=by simp [z11,h]
def zbj (n:Nat):List (List Bool):=List.replicate n (List.replicate n false)
theorem zdy (n:Nat):Sq n (zbj n):=⟨by simp [zbj],fun r hr=>by rw [(List.mem_replicate.1 hr).2]; simp⟩
def zba (k t:Nat) (M:List (List Bool)):List Ob :=
 .arr t 159 1 ((List.range M.length).map fun i => .loc (k+1+i) t 0 M.length)::M.map fun r => .arr t 4 1 (r.map .bool)
theorem zad {k t:Nat} {M:List (List Bool)}:(zba k t M).length=M.length+1:=by simp [zba]
theorem z2e {F R:List Ob} {t:Nat} {M:List (List Bool)} {n:Nat} (h:M.length=n):(F++(zba F.length t M++R))[F.length]?=some (.arr t 159 1 ((List.range n).map fun i => .loc (F.length+1+i) t 0 n)):=by
 subst h; simp [zba]
theorem zvd {F R:List Ob} {t a:Nat} {M:List (List Bool)} {row:List Bool} (h:M[a]?=some row):(F++(zba F.length t M++R))[F.length+1+a]?=some (.arr t 4 1 (row.map .bool)):=by
 have ha:=zbd h
 rw [List.getElem?_append_right (by omega),List.getElem?_append_left (by rw [zad]; omega),show F.length+1+a - F.length=a+1 by omega]
 simp [zba,h]
theorem zk8 {F R:List Ob} {t a:Nat} {M:List (List Bool)} {row:List Bool} {n:Nat} (hn:M.length=n) (h:a<n):(F++(zba F.length t M++R)).set (F.length+1+a) (.arr t 4 1 (row.map .bool))=F++(zba F.length t (M.set a row)++R):=by
 subst hn
 rw [List.set_append_right _ _ (by omega),List.set_append_left _ _ (by rw [zad]; omega),show F.length+1+a - F.length=a+1 by omega]
 simp [zba,List.map_set]
theorem zjf {n a:Nat} (h:a<n):(List.range n)[a]?=some a:=List.getElem?_range h
theorem ze7 {l:List Bool} {a:Nat} {x:Bool}:(l.map PV.bool).set a (.bool x)=(l.set a x).map PV.bool:=by rw [List.map_set]
theorem zve:∀ (n:Nat),repz [PV.bool false] n=(List.replicate n false).map PV.bool
 | 0=>rfl
 | n+1=>by rw [zg7,zve n,List.replicate_succ]; rfl
theorem zk9:∀ (n:Nat),repz [PV.nils] n=List.replicate n PV.nils
 | 0=>rfl
 | n+1=>by rw [zg7,zk9 n,List.replicate_succ]; rfl
theorem zw5 {α:Type} {f:α→PV} {g:PV→Option PV} {h:α→PV}:∀ {l:List α},(∀ a∈l,g (f a)=some (h a))→(l.map f).mapM g=some (l.map h)
 | [],_=>rfl
 | a::l,H=>by
  rw [List.map_cons,qC,H a (by simp),zw5 (l:=l) fun x hx=>H x (by simp [hx])]; rfl
theorem zz4 {α:Type} {f h:α→Ob} {S:Store} {im:Bool}:∀ {l:List α},(∀ a∈l,zv8 S im (f a)=some (h a))→zhx S im (l.map f)=some (l.map h)
 | [],_=>rfl
 | a::l,H=>by
  rw [List.map_cons,zhx,H a (by simp),Option.bind_some,zz4 (l:=l) fun x hx=>H x (by simp [hx])]; rfl
def grX (n i:Nat):List PV:=((List.range i).map fun j=>PV.loc (j+1) (j+1) 0 n)++List.replicate (n - i) .nils
def grY (n i:Nat):List Ob:=(List.range i).map fun j => .arr (j+1) 4 1 ((List.replicate n false).map .bool)
theorem ybe {n i:Nat} (h:i≤n):(grX n i).length=n:=by simp [grX]; omega
theorem ybf {n i:Nat}:(grY n i).length=i:=by simp [grY]
theorem z7j {n i:Nat}:grY n (i+1)=grY n i++[.arr (i+1) 4 1 ((List.replicate n false).map .bool)]:=by simp [grY,qS]
theorem z7i {n i:Nat} (h:i<n):(grX n i).take i++[.loc (i+1) (i+1) 0 n]++(grX n i).drop (i+1)=grX n (i+1):=by
 unfold grX
 have e:((List.range i).map fun j=>PV.loc (j+1) (j+1) 0 n).length=i:=by simp
 rw [List.take_append_of_le_length (by omega),qT (by omega)]
 have:(((List.range i).map fun j=>PV.loc (j+1) (j+1) 0 n)++List.replicate (n - i) PV.nils).drop (i+1)=List.replicate (n - (i+1)) PV.nils:=by
  rw [List.drop_append,List.drop_of_length_le (by omega),e,List.nil_append,List.drop_replicate]; congr 1; omega
 rw [this,qS]; simp
def zee (n i:Nat):List Ob := .arr 0 159 1 (grX n i)::grY n i
theorem ybh {n t:Nat} {im:Bool}:∃ k,sh (Store.take ⟨zee n n,t⟩ k) im 10 (.loc 0 0 0 n)=some (.loc 0 0 0 n)∧zhx (Store.take ⟨zee n n,t⟩ k) im (Store.take ⟨zee n n,t⟩ k).obs=some (zba 0 0 (zbj n)):=by
 refine ⟨(zee n n).length,?_⟩
 have e:Store.take ⟨zee n n,t⟩ (zee n n).length=⟨zee n n,t⟩:=zan
 rw [e]
 refine ⟨rfl,?_⟩
 have hrow:∀ j,j<n→(zee n n)[j+1]?=some (.arr (j+1) 4 1 ((List.replicate n false).map .bool)):=by
  intro j hj; simp [zee,grY,hj]
 have h1:((List.range n).map fun j=>PV.loc (j+1) (j+1) 0 n).mapM (sh ⟨zee n n,t⟩ im 10)=some ((List.range n).map fun j=>PV.loc (0+1+j) 0 0 n):=by
  refine zw5 fun j hj=>?_
  have hj:=List.mem_range.1 hj
  simp only[sh,hrow j hj,if_true]
  congr 2; omega
 have h2:zhx ⟨zee n n,t⟩ im ((List.range n).map fun j => .arr (j+1) 4 1 ((List.replicate n false).map .bool))=some ((List.range n).map fun _ => .arr 0 4 1 ((List.replicate n false).map .bool)):=by
  refine zz4 fun j _=>?_
  simp only[zv8]
  rw [yco (by simp [List.all_replicate,scal])]; rfl
 have h3:(zbj n).length=n:=by simp [zbj]
 show zhx ⟨zee n n,t⟩ im (zee n n)=_
 conv=>lhs; arg 3; unfold zee grX grY
 rw [zhx,Nat.sub_self,List.replicate_zero,qN]
 simp only[zv8]
 rw [h1]
 simp only[qO,Option.bind_some]
 rw [h2]
 simp only[qO,zba,h3]
 congr 2
 simp [zbj,List.map_const']
theorem zfc {k t:Nat} {M:List (List Bool)}:(zba 0 0 M).map (z6d k t)=zba k t M:=by
 simp only[zba,List.map_cons,zll,List.map_map]
 congr 1
 ·congr 1
  apply List.map_congr_left
  intro i _
  simp only[Function.comp,z0j]
  congr 1; omega
 apply List.map_congr_left
 intro r _
 simp only[Function.comp,zll,zsw]
theorem zvc {S:Store} {im:Bool} {f k t:Nat} {M:List (List Bool)} {n:Nat} (hM:Sq n M) (h0:S.obs[k]?=some (.arr t 159 1 ((List.range n).map fun i => .loc (k+1+i) t 0 n)))
  (h1:∀ a row,M[a]?=some row→S.obs[k+1+a]?=some (.arr t 4 1 (row.map .bool))):reify S im (f+3) (.loc k t 0 n)=some (zgk M):=by
 have hm:((List.range n).map fun i=>PV.loc (k+1+i) t 0 n).mapM (reify S im (f+2))=some ((List.range n).map fun i=>eBools (M[i]?.getD [])):=by
  refine zw5 fun i hi=>?_
  have hi:=List.mem_range.1 hi
  obtain ⟨row,hr,hm⟩:=zai (show i<M.length by rw [hM.1]; exact hi)
  have hl:=hM.2 row hm
  rw [hr]
  have:=zc6 (n:=n) (k:=f+1) (im:=im) (h1 i row hr) (by simp [hl]) (z4a row)
  rw [this]
  simp [eBools,hl]
 have:=zc6 (n:=n) (k:=f+2) (im:=im) h0 (by simp) hm
 rw [this]
 have e:((List.range n).map fun i=>eBools (M[i]?.getD []))=M.map eBools:=by
  apply List.ext_getElem
  ·simp [hM.1]
  intro i a b
  have:i<M.length:=by rw [hM.1]; simpa using a
  simp [this]
 rw [e]
 simp [zgk,hM.1]
def clB (k a:Nat) (M:List (List Bool)) (b:Nat):List (List Bool):=z11 M a b (zb9 M a b || (zb9 M a k && zb9 M k b))
def clA (n k:Nat) (M:List (List Bool)) (a:Nat):List (List Bool):=(List.range n).foldl (clB k a) M
def clK (n:Nat) (M:List (List Bool)) (k:Nat):List (List Bool):=(List.range n).foldl (clA n k) M
def ze8 (M:List (List Bool)):List (List Bool):=(List.range M.length).foldl (clK M.length) M
theorem Sq.foldl {n:Nat} {f:List (List Bool)→Nat→List (List Bool)}:∀ (i:Nat) {M:List (List Bool)},(∀ M j,j<i→Sq n M→Sq n (f M j))→Sq n M→Sq n ((List.range i).foldl f M)
 | 0,M,_,h=>by simpa using h
 | i+1,M,hf,h=>by
  rw [zca]
  exact hf _ i (Nat.lt_succ_self i) (Sq.foldl i (fun M j hj=>hf M j (by omega)) h)
theorem Sq.clB {n:Nat} {M:List (List Bool)} {k a b:Nat} (h:Sq n M) (ha:a<n):Sq n (clB k a M b):=h.set ha
theorem Sq.clA {n:Nat} {M:List (List Bool)} {k a:Nat} (h:Sq n M) (ha:a<n):Sq n (clA n k M a):=Sq.foldl n (fun _ _ _ h=>h.clB ha) h
theorem Sq.clK {n:Nat} {M:List (List Bool)} {k:Nat} (h:Sq n M):Sq n (clK n M k):=Sq.foldl n (fun _ _ hj h=>h.clA hj) h
theorem Sq.close {n:Nat} {M:List (List Bool)} (h:Sq n M):Sq n (ze8 M):=by
 unfold ze8; rw [h.1]; exact Sq.foldl n (fun _ _ _ h=>h.clK) h
theorem zf0 {nr:Nat} (hn:nr≤9):PN Tryz.prog 126 [.int .i64 nr] (.loc 0 0 0 nr) (zba 0 0 (zbj nr)) false:=by
 refine PN.of ⟨Tryz.func126,by kernel_rfl,rfl,by kernel_rfl⟩ zao mixed (by show 1≤Tryz.f126.ntmps; decide) ?_
 refine W.r fun K hK=>?_
 simp(disch:=omega)only[↓RU,RV,RH,↓reduceIte,qE,reduceCtorEq,if_pos,↓RS,RG,qA,qM,qL]
 apply hK;clear hK K
 refine W.r fun K hK=>?_
 simp(disch:=omega)only[↓RU,RV,RH,↓reduceIte,qE,reduceCtorEq,if_pos,↓RS,RG,qA,qM,qL,ty0,ty4,zam,zd0,zk9,zef]
 apply hK;clear hK K
 refine W.seq ?_
 refine W.r fun K hK=>?_
 simp(disch:=omega)only[↓RU,RV,RH,↓reduceIte,qE,reduceCtorEq,if_pos,↓RS,RG,qA,qM,qL,ty0,ty4,zam,zd0]
 apply hK;clear hK K
 refine W.block ?_
 refine W.loop [0,3,8,9] (fun n vs S=>∃ i:Nat,n=nr - i∧i≤nr∧vs=[.int .i64 nr,.loc 0 0 0 nr,.int .i64 nr,.int .i64 i]∧S=⟨.arr 0 159 1 (grX nr i)::grY nr i,i+1⟩) (nr) ?_ ?_
 ·refine ⟨_,0,rfl,Nat.zero_le _,?_,zav (by simp [grX,grY])⟩
  simp [Env.put,Env.of,zaf]
 rintro n vs S - ⟨i,rfl,h_i,rfl,rfl⟩
 refine W.r fun K hK=>?_
 simp(disch:=omega)only[↓RU,RV,RH,↓reduceIte,qE,reduceCtorEq,if_pos,w64,↓RS,RG,qA,qM,qL,zaa]
 apply hK;clear hK K
 refine W.seq ?_
 refine W.cond rfl (fun h=>?_) (fun h=>?_)
 ·try simp only[RL]at h
  have hx:=ybe (show i≤nr by omega)
  refine W.skip ?_
  refine xn ?_
  refine W.seq ?_
  refine W.block ?_
  refine W.r fun K hK=>?_
  simp(disch:=omega)only[↓RU,RV,RH,↓reduceIte,qE,reduceCtorEq,if_pos,↓RS,RG,qA,qM,qL]
  apply hK;clear hK K
  refine W.k fun K hK=>?_
  simp(disch:=omega)only[↓RU,RV,RH,↓reduceIte,qE,reduceCtorEq,if_pos,↓RS,RG,qA,qM,qL,ty0,ty4,zam,zd0,zve,zef,ybf,hx,z7i]
  apply hK;clear hK K
  refine XbN ?_
  refine xn ?_
  refine W.k fun K hK=>?_
  simp(disch:=omega)only[↓RU,RV,RH,↓reduceIte,qE,reduceCtorEq,if_pos,w64,↓RS,RG,qA,qM,qL,zaa]
  apply hK;clear hK K
  refine xn ?_
  refine ⟨nr - (i+1),by omega,_,i+1,rfl,by omega,?_,zav (by simp [z7j])⟩
  simp [Env.put,Env.of]
 try simp only[RL]at h
 refine W.exit ?_
 refine xe ?_
 refine xe ?_
 refine XBlock.hit ?_
 refine xn ?_
 refine W.r fun K hK=>?_
 simp(disch:=omega)only[↓RU,RV,RH,↓reduceIte,qE,reduceCtorEq,if_pos,↓RS,RG,qA,qM,qL]
 apply hK;clear hK K
 refine W.ret ?_
 refine Br rfl ?_
 obtain rfl:nr=i:=by omega
 exact ybh
theorem zyb {F R:List Ob} {t tk nr:Nat} {M:List (List Bool)} (hM:Sq nr M) (hn:nr≤9):Ev Tryz.prog 129 [.loc F.length t 0 nr] ⟨F++(zba F.length t (M)++R),tk⟩ fun v S=>v = .tup []∧S=⟨F++(zba F.length t (ze8 M)++R),tk⟩:=by
 refine Ev.of ⟨Tryz.func129,by kernel_rfl,rfl,by kernel_rfl⟩ zao mixed (by show 1≤Tryz.f129.ntmps; decide) ?_
 refine W.r fun K hK=>?_
 simp(disch:=omega)only[↓RU,RV,RH,↓reduceIte,qE,reduceCtorEq,if_pos,↓RS,RG,qA,qM,qL,ty0,ty4,zam,zd0,z2e hM.1]
 apply hK;clear hK K
 refine W.block ?_
 refine W.loop [0,6,7] (fun n vs S=>∃ k:Nat,n=nr - k∧k≤nr∧vs=[.loc F.length t 0 nr,.int .i64 nr,.int .i64 k]∧S=⟨F++(zba F.length t ((List.range k).foldl (clK nr) M)++R),tk⟩) (nr) ?_ ?_
 ·refine ⟨_,0,rfl,Nat.zero_le _,?_,zav rfl⟩
  simp [Env.put,Env.of,zaf]
 rintro n vs S - ⟨k,rfl,h_k,rfl,rfl⟩
 refine W.r fun K hK=>?_
 simp(disch:=omega)only[↓RU,RV,RH,↓reduceIte,qE,reduceCtorEq,if_pos,w64,↓RS,RG,qA,qM,qL,zaa]
 apply hK;clear hK K
 refine W.seq ?_
 refine W.cond rfl (fun h=>?_) (fun h=>?_)
 ·try simp only[RL]at h
  have hX:=Sq.foldl (f:=clK nr) k (fun _ _ _ h=>h.clK) hM
  generalize hXe:(List.range k).foldl (clK nr) M=X at hX
  refine W.skip ?_
  refine xn ?_
  refine W.seq ?_
  refine W.block ?_
  refine W.r fun K hK=>?_
  simp(disch:=omega)only[↓RU,RV,RH,↓reduceIte,qE,reduceCtorEq,if_pos,↓RS,RG,qA,qM,qL]
  apply hK;clear hK K
  refine W.r fun K hK=>?_
  simp(disch:=omega)only[↓RU,RV,RH,↓reduceIte,qE,reduceCtorEq,if_pos,↓RS,RG,qA,qM,qL,ty0,ty4,zam,zd0,hXe,z2e hX.1]
  apply hK;clear hK K
  refine W.block ?_
  refine W.loop [0,2,6,7,11,12] (fun n vs S=>∃ a:Nat,n=nr - a∧a≤nr∧vs=[.loc F.length t 0 nr,.int .i64 k,.int .i64 nr,.int .i64 k,.int .i64 nr,.int .i64 a]∧S=⟨F++(zba F.length t ((List.range a).foldl (clA nr k) X)++R),tk⟩) (nr) ?_ ?_
  ·refine ⟨_,0,rfl,Nat.zero_le _,?_,zav rfl⟩
   simp [Env.put,Env.of,zaf]
  rintro n vs S - ⟨a,rfl,h_a,rfl,rfl⟩
  refine W.r fun K hK=>?_
  simp(disch:=omega)only[↓RU,RV,RH,↓reduceIte,qE,reduceCtorEq,if_pos,w64,↓RS,RG,qA,qM,qL,zaa]
  apply hK;clear hK K
  refine W.seq ?_
  refine W.cond rfl (fun h1=>?_) (fun h1=>?_)
  ·try simp only[RL]at h1
   have hY:=Sq.foldl (f:=clA nr k) a (fun _ _ hj h=>h.clA (by omega)) hX
   generalize hYe:(List.range a).foldl (clA nr k) X=Y at hY
   refine W.skip ?_
   refine xn ?_
   refine W.seq ?_
   refine W.block ?_
   refine W.r fun K hK=>?_
   simp(disch:=omega)only[↓RU,RV,RH,↓reduceIte,qE,reduceCtorEq,if_pos,↓RS,RG,qA,qM,qL]
   apply hK;clear hK K
   refine W.r fun K hK=>?_
   simp(disch:=omega)only[↓RU,RV,RH,↓reduceIte,qE,reduceCtorEq,if_pos,↓RS,RG,qA,qM,qL,ty0,ty4,zam,zd0,hYe,z2e hY.1]
   apply hK;clear hK K
   refine W.block ?_
   refine W.loop [0,2,3,6,7,11,12,16,17] (fun n vs S=>∃ b:Nat,n=nr - b∧b≤nr∧vs=[.loc F.length t 0 nr,.int .i64 k,.int .i64 a,.int .i64 nr,.int .i64 k,.int .i64 nr,.int .i64 a,.int .i64 nr,.int .i64 b]∧S=⟨F++(zba F.length t ((List.range b).foldl (clB k a) Y)++R),tk⟩) (nr) ?_ ?_
   ·refine ⟨_,0,rfl,Nat.zero_le _,?_,zav rfl⟩
    simp [Env.put,Env.of,zaf]
   rintro n vs S - ⟨b,rfl,h_b,rfl,rfl⟩
   refine W.r fun K hK=>?_
   simp(disch:=omega)only[↓RU,RV,RH,↓reduceIte,qE,reduceCtorEq,if_pos,w64,↓RS,RG,qA,qM,qL,zaa]
   apply hK;clear hK K
   refine W.seq ?_
   refine W.cond rfl (fun h2=>?_) (fun h2=>?_)
   ·try simp only[RL]at h2
    have hZ:=Sq.foldl (f:=clB k a) b (fun _ _ _ h=>h.clB (show a<nr by omega)) hY
    generalize hZe:(List.range b).foldl (clB k a) Y=Z at hZ
    have hZl:=hZ.1
    obtain ⟨ra,hra,hral,hrab⟩:=hZ.at_ (show a<nr by omega) (show b<nr by omega)
    obtain ⟨ra2,hra2,-,hrak⟩:=hZ.at_ (show a<nr by omega) (show k<nr by omega)
    obtain ⟨rk,hrk,hrkl,hrkb⟩:=hZ.at_ (show k<nr by omega) (show b<nr by omega)
    obtain rfl:ra=ra2:=by rw [hra]at hra2; exact Option.some.inj hra2
    refine W.skip ?_
    refine xn ?_
    refine W.seq ?_
    refine W.block ?_
    refine W.r fun K hK=>?_
    simp(disch:=omega)only[↓RU,RV,RH,↓reduceIte,qE,reduceCtorEq,if_pos,↓RS,RG,qA,qM,qL]
    apply hK;clear hK K
    refine W.draw_k (by kernel_rfl) fun K hK=>?_
    rcases hv:(zb9 Z a b,zb9 Z a k,zb9 Z k b) with ⟨_ | _,_ | _,_ | _⟩
    ·skip
     simp only[Prod.mk.injEq]at hv
     obtain ⟨hv1,hv2,hv3⟩:=hv
     rw [hv1]at hrab
     rw [hv2]at hrak
     rw [hv3]at hrkb
     simp(disch:=omega)only[↓RU,RV,RH,↓reduceIte,qE,reduceCtorEq,if_pos,↓RS,RG,qA,qM,qL,ty0,ty4,zam,zd0,hZe,z2e hZl,zjf,zvd hra,zvd hrk,hrab,hrak,hrkb,zbw,ze7,hral,zk8 hZl]
     apply hK;clear hK K
     refine XbN ?_
     refine xn ?_
     refine W.k fun K hK=>?_
     simp(disch:=omega)only[↓RU,RV,RH,↓reduceIte,qE,reduceCtorEq,if_pos,w64,↓RS,RG,qA,qM,qL,zaa]
     apply hK;clear hK K
     refine xn ?_
     refine ⟨nr - (b+1),by omega,_,b+1,rfl,by omega,?_,zav (by rw [zca,hZe,clB,zgd hra]; simp [hv1,hv2,hv3])⟩
     simp [Env.put,Env.of]
    ·skip
     simp only[Prod.mk.injEq]at hv
     obtain ⟨hv1,hv2,hv3⟩:=hv
     rw [hv1]at hrab
     rw [hv2]at hrak
     rw [hv3]at hrkb
     simp(disch:=omega)only[↓RU,RV,RH,↓reduceIte,qE,reduceCtorEq,if_pos,↓RS,RG,qA,qM,qL,ty0,ty4,zam,zd0,hZe,z2e hZl,zjf,zvd hra,zvd hrk,hrab,hrak,hrkb,zbw,ze7,hral,zk8 hZl]
     apply hK;clear hK K
     refine XbN ?_
     refine xn ?_
     refine W.k fun K hK=>?_
     simp(disch:=omega)only[↓RU,RV,RH,↓reduceIte,qE,reduceCtorEq,if_pos,w64,↓RS,RG,qA,qM,qL,zaa]
     apply hK;clear hK K
     refine xn ?_
     refine ⟨nr - (b+1),by omega,_,b+1,rfl,by omega,?_,zav (by rw [zca,hZe,clB,zgd hra]; simp [hv1,hv2,hv3])⟩
     simp [Env.put,Env.of]
    ·skip
     simp only[Prod.mk.injEq]at hv
     obtain ⟨hv1,hv2,hv3⟩:=hv
     rw [hv1]at hrab
     rw [hv2]at hrak
     rw [hv3]at hrkb
     simp(disch:=omega)only[↓RU,RV,RH,↓reduceIte,qE,reduceCtorEq,if_pos,↓RS,RG,qA,qM,qL,ty0,ty4,zam,zd0,hZe,z2e hZl,zjf,zvd hra,zvd hrk,hrab,hrak,hrkb,zbw,ze7,hral,zk8 hZl]
     apply hK;clear hK K
     refine XbN ?_
     refine xn ?_
     refine W.k fun K hK=>?_
     simp(disch:=omega)only[↓RU,RV,RH,↓reduceIte,qE,reduceCtorEq,if_pos,w64,↓RS,RG,qA,qM,qL,zaa]
     apply hK;clear hK K
     refine xn ?_
     refine ⟨nr - (b+1),by omega,_,b+1,rfl,by omega,?_,zav (by rw [zca,hZe,clB,zgd hra]; simp [hv1,hv2,hv3])⟩
     simp [Env.put,Env.of]
    ·skip
     simp only[Prod.mk.injEq]at hv
     obtain ⟨hv1,hv2,hv3⟩:=hv
     rw [hv1]at hrab
     rw [hv2]at hrak
     rw [hv3]at hrkb
     simp(disch:=omega)only[↓RU,RV,RH,↓reduceIte,qE,reduceCtorEq,if_pos,↓RS,RG,qA,qM,qL,ty0,ty4,zam,zd0,hZe,z2e hZl,zjf,zvd hra,zvd hrk,hrab,hrak,hrkb,zbw,ze7,hral,zk8 hZl]
     apply hK;clear hK K
     refine XbN ?_
     refine xn ?_
     refine W.k fun K hK=>?_
     simp(disch:=omega)only[↓RU,RV,RH,↓reduceIte,qE,reduceCtorEq,if_pos,w64,↓RS,RG,qA,qM,qL,zaa]
     apply hK;clear hK K
     refine xn ?_
     refine ⟨nr - (b+1),by omega,_,b+1,rfl,by omega,?_,zav (by rw [zca,hZe,clB,zgd hra]; simp [hv1,hv2,hv3])⟩
     simp [Env.put,Env.of]
    ·skip
     simp only[Prod.mk.injEq]at hv
     obtain ⟨hv1,hv2,hv3⟩:=hv
     rw [hv1]at hrab
     rw [hv2]at hrak
     rw [hv3]at hrkb
     simp(disch:=omega)only[↓RU,RV,RH,↓reduceIte,qE,reduceCtorEq,if_pos,↓RS,RG,qA,qM,qL,ty0,ty4,zam,zd0,hZe,z2e hZl,zjf,zvd hra,zvd hrk,hrab,hrak,hrkb,zbw,ze7,hral,zk8 hZl]
     apply hK;clear hK K
     refine XbN ?_
     refine xn ?_
     refine W.k fun K hK=>?_
     simp(disch:=omega)only[↓RU,RV,RH,↓reduceIte,qE,reduceCtorEq,if_pos,w64,↓RS,RG,qA,qM,qL,zaa]
     apply hK;clear hK K
     refine xn ?_
     refine ⟨nr - (b+1),by omega,_,b+1,rfl,by omega,?_,zav (by rw [zca,hZe,clB,zgd hra]; simp [hv1,hv2,hv3])⟩
     simp [Env.put,Env.of]
    ·skip
     simp only[Prod.mk.injEq]at hv
     obtain ⟨hv1,hv2,hv3⟩:=hv
     rw [hv1]at hrab
     rw [hv2]at hrak
     rw [hv3]at hrkb
     simp(disch:=omega)only[↓RU,RV,RH,↓reduceIte,qE,reduceCtorEq,if_pos,↓RS,RG,qA,qM,qL,ty0,ty4,zam,zd0,hZe,z2e hZl,zjf,zvd hra,zvd hrk,hrab,hrak,hrkb,zbw,ze7,hral,zk8 hZl]
     apply hK;clear hK K
     refine XbN ?_
     refine xn ?_
     refine W.k fun K hK=>?_
     simp(disch:=omega)only[↓RU,RV,RH,↓reduceIte,qE,reduceCtorEq,if_pos,w64,↓RS,RG,qA,qM,qL,zaa]
     apply hK;clear hK K
     refine xn ?_
     refine ⟨nr - (b+1),by omega,_,b+1,rfl,by omega,?_,zav (by rw [zca,hZe,clB,zgd hra]; simp [hv1,hv2,hv3])⟩
     simp [Env.put,Env.of]
    ·skip
     simp only[Prod.mk.injEq]at hv
     obtain ⟨hv1,hv2,hv3⟩:=hv
     rw [hv1]at hrab
     rw [hv2]at hrak
     rw [hv3]at hrkb
     simp(disch:=omega)only[↓RU,RV,RH,↓reduceIte,qE,reduceCtorEq,if_pos,↓RS,RG,qA,qM,qL,ty0,ty4,zam,zd0,hZe,z2e hZl,zjf,zvd hra,zvd hrk,hrab,hrak,hrkb,zbw,ze7,hral,zk8 hZl]
     apply hK;clear hK K
     refine XbN ?_
     refine xn ?_
     refine W.k fun K hK=>?_
     simp(disch:=omega)only[↓RU,RV,RH,↓reduceIte,qE,reduceCtorEq,if_pos,w64,↓RS,RG,qA,qM,qL,zaa]
     apply hK;clear hK K
     refine xn ?_
     refine ⟨nr - (b+1),by omega,_,b+1,rfl,by omega,?_,zav (by rw [zca,hZe,clB,zgd hra]; simp [hv1,hv2,hv3])⟩
     simp [Env.put,Env.of]
    skip
    simp only[Prod.mk.injEq]at hv
    obtain ⟨hv1,hv2,hv3⟩:=hv
    rw [hv1]at hrab
    rw [hv2]at hrak
    rw [hv3]at hrkb
    simp(disch:=omega)only[↓RU,RV,RH,↓reduceIte,qE,reduceCtorEq,if_pos,↓RS,RG,qA,qM,qL,ty0,ty4,zam,zd0,hZe,z2e hZl,zjf,zvd hra,zvd hrk,hrab,hrak,hrkb,zbw,ze7,hral,zk8 hZl]
    apply hK;clear hK K
    refine XbN ?_
    refine xn ?_
    refine W.k fun K hK=>?_
    simp(disch:=omega)only[↓RU,RV,RH,↓reduceIte,qE,reduceCtorEq,if_pos,w64,↓RS,RG,qA,qM,qL,zaa]
    apply hK;clear hK K
    refine xn ?_
    refine ⟨nr - (b+1),by omega,_,b+1,rfl,by omega,?_,zav (by rw [zca,hZe,clB,zgd hra]; simp [hv1,hv2,hv3])⟩
    simp [Env.put,Env.of]
   try simp only[RL]at h2
   obtain rfl:nr=b:=by omega
   refine W.exit ?_
   refine xe ?_
   refine xe ?_
   refine XBlock.hit ?_
   refine XbN ?_
   refine xn ?_
   refine W.k fun K hK=>?_
   simp(disch:=omega)only[↓RU,RV,RH,↓reduceIte,qE,reduceCtorEq,if_pos,w64,↓RS,RG,qA,qM,qL,zaa]
   apply hK;clear hK K
   refine xn ?_
   refine ⟨nr - (a+1),by omega,_,a+1,rfl,by omega,?_,zav (by rw [zca,hYe]; rfl)⟩
   simp [Env.put,Env.of]
  try simp only[RL]at h1
  obtain rfl:nr=a:=by omega
  refine W.exit ?_
  refine xe ?_
  refine xe ?_
  refine XBlock.hit ?_
  refine XbN ?_
  refine xn ?_
  refine W.k fun K hK=>?_
  simp(disch:=omega)only[↓RU,RV,RH,↓reduceIte,qE,reduceCtorEq,if_pos,w64,↓RS,RG,qA,qM,qL,zaa]
  apply hK;clear hK K
  refine xn ?_
  refine ⟨nr - (k+1),by omega,_,k+1,rfl,by omega,?_,zav (by rw [zca,hXe]; rfl)⟩
  simp [Env.put,Env.of]
 try simp only[RL]at h
 obtain rfl:nr=k:=by omega
 refine W.exit ?_
 refine xe ?_
 refine xe ?_
 refine XBlock.hit ?_
 refine zeo.norm rfl ?_
 refine ⟨_,rfl,zav ?_⟩
 rw [ze8,hM.1]
section
def relB (a:Int) (bs:List Int) (M:List (List Bool)):List (List Bool):=bs.foldl (fun M b=>z11 M a.toNat b.toNat true) M
def relW (M:List (List Bool)) (la bs:List Int):List (List Bool):=la.foldl (fun M a=>relB a bs M) M
def zay (g:List (List Int)) (w:Wall):List Int × List Int :=
 (ddp (zbc g w.level w.line.toNat w.fr.toNat w.long.toNat).1,ddp (zbc g w.level w.line.toNat w.fr.toNat w.long.toNat).2)
def znm (g:List (List Int)) (M:List (List Bool) × List (List Bool)) (w:Wall):List (List Bool) × List (List Bool) :=
 if w.level then (M.1,relW M.2 (zay g w).1 (zay g w).2) else (relW M.1 (zay g w).1 (zay g w).2,M.2)
def z70 (g:List (List Int)) (nh nw n:Nat):List (List Bool) × List (List Bool):=(zb8 g nh nw).foldl (znm g) (zbj n,zbj n)
def zw4 (g:List (List Int)) (nh nw n:Nat):List (List Bool):=ze8 (z70 g nh nw n).1
def znv (g:List (List Int)) (nh nw n:Nat):List (List Bool):=ze8 (z70 g nh nw n).2
def zs2 (g:List (List Int)) (nh nw:Nat) (w:Wall):Prop :=
 ∃ line fr long:Nat,w=⟨w.level,line,fr,long⟩∧1≤long∧∀ j,fr≤j→j<fr+long→InL nh nw w.level line j∧znh g w.level line j=true
theorem zv3 {g:List (List Int)} {nh nw:Nat} {level:Bool} {line places:Nat} (hin:∀ j,j<places→InL nh nw level line j) {ws:List Wall} (hws:∀ w∈ws,zs2 g nh nw w):∀ n,n≤places →
  (∀ w∈(zbs g level line ws n).1,zs2 g nh nw w)∧((zbs g level line ws n).2=true→∃ ws0,∃ fr long:Nat,(zbs g level line ws n).1=ws0++[⟨level,line,fr,long⟩]∧fr+long=n∧1≤long∧∀ j,fr≤j→j<fr+long→InL nh nw level line j∧znh g level line j=true)
 | 0,_=>⟨hws,by simp [zbs]⟩
 | n+1,hn=>by
  obtain ⟨ih1,ih2⟩:=zv3 hin hws n (by omega)
  rw [zdr]
  generalize zbs g level line ws n=s at ih1 ih2
  obtain ⟨ws',op⟩:=s
  simp only at ih1 ih2
  cases hd:znh g level line n with
  | false=>simp only[zd1,Bool.false_and,qF,if_false]; exact ⟨ih1,by simp⟩
  | true =>
   cases op with
   | false =>
    simp only[zd1,Bool.and_false,qF,if_false,if_true]
    have hnew:∀ j,n≤j→j<n+1→InL nh nw level line j∧znh g level line j=true:=by
     intro j h1 h2
     obtain rfl:j=n:=by omega
     exact ⟨hin _ (by omega),hd⟩
    refine ⟨fun w hw=>?_,fun _=>⟨ws',n,1,rfl,rfl,qR _,hnew⟩⟩
    rcases List.mem_append.1 hw with h | h
    ·exact ih1 w h
    rw [List.mem_singleton]at h; subst h
    exact ⟨line,n,1,rfl,qR _,hnew⟩
   | true =>
    obtain ⟨ws0,fr,long,e,h1,h2,h3⟩:=ih2 rfl
    subst e
    have hnew:∀ j,fr≤j→j<fr+(long+1)→InL nh nw level line j∧znh g level line j=true:=by
     intro j a b
     by_cases hj:j=n
     ·subst hj; exact ⟨hin _ (by omega),hd⟩
     exact h3 j a (by omega)
    simp only[zd1,Bool.and_self,if_true,List.dropLast_concat,List.getLast?_concat,qO,Option.toList_some]
    refine ⟨fun w hw=>?_,fun _=>⟨ws0,fr,long+1,rfl,by omega,by omega,hnew⟩⟩
    rcases List.mem_append.1 hw with h | h
    ·exact ih1 w (List.mem_append_left _ h)
    rw [List.mem_singleton]at h; subst h
    exact ⟨line,fr,long+1,rfl,by omega,hnew⟩
theorem zme {g:List (List Int)} {nh nw:Nat} {level:Bool} {lines places:Nat} (hin:∀ l j,1≤l→l<lines→j<places→InL nh nw level l j) {ws:List Wall} (hws:∀ w∈ws,zs2 g nh nw w):∀ line,line≤lines →
  ∀ w∈zbz g level places ws line,zs2 g nh nw w
 | 0,_=>by simpa [zbz] using hws
 | line+1,hl=>by
  have ih:=zme hin hws line (by omega)
  by_cases h:1≤line
  ·rw [zeb h]
   exact (zv3 (fun j hj=>hin line j h (by omega) hj) ih places (qR _)).1
  have:line=0:=by omega
  subst this
  simpa [zbz] using hws
theorem zc7 {g:List (List Int)} {nh nw:Nat}:∀ w∈zb8 g nh nw,zs2 g nh nw w :=
 zme (lines:=nh) (fun l j h1 h2 h3=>⟨h1,by simp; omega⟩) (zme (lines:=nw) (fun l j h1 h2 h3=>⟨h1,by simp; omega⟩) (by simp) nw (qR _)) nh (qR _)
def zv6 (g:List (List Int)) (nh nw n:Nat):Prop:=∀ i j,i<nh→j<nw→0≤gz g i j∧gz g i j<n
theorem zpj {g:List (List Int)} {nh nw n:Nat} (h:zv6 g nh nw n) {level:Bool} {line j:Nat} (hi:InL nh nw level line j) :
  0≤(zb7 g level line j).1∧(zb7 g level line j).1<n∧0≤(zb7 g level line j).2∧(zb7 g level line j).2<n:=by
 obtain ⟨h1,h2⟩:=hi
 cases level with
 | true=>simp only[if_true]at h2; have a:=h (line - 1) j (by omega) h2.2; have b:=h line j h2.1 h2.2; simp only[zb7,if_true]; omega
 | false=>simp only[qF,if_false]at h2; have a:=h j (line - 1) h2.2 (by omega); have b:=h j line h2.2 h2.1; simp only[zb7,qF,if_false]; omega
theorem z27 {l:List Int} {x:Int} (h:x∈ddp l):x∈l:=by
 unfold ddp at h
 have:∀ (l m:List Int),x∈l.foldl zpu m→x∈m∨x∈l:=by
  intro l
  induction l with
  | nil=>intro m h; exact .inl h
  | cons a l ih =>
   intro m h
   rcases ih _ h with h | h
   ·rcases z8h h with h | h
    ·exact .inl h
    exact .inr (by simp [h])
   exact .inr (by simp [h])
 rcases this l [] h with h | h
 ·simp at h
 exact h
theorem zfr {g:List (List Int)} {nh nw n:Nat} (h:zv6 g nh nw n) {w:Wall} (hw:zs2 g nh nw w):(∀ x∈(zay g w).1,0≤x∧x<n)∧(∀ x∈(zay g w).2,0≤x∧x<n):=by
 obtain ⟨line,fr,long,e,h1,h2⟩:=hw
 have e1:w.line.toNat=line:=by rw [e]; simp
 have e2:w.fr.toNat=fr:=by rw [e]; simp
 have e3:w.long.toNat=long:=by rw [e]; simp
 simp only[zay,e1,e2,e3]
 refine ⟨fun x hx=>?_,fun x hx=>?_⟩
 ·have:=z27 hx
  simp only[zbc,List.mem_map,List.mem_range]at this
  obtain ⟨j,hj,rfl⟩:=this
  have:=zpj h (h2 (fr+j) (by omega) (by omega)).1
  omega
 have:=z27 hx
 simp only[zbc,List.mem_map,List.mem_range]at this
 obtain ⟨j,hj,rfl⟩:=this
 have:=zpj h (h2 (fr+j) (by omega) (by omega)).1
 omega
theorem zxk {g:List (List Int)} {nh nw:Nat} (hg:GW g nh nw) {w:Wall} (hw:zs2 g nh nw w):(zay g w).1.length≤6∧(zay g w).2.length≤6:=by
 obtain ⟨line,fr,long,e,h1,h2⟩:=hw
 have hgg:=hg.2.2
 have hb:fr+long≤6:=by
  have h:=(h2 (fr+long - 1) (by omega) (by omega)).1.2
  cases hl:w.level <;> rw [hl]at h <;> simp at h <;> omega
 have e3:w.long.toNat=long:=by rw [e]; simp
 have h3:=zlm (g:=g) (level:=w.level) (line:=w.line.toNat) (fr:=w.fr.toNat) (n:=long)
 simp only[zay,e3]
 exact ⟨Nat.le_trans (z26 _) (by omega),Nat.le_trans (z26 _) (by omega)⟩
theorem Sq.relB {n:Nat} {a:Int} (ha:a.toNat<n):∀ {bs:List Int} {M:List (List Bool)},Sq n M→Sq n (relB a bs M)
 | [],M,h=>h
 | b::bs,M,h=>by
  show Sq n (Fw.relB a bs (z11 M a.toNat b.toNat true))
  exact Sq.relB ha (h.set ha)
theorem Sq.relW {n:Nat} {bs:List Int}:∀ {la:List Int} {M:List (List Bool)},(∀ a∈la,a.toNat<n)→Sq n M→Sq n (relW M la bs)
 | [],M,_,h=>h
 | a::la,M,ha,h=>by
  show Sq n (Fw.relW (Fw.relB a bs M) la bs)
  exact Sq.relW (fun x hx=>ha x (by simp [hx])) (h.relB (ha a (by simp)))
theorem yb1 {g:List (List Int)} {nh nw n:Nat} (h:zv6 g nh nw n) {w:Wall} (hw:zs2 g nh nw w) {M:List (List Bool) × List (List Bool)} (h1:Sq n M.1) (h2:Sq n M.2):Sq n (znm g M w).1∧Sq n (znm g M w).2:=by
 have hs:=(zfr h hw).1
 unfold znm
 split
 ·exact ⟨h1,h2.relW fun a ha=>by have:=hs a ha; omega⟩
 exact ⟨h1.relW fun a ha=>by have:=hs a ha; omega,h2⟩
theorem zr5 {g:List (List Int)} {nh nw n:Nat} (h:zv6 g nh nw n):∀ {ws:List Wall},(∀ w∈ws,zs2 g nh nw w)→∀ {M:List (List Bool) × List (List Bool)},Sq n M.1→Sq n M.2→Sq n (ws.foldl (znm g) M).1∧Sq n (ws.foldl (znm g) M).2
 | [],_,M,h1,h2=>⟨h1,h2⟩
 | w::ws,hw,M,h1,h2=>by
  obtain ⟨k1,k2⟩:=yb1 h (hw w (by simp)) h1 h2
  exact zr5 h (ws:=ws) (fun x hx=>hw x (by simp [hx])) k1 k2
theorem z1t {F R:List Ob} {k t:Nat} {M:List (List Bool)} {n:Nat} (hk:F.length=k) (h:M.length=n):(F++(zba k t M++R))[k]?=some (.arr t 159 1 ((List.range n).map fun i => .loc (k+1+i) t 0 n)):=by subst hk; exact z2e h
theorem z1u {F R:List Ob} {k t a:Nat} {M:List (List Bool)} {row:List Bool} (hk:F.length=k) (h:M[a]?=some row):(F++(zba k t M++R))[k+1+a]?=some (.arr t 4 1 (row.map .bool)):=by subst hk; exact zvd h
theorem zl7 {F R:List Ob} {k t a:Nat} {M:List (List Bool)} {row:List Bool} {n:Nat} (hk:F.length=k) (hn:M.length=n) (h:a<n):(F++(zba k t M++R)).set (k+1+a) (.arr t 4 1 (row.map .bool))=F++(zba k t (M.set a row)++R):=by subst hk; exact zk8 hn h
structure Lay (n:Nat) where
 f:Ob→Ob→List Ob→List (List Bool)→List (List Bool)→List Ob
 pL:Nat
 vL:Nat
 pA:Nat
 vA:Nat
 p3:Nat
 v3:Nat
 appR:∀ {o2:Ob} {o3:Ob} {R:List Ob} {L:List (List Bool)} {A:List (List Bool)},f o2 o3 R L A=f o2 o3 [] L A++R
 len0:∀ {o2:Ob} {o3:Ob} {L:List (List Bool)} {A:List (List Bool)},L.length=n→A.length=n→(f o2 o3 [] L A).length=2*n+4
 get0:∀ {o2:Ob} {o3:Ob} {R:List Ob} {L:List (List Bool)} {A:List (List Bool)},(f o2 o3 R L A)[0]?=some o2
 set0:∀ {o2:Ob} {o3:Ob} {R:List Ob} {L:List (List Bool)} {A:List (List Bool)} {o:Ob},(f o2 o3 R L A).set 0 o=f o o3 R L A
 get3:∀ {o2:Ob} {o3:Ob} {R:List Ob} {L:List (List Bool)} {A:List (List Bool)},L.length=n→A.length=n→(f o2 o3 R L A)[p3]?=some o3
 getL:∀ {o2:Ob} {o3:Ob} {R:List Ob} {L:List (List Bool)} {A:List (List Bool)},L.length=n→(f o2 o3 R L A)[pL]?=some (.arr vL 159 1 ((List.range n).map fun i => .loc (pL+1+i) vL 0 n))
 getLr:∀ {o2:Ob} {o3:Ob} {R:List Ob} {L:List (List Bool)} {A:List (List Bool)} {a:Nat} {row:List Bool},L[a]?=some row→(f o2 o3 R L A)[pL+1+a]?=some (.arr vL 4 1 (row.map .bool))
 setL:∀ {o2:Ob} {o3:Ob} {R:List Ob} {L:List (List Bool)} {A:List (List Bool)} {a:Nat} {row:List Bool},L.length=n→a<n→(f o2 o3 R L A).set (pL+1+a) (.arr vL 4 1 (row.map .bool))=f o2 o3 R (L.set a row) A
 getA:∀ {o2:Ob} {o3:Ob} {R:List Ob} {L:List (List Bool)} {A:List (List Bool)},L.length=n→A.length=n→(f o2 o3 R L A)[pA]?=some (.arr vA 159 1 ((List.range n).map fun i => .loc (pA+1+i) vA 0 n))
 getAr:∀ {o2:Ob} {o3:Ob} {R:List Ob} {L:List (List Bool)} {A:List (List Bool)} {a:Nat} {row:List Bool},L.length=n→A[a]?=some row→(f o2 o3 R L A)[pA+1+a]?=some (.arr vA 4 1 (row.map .bool))
 setA:∀ {o2:Ob} {o3:Ob} {R:List Ob} {L:List (List Bool)} {A:List (List Bool)} {a:Nat} {row:List Bool},L.length=n→A.length=n→a<n→(f o2 o3 R L A).set (pA+1+a) (.arr vA 4 1 (row.map .bool))=f o2 o3 R L (A.set a row)
 splL:∀ {o2:Ob} {o3:Ob} {R:List Ob} {L:List (List Bool)} {A:List (List Bool)},∃ F R',pL=F.length∧∀ L':List (List Bool),L'.length=L.length→f o2 o3 R L' A=F++(zba F.length vL L'++R')
 splA:∀ {o2:Ob} {o3:Ob} {R:List Ob} {L:List (List Bool)} {A:List (List Bool)},L.length=n→∃ F R',pA=F.length∧∀ A':List (List Bool),A'.length=A.length→f o2 o3 R L A'=F++(zba F.length vA A'++R')
section
variable {n:Nat} (Y:Lay n) {o2 o3:Ob} {R:List Ob} {a t:Nat} {L A:List (List Bool)} {w w':Ob}
theorem Lay.app:Y.f o2 o3 R L A++[w]=Y.f o2 o3 (R++[w]) L A:=by rw [Y.appR,Y.appR (R:=R++[w])]; simp
theorem Lay.len (hl:L.length=n) (h:A.length=n):(Y.f o2 o3 R L A).length=2*n+4+R.length:=by rw [Y.appR,List.length_append,Y.len0 hl h]
theorem Lay.get4 (hl:L.length=n) (h:A.length=n):(Y.f o2 o3 (w::R) L A)[2*n+4]?=some w:=by
 rw [Y.appR,List.getElem?_append_right (by rw [Y.len0 hl h]; exact qR _),Y.len0 hl h]; simp
theorem Lay.set4 (hl:L.length=n) (h:A.length=n):(Y.f o2 o3 (w::R) L A).set (2*n+4) w'=Y.f o2 o3 (w'::R) L A:=by
 rw [Y.appR,List.set_append_right _ _ (by rw [Y.len0 hl h]; exact qR _),Y.len0 hl h,Y.appR (R:=w'::R)]; simp
theorem Lay.take (hl:L.length=n) (h:A.length=n):Store.take ⟨Y.f o2 o3 R L A,t⟩ (2*n+4)=⟨Y.f o2 o3 [] L A,t⟩:=by
 simp only[Store.take]
 rw [Y.appR,List.take_append_of_le_length (by rw [Y.len0 hl h]; exact qR _),qT (by rw [Y.len0 hl h]; exact qR _)]
end
def yfm (n:Nat):Lay n where
 f o2 o3 R L A:=[o2]++(zba 1 1 L++(zba (n+2) 2 A++o3::R))
 pL:=1
 vL:=1
 pA:=n+2
 vA:=2
 p3:=2*n+3
 v3:=3
 appR:=by intros; simp
 len0:=by intros o2 o3 L A h1 h2; simp [zad]; omega
 get0:=rfl
 set0:=rfl
 get3:=by
  intros o2 o3 R L A h1 h2
  rw [List.getElem?_append_right (by simp),List.getElem?_append_right (by simp [zad]; omega),List.getElem?_append_right (by simp [zad]; omega)]
  rw [zad,zad,show 2*n+3 - [o2].length - (L.length+1) - (A.length+1)=0 by simp; omega]; rfl
 getL:=fun h=>z1t rfl h
 getLr:=fun h=>z1u rfl h
 setL:=fun h1 h2=>zl7 rfl h1 h2
 getA:=by intros o2 o3 R L A h1 h2; rw [← List.append_assoc]; exact z1t (by simp [zad]; omega) h2
 getAr:=by intros o2 o3 R L A a row h1 h2; rw [← List.append_assoc]; exact z1u (by simp [zad]; omega) h2
 setA:=by intros o2 o3 R L A a row h1 h2 h3; rw [← List.append_assoc,zl7 (by simp [zad]; omega) h2 h3,List.append_assoc]
 splL:=by intros o2 o3 R L A; exact ⟨[o2],_,rfl,fun _ _=>rfl⟩
 splA:=by intros o2 o3 R L A h; exact ⟨[o2]++zba 1 1 L,o3::R,by simp [zad]; omega,fun A' _=>by rw [show ([o2]++zba 1 1 L).length=n+2 by simp [zad]; omega,List.append_assoc]⟩
def yfl (n:Nat):Lay n where
 f o2 o3 R L A:=[o2]++(zba 1 1 L++(o3::(zba (n+3) 3 A++R)))
 pL:=1
 vL:=1
 pA:=n+3
 vA:=3
 p3:=n+2
 v3:=2
 appR:=by intros; simp
 len0:=by intros o2 o3 L A h1 h2; simp [zad]; omega
 get0:=rfl
 set0:=rfl
 get3:=by
  intros o2 o3 R L A h1 h2
  rw [List.getElem?_append_right (by simp),List.getElem?_append_right (by simp [zad]; omega)]
  rw [zad,show n+2 - [o2].length - (L.length+1)=0 by simp; omega]; rfl
 getL:=fun h=>z1t rfl h
 getLr:=fun h=>z1u rfl h
 setL:=fun h1 h2=>zl7 rfl h1 h2
 getA:=by intros o2 o3 R L A h1 h2; rw [show [o2]++(zba 1 1 L++(o3::(zba (n+3) 3 A++R)))=([o2]++zba 1 1 L++[o3])++(zba (n+3) 3 A++R) by simp]; exact z1t (by simp [zad]; omega) h2
 getAr:=by intros o2 o3 R L A a row h1 h2; rw [show [o2]++(zba 1 1 L++(o3::(zba (n+3) 3 A++R)))=([o2]++zba 1 1 L++[o3])++(zba (n+3) 3 A++R) by simp]; exact z1u (by simp [zad]; omega) h2
 setA:=by intros o2 o3 R L A a row h1 h2 h3; rw [show [o2]++(zba 1 1 L++(o3::(zba (n+3) 3 A++R)))=([o2]++zba 1 1 L++[o3])++(zba (n+3) 3 A++R) by simp,zl7 (by simp [zad]; omega) h2 h3]; simp
 splL:=by intros o2 o3 R L A; exact ⟨[o2],_,rfl,fun _ _=>rfl⟩
 splA:=by intros o2 o3 R L A h; exact ⟨[o2]++zba 1 1 L++[o3],R,by simp [zad]; omega,fun A' _=>by rw [show ([o2]++zba 1 1 L++[o3]).length=n+3 by simp [zad]; omega]; simp⟩
def yfk (n:Nat):Lay n where
 f o2 o3 R L A:=[o2,o3]++(zba 2 2 L++(zba (n+3) 3 A++R))
 pL:=2
 vL:=2
 pA:=n+3
 vA:=3
 p3:=1
 v3:=1
 appR:=by intros; simp
 len0:=by intros o2 o3 L A h1 h2; simp [zad]; omega
 get0:=rfl
 set0:=rfl
 get3:=fun _ _=>rfl
 getL:=fun h=>z1t rfl h
 getLr:=fun h=>z1u rfl h
 setL:=fun h1 h2=>zl7 rfl h1 h2
 getA:=by intros o2 o3 R L A h1 h2; rw [← List.append_assoc]; exact z1t (by simp [zad]; omega) h2
 getAr:=by intros o2 o3 R L A a row h1 h2; rw [← List.append_assoc]; exact z1u (by simp [zad]; omega) h2
 setA:=by intros o2 o3 R L A a row h1 h2 h3; rw [← List.append_assoc,zl7 (by simp [zad]; omega) h2 h3,List.append_assoc]
 splL:=by intros o2 o3 R L A; exact ⟨[o2,o3],_,rfl,fun _ _=>rfl⟩
 splA:=by intros o2 o3 R L A h; exact ⟨[o2,o3]++zba 2 2 L,R,by simp [zad]; omega,fun A' _=>by rw [show ([o2,o3]++zba 2 2 L).length=n+3 by simp [zad]; omega,List.append_assoc]⟩
def z8q (lv:Bool) (M:List (List Bool) × List (List Bool)) (X:List (List Bool)):List (List Bool) × List (List Bool):=if lv then (M.1,X) else (X,M.2)
def znz (lv:Bool) (M:List (List Bool) × List (List Bool)):List (List Bool):=if lv then M.2 else M.1
theorem z5u {lv:Bool} {M:List (List Bool) × List (List Bool)}:z8q lv M (znz lv M)=M:=by cases lv <;> rfl
theorem z60 {n:Nat} {lv:Bool} {M:List (List Bool) × List (List Bool)} (h1:Sq n M.1) (h2:Sq n M.2):Sq n (znz lv M):=by cases lv <;> simp [znz,h1,h2]
theorem z71 {g:List (List Int)} {M:List (List Bool) × List (List Bool)} {w:Wall}:znm g M w=z8q w.level M (relW (znz w.level M) (zay g w).1 (zay g w).2):=by
 unfold znm z8q znz; cases w.level <;> rfl
theorem yce {M:List (List Bool)} {la bs:List Int} {x:Nat} {a:Int} (h:la[x]?=some a):relW M (la.take (x+1)) bs=relB a bs (relW M (la.take x) bs):=zfp h
theorem z5e {M:List (List Bool)} {bs:List Int} {y:Nat} {a b:Int} (h:bs[y]?=some b):relB a (bs.take (y+1)) M=z11 (relB a (bs.take y) M) a.toNat b.toNat true:=zfp h
theorem z1q {S:Store} {im:Bool} {k:Nat} {a b a2 b2:PV} (h1:reify S im k a=some a2) (h2:reify S im k b=some b2):reify S im (k+1) (.agg [a,b])=some (.agg [a2,b2]):=by
 simp [reify,h1,h2]
theorem zh7 {nr:Nat} {x:Ob} {B:List Ob}:(zba 1 1 (zbj nr)++[x]++B)[nr+1]?=some x:=by
 have:(zba 1 1 (zbj nr)).length=nr+1:=by simp [zad,zbj]
 rw [List.append_assoc,List.getElem?_append_right (by omega),this]; simp
theorem zik {nr:Nat} {x y:Ob} {B:List Ob}:(zba 1 1 (zbj nr)++[x]++B).set (nr+1) y=zba 1 1 (zbj nr)++[y]++B:=by
 have:(zba 1 1 (zbj nr)).length=nr+1:=by simp [zad,zbj]
 rw [List.append_assoc,List.set_append_right _ _ (by omega),this]; simp
theorem zjh {P:Program} {T:Tab} {e:Env} {S:Store} {ds pd:List (Option Tmp)} {t d:Nat} {o:Oper} {r l2:List Oper} {K:Env→Store→Prop} (hp:pd.contains o.dst=false) (h:zdm o.op=true)
  (k:za8 false P T ds [o] e S fun e S=>zi8 P T ds pd t d l2 r e S K):zi8 P T ds pd t d l2 (o::r) e S K:=(z0s hp h).symm ▸ k
theorem zru {l:List Ob} {a:Ob}:(l++[a])[l.length]?=some a:=by simp
theorem zek {l:List Ob} {a b:Ob}:(l++[a]).set l.length b=l++[b]:=by simp
theorem za9 {n:Nat}:(zbj n).length=n:=by simp [zbj]
end
theorem z22 {nr tk:Nat} (Y:Lay nr) {o2 o3:Ob} {R:List Ob} {L A:List (List Bool)} (hL:Sq nr L) (hn:nr≤9) :
  Ev Tryz.prog 129 [.loc Y.pL Y.vL 0 nr] ⟨Y.f o2 o3 R L A,tk⟩ fun v S=>v = .tup []∧S=⟨Y.f o2 o3 R (ze8 L) A,tk⟩:=by
 obtain ⟨F,R',hp,hF⟩:=Y.splL (o2:=o2) (o3:=o3) (R:=R) (L:=L) (A:=A)
 rw [hp,hF L rfl,hF (ze8 L) (by rw [hL.1,hL.close.1])]
 exact zyb hL hn
theorem z21 {nr tk:Nat} (Y:Lay nr) {o2 o3:Ob} {R:List Ob} {L A:List (List Bool)} (hL:L.length=nr) (hA:Sq nr A) (hn:nr≤9) :
  Ev Tryz.prog 129 [.loc Y.pA Y.vA 0 nr] ⟨Y.f o2 o3 R L A,tk⟩ fun v S=>v = .tup []∧S=⟨Y.f o2 o3 R L (ze8 A),tk⟩:=by
 obtain ⟨F,R',hp,hF⟩:=Y.splA (o2:=o2) (o3:=o3) (R:=R) (L:=L) (A:=A) hL
 rw [hp,hF A rfl,hF (ze8 A) (by rw [hA.1,hA.close.1])]
 exact zyb hA hn
theorem z4s {g:List (List Int)} {nh nw nr:Nat} (hg:GW g nh nw) {rs:List Rect} (hr:rs.length=nr) (hn:nr≤9) (hrm:zv6 g nh nw nr):PC Tryz.prog 81 [zat g rs] (.agg [zgk (zw4 g nh nw nr),zgk (znv g nh nw nr)]) true:=by
 have hwsl:=z6l (g:=g) (nh:=nh) (nw:=nw) (i:=2) hg.2.2.2.1 hg.2.2.2.2.2
 rw [show wsI g nh nw 2=zb8 g nh nw from rfl]at hwsl
 refine PC.of ⟨Tryz.func81,by kernel_rfl,rfl,by kernel_rfl⟩ zao mixed (by show 1≤Tryz.f81.ntmps; decide) ?_
 refine W.r fun K hK=>?_
 simp(disch:=omega)only[↓RU,RV,RH,↓reduceIte,qE,reduceCtorEq,if_pos,↓RS,RG,qA,qM,qL,ty0,ty4,zam,zfs,zd0,zft]
 apply hK;clear hK K
 refine W.join [0,2,3] (fun vs S=>∃ (Y:Lay nr) (tk:Nat),vs=[zat g rs,.ref 0 0 0,.ref Y.p3 Y.v3 0]∧S=⟨Y.f (.arr 0 65 2 [.nils,.nils]) (.arr Y.v3 65 2 [.loc Y.pL Y.vL 0 nr,.loc Y.pA Y.vA 0 nr]) [] (zbj nr) (zbj nr),tk⟩) ?_ ?_
 ·
  refine W.region_mk (r1:=[_,_,_,_,_,_,_,_,_,_,_,_,_]) (r2:=[_]) 13 65 3 [0,1,2,3,4,6,7,8,9,10,5,11,12] [14] [7,8,9,10] [some 20,some 21,some 22,some 23] (by kernel_rfl) (by kernel_rfl) (by kernel_rfl) rfl rfl fun K hK=>?_
  refine zjh rfl rfl ?_
  simp(disch:=omega)only[↓RU,RV,RH,↓reduceIte,qE,reduceCtorEq,if_pos,qN,↓RS,RG,qA,qM,qL,ty0,ty1,ty4,ty5,zab,zam,zc9,zb0,zfs,zct,zd0,zaa,zda,zft,zcu,hr,zfc,zad,za9,zru,zek,zh7,zik]
  refine zjh rfl rfl ?_
  simp(disch:=omega)only[↓RU,RV,RH,↓reduceIte,qE,reduceCtorEq,if_pos,qN,↓RS,RG,qA,qM,qL,ty0,ty1,ty4,ty5,zab,zam,zc9,zb0,zfs,zct,zd0,zaa,zda,zft,zcu,hr,zfc,zad,za9,zru,zek,zh7,zik]
  refine zjh rfl rfl ?_
  simp(disch:=omega)only[↓RU,RV,RH,↓reduceIte,qE,reduceCtorEq,if_pos,qN,↓RS,RG,qA,qM,qL,ty0,ty1,ty4,ty5,zab,zam,zc9,zb0,zfs,zct,zd0,zaa,zda,zft,zcu,hr,zfc,zad,za9,zru,zek,zh7,zik]
  refine zjh rfl rfl ?_
  simp(disch:=omega)only[↓RU,RV,RH,↓reduceIte,qE,reduceCtorEq,if_pos,qN,↓RS,RG,qA,qM,qL,ty0,ty1,ty4,ty5,zab,zam,zc9,zb0,zfs,zct,zd0,zaa,zda,zft,zcu,hr,zfc,zad,za9,zru,zek,zh7,zik]
  refine zjh rfl rfl ?_
  simp(disch:=omega)only[↓RU,RV,RH,↓reduceIte,qE,reduceCtorEq,if_pos,qN,↓RS,RG,qA,qM,qL,ty0,ty1,ty4,ty5,zab,zam,zc9,zb0,zfs,zct,zd0,zaa,zda,zft,zcu,hr,zfc,zad,za9,zru,zek,zh7,zik]
  refine zjh rfl rfl ?_
  simp(disch:=omega)only[↓RU,RV,RH,↓reduceIte,qE,reduceCtorEq,if_pos,qN,↓RS,RG,qA,qM,qL,ty0,ty1,ty4,ty5,zab,zam,zc9,zb0,zfs,zct,zd0,zaa,zda,zft,zcu,hr,zfc,zad,za9,zru,zek,zh7,zik]
  refine zit rfl rfl rfl (fun S'=>rfl) ?_
  refine zit rfl rfl rfl (fun S'=>rfl) ?_
  refine zit rfl rfl rfl (fun S'=>rfl) ?_
  refine zit rfl rfl rfl (fun S'=>rfl) ?_
  refine zto rfl (by decide) ?_ ?_
  ·simp(disch:=omega)only[↓RU,RV,RH,↓reduceIte,qE,reduceCtorEq,if_pos,qN,↓RS,RG,qA,qM,qL,ty0,ty1,ty4,ty5,zab,zam,zc9,zb0,zfs,zct,zd0,zaa,zda,zft,zcu,hr,zfc,zad,za9,zru,zek,zh7,zik]
   refine zac.pn (zf0 hn) rfl (.inl rfl) ?_
   simp(disch:=omega)only[↓RU,RV,RH,↓reduceIte,qE,reduceCtorEq,if_pos,qN,↓RS,RG,qA,qM,qL,ty0,ty1,ty4,ty5,zab,zam,zc9,zb0,zfs,zct,zd0,zaa,zda,zft,zcu,hr,zfc,zad,za9,zru,zek,zh7,zik,RN]
   refine zac.pn (zf0 hn) rfl (.inl rfl) ?_
   simp(disch:=omega)only[↓RU,RV,RH,↓reduceIte,qE,reduceCtorEq,if_pos,qN,↓RS,RG,qA,qM,qL,ty0,ty1,ty4,ty5,zab,zam,zc9,zb0,zfs,zct,zd0,zaa,zda,zft,zcu,hr,zfc,zad,za9,zru,zek,zh7,zik,RN]
   apply hK;clear hK K
   refine xn ?_
   refine ⟨_,yfk nr,4,?_,zav ?_⟩
   ·simp [Env.put,Env.of,zaf,yfk,zad,za9]; try omega
   simp [yfk,zad,za9]
  simp(disch:=omega)only[↓RU,RV,RH,↓reduceIte,qE,reduceCtorEq,if_pos,qN,↓RS,RG,qA,qM,qL,ty0,ty1,ty4,ty5,zab,zam,zc9,zb0,zfs,zct,zd0,zaa,zda,zft,zcu,hr,zfc,zad,za9,zru,zek,zh7,zik]
  refine zac.pn (zf0 hn) rfl (.inl rfl) ?_
  simp(disch:=omega)only[↓RU,RV,RH,↓reduceIte,qE,reduceCtorEq,if_pos,qN,↓RS,RG,qA,qM,qL,ty0,ty1,ty4,ty5,zab,zam,zc9,zb0,zfs,zct,zd0,zaa,zda,zft,zcu,hr,zfc,zad,za9,zru,zek,zh7,zik,RN]
  refine zto rfl (by decide) ?_ ?_
  ·simp(disch:=omega)only[↓RU,RV,RH,↓reduceIte,qE,reduceCtorEq,if_pos,qN,↓RS,RG,qA,qM,qL,ty0,ty1,ty4,ty5,zab,zam,zc9,zb0,zfs,zct,zd0,zaa,zda,zft,zcu,hr,zfc,zad,za9,zru,zek,zh7,zik]
   refine zac.pn (zf0 hn) rfl (.inl rfl) ?_
   simp(disch:=omega)only[↓RU,RV,RH,↓reduceIte,qE,reduceCtorEq,if_pos,qN,↓RS,RG,qA,qM,qL,ty0,ty1,ty4,ty5,zab,zam,zc9,zb0,zfs,zct,zd0,zaa,zda,zft,zcu,hr,zfc,zad,za9,zru,zek,zh7,zik,RN]
   apply hK;clear hK K
   refine xn ?_
   refine ⟨_,yfl nr,4,?_,zav ?_⟩
   ·simp [Env.put,Env.of,zaf,yfl,zad,za9]; try omega
   simp [yfl,zad,za9]
  simp(disch:=omega)only[↓RU,RV,RH,↓reduceIte,qE,reduceCtorEq,if_pos,qN,↓RS,RG,qA,qM,qL,ty0,ty1,ty4,ty5,zab,zam,zc9,zb0,zfs,zct,zd0,zaa,zda,zft,zcu,hr,zfc,zad,za9,zru,zek,zh7,zik]
  refine zac.pn (zf0 hn) rfl (.inl rfl) ?_
  simp(disch:=omega)only[↓RU,RV,RH,↓reduceIte,qE,reduceCtorEq,if_pos,qN,↓RS,RG,qA,qM,qL,ty0,ty1,ty4,ty5,zab,zam,zc9,zb0,zfs,zct,zd0,zaa,zda,zft,zcu,hr,zfc,zad,za9,zru,zek,zh7,zik,RN]
  refine zjh rfl rfl ?_
  simp(disch:=omega)only[↓RU,RV,RH,↓reduceIte,qE,reduceCtorEq,if_pos,qN,↓RS,RG,qA,qM,qL,ty0,ty1,ty4,ty5,zab,zam,zc9,zb0,zfs,zct,zd0,zaa,zda,zft,zcu,hr,zfc,zad,za9,zru,zek,zh7,zik,RN]
  refine ⟨by decide,?_⟩
  simp(disch:=omega)only[↓RU,RV,RH,↓reduceIte,qE,reduceCtorEq,if_pos,qN,↓RS,RG,qA,qM,qL,ty0,ty1,ty4,ty5,zab,zam,zc9,zb0,zfs,zct,zd0,zaa,zda,zft,zcu,hr,zfc,zad,za9,zru,zek,zh7,zik,RN]
  apply hK;clear hK K
  refine xn ?_
  refine ⟨_,yfm nr,4,?_,zav ?_⟩
  ·simp [Env.put,Env.of,zaf,yfm,zad,za9]; try omega
  simp [yfm,zad,za9]
 rintro vs S - ⟨Y,tk,rfl,rfl⟩
 refine W.seq ?_
 refine W.r fun K hK=>?_
 simp(disch:=omega)only[↓RU,RV,RH,↓reduceIte,qE,reduceCtorEq,if_pos,qN,↓RS,RG,qA,qM,qL,ty6,zam,z0g,zaa,z0h,zru,zek]
 refine zac.pc (z86 hg rs) rfl (.inl rfl) ?_
 simp(disch:=omega)only[↓RU,RV,RH,↓reduceIte,qE,reduceCtorEq,if_pos,qN,↓RS,RG,qA,qM,qL,ty6,zam,z0g,zaa,z0h,zru,zek]
 apply hK;clear hK K
 refine W.block ?_
 refine W.loop [0,2,3,27,28,29] (fun n vs S=>∃ i tk:Nat,n=(zb8 g nh nw).length - i∧i≤(zb8 g nh nw).length∧vs=[zat g rs,.ref 0 0 0,.ref Y.p3 Y.v3 0,zqc (zb8 g nh nw),.int .i64 (zb8 g nh nw).length,.int .i64 i]∧S=⟨Y.f (.arr 0 65 2 [.nils,.nils]) (.arr Y.v3 65 2 [.loc Y.pL Y.vL 0 nr,.loc Y.pA Y.vA 0 nr]) [] (((zb8 g nh nw).take i).foldl (znm g) (zbj nr,zbj nr)).1 (((zb8 g nh nw).take i).foldl (znm g) (zbj nr,zbj nr)).2,tk⟩) (zb8 g nh nw).length ?_ ?_
 ·refine ⟨_,0,tk,rfl,by omega,?_,zav rfl⟩
  simp [Env.put,Env.of,zaf]
 rintro n vs S - ⟨i,tk,rfl,h_i,rfl,rfl⟩
 refine W.r fun K hK=>?_
 simp(disch:=omega)only[↓RU,RV,RH,↓reduceIte,qE,reduceCtorEq,if_pos,w64,↓RS,RG,qA,qM,qL,zaa]
 apply hK;clear hK K
 refine W.seq ?_
 refine W.cond rfl (fun h=>?_) (fun h=>?_)
 ·try simp only[RL]at h
  obtain ⟨w,hw,hwm⟩:=zai (show i<(zb8 g nh nw).length by omega)
  obtain ⟨hL,hA⟩:=zr5 hrm (ws:=(zb8 g nh nw).take i) (fun w hw=>zc7 w (List.mem_of_mem_take hw)) (M:=(zbj nr,zbj nr)) (zdy nr) (zdy nr)
  generalize hMe:(((zb8 g nh nw).take i).foldl (znm g) (zbj nr,zbj nr))=M at hL hA
  obtain ⟨ln,fr,lg,hwe,hlg,hin⟩:=zc7 w hwm
  obtain ⟨lv,wl,wf,wg⟩:=w
  simp only[Wall.mk.injEq,true_and]at hwe hin
  obtain ⟨rfl,rfl,rfl⟩:=hwe
  have hsr:=zfr hrm (zc7 _ hwm)
  obtain ⟨hLl,-⟩:=id hL
  obtain ⟨hAl,-⟩:=id hA
  refine W.skip ?_
  refine xn ?_
  refine W.seq ?_
  refine W.block ?_
  refine W.r fun K hK=>?_
  simp(disch:=omega)only[↓RU,RV,RH,↓reduceIte,qE,reduceCtorEq,if_pos,↓RS,RG,qA,qM,qL,ty6,zam,z0g,zaa,z0h,hMe,hw,ye8 hw,zho,Y.app,Y.len hLl hAl,Y.get4 hLl hAl,Y.set4 hLl hAl,Wall.cells]
  apply hK;clear hK K
  refine W.r fun K hK=>?_
  simp(disch:=omega)only[↓RU,RV,RH,↓reduceIte,qE,reduceCtorEq,if_pos,↓RS,RG,qA,qM,qL,ty0,ty4,zam,zfs,zd0,zft,Y.get3 hLl hAl]
  apply hK;clear hK K
  refine W.join [0,2,3,27,28,29,5,6] (fun vs S=>vs=[zat g rs,.ref 0 0 0,.ref Y.p3 Y.v3 0,zqc (zb8 g nh nw),.int .i64 (zb8 g nh nw).length,.int .i64 i,.ref (2*nr+4) tk 0,(if lv then .loc Y.pA Y.vA 0 nr else .loc Y.pL Y.vL 0 nr)]∧S=⟨Y.f (.arr 0 65 2 [.nils,.nils]) (.arr Y.v3 65 2 [.loc Y.pL Y.vL 0 nr,.loc Y.pA Y.vA 0 nr]) [.arr tk 156 4 [.bool lv,.int .i64 ln,.int .i64 fr,.int .i64 lg]] M.1 M.2,tk+1⟩) ?_ ?_
  ·
   refine W.r fun K hK=>?_
   simp(disch:=omega)only[↓RU,RV,RH,↓reduceIte,qE,reduceCtorEq,if_pos,↓RS,RG,qA,qM,qL,zam,z0g,zaa,z0h,Y.get4 hLl hAl]
   apply hK;clear hK K
   refine W.cond rfl (fun h1=>?_) (fun h1=>?_)
   ·try simp only[RL]at h1
    refine W.k fun K hK=>?_
    simp(disch:=omega)only[↓RU,RV,RH,↓reduceIte,qE,reduceCtorEq,if_pos,↓RS,RG,qA,qM,qL,ty0,ty4,zam,zfs,zd0,zft,Y.get3 hLl hAl]
    apply hK;clear hK K
    refine xn ?_
    refine ⟨_,?_,zan⟩
    simp [Env.put,Env.of,h1]
   try simp only[RL]at h1
   refine W.skip ?_
   refine xn ?_
   refine ⟨_,?_,zan⟩
   simp [Env.put,Env.of,h1]
  rintro vs S - ⟨rfl,rfl⟩
  refine W.r fun K hK=>?_
  simp(disch:=omega)only[↓RU,RV,RH,↓reduceIte,qE,reduceCtorEq,if_pos,qN,↓RS,RG,qA,qM,qL,zam,z0g,zaa,z0h,Y.get4 hLl hAl]
  refine zac.pc (z6w hg rs hlg fun j a b=>(hin j a b).1) rfl (.inl rfl) ?_
  simp(disch:=omega)only[↓RU,RV,RH,↓reduceIte,qE,reduceCtorEq,if_pos,qN,↓RS,RG,qA,qM,qL,zam,z0g,zaa,z0h,Y.get4 hLl hAl]
  apply hK;clear hK K
  have hs1:ddp (zbc g lv ln fr lg).1=(zay g ⟨lv,ln,fr,lg⟩).1:=by simp [zay]
  have hs2:ddp (zbc g lv ln fr lg).2=(zay g ⟨lv,ln,fr,lg⟩).2:=by simp [zay]
  rw [hs1,hs2]
  obtain ⟨hsr1,hsr2⟩:=hsr
  have hsl:=zxk hg (zc7 _ hwm)
  generalize hasE:(zay g ⟨lv,ln,fr,lg⟩).1=av at hsr1 hsl
  generalize hbsE:(zay g ⟨lv,ln,fr,lg⟩).2=bv at hsr2 hsl
  refine W.r fun K hK=>?_
  simp(disch:=omega)only[↓RU,RV,RH,↓reduceIte,qE,reduceCtorEq,if_pos,↓RS,RG,qA,qM,qL,zab,zaa]
  apply hK;clear hK K
  refine W.block ?_
  refine W.loop [0,2,3,27,28,29,6,8,45,46,47] (fun n vs S=>∃ x tk:Nat,n=av.length - x∧x≤av.length∧vs=[zat g rs,.ref 0 0 0,.ref Y.p3 Y.v3 0,zqc (zb8 g nh nw),.int .i64 (zb8 g nh nw).length,.int .i64 i,(if lv then .loc Y.pA Y.vA 0 nr else .loc Y.pL Y.vL 0 nr),eInts bv,eInts av,.int .i64 av.length,.int .i64 x]∧S=⟨Y.f (.arr 0 65 2 [.nils,.nils]) (.arr Y.v3 65 2 [.loc Y.pL Y.vL 0 nr,.loc Y.pA Y.vA 0 nr]) [] (z8q lv M (relW (znz lv M) (av.take x) bv)).1 (z8q lv M (relW (znz lv M) (av.take x) bv)).2,tk⟩) av.length ?_ ?_
  ·refine ⟨2*nr+4,0,tk+1,rfl,by omega,?_,?_⟩
   ·simp [Env.put,Env.of]
   rw [Y.take hLl hAl,List.take_zero]; rw [show relW (znz lv M) [] bv=znz lv M from rfl,z5u]
  rintro n vs S - ⟨x,tk,rfl,h_x,rfl,rfl⟩
  refine W.r fun K hK=>?_
  simp(disch:=omega)only[↓RU,RV,RH,↓reduceIte,qE,reduceCtorEq,if_pos,w64,↓RS,RG,qA,qM,qL,zaa]
  apply hK;clear hK K
  refine W.seq ?_
  refine W.cond rfl (fun h2=>?_) (fun h2=>?_)
  ·try simp only[RL]at h2
   obtain ⟨a,ha,ham⟩:=zai (show x<av.length by omega)
   have hab:=hsr1 a ham
   have hX:Sq nr (relW (znz lv M) (av.take x) bv):=Sq.relW (fun a ha=>by have:=hsr1 a (List.mem_of_mem_take ha); omega) (z60 hL hA)
   generalize hXe:relW (znz lv M) (av.take x) bv=X at hX
   have hasl2:=hsl.1
   have hbsl2:=hsl.2
   refine W.skip ?_
   refine xn ?_
   refine W.seq ?_
   refine W.block ?_
   refine W.r fun K hK=>?_
   simp(disch:=omega)only[↓RU,RV,RH,↓reduceIte,qE,reduceCtorEq,if_pos,↓RS,RG,qA,qM,qL,zab,zaa,ha]
   apply hK;clear hK K
   refine W.r fun K hK=>?_
   simp(disch:=omega)only[↓RU,RV,RH,↓reduceIte,qE,reduceCtorEq,if_pos,↓RS,RG,qA,qM,qL,zab,zaa]
   apply hK;clear hK K
   refine W.block ?_
   refine W.loop [0,2,3,27,28,29,6,8,45,46,47,10,51,52,53] (fun n vs S=>∃ y tk:Nat,n=bv.length - y∧y≤bv.length∧vs=[zat g rs,.ref 0 0 0,.ref Y.p3 Y.v3 0,zqc (zb8 g nh nw),.int .i64 (zb8 g nh nw).length,.int .i64 i,(if lv then .loc Y.pA Y.vA 0 nr else .loc Y.pL Y.vL 0 nr),eInts bv,eInts av,.int .i64 av.length,.int .i64 x,.int .i64 a,eInts bv,.int .i64 bv.length,.int .i64 y]∧S=⟨Y.f (.arr 0 65 2 [.nils,.nils]) (.arr Y.v3 65 2 [.loc Y.pL Y.vL 0 nr,.loc Y.pA Y.vA 0 nr]) [] (z8q lv M (relB a (bv.take y) X)).1 (z8q lv M (relB a (bv.take y) X)).2,tk⟩) bv.length ?_ ?_
   ·refine ⟨_,0,tk,rfl,by omega,?_,zav ?_⟩
    ·simp [Env.put,Env.of]
    rfl
   rintro n vs S - ⟨y,tk,rfl,h_y,rfl,rfl⟩
   refine W.r fun K hK=>?_
   simp(disch:=omega)only[↓RU,RV,RH,↓reduceIte,qE,reduceCtorEq,if_pos,w64,↓RS,RG,qA,qM,qL,zaa]
   apply hK;clear hK K
   refine W.seq ?_
   refine W.cond rfl (fun h3=>?_) (fun h3=>?_)
   ·try simp only[RL]at h3
    obtain ⟨b,hb,hbm⟩:=zai (show y<bv.length by omega)
    have hbb:=hsr2 b hbm
    have hZ:Sq nr (relB a (bv.take y) X):=hX.relB (by omega)
    generalize hZe:relB a (bv.take y) X=Z at hZ
    obtain ⟨a,rfl⟩:∃ a2:Nat,a=a2:=⟨a.toNat,by omega⟩
    obtain ⟨b,rfl⟩:∃ b2:Nat,b=b2:=⟨b.toNat,by omega⟩
    obtain ⟨row,hrow,hrl,-⟩:=hZ.at_ (show a<nr by omega) (show b<nr by omega)
    have hZl:=hZ.1
    refine W.skip ?_
    refine xn ?_
    refine W.seq ?_
    refine W.block ?_
    refine W.r fun K hK=>?_
    simp(disch:=omega)only[↓RU,RV,RH,↓reduceIte,qE,reduceCtorEq,if_pos,↓RS,RG,qA,qM,qL,zab,zaa,hb]
    apply hK;clear hK K
    refine W.k fun K hK=>?_
    cases lv
    ·skip
     simp only[z8q,qF,if_false]
     try rw [hZe]
     simp(disch:=omega)only[↓RU,RV,RH,↓reduceIte,qE,reduceCtorEq,if_pos,↓RS,RG,qA,qM,qL,ty0,ty4,zam,zd0,Y.getL hZl,Y.getLr hrow,zjf,hrl,zbw,ze7,Y.setL hZl]
     apply hK;clear hK K
     refine XbN ?_
     refine xn ?_
     refine W.k fun K hK=>?_
     simp(disch:=omega)only[↓RU,RV,RH,↓reduceIte,qE,reduceCtorEq,if_pos,w64,↓RS,RG,qA,qM,qL,zaa]
     apply hK;clear hK K
     refine xn ?_
     refine ⟨bv.length - (y+1),by omega,_,y+1,tk,rfl,by omega,?_,zav ?_⟩
     ·simp [Env.put,Env.of]
     rw [z5e hb,hZe,Int.toNat_natCast,Int.toNat_natCast,zgd hrow]; rfl
    skip
    simp only[z8q,if_true]
    try rw [hZe]
    simp(disch:=omega)only[↓RU,RV,RH,↓reduceIte,qE,reduceCtorEq,if_pos,↓RS,RG,qA,qM,qL,ty0,ty4,zam,zd0,Y.getA hLl hZl,Y.getAr hLl hrow,zjf,hrl,zbw,ze7,Y.setA hLl hZl]
    apply hK;clear hK K
    refine XbN ?_
    refine xn ?_
    refine W.k fun K hK=>?_
    simp(disch:=omega)only[↓RU,RV,RH,↓reduceIte,qE,reduceCtorEq,if_pos,w64,↓RS,RG,qA,qM,qL,zaa]
    apply hK;clear hK K
    refine xn ?_
    refine ⟨bv.length - (y+1),by omega,_,y+1,tk,rfl,by omega,?_,zav ?_⟩
    ·simp [Env.put,Env.of]
    rw [z5e hb,hZe,Int.toNat_natCast,Int.toNat_natCast,zgd hrow]; rfl
   try simp only[RL]at h3
   obtain rfl:y=bv.length:=by omega
   rw [List.take_length]
   refine W.exit ?_
   refine xe ?_
   refine xe ?_
   refine XBlock.hit ?_
   refine XbN ?_
   refine xn ?_
   refine W.k fun K hK=>?_
   simp(disch:=omega)only[↓RU,RV,RH,↓reduceIte,qE,reduceCtorEq,if_pos,w64,↓RS,RG,qA,qM,qL,zaa]
   apply hK;clear hK K
   refine xn ?_
   refine ⟨av.length - (x+1),by omega,_,x+1,tk,rfl,by omega,?_,zav ?_⟩
   ·simp [Env.put,Env.of]
   rw [yce ha,hXe]
  try simp only[RL]at h2
  obtain rfl:x=av.length:=by omega
  refine W.exit ?_
  refine xe ?_
  refine xe ?_
  refine XBlock.hit ?_
  refine XbN ?_
  refine xn ?_
  refine W.k fun K hK=>?_
  simp(disch:=omega)only[↓RU,RV,RH,↓reduceIte,qE,reduceCtorEq,if_pos,w64,↓RS,RG,qA,qM,qL,zaa]
  apply hK;clear hK K
  refine xn ?_
  refine ⟨(zb8 g nh nw).length - (i+1),by omega,_,i+1,tk,rfl,by omega,?_,zav ?_⟩
  ·simp [Env.put,Env.of]
  rw [zfp hw,hMe,z71,List.take_length,hasE,hbsE]
 try simp only[RL]at h
 obtain rfl:i=(zb8 g nh nw).length:=by omega
 rw [List.take_length]
 have hLA:=zr5 hrm (ws:=zb8 g nh nw) zc7 (M:=(zbj nr,zbj nr)) (zdy nr) (zdy nr)
 rw [show (zb8 g nh nw).foldl (znm g) (zbj nr,zbj nr)=z70 g nh nw nr from rfl]at hLA ⊢
 obtain ⟨hL,hA⟩:=hLA
 have hLl:=hL.1
 have hAl:=hA.1
 have hLc:=hL.close
 have hAc:=hA.close
 have hLcl:=hLc.1
 have hAcl:=hAc.1
 refine W.exit ?_
 refine xe ?_
 refine xe ?_
 refine XBlock.hit ?_
 refine xn ?_
 refine W.r fun K hK=>?_
 simp(disch:=omega)only[↓RU,RV,RH,↓reduceIte,qE,reduceCtorEq,if_pos,qN,↓RS,RG,qA,qM,qL,ty0,ty4,zam,zfs,zd0,zft,Y.get3 hLl hAl]
 refine zac.ev (z22 Y hL hn) ?_
 rintro _ _ ⟨rfl,rfl⟩
 simp(disch:=omega)only[↓RU,RV,RH,↓reduceIte,qE,reduceCtorEq,if_pos,qN,↓RS,RG,qA,qM,qL,ty0,ty4,zam,zfs,zd0,zft,Y.get3 hLl hAl]
 apply hK;clear hK K
 refine W.r fun K hK=>?_
 simp(disch:=omega)only[↓RU,RV,RH,↓reduceIte,qE,reduceCtorEq,if_pos,qN,↓RS,RG,qA,qM,qL,ty0,ty4,zam,zfs,zd0,zft,Y.get3 hLcl hAl]
 refine zac.ev (z21 Y hLcl hA hn) ?_
 rintro _ _ ⟨rfl,rfl⟩
 simp(disch:=omega)only[↓RU,RV,RH,↓reduceIte,qE,reduceCtorEq,if_pos,qN,↓RS,RG,qA,qM,qL,ty0,ty4,zam,zfs,zd0,zft,Y.get3 hLcl hAl]
 apply hK;clear hK K
 refine W.r fun K hK=>?_
 simp(disch:=omega)only[↓RU,RV,RH,↓reduceIte,qE,reduceCtorEq,if_pos,↓RS,RG,qA,qM,qL,ty0,ty4,zam,zfs,zd0,zft,Y.get3 hLcl hAcl,Y.get0,Y.set0]
 apply hK;clear hK K
 refine W.ret ?_
 refine Br (v := .agg [.loc Y.pL Y.vL 0 nr,.loc Y.pA Y.vA 0 nr]) (by simp only[zsm,zjx,show Tryz.f81.results.toList=[.cell 2 65] from rfl,zvg,Env.put,Env.of,qE,↓reduceIte,zox,ya1,Y.get0]; rfl) ?_
 exact z1q (zvc (f:=6) hLc (Y.getL hLcl) fun a row h=>Y.getLr h) (zvc (f:=6) hAc (Y.getA hLcl hAcl) fun a row h=>Y.getAr hLcl h)
def hvF (M:List (List Bool)) (g:Nat→Int) (b i:Nat):Int:=(List.range i).foldl (fun m a=>if zb9 M a b then max m (g a) else m) 0
def hv (M:List (List Bool)) (ws:List Int) (n:Nat):Nat→Nat→Int
 | 0,_=>0
 | f+1,b=>hvF M (hv M ws n f) b n+zdf ws b
theorem znk {M:List (List Bool)} {g:Nat→Int} {b i:Nat}:hvF M g b (i+1)=if zb9 M i b then max (hvF M g b i) (g i) else hvF M g b i:=by
 unfold hvF; rw [zca]
theorem zof {M:List (List Bool)} {g h:Nat→Int} {b:Nat}:∀ {i:Nat},(∀ a,a<i→zb9 M a b=true→g a=h a)→hvF M g b i=hvF M h b i
 | 0,_=>rfl
 | i+1,H=>by
  rw [znk,znk,zof (i:=i) fun a ha=>H a (by omega)]
  cases hb:zb9 M i b with
  | false=>rfl
  | true=>rw [H i (by omega) hb]
theorem z9q {M:List (List Bool)} {g:Nat→Int} {b:Nat}:∀ {i a:Nat},a<i→zb9 M a b=true→g a≤hvF M g b i
 | i+1,a,h,hb=>by
  rw [znk]
  by_cases e:a=i
  ·subst e; rw [hb]; simp only[if_true]; omega
  have:=z9q (M:=M) (g:=g) (i:=i) (a:=a) (by omega) hb
  split <;> omega
structure Up (M:List (List Bool)) (n:Nat) (rk:Nat→Nat):Prop where
 sq:Sq n M
 up:∀ a b,a<n→b<n→zb9 M a b=true→rk a<rk b
 le:∀ b,rk b≤100
theorem yd1 {M:List (List Bool)} {ws:List Int} {n:Nat} {rk:Nat→Nat} (hu:Up M n rk):∀ (f f' b:Nat),b<n→rk b<f→rk b<f'→hv M ws n f b=hv M ws n f' b
 | 0,_,_,_,h,_=>by omega
 | _+1,0,_,_,_,h=>by omega
 | f+1,f'+1,b,hb,h1,h2=>by
  show hvF M (hv M ws n f) b n+zdf ws b=hvF M (hv M ws n f') b n+zdf ws b
  congr 1
  apply zof
  intro a ha hab
  have h3:=hu.up a b ha hb hab
  exact yd1 hu f f' a ha (by omega) (by omega)
def HB (M:List (List Bool)) (ws:List Int) (n b:Nat):Int:=hv M ws n 101 b
theorem yfe {M:List (List Bool)} {ws:List Int} {n:Nat} {rk:Nat→Nat} (hu:Up M n rk) {b:Nat} (hb:b<n):HB M ws n b=hvF M (HB M ws n) b n+zdf ws b:=by
 have e:HB M ws n b=hvF M (hv M ws n 100) b n+zdf ws b:=rfl
 rw [e,zof (h:=HB M ws n)]
 intro a ha hab
 have h3:=hu.up a b ha hb hab
 have h4:=hu.le b
 exact yd1 hu 100 101 a ha (by omega) (by omega)
def Memo (M:List (List Bool)) (ws:List Int) (n:Nat) (out:List Int):Prop:=out.length=n∧∀ (b:Nat) x,out[b]?=some x→x=0∨x=HB M ws n b
def Keep (out out':List Int):Prop:=∀ (b:Nat) x,out[b]?=some x→x≠0→out'[b]?=some x
theorem Keep.refl (out:List Int):Keep out out:=fun _ _ h _=>h
theorem Keep.trans {a b c:List Int} (h:Keep a b) (k:Keep b c):Keep a c:=fun i x h1 h2=>k i x (h i x h1 h2) h2
theorem Memo.at_ {M:List (List Bool)} {ws out:List Int} {n:Nat} (h:Memo M ws n out) {b:Nat} (hb:b<n):∃ x,out[b]?=some x∧(x=0∨x=HB M ws n b):=by
 obtain ⟨x,hx,-⟩:=zai (show b<out.length by rw [h.1]; exact hb)
 exact ⟨x,hx,h.2 b x hx⟩
theorem Memo.set {M:List (List Bool)} {ws out:List Int} {n:Nat} (h:Memo M ws n out) {b:Nat}:Memo M ws n (out.set b (HB M ws n b)):=by
 refine ⟨by simpa using h.1,fun c x hx=>?_⟩
 rw [List.getElem?_set]at hx
 split at hx
 ·rename_i e; subst e
  split at hx
  ·cases hx; exact .inr rfl
  cases hx
 exact h.2 c x hx
theorem Memo.keep {M:List (List Bool)} {ws out:List Int} {n:Nat} (h:Memo M ws n out) {b:Nat}:Keep out (out.set b (HB M ws n b)):=by
 intro c x hx h0
 rw [List.getElem?_set]
 split
 ·rename_i e; subst e
  have:=(h.2 b x hx).resolve_left h0
  rw [if_pos (zbd hx),this]
 exact hx
def heaviest (M:List (List Bool)) (ws:List Int) (n:Nat):List Int:=(List.range n).map (HB M ws n)
def Ord (c:List Int) (i:Nat):Prop:=∀ p q x y,p<q→q<i→c[p]?=some x→c[q]?=some y→x≤y
def z6n (c:List Int) (j i:Nat):Prop:=∀ p q x y,p<q→q≤i→q≠j→c[p]?=some x→c[q]?=some y→x≤y
theorem Ord.one (c:List Int):Ord c 1:=by intro p q x y h1 h2; omega
theorem Ord.ins {c:List Int} {i:Nat} (h:Ord c i):z6n c i i:=by
 intro p q x y h1 h2 h3 hx hy
 exact h p q x y h1 (by omega) hx hy
theorem z6n.zero {c:List Int} {i:Nat} (h:z6n c 0 i):Ord c (i+1):=by
 intro p q x y h1 h2 hx hy
 exact h p q x y h1 (by omega) (by omega) hx hy
theorem z6n.stop {c:List Int} {i j:Nat} {a b:Int} (h:z6n c j i) (ha:c[j]?=some a) (hb:c[j - 1]?=some b) (hle:¬ a<b):Ord c (i+1):=by
 intro p q x y h1 h2 hx hy
 by_cases e:q=j
 ·subst e
  rw [ha]at hy; cases hy
  by_cases e2:p=q - 1
  ·subst e2; rw [hb]at hx; cases hx; omega
  have:=h p (q - 1) x b (by omega) (by omega) (by omega) hx hb; omega
 exact h p q x y h1 (by omega) e hx hy
theorem z6n.swap {c:List Int} {i j:Nat} {a b:Int} (h:z6n c j i) (hj:j≠0) (hji:j≤i) (ha:c[j]?=some a) (hb:c[j - 1]?=some b) (hlt:a<b):z6n ((c.set j b).set (j - 1) a) (j - 1) i:=by
 have hl:=zbd ha
 have g:∀ k,((c.set j b).set (j - 1) a)[k]?=if k=j - 1 then some a else if k=j then some b else c[k]?:=by
  intro k
  rw [List.getElem?_set]
  by_cases e:j - 1=k
  ·rw [if_pos e,if_pos e.symm,if_pos (by simp; omega)]
  rw [if_neg e,if_neg (Ne.symm e),List.getElem?_set]
  by_cases e2:j=k
  ·rw [if_pos e2,if_pos e2.symm,if_pos (by omega)]
  rw [if_neg e2,if_neg (Ne.symm e2)]
 intro p q x y h1 h2 h3 hx hy
 rw [g]at hx hy
 rw [if_neg h3]at hy
 by_cases e:q=j
 ·rw [if_pos e]at hy; cases hy
  by_cases e2:p=j - 1
  ·rw [if_pos e2]at hx; cases hx; omega
  rw [if_neg e2,if_neg (by omega)]at hx
  exact h p (j - 1) x b (by omega) (by omega) (by omega) hx hb
 rw [if_neg e]at hy
 by_cases e2:p=j - 1
 ·rw [if_pos e2]at hx; cases hx
  exact h j q a y (by omega) h2 e ha hy
 rw [if_neg e2]at hx
 by_cases e3:p=j
 ·rw [if_pos e3]at hx; cases hx
  exact h (j - 1) q b y (by omega) h2 e hb hy
 rw [if_neg e3]at hx
 exact h p q x y h1 h2 e hx hy
theorem zvv {c l:List Int} {j:Nat} {a b:Int} (h:c.Perm l) (ha:c[j]?=some a) (hb:c[j - 1]?=some b):((c.set j b).set (j - 1) a).Perm l:=by
 obtain ⟨h1,e1⟩:=List.getElem?_eq_some_iff.mp ha
 obtain ⟨h2,e2⟩:=List.getElem?_eq_some_iff.mp hb
 have := @List.set_set_perm _ c _ _ h1 h2
 rw [e1,e2]at this
 exact this.trans h
theorem Ord.pair {c:List Int} (h:Ord c c.length):c.Pairwise (· ≤ ·):=by
 rw [List.pairwise_iff_getElem]
 intro i j hi hj hij
 exact h i j _ _ hij hj (List.getElem?_eq_getElem hi) (List.getElem?_eq_getElem hj)
theorem z7n {x:Int}:PC Tryz.prog 192 [.int .i64 x] (.bool false) true:=by
 refine PC.of ⟨Tryz.func192,by kernel_rfl,rfl,by kernel_rfl⟩ zao mixed (by show 1≤Tryz.f192.ntmps; decide) ?_
 refine W.r fun K hK=>?_
 simp(disch:=omega)only[↓RU,RV,RH,↓reduceIte,qE,reduceCtorEq,if_pos]
 apply hK;clear hK K
 refine W.r fun K hK=>?_
 simp(disch:=omega)only[↓RU,RV,RH,↓reduceIte,qE,reduceCtorEq,if_pos,w64,zaa]
 apply hK;clear hK K
 refine W.ret ?_
 refine Br rfl ?_
 rw [show (x != x)=false by simp]
 rfl
theorem ybx {x y:Int}:PC Tryz.prog 179 [.int .i64 x,.int .i64 y] (.bool (decide (x<y))) true:=by
 refine PC.of ⟨Tryz.func179,by kernel_rfl,rfl,by kernel_rfl⟩ zao mixed (by show 2≤Tryz.f179.ntmps; decide) ?_
 refine W.r fun K hK=>?_
 simp(disch:=omega)only[↓RU,RV,RH,↓reduceIte,qE,reduceCtorEq,if_pos]
 apply hK;clear hK K
 refine W.r fun K hK=>?_
 simp(disch:=omega)only[↓RU,RV,RH,↓reduceIte,qE,reduceCtorEq,if_pos,qN,w64,zaa]
 refine zac.pc (z7n) rfl (.inl rfl) ?_
 simp(disch:=omega)only[↓RU,RV,RH,↓reduceIte,qE,reduceCtorEq,if_pos,qN,w64,zaa]
 apply hK;clear hK K
 refine W.ret ?_
 refine Br rfl ?_
 rfl
theorem z3z {F R:List Ob} {ver t:Nat} {l:List Int} (hl:l.length<2147483648) (h1:1≤l.length):Ev Tryz.prog 173 [.loc F.length ver 0 l.length,.int .i64 0,.int .i64 l.length] ⟨F ++ .arr ver 3 1 (l.map (.int .i64))::R,t⟩ fun v S=>v = .tup []∧∃ z:List Int,z.Perm l∧z.Pairwise (· ≤ ·)∧S=⟨F ++ .arr ver 3 1 (z.map (.int .i64))::R,t⟩:=by
 refine Ev.of ⟨Tryz.func173,by kernel_rfl,rfl,by kernel_rfl⟩ zao mixed (by show 3≤Tryz.f173.ntmps; decide) ?_
 refine W.r fun K hK=>?_
 simp(disch:=omega)only[↓RU,RV,RH,↓reduceIte,qE,reduceCtorEq,if_pos,w64,↓RS,RG,qA,qM,qL,zaa,gF,zc2]
 apply hK;clear hK K
 refine W.block ?_
 refine W.loop [0,1,2,6] (fun n vs S=>∃ (i:Nat) (c:List Int),n=l.length - i∧1≤i∧i≤l.length∧c.Perm l∧Ord c i∧vs=[.loc F.length ver 0 l.length,.int .i64 0,.int .i64 l.length,.int .i64 i]∧S=⟨F ++ .arr ver 3 1 (c.map (.int .i64))::R,t⟩) (l.length - 1) ?_ ?_
 ·refine ⟨_,1,l,rfl,qR _,h1,List.Perm.refl _,Ord.one l,?_,zan⟩
  simp [Env.put,Env.of,zaf]
 rintro n vs S - ⟨i,c,rfl,hi1,h_i,hp,ho,rfl,rfl⟩
 refine W.seq ?_
 refine W.r fun K hK=>?_
 simp(disch:=omega)only[↓RU,RV,RH,↓reduceIte,qE,reduceCtorEq,if_pos,w64,↓RS,RG,qA,qM,qL,zaa,gF,zc2]
 apply hK;clear hK K
 refine W.cond rfl (fun h=>?_) (fun h=>?_)
 ·try simp only[RL]at h
  refine W.skip ?_
  refine xn ?_
  refine W.seq ?_
  refine W.block ?_
  refine W.r fun K hK=>?_
  simp(disch:=omega)only[↓RU,RV,RH,↓reduceIte,qE,reduceCtorEq,if_pos,↓RS,RG,qA,qM,qL,gF,zc2]
  apply hK;clear hK K
  refine W.block ?_
  refine W.loop [0,1,2,6,7] (fun n vs S=>∃ (j:Nat) (d:List Int),n=j+1∧j≤i∧d.Perm l∧z6n d j i∧vs=[.loc F.length ver 0 l.length,.int .i64 0,.int .i64 l.length,.int .i64 i,.int .i64 j]∧S=⟨F ++ .arr ver 3 1 (d.map (.int .i64))::R,t⟩) (i+1) ?_ ?_
  ·refine ⟨_,i,c,rfl,qR _,hp,ho.ins,?_,zan⟩
   simp [Env.put,Env.of]
  rintro n vs S - ⟨j,d,rfl,h_j,hq,hO,rfl,rfl⟩
  refine W.seq ?_
  refine W.seq_draw (by kernel_rfl) fun K hK=>?_
  cases hd:decide ((j:Int)>0)
  ·skip
   obtain rfl:j=0:=by simpa using hd
   simp(disch:=omega)only[↓RU,RV,RH,↓reduceIte,qE,reduceCtorEq,if_pos,w64,qN,↓RS,RG,qA,qM,qL,zab,zaa,gF,zc2,hd]
   apply hK;clear hK K
   refine W.cond rfl (fun h2=>?_) (fun h2=>?_)
   ·try simp only[RL]at h2
    exact absurd h2 (by simp)
   try simp only[RL]at h2
   have hO2:Ord d (i+1):=hO.zero
   refine W.exit ?_
   refine xe ?_
   refine xe ?_
   refine XBlock.hit ?_
   refine XbN ?_
   refine xn ?_
   refine W.k fun K hK=>?_
   simp(disch:=omega)only[↓RU,RV,RH,↓reduceIte,qE,reduceCtorEq,if_pos,w64,↓RS,RG,qA,qM,qL,zaa,gF,zc2]
   apply hK;clear hK K
   refine xn ?_
   refine ⟨l.length - (i+1),by omega,_,i+1,d,rfl,by omega,by omega,hq,hO2,?_,zan⟩
   simp [Env.put,Env.of]
  ·skip
   have hj0:j≠0:=by have:=of_decide_eq_true hd; omega
   have hdl:=hq.length_eq
   obtain ⟨x,hx,-⟩:=zai (show j<d.length by omega)
   obtain ⟨y,hy,-⟩:=zai (show j - 1<d.length by omega)
   simp(disch:=omega)only[↓RU,RV,RH,↓reduceIte,qE,reduceCtorEq,if_pos,w64,qN,↓RS,RG,qA,qM,qL,zab,zaa,gF,zc2,hd,hx,hy,zc1]
   refine zac.pc (ybx (x:=x) (y:=y)) rfl (.inl rfl) ?_
   simp(disch:=omega)only[↓RU,RV,RH,↓reduceIte,qE,reduceCtorEq,if_pos,w64,qN,↓RS,RG,qA,qM,qL,zab,zaa,gF,zc2,hd,hx,hy,zc1]
   apply hK;clear hK K
   refine W.cond rfl (fun h2=>?_) (fun h2=>?_)
   ·try simp only[RL]at h2
    have hjl:=zbd hx
    have hsl:(d.set j y).length=d.length:=by simp
    refine W.skip ?_
    refine xn ?_
    refine W.seq ?_
    refine W.block ?_
    refine W.draw_k (by kernel_rfl) fun K hK=>?_
    simp(disch:=omega)only[↓RU,RV,RH,↓reduceIte,qE,reduceCtorEq,if_pos,w64,↓RS,RG,qA,qM,qL,zab,zaa,gF,zc2,hx,hy,zc1,zbw,zc0,List.length_set]
    apply hK;clear hK K
    refine XbN ?_
    refine xn ?_
    refine W.k fun K hK=>?_
    simp(disch:=omega)only[↓RU,RV,RH,↓reduceIte,qE,reduceCtorEq,if_pos,w64,↓RS,RG,qA,qM,qL,zaa,gF,zc2]
    apply hK;clear hK K
    refine xn ?_
    refine ⟨j - 1+1,by omega,_,j - 1,(d.set j y).set (j - 1) x,rfl,by omega,zvv hq hx hy,hO.swap hj0 h_j hx hy h2,?_,zan⟩
    simp [Env.put,Env.of]; omega
   try simp only[RL]at h2
   have hO2:Ord d (i+1):=hO.stop hx hy h2
   refine W.exit ?_
   refine xe ?_
   refine xe ?_
   refine XBlock.hit ?_
   refine XbN ?_
   refine xn ?_
   refine W.k fun K hK=>?_
   simp(disch:=omega)only[↓RU,RV,RH,↓reduceIte,qE,reduceCtorEq,if_pos,w64,↓RS,RG,qA,qM,qL,zaa,gF,zc2]
   apply hK;clear hK K
   refine xn ?_
   refine ⟨l.length - (i+1),by omega,_,i+1,d,rfl,by omega,by omega,hq,hO2,?_,zan⟩
   simp [Env.put,Env.of]
 try simp only[RL]at h
 obtain rfl:l.length=i:=by omega
 refine W.exit ?_
 refine xe ?_
 refine xe ?_
 refine XBlock.hit ?_
 refine zeo.norm rfl ?_
 exact ⟨_,rfl,c,hp,by rw [← hp.length_eq]at ho; exact ho.pair,zan⟩
theorem z7r  : PC Tryz.prog 169 [.int .u64 4] (.int .i64 3) true:=by
 refine PC.of ⟨Tryz.func169,by kernel_rfl,rfl,by kernel_rfl⟩ zao mixed (by show 1≤Tryz.f169.ntmps; decide) ?_
 refine W.r fun K hK=>?_
 simp(disch:=omega)only[↓RU,RV,RH,↓reduceIte,qE,reduceCtorEq,if_pos]
 apply hK;clear hK K
 refine W.seq ?_
 refine W.r fun K hK=>?_
 simp(disch:=omega)only[↓RU,RV,RH,↓reduceIte,qE,reduceCtorEq,if_pos,w64,zha]
 apply hK;clear hK K
 refine W.cond rfl (fun h=>?_) (fun h=>?_)
 ·try simp only[RL]at h
  exact absurd h (by decide)
 try simp only[RL]at h
 refine W.skip ?_
 refine xn ?_
 refine W.seq ?_
 refine W.r fun K hK=>?_
 simp(disch:=omega)only[↓RU,RV,RH,↓reduceIte,qE,reduceCtorEq,if_pos,w64,zha]
 apply hK;clear hK K
 refine W.cond rfl (fun h1=>?_) (fun h1=>?_)
 ·try simp only[RL]at h1
  exact absurd h1 (by decide)
 try simp only[RL]at h1
 refine W.skip ?_
 refine xn ?_
 refine W.seq ?_
 refine W.r fun K hK=>?_
 simp(disch:=omega)only[↓RU,RV,RH,↓reduceIte,qE,reduceCtorEq,if_pos,w64,zha]
 apply hK;clear hK K
 refine W.cond rfl (fun h2=>?_) (fun h2=>?_)
 ·try simp only[RL]at h2
  exact absurd h2 (by decide)
 try simp only[RL]at h2
 refine W.skip ?_
 refine xn ?_
 refine W.r fun K hK=>?_
 simp(disch:=omega)only[↓RU,RV,RH,↓reduceIte,qE,reduceCtorEq,if_pos,w64,w64,zaa,zae,zha,zaw]
 apply hK;clear hK K
 refine W.ret ?_
 refine Br rfl ?_
 rfl
theorem yd9  : PC Tryz.prog 149 [.int .u64 4] (.int .i64 3) true:=by
 refine PC.of ⟨Tryz.func149,by kernel_rfl,rfl,by kernel_rfl⟩ zao mixed (by show 1≤Tryz.f149.ntmps; decide) ?_
 refine W.r fun K hK=>?_
 simp(disch:=omega)only[↓RU,RV,RH,↓reduceIte,qE,reduceCtorEq,if_pos]
 apply hK;clear hK K
 refine W.seq ?_
 refine W.cond rfl (fun h=>?_) (fun h=>?_)
 ·try simp only[RL]at h
  exact absurd h (by decide)
 try simp only[RL]at h
 refine W.skip ?_
 refine xn ?_
 refine W.r fun K hK=>?_
 simp(disch:=omega)only[↓RU,RV,RH,↓reduceIte,qE,reduceCtorEq,if_pos,qN]
 refine zac.pc (z7r) rfl (.inl rfl) ?_
 simp(disch:=omega)only[↓RU,RV,RH,↓reduceIte,qE,reduceCtorEq,if_pos,qN]
 apply hK;clear hK K
 refine W.ret ?_
 refine Br rfl ?_
 rfl
theorem yeh {F R:List Ob} {ver t:Nat} {l:List Int} (hl:l.length≤12) (h1:1≤l.length) (lim:Int):Ev Tryz.prog 159 [.loc F.length ver 0 l.length,.int .i64 0,.int .i64 l.length,.int .i64 lim] ⟨F ++ .arr ver 3 1 (l.map (.int .i64))::R,t⟩ fun v S=>v = .tup []∧∃ z:List Int,z.Perm l∧z.Pairwise (· ≤ ·)∧S=⟨F ++ .arr ver 3 1 (z.map (.int .i64))::R,t⟩:=by
 refine Ev.of ⟨Tryz.func159,by kernel_rfl,rfl,by kernel_rfl⟩ zao mixed (by show 4≤Tryz.f159.ntmps; decide) ?_
 refine W.r fun K hK=>?_
 simp(disch:=omega)only[↓RU,RV,RH,↓reduceIte,qE,reduceCtorEq,if_pos,↓RS,RG,qA,qM,qL,gF,zc2]
 apply hK;clear hK K
 refine W.r fun K hK=>?_
 simp(disch:=omega)only[↓RU,RV,RH,↓reduceIte,qE,reduceCtorEq,if_pos,↓RS,RG,qA,qM,qL,gF,zc2]
 apply hK;clear hK K
 refine W.block ?_
 refine W.loop [0,1,2] (fun n vs S=>vs=[.loc F.length ver 0 l.length,.int .i64 0,.int .i64 l.length]∧S=⟨F ++ .arr ver 3 1 (l.map (.int .i64))::R,t⟩) 0 ?_ ?_
 ·refine ⟨_,?_,zan⟩
  simp [Env.put,Env.of,zaf]
 rintro n vs S - ⟨rfl,rfl⟩
 refine W.block ?_
 refine W.r fun K hK=>?_
 simp(disch:=omega)only[↓RU,RV,RH,↓reduceIte,qE,reduceCtorEq,if_pos,w64,↓RS,RG,qA,qM,qL,zaa,gF,zc2]
 apply hK;clear hK K
 refine W.seq ?_
 refine W.r fun K hK=>?_
 simp(disch:=omega)only[↓RU,RV,RH,↓reduceIte,qE,reduceCtorEq,if_pos,w64,↓RS,RG,qA,qM,qL,zaa,gF,zc2]
 apply hK;clear hK K
 refine W.cond rfl (fun h=>?_) (fun h=>?_)
 ·try simp only[RL]at h
  refine W.r fun K hK=>?_
  simp(disch:=omega)only[↓RU,RV,RH,↓reduceIte,qE,reduceCtorEq,if_pos,qN,↓RS,RG,qA,qM,qL,gF,zc2]
  refine zac.ev (z3z (by omega) h1) ?_
  rintro _ _ ⟨rfl,z,hz1,hz2,rfl⟩
  simp(disch:=omega)only[↓RU,RV,RH,↓reduceIte,qE,reduceCtorEq,if_pos,qN,↓RS,RG,qA,qM,qL,gF,zc2]
  apply hK;clear hK K
  refine W.ret ?_
  refine XThen.ret ?_
  refine XBlock.ret ?_
  refine XThen.ret ?_
  refine XBlock.ret ?_
  refine Br rfl ?_
  exact ⟨_,rfl,z,hz1,hz2,zan⟩
 try simp only[RL]at h
 exact absurd (show (l.length:Int)≤12 by omega) h
theorem ycr {F R:List Ob} {ver t:Nat} {l:List Int} (hl:l.length=4):Ev Tryz.prog 144 [.loc F.length ver 0 l.length] ⟨F ++ .arr ver 3 1 (l.map (.int .i64))::R,t⟩ fun v S=>v = .tup []∧∃ z:List Int,z.Perm l∧z.Pairwise (· ≤ ·)∧S=⟨F ++ .arr ver 3 1 (z.map (.int .i64))::R,t⟩:=by
 have hw4:IntKind.u64.wrap ((l.length:Nat):Int)=4:=by rw [hl]; rfl
 refine Ev.of ⟨Tryz.func144,by kernel_rfl,rfl,by kernel_rfl⟩ zao mixed (by show 1≤Tryz.f144.ntmps; decide) ?_
 refine W.r fun K hK=>?_
 simp(disch:=omega)only[↓RU,RV,RH,↓reduceIte,qE,reduceCtorEq,if_pos,↓RS,RG,qA,qM,qL,zab,zaa,gF,zc2]
 apply hK;clear hK K
 refine W.k fun K hK=>?_
 simp(disch:=omega)only[↓RU,RV,RH,↓reduceIte,qE,reduceCtorEq,if_pos,w64,qN,↓RS,RG,qA,qM,qL,zaa,zcj,gF,zc2,hw4]
 refine zac.pc (yd9) rfl (.inl rfl) ?_
 simp(disch:=omega)only[↓RU,RV,RH,↓reduceIte,qE,reduceCtorEq,if_pos,w64,qN,↓RS,RG,qA,qM,qL,zaa,zcj,gF,zc2,hw4]
 refine zac.ev (yeh (by omega) (by omega) 3) ?_
 rintro _ _ ⟨rfl,z,hz1,hz2,rfl⟩
 simp(disch:=omega)only[↓RU,RV,RH,↓reduceIte,qE,reduceCtorEq,if_pos,w64,qN,↓RS,RG,qA,qM,qL,zaa,zcj,gF,zc2,hw4]
 apply hK;clear hK K
 refine zeo.norm rfl ?_
 exact ⟨_,rfl,z,hz1,hz2,zan⟩
def dn:List Int→Nat
 | []=>0
 | a::l=>(if a∈l then 0 else 1)+dn l
theorem ya6:∀ {m l:List Int},l.Nodup→(∀ x,x∈l↔x∈m)→l.length=dn m
 | [],l,_,h=>by
  cases l with
  | nil=>rfl
  | cons a l=>exact absurd ((h a).1 (by simp)) (by simp)
 | a::m,l,hn,h=>by
  unfold dn
  by_cases ha:a∈m
  ·rw [if_pos ha,ya6 (m:=m) hn fun x=>?_]; · omega
   rw [h x,List.mem_cons]
   constructor
   ·rintro (rfl | h)
    ·exact ha
    exact h
   exact .inr
  have hal:a∈l:=(h a).2 (by simp)
  have hl:=List.length_erase_of_mem hal
  have h0:=List.length_pos_of_mem hal
  rw [if_neg ha,← ya6 (m:=m) (l:=l.erase a) (hn.erase a) fun x=>?_]
  ·omega
  rw [hn.mem_erase_iff,h x,List.mem_cons]
  constructor
  ·rintro ⟨h1,h2 | h2⟩
   ·exact absurd h2 h1
   exact h2
  intro hx
  exact ⟨fun e=>ha (e ▸ hx),.inr hx⟩
theorem zy3 {l:List Int} {x y:Int}:y∈zpu l x↔y∈l∨y=x:=by
 unfold zpu
 split
 ·rename_i h
  constructor
  ·exact .inl
  rintro (h' | rfl)
  ·exact h'
  exact List.mem_of_getLast? h
 simp
theorem zp3 {z:List Int} (hz:z.Pairwise (· ≤ ·)):∀ p,p≤z.length→(ddp (z.take p)).Pairwise (· < ·)∧∀ x,x∈ddp (z.take p)↔x∈z.take p
 | 0,_=>by simp [ddp]
 | p+1,hp=>by
  obtain ⟨x,hx,-⟩:=zai (show p<z.length by omega)
  obtain ⟨h1,h2⟩:=zp3 hz p (by omega)
  have hle:∀ a∈z.take p,a≤x:=by
   intro a ha
   obtain ⟨j,hj,rfl⟩:=List.mem_take_iff_getElem.1 ha
   obtain ⟨hp',rfl⟩:=List.getElem?_eq_some_iff.1 hx
   exact (List.pairwise_iff_getElem.1 hz) j p (by omega) hp' (by omega)
  rw [zng hx]
  constructor
  ·unfold zpu
   split
   ·exact h1
   rename_i hl
   rw [List.pairwise_append]
   refine ⟨h1,by simp,?_⟩
   intro a ha b hb
   rw [List.mem_singleton]at hb
   subst hb
   have ha':=(h2 a).1 ha
   by_cases hp0:p=0
   ·subst hp0; simp at ha'
   obtain ⟨y,hy,-⟩:=zai (show p - 1<z.length by omega)
   have hlast:=zrp hy
   rw [show p - 1+1=p by omega]at hlast
   have hyb:y≠b:=fun e=>hl (e ▸ hlast)
   have hyl:y≤b:=hle y ((h2 y).1 (List.mem_of_getLast? hlast))
   have:a≤y:=by
    obtain ⟨j,hj,rfl⟩:=List.mem_take_iff_getElem.1 ha'
    obtain ⟨hp',rfl⟩:=List.getElem?_eq_some_iff.1 hy
    by_cases e:j=p - 1
    ·subst e; exact Int.le_refl _
    exact (List.pairwise_iff_getElem.1 hz) j (p - 1) (by omega) hp' (by omega)
   omega
  intro y
  rw [zy3,h2 y,tk hx]
  simp
theorem ydz {l z:List Int} (hp:z.Perm l) (hz:z.Pairwise (· ≤ ·)):(ddp z).length=dn l:=by
 have h:=zp3 hz z.length (qR _)
 rw [List.take_length]at h
 refine ya6 (h.1.imp fun h=>Int.ne_of_lt h) fun x=>?_
 rw [h.2 x]
 exact hp.mem_iff
def four (g:List (List Int)) (i k:Nat):List Int:=[gz g (i - 1) (k - 1),gz g (i - 1) k,gz g i (k - 1),gz g i k]
def zcx (g:List (List Int)) (many:Int) (i:Nat):Nat→Int
 | 0=>0
 | k+1=>zcx g many i k+if 1≤k∧((dn (four g i k):Nat):Int)=many then 1 else 0
def zsd (g:List (List Int)) (many:Int) (w:Nat):Nat→Int
 | 0=>0
 | i+1=>zsd g many w i+if 1≤i then zcx g many i w else 0
theorem zhj (g:List (List Int)) (many:Int) (i:Nat):∀ k,0≤zcx g many i k∧zcx g many i k≤k
 | 0=>by simp [zcx]
 | k+1=>by have:=zhj g many i k; unfold zcx; split <;> omega
theorem zq2 (g:List (List Int)) (many:Int) {w:Nat} (hw:w≤6):∀ i,0≤zsd g many w i∧zsd g many w i≤6*i
 | 0=>by simp [zsd]
 | i+1=>by have:=zq2 g many hw i; have:=zhj g many i w; unfold zsd; split <;> omega
theorem z8f {g:List (List Int)} {many:Int} {w:Nat}:zsd g many w 1=0:=by simp [zsd]
theorem zxa {g:List (List Int)} {many:Int} {i:Nat}:zcx g many i 1=0:=by simp [zcx]
theorem z45 {g:List (List Int)} {many:Int} {w i:Nat} (h:1≤i):zsd g many w (i+1)=zsd g many w i+zcx g many i w:=by simp [zsd,h]
theorem zw9 {g:List (List Int)} {many:Int} {i k:Nat} (h:1≤k) (e:((dn (four g i k):Nat):Int)=many):zcx g many i (k+1)=zcx g many i k+1:=by simp [zcx,h,e]
theorem zu5 {g:List (List Int)} {many:Int} {i k:Nat} (e:¬ ((dn (four g i k):Nat):Int)=many):zcx g many i (k+1)=zcx g many i k:=by simp [zcx,e]
theorem zwh {v t:Nat} {z:List Int} (hz:z.length=4):Ev Tryz.prog 145 [.loc 0 v 0 4] ⟨[.arr v 3 1 (z.map (.int .i64))],t⟩ fun r S=>∃ y:List Int,r = .loc 0 v 0 (ddp z).length∧S=⟨[.arr v 3 1 ((ddp z++y).map (.int .i64))],t⟩:=by
 have h:=zlo (F:=[]) (R:=[]) (ver:=v) (t:=t) (l:=z) (by omega)
 rw [hz]at h
 exact h
theorem z43 {g:List (List Int)} {nh nw:Nat} (hg:GW g nh nw) (rs:List Rect) (many:Int):PC Tryz.prog 119 [zat g rs,.int .i64 many] (.int .i64 (zsd g many nw nh)) true:=by
 have hl:=hg.1
 obtain ⟨hg1,hg2,hg3,hg4⟩:=hg.2.2
 obtain ⟨row0,hrow0,hrl0,-⟩:=hg.at_ (i:=0) (j:=0) (by omega) (by omega)
 refine PC.of ⟨Tryz.func119,by kernel_rfl,rfl,by kernel_rfl⟩ zao mixed (by show 2≤Tryz.f119.ntmps; decide) ?_
 refine W.r fun K hK=>?_
 simp(disch:=omega)only[↓RU,RV,RH,↓reduceIte,qE,reduceCtorEq,if_pos,↓RS,RG,qA,qM,qL]
 apply hK;clear hK K
 refine W.r fun K hK=>?_
 simp(disch:=omega)only[↓RU,RV,RH,↓reduceIte,qE,reduceCtorEq,if_pos,↓RS,RG,qA,qM,qL]
 apply hK;clear hK K
 refine W.seq ?_
 refine W.r fun K hK=>?_
 simp(disch:=omega)only[↓RU,RV,RH,↓reduceIte,qE,reduceCtorEq,if_pos,↓RS,RG,qA,qM,qL]
 apply hK;clear hK K
 refine W.block ?_
 refine W.loop [0,1,5,6] (fun n vs S=>∃ i t:Nat,n=nh - i∧i≤nh∧(1≤i)∧vs=[zat g rs,.int .i64 many,.int .i64 (zsd g many nw i),.int .i64 (i:Nat)]∧S=⟨[],t⟩) (nh - 1) ?_ ?_
 ·refine ⟨0,1,_,rfl,by omega,qR _,?_,rfl⟩
  simp [Env.put,Env.of,zaf,z8f]
 rintro n vs S - ⟨i,t,rfl,h_i,h1i,rfl,rfl⟩
 refine W.seq ?_
 refine W.r fun K hK=>?_
 simp(disch:=omega)only[↓RU,RV,RH,↓reduceIte,qE,reduceCtorEq,if_pos,qN,w64,↓RS,RG,qA,qM,qL,zaa,hl]
 refine zac.pc (zd8 g rs) rfl (.inl rfl) ?_
 simp(disch:=omega)only[↓RU,RV,RH,↓reduceIte,qE,reduceCtorEq,if_pos,qN,w64,↓RS,RG,qA,qM,qL,zaa,hl]
 apply hK;clear hK K
 refine W.cond rfl (fun h=>?_) (fun h=>?_)
 ·try simp only[RL]at h
  have hpb:=zq2 g many hg4 i
  refine W.skip ?_
  refine xn ?_
  refine W.seq ?_
  refine W.block ?_
  refine W.r fun K hK=>?_
  simp(disch:=omega)only[↓RU,RV,RH,↓reduceIte,qE,reduceCtorEq,if_pos,↓RS,RG,qA,qM,qL]
  apply hK;clear hK K
  refine W.block ?_
  refine W.loop [0,1,5,6,7] (fun n vs S=>∃ k t:Nat,n=nw - k∧k≤nw∧(1≤k)∧vs=[zat g rs,.int .i64 many,.int .i64 (zsd g many nw i+zcx g many i k),.int .i64 (i:Nat),.int .i64 (k:Nat)]∧S=⟨[],t⟩) (nw - 1) ?_ ?_
  ·refine ⟨0,1,_,rfl,by omega,qR _,?_,rfl⟩
   simp [Env.put,Env.of,zxa]
  rintro n vs S - ⟨k,t,rfl,h_k,h1k,rfl,rfl⟩
  refine W.seq ?_
  refine W.r fun K hK=>?_
  simp(disch:=omega)only[↓RU,RV,RH,↓reduceIte,qE,reduceCtorEq,if_pos,qN,w64,↓RS,RG,qA,qM,qL,zaa,hrl0]
  refine zac.pc (zem hrow0 rs) rfl (.inl rfl) ?_
  simp(disch:=omega)only[↓RU,RV,RH,↓reduceIte,qE,reduceCtorEq,if_pos,qN,w64,↓RS,RG,qA,qM,qL,zaa,hrl0]
  apply hK;clear hK K
  refine W.cond rfl (fun h1=>?_) (fun h1=>?_)
  ·try simp only[RL]at h1
   have hrb:=zhj g many i k
   obtain ⟨r1,hr1,hl1,hx1⟩:=hg.at_ (i:=i - 1) (j:=k - 1) (by omega) (by omega)
   obtain ⟨r1b,hr1b,-,hx2⟩:=hg.at_ (i:=i - 1) (j:=k) (by omega) (by omega)
   obtain ⟨r2,hr2,hl2,hx3⟩:=hg.at_ (i:=i) (j:=k - 1) (by omega) (by omega)
   obtain ⟨r2b,hr2b,-,hx4⟩:=hg.at_ (i:=i) (j:=k) (by omega) (by omega)
   obtain rfl:r1=r1b:=by rw [hr1]at hr1b; exact Option.some.inj hr1b
   obtain rfl:r2=r2b:=by rw [hr2]at hr2b; exact Option.some.inj hr2b
   refine W.skip ?_
   refine xn ?_
   refine W.seq ?_
   refine W.block ?_
   refine W.seq_draw (by kernel_rfl) fun K hK=>?_
   simp(disch:=omega)only[↓RU,RV,RH,↓reduceIte,qE,reduceCtorEq,if_pos,w64,↓RS,RG,qA,qM,qL,ty1,ty5,zab,zc9,zb0,zct,zaa,zda,zcu,hr1,hx1,hx2,hr2,hx3,hx4,zc1]
   apply hK;clear hK K
   refine W.r fun K hK=>?_
   simp(disch:=omega)only[↓RU,RV,RH,↓reduceIte,qE,reduceCtorEq,if_pos,qN,↓RS,RG,qA,qM,qL]
   refine zac.ev (ycr (F:=[]) (R:=[]) (l:=four g i k) rfl) ?_
   rintro _ _ ⟨rfl,z,hz1,hz2,rfl⟩
   simp(disch:=omega)only[↓RU,RV,RH,↓reduceIte,qE,reduceCtorEq,if_pos,qN,↓RS,RG,qA,qM,qL]
   apply hK;clear hK K
   have hz4:z.length=4:=hz1.length_eq
   have hdn:=ydz hz1 hz2
   refine W.r fun K hK=>?_
   simp(disch:=omega)only[↓RU,RV,RH,↓reduceIte,qE,reduceCtorEq,if_pos,qN,w64,↓RS,RG,qA,qM,qL,zab,zaa,hdn]
   refine zac.ev (zwh hz4) ?_
   rintro _ _ ⟨y,rfl,rfl⟩
   simp(disch:=omega)only[↓RU,RV,RH,↓reduceIte,qE,reduceCtorEq,if_pos,qN,w64,↓RS,RG,qA,qM,qL,zab,zaa,hdn]
   apply hK;clear hK K
   refine W.cond rfl (fun h2=>?_) (fun h2=>?_)
   ·try simp only[RL]at h2
    refine W.k fun K hK=>?_
    simp(disch:=omega)only[↓RU,RV,RH,↓reduceIte,qE,reduceCtorEq,if_pos,w64,↓RS,RG,qA,qM,qL,zaa]
    apply hK;clear hK K
    refine XbN ?_
    refine xn ?_
    refine W.k fun K hK=>?_
    simp(disch:=omega)only[↓RU,RV,RH,↓reduceIte,qE,reduceCtorEq,if_pos,w64,↓RS,RG,qA,qM,qL,zaa]
    apply hK;clear hK K
    refine xn ?_
    refine ⟨nw - (k+1),by omega,0,k+1,_,rfl,by omega,by omega,?_,rfl⟩
    simp [Env.put,Env.of,zw9 h1k h2,Int.add_assoc]
   try simp only[RL]at h2
   refine W.skip ?_
   refine XbN ?_
   refine xn ?_
   refine W.k fun K hK=>?_
   simp(disch:=omega)only[↓RU,RV,RH,↓reduceIte,qE,reduceCtorEq,if_pos,w64,↓RS,RG,qA,qM,qL,zaa]
   apply hK;clear hK K
   refine xn ?_
   refine ⟨nw - (k+1),by omega,0,k+1,_,rfl,by omega,by omega,?_,rfl⟩
   simp [Env.put,Env.of,zu5 h2,Int.add_assoc]
  try simp only[RL]at h1
  obtain rfl:nw=k:=by omega
  refine W.exit ?_
  refine xe ?_
  refine xe ?_
  refine XBlock.hit ?_
  refine XbN ?_
  refine xn ?_
  refine W.k fun K hK=>?_
  simp(disch:=omega)only[↓RU,RV,RH,↓reduceIte,qE,reduceCtorEq,if_pos,w64,↓RS,RG,qA,qM,qL,zaa]
  apply hK;clear hK K
  refine xn ?_
  refine ⟨nh - (i+1),by omega,0,i+1,_,rfl,by omega,by omega,?_,rfl⟩
  simp [Env.put,Env.of,z45 h1i]
 try simp only[RL]at h
 obtain rfl:nh=i:=by omega
 refine W.exit ?_
 refine xe ?_
 refine xe ?_
 refine XBlock.hit ?_
 refine xn ?_
 refine W.r fun K hK=>?_
 simp(disch:=omega)only[↓RU,RV,RH,↓reduceIte,qE,reduceCtorEq,if_pos,↓RS,RG,qA,qM,qL]
 apply hK;clear hK K
 refine W.ret ?_
 refine Br rfl ?_
 rfl
theorem z3i {g:List (List Int)} {nh nw:Nat} (hg:GW g nh nw) (rs:List Rect):PC Tryz.prog 75 [zat g rs] (.bool (decide (zsd g 4 nw nh=0))) true:=by
 refine PC.of ⟨Tryz.func75,by kernel_rfl,rfl,by kernel_rfl⟩ zao mixed (by show 1≤Tryz.f75.ntmps; decide) ?_
 refine W.r fun K hK=>?_
 simp(disch:=omega)only[↓RU,RV,RH,↓reduceIte,qE,reduceCtorEq,if_pos]
 apply hK;clear hK K
 refine W.r fun K hK=>?_
 simp(disch:=omega)only[↓RU,RV,RH,↓reduceIte,qE,reduceCtorEq,if_pos,qN,w64,zaa]
 refine zac.pc (z43 hg rs 4) rfl (.inl rfl) ?_
 simp(disch:=omega)only[↓RU,RV,RH,↓reduceIte,qE,reduceCtorEq,if_pos,qN,w64,zaa]
 apply hK;clear hK K
 refine W.ret ?_
 refine Br rfl ?_
 rfl
def z37 (z:Int):UInt8:=UInt8.ofNat (97+z.toNat)
def zpc (row:List Int):Txt:=row.map z37
def zfa (g:List (List Int)):List Txt:=g.map zpc
theorem ye3 {z:Int} (h:0≤z):IntKind.u8.wrap (97+z)=((z37 z).toNat:Int):=by
 obtain ⟨n,rfl⟩:=Int.eq_ofNat_of_zero_le h
 exact yf4
def stB (o:List Txt) (vo vb:Nat) (l:Txt) (vq t:Nat):Store :=
 match l with
 | []=>⟨[.arr vo 9 1 (o.map .str),.arr vb 104 2 [.nilp,.nils]],t⟩
 | l=>⟨[.arr vo 9 1 (o.map .str),.arr vb 104 2 [.ref 1 vb 0,.loc 2 vq 0 l.length],.arr vq 5 1 (l.map eB)],t⟩
theorem yer {o:List Txt} {vo vb:Nat} {l:Txt} {vq t:Nat} (h:l≠[]):stB o vo vb l vq t=⟨[.arr vo 9 1 (o.map .str),.arr vb 104 2 [.ref 1 vb 0,.loc 2 vq 0 l.length],.arr vq 5 1 (l.map eB)],t⟩:=by
 cases l with
 | nil=>exact absurd rfl h
 | cons a l=>rfl
theorem ycj {S:Store} {k f:Nat} {sel:List Nat} (o:List Txt):(o.map PV.str).mapM (rn S k sel (f+1))=some (o.map PV.str):=zso (by simp [scal])
theorem z1s {S:Store} {im:Bool} {f:Nat} (o:List Txt):(o.map PV.str).mapM (reify S im (f+1))=some (o.map PV.str):=zl5 (by simp [scal])
theorem zzw (row:List Int):(zpc row).length=row.length:=by simp [zpc]
theorem ycl {row:List Int} (h:1≤row.length):zpc row≠[]:=by
 intro e
 have:=zzw row
 rw [e]at this
 simp at this; omega
theorem z5m {row:List Int} {k:Nat} {z:Int} (h:row[k]?=some z):zpc (row.take (k+1))=zpc (row.take k)++[z37 z]:=by simp [zpc,tk h]
theorem z55 {g:List (List Int)} {o:List Txt} (hl:o.length=g.length) (h:∀ j,j<g.length→o[j]?=(zfa g)[j]?):o=zfa g:=by
 refine List.ext_getElem? fun j=>?_
 by_cases hj:j<g.length
 ·exact h j hj
 rw [List.getElem?_eq_none (by omega),List.getElem?_eq_none (by simp [zfa]; omega)]
theorem zlh {g:List (List Int)} {j:Nat} {row:List Int} (h:g[j]?=some row):(zfa g)[j]?=some (zpc row):=by simp [zfa,h]
section
open Go Go.RowKit
set_option maxHeartbeats 1000000 in
set_option maxRecDepth 100000 in
theorem zpo (b:Nat) (w:World) (h0:w.cell? ⟨b,0,none⟩=some (.pointer (some ⟨b,0,none⟩))) :
  Calls Tryz.prog 113 #[.pointer (some ⟨b,0,none⟩)] w fun e w'=>e = .returned (.tuple #[])∧w'=w:=by
 obtain ⟨j,d,z,hj,_⟩:=(zao 104 (by decide)).1
 go_enter Tryz.func113,Tryz.ntmps113
 go_wp2
 rw [Lib.run_neq_ptr_same w _ Tryz.underlying102 hj]
 go_wp2
 go_end0
 exact ⟨rfl,rfl⟩
theorem yfw (count:Nat) (hn:1≤count):liesAt Tryz.prog Tryz.prog.depth 104 count 0 104 1=true:=by
 have hc:Tryz.prog.cellsOf 104=2:=by kernel_rfl
 have hd:Tryz.prog.depth=(2*(Tryz.prog.types.size+Made.depth)+1)+1:=rfl
 rw [hd]
 simp only[liesAt,Bool.or_eq_true]
 left
 rw [hd]
 simp [rowAt,hc,hn,sameLayout]
set_option maxHeartbeats 1000000 in
set_option maxRecDepth 100000 in
theorem zn4 (b n:Nat) (hn:2≤n) (w:World) (h0:w.cell? ⟨b,0,none⟩=some (.pointer none)) (hsh:w.shape? b=some (104,n)) (hfz:w.frozen? ⟨b,0,none⟩=false) :
  Calls Tryz.prog 113 #[.pointer (some ⟨b,0,none⟩)] w fun e w'=>e = .returned (.tuple #[])∧w'=w.setCell ⟨b,0,none⟩ (.pointer (some ⟨b,0,none⟩)):=by
 obtain ⟨j,d,z,hj,hd,hf,hsz,hby,hz,_⟩:=(zao 104 (by decide)).1
 have hjs:j.size≠0:=by rw [hsz]; decide
 have hlies:liesAt Tryz.prog Tryz.prog.depth 104 (n / Tryz.prog.cellsOf 104) 0 104 1=true:=by
  rw [show Tryz.prog.cellsOf 104=2 by kernel_rfl]
  exact yfw _ (by omega)
 go_enter Tryz.func113,Tryz.ntmps113
 go_wp2
 rw [Lib.run_to_unsafe w ⟨b,0,none⟩ Tryz.underlying102 Tryz.underlying170 hj hjs hsh (show 0<n by omega)]
 simp only[Result.andThen]
 rw [Oper.upon_value]
 go_wp2
 rw [run_callFunc_extern Tryz.func142 (by kernel_rfl) (by kernel_rfl) (by kernel_rfl) (e:=Extern.AbiNoEscape.same) (by kernel_rfl)]
 rw [Lib.run_noEscape]
 simp only[Result.andThen]
 rw [Oper.upon_value]
 go_wp2
 rw [Lib.run_from_unsafe w ⟨b,0,none⟩ Tryz.underlying170 Tryz.underlying102 hj hsh hlies]
 simp only[Result.andThen]
 rw [Oper.upon_value]
 go_wp2
 go_end0
 exact ⟨rfl,rfl⟩
set_option maxHeartbeats 1000000 in
set_option maxRecDepth 100000 in
theorem zrn (b g cap:Nat) (cur:Array Value) (fz:Nat × Nat) (l:List UInt8) (w:World) (hbk:w.cell? ⟨b,1,none⟩=some (.slice (some ⟨g,0,none⟩) l.length cap))
  (hg:w.heap[g]?=some (.cells cur 5 fz)) (hc:l.length≤cur.size) (hcap:cap≠0) (h63:l.length≤9223372036854775807) (h0:l≠[])
  (hl:∀ (j:Nat) x,l[j]?=some x→cur[j]?=some (.int .u8 x.toNat)) :
  Calls Tryz.prog 62 #[.pointer (some ⟨b,0,none⟩)] w fun e w'=>e = .returned (.string ⟨l.toArray⟩)∧w'=w.drew.freeze ⟨g,0,none⟩ l.length:=by
 have c1:w.drew.cell? ⟨b,1,none⟩=some (.slice (some ⟨g,0,none⟩) l.length cap):=hbk
 have hSD:(Builtin.unsafeSliceData_ #[22] 146 #[.slice (some ⟨g,0,none⟩) l.length cap]).run Tryz.prog w.drew = .ok (.pointer (some ⟨g,0,none⟩)) w.drew :=
  Lib.run_unsafeSliceData_row _ _ _ _ _ _ hcap
 have hUS:(Builtin.unsafeString_ #[146,3] 9 #[.pointer (some ⟨g,0,none⟩),.int .i64 l.length]).run Tryz.prog w.drew = .ok (.string ⟨l.toArray⟩) (w.drew.freeze ⟨g,0,none⟩ l.length):=by
  have hg':w.drew.heap[g]?=some (.cells cur 5 fz):=hg
  refine Lib.run_unsafeString_row w.drew 146 3 9 5 Tryz.underlying146 (by kernel_rfl) g cur.size (by simp [World.shape?,hg']) l h0 hc h63 ?_
  intro j x hx
  by_cases hj:j=0
  ·subst hj; simp [World.cell?,Addr.add,hg',hl 0 x hx]
  simp [World.cell?,Addr.add,hj,hg',hl j x hx]
 go_enter Tryz.func62,Tryz.ntmps62
 go_wp2
 go_region
 all_goals (go_wp2; go_ret; exact ⟨rfl,rfl⟩)
variable {F:Nat→Prop} {G:GSt} {w:World}
theorem zmi {S:Store} {o ver:Nat} {c0 c1:PV} (hS:S.obs[o]?=some (.arr ver 104 2 [c0,c1])) (h0:c0 = .nilp∨c0 = .ref o ver 0) :
  Ev Tryz.prog 113 [.ref o ver 0] S fun v S'=>v = .tup []∧S'=⟨S.obs.set o (.arr ver 104 2 [.ref o ver 0,c1]),S.tick⟩:=by
 refine ⟨Fn.ent ⟨Tryz.func113,by kernel_rfl,rfl,by kernel_rfl⟩,fun F G w cargs hE hi hl hv=>?_⟩
 subst hE
 obtain ⟨c,rfl⟩:∃ c,cargs = #[c]:=by
  match cargs,hl with
  | ⟨[c]⟩,_=>exact ⟨c,rfl⟩
 have hco:G.er.cellsOf o ver=some [c0,c1]:=by simp [Store.cellsOf,hS]
 obtain ⟨et,sz,l,hG,rfl,hver⟩:=(hv 0 _ c rfl rfl).ref_at hi hco
 obtain ⟨l2,hG2⟩:=zfk hS
 rw [hG]at hG2
 cases hG2
 obtain ⟨cs,⟨fz,hb,hz⟩,hcs,hle,hcell⟩:=hi.arr o _ _ _ _ l hG
 obtain ⟨-,v0,hv0,hr0⟩:=hcell 0 c0 rfl
 obtain ⟨hc1,v1,hv1,hr1⟩:=hcell 1 c1 rfl
 have hle2:2≤cs.size:=by simp only[List.length_cons,List.length_nil]at hle; omega
 have hself:∀ (G':GSt),G.tick≤G'.tick→(∀ ob l',G'.obs[o]?=some (ob,l')→ob.ver=ver→∃ et sz cells,ob = .arr ver et sz cells∧l'=l)→VR w.heap F G' (.ref o ver 0) (.pointer (some ⟨l.blk,0,none⟩)):=by
  intro G' ht h
  refine .ref _ _ _ _ (Nat.lt_of_lt_of_le hver ht) fun ob l' h1 h2=>?_
  obtain ⟨a,b,c,d,rfl⟩:=h ob l' h1 h2
  exact ⟨a,b,c,d,rfl⟩
 have hcell0:w.cell? ⟨l.blk,0,none⟩=some v0:=by simp [World.cell?,hb,hv0]
 have put:∀ w':World,w'.os=w.os→w'.tape=w.tape→w'.output=w.output→w.drawn≤w'.drawn→w'.heap.size=w.heap.size→(∀ b,b≠l.blk→w'.heap[b]?=w.heap[b]?) →
   (∃ cs':Array Value,w'.heap[l.blk]?=some (.cells cs' 104 fz)∧cs'.size=cs.size∧cs'[0]?=some (.pointer (some ⟨l.blk,0,none⟩))∧cs'[1]?=some v1) →
   Inv F ⟨G.obs.set o (.arr ver 104 2 [.ref o ver 0,c1],l),G.tick⟩ w'∧Next F G w F ⟨G.obs.set o (.arr ver 104 2 [.ref o ver 0,c1],l),G.tick⟩ w':=by
  rintro w' h1 h2 h3 hd h4 h5 ⟨cs',k1,k2,k3,k4⟩
  refine zjv hi hG _ l G.tick w' h1 h2 h3 hd (by omega) (.inl rfl) (fun b _ hb=>h5 b hb) (qR _) (show ver<G.tick from hver) (.inl ⟨rfl,by simp [Ob.like],rfl⟩) ?_
  refine ⟨cs',⟨fz,k1,hz.of k2⟩,by omega,by simp; omega,?_⟩
  rintro (_ | _ | i) p hp
  ·simp at hp; subst hp
   exact ⟨rfl,_,k3,hself G (qR _) fun ob l' h1 h2=>by rw [hG]at h1; cases h1; exact ⟨_,_,_,rfl,rfl⟩⟩
  ·simp at hp; subst hp
   exact ⟨hc1,v1,k4,hr1⟩
  simp at hp
 have er:∀ ob,(⟨G.obs.set o (ob,l),G.tick⟩:GSt).er=⟨G.er.obs.set o ob,G.er.tick⟩:=by intro ob; simp [GSt.er,List.map_set]
 rcases h0 with rfl | rfl
 ·have hv0':v0 = .pointer none:=by cases hr0 with | imm _ _ h=>cases h; rfl
  subst hv0'
  refine (zn4 l.blk cs.size hle2 w hcell0 (by simp [World.shape?,hb]) (by obtain ⟨lo,hi'⟩:=fz; simp only[World.frozen?,hb,Bool.and_eq_false_iff,decide_eq_false_iff_not]; rcases hz with h | h <;> simp only at h <;> omega)).mono ?_
  rintro e w' ⟨rfl,rfl⟩
  obtain ⟨i1,n1⟩:=put (w.setCell ⟨l.blk,0,none⟩ (.pointer (some ⟨l.blk,0,none⟩))) rfl rfl rfl (qR _) (by simp) (fun b hb=>by simp [World.setCell,Array.getElem?_modify,Ne.symm hb])
   ⟨cs.setIfInBounds 0 (.pointer (some ⟨l.blk,0,none⟩)),by simp [World.setCell,Array.getElem?_modify,hb],by simp,by rw [Array.getElem?_setIfInBounds,if_pos rfl,if_pos (by omega)],by simp [Array.getElem?_setIfInBounds,hv1]⟩
  exact ⟨_,_,F,_,rfl,⟨rfl,er _⟩,i1,n1,.tup [] #[] rfl (by simp)⟩
 have hv0':v0 = .pointer (some ⟨l.blk,0,none⟩):=by
  obtain ⟨_,_,l3,h1,h2,_⟩:=hr0.ref_at hi hco
  rw [hG]at h1; cases h1; exact h2
 subst hv0'
 refine (zpo l.blk w hcell0).mono ?_
 rintro e w' ⟨rfl,rfl⟩
 obtain ⟨i1,n1⟩:=put w' rfl rfl rfl (qR _) rfl (fun _ _=>rfl) ⟨cs,hb,rfl,hv0,hv1⟩
 exact ⟨_,_,F,_,rfl,⟨rfl,er _⟩,i1,n1,.tup [] #[] rfl (by simp)⟩
theorem zm7 {A:List Ob} {t ver vq:Nat} {c0:PV} {l:Txt} (h0:l≠[]) :
  Ev Tryz.prog 62 [.ref A.length ver 0] ⟨A++[.arr ver 104 2 [c0,.loc (A.length+1) vq 0 l.length],.arr vq 5 1 (l.map eB)],t⟩ fun v S'=>v = .str l∧S'=⟨A,t⟩:=by
 refine ⟨Fn.ent ⟨Tryz.func62,by kernel_rfl,rfl,by kernel_rfl⟩,fun F G w cargs hE hi hl hv=>?_⟩
 obtain ⟨c,rfl⟩:∃ c,cargs = #[c]:=by
  match cargs,hl with
  | ⟨[c]⟩,_=>exact ⟨c,rfl⟩
 have hobs:G.er.obs=A++[.arr ver 104 2 [c0,.loc (A.length+1) vq 0 l.length],.arr vq 5 1 (l.map eB)]:=by rw [hE]
 have htk:G.tick=t:=congrArg Store.tick hE
 have hSo:G.er.obs[A.length]?=some (.arr ver 104 2 [c0,.loc (A.length+1) vq 0 l.length]):=by rw [hobs]; simp
 have hSq:G.er.obs[A.length+1]?=some (.arr vq 5 1 (l.map eB)):=by rw [hobs]; simp
 obtain ⟨et,sz,lo,hGo,rfl,hver⟩:=(hv 0 _ c rfl rfl).ref_at hi (cells:=[c0,.loc (A.length+1) vq 0 l.length]) (by simp [Store.cellsOf,hSo])
 obtain ⟨lo2,hGo2⟩:=zfk hSo
 rw [hGo]at hGo2
 cases hGo2
 obtain ⟨lq,hGq⟩:=zfk hSq
 obtain ⟨cs,⟨fo,hb,-⟩,hcs,hle,hcell⟩:=hi.arr _ _ _ _ _ lo hGo
 obtain ⟨cq,⟨fq,hbq,-⟩,hcq,hleq,hcellq⟩:=hi.arr _ _ _ _ _ lq hGq
 obtain ⟨-,v0,hv0,hr0⟩:=hcell 0 c0 rfl
 obtain ⟨-,v1,hv1,hr1⟩:=hcell 1 _ rfl
 obtain ⟨_,_,lq2,cap,hGq2,rfl,_,hnc,hcm,hroom⟩:=hr1.loc_at hi (cells:=l.map eB) (by simp [Store.cellsOf,hSq])
 rw [hGq]at hGq2
 cases hGq2
 have hl0:l.length≠0:=by simpa using h0
 have hc1:w.cell? ⟨lo.blk,1,none⟩=some (.slice (some ⟨lq.blk,0,none⟩) l.length cap):=by simp [World.cell?,hb,hv1]
 refine (zrn lo.blk lq.blk cap cq fq l w hc1 hbq (by simp at hleq; omega) (by omega) (by unfold maxLen at hcm; omega) h0 ?_).mono ?_
 ·intro j x hx
  obtain ⟨-,v,k1,k2⟩:=hcellq j (eB x) (by simp [hx])
  rw [k1,k2.int]
 ·rintro e w' ⟨rfl,rfl⟩
  have hoth:∀ b,b≠lq.blk→(w.drew.freeze ⟨lq.blk,0,none⟩ l.length).heap[b]?=w.heap[b]?:=by
   intro b hb'
   show _=w.drew.heap[b]?
   simp only[World.freeze,if_neg hl0,Array.getElem?_modify,Ne.symm hb',if_false]
  have hsz:(w.drew.freeze ⟨lq.blk,0,none⟩ l.length).heap.size=w.heap.size:=by
   show (w.drew.freeze ⟨lq.blk,0,none⟩ l.length).heap.size=w.drew.heap.size
   simp only[World.freeze,if_neg hl0,Array.size_modify]
  have hos:∀ w2:World,(w2.freeze ⟨lq.blk,0,none⟩ l.length).os=w2.os∧(w2.freeze ⟨lq.blk,0,none⟩ l.length).tape=w2.tape∧(w2.freeze ⟨lq.blk,0,none⟩ l.length).output=w2.output:=by
   intro w2; simp [World.freeze,hl0]
  have nx:Next F G w F (G.take A.length) (w.drew.freeze ⟨lq.blk,0,none⟩ l.length) :=
   ⟨(hos _).1,(hos _).2.1,(hos _).2.2,by omega,fun _ h=>h,fun _ h => .inl h,fun o x h => .inr ⟨o,x,zcc h,rfl⟩,qR _,
    fun b _ hG=>hoth b fun e=>hG _ _ hGq e.symm,fun _ ob' _ h _=>⟨ob',zcc h,rfl,Ob.like.refl _⟩,by simp [World.freeze,hl0]⟩
  have tlt:∀ (o:Nat) x,(G.take A.length).obs[o]?=some x→o<A.length:=by
   intro o x hx
   have:=(List.getElem?_eq_some_iff.1 hx).1
   simp only[GSt.take,List.length_take]at this; omega
  refine ⟨.str l,_,F,G.take A.length,rfl,⟨rfl,?_⟩,zh9 (fun b hb=>by rw [hsz]; exact hi.fr b hb) (fun o ob l' h=>hi.ver o ob l' (zcc h)) (fun o ob l' h=>hi.nF o ob l' (zcc h))
   (fun o ob l' h=>(hi.holds (zcc h)).next hi nx (hoth _ fun e=>?_)) (fun o o' x x' h h'=>hi.inj o o' x x' (zcc h) (zcc h')),nx,.imm _ _ (.str _ _ rfl)⟩
  ·rw [zio,hE]; simp [Store.take]
  have:=hi.inj o _ _ _ (zcc h) hGq e
  have:=tlt o _ h
  omega
end
theorem zsz {o:List Txt} {vo vb t:Nat} (x:UInt8):Ev Tryz.prog 61 [.ref 1 vb 0,eB x] ⟨[.arr vo 9 1 (o.map .str),.arr vb 104 2 [.nilp,.nils]],t⟩ fun v S=>v = .undef∧∃ vq t2:Nat,S=⟨[.arr vo 9 1 (o.map .str),.arr vb 104 2 [.ref 1 vb 0,.loc 2 vq 0 ([x]).length],.arr vq 5 1 (([x]).map eB)],t2⟩:=by
 refine Ev.of ⟨Tryz.func61,by kernel_rfl,rfl,by kernel_rfl⟩ zao mixed (by show 2≤Tryz.f61.ntmps; decide) ?_
 refine W.r fun K hK=>?_
 simp(disch:=omega)only[↓RU,RV,RH,↓reduceIte,qE,reduceCtorEq,if_pos,↓RS,RG,qA,qM,qL]
 apply hK;clear hK K
 refine W.r fun K hK=>?_
 simp(disch:=omega)only[↓RU,RV,RH,↓reduceIte,qE,reduceCtorEq,if_pos,qN,↓RS,RG,qA,qM,qL,List.set_cons_succ,List.set_cons_zero]
 refine zac.ev (zmi (S:=⟨[.arr vo 9 1 (o.map .str),.arr vb 104 2 [.nilp,.nils]],t⟩) (o:=1) rfl (.inl rfl)) ?_
 rintro _ _ ⟨rfl,rfl⟩
 simp(disch:=omega)only[↓RU,RV,RH,↓reduceIte,qE,reduceCtorEq,if_pos,qN,↓RS,RG,qA,qM,qL,List.set_cons_succ,List.set_cons_zero]
 apply hK;clear hK K
 refine W.joinS [] (fun vs S=>vs=[]∧∃ vq t2:Nat,S=⟨[.arr vo 9 1 (o.map .str),.arr vb 104 2 [.ref 1 vb 0,.loc 2 vq 0 ([x]).length],.arr vq 5 1 (([x]).map eB)],t2⟩) ?_ ?_
 ·
  refine W.k fun K hK=>?_
  simp(disch:=omega)only[↓RU,RV,RH,↓reduceIte,qE,reduceCtorEq,if_pos,↓RS,RG,qA,qM,qL,ty9,yf0,yf1,yf2,zaw]
  apply hK;clear hK K
  refine xn ?_
  refine ⟨2,[3],[],⟨[.arr vo 9 1 (o.map .str),.arr vb 104 2 [.ref 1 vb 0,.loc 2 (t+2) 0 ([x]).length],.arr (t+2) 5 1 (([x]).map eB)],(t+3)⟩,?_,?_,rfl,t+2,t+3,rfl⟩
  ·simp [-qU,Env.put,Env.of,zaf,zbi,zah,zak,zap,zar,zbo,zbp,zcm,zbn,za3,zbq,zcl,zcn,za5,za4,zas,zbm,zbr,zck,za1,za0,zaq,za2,zbl,zeq,qS,qP,qC]
  simp [-qU,Env.put,Env.of,zaf,zbi,zah,zak,zap,zar,zbo,zbp,zcm,zbn,za3,zbq,zcl,zcn,za5,za4,zas,zbm,zbr,zck,za1,za0,zaq,za2,zbl,zeq,qS,qP,qC,ycj]
 rintro vs S - ⟨rfl,vq,t2,rfl⟩
 refine W.r fun K hK=>?_
 simp(disch:=omega)only[↓RU,RV,RH,↓reduceIte,qE,reduceCtorEq,if_pos,↓RS,RG,qA,qM,qL]
 apply hK;clear hK K
 refine W.ret ?_
 refine Br rfl ?_
 exact ⟨_,rfl,vq,t2,zan⟩
theorem zs0 {o:List Txt} {vo vb vq t:Nat} {l:Txt} (hl:l.length<2147483647) (x:UInt8):Ev Tryz.prog 61 [.ref 1 vb 0,eB x] ⟨[.arr vo 9 1 (o.map .str),.arr vb 104 2 [.ref 1 vb 0,.loc 2 vq 0 (l).length],.arr vq 5 1 ((l).map eB)],t⟩ fun v S=>v = .undef∧∃ vq t2:Nat,S=⟨[.arr vo 9 1 (o.map .str),.arr vb 104 2 [.ref 1 vb 0,.loc 2 vq 0 (l++[x]).length],.arr vq 5 1 ((l++[x]).map eB)],t2⟩:=by
 refine Ev.of ⟨Tryz.func61,by kernel_rfl,rfl,by kernel_rfl⟩ zao mixed (by show 2≤Tryz.f61.ntmps; decide) ?_
 refine W.r fun K hK=>?_
 simp(disch:=omega)only[↓RU,RV,RH,↓reduceIte,qE,reduceCtorEq,if_pos,↓RS,RG,qA,qM,qL]
 apply hK;clear hK K
 refine W.r fun K hK=>?_
 simp(disch:=omega)only[↓RU,RV,RH,↓reduceIte,qE,reduceCtorEq,if_pos,qN,↓RS,RG,qA,qM,qL,List.set_cons_succ,List.set_cons_zero]
 refine zac.ev (zmi (S:=⟨[.arr vo 9 1 (o.map .str),.arr vb 104 2 [.ref 1 vb 0,.loc 2 vq 0 (l).length],.arr vq 5 1 ((l).map eB)],t⟩) (o:=1) rfl (.inr rfl)) ?_
 rintro _ _ ⟨rfl,rfl⟩
 simp(disch:=omega)only[↓RU,RV,RH,↓reduceIte,qE,reduceCtorEq,if_pos,qN,↓RS,RG,qA,qM,qL,List.set_cons_succ,List.set_cons_zero]
 apply hK;clear hK K
 refine W.r fun K hK=>?_
 simp(disch:=omega)only[↓RU,RV,RH,↓reduceIte,qE,reduceCtorEq,if_pos,↓RS,RG,qA,qM,qL,ty9,yf0,yf1,yf2,zaw]
 apply hK;clear hK K
 refine W.r fun K hK=>?_
 simp(disch:=omega)only[↓RU,RV,RH,↓reduceIte,qE,reduceCtorEq,if_pos,↓RS,RG,qA,qM,qL]
 apply hK;clear hK K
 refine W.ret ?_
 refine Br rfl ?_
 exact ⟨3,rfl,t+1,t+2,by simp [zde]⟩
theorem zv4 {o:List Txt} {vo vb vq t:Nat} {l:Txt} (hl:l.length<2147483647) (x:UInt8):Ev Tryz.prog 61 [.ref 1 vb 0,eB x] (stB o vo vb l vq t) fun v S=>v = .undef∧∃ vq2 t2:Nat,S=stB o vo vb (l++[x]) vq2 t2:=by
 cases l with
 | nil=>exact zsz x
 | cons a l=>exact zs0 hl x
theorem z0o {o:List Txt} {vo vb vq t:Nat} {l:Txt} (h0:l≠[]):Ev Tryz.prog 62 [.ref 1 vb 0] (stB o vo vb l vq t) fun v S=>v = .str l∧S=⟨[.arr vo 9 1 (o.map .str)],t⟩:=by
 rw [yer h0]
 exact zm7 (A:=[.arr vo 9 1 (o.map .str)]) h0
theorem z58 {g:List (List Int)} {nh nw:Nat} (hg:GW g nh nw) (rs:List Rect) (hz:∀ r∈g,∀ z∈r,0≤z∧z≤100):PC Tryz.prog 26 [zat g rs] (zep (zfa g)) true:=by
 have hl:=hg.1
 obtain ⟨hg1,hg2,hg3,hg4⟩:=hg.2.2
 refine PC.of ⟨Tryz.func26,by kernel_rfl,rfl,by kernel_rfl⟩ zao mixed (by show 1≤Tryz.f26.ntmps; decide) ?_
 refine W.r fun K hK=>?_
 simp(disch:=omega)only[↓RU,RV,RH,↓reduceIte,qE,reduceCtorEq,if_pos,↓RS,RG,qA,qM,qL]
 apply hK;clear hK K
 refine W.r fun K hK=>?_
 simp(disch:=omega)only[↓RU,RV,RH,↓reduceIte,qE,reduceCtorEq,if_pos,qN,↓RS,RG,qA,qM,qL,ty8,zae,hl,zei,znp,zef]
 refine zac.pc (zd8 g rs) rfl (.inl rfl) ?_
 simp(disch:=omega)only[↓RU,RV,RH,↓reduceIte,qE,reduceCtorEq,if_pos,qN,↓RS,RG,qA,qM,qL,ty8,zae,hl,zei,znp,zef]
 apply hK;clear hK K
 refine W.seq ?_
 refine W.r fun K hK=>?_
 simp(disch:=omega)only[↓RU,RV,RH,↓reduceIte,qE,reduceCtorEq,if_pos,↓RS,RG,qA,qM,qL,ty1,ty5,zab,zc9,zb0,zct,zaa,zda,zcu,hl]
 apply hK;clear hK K
 refine W.block ?_
 refine W.loop [0,3,15,16,17] (fun n vs S=>∃ (i vo t:Nat) (o:List Txt),n=nh - i∧i≤nh∧o.length=nh∧(∀ j,j<i→o[j]?=(zfa g)[j]?)∧vs=[zat g rs,.loc 0 vo 0 nh,zdl g,.int .i64 nh,.int .i64 (i:Nat)]∧S=⟨[.arr vo 9 1 (o.map .str)],t⟩) nh ?_ ?_
 ·refine ⟨1,0,0,1,List.replicate nh [],rfl,Nat.zero_le _,by simp,fun j h=>absurd h (by omega),?_,?_⟩
  ·simp [Env.put,Env.of,zaf,hl]
  simp [zde,znp]
 rintro n vs S - ⟨i,vo,t,o,rfl,h_i,hol,hdone,rfl,rfl⟩
 refine W.r fun K hK=>?_
 simp(disch:=omega)only[↓RU,RV,RH,↓reduceIte,qE,reduceCtorEq,if_pos,w64,↓RS,RG,qA,qM,qL,zaa]
 apply hK;clear hK K
 refine W.seq ?_
 refine W.cond rfl (fun h=>?_) (fun h=>?_)
 ·try simp only[RL]at h
  obtain ⟨row,hrow,hrm⟩:=zai (show i<g.length by omega)
  have hrl:=hg.2.1 row hrm
  have hrz:=hz row hrm
  refine W.skip ?_
  refine xn ?_
  refine W.seq ?_
  refine W.block ?_
  refine W.r fun K hK=>?_
  simp(disch:=omega)only[↓RU,RV,RH,↓reduceIte,qE,reduceCtorEq,if_pos,↓RS,RG,qA,qM,qL,ty1,zab,zb0,zaa,hrow]
  apply hK;clear hK K
  refine W.r fun K hK=>?_
  simp(disch:=omega)only[↓RU,RV,RH,↓reduceIte,qE,reduceCtorEq,if_pos,↓RS,RG,qA,qM,qL,ty9,yf0,yf1,yf2,zaw]
  apply hK;clear hK K
  refine W.seq ?_
  refine W.r fun K hK=>?_
  simp(disch:=omega)only[↓RU,RV,RH,↓reduceIte,qE,reduceCtorEq,if_pos,↓RS,RG,qA,qM,qL,zab,zaa,hrl]
  apply hK;clear hK K
  refine W.block ?_
  refine W.loop [0,3,15,16,17,4,6,22,23,24] (fun n vs S=>∃ (k vb vq t:Nat),n=nw - k∧k≤nw∧vs=[zat g rs,.loc 0 vo 0 nh,zdl g,.int .i64 nh,.int .i64 (i:Nat),.int .i64 (i:Nat),.ref 1 vb 0,eInts row,.int .i64 nw,.int .i64 (k:Nat)]∧S=stB o vo vb (zpc (row.take k)) vq t) nw ?_ ?_
  ·refine ⟨2,0,_,0,_,rfl,Nat.zero_le _,?_,rfl⟩
   simp [Env.put,Env.of,hrl]
  rintro n vs S - ⟨k,vb,vq,t,rfl,h_k,rfl,rfl⟩
  refine W.r fun K hK=>?_
  simp(disch:=omega)only[↓RU,RV,RH,↓reduceIte,qE,reduceCtorEq,if_pos,w64,↓RS,RG,qA,qM,qL,zaa]
  apply hK;clear hK K
  refine W.seq ?_
  refine W.cond rfl (fun h1=>?_) (fun h1=>?_)
  ·try simp only[RL]at h1
   obtain ⟨z,hzk,hzm⟩:=zai (show k<row.length by omega)
   have hzb:=hrz z hzm
   have hul:=ye3 hzb.1
   refine W.skip ?_
   refine xn ?_
   refine W.seq ?_
   refine W.block ?_
   refine W.r fun K hK=>?_
   simp(disch:=omega)only[↓RU,RV,RH,↓reduceIte,qE,reduceCtorEq,if_pos,↓RS,RG,qA,qM,qL,zab,zaa,hzk]
   apply hK;clear hK K
   refine W.k fun K hK=>?_
   simp(disch:=omega)only[↓RU,RV,RH,↓reduceIte,qE,reduceCtorEq,if_pos,w64,w64,qN,↓RS,RG,qA,qM,qL,zaa,zaw,hul]
   refine zac.ev (zv4 (by rw [zzw,List.length_take]; omega) (z37 z)) ?_
   rintro _ _ ⟨rfl,vq2,t2,rfl⟩
   simp(disch:=omega)only[↓RU,RV,RH,↓reduceIte,qE,reduceCtorEq,if_pos,w64,w64,qN,↓RS,RG,qA,qM,qL,zaa,zaw,hul]
   apply hK;clear hK K
   refine XbN ?_
   refine xn ?_
   refine W.k fun K hK=>?_
   simp(disch:=omega)only[↓RU,RV,RH,↓reduceIte,qE,reduceCtorEq,if_pos,w64,↓RS,RG,qA,qM,qL,zaa]
   apply hK;clear hK K
   refine xn ?_
   refine ⟨nw - (k+1),by omega,_,k+1,vb,vq2,t2,rfl,by omega,?_,by rw [z5m hzk]; exact zan⟩
   simp [Env.put,Env.of]
  try simp only[RL]at h1
  obtain rfl:nw=k:=by omega
  refine W.exit ?_
  refine xe ?_
  refine xe ?_
  refine XBlock.hit ?_
  refine xn ?_
  refine W.k fun K hK=>?_
  have htk:row.take nw=row:=qT (by omega)
  rw [htk]
  have hne:=ycl (row:=row) (by omega)
  simp(disch:=omega)only[↓RU,RV,RH,↓reduceIte,qE,reduceCtorEq,if_pos,qN,↓RS,RG,qA,qM,qL,ty8,zae,hol,zbw,z5v]
  refine zac.ev (z0o hne) ?_
  rintro _ _ ⟨rfl,rfl⟩
  simp(disch:=omega)only[↓RU,RV,RH,↓reduceIte,qE,reduceCtorEq,if_pos,qN,↓RS,RG,qA,qM,qL,ty8,zae,hol,zbw,z5v]
  apply hK;clear hK K
  refine XbN ?_
  refine xn ?_
  refine W.k fun K hK=>?_
  simp(disch:=omega)only[↓RU,RV,RH,↓reduceIte,qE,reduceCtorEq,if_pos,w64,↓RS,RG,qA,qM,qL,zaa]
  apply hK;clear hK K
  refine xn ?_
  refine ⟨nh - (i+1),by omega,1,i+1,vo,t,o.set i (zpc row),rfl,by omega,by simp [hol],?_,?_,?_⟩
  ·intro j hj
   by_cases e:j=i
   ·subst e; rw [zlh hrow,List.getElem?_set,if_pos rfl,if_pos (by omega)]
   rw [List.getElem?_set,if_neg (Ne.symm e)]; exact hdone j (by omega)
  ·simp [Env.put,Env.of]
  simp [zde]
 try simp only[RL]at h
 obtain rfl:nh=i:=by omega
 refine W.exit ?_
 refine xe ?_
 refine xe ?_
 refine XBlock.hit ?_
 refine xn ?_
 refine W.r fun K hK=>?_
 simp(disch:=omega)only[↓RU,RV,RH,↓reduceIte,qE,reduceCtorEq,if_pos,↓RS,RG,qA,qM,qL]
 apply hK;clear hK K
 refine W.ret ?_
 refine Br rfl ?_
 have hdo:=z55 (by omega) (fun j hj=>hdone j (by omega))
 subst hdo
 obtain rfl:nh=(zfa g).length:=hol.symm
 exact zc6 (k:=9) rfl (by simp) (z1s _)
def mE (ks:List Int):List (PV × PV):=ks.zipIdx.map fun q=>(.int .i64 q.1,.int .i64 ((q.2:Nat):Int))
theorem zuc (ks:List Int):(mE ks).length=ks.length:=by simp [mE]
theorem z92 (ks:List Int) (z:Int):mE (ks++[z])=mE ks++[(.int .i64 z,.int .i64 ((ks.length:Nat):Int))]:=by simp [mE,List.zipIdx_append]
theorem zxf {q:IntKind} {a b:Int}:zga (.int q a) (.int q b)=some (decide (a=b)):=by
 simp only[zga]
 by_cases h:a=b <;> simp [h]
theorem zlq {z:Int}:∀ (ks:List Int) (i:Nat),findKey (.int .i64 z) ((ks.zipIdx i).map fun q=>(PV.int .i64 q.1,PV.int .i64 ((q.2:Nat):Int))) i=some (if ks.idxOf z=ks.length then none else some (i+ks.idxOf z,.int .i64 ((i+ks.idxOf z:Nat):Int)))
 | [],i=>by simp [findKey]
 | a::ks,i=>by
  simp only[List.zipIdx_cons,List.map_cons,findKey,zxf]
  by_cases h:z=a
  ·subst h
   simp [List.idxOf_cons]
  have h':(a == z)=false:=by simpa using Ne.symm h
  have:=zlq (z:=z) ks (i+1)
  simp only[h,decide_false]
  rw [this,List.idxOf_cons,h']
  simp only[cond_false,List.length_cons,Nat.add_right_cancel_iff]
  have e:i+1+ks.idxOf z=i+(ks.idxOf z+1):=by omega
  rw [e]
theorem zmq {ks:List Int} {z:Int} (h:ks.idxOf z=ks.length):findKey (.int .i64 z) (mE ks) 0=some none:=by
 rw [mE,zlq,if_pos h]
theorem zt0 {ks:List Int} {z:Int} (h:¬ ks.idxOf z=ks.length):findKey (.int .i64 z) (mE ks) 0=some (some (ks.idxOf z,.int .i64 ((ks.idxOf z:Nat):Int))):=by
 rw [mE,zlq,if_neg h]; simp
def Rect.Fit (b:Rect):Prop:=0≤b.row∧0≤b.col∧1≤b.high∧1≤b.wide∧b.row+b.high≤6∧b.col+b.wide≤6
theorem Rect.Fit.in_ {b:Rect} (h:b.Fit):b.In 1000:=by unfold Rect.Fit at h; unfold Rect.In; omega
theorem Rect.Fit.both {b o:Rect} (h:b.Fit) (k:o.Fit):(b.both o).Fit:=by
 unfold Rect.Fit at *
 simp only[Rect.both]
 omega
def zfw (r c:Nat):Rect:=⟨r,c,1,1⟩
theorem zeg {r c:Nat} (hr:r<6) (hc:c<6):(zfw r c).Fit:=by unfold Rect.Fit zfw; simp only; omega
theorem zcv {r c:Nat}:(zfw r c).cells=[.int .i64 r,.int .i64 c,.int .i64 1,.int .i64 1]:=rfl
def zg9 (ks:List Int) (z:Int):List Int:=if ks.idxOf z=ks.length then ks++[z] else ks
def zhy (ks:List Int) (rs:List Rect) (z:Int) (q:Rect):List Rect:=if ks.idxOf z=ks.length then rs++[q] else rs
def zns (ks:List Int) (rs:List Rect) (z:Int) (q:Rect):List Rect:=(zhy ks rs z q).set (ks.idxOf z) (((zhy ks rs z q).getD (ks.idxOf z) q).both q)
def zpv (ks:List Int) (rs:List Rect):Prop:=rs.length=ks.length∧∀ b∈rs,b.Fit
theorem zpv.nil:zpv [] []:=⟨rfl,by simp⟩
theorem zgp {ks:List Int} {z:Int}:ks.idxOf z≤ks.length:=List.idxOf_le_length
theorem zpv.in_ {ks:List Int} {rs:List Rect} (h:zpv ks rs) {z:Int} {q:Rect} (hq:q.Fit):(zhy ks rs z q).length=(zg9 ks z).length∧(∀ b∈zhy ks rs z q,b.Fit)∧∃ b,(zhy ks rs z q)[ks.idxOf z]?=some b∧b.Fit:=by
 have h1:=h.1
 have h2:=zgp (ks:=ks) (z:=z)
 have hf:∀ b∈zhy ks rs z q,b.Fit:=by
  unfold zhy
  split
  ·intro b hb
   rcases List.mem_append.1 hb with hb | hb
   ·exact h.2 b hb
   rw [List.mem_singleton]at hb; subst hb; exact hq
  exact h.2
 have hl:(zhy ks rs z q).length=(zg9 ks z).length:=by
  unfold zhy zg9; split <;> simp [h1]
 refine ⟨hl,hf,?_⟩
 obtain ⟨b,hb,hm⟩:=zai (show ks.idxOf z<(zhy ks rs z q).length by rw [hl]; unfold zg9; split <;> (try rw [List.length_append,List.length_singleton]) <;> omega)
 exact ⟨b,hb,hf b hm⟩
theorem zpv.step {ks:List Int} {rs:List Rect} (h:zpv ks rs) {z:Int} {q:Rect} (hq:q.Fit):zpv (zg9 ks z) (zns ks rs z q):=by
 obtain ⟨h1,h2,b,hb,hbf⟩:=h.in_ (z:=z) hq
 refine ⟨by rw [zns,List.length_set,h1],fun c hc=>?_⟩
 unfold zns at hc
 rcases List.mem_or_eq_of_mem_set hc with hc | rfl
 ·exact h2 c hc
 rw [List.getD_eq_getElem?_getD,hb]; exact hbf.both hq
theorem zxg {ks:List Int} {rs:List Rect} {z:Int} {q b:Rect} (hb:(zhy ks rs z q)[ks.idxOf z]?=some b):zns ks rs z q=(zhy ks rs z q).set (ks.idxOf z) (b.both q):=by
 rw [zns,List.getD_eq_getElem?_getD,hb]; rfl
theorem zi3 {rs:List Rect} {n:Nat} {r:Rect} (h:n<rs.length):(rcs rs).take (n*4)++r.cells++(rcs rs).drop (n*4+4)=rcs (rs.set n r):=ycb h
theorem zxc {S:Store} {k f:Nat} {sel:List Nat} (ks:List Int):((mE ks).mapM fun q=>(rn S k sel (f+1) q.1).bind fun a=>(rn S k sel (f+1) q.2).map fun b=>(a,b))=some (mE ks):=by
 have:∀ l:List (PV × PV),(∀ q∈l,∃ a b:Int,q=(.int .i64 a,.int .i64 b))→(l.mapM fun q=>(rn S k sel (f+1) q.1).bind fun a=>(rn S k sel (f+1) q.2).map fun b=>(a,b))=some l:=by
  intro l
  induction l with
  | nil=>intro _; rfl
  | cons q l ih =>
   intro h
   obtain ⟨a,b,rfl⟩:=h q (by simp)
   rw [qC,ih fun x hx=>h x (by simp [hx])]
   rfl
 refine this _ fun q hq=>?_
 obtain ⟨a,_,rfl⟩:=List.mem_map.1 hq
 exact ⟨_,_,rfl⟩
theorem zq7 {S:Store} {k f:Nat} {sel:List Nat} (rs:List Rect):(rcs rs).mapM (rn S k sel (f+1))=some (rcs rs):=zso (zzz rs)
theorem ze3 {T:Tab} {S:Store} {e:Env} {t:TypeId} {x:Operand}:zc3 T S e (.load t x)=zr8 (T t) S (e.ev x):=rfl
theorem zg6 {T:Tab} {S:Store} {e:Env} {x:Operand}:zc3 T S e (.nilCheck x)=zf5 S (e.ev x):=rfl
theorem zl3 {T:Tab} {S:Store} {e:Env} {t:TypeId} {x:Operand} {f:Nat}:zc3 T S e (.fieldAddr t x f)=zez T S t (e.ev x) f:=rfl
theorem zl4 {T:Tab} {S:Store} {e:Env} {t:TypeId} {x i:Operand}:zc3 T S e (.indexAddr t x i)=ze0 T S t (e.ev x) (e.ev i):=rfl
theorem z49 {r:Rect}:rcs [r]=r.cells:=by simp [rcs]
theorem z98 {rs:List Rect}:(rcs rs).take (rs.length*4)=rcs rs:=by rw [← zbt,List.take_length]
theorem zaz {r:Rect}:r.cells.length=4:=rfl
theorem za6 {r:Rect}:zbu r.cells=True:=eq_true (by intro p hp; simp [Rect.cells]at hp; rcases hp with rfl | rfl | rfl | rfl <;> rfl)
def gcs (d:List (List Int)) (cur:PV) (m:Nat):List PV:=d.map eInts++cur::List.replicate m .nils
theorem zvi {S:Store} {k f:Nat} {sel:List Nat} {d:List (List Int)} {cur cur2:PV} {m:Nat} (h:rn S k sel (f+1) cur=some cur2):(gcs d cur m).mapM (rn S k sel (f+1))=some (gcs d cur2 m):=by
 unfold gcs
 rw [qP,zbk (l:=d.map eInts) (fun x hx=>by obtain ⟨a,_,rfl⟩:=List.mem_map.1 hx; rfl),qC,h,zbk (l:=List.replicate m PV.nils) (fun x hx=>by obtain rfl:=List.eq_of_mem_replicate hx; rfl)]
 rfl
theorem zt8 {z:Int}:TK.keyed tab 3 (.int .i64 z)=true:=by simp only[TK.keyed,zaa]; rfl
theorem zph {g d:List (List Int)} {y:List Int} {row ks:List Int} {rs:List Rect} {z:Int} {r c w m xv yv vq t:Nat} (hr:r<6) (hc:c<6) (hrow:g[r]?=some row) (hz:row[c]?=some z) (hs:zpv ks rs) (hk:ks.length≤64) (hin:¬ ks.idxOf z=ks.length):Ev Tryz.prog 107 [.int .i64 (r:Nat),.int .i64 (c:Nat),.ref 5 5 0,.ref 0 0 0,.ref 3 3 0] ⟨[.arr 0 72 1 [zdl g],.arr 1 3 1 [.int .i64 w],.arr 2 75 2 [.nils,.loc 8 vq 0 (rs).length],.arr 3 43 1 [.ref 2 2 0],.map 4 (mE ks),.arr 5 143 1 [.mp 4 4],.arr xv 31 1 (gcs d (.loc 7 yv 0 w) m),.arr yv 3 1 (y.map (.int .i64)),.arr vq 79 4 (rcs rs)],t⟩ fun v S=>v = .int .i64 ((ks.idxOf z:Nat):Int)∧∃ vq t:Nat,S=⟨[.arr 0 72 1 [zdl g],.arr 1 3 1 [.int .i64 w],.arr 2 75 2 [.nils,.loc 8 vq 0 ((zns ks rs z (zfw r c))).length],.arr 3 43 1 [.ref 2 2 0],.map 4 (mE (zg9 ks z)),.arr 5 143 1 [.mp 4 4],.arr xv 31 1 (gcs d (.loc 7 yv 0 w) m),.arr yv 3 1 (y.map (.int .i64)),.arr vq 79 4 (rcs (zns ks rs z (zfw r c)))],t⟩:=by
 have hrl:=zbd hrow
 have hcl:=zbd hz
 have hgl:g.length=g.length:=rfl
 obtain ⟨hi1,hi2,b,hb,hbf⟩:=hs.in_ (z:=z) (zeg hr hc)
 have hil:=zgp (ks:=ks) (z:=z)
 have hsl:=hs.1
 have hst:=hs.step (z:=z) (zeg hr hc)
 have hfs:=zt0 hin
 have hki:zg9 ks z=ks:=by simp [zg9,hin]
 have hri:zhy ks rs z (zfw r c)=rs:=by simp [zhy,hin]
 refine Ev.of ⟨Tryz.func107,by kernel_rfl,rfl,by kernel_rfl⟩ zao mixed (by show 5≤Tryz.f107.ntmps; decide) ?_
 refine W.r fun K hK=>?_
 simp(disch:=omega)only[↓RU,RV,RH,↓reduceIte,qE,reduceCtorEq,if_pos,↓RS,RG,qA,qM,qL]
 apply hK;clear hK K
 refine W.seq_draw (by kernel_rfl) fun K hK=>?_
 simp(disch:=omega)only[↓RU,RV,RH,↓reduceIte,qE,reduceCtorEq,if_pos,↓RS,RG,qA,qM,qL,ty1,zab,zb0,zaa,yaj,hrow,hz,zuc,hfs]
 apply hK;clear hK K
 refine W.joinS [0,1,2,3,4,8] (fun vs S=>∃ vq t:Nat,vs=[.int .i64 (r:Nat),.int .i64 (c:Nat),.ref 5 5 0,.ref 0 0 0,.ref 3 3 0,.int .i64 ((ks.idxOf z:Nat):Int)]∧S=⟨[.arr 0 72 1 [zdl g],.arr 1 3 1 [.int .i64 w],.arr 2 75 2 [.nils,.loc 8 vq 0 ((zhy ks rs z (zfw r c))).length],.arr 3 43 1 [.ref 2 2 0],.map 4 (mE (zg9 ks z)),.arr 5 143 1 [.mp 4 4],.arr xv 31 1 (gcs d (.loc 7 yv 0 w) m),.arr yv 3 1 (y.map (.int .i64)),.arr vq 79 4 (rcs (zhy ks rs z (zfw r c)))],t⟩) ?_ ?_
 ·
  refine W.r fun K hK=>?_
  simp(disch:=omega)only[↓RU,RV,RH,↓reduceIte,qE,reduceCtorEq,if_pos,↓RS,RG,qA,qM,qL]
  apply hK;clear hK K
  refine W.cond rfl (fun h=>?_) (fun h=>?_)
  ·try simp only[RL]at h
   exact absurd h (by simp)
  try simp only[RL]at h
  refine W.skip ?_
  refine xn ?_
  refine ⟨9,[],[.int .i64 (r:Nat),.int .i64 (c:Nat),.ref 5 5 0,.ref 0 0 0,.ref 3 3 0,.int .i64 ((ks.idxOf z:Nat):Int)],⟨[.arr 0 72 1 [zdl g],.arr 1 3 1 [.int .i64 w],.arr 2 75 2 [.nils,.loc 8 vq 0 ((zhy ks rs z (zfw r c))).length],.arr 3 43 1 [.ref 2 2 0],.map 4 (mE (zg9 ks z)),.arr 5 143 1 [.mp 4 4],.arr xv 31 1 (gcs d (.loc 7 yv 0 w) m),.arr yv 3 1 (y.map (.int .i64)),.arr vq 79 4 (rcs (zhy ks rs z (zfw r c)))],(t+1)⟩,?_,?_,vq,t+1,rfl,rfl⟩
  ·simp [-qU,Env.put,Env.of,zaf,zbi,zah,zak,zap,zar,zbo,zbp,zcm,zbn,za3,zbq,zcl,zcn,za5,za4,zas,zbm,zbr,zck,za1,za0,zaq,za2,zbl,zeq,qS,qP,qC]
  rw [hki,hri]; simp [-qU,Env.put,Env.of,zaf,zbi,zah,zak,zap,zar,zbo,zbp,zcm,zbn,za3,zbq,zcl,zcn,za5,za4,zas,zbm,zbr,zck,za1,za0,zaq,za2,zbl,zeq,qS,qP,qC,zxc,zq7,zii,zvi]
 rintro vs S - ⟨vq,t,rfl,rfl⟩
 have hrs2:=zxg hb
 generalize hks1:zg9 ks z=ks1 at hi1 hst
 generalize hrs1:zhy ks rs z (zfw r c)=rs1 at hb hi1 hi2 hrs2
 have hbl:=zbd hb
 refine W.seq_draw (by kernel_rfl) fun K hK=>?_
 have hcell:=(zcv (r:=r) (c:=c)).symm
 have hba:PV.agg b.cells=zrr b:=rfl
 simp(disch:=omega)only[↓RU,RV,RH,↓reduceIte,qE,reduceCtorEq,if_pos,qN,↓RS,RG,qA,qM,qL,ty1,ty5,zab,zce,zc9,zb0,zct,zaa,zda,zcu,zk5 hb,zbt,← zcv,hcell,zaz,za6,zi3]
 refine zac.pc (zwc (b:=b) (o:=zfw r c) hbf.in_ (zeg hr hc).in_) rfl (.inl rfl) ?_
 simp(disch:=omega)only[↓RU,RV,RH,↓reduceIte,qE,reduceCtorEq,if_pos,qN,↓RS,RG,qA,qM,qL,ty1,ty5,zab,zce,zc9,zb0,zct,zaa,zda,zcu,zk5 hb,zbt,← zcv,hcell,zaz,za6,zi3]
 apply hK;clear hK K
 refine W.r fun K hK=>?_
 simp(disch:=omega)only[↓RU,RV,RH,↓reduceIte,qE,reduceCtorEq,if_pos,↓RS,RG,qA,qM,qL]
 apply hK;clear hK K
 refine W.ret ?_
 refine Br rfl ?_
 refine ⟨9,rfl,vq,t,?_⟩
 rw [hrs2]
 simp [zde]
theorem zma {g d:List (List Int)} {y:List Int} {row ks:List Int} {rs:List Rect} {z:Int} {r c w m xv yv vq t:Nat} (hr:r<6) (hc:c<6) (hrow:g[r]?=some row) (hz:row[c]?=some z) (hs:zpv ks rs) (hk:ks.length≤64) (hn:rs=[]) (hn2:ks=[]):Ev Tryz.prog 107 [.int .i64 (r:Nat),.int .i64 (c:Nat),.ref 5 5 0,.ref 0 0 0,.ref 3 3 0] ⟨[.arr 0 72 1 [zdl g],.arr 1 3 1 [.int .i64 w],.arr 2 75 2 [.nils,.nils],.arr 3 43 1 [.ref 2 2 0],.map 4 (mE ks),.arr 5 143 1 [.mp 4 4],.arr xv 31 1 (gcs d (.loc 7 yv 0 w) m),.arr yv 3 1 (y.map (.int .i64))],t⟩ fun v S=>v = .int .i64 ((ks.idxOf z:Nat):Int)∧∃ vq t:Nat,S=⟨[.arr 0 72 1 [zdl g],.arr 1 3 1 [.int .i64 w],.arr 2 75 2 [.nils,.loc 8 vq 0 ((zns ks rs z (zfw r c))).length],.arr 3 43 1 [.ref 2 2 0],.map 4 (mE (zg9 ks z)),.arr 5 143 1 [.mp 4 4],.arr xv 31 1 (gcs d (.loc 7 yv 0 w) m),.arr yv 3 1 (y.map (.int .i64)),.arr vq 79 4 (rcs (zns ks rs z (zfw r c)))],t⟩:=by
 have hin:ks.idxOf z=ks.length:=by rw [hn2]; rfl
 have hrl:=zbd hrow
 have hcl:=zbd hz
 have hgl:g.length=g.length:=rfl
 obtain ⟨hi1,hi2,b,hb,hbf⟩:=hs.in_ (z:=z) (zeg hr hc)
 have hil:=zgp (ks:=ks) (z:=z)
 have hsl:=hs.1
 have hst:=hs.step (z:=z) (zeg hr hc)
 have hfn:=zmq hin
 have hki:zg9 ks z=ks++[z]:=by simp [zg9,hin]
 have hri:zhy ks rs z (zfw r c)=rs++[zfw r c]:=by simp [zhy,hin]
 refine Ev.of ⟨Tryz.func107,by kernel_rfl,rfl,by kernel_rfl⟩ zao mixed (by show 5≤Tryz.f107.ntmps; decide) ?_
 refine W.r fun K hK=>?_
 simp(disch:=omega)only[↓RU,RV,RH,↓reduceIte,qE,reduceCtorEq,if_pos,↓RS,RG,qA,qM,qL]
 apply hK;clear hK K
 refine W.seq_draw (by kernel_rfl) fun K hK=>?_
 simp(disch:=omega)only[↓RU,RV,RH,↓reduceIte,qE,reduceCtorEq,if_pos,↓RS,RG,qA,qM,qL,ty1,zab,zb0,zaa,yaj,hrow,hz,zuc,hfn]
 apply hK;clear hK K
 refine W.joinS [0,1,2,3,4,8] (fun vs S=>∃ vq t:Nat,vs=[.int .i64 (r:Nat),.int .i64 (c:Nat),.ref 5 5 0,.ref 0 0 0,.ref 3 3 0,.int .i64 ((ks.idxOf z:Nat):Int)]∧S=⟨[.arr 0 72 1 [zdl g],.arr 1 3 1 [.int .i64 w],.arr 2 75 2 [.nils,.loc 8 vq 0 ((zhy ks rs z (zfw r c))).length],.arr 3 43 1 [.ref 2 2 0],.map 4 (mE (zg9 ks z)),.arr 5 143 1 [.mp 4 4],.arr xv 31 1 (gcs d (.loc 7 yv 0 w) m),.arr yv 3 1 (y.map (.int .i64)),.arr vq 79 4 (rcs (zhy ks rs z (zfw r c)))],t⟩) ?_ ?_
 ·
  refine W.r fun K hK=>?_
  simp(disch:=omega)only[↓RU,RV,RH,↓reduceIte,qE,reduceCtorEq,if_pos,↓RS,RG,qA,qM,qL]
  apply hK;clear hK K
  refine W.cond rfl (fun h=>?_) (fun h=>?_)
  ·try simp only[RL]at h
   refine W.r fun K hK=>?_
   simp(disch:=omega)only[↓RU,RV,RH,↓reduceIte,qE,reduceCtorEq,if_pos,↓RS,RG,qA,qM,qL,zaa,yaj,zuc]
   apply hK;clear hK K
   refine W.seq_draw (by kernel_rfl) fun K hK=>?_
   simp(disch:=omega)only[↓RU,RV,RH,↓reduceIte,qE,reduceCtorEq,if_pos,↓RS,RG,qA,qM,qL,ty1,zab,zb0,zaa,yaj,hrow,hz,hfn,zt8]
   apply hK;clear hK K
   refine W.region_pk 10 [some 35,some 36,some 37,some 38,some 39] [2,3] (by decide) (by kernel_rfl) fun K hK=>?_
   simp only[List.take_succ_cons,List.take_zero,List.drop_succ_cons,List.drop_zero]
   refine zch (.ref 2 2 0) rfl rfl rfl (fun S' hS=>?_) ?_
   ·skip
    have k2:=(hS 2 (by decide)).trans (show _=some _ from rfl)
    have k3:=(hS 3 (by decide)).trans (show _=some _ from rfl)
    simp(disch:=omega)only[↓RU,RV,RH,↓reduceIte,qE,reduceCtorEq,if_pos,↓RS,RG,qA,qM,qL,ty1,ty5,zab,zce,zc9,zb0,zct,zaa,zda,zcu,zbt,zaz,za6,ze3,zg6,zl3,zl4,k2,k3]
   refine zch (.ref 2 2 0) rfl rfl rfl (fun S' hS=>?_) ?_
   ·skip
    have k2:=(hS 2 (by decide)).trans (show _=some _ from rfl)
    have k3:=(hS 3 (by decide)).trans (show _=some _ from rfl)
    simp(disch:=omega)only[↓RU,RV,RH,↓reduceIte,qE,reduceCtorEq,if_pos,↓RS,RG,qA,qM,qL,ty1,ty5,zab,zce,zc9,zb0,zct,zaa,zda,zcu,zbt,zaz,za6,ze3,zg6,zl3,zl4,k2,k3]
   refine zch (.ref 2 2 0) rfl rfl rfl (fun S' hS=>?_) ?_
   ·skip
    have k2:=(hS 2 (by decide)).trans (show _=some _ from rfl)
    have k3:=(hS 3 (by decide)).trans (show _=some _ from rfl)
    simp(disch:=omega)only[↓RU,RV,RH,↓reduceIte,qE,reduceCtorEq,if_pos,↓RS,RG,qA,qM,qL,ty1,ty5,zab,zce,zc9,zb0,zct,zaa,zda,zcu,zbt,zaz,za6,ze3,zg6,zl3,zl4,k2,k3]
   refine zch (.ref 2 2 1) rfl rfl rfl (fun S' hS=>?_) ?_
   ·skip
    have k2:=(hS 2 (by decide)).trans (show _=some _ from rfl)
    have k3:=(hS 3 (by decide)).trans (show _=some _ from rfl)
    simp(disch:=omega)only[↓RU,RV,RH,↓reduceIte,qE,reduceCtorEq,if_pos,↓RS,RG,qA,qM,qL,ty1,ty5,zab,zce,zc9,zb0,zct,zaa,zda,zcu,zbt,zaz,za6,ze3,zg6,zl3,zl4,k2,k3]
   refine zch (.nils) rfl rfl rfl (fun S' hS=>?_) ?_
   ·skip
    have k2:=(hS 2 (by decide)).trans (show _=some _ from rfl)
    have k3:=(hS 3 (by decide)).trans (show _=some _ from rfl)
    simp(disch:=omega)only[↓RU,RV,RH,↓reduceIte,qE,reduceCtorEq,if_pos,↓RS,RG,qA,qM,qL,ty1,ty5,zab,zce,zc9,zb0,zct,zaa,zda,zcu,zbt,zaz,za6,ze3,zg6,zl3,zl4,k2,k3]
   refine zb5 rfl ?_
   simp(disch:=omega)only[↓RU,RV,RH,↓reduceIte,qE,reduceCtorEq,if_pos,↓RS,RG,qA,qM,qL,ty1,ty5,zab,zce,zc9,zb0,zct,zaa,zda,zcu,zbt,zaz,za6,za7,zbf]
   refine zb5 rfl ?_
   simp(disch:=omega)only[↓RU,RV,RH,↓reduceIte,qE,reduceCtorEq,if_pos,↓RS,RG,qA,qM,qL,ty1,ty5,zab,zce,zc9,zb0,zct,zaa,zda,zcu,zbt,zaz,za6,za7,zbf]
   refine zb5 rfl ?_
   simp(disch:=omega)only[↓RU,RV,RH,↓reduceIte,qE,reduceCtorEq,if_pos,↓RS,RG,qA,qM,qL,ty1,ty5,zab,zce,zc9,zb0,zct,zaa,zda,zcu,zbt,zaz,za6,za7,zbf]
   refine zb5 rfl ?_
   simp(disch:=omega)only[↓RU,RV,RH,↓reduceIte,qE,reduceCtorEq,if_pos,↓RS,RG,qA,qM,qL,ty1,ty5,zab,zce,zc9,zb0,zct,zaa,zda,zcu,zbt,zaz,za6,za7,zbf]
   refine zb5 rfl ?_
   simp(disch:=omega)only[↓RU,RV,RH,↓reduceIte,qE,reduceCtorEq,if_pos,↓RS,RG,qA,qM,qL,ty1,ty5,zab,zce,zc9,zb0,zct,zaa,zda,zcu,zbt,zaz,za6,za7,zbf]
   refine zke ?_
   simp(disch:=omega)only[↓RU,RV,RH,↓reduceIte,qE,reduceCtorEq,if_pos,↓RS,RG,qA,qM,qL,ty1,ty5,zab,zce,zc9,zb0,zct,zaa,zda,zcu,zbt,zaz,za6]
   apply hK;clear hK K
   refine xn ?_
   refine ⟨8,[9],[.int .i64 (r:Nat),.int .i64 (c:Nat),.ref 5 5 0,.ref 0 0 0,.ref 3 3 0,.int .i64 ((ks.idxOf z:Nat):Int)],⟨[.arr 0 72 1 [zdl g],.arr 1 3 1 [.int .i64 w],.arr 2 75 2 [.nils,.loc 8 (t+2) 0 ((zhy ks rs z (zfw r c))).length],.arr 3 43 1 [.ref 2 2 0],.map 4 (mE (zg9 ks z)),.arr 5 143 1 [.mp 4 4],.arr xv 31 1 (gcs d (.loc 7 yv 0 w) m),.arr yv 3 1 (y.map (.int .i64)),.arr (t+2) 79 4 (rcs (zhy ks rs z (zfw r c)))],(t+3)⟩,?_,?_,(t+2),(t+3),rfl,rfl⟩
   ·rw [hin]; simp [-qU,Env.put,Env.of,zaf,zbi,zah,zak,zap,zar,zbo,zbp,zcm,zbn,za3,zbq,zcl,zcn,za5,za4,zas,zbm,zbr,zck,za1,za0,zaq,za2,zbl,zeq,qS,qP,qC]
   rw [hki,hri,hn]; simp [-qU,Env.put,Env.of,zaf,zbi,zah,zak,zap,zar,zbo,zbp,zcm,zbn,za3,zbq,zcl,zcn,za5,za4,zas,zbm,zbr,zck,za1,za0,zaq,za2,zbl,zeq,qS,qP,qC,zxc,zq7,zii,zvi,z92,zsi,z49,zcv,z98]
  try simp only[RL]at h
  exact absurd h (by simp)
 rintro vs S - ⟨vq,t,rfl,rfl⟩
 have hrs2:=zxg hb
 generalize hks1:zg9 ks z=ks1 at hi1 hst
 generalize hrs1:zhy ks rs z (zfw r c)=rs1 at hb hi1 hi2 hrs2
 have hbl:=zbd hb
 refine W.seq_draw (by kernel_rfl) fun K hK=>?_
 have hcell:=(zcv (r:=r) (c:=c)).symm
 have hba:PV.agg b.cells=zrr b:=rfl
 simp(disch:=omega)only[↓RU,RV,RH,↓reduceIte,qE,reduceCtorEq,if_pos,qN,↓RS,RG,qA,qM,qL,ty1,ty5,zab,zce,zc9,zb0,zct,zaa,zda,zcu,zk5 hb,zbt,← zcv,hcell,zaz,za6,zi3]
 refine zac.pc (zwc (b:=b) (o:=zfw r c) hbf.in_ (zeg hr hc).in_) rfl (.inl rfl) ?_
 simp(disch:=omega)only[↓RU,RV,RH,↓reduceIte,qE,reduceCtorEq,if_pos,qN,↓RS,RG,qA,qM,qL,ty1,ty5,zab,zce,zc9,zb0,zct,zaa,zda,zcu,zk5 hb,zbt,← zcv,hcell,zaz,za6,zi3]
 apply hK;clear hK K
 refine W.r fun K hK=>?_
 simp(disch:=omega)only[↓RU,RV,RH,↓reduceIte,qE,reduceCtorEq,if_pos,↓RS,RG,qA,qM,qL]
 apply hK;clear hK K
 refine W.ret ?_
 refine Br rfl ?_
 refine ⟨9,rfl,vq,t,?_⟩
 rw [hrs2]
 simp [zde]
theorem zpg {g d:List (List Int)} {y:List Int} {row ks:List Int} {rs:List Rect} {z:Int} {r c w m xv yv vq t:Nat} (hr:r<6) (hc:c<6) (hrow:g[r]?=some row) (hz:row[c]?=some z) (hs:zpv ks rs) (hk:ks.length≤64) (hin:ks.idxOf z=ks.length):Ev Tryz.prog 107 [.int .i64 (r:Nat),.int .i64 (c:Nat),.ref 5 5 0,.ref 0 0 0,.ref 3 3 0] ⟨[.arr 0 72 1 [zdl g],.arr 1 3 1 [.int .i64 w],.arr 2 75 2 [.nils,.loc 8 vq 0 (rs).length],.arr 3 43 1 [.ref 2 2 0],.map 4 (mE ks),.arr 5 143 1 [.mp 4 4],.arr xv 31 1 (gcs d (.loc 7 yv 0 w) m),.arr yv 3 1 (y.map (.int .i64)),.arr vq 79 4 (rcs rs)],t⟩ fun v S=>v = .int .i64 ((ks.idxOf z:Nat):Int)∧∃ vq t:Nat,S=⟨[.arr 0 72 1 [zdl g],.arr 1 3 1 [.int .i64 w],.arr 2 75 2 [.nils,.loc 8 vq 0 ((zns ks rs z (zfw r c))).length],.arr 3 43 1 [.ref 2 2 0],.map 4 (mE (zg9 ks z)),.arr 5 143 1 [.mp 4 4],.arr xv 31 1 (gcs d (.loc 7 yv 0 w) m),.arr yv 3 1 (y.map (.int .i64)),.arr vq 79 4 (rcs (zns ks rs z (zfw r c)))],t⟩:=by
 have hrl:=zbd hrow
 have hcl:=zbd hz
 have hgl:g.length=g.length:=rfl
 obtain ⟨hi1,hi2,b,hb,hbf⟩:=hs.in_ (z:=z) (zeg hr hc)
 have hil:=zgp (ks:=ks) (z:=z)
 have hsl:=hs.1
 have hst:=hs.step (z:=z) (zeg hr hc)
 have hfn:=zmq hin
 have hki:zg9 ks z=ks++[z]:=by simp [zg9,hin]
 have hri:zhy ks rs z (zfw r c)=rs++[zfw r c]:=by simp [zhy,hin]
 refine Ev.of ⟨Tryz.func107,by kernel_rfl,rfl,by kernel_rfl⟩ zao mixed (by show 5≤Tryz.f107.ntmps; decide) ?_
 refine W.r fun K hK=>?_
 simp(disch:=omega)only[↓RU,RV,RH,↓reduceIte,qE,reduceCtorEq,if_pos,↓RS,RG,qA,qM,qL]
 apply hK;clear hK K
 refine W.seq_draw (by kernel_rfl) fun K hK=>?_
 simp(disch:=omega)only[↓RU,RV,RH,↓reduceIte,qE,reduceCtorEq,if_pos,↓RS,RG,qA,qM,qL,ty1,zab,zb0,zaa,yaj,hrow,hz,zuc,hfn]
 apply hK;clear hK K
 refine W.joinS [0,1,2,3,4,8] (fun vs S=>∃ vq t:Nat,vs=[.int .i64 (r:Nat),.int .i64 (c:Nat),.ref 5 5 0,.ref 0 0 0,.ref 3 3 0,.int .i64 ((ks.idxOf z:Nat):Int)]∧S=⟨[.arr 0 72 1 [zdl g],.arr 1 3 1 [.int .i64 w],.arr 2 75 2 [.nils,.loc 8 vq 0 ((zhy ks rs z (zfw r c))).length],.arr 3 43 1 [.ref 2 2 0],.map 4 (mE (zg9 ks z)),.arr 5 143 1 [.mp 4 4],.arr xv 31 1 (gcs d (.loc 7 yv 0 w) m),.arr yv 3 1 (y.map (.int .i64)),.arr vq 79 4 (rcs (zhy ks rs z (zfw r c)))],t⟩) ?_ ?_
 ·
  refine W.r fun K hK=>?_
  simp(disch:=omega)only[↓RU,RV,RH,↓reduceIte,qE,reduceCtorEq,if_pos,↓RS,RG,qA,qM,qL]
  apply hK;clear hK K
  refine W.cond rfl (fun h=>?_) (fun h=>?_)
  ·try simp only[RL]at h
   refine W.r fun K hK=>?_
   simp(disch:=omega)only[↓RU,RV,RH,↓reduceIte,qE,reduceCtorEq,if_pos,↓RS,RG,qA,qM,qL,zaa,yaj,zuc]
   apply hK;clear hK K
   refine W.seq_draw (by kernel_rfl) fun K hK=>?_
   simp(disch:=omega)only[↓RU,RV,RH,↓reduceIte,qE,reduceCtorEq,if_pos,↓RS,RG,qA,qM,qL,ty1,zab,zb0,zaa,yaj,hrow,hz,hfn,zt8]
   apply hK;clear hK K
   refine W.region_pk 10 [some 35,some 36,some 37,some 38,some 39] [2,3] (by decide) (by kernel_rfl) fun K hK=>?_
   simp only[List.take_succ_cons,List.take_zero,List.drop_succ_cons,List.drop_zero]
   refine zch (.ref 2 2 0) rfl rfl rfl (fun S' hS=>?_) ?_
   ·skip
    have k2:=(hS 2 (by decide)).trans (show _=some _ from rfl)
    have k3:=(hS 3 (by decide)).trans (show _=some _ from rfl)
    simp(disch:=omega)only[↓RU,RV,RH,↓reduceIte,qE,reduceCtorEq,if_pos,↓RS,RG,qA,qM,qL,ty1,ty5,zab,zce,zc9,zb0,zct,zaa,zda,zcu,zbt,zaz,za6,ze3,zg6,zl3,zl4,k2,k3]
   refine zch (.ref 2 2 0) rfl rfl rfl (fun S' hS=>?_) ?_
   ·skip
    have k2:=(hS 2 (by decide)).trans (show _=some _ from rfl)
    have k3:=(hS 3 (by decide)).trans (show _=some _ from rfl)
    simp(disch:=omega)only[↓RU,RV,RH,↓reduceIte,qE,reduceCtorEq,if_pos,↓RS,RG,qA,qM,qL,ty1,ty5,zab,zce,zc9,zb0,zct,zaa,zda,zcu,zbt,zaz,za6,ze3,zg6,zl3,zl4,k2,k3]
   refine zch (.ref 2 2 0) rfl rfl rfl (fun S' hS=>?_) ?_
   ·skip
    have k2:=(hS 2 (by decide)).trans (show _=some _ from rfl)
    have k3:=(hS 3 (by decide)).trans (show _=some _ from rfl)
    simp(disch:=omega)only[↓RU,RV,RH,↓reduceIte,qE,reduceCtorEq,if_pos,↓RS,RG,qA,qM,qL,ty1,ty5,zab,zce,zc9,zb0,zct,zaa,zda,zcu,zbt,zaz,za6,ze3,zg6,zl3,zl4,k2,k3]
   refine zch (.ref 2 2 1) rfl rfl rfl (fun S' hS=>?_) ?_
   ·skip
    have k2:=(hS 2 (by decide)).trans (show _=some _ from rfl)
    have k3:=(hS 3 (by decide)).trans (show _=some _ from rfl)
    simp(disch:=omega)only[↓RU,RV,RH,↓reduceIte,qE,reduceCtorEq,if_pos,↓RS,RG,qA,qM,qL,ty1,ty5,zab,zce,zc9,zb0,zct,zaa,zda,zcu,zbt,zaz,za6,ze3,zg6,zl3,zl4,k2,k3]
   refine zch (.loc 8 vq 0 rs.length) rfl rfl rfl (fun S' hS=>?_) ?_
   ·skip
    have k2:=(hS 2 (by decide)).trans (show _=some _ from rfl)
    have k3:=(hS 3 (by decide)).trans (show _=some _ from rfl)
    simp(disch:=omega)only[↓RU,RV,RH,↓reduceIte,qE,reduceCtorEq,if_pos,↓RS,RG,qA,qM,qL,ty1,ty5,zab,zce,zc9,zb0,zct,zaa,zda,zcu,zbt,zaz,za6,ze3,zg6,zl3,zl4,k2,k3]
   refine zb5 rfl ?_
   simp(disch:=omega)only[↓RU,RV,RH,↓reduceIte,qE,reduceCtorEq,if_pos,↓RS,RG,qA,qM,qL,ty1,ty5,zab,zce,zc9,zb0,zct,zaa,zda,zcu,zbt,zaz,za6,za7,zbf]
   refine zb5 rfl ?_
   simp(disch:=omega)only[↓RU,RV,RH,↓reduceIte,qE,reduceCtorEq,if_pos,↓RS,RG,qA,qM,qL,ty1,ty5,zab,zce,zc9,zb0,zct,zaa,zda,zcu,zbt,zaz,za6,za7,zbf]
   refine zb5 rfl ?_
   simp(disch:=omega)only[↓RU,RV,RH,↓reduceIte,qE,reduceCtorEq,if_pos,↓RS,RG,qA,qM,qL,ty1,ty5,zab,zce,zc9,zb0,zct,zaa,zda,zcu,zbt,zaz,za6,za7,zbf]
   refine zb5 rfl ?_
   simp(disch:=omega)only[↓RU,RV,RH,↓reduceIte,qE,reduceCtorEq,if_pos,↓RS,RG,qA,qM,qL,ty1,ty5,zab,zce,zc9,zb0,zct,zaa,zda,zcu,zbt,zaz,za6,za7,zbf]
   refine zb5 rfl ?_
   simp(disch:=omega)only[↓RU,RV,RH,↓reduceIte,qE,reduceCtorEq,if_pos,↓RS,RG,qA,qM,qL,ty1,ty5,zab,zce,zc9,zb0,zct,zaa,zda,zcu,zbt,zaz,za6,za7,zbf]
   refine zke ?_
   simp(disch:=omega)only[↓RU,RV,RH,↓reduceIte,qE,reduceCtorEq,if_pos,↓RS,RG,qA,qM,qL,ty1,ty5,zab,zce,zc9,zb0,zct,zaa,zda,zcu,zbt,zaz,za6]
   apply hK;clear hK K
   refine xn ?_
   refine ⟨9,[],[.int .i64 (r:Nat),.int .i64 (c:Nat),.ref 5 5 0,.ref 0 0 0,.ref 3 3 0,.int .i64 ((ks.idxOf z:Nat):Int)],⟨[.arr 0 72 1 [zdl g],.arr 1 3 1 [.int .i64 w],.arr 2 75 2 [.nils,.loc 8 (t+1) 0 ((zhy ks rs z (zfw r c))).length],.arr 3 43 1 [.ref 2 2 0],.map 4 (mE (zg9 ks z)),.arr 5 143 1 [.mp 4 4],.arr xv 31 1 (gcs d (.loc 7 yv 0 w) m),.arr yv 3 1 (y.map (.int .i64)),.arr (t+1) 79 4 (rcs (zhy ks rs z (zfw r c)))],(t+3)⟩,?_,?_,(t+1),(t+3),rfl,rfl⟩
   ·rw [hin]; simp [-qU,Env.put,Env.of,zaf,zbi,zah,zak,zap,zar,zbo,zbp,zcm,zbn,za3,zbq,zcl,zcn,za5,za4,zas,zbm,zbr,zck,za1,za0,zaq,za2,zbl,zeq,qS,qP,qC]
   rw [hki,hri]; simp [-qU,Env.put,Env.of,zaf,zbi,zah,zak,zap,zar,zbo,zbp,zcm,zbn,za3,zbq,zcl,zcn,za5,za4,zas,zbm,zbr,zck,za1,za0,zaq,za2,zbl,zeq,qS,qP,qC,zxc,zq7,zii,zvi,z92,zsi,z49,zcv,z98]
  try simp only[RL]at h
  exact absurd h (by simp)
 rintro vs S - ⟨vq,t,rfl,rfl⟩
 have hrs2:=zxg hb
 generalize hks1:zg9 ks z=ks1 at hi1 hst
 generalize hrs1:zhy ks rs z (zfw r c)=rs1 at hb hi1 hi2 hrs2
 have hbl:=zbd hb
 refine W.seq_draw (by kernel_rfl) fun K hK=>?_
 have hcell:=(zcv (r:=r) (c:=c)).symm
 have hba:PV.agg b.cells=zrr b:=rfl
 simp(disch:=omega)only[↓RU,RV,RH,↓reduceIte,qE,reduceCtorEq,if_pos,qN,↓RS,RG,qA,qM,qL,ty1,ty5,zab,zce,zc9,zb0,zct,zaa,zda,zcu,zk5 hb,zbt,← zcv,hcell,zaz,za6,zi3]
 refine zac.pc (zwc (b:=b) (o:=zfw r c) hbf.in_ (zeg hr hc).in_) rfl (.inl rfl) ?_
 simp(disch:=omega)only[↓RU,RV,RH,↓reduceIte,qE,reduceCtorEq,if_pos,qN,↓RS,RG,qA,qM,qL,ty1,ty5,zab,zce,zc9,zb0,zct,zaa,zda,zcu,zk5 hb,zbt,← zcv,hcell,zaz,za6,zi3]
 apply hK;clear hK K
 refine W.r fun K hK=>?_
 simp(disch:=omega)only[↓RU,RV,RH,↓reduceIte,qE,reduceCtorEq,if_pos,↓RS,RG,qA,qM,qL]
 apply hK;clear hK K
 refine W.ret ?_
 refine Br rfl ?_
 refine ⟨9,rfl,vq,t,?_⟩
 rw [hrs2]
 simp [zde]
section
def prS (g:List (List Int)) (w:Nat) (rv:PV) (ks:List Int):List Ob:=[.arr 0 72 1 [zdl g],.arr 1 3 1 [.int .i64 w],.arr 2 75 2 [.nils,rv],.arr 3 43 1 [.ref 2 2 0],.map 4 (mE ks),.arr 5 143 1 [.mp 4 4]]
def seS (g:List (List Int)) (w:Nat) (xv yv:Nat) (x y:List PV) (ks:List Int) (rs:List Rect) (vq t:Nat):Store :=
 match rs with
 | []=>⟨prS g w .nils ks++[.arr xv 31 1 x,.arr yv 3 1 y],t⟩
 | rs=>⟨prS g w (.loc 8 vq 0 rs.length) ks++[.arr xv 31 1 x,.arr yv 3 1 y,.arr vq 79 4 (rcs rs)],t⟩
theorem z5t {g:List (List Int)} {w xv yv:Nat} {x y:List PV} {ks:List Int} {vq t:Nat}:seS g w xv yv x y ks [] vq t=⟨prS g w .nils ks++[.arr xv 31 1 x,.arr yv 3 1 y],t⟩:=rfl
theorem zz2 {g:List (List Int)} {w xv yv:Nat} {x y:List PV} {ks:List Int} {rs:List Rect} {vq t:Nat} (h:rs≠[]):seS g w xv yv x y ks rs vq t=⟨prS g w (.loc 8 vq 0 rs.length) ks++[.arr xv 31 1 x,.arr yv 3 1 y,.arr vq 79 4 (rcs rs)],t⟩:=by
 cases rs with
 | nil=>exact absurd rfl h
 | cons a l=>rfl
section
variable {g:List (List Int)} {w xv yv:Nat} {x y y2:List PV} {ks:List Int} {rs:List Rect} {vq t:Nat}
theorem zdi:(seS g w xv yv x y ks rs vq t).obs[6]?=some (.arr xv 31 1 x):=by cases rs <;> rfl
theorem zd4:(seS g w xv yv x y ks rs vq t).obs[7]?=some (.arr yv 3 1 y):=by cases rs <;> rfl
theorem zgc:(seS g w xv yv x y ks rs vq t).set 7 (.arr yv 3 1 y2)=seS g w xv yv x y2 ks rs vq t:=by cases rs <;> rfl
end
theorem yaa {S:Store} {k f:Nat} {sel:List Nat} {n:Nat} {q:IntKind} {z:Int}:(List.replicate n (PV.int q z)).mapM (rn S k sel (f+1))=some (List.replicate n (PV.int q z)) :=
 zbk fun x hx=>by obtain rfl:=List.eq_of_mem_replicate hx; rfl
theorem z8o {S:Store} {k f:Nat} {sel:List Nat} {n:Nat}:(List.replicate n PV.nils).mapM (rn S k sel (f+1))=some (List.replicate n PV.nils) :=
 zbk fun x hx=>by obtain rfl:=List.eq_of_mem_replicate hx; rfl
theorem ych {S:Store} {k f:Nat} {sel:List Nat} {d:List (List Int)} {cur:PV} {m:Nat}:(gcs d cur m).mapM (rn S k sel (f+1))=(rn S k sel (f+1) cur).map fun c=>gcs d c m:=by
 unfold gcs
 rw [qP,zbk (l:=d.map eInts) (fun x hx=>by obtain ⟨a,_,rfl⟩:=List.mem_map.1 hx; rfl),qC,zbk (l:=List.replicate m PV.nils) (fun x hx=>by obtain rfl:=List.eq_of_mem_replicate hx; rfl)]
 cases rn S k sel (f+1) cur <;> rfl
theorem z8n {S:Store} {fr:Nat→Bool} {f:Nat} {q:IntKind} (l:List Int):(l.map (PV.int q)).mapM (rfq S fr (f+1))=some (l.map (PV.int q)) :=
 zbk fun x hx=>by obtain ⟨a,_,rfl⟩:=List.mem_map.1 hx; rfl
def seO (g:List (List Int)) (w:Nat) (xv:Nat) (x:List PV) (ks:List Int) (rs:List Rect) (vq t:Nat):Store :=
 match rs with
 | []=>⟨prS g w .nils ks++[.arr xv 31 1 x],t⟩
 | rs=>⟨prS g w (.loc 7 vq 0 rs.length) ks++[.arr xv 31 1 x,.arr vq 79 4 (rcs rs)],t⟩
theorem z5r {g:List (List Int)} {w xv:Nat} {x:List PV} {ks:List Int} {vq t:Nat}:seO g w xv x ks [] vq t=⟨prS g w .nils ks++[.arr xv 31 1 x],t⟩:=rfl
theorem z5q {g:List (List Int)} {w xv:Nat} {x:List PV} {ks:List Int} {rs:List Rect} {vq t:Nat} (h:rs≠[]):seO g w xv x ks rs vq t=⟨prS g w (.loc 7 vq 0 rs.length) ks++[.arr xv 31 1 x,.arr vq 79 4 (rcs rs)],t⟩:=by
 cases rs with
 | nil=>exact absurd rfl h
 | cons a l=>rfl
def zcz (g:List (List Int)) (i:Nat) (s:List Int × List Rect):Nat→List Int × List Rect
 | 0=>s
 | j+1=>(zg9 (zcz g i s j).1 (gz g i j),zns (zcz g i s j).1 (zcz g i s j).2 (gz g i j) (zfw i j))
def zaj (g:List (List Int)) (nw:Nat):Nat→List Int × List Rect
 | 0=>([],[])
 | i+1=>zcz g i (zaj g nw i) nw
def zmf (g:List (List Int)) (i:Nat) (s:List Int × List Rect):Nat→List Int
 | 0=>[]
 | j+1=>zmf g i s j++[(((zcz g i s j).1.idxOf (gz g i j):Nat):Int)]
def zd2 (g:List (List Int)) (nw:Nat):Nat→List (List Int)
 | 0=>[]
 | i+1=>zd2 g nw i++[zmf g i (zaj g nw i) nw]
theorem zen {g:List (List Int)} {i:Nat} {s:List Int × List Rect}:∀ j,(zmf g i s j).length=j
 | 0=>rfl
 | j+1=>by simp [zmf,zen j]
theorem z9d {g:List (List Int)} {i nw j:Nat} {s:List Int × List Rect} (h:j<nw):zmf g i s (j+1)++List.replicate (nw - (j+1)) 0=(zmf g i s j++List.replicate (nw - j) 0).set j (((zcz g i s j).1.idxOf (gz g i j):Nat):Int):=by
 obtain ⟨m,hm⟩:∃ m,nw - j=m+1:=⟨nw - j - 1,by omega⟩
 rw [hm,show nw - (j+1)=m by omega,List.set_append_right _ _ (by rw [zen]; exact qR _),zen,Nat.sub_self]
 simp [zmf,List.replicate_succ]
theorem zcd {g:List (List Int)} {nw:Nat}:∀ i,(zd2 g nw i).length=i
 | 0=>rfl
 | i+1=>by simp [zd2,zcd i]
theorem zz1 {ks:List Int} {z:Int}:(zg9 ks z).length≤ks.length+1∧ks.length≤(zg9 ks z).length∧1≤(zg9 ks z).length:=by
 have h:=zgp (ks:=ks) (z:=z)
 unfold zg9
 split
 ·simp
 refine ⟨by omega,by omega,?_⟩
 have:ks.idxOf z≠ks.length:=by assumption
 omega
theorem zld {g:List (List Int)} {i:Nat} (hi:i<6) {s:List Int × List Rect} (h:zpv s.1 s.2):∀ j,j≤6→zpv (zcz g i s j).1 (zcz g i s j).2∧(zcz g i s j).1.length≤s.1.length+j∧s.1.length≤(zcz g i s j).1.length∧(1≤j→1≤(zcz g i s j).1.length)
 | 0,_=>⟨h,by simp [zcz],by simp [zcz],by omega⟩
 | j+1,hj=>by
  obtain ⟨h1,h2,h3,h4⟩:=zld hi h j (by omega)
  have:=zz1 (ks:=(zcz g i s j).1) (z:=gz g i j)
  exact ⟨h1.step (zeg hi (by omega)),by simp only[zcz]; omega,by simp only[zcz]; omega,fun _=>by simp only[zcz]; omega⟩
theorem zgb {g:List (List Int)} {nw:Nat} (hw:nw≤6) (hw1:1≤nw):∀ i,i≤6→zpv (zaj g nw i).1 (zaj g nw i).2∧(zaj g nw i).1.length≤6*i∧(1≤i→1≤(zaj g nw i).1.length)
 | 0,_=>⟨zpv.nil,by simp [zaj],by omega⟩
 | i+1,hi=>by
  obtain ⟨h1,h2,h3⟩:=zgb hw hw1 i (by omega)
  obtain ⟨k1,k2,k3,k4⟩:=zld (g:=g) (i:=i) (by omega) h1 nw hw
  exact ⟨k1,by simp only[zaj]; omega,fun _=>by simp only[zaj]; exact k4 hw1⟩
theorem zpv.ne {ks:List Int} {rs:List Rect} (h:zpv ks rs) (h1:1≤ks.length):rs≠[]:=by
 rintro rfl
 have:=h.1
 simp at this; omega
theorem zpv.nl {ks:List Int} (h:zpv ks []):ks=[]:=List.eq_nil_of_length_eq_zero h.1.symm
theorem zd6 {d:List (List Int)} {cur:PV} {m i:Nat} (h:d.length=i):(gcs d cur m)[i]?=some cur:=by subst h; simp [gcs]
theorem zd7 {d:List (List Int)} {cur:PV} {m:Nat}:(gcs d cur m).length=d.length+1+m:=by simp [gcs]; omega
def gc0 (d:List (List Int)) (m:Nat):List PV:=d.map eInts++List.replicate m .nils
theorem zwu {d:List (List Int)} {m:Nat}:(gc0 d m).length=d.length+m:=by simp [gc0]
theorem zwv {d:List (List Int)} {m i:Nat} {c:PV} (h:d.length=i) (hm:1≤m):(gc0 d m).take i++[c]++(gc0 d m).drop (i+1)=gcs d c (m - 1):=by
 subst h
 obtain ⟨m,rfl⟩:∃ n,m=n+1:=⟨m - 1,by omega⟩
 simp only[gc0,gcs,Nat.add_sub_cancel]
 rw [show d.length=(d.map eInts).length by simp,List.take_left,List.drop_length_add_append]
 simp [List.replicate_succ]
theorem z3o {d:List (List Int)} {r:List Int} {m:Nat}:gcs d (eInts r) m=gc0 (d++[r]) m:=by simp [gcs,gc0]
theorem z3n {d:List (List Int)}:gc0 d 0=d.map eInts:=by simp [gc0]
theorem zrv {m:Nat}:gc0 [] m=List.replicate m .nils:=rfl
end
theorem zxi {g d:List (List Int)} {y:List Int} {row ks:List Int} {rs:List Rect} {z:Int} {r c w m xv yv vq t:Nat} (hr:r<6) (hc:c<6) (hrow:g[r]?=some row) (hz:row[c]?=some z) (hs:zpv ks rs) (hk:ks.length≤64) :
  Ev Tryz.prog 107 [.int .i64 (r:Nat),.int .i64 (c:Nat),.ref 5 5 0,.ref 0 0 0,.ref 3 3 0] (seS g w xv yv (gcs d (.loc 7 yv 0 w) m) (y.map (.int .i64)) ks rs vq t)
   fun v S=>v = .int .i64 ((ks.idxOf z:Nat):Int)∧∃ vq t:Nat,S=seS g w xv yv (gcs d (.loc 7 yv 0 w) m) (y.map (.int .i64)) (zg9 ks z) (zns ks rs z (zfw r c)) vq t:=by
 have hne:zns ks rs z (zfw r c)≠[]:=(hs.step (z:=z) (zeg hr hc)).ne zz1.2.2
 simp only[zz2 hne]
 by_cases h0:rs=[]
 ·subst h0
  rw [z5t]
  exact zma (vq:=0) hr hc hrow hz hs hk rfl hs.nl
 rw [zz2 h0]
 by_cases hin:ks.idxOf z=ks.length
 ·exact zpg hr hc hrow hz hs hk hin
 exact zph hr hc hrow hz hs hk hin
theorem z63 {g:List (List Int)} {nh nw:Nat} (hg:GW g nh nw):Ev Tryz.prog 72 [.int .i64 nh,.int .i64 nw,.fn 107 [.ref 5 5 0,.ref 0 0 0,.ref 3 3 0]] ⟨prS g nw .nils [],6⟩ fun v S=>∃ xv vq t:Nat,v = .loc 6 xv 0 nh∧S=seO g nw xv ((zd2 g nw nh).map eInts) (zaj g nw nh).1 (zaj g nw nh).2 vq t:=by
 have hl:=hg.1
 obtain ⟨hg1,hg2,hg3,hg4⟩:=hg.2.2
 refine Ev.of ⟨Tryz.func72,by kernel_rfl,rfl,by kernel_rfl⟩ zao mixed (by show 3≤Tryz.f72.ntmps; decide) ?_
 refine W.r fun K hK=>?_
 simp(disch:=omega)only[↓RU,RV,RH,↓reduceIte,qE,reduceCtorEq,if_pos,↓RS,RG,qA,qM,qL,prS]
 apply hK;clear hK K
 refine W.r fun K hK=>?_
 simp(disch:=omega)only[↓RU,RV,RH,↓reduceIte,qE,reduceCtorEq,if_pos,↓RS,RG,qA,qM,qL,ty1,zab,zb0,zaa,prS,zk9,zei,zef]
 apply hK;clear hK K
 refine W.seq ?_
 refine W.r fun K hK=>?_
 simp(disch:=omega)only[↓RU,RV,RH,↓reduceIte,qE,reduceCtorEq,if_pos,↓RS,RG,qA,qM,qL,ty1,zab,zb0,zaa,prS]
 apply hK;clear hK K
 refine W.block ?_
 refine W.loopS [1,2,7,13,14] (fun n vs S=>∃ (i xv vq t:Nat),n=nh - i∧i≤nh∧vs=[.int .i64 nw,.fn 107 [.ref 5 5 0,.ref 0 0 0,.ref 3 3 0],.loc 6 xv 0 nh,.int .i64 nh,.int .i64 (i:Nat)]∧S=seO g nw xv (gc0 (zd2 g nw i) (nh - i)) (zaj g nw i).1 (zaj g nw i).2 vq t) nh ?_ ?_
 ·refine ⟨7,[],[.int .i64 nw,.fn 107 [.ref 5 5 0,.ref 0 0 0,.ref 3 3 0],.loc 6 6 0 nh,.int .i64 nh,.int .i64 (0:Nat)],seO g nw 6 (gc0 (zd2 g nw 0) (nh - 0)) (zaj g nw 0).1 (zaj g nw 0).2 0 8,?_,?_,0,6,0,8,rfl,Nat.zero_le _,rfl,rfl⟩
  ·simp [-qU,Env.put,Env.of,zaf,zbi,zah,zak,zap,zar,zbo,zbp,zcm,zbn,za3,zbq,zcl,zcn,za5,za4,zas,zbm,zbr,zck,za1,za0,zaq,za2,zbl,zeq,qS,qP,qC]
  simp [-qU,Env.put,Env.of,zaf,zbi,zah,zak,zap,zar,zbo,zbp,zcm,zbn,za3,zbq,zcl,zcn,za5,za4,zas,zbm,zbr,zck,za1,za0,zaq,za2,zbl,zeq,qS,qP,qC,prS,z5r,zaj,zd2,zrv,z8o,zxc]
 rintro n vs S - ⟨i,xv,vq,t,rfl,h_i,rfl,rfl⟩
 refine W.r fun K hK=>?_
 simp(disch:=omega)only[↓RU,RV,RH,↓reduceIte,qE,reduceCtorEq,if_pos,w64,↓RS,RG,qA,qM,qL,zaa,prS]
 apply hK;clear hK K
 refine W.seq ?_
 refine W.cond rfl (fun h=>?_) (fun h=>?_)
 ·try simp only[RL]at h
  have hzl:=zcd (g:=g) (nw:=nw) i
  have hiw:i<nh:=by omega
  obtain ⟨hso,hsl,hsp⟩:=zgb (g:=g) hg4 hg3 i (by omega)
  refine W.skip ?_
  refine xn ?_
  refine W.seq ?_
  refine W.block ?_
  refine W.r fun K hK=>?_
  simp(disch:=omega)only[↓RU,RV,RH,↓reduceIte,qE,reduceCtorEq,if_pos,↓RS,RG,qA,qM,qL,prS]
  apply hK;clear hK K
  refine W.joinS [1,2,7,8,13,14] (fun vs S=>∃ (yv vq t:Nat),vs=[.int .i64 nw,.fn 107 [.ref 5 5 0,.ref 0 0 0,.ref 3 3 0],.loc 6 xv 0 nh,.int .i64 (i:Nat),.int .i64 nh,.int .i64 (i:Nat)]∧S=seS g nw xv yv (gcs (zd2 g nw i) (.loc 7 yv 0 nw) (nh - i - 1)) ((List.replicate nw 0).map (.int .i64)) (zaj g nw i).1 (zaj g nw i).2 vq t) ?_ ?_
  ·
   refine W.k fun K hK=>?_
   by_cases hi0:zaj g nw i=([],[])
   ·skip
    rw [hi0,z5r]
    simp(disch:=omega)only[↓RU,RV,RH,↓reduceIte,qE,reduceCtorEq,if_pos,↓RS,RG,qA,qM,qL,ty1,zab,zb0,zaa,prS,zei,zef,zwu,zcd,zwv]
    apply hK;clear hK K
    refine xn ?_
    refine ⟨8,[],[.int .i64 nw,.fn 107 [.ref 5 5 0,.ref 0 0 0,.ref 3 3 0],.loc 6 xv 0 nh,.int .i64 (i:Nat),.int .i64 nh,.int .i64 (i:Nat)],seS g nw xv t (gcs (zd2 g nw i) (.loc 7 t 0 nw) (nh - i - 1)) ((List.replicate nw 0).map (.int .i64)) (zaj g nw i).1 (zaj g nw i).2 vq (t+2),?_,?_,t,vq,t+2,rfl,rfl⟩
    ·simp [-qU,Env.put,Env.of,zaf,zbi,zah,zak,zap,zar,zbo,zbp,zcm,zbn,za3,zbq,zcl,zcn,za5,za4,zas,zbm,zbr,zck,za1,za0,zaq,za2,zbl,zeq,qS,qP,qC]
    rw [hi0,z5t]; simp [-qU,Env.put,Env.of,zaf,zbi,zah,zak,zap,zar,zbo,zbp,zcm,zbn,za3,zbq,zcl,zcn,za5,za4,zas,zbm,zbr,zck,za1,za0,zaq,za2,zbl,zeq,qS,qP,qC,prS,zxc,zq7,zii,zvi,yaa,show List.idxOf 7 [8,7]=1 from rfl]
   skip
   have hne:(zaj g nw i).2≠[]:=fun e=>hi0 (by have:=hso; rw [e]at this; rw [← Prod.eta (zaj g nw i),e,this.nl])
   rw [z5q hne]
   simp(disch:=omega)only[↓RU,RV,RH,↓reduceIte,qE,reduceCtorEq,if_pos,↓RS,RG,qA,qM,qL,ty1,zab,zb0,zaa,prS,zei,zef,zwu,zcd,zwv]
   apply hK;clear hK K
   refine xn ?_
   refine ⟨7,[8,7],[.int .i64 nw,.fn 107 [.ref 5 5 0,.ref 0 0 0,.ref 3 3 0],.loc 6 xv 0 nh,.int .i64 (i:Nat),.int .i64 nh,.int .i64 (i:Nat)],seS g nw xv (t+1) (gcs (zd2 g nw i) (.loc 7 (t+1) 0 nw) (nh - i - 1)) ((List.replicate nw 0).map (.int .i64)) (zaj g nw i).1 (zaj g nw i).2 (t+1) (t+2),?_,?_,t+1,t+1,t+2,rfl,rfl⟩
   ·simp [-qU,Env.put,Env.of,zaf,zbi,zah,zak,zap,zar,zbo,zbp,zcm,zbn,za3,zbq,zcl,zcn,za5,za4,zas,zbm,zbr,zck,za1,za0,zaq,za2,zbl,zeq,qS,qP,qC]
   rw [zz2 hne]; simp [-qU,Env.put,Env.of,zaf,zbi,zah,zak,zap,zar,zbo,zbp,zcm,zbn,za3,zbq,zcl,zcn,za5,za4,zas,zbm,zbr,zck,za1,za0,zaq,za2,zbl,zeq,qS,qP,qC,prS,zxc,zq7,zii,zvi,yaa,show List.idxOf 7 [8,7]=1 from rfl]
  rintro vs S - ⟨yv,vq,t,rfl,rfl⟩
  refine W.r fun K hK=>?_
  simp(disch:=omega)only[↓RU,RV,RH,↓reduceIte,qE,reduceCtorEq,if_pos,↓RS,RG,qA,qM,qL,ty1,zab,zb0,zaa,prS,zdi,zd4,zd6,zd7,hzl]
  apply hK;clear hK K
  refine W.block ?_
  refine W.loop [1,2,7,8,13,14,26,27] (fun n vs S=>∃ (j vq t:Nat),n=nw - j∧j≤nw∧vs=[.int .i64 nw,.fn 107 [.ref 5 5 0,.ref 0 0 0,.ref 3 3 0],.loc 6 xv 0 nh,.int .i64 (i:Nat),.int .i64 nh,.int .i64 (i:Nat),.int .i64 nw,.int .i64 (j:Nat)]∧S=seS g nw xv yv (gcs (zd2 g nw i) (.loc 7 yv 0 nw) (nh - i - 1)) ((zmf g i (zaj g nw i) j++List.replicate (nw - j) 0).map (.int .i64)) (zcz g i (zaj g nw i) j).1 (zcz g i (zaj g nw i) j).2 vq t) nw ?_ ?_
  ·refine ⟨_,0,vq,t,rfl,Nat.zero_le _,?_,zan⟩
   simp [Env.put,Env.of]
  rintro n vs S - ⟨j,vq,t,rfl,h_j,rfl,rfl⟩
  refine W.r fun K hK=>?_
  simp(disch:=omega)only[↓RU,RV,RH,↓reduceIte,qE,reduceCtorEq,if_pos,w64,↓RS,RG,qA,qM,qL,zaa,prS]
  apply hK;clear hK K
  refine W.seq ?_
  refine W.cond rfl (fun h1=>?_) (fun h1=>?_)
  ·try simp only[RL]at h1
   have hjw:j<nw:=by omega
   obtain ⟨row,hrow,hrl,hz⟩:=hg.at_ hiw hjw
   obtain ⟨hro,hrl2,-,-⟩:=zld (g:=g) (i:=i) (by omega) hso j (by omega)
   have hYl:(zmf g i (zaj g nw i) j++List.replicate (nw - j) 0).length=nw:=by simp only[List.length_append,List.length_replicate,zen]; omega
   generalize hY:zmf g i (zaj g nw i) j++List.replicate (nw - j) 0=Y at hYl
   refine W.skip ?_
   refine xn ?_
   refine W.seq ?_
   refine W.block ?_
   refine W.r fun K hK=>?_
   simp(disch:=omega)only[↓RU,RV,RH,↓reduceIte,qE,reduceCtorEq,if_pos,↓RS,RG,qA,qM,qL,prS]
   apply hK;clear hK K
   refine W.region_pk 9 [some 32,some 33] [6] (by decide) (by kernel_rfl) fun K hK=>?_
   simp only[List.take_succ_cons,List.take_zero,List.drop_succ_cons,List.drop_zero]
   refine zb5 rfl ?_
   simp(disch:=omega)only[↓RU,RV,RH,↓reduceIte,qE,reduceCtorEq,if_pos,qN,↓RS,RG,qA,qM,qL,ty1,zab,zb0,zaa,prS,zdi,zd4,zd6,zd7,hzl,zgc,zbw,zc0,hYl,za7,zbf]
   refine zb5 rfl ?_
   simp(disch:=omega)only[↓RU,RV,RH,↓reduceIte,qE,reduceCtorEq,if_pos,qN,↓RS,RG,qA,qM,qL,ty1,zab,zb0,zaa,prS,zdi,zd4,zd6,zd7,hzl,zgc,zbw,zc0,hYl,za7,zbf]
   refine zch (.ref 6 xv i) rfl rfl rfl (fun S' hS=>?_) ?_
   ·skip
    have k6:=(hS 6 (by decide)).trans zdi
    simp(disch:=omega)only[↓RU,RV,RH,↓reduceIte,qE,reduceCtorEq,if_pos,qN,↓RS,RG,qA,qM,qL,ty1,zab,zb0,zaa,prS,zdi,zd4,zd6,zd7,hzl,zgc,zbw,zc0,hYl,ze3,zg6,zl3,zl4,k6]
   refine zch (.loc 7 yv 0 nw) rfl rfl rfl (fun S' hS=>?_) ?_
   ·skip
    have k6:=(hS 6 (by decide)).trans zdi
    simp(disch:=omega)only[↓RU,RV,RH,↓reduceIte,qE,reduceCtorEq,if_pos,qN,↓RS,RG,qA,qM,qL,ty1,zab,zb0,zaa,prS,zdi,zd4,zd6,zd7,hzl,zgc,zbw,zc0,hYl,ze3,zg6,zl3,zl4,k6]
   refine zb5 rfl ?_
   simp(disch:=omega)only[↓RU,RV,RH,↓reduceIte,qE,reduceCtorEq,if_pos,qN,↓RS,RG,qA,qM,qL,ty1,zab,zb0,zaa,prS,zdi,zd4,zd6,zd7,hzl,zgc,zbw,zc0,hYl,za7,zbf]
   refine zb5 rfl ?_
   simp(disch:=omega)only[↓RU,RV,RH,↓reduceIte,qE,reduceCtorEq,if_pos,qN,↓RS,RG,qA,qM,qL,ty1,zab,zb0,zaa,prS,zdi,zd4,zd6,zd7,hzl,zgc,zbw,zc0,hYl,za7,zbf]
   refine zb5 rfl ?_
   simp(disch:=omega)only[↓RU,RV,RH,↓reduceIte,qE,reduceCtorEq,if_pos,qN,↓RS,RG,qA,qM,qL,ty1,zab,zb0,zaa,prS,zdi,zd4,zd6,zd7,hzl,zgc,zbw,zc0,hYl,za7,zbf]
   refine zb5 rfl ?_
   simp(disch:=omega)only[↓RU,RV,RH,↓reduceIte,qE,reduceCtorEq,if_pos,qN,↓RS,RG,qA,qM,qL,ty1,zab,zb0,zaa,prS,zdi,zd4,zd6,zd7,hzl,zgc,zbw,zc0,hYl,za7,zbf]
   refine zb5 rfl ?_
   simp(disch:=omega)only[↓RU,RV,RH,↓reduceIte,qE,reduceCtorEq,if_pos,qN,↓RS,RG,qA,qM,qL,ty1,zab,zb0,zaa,prS,zdi,zd4,zd6,zd7,hzl,zgc,zbw,zc0,hYl,za7,zbf]
   refine zac.ev (zxi (y:=Y) (by omega) (by omega) hrow hz hro (by omega)) ?_
   rintro _ _ ⟨rfl,vq2,t2,rfl⟩
   simp(disch:=omega)only[↓RU,RV,RH,↓reduceIte,qE,reduceCtorEq,if_pos,qN,↓RS,RG,qA,qM,qL,ty1,zab,zb0,zaa,prS,zdi,zd4,zd6,zd7,hzl,zgc,zbw,zc0,hYl,za7,zbf]
   refine zke ?_
   simp(disch:=omega)only[↓RU,RV,RH,↓reduceIte,qE,reduceCtorEq,if_pos,qN,↓RS,RG,qA,qM,qL,ty1,zab,zb0,zaa,prS,zdi,zd4,zd6,zd7,hzl,zgc,zbw,zc0,hYl]
   apply hK;clear hK K
   refine XbN ?_
   refine xn ?_
   refine W.k fun K hK=>?_
   simp(disch:=omega)only[↓RU,RV,RH,↓reduceIte,qE,reduceCtorEq,if_pos,w64,↓RS,RG,qA,qM,qL,zaa,prS]
   apply hK;clear hK K
   refine xn ?_
   refine ⟨nw - (j+1),by omega,_,j+1,vq2,t2,rfl,by omega,?_,zav ?_⟩
   rotate_left
   ·rw [show zmf g i (zaj g nw i) (j+1)++List.replicate (nw - (j+1)) 0=(zmf g i (zaj g nw i) j++List.replicate (nw - j) 0).set j (((zcz g i (zaj g nw i) j).1.idxOf (gz g i j):Nat):Int) from z9d hjw,hY]; rfl
   simp [Env.put,Env.of]
  try simp only[RL]at h1
  obtain rfl:nw=j:=by omega
  obtain ⟨hro,hrl2,-,hro4⟩:=zld (g:=g) (i:=i) (by omega) hso nw hg4
  have hne:=hro.ne (hro4 hg3)
  have hY:zmf g i (zaj g nw i) nw++List.replicate (nw - nw) 0=zmf g i (zaj g nw i) nw:=by rw [Nat.sub_self]; exact qN _
  have hYl:=zen (g:=g) (i:=i) (s:=zaj g nw i) nw
  rw [hY,zz2 hne]
  generalize hYe:zmf g i (zaj g nw i) nw=Y at hYl
  have hYt:(Y.map (PV.int .i64)).take nw=Y.map (PV.int .i64):=qT (by rw [List.length_map]; omega)
  have hYE:eInts Y=PV.sl (Y.map (PV.int .i64)) nw:=by rw [← hYl]
  have hsr:zcz g i (zaj g nw i) nw=zaj g nw (i+1):=rfl
  rw [hsr]at hne ⊢
  have hzs:zd2 g nw (i+1)=zd2 g nw i++[Y]:=by rw [← hYe]; rfl
  refine W.exit ?_
  refine xe ?_
  refine xe ?_
  refine XBlock.hit ?_
  refine XbN ?_
  refine xn ?_
  refine W.k fun K hK=>?_
  simp(disch:=omega)only[↓RU,RV,RH,↓reduceIte,qE,reduceCtorEq,if_pos,w64,↓RS,RG,qA,qM,qL,zaa,prS]
  apply hK;clear hK K
  refine xn ?_
  refine ⟨nh - (i+1),by omega,7,[8],[.int .i64 nw,.fn 107 [.ref 5 5 0,.ref 0 0 0,.ref 3 3 0],.loc 6 xv 0 nh,.int .i64 nh,.int .i64 ((i+1:Nat):Int)],seO g nw xv (gc0 (zd2 g nw (i+1)) (nh - (i+1))) (zaj g nw (i+1)).1 (zaj g nw (i+1)).2 t (t+1),?_,?_,i+1,xv,t+0,t+1,rfl,by omega,rfl,rfl⟩
  ·simp [-qU,Env.put,Env.of,zaf,zbi,zah,zak,zap,zar,zbo,zbp,zcm,zbn,za3,zbq,zcl,zcn,za5,za4,zas,zbm,zbr,zck,za1,za0,zaq,za2,zbl,zeq,qS,qP,qC]
  rw [z5q hne,hzs,← z3o]; simp [-qU,Env.put,Env.of,zaf,zbi,zah,zak,zap,zar,zbo,zbp,zcm,zbn,za3,zbq,zcl,zcn,za5,za4,zas,zbm,zbr,zck,za1,za0,zaq,za2,zbl,zeq,qS,qP,qC,prS,zxc,zq7,zii,ych,hYl,hYt,hYE,z8n,show nh - i - 1=nh - (i+1) by omega,show List.idxOf 8 [8]=0 from rfl]
 try simp only[RL]at h
 obtain rfl:nh=i:=by omega
 refine W.exit ?_
 refine xe ?_
 refine xe ?_
 refine XBlock.hit ?_
 refine xn ?_
 refine W.r fun K hK=>?_
 simp(disch:=omega)only[↓RU,RV,RH,↓reduceIte,qE,reduceCtorEq,if_pos,↓RS,RG,qA,qM,qL,prS]
 apply hK;clear hK K
 refine W.ret ?_
 refine Br rfl ?_
 rw [Nat.sub_self,z3n]
 exact ⟨_,xv,vq,t,rfl,zan⟩
def w0 (g:List (List Int)):Nat:=(g[0]?.getD []).length
def okG (g:List (List Int)):Bool:=decide (1≤g.length) && decide (g.length≤6) && decide (1≤w0 g) && decide (w0 g≤6) && !(g.any fun r=>decide ((r.length:Int)≠(w0 g:Nat)))
def stG (g:List (List Int)):List Int × List Rect:=zaj g (w0 g) g.length
def zG (g:List (List Int)):List (List Int):=zd2 g (w0 g) g.length
def z18 (rs:List Rect):Int:=rs.foldl (fun s b=>s+b.high*b.wide) 0
def okS (g:List (List Int)):Bool:=okG g && decide ((stG g).2.length≤9)
def zhu (g:List (List Int)):Bool:=decide (z18 (stG g).2=((g.length*w0 g:Nat):Int))
def zcg (g:List (List Int)):PV:=if okS g then .tup [zat (zG g) (stG g).2,.bool (zhu g)] else .tup [.nilp,.bool false]
theorem z6k {g:List (List Int)} {row:List Int} (h:g[0]?=some row):w0 g=row.length:=by simp [w0,h]
theorem zlz {g:List (List Int)}:okG g=true↔GW g g.length (w0 g):=by
 unfold okG GW
 simp only[qB,decide_eq_true_eq,Bool.not_eq_true',List.any_eq_false,decide_eq_true_eq,ne_eq,Decidable.not_not]
 constructor
 ·rintro ⟨⟨⟨⟨h1,h2⟩,h3⟩,h4⟩,h5⟩
  exact ⟨trivial,fun r hr=>by have:=h5 r hr; omega,h1,h2,h3,h4⟩
 rintro ⟨_,h5,h1,h2,h3,h4⟩
 exact ⟨⟨⟨⟨h1,h2⟩,h3⟩,h4⟩,fun r hr=>by have:=h5 r hr; omega⟩
theorem zpk {rs:List Rect} {k:Nat} {b:Rect} (h:rs[k]?=some b):z18 (rs.take (k+1))=z18 (rs.take k)+b.high*b.wide:=by
 unfold z18; rw [zfp h]
theorem Rect.Fit.area {b:Rect} (h:b.Fit):1≤b.high*b.wide∧b.high*b.wide≤36:=by
 unfold Rect.Fit at h
 obtain ⟨h1,h2,h3,h4,h5,h6⟩:=h
 obtain ⟨m,hm⟩:∃ m:Nat,b.high=m:=⟨b.high.toNat,by omega⟩
 obtain ⟨n,hn⟩:∃ n:Nat,b.wide=n:=⟨b.wide.toNat,by omega⟩
 rw [hm,hn]
 have h7:=Nat.mul_le_mul (show m≤6 by omega) (show n≤6 by omega)
 have h8:=Nat.mul_le_mul (show 1≤m by omega) (show 1≤n by omega)
 have:((m*n:Nat):Int)=(m:Int)*n:=by simp
 omega
theorem zrd {rs:List Rect} (h:∀ b∈rs,b.Fit):∀ k,0≤z18 (rs.take k)∧z18 (rs.take k)≤36*k
 | 0=>by simp [z18]
 | k+1=>by
  have ih:=zrd h k
  by_cases hk:k<rs.length
  ·obtain ⟨b,hb,hm⟩:=zai hk
   rw [zpk hb]
   have:=(h b hm).area
   omega
  rw [qT (by omega)]at ih ⊢
  omega
theorem zi7 {g:List (List Int)} {nw:Nat}:∀ {i k:Nat},k<i→(zd2 g nw i)[k]?=some (zmf g k (zaj g nw k) nw)
 | 0,k,h=>by omega
 | i+1,k,h=>by
  unfold zd2
  by_cases e:k=i
  ·subst e; rw [List.getElem?_append_right (by rw [zcd]; exact qR _),zcd]; simp
  rw [List.getElem?_append_left (by rw [zcd]; omega)]; exact zi7 (by omega)
theorem yfb {g:List (List Int)} {nh nw:Nat} (hg:GW g nh nw):GW (zd2 g nw nh) nh nw:=by
 refine ⟨zcd _,fun r hr=>?_,hg.2.2⟩
 obtain ⟨k,hk⟩:=List.getElem?_of_mem hr
 have hkl:=zbd hk
 rw [zcd]at hkl
 rw [zi7 hkl]at hk
 cases hk
 exact zen _
theorem zjw {S:Store} {xv vq nh f:Nat} {Z:List (List Int)} {rs:List Rect} (h2:S.obs[2]?=some (.arr 2 75 2 [.loc 6 xv 0 nh,.loc 7 vq 0 rs.length])) (h6:S.obs[6]?=some (.arr xv 31 1 (Z.map eInts))) (hZ:Z.length=nh)
  (h7:S.obs[7]?=some (.arr vq 79 4 (rcs rs))):reify S true (f+4) (.ref 2 2 0)=some (zat Z rs):=by
 have e1:reify S true (f+3) (.loc 6 xv 0 nh)=some (zdl Z):=by
  rw [← hZ]
  exact zc6 (k:=f+2) h6 (by simp) (zqn _)
 have e2:reify S true (f+3) (.loc 7 vq 0 rs.length)=some (z9o rs):=zc6 (k:=f+2) h7 (zbt _) (zl5 (zzz _))
 have hc:S.cellsOf 2 2=some [.loc 6 xv 0 nh,.loc 7 vq 0 rs.length]:=by simp [Store.cellsOf,h2]
 have e0:reify S true (f+4) (.ref 2 2 0)=(S.cellsOf 2 2).bind fun cells=>(cells.mapM (reify S true (f+3))).map (.ip · 0):=rfl
 rw [e0,hc,Option.bind_some,qC,e1,qC,e2]
 rfl
theorem ze5 {g:List (List Int)} (hsm:g.length<2147483648) (hsr:∀ r∈g,r.length<2147483648):PC Tryz.prog 56 [zdl g] (zcg g) false:=by
 refine PC.of ⟨Tryz.func56,by kernel_rfl,rfl,by kernel_rfl⟩ zao mixed (by show 1≤Tryz.f56.ntmps; decide) ?_
 refine W.r fun K hK=>?_
 simp(disch:=omega)only[↓RU,RV,RH,↓reduceIte,qE,reduceCtorEq,if_pos,↓RS,RG,qA,qM,qL,ty1,zab,zb0,zaa]
 apply hK;clear hK K
 refine W.seq ?_
 refine W.r fun K hK=>?_
 have hcase:g.length<1∨6<g.length∨∃ row:List Int,g[0]?=some row∧row∈g∧(1≤g.length∧g.length≤6)∧(row.length<1∨6<row.length∨(1≤row.length∧row.length≤6)):=by
  by_cases h1:g.length<1
  ·exact .inl h1
  obtain ⟨row,h2,h3⟩:=zai (show 0<g.length by omega)
  by_cases h4:6<g.length
  ·exact .inr (.inl h4)
  exact .inr (.inr ⟨row,h2,h3,by omega,by omega⟩)
 rcases hcase with hb | hb | ⟨row,hrow,hrm,hgl,hb | hb | hb⟩
 ·skip
  have hd:decide ((g.length:Int)<1)=true:=decide_eq_true (by omega)
  simp(disch:=omega)only[↓RU,RV,RH,↓reduceIte,qE,reduceCtorEq,if_pos,w64,↓RS,RG,qA,qM,qL,ty1,zab,zb0,zaa,hd]
  apply hK;clear hK K
  refine W.cond rfl (fun h=>?_) (fun h=>?_)
  ·try simp only[RL]at h
   refine W.r fun K hK=>?_
   simp(disch:=omega)only[↓RU,RV,RH,↓reduceIte,qE,reduceCtorEq,if_pos,↓RS,RG,qA,qM,qL]
   apply hK;clear hK K
   refine W.ret ?_
   refine XThen.ret ?_
   refine Br rfl ?_
   have hok:okS g=false:=by simp [okS,okG]; omega
   rw [zcg,hok]
   rfl
  try simp only[RL]at h
  exact absurd h (by simp)
 ·skip
  have hd:decide ((g.length:Int)<1)=false:=decide_eq_false (by omega)
  have hd2:decide ((g.length:Int)>6)=true:=decide_eq_true (by omega)
  simp(disch:=omega)only[↓RU,RV,RH,↓reduceIte,qE,reduceCtorEq,if_pos,w64,↓RS,RG,qA,qM,qL,ty1,zab,zb0,zaa,hd,hd2]
  apply hK;clear hK K
  refine W.cond rfl (fun h=>?_) (fun h=>?_)
  ·try simp only[RL]at h
   refine W.r fun K hK=>?_
   simp(disch:=omega)only[↓RU,RV,RH,↓reduceIte,qE,reduceCtorEq,if_pos,↓RS,RG,qA,qM,qL]
   apply hK;clear hK K
   refine W.ret ?_
   refine XThen.ret ?_
   refine Br rfl ?_
   have hok:okS g=false:=by simp [okS,okG]; omega
   rw [zcg,hok]
   rfl
  try simp only[RL]at h
  exact absurd h (by simp)
 ·skip
  have hrl:=hsr row hrm
  have hw0:=z6k hrow
  have hd:decide ((g.length:Int)<1)=false:=decide_eq_false (by omega)
  have hd2:decide ((g.length:Int)>6)=false:=decide_eq_false (by omega)
  have hd3:decide ((row.length:Int)<1)=true:=decide_eq_true (by omega)
  simp(disch:=omega)only[↓RU,RV,RH,↓reduceIte,qE,reduceCtorEq,if_pos,w64,↓RS,RG,qA,qM,qL,ty1,zab,zb0,zaa,hd,hd2,hd3,hrow,Int.toNat_zero,Nat.zero_mul,qZ]
  apply hK;clear hK K
  refine W.cond rfl (fun h=>?_) (fun h=>?_)
  ·try simp only[RL]at h
   refine W.r fun K hK=>?_
   simp(disch:=omega)only[↓RU,RV,RH,↓reduceIte,qE,reduceCtorEq,if_pos,↓RS,RG,qA,qM,qL]
   apply hK;clear hK K
   refine W.ret ?_
   refine XThen.ret ?_
   refine Br rfl ?_
   have hok:okS g=false:=by simp [okS,okG]; omega
   rw [zcg,hok]
   rfl
  try simp only[RL]at h
  exact absurd h (by simp)
 ·skip
  have hrl:=hsr row hrm
  have hw0:=z6k hrow
  have hd:decide ((g.length:Int)<1)=false:=decide_eq_false (by omega)
  have hd2:decide ((g.length:Int)>6)=false:=decide_eq_false (by omega)
  have hd3:decide ((row.length:Int)<1)=false:=decide_eq_false (by omega)
  have hd4:decide ((row.length:Int)>6)=true:=decide_eq_true (by omega)
  simp(disch:=omega)only[↓RU,RV,RH,↓reduceIte,qE,reduceCtorEq,if_pos,w64,↓RS,RG,qA,qM,qL,ty1,zab,zb0,zaa,hd,hd2,hd3,hd4,hrow,Int.toNat_zero,Nat.zero_mul,qZ]
  apply hK;clear hK K
  refine W.cond rfl (fun h=>?_) (fun h=>?_)
  ·try simp only[RL]at h
   refine W.r fun K hK=>?_
   simp(disch:=omega)only[↓RU,RV,RH,↓reduceIte,qE,reduceCtorEq,if_pos,↓RS,RG,qA,qM,qL]
   apply hK;clear hK K
   refine W.ret ?_
   refine XThen.ret ?_
   refine Br rfl ?_
   have hok:okS g=false:=by simp [okS,okG]; omega
   rw [zcg,hok]
   rfl
  try simp only[RL]at h
  exact absurd h (by simp)
 skip
 have hrl:=hsr row hrm
 have hw0:=z6k hrow
 have hd:decide ((g.length:Int)<1)=false:=decide_eq_false (by omega)
 have hd2:decide ((g.length:Int)>6)=false:=decide_eq_false (by omega)
 have hd3:decide ((row.length:Int)<1)=false:=decide_eq_false (by omega)
 have hd4:decide ((row.length:Int)>6)=false:=decide_eq_false (by omega)
 simp(disch:=omega)only[↓RU,RV,RH,↓reduceIte,qE,reduceCtorEq,if_pos,w64,↓RS,RG,qA,qM,qL,ty1,zab,zb0,zaa,hd,hd2,hd3,hd4,hrow,Int.toNat_zero,Nat.zero_mul,qZ]
 apply hK;clear hK K
 refine W.cond rfl (fun h=>?_) (fun h=>?_)
 ·try simp only[RL]at h
  exact absurd h (by simp)
 try simp only[RL]at h
 refine W.skip ?_
 refine xn ?_
 refine W.r fun K hK=>?_
 simp(disch:=omega)only[↓RU,RV,RH,↓reduceIte,qE,reduceCtorEq,if_pos,↓RS,RG,qA,qM,qL,ty1,zab,zb0,zaa,hrow,Int.toNat_zero,Nat.zero_mul,qZ]
 apply hK;clear hK K
 refine W.seq ?_
 refine W.r fun K hK=>?_
 simp(disch:=omega)only[↓RU,RV,RH,↓reduceIte,qE,reduceCtorEq,if_pos,qN,↓RS,RG,qA,qM,qL,ty1,zab,zb0,zaa,hrow]
 refine zac.pc (zpn (l:=g) hsm (g:=106) (cap:=[.ip [.int .i64 row.length] 0]) rfl rfl (test:=fun r=>decide ((r.length:Int)≠(row.length:Nat))) (fun r hr=>zxh r _ (hsr r hr))) rfl (.inl rfl) ?_
 simp(disch:=omega)only[↓RU,RV,RH,↓reduceIte,qE,reduceCtorEq,if_pos,qN,↓RS,RG,qA,qM,qL,ty1,zab,zb0,zaa,hrow]
 apply hK;clear hK K
 refine W.cond rfl (fun h1=>?_) (fun h1=>?_)
 ·try simp only[RL]at h1
  refine W.r fun K hK=>?_
  simp(disch:=omega)only[↓RU,RV,RH,↓reduceIte,qE,reduceCtorEq,if_pos,↓RS,RG,qA,qM,qL]
  apply hK;clear hK K
  refine W.ret ?_
  refine XThen.ret ?_
  refine Br rfl ?_
  have hok:okS g=false:=by unfold okS okG; rw [hw0,h1]; simp
  rw [zcg,hok]
  rfl
 try simp only[RL]at h1
 have hg:GW g g.length row.length:=by have:=zlz (g:=g); rw [hw0]at this; refine this.1 ?_; unfold okG; rw [hw0,h1]; simp; omega
 obtain ⟨hso,hsl,hs1⟩:=zgb (g:=g) (nw:=row.length) (by omega) (by omega) g.length (by omega)
 have hne:=hso.ne (hs1 (by omega))
 refine W.skip ?_
 refine xn ?_
 refine W.r fun K hK=>?_
 simp(disch:=omega)only[↓RU,RV,RH,↓reduceIte,qE,reduceCtorEq,if_pos,↓RS,RG,qA,qM,qL,ty1,ty5,zab,zce,zc9,zb0,zct,zaa,zda,zcu]
 apply hK;clear hK K
 refine W.r fun K hK=>?_
 simp(disch:=omega)only[↓RU,RV,RH,↓reduceIte,qE,reduceCtorEq,if_pos,↓RS,RG,qA,qM,qL,zaa,yaj]
 apply hK;clear hK K
 refine W.seq_pk 6 [some 42] [3] (by decide) (by kernel_rfl) fun K hK=>?_
 simp only[List.take_succ_cons,List.take_zero,List.drop_succ_cons,List.drop_zero]
 refine zch (.ref 2 2 0) rfl rfl rfl (fun S' hS=>?_) ?_
 ·skip
  have k3:=(hS 3 (by decide)).trans (show _=some _ from rfl)
  simp(disch:=omega)only[↓RU,RV,RH,↓reduceIte,qE,reduceCtorEq,if_pos,qN,↓RS,RG,qA,qM,qL,ty1,ty5,zab,zce,zc9,zb0,zct,zaa,zda,zcu,ze3,zg6,zl3,zl4,k3]
 refine zb5 rfl ?_
 simp(disch:=omega)only[↓RU,RV,RH,↓reduceIte,qE,reduceCtorEq,if_pos,qN,↓RS,RG,qA,qM,qL,ty1,ty5,zab,zce,zc9,zb0,zct,zaa,zda,zcu,za7,zbf]
 refine zb5 rfl ?_
 simp(disch:=omega)only[↓RU,RV,RH,↓reduceIte,qE,reduceCtorEq,if_pos,qN,↓RS,RG,qA,qM,qL,ty1,ty5,zab,zce,zc9,zb0,zct,zaa,zda,zcu,za7,zbf]
 refine zb5 rfl ?_
 simp(disch:=omega)only[↓RU,RV,RH,↓reduceIte,qE,reduceCtorEq,if_pos,qN,↓RS,RG,qA,qM,qL,ty1,ty5,zab,zce,zc9,zb0,zct,zaa,zda,zcu,za7,zbf]
 refine zb5 rfl ?_
 simp(disch:=omega)only[↓RU,RV,RH,↓reduceIte,qE,reduceCtorEq,if_pos,qN,↓RS,RG,qA,qM,qL,ty1,ty5,zab,zce,zc9,zb0,zct,zaa,zda,zcu,za7,zbf]
 refine zb5 rfl ?_
 simp(disch:=omega)only[↓RU,RV,RH,↓reduceIte,qE,reduceCtorEq,if_pos,qN,↓RS,RG,qA,qM,qL,ty1,ty5,zab,zce,zc9,zb0,zct,zaa,zda,zcu,za7,zbf]
 refine zac.ev (z63 hg) ?_
 rintro _ _ ⟨xv,vq,t,rfl,rfl⟩
 rw [z5q hne]
 simp only[prS]
 simp(disch:=omega)only[↓RU,RV,RH,↓reduceIte,qE,reduceCtorEq,if_pos,qN,↓RS,RG,qA,qM,qL,ty1,ty5,zab,zce,zc9,zb0,zct,zaa,zda,zcu,za7,zbf]
 refine zke ?_
 simp(disch:=omega)only[↓RU,RV,RH,↓reduceIte,qE,reduceCtorEq,if_pos,qN,↓RS,RG,qA,qM,qL,ty1,ty5,zab,zce,zc9,zb0,zct,zaa,zda,zcu]
 apply hK;clear hK K
 refine W.seq ?_
 refine W.r fun K hK=>?_
 simp(disch:=omega)only[↓RU,RV,RH,↓reduceIte,qE,reduceCtorEq,if_pos,w64,↓RS,RG,qA,qM,qL,ty1,ty5,zab,zce,zc9,zb0,zct,zaa,zda,zcu]
 apply hK;clear hK K
 refine W.cond rfl (fun h2=>?_) (fun h2=>?_)
 ·try simp only[RL]at h2
  refine W.r fun K hK=>?_
  simp(disch:=omega)only[↓RU,RV,RH,↓reduceIte,qE,reduceCtorEq,if_pos,↓RS,RG,qA,qM,qL]
  apply hK;clear hK K
  refine W.ret ?_
  refine XThen.ret ?_
  refine Br rfl ?_
  have hok:okS g=false:=by unfold okS stG; rw [hw0]; simp only[Bool.and_eq_false_iff]; right; exact decide_eq_false (by omega)
  rw [zcg,hok]
  rfl
 try simp only[RL]at h2
 refine W.skip ?_
 refine xn ?_
 refine W.r fun K hK=>?_
 simp(disch:=omega)only[↓RU,RV,RH,↓reduceIte,qE,reduceCtorEq,if_pos,↓RS,RG,qA,qM,qL]
 apply hK;clear hK K
 refine W.seq ?_
 refine W.r fun K hK=>?_
 simp(disch:=omega)only[↓RU,RV,RH,↓reduceIte,qE,reduceCtorEq,if_pos,↓RS,RG,qA,qM,qL,ty1,ty5,zab,zce,zc9,zb0,zct,zaa,zda,zcu]
 apply hK;clear hK K
 refine W.block ?_
 refine W.loop [5,7,59,60,61] (fun n vs S=>∃ k t:Nat,n=(zaj g row.length g.length).2.length - k∧k≤(zaj g row.length g.length).2.length∧vs=[.ref 3 3 0,.int .i64 (z18 ((zaj g row.length g.length).2.take k)),.loc 7 vq 0 (zaj g row.length g.length).2.length,.int .i64 (zaj g row.length g.length).2.length,.int .i64 (k:Nat)]∧S=⟨[.arr 0 72 1 [zdl g],.arr 1 3 1 [.int .i64 row.length],.arr 2 75 2 [.loc 6 xv 0 g.length,.loc 7 vq 0 (zaj g row.length g.length).2.length],.arr 3 43 1 [.ref 2 2 0],.map 4 (mE (zaj g row.length g.length).1),.arr 5 143 1 [.mp 4 4],.arr xv 31 1 ((zd2 g row.length g.length).map eInts),.arr vq 79 4 (rcs (zaj g row.length g.length).2)],t⟩) (zaj g row.length g.length).2.length ?_ ?_
 ·refine ⟨8,0,t,rfl,Nat.zero_le _,?_,?_⟩
  ·simp [Env.put,Env.of,zaf,z18]
  simp [zde]
 rintro n vs S - ⟨k,t,rfl,h_k,rfl,rfl⟩
 refine W.r fun K hK=>?_
 simp(disch:=omega)only[↓RU,RV,RH,↓reduceIte,qE,reduceCtorEq,if_pos,w64,↓RS,RG,qA,qM,qL,zaa]
 apply hK;clear hK K
 refine W.seq ?_
 refine W.cond rfl (fun h3=>?_) (fun h3=>?_)
 ·try simp only[RL]at h3
  obtain ⟨b,hb2,hbm⟩:=zai (show k<(zaj g row.length g.length).2.length by omega)
  have hbf:=hso.2 b hbm
  have hba:=hbf.area
  have hsb:=zrd hso.2 k
  refine W.skip ?_
  refine xn ?_
  refine W.seq ?_
  refine W.block ?_
  refine W.r fun K hK=>?_
  simp(disch:=omega)only[↓RU,RV,RH,↓reduceIte,qE,reduceCtorEq,if_pos,↓RS,RG,qA,qM,qL,ty5,zct,zaa,zcu,zk5 hb2,zbt,zaz,za6]
  apply hK;clear hK K
  refine W.k fun K hK=>?_
  simp(disch:=omega)only[↓RU,RV,RH,↓reduceIte,qE,reduceCtorEq,if_pos,qN,w64,↓RS,RG,qA,qM,qL,zct,zaa,zcu,zk5 hb2,zaz,zbt]
  refine zac.pc (yas (r:=b) (by omega) (by omega)) rfl (.inl rfl) ?_
  simp(disch:=omega)only[↓RU,RV,RH,↓reduceIte,qE,reduceCtorEq,if_pos,qN,w64,↓RS,RG,qA,qM,qL,zct,zaa,zcu,zk5 hb2,zaz,zbt]
  apply hK;clear hK K
  refine XbN ?_
  refine xn ?_
  refine W.k fun K hK=>?_
  simp(disch:=omega)only[↓RU,RV,RH,↓reduceIte,qE,reduceCtorEq,if_pos,w64,↓RS,RG,qA,qM,qL,zaa]
  apply hK;clear hK K
  refine xn ?_
  refine ⟨(zaj g row.length g.length).2.length - (k+1),by omega,8,k+1,_,rfl,by omega,?_,rfl⟩
  simp [Env.put,Env.of,zpk hb2]
 try simp only[RL]at h3
 obtain rfl:k=(zaj g row.length g.length).2.length:=by omega
 rw [List.take_length]
 refine W.exit ?_
 refine xe ?_
 refine xe ?_
 refine XBlock.hit ?_
 refine xn ?_
 refine W.seq_draw (by kernel_rfl) fun K hK=>?_
 obtain ⟨zr,hzr,hzl,-⟩:=(yfb hg).at_ (i:=0) (j:=0) (by omega) (by omega)
 have hZl:=zcd (g:=g) (nw:=row.length) g.length
 have hpr:=Nat.mul_le_mul hgl.2 hb.2
 simp(disch:=omega)only[↓RU,RV,RH,↓reduceIte,qE,reduceCtorEq,if_pos,qN,w64,↓RS,RG,qA,qM,qL,zce,zaa,hZl,hzl]
 refine zac.pc (zd8 (zd2 g row.length g.length) (zaj g row.length g.length).2) (zgs (zjw (f:=6) rfl rfl (zcd _) rfl) rfl) (.inl rfl) ?_
 simp(disch:=omega)only[↓RU,RV,RH,↓reduceIte,qE,reduceCtorEq,if_pos,qN,w64,↓RS,RG,qA,qM,qL,zce,zaa,hZl,hzl]
 refine zac.pc (zem (g:=(zd2 g row.length g.length)) hzr (zaj g row.length g.length).2) (zgs (zjw (f:=6) rfl rfl (zcd _) rfl) rfl) (.inl rfl) ?_
 simp(disch:=omega)only[↓RU,RV,RH,↓reduceIte,qE,reduceCtorEq,if_pos,qN,w64,↓RS,RG,qA,qM,qL,zce,zaa,hZl,hzl]
 apply hK;clear hK K
 refine W.ret ?_
 refine Br rfl ?_
 have hok:okS g=true:=by unfold okS stG; rw [hw0,zlz.2 (by rw [hw0]; exact hg)]; simp; omega
 rw [zcg,hok,if_pos rfl]
 unfold stG zG zhu stG
 rw [hw0]
 refine zl6 (k:=9) (zjw (f:=5) rfl rfl (zcd _) rfl) ?_
 have he:(z18 (zaj g row.length g.length).2 == (g.length:Int)*row.length)=decide (z18 (zaj g row.length g.length).2=((g.length*row.length:Nat):Int)):=by rw [Int.natCast_mul]; rfl
 rw [← he]
 rfl
def zs1 (t:Txt):List Int:=t.map fun c=>(c.toNat:Int)
def zbg (p:List Txt):List (List Int):=p.map zs1
def zgr (p:List Txt):Bool:=p.all fun r=>r.all zey
def zsj (p:List Txt):PV:=if zgr p then zcg (zbg p) else .tup [.nilp,.bool false]
def okB (p:List Txt):Bool:=zgr p && okS (zbg p)
def gP (p:List Txt):List (List Int):=zG (zbg p)
def rP (p:List Txt):List Rect:=(stG (zbg p)).2
theorem zi4 (t:Txt):(zs1 t).length=t.length:=by simp [zs1]
theorem z5n {t:Txt} {k:Nat} {c:UInt8} (h:t[k]?=some c):zs1 (t.take (k+1))=zs1 (t.take k)++[(c.toNat:Int)]:=by simp [zs1,tk h]
theorem z1p {p:List Txt} {i:Nat} {t:Txt} (h:p[i]?=some t):zbg (p.take (i+1))=zbg (p.take i)++[zs1 t]:=by simp [zbg,tk h]
theorem zcy (p:List Txt):(zbg p).length=p.length:=by simp [zbg]
theorem zop {p:List Txt} {r:Txt} {c:UInt8} (hr:r∈p) (hc:c∈r) (h:zey c=false):zgr p=false:=by
 unfold zgr
 rw [List.all_eq_false]
 refine ⟨r,hr,?_⟩
 rw [Bool.not_eq_true,List.all_eq_false]
 exact ⟨c,hc,by rw [h]; exact Bool.false_ne_true⟩
theorem zrh {g:List (List Int)} {i:Nat} (hi:i<6) {s:List Int × List Rect} (hs:zpv s.1 s.2) {n:Nat} (hn:n≤6):∀ j,j≤n→∀ z∈zmf g i s j,0≤z∧z≤s.1.length+n
 | 0,_,z,h=>by simp [zmf]at h
 | j+1,hj,z,h=>by
  simp only[zmf,List.mem_append,List.mem_singleton]at h
  rcases h with h | rfl
  ·exact zrh hi hs hn j (by omega) z h
  have h1:=zgp (ks:=(zcz g i s j).1) (z:=gz g i j)
  obtain ⟨-,h2,-,-⟩:=zld (g:=g) hi hs j (by omega)
  omega
theorem zj7 {g:List (List Int)} {nw:Nat} (hw:nw≤6) (hw1:1≤nw):∀ i,i≤6→∀ r∈zd2 g nw i,∀ z∈r,0≤z∧z≤100
 | 0,_,r,h=>by simp [zd2]at h
 | i+1,hi,r,h=>by
  simp only[zd2,List.mem_append,List.mem_singleton]at h
  rcases h with h | rfl
  ·exact zj7 hw hw1 i (by omega) r h
  intro z hz
  obtain ⟨h1,h2,-⟩:=zgb (g:=g) hw hw1 i (by omega)
  have:=zrh (g:=g) (i:=i) (by omega) h1 hw nw (qR _) z hz
  omega
theorem z4q {g:List (List Int)} (h:okS g=true):GW g g.length (w0 g):=by
 unfold okS at h
 rw [qB]at h
 exact zlz.1 h.1
theorem yf8 {g:List (List Int)} (h:okS g=true):GW (zG g) g.length (w0 g):=yfb (z4q h)
theorem z9c {g:List (List Int)} (h:okS g=true):∀ r∈zG g,∀ z∈r,0≤z∧z≤100:=by
 obtain ⟨-,-,h1,h2,h3,h4⟩:=z4q h
 exact zj7 h4 h3 _ h2
theorem zj2 {g:List (List Int)} (h:okS g=false):zcg g = .tup [.nilp,.bool false]:=by rw [zcg,h]; rfl
theorem zim {g:List (List Int)} (h:okS g=true):zcg g = .tup [zat (zG g) (stG g).2,.bool (zhu g)]:=by rw [zcg,h]; rfl
theorem z1v {S:Store} {lo k:Nat} (l:List (List Int)):(l.map eInts).mapM (rfz S lo (k+1))=some (l.map eInts):=zxb (fun _=>rfl) l
theorem z8k {p:List Txt} (h:okB p=false):zsj p = .tup [.nilp,.bool false]:=by
 unfold okB at h
 unfold zsj
 cases hl:zgr p with
 | false=>rfl
 | true=>rw [hl,Bool.true_and]at h; rw [if_pos rfl,zj2 h]
theorem z5a {p:List Txt} (h:okB p=true):zsj p = .tup [zat (gP p) (rP p),.bool (zhu (zbg p))]:=by
 unfold okB at h
 rw [qB]at h
 rw [zsj,if_pos h.1,zim h.2]
 rfl
theorem zy6 {p:List Txt} (h:okB p=true):GW (gP p) p.length (w0 (zbg p)):=by
 unfold okB at h
 rw [qB]at h
 have:=yf8 h.2
 rwa [zcy]at this
theorem z4p {p:List Txt} (h:okB p=true):∀ r∈gP p,∀ z∈r,0≤z∧z≤100:=by
 unfold okB at h
 rw [qB]at h
 exact z9c h.2
theorem zvz (g:List (List Int)):(zfa g).length=g.length:=by simp [zfa]
def zms (p:List Txt):Bool:=zhu (zbg p) && decide (zfa (gP p)=p)
def zf1 (p:List Txt):Bool:=okB p && zms p
def zcw (p:List Txt):Bool:=zf1 p && decide (zsd (gP p) 4 (w0 (zbg p)) p.length=0)
theorem zkt {p:List Txt} (h:okB p=true):(rP p).length≤9:=by
 unfold okB okS at h
 simp only[qB,decide_eq_true_eq]at h
 exact h.2.2
theorem zly {p:List Txt} (h:okB p=true):1≤(rP p).length:=by
 unfold okB at h
 rw [qB]at h
 obtain ⟨-,-,h1,h2,h3,h4⟩:=z4q h.2
 obtain ⟨k1,-,k3⟩:=zgb (g:=zbg p) h4 h3 _ h2
 have:=k1.1
 have:=k3 h1
 unfold rP stG
 omega
theorem z12 {g:List (List Int)} (hsm:g.length<2147483648) (hsr:∀ r∈g,r.length<2147483648) (h:okS g=false):PC Tryz.prog 56 [zdl g] (.tup [.nilp,.bool false]) false:=by
 rw [← zj2 h]; exact ze5 hsm hsr
theorem zxj {g:List (List Int)} (hsm:g.length<2147483648) (hsr:∀ r∈g,r.length<2147483648) (h:okS g=true):PC Tryz.prog 56 [zdl g] (.tup [zat (zG g) (stG g).2,.bool (zhu g)]) false:=by
 rw [← zim h]; exact ze5 hsm hsr
theorem z5b {p:List Txt} (hs:Sm p):PC Tryz.prog 117 [zep p] (zsj p) false:=by
 have hp:=hs.rows
 refine PC.of ⟨Tryz.func117,by kernel_rfl,rfl,by kernel_rfl⟩ zao mixed (by show 1≤Tryz.f117.ntmps; decide) ?_
 refine W.r fun K hK=>?_
 simp(disch:=omega)only[↓RU,RV,RH,↓reduceIte,qE,reduceCtorEq,if_pos,↓RS,RG,qA,qM,qL]
 apply hK;clear hK K
 refine W.r fun K hK=>?_
 simp(disch:=omega)only[↓RU,RV,RH,↓reduceIte,qE,reduceCtorEq,if_pos,↓RS,RG,qA,qM,qL,ty1,zab,zb0,zaa]
 apply hK;clear hK K
 refine W.joinZ [4] (fun vs S=>∃ tk:Nat,zgr p=true∧vs=[zdl (zbg p)]∧S=⟨[],tk⟩) ?_ ?_
 ·
  refine W.r fun K hK=>?_
  simp(disch:=omega)only[↓RU,RV,RH,↓reduceIte,qE,reduceCtorEq,if_pos,↓RS,RG,qA,qM,qL,ty8,zae]
  apply hK;clear hK K
  refine W.block ?_
  refine W.loopZ [4,11,12,13] (fun n vs S=>∃ i v0 tk:Nat,n=p.length - i∧i≤p.length∧((p.take i).all (fun r=>r.all zey)=true)∧vs=[.loc 0 v0 0 i,zep p,.int .i64 p.length,.int .i64 i]∧S=⟨[.arr v0 31 1 ((zbg (p.take i)).map eInts)],tk⟩) (p.length) ?_ ?_
  ·refine ⟨1,[.loc 0 0 0 0,zep p,.int .i64 p.length,.int .i64 0],⟨[.arr 0 31 1 ((zbg (p.take 0)).map eInts)],1⟩,?_,?_,0,0,1,rfl,by omega,rfl,rfl,rfl⟩
   ·rfl
   rfl
  rintro n vs S - ⟨i,v0,tk,rfl,h_i,hall,rfl,rfl⟩
  refine W.r fun K hK=>?_
  simp(disch:=omega)only[↓RU,RV,RH,↓reduceIte,qE,reduceCtorEq,if_pos,w64,↓RS,RG,qA,qM,qL,zaa]
  apply hK;clear hK K
  refine W.seq ?_
  refine W.cond rfl (fun h=>?_) (fun h=>?_)
  ·try simp only[RL]at h
   obtain ⟨row,hrow,hrm⟩:=zai (show i<p.length by omega)
   have hrl:=hs.cols row hrm
   have hgk:(zbg (p.take i)).length=i:=by rw [zcy,List.length_take]; omega
   have hgt:((zbg (p.take i)).map eInts).take i=(zbg (p.take i)).map eInts:=qT (by rw [List.length_map]; omega)
   refine W.skip ?_
   refine xn ?_
   refine W.seq ?_
   refine W.block ?_
   refine W.r fun K hK=>?_
   simp(disch:=omega)only[↓RU,RV,RH,↓reduceIte,qE,reduceCtorEq,if_pos,↓RS,RG,qA,qM,qL,ty8,zae,hrow]
   apply hK;clear hK K
   refine W.r fun K hK=>?_
   simp(disch:=omega)only[↓RU,RV,RH,↓reduceIte,qE,reduceCtorEq,if_pos,↓RS,RG,qA,qM,qL,zab,zaa]
   apply hK;clear hK K
   refine W.seq ?_
   refine W.r fun K hK=>?_
   simp(disch:=omega)only[↓RU,RV,RH,↓reduceIte,qE,reduceCtorEq,if_pos,w64,↓RS,RG,qA,qM,qL,ty9,zae,zaw]
   apply hK;clear hK K
   refine W.block ?_
   refine W.loop [4,11,12,13,7,19,20,21] (fun n vs S=>∃ k v1 t:Nat,n=row.length - k∧k≤row.length∧((row.take k).all zey=true)∧vs=[.loc 0 v0 0 i,zep p,.int .i64 p.length,.int .i64 i,.loc 1 v1 0 k,.sl (row.map eB) row.length,.int .i64 row.length,.int .i64 k]∧S=⟨[.arr v0 31 1 ((zbg (p.take i)).map eInts),.arr v1 3 1 ((zs1 (row.take k)).map (.int .i64))],t⟩) (row.length) ?_ ?_
   ·refine ⟨2,0,_,_,rfl,Nat.zero_le _,rfl,?_,rfl⟩
    simp [Env.put,Env.of]
   rintro n vs S - ⟨k,v1,t,rfl,h_k,hrk,rfl,rfl⟩
   refine W.r fun K hK=>?_
   simp(disch:=omega)only[↓RU,RV,RH,↓reduceIte,qE,reduceCtorEq,if_pos,w64,↓RS,RG,qA,qM,qL,zaa]
   apply hK;clear hK K
   refine W.seq ?_
   refine W.cond rfl (fun h1=>?_) (fun h1=>?_)
   ·try simp only[RL]at h1
    obtain ⟨c,hc,hcm⟩:=zai (show k<row.length by omega)
    have hcb:=c.toNat_lt
    have hrowk:(zs1 (row.take k)).length=k:=by rw [zi4,List.length_take]; omega
    have hrowt:((zs1 (row.take k)).map (PV.int .i64)).take k=(zs1 (row.take k)).map (PV.int .i64):=qT (by rw [List.length_map]; omega)
    refine W.skip ?_
    refine xn ?_
    refine W.seq ?_
    refine W.block ?_
    refine W.r fun K hK=>?_
    simp(disch:=omega)only[↓RU,RV,RH,↓reduceIte,qE,reduceCtorEq,if_pos,↓RS,RG,qA,qM,qL,ty9,zaw,hc]
    apply hK;clear hK K
    refine W.seq ?_
    refine W.r fun K hK=>?_
    rcases (show (c.toNat:Int)<97∨(c.toNat:Int)>122∨(97≤c.toNat∧c.toNat≤122) by omega) with hb | hb | hb
    ·skip
     have hd:decide ((c.toNat:Int)<97)=true:=decide_eq_true hb
     have hlc:zey c=false:=by unfold zey; rw [decide_eq_false (by omega)]; rfl
     simp(disch:=omega)only[↓RU,RV,RH,↓reduceIte,qE,reduceCtorEq,if_pos,w64,↓RS,RG,qA,qM,qL,zaw,hd]
     apply hK;clear hK K
     refine W.cond rfl (fun h2=>?_) (fun h2=>?_)
     ·try simp only[RL]at h2
      refine W.r fun K hK=>?_
      simp(disch:=omega)only[↓RU,RV,RH,↓reduceIte,qE,reduceCtorEq,if_pos,↓RS,RG,qA,qM,qL]
      apply hK;clear hK K
      refine W.ret ?_
      refine XThen.ret ?_
      refine XBlock.ret ?_
      refine XThen.ret ?_
      refine XThen.ret ?_
      refine XBlock.ret ?_
      refine XThen.ret ?_
      refine XBlock.ret ?_
      refine XThen.ret ?_
      refine XThen.ret ?_
      refine XBlock.ret ?_
      refine XThen.ret ?_
      refine Br rfl ?_
      rw [zsj,zop hrm hcm hlc]
      rfl
     try simp only[RL]at h2
     exact absurd h2 (by simp)
    ·skip
     have hd:decide ((c.toNat:Int)<97)=false:=decide_eq_false (by omega)
     have hd2:decide ((c.toNat:Int)>122)=true:=decide_eq_true hb
     have hlc:zey c=false:=by unfold zey; rw [decide_eq_false (p:=c.toNat≤122) (by omega),Bool.and_false]
     simp(disch:=omega)only[↓RU,RV,RH,↓reduceIte,qE,reduceCtorEq,if_pos,w64,↓RS,RG,qA,qM,qL,zaw,hd,hd2]
     apply hK;clear hK K
     refine W.cond rfl (fun h2=>?_) (fun h2=>?_)
     ·try simp only[RL]at h2
      refine W.r fun K hK=>?_
      simp(disch:=omega)only[↓RU,RV,RH,↓reduceIte,qE,reduceCtorEq,if_pos,↓RS,RG,qA,qM,qL]
      apply hK;clear hK K
      refine W.ret ?_
      refine XThen.ret ?_
      refine XBlock.ret ?_
      refine XThen.ret ?_
      refine XThen.ret ?_
      refine XBlock.ret ?_
      refine XThen.ret ?_
      refine XBlock.ret ?_
      refine XThen.ret ?_
      refine XThen.ret ?_
      refine XBlock.ret ?_
      refine XThen.ret ?_
      refine Br rfl ?_
      rw [zsj,zop hrm hcm hlc]
      rfl
     try simp only[RL]at h2
     exact absurd h2 (by simp)
    skip
    have hd:decide ((c.toNat:Int)<97)=false:=decide_eq_false (by omega)
    have hd2:decide ((c.toNat:Int)>122)=false:=decide_eq_false (by omega)
    have hlc:zey c=true:=by unfold zey; rw [decide_eq_true hb.1,decide_eq_true hb.2]; rfl
    simp(disch:=omega)only[↓RU,RV,RH,↓reduceIte,qE,reduceCtorEq,if_pos,w64,↓RS,RG,qA,qM,qL,zaw,hd,hd2]
    apply hK;clear hK K
    refine W.cond rfl (fun h2=>?_) (fun h2=>?_)
    ·try simp only[RL]at h2
     exact absurd h2 (by simp)
    try simp only[RL]at h2
    refine W.skip ?_
    refine xn ?_
    refine W.k fun K hK=>?_
    simp(disch:=omega)only[↓RU,RV,RH,↓reduceIte,qE,reduceCtorEq,if_pos,w64,↓RS,RG,qA,qM,qL,zab,zaa,zaw,hrowk,hrowt,qR]
    apply hK;clear hK K
    refine XbN ?_
    refine xn ?_
    refine W.k fun K hK=>?_
    simp(disch:=omega)only[↓RU,RV,RH,↓reduceIte,qE,reduceCtorEq,if_pos,w64,↓RS,RG,qA,qM,qL,zaa]
    apply hK;clear hK K
    refine xn ?_
    refine ⟨row.length - (k+1),by omega,2,k+1,t+1,t+2,rfl,by omega,z9j hc hrk hlc,?_,?_⟩
    ·simp [Env.put,Env.of]
    simp [zde,z5n hc]
   try simp only[RL]at h1
   obtain rfl:k=row.length:=by omega
   have hra:row.all zey=true:=by rw [List.take_length]at hrk; exact hrk
   have hrz:=zi4 row
   rw [List.take_length]
   generalize hYe:zs1 row=Y at hrz
   have hYt:(Y.map (PV.int .i64)).take row.length=Y.map (PV.int .i64):=qT (by rw [List.length_map]; omega)
   have hYE:eInts Y=PV.sl (Y.map (PV.int .i64)) row.length:=by rw [← hrz]
   refine W.exit ?_
   refine xe ?_
   refine xe ?_
   refine XBlock.hit ?_
   refine xn ?_
   refine W.k fun K hK=>?_
   simp(disch:=omega)only[↓RU,RV,RH,↓reduceIte,qE,reduceCtorEq,if_pos,↓RS,RG,qA,qM,qL,ty1,zab,zb0,zaa,hgk,hgt,qR]
   apply hK;clear hK K
   refine XbN ?_
   refine xn ?_
   refine W.k fun K hK=>?_
   simp(disch:=omega)only[↓RU,RV,RH,↓reduceIte,qE,reduceCtorEq,if_pos,w64,↓RS,RG,qA,qM,qL,zaa]
   apply hK;clear hK K
   refine xn ?_
   refine ⟨p.length - (i+1),by omega,1,[.loc 0 (t+1) 0 (i+1),zep p,.int .i64 p.length,.int .i64 (i+1)],⟨[.arr (t+1) 31 1 ((zbg (p.take (i+1))).map eInts)],(t+2)⟩,?_,?_,(i+1),(t+1),(t+2),rfl,by omega,z9j hrow hall hra,rfl,rfl⟩
   ·simp [-qU,Store.frz,zgn,zff,zf3,zh4,zc4,zjl,zoe,zhd,zgv,zhf,zf2,zf7,zjy,zhl,zh5,zhc,Env.put,Env.of,zaf,zdd,qP,qC]
   simp [-qU,Store.frz,zgn,zff,zf3,zh4,zc4,zjl,zoe,zhd,zgv,zhf,zf2,zf7,zjy,zhl,zh5,zhc,Env.put,Env.of,zaf,zdd,qP,qC,z1p hrow,hYe,hYt,hYE,hrz]
  try simp only[RL]at h
  refine W.exit ?_
  refine xe ?_
  refine xe ?_
  refine XBlock.hit ?_
  refine xn ?_
  obtain rfl:i=p.length:=by omega
  rw [List.take_length]at hall ⊢
  have hgt2:((zbg p).map eInts).take p.length=(zbg p).map eInts:=qT (by simp [zbg])
  have hgE:zdl (zbg p)=PV.sl ((zbg p).map eInts) p.length:=by rw [← zcy p]
  refine ⟨0,[zdl (zbg p)],⟨[],tk⟩,?_,?_,tk,hall,rfl,rfl⟩
  ·simp [-qU,Store.frz,zgn,zff,zf3,zh4,zc4,zjl,zoe,zhd,zgv,zhf,zf2,zf7,zjy,zhl,zh5,zhc,Env.put,Env.of,zaf,zdd,qP,qC,hgt2,hgE,zcy,z1v]
  simp [-qU,Store.frz,zgn,zff,zf3,zh4,zc4,zjl,zoe,zhd,zgv,zhf,zf2,zf7,zjy,zhl,zh5,zhc,Env.put,Env.of,zaf,zdd,qP,qC]
 rintro vs S - ⟨tk,hlet,rfl,rfl⟩
 refine W.r fun K hK=>?_
 cases hok:okS (zbg p)
 ·skip
  simp(disch:=omega)only[↓RU,RV,RH,↓reduceIte,qE,reduceCtorEq,if_pos,qN,↓RS,RG,qA,qM,qL]
  refine zac.pc (z12 (g:=zbg p) (by rw [zcy]; omega) (fun r hr=>by obtain ⟨t,ht,rfl⟩:=List.mem_map.1 hr; rw [zi4]; exact hs.cols t ht) hok) rfl (.inr rfl) ?_
  simp(disch:=omega)only[↓RU,RV,RH,↓reduceIte,qE,reduceCtorEq,if_pos,qN,↓RS,RG,qA,qM,qL]
  apply hK;clear hK K
  refine W.ret ?_
  refine Br rfl ?_
  rw [zsj,hlet,if_pos rfl,zj2 hok]
  rfl
 skip
 simp(disch:=omega)only[↓RU,RV,RH,↓reduceIte,qE,reduceCtorEq,if_pos,qN,↓RS,RG,qA,qM,qL]
 refine zac.pc (zxj (g:=zbg p) (by rw [zcy]; omega) (fun r hr=>by obtain ⟨t,ht,rfl⟩:=List.mem_map.1 hr; rw [zi4]; exact hs.cols t ht) hok) rfl (.inr rfl) ?_
 simp(disch:=omega)only[↓RU,RV,RH,↓reduceIte,qE,reduceCtorEq,if_pos,qN,↓RS,RG,qA,qM,qL]
 apply hK;clear hK K
 refine W.ret ?_
 refine Br rfl ?_
 rw [zsj,hlet,if_pos rfl,zim hok]
 rfl
theorem ycd {p:List Txt} (hs:Sm p) (h:okB p=false):PC Tryz.prog 117 [zep p] (.tup [.nilp,.bool false]) false:=by
 rw [← z8k h]; exact z5b hs
theorem z8l {p:List Txt} (hs:Sm p) (h:okB p=true):PC Tryz.prog 117 [zep p] (.tup [zat (gP p) (rP p),.bool (zhu (zbg p))]) false:=by
 rw [← z5a h]; exact z5b hs
theorem z0w {p:List Txt} (hs:Sm p) (h:okB p=false):PC Tryz.prog 70 [zep p] (.tup [.nilp,.bool false]) false:=by
 refine PC.of ⟨Tryz.func70,by kernel_rfl,rfl,by kernel_rfl⟩ zao mixed (by show 1≤Tryz.f70.ntmps; decide) ?_
 refine W.r fun K hK=>?_
 simp(disch:=omega)only[↓RU,RV,RH,↓reduceIte,qE,reduceCtorEq,if_pos]
 apply hK;clear hK K
 refine W.r fun K hK=>?_
 simp(disch:=omega)only[↓RU,RV,RH,↓reduceIte,qE,reduceCtorEq,if_pos,qN]
 refine zac.pc (ycd hs h) rfl (.inr rfl) ?_
 simp(disch:=omega)only[↓RU,RV,RH,↓reduceIte,qE,reduceCtorEq,if_pos,qN]
 apply hK;clear hK K
 refine W.r fun K hK=>?_
 simp(disch:=omega)only[↓RU,RV,RH,↓reduceIte,qE,reduceCtorEq,if_pos,qN]
 apply hK;clear hK K
 refine W.ret ?_
 refine Br rfl ?_
 rfl
theorem zws {p:List Txt} (hs:Sm p) (h:okB p=true):PC Tryz.prog 70 [zep p] (.tup [zat (gP p) (rP p),.bool (zms p)]) false:=by
 have hg:=zy6 h
 have hz:=z4p h
 have hrows:=hs.rows
 refine PC.of ⟨Tryz.func70,by kernel_rfl,rfl,by kernel_rfl⟩ zao mixed (by show 1≤Tryz.f70.ntmps; decide) ?_
 refine W.r fun K hK=>?_
 simp(disch:=omega)only[↓RU,RV,RH,↓reduceIte,qE,reduceCtorEq,if_pos]
 apply hK;clear hK K
 refine W.r fun K hK=>?_
 simp(disch:=omega)only[↓RU,RV,RH,↓reduceIte,qE,reduceCtorEq,if_pos,qN]
 refine zac.pc (z8l hs h) rfl (.inr rfl) ?_
 simp(disch:=omega)only[↓RU,RV,RH,↓reduceIte,qE,reduceCtorEq,if_pos,qN]
 apply hK;clear hK K
 refine W.r fun K hK=>?_
 cases hf:zhu (zbg p)
 ·skip
  simp(disch:=omega)only[↓RU,RV,RH,↓reduceIte,qE,reduceCtorEq,if_pos,qN]
  apply hK;clear hK K
  refine W.ret ?_
  refine Br rfl ?_
  rw [zms,hf]
  rfl
 skip
 simp(disch:=omega)only[↓RU,RV,RH,↓reduceIte,qE,reduceCtorEq,if_pos,qN,hf]
 refine zac.pc (z58 hg (rP p) hz) rfl (.inl rfl) ?_
 simp(disch:=omega)only[↓RU,RV,RH,↓reduceIte,qE,reduceCtorEq,if_pos,qN,hf]
 refine zac.pc (zty (p:=zfa (gP p)) (q:=p) (by rw [zvz,hg.1]; omega) hs.rows) rfl (.inl rfl) ?_
 simp(disch:=omega)only[↓RU,RV,RH,↓reduceIte,qE,reduceCtorEq,if_pos,qN,hf]
 apply hK;clear hK K
 refine W.ret ?_
 refine Br rfl ?_
 rw [zms,hf]
 rfl
theorem z0v {p:List Txt} (hs:Sm p):∃ x,PC Tryz.prog 70 [zep p] (.tup [x,.bool (zf1 p)]) false∧(zf1 p=true→x=zat (gP p) (rP p))∧∀ (S:Store) (k:Nat),reify S true (k+1) x=some x:=by
 unfold zf1
 cases h:okB p with
 | false=>exact ⟨_,z0w hs h,(fun h=>by cases h),fun _ _=>rfl⟩
 | true=>exact ⟨_,zws hs h,fun _=>rfl,fun _ _=>rfl⟩
theorem zw7 {p:List Txt} (hs:Sm p) {x:PV} (hx:PC Tryz.prog 70 [zep p] (.tup [x,.bool (zf1 p)]) false) (hy:zf1 p=true→x=zat (gP p) (rP p)) (hr:∀ (S:Store) (k:Nat),reify S true (k+1) x=some x):PC Tryz.prog 32 [zep p] (.tup [x,.bool (zcw p)]) false:=by
 refine PC.of ⟨Tryz.func32,by kernel_rfl,rfl,by kernel_rfl⟩ zao mixed (by show 1≤Tryz.f32.ntmps; decide) ?_
 refine W.r fun K hK=>?_
 simp(disch:=omega)only[↓RU,RV,RH,↓reduceIte,qE,reduceCtorEq,if_pos]
 apply hK;clear hK K
 refine W.r fun K hK=>?_
 simp(disch:=omega)only[↓RU,RV,RH,↓reduceIte,qE,reduceCtorEq,if_pos,qN]
 refine zac.pc (hx) rfl (.inr rfl) ?_
 simp(disch:=omega)only[↓RU,RV,RH,↓reduceIte,qE,reduceCtorEq,if_pos,qN]
 apply hK;clear hK K
 refine W.r fun K hK=>?_
 cases hf:zf1 p
 ·skip
  simp(disch:=omega)only[↓RU,RV,RH,↓reduceIte,qE,reduceCtorEq,if_pos,qN]
  apply hK;clear hK K
  refine W.ret ?_
  refine Br rfl ?_
  rw [zcw,hf]
  exact zl6 (k:=9) (hr _ 8) rfl
 skip
 have hxe:=hy hf
 subst hxe
 have hok:okB p=true:=by unfold zf1 at hf; rw [qB]at hf; exact hf.1
 have hg:=zy6 hok
 simp(disch:=omega)only[↓RU,RV,RH,↓reduceIte,qE,reduceCtorEq,if_pos,qN,hf]
 refine zac.pc (z3i hg (rP p)) rfl (.inl rfl) ?_
 simp(disch:=omega)only[↓RU,RV,RH,↓reduceIte,qE,reduceCtorEq,if_pos,qN,hf]
 apply hK;clear hK K
 refine W.ret ?_
 refine Br rfl ?_
 rw [zcw,hf]
 rfl
theorem zk1 {p:List Txt} (h:zcw p=true):okB p=true∧zcw p=true:=by
 refine ⟨?_,h⟩
 unfold zcw zf1 at h
 simp only[qB]at h
 exact h.1.1
theorem zq1 {p:List Txt} (hs:Sm p):∃ x,PC Tryz.prog 32 [zep p] (.tup [x,.bool (zcw p)]) false∧(zcw p=true→x=zat (gP p) (rP p))∧∀ (S:Store) (k:Nat),reify S true (k+1) x=some x:=by
 obtain ⟨x,h1,h2,h3⟩:=z0v hs
 refine ⟨x,zw7 hs h1 h2 h3,fun h=>h2 ?_,h3⟩
 unfold zcw at h
 rw [qB]at h
 exact h.1
def Same (n:Nat) (M:List (List Bool)) (ms:List Nat):Prop:=Sq n M∧ms.length=n∧∀ a b,a<n→b<n→zb9 M a b=zrk ms a b
theorem zkm {n:Nat} {M:List (List Bool)} (h:Sq n M) {a b x y:Nat} {v:Bool} (ha:a<n) (hb:b<n):zb9 (z11 M a b v) x y=if x=a∧y=b then v else zb9 M x y:=by
 obtain ⟨row,hr,hl,-⟩:=h.at_ ha hb
 rw [zgd hr]
 unfold zb9
 rw [List.getElem?_set]
 by_cases hx:a=x
 ·subst hx
  rw [if_pos rfl,if_pos (by rw [h.1]; exact ha),Option.getD_some,List.getElem?_set,hr]
  by_cases hy:b=y
  ·subst hy
   rw [if_pos rfl,if_pos (by omega),if_pos ⟨rfl,rfl⟩]; rfl
  rw [if_neg hy,if_neg (fun h=>hy h.2.symm)]; rfl
 rw [if_neg hx,if_neg (fun h=>hx h.1.symm)]
theorem zya {n:Nat} {M:List (List Bool)} (h:Sq n M) {k a:Nat} (hk:k<n) (ha:a<n):∀ i,i≤n→Sq n ((List.range i).foldl (clB k a) M) ∧
  ∀ x y,x<n→y<n→zb9 ((List.range i).foldl (clB k a) M) x y=if x=a∧y<i then zb9 M a y || (zb9 M a k && zb9 M k y) else zb9 M x y
 | 0,_=>⟨h,fun x y _ _=>by simp⟩
 | i+1,hi=>by
  obtain ⟨h1,h2⟩:=zya h hk ha i (by omega)
  rw [zca]
  generalize (List.range i).foldl (clB k a) M=X at h1 h2 ⊢
  refine ⟨h1.clB ha,fun x y hx hy=>?_⟩
  unfold clB
  rw [zkm h1 ha (by omega),h2 a i ha (by omega),h2 a k ha hk,h2 k i hk (by omega),h2 x y hx hy]
  have e1:(if a=a∧k<i then zb9 M a k || (zb9 M a k && zb9 M k k) else zb9 M a k)=zb9 M a k:=by
   split
   ·cases zb9 M a k <;> simp
   rfl
  have e2:(if k=a∧i<i then zb9 M a i || (zb9 M a k && zb9 M k i) else zb9 M k i)=zb9 M k i:=by rw [if_neg (by omega)]
  have e3:(if a=a∧i<i then zb9 M a i || (zb9 M a k && zb9 M k i) else zb9 M a i)=zb9 M a i:=by rw [if_neg (by omega)]
  rw [e1,e2,e3]
  by_cases hxa:x=a
  ·subst hxa
   by_cases hyi:y=i
   ·subst hyi; rw [if_pos ⟨rfl,rfl⟩,if_pos ⟨rfl,by omega⟩]
   rw [if_neg (fun h=>hyi h.2)]
   by_cases hlt:y<i
   ·rw [if_pos ⟨rfl,hlt⟩,if_pos ⟨rfl,by omega⟩]
   rw [if_neg (fun h=>hlt h.2),if_neg (fun h=>hlt (by have:=h.2; omega))]
  rw [if_neg (fun h=>hxa h.1),if_neg (fun h=>hxa h.1),if_neg (fun h=>hxa h.1)]
theorem zs9 {ms:List Nat} {a m x y:Nat} (ha:a<ms.length):zrk (ms.set a m) x y=if x=a then m.testBit y else zrk ms x y:=by
 unfold zrk
 rw [List.getElem?_set]
 by_cases h:a=x
 ·subst h; rw [if_pos rfl,if_pos ha,if_pos rfl]; rfl
 rw [if_neg h,if_neg (Ne.symm h)]
theorem z6t {c a:Nat} {ms:List Nat}:(z9i c ms a).length=ms.length:=by unfold z9i; split <;> simp
theorem Same.clA {n:Nat} {M:List (List Bool)} {ms:List Nat} (h:Same n M ms) {k a:Nat} (hk:k<n) (ha:a<n):Same n (clA n k M a) (z9i k ms a):=by
 obtain ⟨h1,h2,h3⟩:=h
 obtain ⟨k1,k2⟩:=zya h1 hk ha n (qR _)
 refine ⟨k1,by rw [z6t,h2],fun x y hx hy=>?_⟩
 unfold Fw.clA
 rw [k2 x y hx hy]
 obtain ⟨m,hm,-⟩:=zai (show a<ms.length by omega)
 obtain ⟨c,hc,-⟩:=zai (show k<ms.length by omega)
 have hak:zb9 M a k=m.testBit k:=by rw [h3 a k ha hk,znc hm]
 cases hb:m.testBit k with
 | true =>
  rw [z6u hm hc hb,zs9 (by omega),hak,hb]
  by_cases hxa:x=a
  ·subst hxa
   rw [if_pos ⟨rfl,hy⟩,if_pos rfl,Nat.testBit_or,h3 x y hx hy,h3 k y hk hy,znc hm,znc hc,Bool.true_and]
  rw [if_neg (fun h=>hxa h.1),if_neg hxa,h3 x y hx hy]
 | false =>
  rw [yar hm hb,hak,hb]
  by_cases hxa:x=a
  ·subst hxa; rw [if_pos ⟨rfl,hy⟩,Bool.false_and,Bool.or_false,h3 x y hx hy]
  rw [if_neg (fun h=>hxa h.1),h3 x y hx hy]
theorem Same.fold {n:Nat} {f:List (List Bool)→Nat→List (List Bool)} {g:List Nat→Nat→List Nat}:∀ (i:Nat) {M:List (List Bool)} {ms:List Nat},i≤n→(∀ M ms j,j<n→Same n M ms→Same n (f M j) (g ms j))→Same n M ms→Same n ((List.range i).foldl f M) ((List.range i).foldl g ms)
 | 0,_,_,_,_,h=>h
 | i+1,M,ms,hi,hs,h=>by
  rw [zca,zca]
  exact hs _ _ i (by omega) (Same.fold i (by omega) hs h)
theorem Same.close {p:List Txt} {kind:Int} {n:Nat} {M:List (List Bool)} (h:Same n M (just p kind)):Same n (ze8 M) (allS p kind):=by
 unfold ze8 allS
 rw [h.1.1,h.2.1]
 exact Same.fold n (qR _) (fun _ _ k hk h=>Same.fold n (qR _) (fun _ _ a ha h=>h.clA hk ha) h) h
section
theorem zne {α:Type} {f g:α→Bool}:∀ {l:List α},(∀ x∈l,f x=true→g x=true)→(∃ x∈l,g x=true∧f x=false)→l.countP f<l.countP g
 | [],_,h=>by obtain ⟨x,hx,_⟩:=h; simp at hx
 | a::l,h1,h2=>by
  have hle:l.countP f≤l.countP g:=List.countP_mono_left fun x hx=>h1 x (by simp [hx])
  have ha:=h1 a (by simp)
  rw [List.countP_cons,List.countP_cons]
  obtain ⟨x,hx,k1,k2⟩:=h2
  rcases List.mem_cons.1 hx with rfl | hx
  ·rw [k1,k2]; simp; omega
  have:=zne (l:=l) (fun x hx=>h1 x (by simp [hx])) ⟨x,hx,k1,k2⟩
  cases hf:f a with
  | false=>simp; omega
  | true=>rw [ha hf]; simp; omega
def ahead (n:Nat) (rk:Nat→Nat) (b:Nat):Nat:=(List.range n).countP fun a=>decide (rk a<rk b)
theorem zm9 {n:Nat} {rk:Nat→Nat} {a b:Nat} (ha:a<n) (h:rk a<rk b):ahead n rk a<ahead n rk b :=
 zne (fun x _ hx=>by simp at hx ⊢; omega) ⟨a,by simpa using ha,by simpa using h,by simp⟩
theorem z2k {n:Nat} {rk:Nat→Nat} {b:Nat} (hb:b<n):ahead n rk b<n:=by
 have:=zne (l:=List.range n) (f:=fun a=>decide (rk a<rk b)) (g:=fun _=>true) (fun _ _ _=>rfl) ⟨b,by simpa using hb,rfl,by simp⟩
 simpa [ahead] using this
section
variable {M:List (List Bool)} {ms:List Nat} {ws:List Int} {n:Nat} {rk:Nat→Nat}
def beg (M:List (List Bool)) (ws:List Int) (n b:Nat):Int:=hvF M (HB M ws n) b n
def Ge (n:Nat) (o out:List Int):Prop:=∀ b,b<n→zdf o b≤zdf out b
theorem Ge.refl (o:List Int):Ge n o o:=fun _ _=>Int.le_refl _
theorem Ge.trans {a b c:List Int} (h:Ge n a b) (k:Ge n b c):Ge n a c:=fun x hx=>Int.le_trans (h x hx) (k x hx)
theorem z7h {l:List Int} {b y:Nat} {v:Int} (hb:b<l.length):zdf (l.set b v) y=if y=b then v else zdf l y:=by
 unfold zdf
 rw [List.getElem?_set]
 by_cases h:b=y
 ·subst h; rw [if_pos rfl,if_pos hb,if_pos rfl]; rfl
 rw [if_neg h,if_neg (Ne.symm h)]
theorem z9f (hu:Up M n rk) {b:Nat} (hb:b<n):HB M ws n b=beg M ws n b+zdf ws b:=yfe hu hb
theorem z3s {g:Nat→Int} {b:Nat}:∀ i,0≤hvF M g b i
 | 0=>by simp [hvF]
 | i+1=>by
  have:=z3s (g:=g) (b:=b) i
  rw [znk]
  split <;> omega
end
end
def kk (lv:Bool):Int:=if lv then 1 else 0
end Fw
end Go.Proofs.YtcfgpmeebpinaaaGreat
