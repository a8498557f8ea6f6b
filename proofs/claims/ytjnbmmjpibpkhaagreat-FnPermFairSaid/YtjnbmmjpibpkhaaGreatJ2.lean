/- Parts of the framework and of the proof: Points where rooms meet, gone through; Walls, gone through; Walls and their sides, gone through; The sides of a wall, gone through; Upright walls, gone through; Walls and orders of plans in plain words; All walls; sets of rooms, gone through; Sizes of plans in plain words; The program's own data in plain words; Small functions of the program and of the library, gone through; The program's walls in plain words; Walls of the program, gone through; Lists without neighbours that are the same; the program's relations in plain words; Compact and the sides of walls of the program, gone through; Relations of rooms in plain words, and in the store; Relations, gone through; The program's orders in plain words; Orders of the program, gone through; Heaviest sums in plain words; Numbers put in order by putting one after the other in; Sort, gone through; How many rooms meet at the points of a grid of the program; Points of the program, gone through. -/
import Derived.Test.YtjnbmmjpibpkhaaGreatJ1
set_option linter.all false
namespace Go.Proofs.YtjnbmmjpibpkhaaGreat
namespace Fw
open Go
open Nat renaming reduceEqDiff → qE, reduceLeDiff → qL, reduceAdd → qA, reduceMul → qM, le_refl → qR
open List renaming append_nil → qN, mapM_append → qP, mapM_cons → qC, mapM_map → qU, range_succ → qS, take_of_length_le → qT
open Bool renaming and_eq_true → qB, false_eq_true → qF
open Option renaming map_some → qO, map_eq_some_iff → qI
open Int renaming reduceToNat → qZ
theorem z3l {p:List Txt} (hs:Sm p) {i k:Nat} {r1 r2:Txt} {a b c d:UInt8} (hi:1≤i) (hk:1≤k) (h1:p[i - 1]?=some r1) (h2:p[i]?=some r2) (ha:r1[k - 1]?=some a) (hb:r1[k]?=some b) (hc:r2[k - 1]?=some c) (hd:r2[k]?=some d):PC Tryz.prog 103 [zav p,.int .i64 i,.int .i64 k] (.int .i64 (zgl [a,b,c,d] 4)) true:=by
 have l1:=zb0 h1
 have l2:=zb0 h2
 have l3:=zb0 ha
 have l4:=zb0 hb
 have l5:=zb0 hc
 have l6:=zb0 hd
 have hp:=hs.rows
 have hq:=hs.cols r1 (List.mem_of_getElem? h1)
 generalize hcs:[a,b,c,d]=cs
 have hcl:cs.length=4:=by rw [← hcs]; rfl
 refine PC.of ⟨Tryz.func103,by kernel_rfl,rfl,by kernel_rfl⟩ zap mixed (by show 3≤Tryz.f103.ntmps; decide) ?_
 refine W.r fun K hK=>?_
 simp(disch:=omega)only[↓RU,RV,RH,↓reduceIte,qE,reduceCtorEq,if_pos,↓RS,RG,qA,qM,qL]
 apply hK;clear hK K
 refine W.seq_draw (by kernel_rfl) fun K hK=>?_
 simp(disch:=omega)only[↓RU,RV,RH,↓reduceIte,qE,reduceCtorEq,if_pos,w64,↓RS,RG,qA,qM,qL,ty5,ty6,zaa,zac,zen,h1,h2,ha,hb,hc,hd,zbl]
 apply hK;clear hK K
 refine W.r fun K hK=>?_
 simp(disch:=omega)only[↓RU,RV,RH,↓reduceIte,qE,reduceCtorEq,if_pos,↓RS,RG,qA,qM,qL]
 apply hK;clear hK K
 refine W.seq ?_
 refine W.r fun K hK=>?_
 simp(disch:=omega)only[↓RU,RV,RH,↓reduceIte,qE,reduceCtorEq,if_pos,↓RS,RG,qA,qM,qL]
 apply hK;clear hK K
 refine W.block ?_
 refine W.loop [7,8,9] (fun n vs S=>∃ x:Nat,n=4 - x∧x≤4∧vs=[.loc 0 0 0 4,.int .i64 (zgl cs x),.int .i64 x]∧S=⟨[.arr 0 5 1 (cs.map eB)],1⟩) (4) ?_ ?_
 ·refine ⟨1,0,rfl,Nat.zero_le _,?_,by rw [← hcs]; rfl⟩
  simp [Env.put,Env.of,zaf,zgl]
 rintro n vs S - ⟨x,rfl,h_x,rfl,rfl⟩
 refine W.seq ?_
 refine W.r fun K hK=>?_
 simp(disch:=omega)only[↓RU,RV,RH,↓reduceIte,qE,reduceCtorEq,if_pos,w64,↓RS,RG,qA,qM,qL,zaa]
 apply hK;clear hK K
 refine W.cond rfl (fun h3=>?_) (fun h3=>?_)
 ·try simp only[RL]at h3
  obtain ⟨cx,hcx,-⟩:=zag (show x<cs.length by omega)
  have hdb:=znt cs x
  refine W.skip ?_
  refine xn ?_
  refine W.seq ?_
  refine W.block ?_
  refine W.r fun K hK=>?_
  simp(disch:=omega)only[↓RU,RV,RH,↓reduceIte,qE,reduceCtorEq,if_pos,↓RS,RG,qA,qM,qL]
  apply hK;clear hK K
  refine W.seq ?_
  refine W.r fun K hK=>?_
  simp(disch:=omega)only[↓RU,RV,RH,↓reduceIte,qE,reduceCtorEq,if_pos,↓RS,RG,qA,qM,qL]
  apply hK;clear hK K
  refine W.block ?_
  refine W.loop [7,8,9,10,11] (fun n vs S=>∃ y:Nat,n=x - y∧y≤x∧vs=[.loc 0 0 0 4,.int .i64 (zgl cs x),.int .i64 x,.bool (zrr cs cx y),.int .i64 y]∧S=⟨[.arr 0 5 1 (cs.map eB)],1⟩) (x) ?_ ?_
  ·refine ⟨1,0,rfl,Nat.zero_le _,?_,rfl⟩
   simp [Env.put,Env.of,zaf,zrr]
  rintro n vs S - ⟨y,rfl,h_y,rfl,rfl⟩
  refine W.seq ?_
  refine W.r fun K hK=>?_
  simp(disch:=omega)only[↓RU,RV,RH,↓reduceIte,qE,reduceCtorEq,if_pos,w64,↓RS,RG,qA,qM,qL,zaa]
  apply hK;clear hK K
  refine W.cond rfl (fun h4=>?_) (fun h4=>?_)
  ·try simp only[RL]at h4
   obtain ⟨cy,hcy,-⟩:=zag (show y<cs.length by omega)
   refine W.skip ?_
   refine xn ?_
   refine W.seq ?_
   refine W.block ?_
   refine W.draw_k (by kernel_rfl) fun K hK=>?_
   cases hf:zrr cs cx y
   ·skip
    simp(disch:=omega)only[↓RU,RV,RH,↓reduceIte,qE,reduceCtorEq,if_pos,w64,↓RS,RG,qA,qM,qL,ty6,zen,hcx,hcy,hcl,hf]
    apply hK;clear hK K
    refine XbN ?_
    refine xn ?_
    refine W.k fun K hK=>?_
    simp(disch:=omega)only[↓RU,RV,RH,↓reduceIte,qE,reduceCtorEq,if_pos,w64,↓RS,RG,qA,qM,qL,zaa]
    apply hK;clear hK K
    refine xn ?_
    refine ⟨x - (y+1),by omega,1,y+1,rfl,by omega,?_,rfl⟩
    rw [zsq hcy,hf]
    simp [Env.put,Env.of]
   skip
   simp(disch:=omega)only[↓RU,RV,RH,↓reduceIte,qE,reduceCtorEq,if_pos,w64,↓RS,RG,qA,qM,qL,ty6,zen,hcx,hcy,hcl,hf,yew]
   apply hK;clear hK K
   refine XbN ?_
   refine xn ?_
   refine W.k fun K hK=>?_
   simp(disch:=omega)only[↓RU,RV,RH,↓reduceIte,qE,reduceCtorEq,if_pos,w64,↓RS,RG,qA,qM,qL,zaa]
   apply hK;clear hK K
   refine xn ?_
   refine ⟨x - (y+1),by omega,1,y+1,rfl,by omega,?_,rfl⟩
   rw [zsq hcy,hf]
   simp [Env.put,Env.of]
  try simp only[RL]at h4
  refine W.exit ?_
  refine xe ?_
  refine xe ?_
  refine XBlock.hit ?_
  refine xn ?_
  refine W.r fun K hK=>?_
  simp(disch:=omega)only[↓RU,RV,RH,↓reduceIte,qE,reduceCtorEq,if_pos,↓RS,RG,qA,qM,qL]
  apply hK;clear hK K
  refine W.cond rfl (fun h6=>?_) (fun h6=>?_)
  ·try simp only[RL]at h6
   refine W.k fun K hK=>?_
   simp(disch:=omega)only[↓RU,RV,RH,↓reduceIte,qE,reduceCtorEq,if_pos,w64,↓RS,RG,qA,qM,qL,zaa]
   apply hK;clear hK K
   refine XbN ?_
   refine xn ?_
   refine W.k fun K hK=>?_
   simp(disch:=omega)only[↓RU,RV,RH,↓reduceIte,qE,reduceCtorEq,if_pos,w64,↓RS,RG,qA,qM,qL,zaa]
   apply hK;clear hK K
   refine xn ?_
   refine ⟨4 - (x+1),by omega,1,x+1,rfl,by omega,?_,rfl⟩
   rw [zgl,z1i hcx,show x=y by omega]
   simp [Env.put,Env.of,h6]
  try simp only[RL]at h6
  refine W.skip ?_
  refine XbN ?_
  refine xn ?_
  refine W.k fun K hK=>?_
  simp(disch:=omega)only[↓RU,RV,RH,↓reduceIte,qE,reduceCtorEq,if_pos,w64,↓RS,RG,qA,qM,qL,zaa]
  apply hK;clear hK K
  refine xn ?_
  refine ⟨4 - (x+1),by omega,1,x+1,rfl,by omega,?_,rfl⟩
  rw [zgl,z1i hcx,show x=y by omega]
  simp [Env.put,Env.of,h6]
 try simp only[RL]at h3
 refine W.exit ?_
 refine xe ?_
 refine xe ?_
 refine XBlock.hit ?_
 refine xn ?_
 refine W.r fun K hK=>?_
 simp(disch:=omega)only[↓RU,RV,RH,↓reduceIte,qE,reduceCtorEq,if_pos,↓RS,RG,qA,qM,qL]
 apply hK;clear hK K
 refine W.ret ?_
 refine Br rfl ?_
 have hx4:x=4:=by omega
 rw [hx4]
 rfl
theorem zy8 {p:List Txt} (hs:Sm p) (hg:zc4 p=true) (many:Int):PC Tryz.prog 74 [zav p,.int .i64 many] (.int .i64 (points p many)) true:=by
 have hp:=hs.rows
 have hsm:=zce hg
 obtain ⟨row0,hrow0,hrm0⟩:=zag hsm.1
 have hhd:=zc1 hrow0
 have hw6:=hsm.2.2 row0 hrm0
 refine PC.of ⟨Tryz.func74,by kernel_rfl,rfl,by kernel_rfl⟩ zap mixed (by show 2≤Tryz.f74.ntmps; decide) ?_
 refine W.r fun K hK=>?_
 simp(disch:=omega)only[↓RU,RV,RH,↓reduceIte,qE,reduceCtorEq,if_pos]
 apply hK;clear hK K
 refine W.r fun K hK=>?_
 simp(disch:=omega)only[↓RU,RV,RH,↓reduceIte,qE,reduceCtorEq,if_pos]
 apply hK;clear hK K
 refine W.seq ?_
 refine W.r fun K hK=>?_
 simp(disch:=omega)only[↓RU,RV,RH,↓reduceIte,qE,reduceCtorEq,if_pos]
 apply hK;clear hK K
 refine W.block ?_
 refine W.loop [0,1,5,6] (fun n vs S=>∃ i:Nat,n=p.length - i∧i≤p.length∧(1≤i)∧vs=[zav p,.int .i64 many,.int .i64 (zi4 p many row0.length i),.int .i64 i]∧S=⟨[],0⟩) (p.length - 1) ?_ ?_
 ·refine ⟨0,1,rfl,by omega,qR _,?_,rfl⟩
  simp [Env.put,Env.of,zaf,zi4]
 rintro n vs S - ⟨i,rfl,h_i,h1i,rfl,rfl⟩
 refine W.seq ?_
 refine W.r fun K hK=>?_
 simp(disch:=omega)only[↓RU,RV,RH,↓reduceIte,qE,reduceCtorEq,if_pos,w64,ty5,zaa,zac]
 apply hK;clear hK K
 refine W.cond rfl (fun h=>?_) (fun h=>?_)
 ·try simp only[RL]at h
  obtain ⟨r1,hr1,hm1⟩:=zag (show i - 1<p.length by omega)
  obtain ⟨r2,hr2,hm2⟩:=zag (show i<p.length by omega)
  have hl1:=zdt hg hr1
  have hl2:=zdt hg hr2
  rw [hhd]at hl1 hl2
  have hb1:=zqx p many hw6 i
  have hw1:=(zfk hg hrow0)
  refine W.skip ?_
  refine xn ?_
  refine W.seq ?_
  refine W.block ?_
  refine W.r fun K hK=>?_
  simp(disch:=omega)only[↓RU,RV,RH,↓reduceIte,qE,reduceCtorEq,if_pos]
  apply hK;clear hK K
  refine W.block ?_
  refine W.loop [0,1,5,6,7] (fun n vs S=>∃ k:Nat,n=row0.length - k∧k≤row0.length∧(1≤k)∧vs=[zav p,.int .i64 many,.int .i64 (zi4 p many row0.length i+zgo p many i k),.int .i64 i,.int .i64 k]∧S=⟨[],0⟩) (row0.length - 1) ?_ ?_
  ·refine ⟨0,1,rfl,by omega,qR _,?_,rfl⟩
   simp [Env.put,Env.of,zaf,zgo]
  rintro n vs S - ⟨k,rfl,h_k,h1k,rfl,rfl⟩
  refine W.seq ?_
  refine W.r fun K hK=>?_
  simp(disch:=omega)only[↓RU,RV,RH,↓reduceIte,qE,reduceCtorEq,if_pos,w64,ty5,zaa,zac,hrow0,Int.toNat_zero,Nat.zero_mul,qZ]
  apply hK;clear hK K
  refine W.cond rfl (fun h1=>?_) (fun h1=>?_)
  ·try simp only[RL]at h1
   obtain ⟨a,ha,-⟩:=zag (show k - 1<r1.length by omega)
   obtain ⟨b,hb,-⟩:=zag (show k<r1.length by omega)
   obtain ⟨c,hc,-⟩:=zag (show k - 1<r2.length by omega)
   obtain ⟨d,hd,-⟩:=zag (show k<r2.length by omega)
   have hmt:zjh p i k=zgl [a,b,c,d] 4:=by simp [zjh,hr1,hr2,ha,hb,hc,hd]
   have hb2:=ze9 p many i k
   refine W.skip ?_
   refine xn ?_
   refine W.seq ?_
   refine W.block ?_
   refine W.r fun K hK=>?_
   simp(disch:=omega)only[↓RU,RV,RH,↓reduceIte,qE,reduceCtorEq,if_pos,qN,w64,zaa]
   refine zad.pc (z3l hs h1i h1k hr1 hr2 ha hb hc hd) rfl (.inl rfl) ?_
   simp(disch:=omega)only[↓RU,RV,RH,↓reduceIte,qE,reduceCtorEq,if_pos,qN,w64,zaa]
   apply hK;clear hK K
   refine W.cond rfl (fun h2=>?_) (fun h2=>?_)
   ·try simp only[RL]at h2
    refine W.k fun K hK=>?_
    simp(disch:=omega)only[↓RU,RV,RH,↓reduceIte,qE,reduceCtorEq,if_pos,w64,zaa]
    apply hK;clear hK K
    refine XbN ?_
    refine xn ?_
    refine W.k fun K hK=>?_
    simp(disch:=omega)only[↓RU,RV,RH,↓reduceIte,qE,reduceCtorEq,if_pos,w64,zaa]
    apply hK;clear hK K
    refine xn ?_
    refine ⟨row0.length - (k+1),by omega,0,k+1,rfl,by omega,by omega,?_,rfl⟩
    rw [zgo]
    simp [Env.put,Env.of,hmt,h2,h1k,Int.add_assoc]
   try simp only[RL]at h2
   refine W.skip ?_
   refine XbN ?_
   refine xn ?_
   refine W.k fun K hK=>?_
   simp(disch:=omega)only[↓RU,RV,RH,↓reduceIte,qE,reduceCtorEq,if_pos,w64,zaa]
   apply hK;clear hK K
   refine xn ?_
   refine ⟨row0.length - (k+1),by omega,0,k+1,rfl,by omega,by omega,?_,rfl⟩
   rw [zgo]
   simp [Env.put,Env.of,hmt,h2,h1k,Int.add_assoc]
  try simp only[RL]at h1
  refine W.exit ?_
  refine xe ?_
  refine xe ?_
  refine XBlock.hit ?_
  refine XbN ?_
  refine xn ?_
  refine W.k fun K hK=>?_
  simp(disch:=omega)only[↓RU,RV,RH,↓reduceIte,qE,reduceCtorEq,if_pos,w64,zaa]
  apply hK;clear hK K
  refine xn ?_
  refine ⟨p.length - (i+1),by omega,0,i+1,rfl,by omega,by omega,?_,rfl⟩
  rw [zi4,if_pos h1i]
  simp [Env.put,Env.of,show row0.length=k by omega]
 try simp only[RL]at h
 refine W.exit ?_
 refine xe ?_
 refine xe ?_
 refine XBlock.hit ?_
 refine xn ?_
 refine W.r fun K hK=>?_
 simp(disch:=omega)only[↓RU,RV,RH,↓reduceIte,qE,reduceCtorEq,if_pos]
 apply hK;clear hK K
 refine W.ret ?_
 refine Br rfl ?_
 have hip:i=p.length:=by omega
 rw [points,hhd,← hip]
 rfl
theorem zmi {p:List Txt} (hs:Sm p):PC Tryz.prog 43 [zav p] (.bool (zbo p)) true:=by
 refine PC.of ⟨Tryz.func43,by kernel_rfl,rfl,by kernel_rfl⟩ zap mixed (by show 1≤Tryz.f43.ntmps; decide) ?_
 refine W.r fun K hK=>?_
 simp(disch:=omega)only[↓RU,RV,RH,↓reduceIte,qE,reduceCtorEq,if_pos]
 apply hK;clear hK K
 refine W.r fun K hK=>?_
 cases hg:zbw p
 ·skip
  simp(disch:=omega)only[↓RU,RV,RH,↓reduceIte,qE,reduceCtorEq,if_pos,qN,w64,zaa,hg]
  refine zad.pc (zg2 hs) rfl (.inl rfl) ?_
  simp(disch:=omega)only[↓RU,RV,RH,↓reduceIte,qE,reduceCtorEq,if_pos,qN,w64,zaa,hg]
  apply hK;clear hK K
  refine W.ret ?_
  refine Br rfl ?_
  rw [zbo,hg]
  rfl
 skip
 simp(disch:=omega)only[↓RU,RV,RH,↓reduceIte,qE,reduceCtorEq,if_pos,qN,w64,zaa,hg]
 refine zad.pc (zg2 hs) rfl (.inl rfl) ?_
 simp(disch:=omega)only[↓RU,RV,RH,↓reduceIte,qE,reduceCtorEq,if_pos,qN,w64,zaa,hg]
 refine zad.pc (zy8 hs (zeu hg) 4) rfl (.inl rfl) ?_
 simp(disch:=omega)only[↓RU,RV,RH,↓reduceIte,qE,reduceCtorEq,if_pos,qN,w64,zaa,hg]
 apply hK;clear hK K
 refine W.ret ?_
 refine Br rfl ?_
 rw [zbo,hg]
 rfl
theorem z3o {p:List Txt} (hs:Sm p):PC Tryz.prog 20 [zav p] (.bool (zbo p)) true:=by
 refine PC.of ⟨Tryz.func20,by kernel_rfl,rfl,by kernel_rfl⟩ zap mixed (by show 1≤Tryz.f20.ntmps; decide) ?_
 refine W.r fun K hK=>?_
 simp(disch:=omega)only[↓RU,RV,RH,↓reduceIte,qE,reduceCtorEq,if_pos]
 apply hK;clear hK K
 refine W.r fun K hK=>?_
 simp(disch:=omega)only[↓RU,RV,RH,↓reduceIte,qE,reduceCtorEq,if_pos,qN]
 refine zad.pc (zmi hs) rfl (.inl rfl) ?_
 simp(disch:=omega)only[↓RU,RV,RH,↓reduceIte,qE,reduceCtorEq,if_pos,qN]
 apply hK;clear hK K
 refine W.ret ?_
 refine Br rfl ?_
 rfl
theorem z3k {p:List Txt} (hs:Sm p) (hg:zc4 p=true):PC Tryz.prog 142 [zav p] (zav (zc8 p)) true:=by
 have hp:=hs.rows
 have hsm:=zce hg
 obtain ⟨row0,hrow0,hrm0⟩:=zag hsm.1
 have hhd:=zc1 hrow0
 have hw6:=hsm.2.2 row0 hrm0
 refine PC.of ⟨Tryz.func142,by kernel_rfl,rfl,by kernel_rfl⟩ zap mixed (by show 1≤Tryz.f142.ntmps; decide) ?_
 refine W.r fun K hK=>?_
 simp(disch:=omega)only[↓RU,RV,RH,↓reduceIte,qE,reduceCtorEq,if_pos,↓RS,RG,qA,qM,qL]
 apply hK;clear hK K
 refine W.r fun K hK=>?_
 simp(disch:=omega)only[↓RU,RV,RH,↓reduceIte,qE,reduceCtorEq,if_pos,↓RS,RG,qA,qM,qL,ty5,zac]
 apply hK;clear hK K
 refine W.seq ?_
 refine W.r fun K hK=>?_
 simp(disch:=omega)only[↓RU,RV,RH,↓reduceIte,qE,reduceCtorEq,if_pos,↓RS,RG,qA,qM,qL]
 apply hK;clear hK K
 refine W.block ?_
 refine W.loop [0,3,4] (fun n vs S=>∃ k v0 tk:Nat,n=row0.length - k∧k≤row0.length∧vs=[zav p,.loc 0 v0 0 k,.int .i64 k]∧S=⟨[.arr v0 9 1 ((zkd p k).map .str)],tk⟩) (row0.length) ?_ ?_
 ·refine ⟨1,0,0,1,rfl,Nat.zero_le _,?_,rfl⟩
  simp [Env.put,Env.of,zaf]
 rintro n vs S - ⟨k,v0,tk,rfl,h_k,rfl,rfl⟩
 refine W.seq ?_
 refine W.r fun K hK=>?_
 simp(disch:=omega)only[↓RU,RV,RH,↓reduceIte,qE,reduceCtorEq,if_pos,w64,↓RS,RG,qA,qM,qL,ty5,zaa,zac,hrow0,Int.toNat_zero,Nat.zero_mul,qZ]
 apply hK;clear hK K
 refine W.cond rfl (fun h=>?_) (fun h=>?_)
 ·try simp only[RL]at h
  have hcl0:=zjs (p:=p) (k:=k)
  refine W.skip ?_
  refine xn ?_
  refine W.seq ?_
  refine W.block ?_
  refine W.r fun K hK=>?_
  simp(disch:=omega)only[↓RU,RV,RH,↓reduceIte,qE,reduceCtorEq,if_pos,↓RS,RG,qA,qM,qL,ty6,zen]
  apply hK;clear hK K
  refine W.seq ?_
  refine W.r fun K hK=>?_
  simp(disch:=omega)only[↓RU,RV,RH,↓reduceIte,qE,reduceCtorEq,if_pos,↓RS,RG,qA,qM,qL]
  apply hK;clear hK K
  refine W.block ?_
  refine W.loop [0,3,4,5,6] (fun n vs S=>∃ i v1 tk:Nat,n=p.length - i∧i≤p.length∧vs=[zav p,.loc 0 v0 0 k,.int .i64 k,.loc 1 v1 0 i,.int .i64 i]∧S=⟨[.arr v0 9 1 ((zkd p k).map .str),.arr v1 5 1 ((zoj p k i).map eB)],tk⟩) (p.length) ?_ ?_
  ·refine ⟨2,0,tk,tk+1,rfl,Nat.zero_le _,?_,rfl⟩
   simp [Env.put,Env.of,zaf]
  rintro n vs S - ⟨i,v1,tk,rfl,h_i,rfl,rfl⟩
  refine W.seq ?_
  refine W.r fun K hK=>?_
  simp(disch:=omega)only[↓RU,RV,RH,↓reduceIte,qE,reduceCtorEq,if_pos,w64,↓RS,RG,qA,qM,qL,ty5,zaa,zac]
  apply hK;clear hK K
  refine W.cond rfl (fun h1=>?_) (fun h1=>?_)
  ·try simp only[RL]at h1
   obtain ⟨row,hrow,hrm⟩:=zag (show i<p.length by omega)
   have hrl:=zdt hg hrow
   rw [hhd]at hrl
   obtain ⟨c,hc,-⟩:=zag (show k<row.length by omega)
   have hctl:=zh4 (p:=p) (k:=k) h_i
   refine W.skip ?_
   refine xn ?_
   refine W.seq ?_
   refine W.block ?_
   refine W.k fun K hK=>?_
   simp(disch:=omega)only[↓RU,RV,RH,↓reduceIte,qE,reduceCtorEq,if_pos,↓RS,RG,qA,qM,qL,ty5,ty6,zac,zen,hrow,hc]
   apply hK;clear hK K
   refine XbN ?_
   refine xn ?_
   refine W.k fun K hK=>?_
   simp(disch:=omega)only[↓RU,RV,RH,↓reduceIte,qE,reduceCtorEq,if_pos,w64,↓RS,RG,qA,qM,qL,zaa]
   apply hK;clear hK K
   refine xn ?_
   refine ⟨p.length - (i+1),by omega,2,i+1,tk+1,tk+2,rfl,by omega,?_,?_⟩
   all_goals simp [Env.put,Env.of,zbe,z25 hrow hc,hcl0,hctl,zmn]
  ·try simp only[RL]at h1
   have hip:i=p.length:=by omega
   subst hip
   have hctl:=zh4 (p:=p) (k:=k) (qR _)
   refine W.exit ?_
   refine xe ?_
   refine xe ?_
   refine XBlock.hit ?_
   refine xn ?_
   refine W.k fun K hK=>?_
   simp(disch:=omega)only[↓RU,RV,RH,↓reduceIte,qE,reduceCtorEq,if_pos,w64,↓RS,RG,qA,qM,qL,ty5,ty6,zac,zen]
   apply hK;clear hK K
   refine XbN ?_
   refine xn ?_
   refine W.k fun K hK=>?_
   simp(disch:=omega)only[↓RU,RV,RH,↓reduceIte,qE,reduceCtorEq,if_pos,w64,↓RS,RG,qA,qM,qL,zaa]
   apply hK;clear hK K
   refine xn ?_
   refine ⟨row0.length - (k+1),by omega,1,k+1,tk+1,tk+2,rfl,by omega,?_,?_⟩
   all_goals simp [Env.put,Env.of,zbe,zyw,hctl,zmn,hcl0]
 try simp only[RL]at h
 refine W.exit ?_
 refine xe ?_
 refine xe ?_
 refine XBlock.hit ?_
 refine xn ?_
 refine W.r fun K hK=>?_
 simp(disch:=omega)only[↓RU,RV,RH,↓reduceIte,qE,reduceCtorEq,if_pos,↓RS,RG,qA,qM,qL]
 apply hK;clear hK K
 refine W.ret ?_
 refine Br rfl ?_
 have hkp:k=row0.length:=by omega
 subst hkp
 rw [zc8,hhd]
 exact zcv (k:=9) rfl (by simp [zjs]) (zox _) |>.trans (by simp [zjs])
theorem zwk {xs ys:List Int} {v0 v1 tk:Nat} (hx:xs.length≤1048576) (hy:ys.length≤1048576) (x:Int):Ev Tryz.prog 143 [.loc 0 v0 0 xs.length,.int .i64 x] ⟨[.arr v0 3 1 (xs.map (.int .i64)),.arr v1 3 1 (ys.map (.int .i64))],tk⟩ fun v S=>∃ w t,v = .loc 0 w 0 (zi5 xs x).length∧S=⟨[.arr w 3 1 ((zi5 xs x).map (.int .i64)),.arr v1 3 1 (ys.map (.int .i64))],t⟩:=by
 refine Ev.of ⟨Tryz.func143,by kernel_rfl,rfl,by kernel_rfl⟩ zap mixed (by show 2≤Tryz.f143.ntmps; decide) ?_
 refine W.r fun K hK=>?_
 simp(disch:=omega)only[↓RU,RV,RH,↓reduceIte,qE,reduceCtorEq,if_pos,↓RS,RG,qA,qM,qL]
 apply hK;clear hK K
 refine W.seq ?_
 refine W.r fun K hK=>?_
 cases hp:decide ((xs.length:Int)>0)
 ·skip
  simp(disch:=omega)only[↓RU,RV,RH,↓reduceIte,qE,reduceCtorEq,if_pos,w64,↓RS,RG,qA,qM,qL,zab,zaa,hp]
  apply hK;clear hK K
  refine W.cond rfl (fun h0=>?_) (fun h0=>?_)
  ·try simp only[RL]at h0
   exact absurd h0 (by simp)
  try simp only[RL]at h0
  have hpl:zi5 xs x=xs++[x]:=z15 (by simpa using hp)
  refine W.skip ?_
  refine xn ?_
  refine W.r fun K hK=>?_
  simp(disch:=omega)only[↓RU,RV,RH,↓reduceIte,qE,reduceCtorEq,if_pos,↓RS,RG,qA,qM,qL,zab,zaa]
  apply hK;clear hK K
  refine W.ret ?_
  refine Br rfl ?_
  exact ⟨2,_,_,by simp [Env.put,hpl]; rfl,by simp [zbe,hpl]; rfl⟩
 skip
 have hp2:0<xs.length:=by simpa using hp
 obtain ⟨q,hq,-⟩:=zag (show xs.length - 1<xs.length by omega)
 simp(disch:=omega)only[↓RU,RV,RH,↓reduceIte,qE,reduceCtorEq,if_pos,w64,↓RS,RG,qA,qM,qL,zab,zaa,hp,hq,zbl]
 apply hK;clear hK K
 refine W.cond rfl (fun h0=>?_) (fun h0=>?_)
 ·try simp only[RL]at h0
  have hpl:zi5 xs x=xs:=zxo hq h0
  refine W.r fun K hK=>?_
  simp(disch:=omega)only[↓RU,RV,RH,↓reduceIte,qE,reduceCtorEq,if_pos,↓RS,RG,qA,qM,qL]
  apply hK;clear hK K
  refine W.ret ?_
  refine XThen.ret ?_
  refine Br rfl ?_
  exact ⟨2,_,_,by simp [Env.put,hpl]; rfl,by simp [zbe,hpl]; rfl⟩
 try simp only[RL]at h0
 have hpl:zi5 xs x=xs++[x]:=z14 hq h0
 refine W.skip ?_
 refine xn ?_
 refine W.r fun K hK=>?_
 simp(disch:=omega)only[↓RU,RV,RH,↓reduceIte,qE,reduceCtorEq,if_pos,↓RS,RG,qA,qM,qL,zab,zaa]
 apply hK;clear hK K
 refine W.ret ?_
 refine Br rfl ?_
 exact ⟨2,_,_,by simp [Env.put,hpl]; rfl,by simp [zbe,hpl]; rfl⟩
theorem zwl {xs ys:List Int} {v0 v1 tk:Nat} (hx:xs.length≤1048576) (hy:ys.length≤1048576) (x:Int):Ev Tryz.prog 143 [.loc 1 v1 0 ys.length,.int .i64 x] ⟨[.arr v0 3 1 (xs.map (.int .i64)),.arr v1 3 1 (ys.map (.int .i64))],tk⟩ fun v S=>∃ w t,v = .loc 1 w 0 (zi5 ys x).length∧S=⟨[.arr v0 3 1 (xs.map (.int .i64)),.arr w 3 1 ((zi5 ys x).map (.int .i64))],t⟩:=by
 refine Ev.of ⟨Tryz.func143,by kernel_rfl,rfl,by kernel_rfl⟩ zap mixed (by show 2≤Tryz.f143.ntmps; decide) ?_
 refine W.r fun K hK=>?_
 simp(disch:=omega)only[↓RU,RV,RH,↓reduceIte,qE,reduceCtorEq,if_pos,↓RS,RG,qA,qM,qL]
 apply hK;clear hK K
 refine W.seq ?_
 refine W.r fun K hK=>?_
 cases hp:decide ((ys.length:Int)>0)
 ·skip
  simp(disch:=omega)only[↓RU,RV,RH,↓reduceIte,qE,reduceCtorEq,if_pos,w64,↓RS,RG,qA,qM,qL,zab,zaa,hp]
  apply hK;clear hK K
  refine W.cond rfl (fun h0=>?_) (fun h0=>?_)
  ·try simp only[RL]at h0
   exact absurd h0 (by simp)
  try simp only[RL]at h0
  have hpl:zi5 ys x=ys++[x]:=z15 (by simpa using hp)
  refine W.skip ?_
  refine xn ?_
  refine W.r fun K hK=>?_
  simp(disch:=omega)only[↓RU,RV,RH,↓reduceIte,qE,reduceCtorEq,if_pos,↓RS,RG,qA,qM,qL,zab,zaa]
  apply hK;clear hK K
  refine W.ret ?_
  refine Br rfl ?_
  exact ⟨2,_,_,by simp [Env.put,hpl]; rfl,by simp [zbe,hpl]; rfl⟩
 skip
 have hp2:0<ys.length:=by simpa using hp
 obtain ⟨q,hq,-⟩:=zag (show ys.length - 1<ys.length by omega)
 simp(disch:=omega)only[↓RU,RV,RH,↓reduceIte,qE,reduceCtorEq,if_pos,w64,↓RS,RG,qA,qM,qL,zab,zaa,hp,hq,zbl]
 apply hK;clear hK K
 refine W.cond rfl (fun h0=>?_) (fun h0=>?_)
 ·try simp only[RL]at h0
  have hpl:zi5 ys x=ys:=zxo hq h0
  refine W.r fun K hK=>?_
  simp(disch:=omega)only[↓RU,RV,RH,↓reduceIte,qE,reduceCtorEq,if_pos,↓RS,RG,qA,qM,qL]
  apply hK;clear hK K
  refine W.ret ?_
  refine XThen.ret ?_
  refine Br rfl ?_
  exact ⟨2,_,_,by simp [Env.put,hpl]; rfl,by simp [zbe,hpl]; rfl⟩
 try simp only[RL]at h0
 have hpl:zi5 ys x=ys++[x]:=z14 hq h0
 refine W.skip ?_
 refine xn ?_
 refine W.r fun K hK=>?_
 simp(disch:=omega)only[↓RU,RV,RH,↓reduceIte,qE,reduceCtorEq,if_pos,↓RS,RG,qA,qM,qL,zab,zaa]
 apply hK;clear hK K
 refine W.ret ?_
 refine Br rfl ?_
 exact ⟨2,_,_,by simp [Env.put,hpl]; rfl,by simp [zbe,hpl]; rfl⟩
theorem zdy {a b:Nat}:((a:Int)+(b:Int)).toNat=a+b:=by omega
theorem zid {S:Store} {im:Bool} {k:Nat} {a b a2 b2:PV} (h1:reify S im k a=some a2) (h2:reify S im k b=some b2):reify S im (k+1) (.tup [a,b])=some (.tup [a2,b2]):=by
 simp [reify,h1,h2]
theorem z3m {p:List Txt} (hs:Sm p) (hg:zc4 p=true) {kind line fr long:Nat} (hl:1≤line) (h0:kind=0→line<(zao p).length∧fr+long≤p.length) (h1:kind≠0→line<p.length∧fr+long≤(zao p).length):PC Tryz.prog 117 [zav p,.sl [.int .i64 kind,.int .i64 line,.int .i64 fr,.int .i64 long] 4] (.tup [eInts (zdl p kind line fr long).1,eInts (zdl p kind line fr long).2]) true:=by
 have hp:=hs.rows
 have hsm:=zce hg
 obtain ⟨row0,hrow0,hrm0⟩:=zag hsm.1
 have hhd:=zc1 hrow0
 have hw6:=hsm.2.2 row0 hrm0
 rw [hhd]at h0 h1
 have hb:fr+long≤6∧line≤6:=by by_cases hk:kind=0; (have:=h0 hk; omega); (have:=h1 hk; omega)
 refine PC.of ⟨Tryz.func117,by kernel_rfl,rfl,by kernel_rfl⟩ zap mixed (by show 2≤Tryz.f117.ntmps; decide) ?_
 refine W.r fun K hK=>?_
 simp(disch:=omega)only[↓RU,RV,RH,↓reduceIte,qE,reduceCtorEq,if_pos,↓RS,RG,qA,qM,qL]
 apply hK;clear hK K
 refine W.r fun K hK=>?_
 simp(disch:=omega)only[↓RU,RV,RH,↓reduceIte,qE,reduceCtorEq,if_pos,↓RS,RG,qA,qM,qL,zab,zaa]
 apply hK;clear hK K
 refine W.r fun K hK=>?_
 simp(disch:=omega)only[↓RU,RV,RH,↓reduceIte,qE,reduceCtorEq,if_pos,↓RS,RG,qA,qM,qL,zab,zaa]
 apply hK;clear hK K
 refine W.seq ?_
 refine W.r fun K hK=>?_
 simp(disch:=omega)only[↓RU,RV,RH,↓reduceIte,qE,reduceCtorEq,if_pos,↓RS,RG,qA,qM,qL,zab,zaa,qZ,zbl,zdy]
 apply hK;clear hK K
 refine W.block ?_
 refine W.loop [0,1,6,7,8] (fun n vs S=>∃ j v0 v1 tk:Nat,n=long - j∧j≤long∧vs=[zav p,.sl [.int .i64 kind,.int .i64 line,.int .i64 fr,.int .i64 long] 4,.loc 0 v0 0 (zdl p kind line fr j).1.length,.loc 1 v1 0 (zdl p kind line fr j).2.length,.int .i64 ((fr:Int)+j)]∧S=⟨[.arr v0 3 1 ((zdl p kind line fr j).1.map (.int .i64)),.arr v1 3 1 ((zdl p kind line fr j).2.map (.int .i64))],tk⟩) (long) ?_ ?_
 ·refine ⟨2,0,0,1,2,rfl,Nat.zero_le _,?_,rfl⟩
  simp [Env.put,Env.of,zaf,zdl]
 rintro n vs S - ⟨j,v0,v1,tk,rfl,h_j,rfl,rfl⟩
 refine W.seq ?_
 refine W.seq_draw (by kernel_rfl) fun K hK=>?_
 simp(disch:=omega)only[↓RU,RV,RH,↓reduceIte,qE,reduceCtorEq,if_pos,w64,↓RS,RG,qA,qM,qL,zab,zaa,qZ,zbl,zdy]
 apply hK;clear hK K
 refine W.cond rfl (fun h2=>?_) (fun h2=>?_)
 ·try simp only[RL]at h2
  have hsl:=zk8 (p:=p) (kind:=kind) (line:=line) (fr:=fr) j
  refine W.skip ?_
  refine xn ?_
  refine W.seq ?_
  refine W.block ?_
  refine W.r fun K hK=>?_
  simp(disch:=omega)only[↓RU,RV,RH,↓reduceIte,qE,reduceCtorEq,if_pos,w64,↓RS,RG,qA,qM,qL,zab,zaa,qZ,zbl,zdy]
  apply hK;clear hK K
  refine W.cond rfl (fun h3=>?_) (fun h3=>?_)
  ·try simp only[RL]at h3
   have hk:kind=0:=by omega
   have h0k:=h0 hk
   obtain ⟨r1,hr1,-⟩:=zag (show fr+j<p.length by omega)
   have hr2:=hr1
   have hrl:=zdt hg hr1
   rw [hhd]at hrl
   obtain ⟨c1,hc1,-⟩:=zag (show line - 1<r1.length by omega)
   obtain ⟨c2,hc2,-⟩:=zag (show line<r1.length by omega)
   have hcl1:=c1.toNat_lt
   have hcl2:=c2.toNat_lt
   refine W.seq_drawE (by kernel_rfl) fun K hK=>?_
   simp(disch:=omega)only[↓RU,RV,RH,↓reduceIte,qE,reduceCtorEq,if_pos,w64,w64,qN,↓RS,RG,qA,qM,qL,zab,ty5,zaa,zac,zen,qZ,zbl,zdy,hr1,hc1]
   refine zad.ev (zwk (by omega) (by omega) _) ?_
   rintro v S ⟨w,t,rfl,rfl⟩
   simp(disch:=omega)only[↓RU,RV,RH,↓reduceIte,qE,reduceCtorEq,if_pos,w64,w64,qN,↓RS,RG,qA,qM,qL,zab,ty5,zaa,zac,zen,qZ,zbl,zdy,hr1,hc1]
   apply hK;clear hK K
   refine W.drawE_k (by kernel_rfl) fun K hK=>?_
   simp(disch:=omega)only[↓RU,RV,RH,↓reduceIte,qE,reduceCtorEq,if_pos,w64,w64,qN,↓RS,RG,qA,qM,qL,zab,ty5,zaa,zac,zen,qZ,zbl,zdy,hr2,hc2]
   refine zad.ev (zwl (Nat.le_trans zl7 (by omega)) (by omega) _) ?_
   rintro v S ⟨w2,t2,rfl,rfl⟩
   simp(disch:=omega)only[↓RU,RV,RH,↓reduceIte,qE,reduceCtorEq,if_pos,w64,w64,qN,↓RS,RG,qA,qM,qL,zab,ty5,zaa,zac,zen,qZ,zbl,zdy,hr2,hc2]
   apply hK;clear hK K
   refine XbN ?_
   refine xn ?_
   refine W.k fun K hK=>?_
   simp(disch:=omega)only[↓RU,RV,RH,↓reduceIte,qE,reduceCtorEq,if_pos,w64,↓RS,RG,qA,qM,qL,zaa]
   apply hK;clear hK K
   refine xn ?_
   refine ⟨long - (j+1),by omega,2,j+1,w,w2,t2,rfl,by omega,?_,?_⟩
   all_goals simp [zdl,hk,zc0 hr1 hc1,zc0 hr2 hc2,Env.put,Env.of,zbe,Int.add_assoc]
  ·try simp only[RL]at h3
   have hk:¬ kind=0:=by omega
   have h1k:=h1 hk
   obtain ⟨r1,hr1,-⟩:=zag (show line - 1<p.length by omega)
   obtain ⟨r2,hr2,-⟩:=zag (show line<p.length by omega)
   have hrl:=zdt hg hr1
   have hrl2:=zdt hg hr2
   rw [hhd]at hrl hrl2
   obtain ⟨c1,hc1,-⟩:=zag (show fr+j<r1.length by omega)
   obtain ⟨c2,hc2,-⟩:=zag (show fr+j<r2.length by omega)
   have hcl1:=c1.toNat_lt
   have hcl2:=c2.toNat_lt
   refine W.r fun K hK=>?_
   simp(disch:=omega)only[↓RU,RV,RH,↓reduceIte,qE,reduceCtorEq,if_pos,w64,w64,qN,↓RS,RG,qA,qM,qL,zab,ty5,zaa,zac,zen,qZ,zbl,zdy,hr1,hc1]
   refine zad.ev (zwk (by omega) (by omega) _) ?_
   rintro v S ⟨w,t,rfl,rfl⟩
   simp(disch:=omega)only[↓RU,RV,RH,↓reduceIte,qE,reduceCtorEq,if_pos,w64,w64,qN,↓RS,RG,qA,qM,qL,zab,ty5,zaa,zac,zen,qZ,zbl,zdy,hr1,hc1]
   apply hK;clear hK K
   refine W.k fun K hK=>?_
   simp(disch:=omega)only[↓RU,RV,RH,↓reduceIte,qE,reduceCtorEq,if_pos,w64,w64,qN,↓RS,RG,qA,qM,qL,zab,ty5,zaa,zac,zen,qZ,zbl,zdy,hr2,hc2]
   refine zad.ev (zwl (Nat.le_trans zl7 (by omega)) (by omega) _) ?_
   rintro v S ⟨w2,t2,rfl,rfl⟩
   simp(disch:=omega)only[↓RU,RV,RH,↓reduceIte,qE,reduceCtorEq,if_pos,w64,w64,qN,↓RS,RG,qA,qM,qL,zab,ty5,zaa,zac,zen,qZ,zbl,zdy,hr2,hc2]
   apply hK;clear hK K
   refine XbN ?_
   refine xn ?_
   refine W.k fun K hK=>?_
   simp(disch:=omega)only[↓RU,RV,RH,↓reduceIte,qE,reduceCtorEq,if_pos,w64,↓RS,RG,qA,qM,qL,zaa]
   apply hK;clear hK K
   refine xn ?_
   refine ⟨long - (j+1),by omega,2,j+1,w,w2,t2,rfl,by omega,?_,?_⟩
   all_goals simp [zdl,hk,zc0 hr1 hc1,zc0 hr2 hc2,Env.put,Env.of,zbe,Int.add_assoc]
 try simp only[RL]at h2
 refine W.exit ?_
 refine xe ?_
 refine xe ?_
 refine XBlock.hit ?_
 refine xn ?_
 refine W.r fun K hK=>?_
 simp(disch:=omega)only[↓RU,RV,RH,↓reduceIte,qE,reduceCtorEq,if_pos,↓RS,RG,qA,qM,qL]
 apply hK;clear hK K
 refine W.ret ?_
 refine Br rfl ?_
 have hjl:j=long:=by omega
 subst hjl
 exact zid (zcv (k:=8) rfl (by simp) (zjy _)) (zcv (k:=8) rfl (by simp) (zjy _))
theorem zn3 {p:List Txt} (hs:Sm p) (hg:zc4 p=true):PC Tryz.prog 141 [zav p] (.sl ((uprights p).map eInts) (uprights p).length) false:=by
 have hp:=hs.rows
 have hsm:=zce hg
 obtain ⟨row0,hrow0,hrm0⟩:=zag hsm.1
 have hhd:=zc1 hrow0
 have hw6:=hsm.2.2 row0 hrm0
 have hw1:=zfk hg hrow0
 refine PC.of ⟨Tryz.func141,by kernel_rfl,rfl,by kernel_rfl⟩ zap mixed (by show 1≤Tryz.f141.ntmps; decide) ?_
 refine W.r fun K hK=>?_
 simp(disch:=omega)only[↓RU,RV,RH,↓reduceIte,qE,reduceCtorEq,if_pos,↓RS,RG,qA,qM,qL]
 apply hK;clear hK K
 refine W.r fun K hK=>?_
 simp(disch:=omega)only[↓RU,RV,RH,↓reduceIte,qE,reduceCtorEq,if_pos,↓RS,RG,qA,qM,qL,ty1,zab,zaa]
 apply hK;clear hK K
 refine W.seq ?_
 refine W.r fun K hK=>?_
 simp(disch:=omega)only[↓RU,RV,RH,↓reduceIte,qE,reduceCtorEq,if_pos,↓RS,RG,qA,qM,qL]
 apply hK;clear hK K
 refine W.block ?_
 refine W.loopZ [0,3,4] (fun n vs S=>∃ k v0 tk:Nat,n=row0.length - k∧k≤row0.length∧(1≤k)∧vs=[zav p,.loc 0 v0 0 (zdq p k).length,.int .i64 k]∧S=⟨[.arr v0 34 1 ((zdq p k).map eInts)],tk⟩) (row0.length - 1) ?_ ?_
 ·refine ⟨1,[zav p,.loc 0 0 0 (zdq p 1).length,.int .i64 1],⟨[.arr 0 34 1 ((zdq p 1).map eInts)],1⟩,?_,?_,1,0,1,rfl,by omega,qR _,rfl,rfl⟩
  ·rfl
  rfl
 rintro n vs S - ⟨k,v0,tk,rfl,h_k,h1k,rfl,rfl⟩
 refine W.seq ?_
 refine W.r fun K hK=>?_
 simp(disch:=omega)only[↓RU,RV,RH,↓reduceIte,qE,reduceCtorEq,if_pos,w64,↓RS,RG,qA,qM,qL,ty5,zaa,zac,hrow0,Int.toNat_zero,Nat.zero_mul,qZ]
 apply hK;clear hK K
 refine W.cond rfl (fun h=>?_) (fun h=>?_)
 ·try simp only[RL]at h
  have hul:=Nat.le_trans (zms p k) (Nat.mul_le_mul (show p.length+1≤7 by omega) (show k≤6 by omega))
  refine W.skip ?_
  refine xn ?_
  refine W.seq ?_
  refine W.block ?_
  refine W.r fun K hK=>?_
  simp(disch:=omega)only[↓RU,RV,RH,↓reduceIte,qE,reduceCtorEq,if_pos,↓RS,RG,qA,qM,qL]
  apply hK;clear hK K
  refine W.r fun K hK=>?_
  simp(disch:=omega)only[↓RU,RV,RH,↓reduceIte,qE,reduceCtorEq,if_pos,↓RS,RG,qA,qM,qL]
  apply hK;clear hK K
  refine W.block ?_
  refine W.loopZ [0,3,4,5,6] (fun n vs S=>∃ i v0 tk:Nat,n=(p.length+1) - i∧i≤(p.length+1)∧vs=[zav p,.loc 0 v0 0 (zfo p k (zdq p k) i).2.length,.int .i64 k,.int .i64 (zfo p k (zdq p k) i).1,.int .i64 i]∧S=⟨[.arr v0 34 1 ((zfo p k (zdq p k) i).2.map eInts)],tk⟩) ((p.length+1)) ?_ ?_
  ·refine ⟨1,[zav p,.loc 0 v0 0 (zfo p k (zdq p k) 0).2.length,.int .i64 k,.int .i64 (zfo p k (zdq p k) 0).1,.int .i64 0],⟨[.arr v0 34 1 ((zfo p k (zdq p k) 0).2.map eInts)],tk⟩,?_,?_,0,v0,tk,rfl,by omega,rfl,rfl⟩
   ·simp [-qU,Store.frz,zcj,zcy,za0,zbu,zby,zbt,zcs,zba,zbd,zbb,zaz,za1,zbz,zbc,zbv,za9,Env.put,Env.of,zaf,zbx,qP,qC] <;> simp [zfo]
   simp [-qU,Store.frz,zcj,zcy,za0,zbu,zby,zbt,zcs,zba,zbd,zbb,zaz,za1,zbz,zbc,zbv,za9,Env.put,Env.of,zaf,zbx,qP,qC] <;> simp [zfo]
  rintro n vs S - ⟨i,v0,tk,rfl,h_i,rfl,rfl⟩
  refine W.seq ?_
  refine W.r fun K hK=>?_
  simp(disch:=omega)only[↓RU,RV,RH,↓reduceIte,qE,reduceCtorEq,if_pos,w64,↓RS,RG,qA,qM,qL,ty5,zaa,zac]
  apply hK;clear hK K
  refine W.cond rfl (fun h1=>?_) (fun h1=>?_)
  ·try simp only[RL]at h1
   have hutl:=zu6 p k (zdq p k) i
   have hutb:=zti p k (zdq p k) i
   refine W.skip ?_
   refine xn ?_
   refine W.seq ?_
   refine W.block ?_
   refine W.join [0,3,4,5,6,7] (fun vs S=>vs=[zav p,.loc 0 v0 0 (zfo p k (zdq p k) i).2.length,.int .i64 k,.int .i64 (zfo p k (zdq p k) i).1,.int .i64 i,.bool (zhl p k i)]∧S=⟨[.arr v0 34 1 ((zfo p k (zdq p k) i).2.map eInts)],tk⟩) ?_ ?_
   ·
    refine W.draw_k (by kernel_rfl) fun K hK=>?_
    by_cases hip:i<p.length
    ·skip
     obtain ⟨r1,hr1,-⟩:=zag hip
     have hrl:=zdt hg hr1
     rw [hhd]at hrl
     obtain ⟨c1,hc1,-⟩:=zag (show k - 1<r1.length by omega)
     obtain ⟨c2,hc2,-⟩:=zag (show k<r1.length by omega)
     have hid:((i:Int)<(p.length:Int)):=by omega
     simp(disch:=omega)only[↓RU,RV,RH,↓reduceIte,qE,reduceCtorEq,if_pos,w64,↓RS,RG,qA,qM,qL,ty5,zaa,zac,zen,hid,decide_true,hr1,hc1,hc2,zbl]
     apply hK;clear hK K
     refine xn ?_
     refine ⟨1,?_,?_⟩
     all_goals simp [Env.put,Env.of,zbe,zhl,hip]
     try simp [zc0 hr1 hc1,zc0 hr1 hc2,yea,ztv]
    ·skip
     have hid:¬ ((i:Int)<(p.length:Int)):=by omega
     simp(disch:=omega)only[↓RU,RV,RH,↓reduceIte,qE,reduceCtorEq,if_pos,w64,↓RS,RG,qA,qM,qL,ty5,zaa,zac,zen,hid,decide_false]
     apply hK;clear hK K
     refine xn ?_
     refine ⟨1,?_,?_⟩
     all_goals simp [Env.put,Env.of,zbe,zhl,hip]
     try simp [zc0 hr1 hc1,zc0 hr1 hc2,yea,ztv]
   rintro vs S - ⟨rfl,rfl⟩
   refine W.seq ?_
   refine W.r fun K hK=>?_
   cases hw:zhl p k i
   ·skip
    simp(disch:=omega)only[↓RU,RV,RH,↓reduceIte,qE,reduceCtorEq,if_pos,w64,↓RS,RG,qA,qM,qL,zaa,hw]
    apply hK;clear hK K
    refine W.cond rfl (fun h2=>?_) (fun h2=>?_)
    ·try simp only[RL]at h2
     exact absurd h2 (by simp)
    try simp only[RL]at h2
    refine W.skip ?_
    refine xn ?_
    refine W.r fun K hK=>?_
    simp(disch:=omega)only[↓RU,RV,RH,↓reduceIte,qE,reduceCtorEq,if_pos,w64,↓RS,RG,qA,qM,qL,zaa]
    apply hK;clear hK K
    refine W.cond rfl (fun h3=>?_) (fun h3=>?_)
    ·try simp only[RL]at h3
     refine W.r fun K hK=>?_
     simp(disch:=omega)only[↓RU,RV,RH,↓reduceIte,qE,reduceCtorEq,if_pos,w64,↓RS,RG,qA,qM,qL,ty1,zab,zaa]
     apply hK;clear hK K
     refine W.k fun K hK=>?_
     simp(disch:=omega)only[↓RU,RV,RH,↓reduceIte,qE,reduceCtorEq,if_pos,↓RS,RG,qA,qM,qL]
     apply hK;clear hK K
     refine XbN ?_
     refine xn ?_
     refine W.k fun K hK=>?_
     simp(disch:=omega)only[↓RU,RV,RH,↓reduceIte,qE,reduceCtorEq,if_pos,w64,↓RS,RG,qA,qM,qL,zaa]
     apply hK;clear hK K
     refine xn ?_
     refine ⟨(p.length+1) - (i+1),by omega,1,[zav p,.loc 0 (tk+2) 0 (zfo p k (zdq p k) (i+1)).2.length,.int .i64 k,.int .i64 (zfo p k (zdq p k) (i+1)).1,.int .i64 (i+1)],⟨[.arr (tk+2) 34 1 ((zfo p k (zdq p k) (i+1)).2.map eInts)],(tk+3)⟩,?_,?_,(i+1),tk+2,tk+3,rfl,by omega,rfl,rfl⟩
     ·simp [-qU,Store.frz,zcj,zcy,za0,zbu,zby,zbt,zcs,zba,zbd,zbb,zaz,za1,zbz,zbc,zbv,za9,Env.put,Env.of,zaf,zbx,qP,qC,zfo,zgr,hw,h2,h3]
     simp [-qU,Store.frz,zcj,zcy,za0,zbu,zby,zbt,zcs,zba,zbd,zbb,zaz,za1,zbz,zbc,zbv,za9,Env.put,Env.of,zaf,zbx,qP,qC,zfo,zgr,hw,h2,h3]
    try simp only[RL]at h3
    refine W.skip ?_
    refine XbN ?_
    refine xn ?_
    refine W.k fun K hK=>?_
    simp(disch:=omega)only[↓RU,RV,RH,↓reduceIte,qE,reduceCtorEq,if_pos,w64,↓RS,RG,qA,qM,qL,zaa]
    apply hK;clear hK K
    refine xn ?_
    refine ⟨(p.length+1) - (i+1),by omega,1,[zav p,.loc 0 v0 0 (zfo p k (zdq p k) (i+1)).2.length,.int .i64 k,.int .i64 (zfo p k (zdq p k) (i+1)).1,.int .i64 (i+1)],⟨[.arr v0 34 1 ((zfo p k (zdq p k) (i+1)).2.map eInts)],tk⟩,?_,?_,(i+1),v0,tk,rfl,by omega,rfl,rfl⟩
    ·simp [-qU,Store.frz,zcj,zcy,za0,zbu,zby,zbt,zcs,zba,zbd,zbb,zaz,za1,zbz,zbc,zbv,za9,Env.put,Env.of,zaf,zbx,qP,qC,zfo,zgr,hw,h2,h3]
    simp [-qU,Store.frz,zcj,zcy,za0,zbu,zby,zbt,zcs,zba,zbd,zbb,zaz,za1,zbz,zbc,zbv,za9,Env.put,Env.of,zaf,zbx,qP,qC,zfo,zgr,hw,h2,h3]
   skip
   simp(disch:=omega)only[↓RU,RV,RH,↓reduceIte,qE,reduceCtorEq,if_pos,w64,↓RS,RG,qA,qM,qL,zaa,hw]
   apply hK;clear hK K
   refine W.cond rfl (fun h2=>?_) (fun h2=>?_)
   ·try simp only[RL]at h2
    refine W.k fun K hK=>?_
    simp(disch:=omega)only[↓RU,RV,RH,↓reduceIte,qE,reduceCtorEq,if_pos,↓RS,RG,qA,qM,qL]
    apply hK;clear hK K
    refine xn ?_
    refine W.r fun K hK=>?_
    simp(disch:=omega)only[↓RU,RV,RH,↓reduceIte,qE,reduceCtorEq,if_pos,w64,↓RS,RG,qA,qM,qL,zaa]
    apply hK;clear hK K
    refine W.cond rfl (fun h3=>?_) (fun h3=>?_)
    ·try simp only[RL]at h3
     exact absurd h3 (by simp)
    try simp only[RL]at h3
    refine W.skip ?_
    refine XbN ?_
    refine xn ?_
    refine W.k fun K hK=>?_
    simp(disch:=omega)only[↓RU,RV,RH,↓reduceIte,qE,reduceCtorEq,if_pos,w64,↓RS,RG,qA,qM,qL,zaa]
    apply hK;clear hK K
    refine xn ?_
    refine ⟨(p.length+1) - (i+1),by omega,1,[zav p,.loc 0 v0 0 (zfo p k (zdq p k) (i+1)).2.length,.int .i64 k,.int .i64 (zfo p k (zdq p k) (i+1)).1,.int .i64 (i+1)],⟨[.arr v0 34 1 ((zfo p k (zdq p k) (i+1)).2.map eInts)],tk⟩,?_,?_,(i+1),v0,tk,rfl,by omega,rfl,rfl⟩
    ·simp [-qU,Store.frz,zcj,zcy,za0,zbu,zby,zbt,zcs,zba,zbd,zbb,zaz,za1,zbz,zbc,zbv,za9,Env.put,Env.of,zaf,zbx,qP,qC,zfo,zgr,hw,h2,h3]
    simp [-qU,Store.frz,zcj,zcy,za0,zbu,zby,zbt,zcs,zba,zbd,zbb,zaz,za1,zbz,zbc,zbv,za9,Env.put,Env.of,zaf,zbx,qP,qC,zfo,zgr,hw,h2,h3]
   try simp only[RL]at h2
   refine W.skip ?_
   refine xn ?_
   refine W.r fun K hK=>?_
   simp(disch:=omega)only[↓RU,RV,RH,↓reduceIte,qE,reduceCtorEq,if_pos,w64,↓RS,RG,qA,qM,qL,zaa]
   apply hK;clear hK K
   refine W.cond rfl (fun h3=>?_) (fun h3=>?_)
   ·try simp only[RL]at h3
    exact absurd h3 (by simp)
   try simp only[RL]at h3
   refine W.skip ?_
   refine XbN ?_
   refine xn ?_
   refine W.k fun K hK=>?_
   simp(disch:=omega)only[↓RU,RV,RH,↓reduceIte,qE,reduceCtorEq,if_pos,w64,↓RS,RG,qA,qM,qL,zaa]
   apply hK;clear hK K
   refine xn ?_
   refine ⟨(p.length+1) - (i+1),by omega,1,[zav p,.loc 0 v0 0 (zfo p k (zdq p k) (i+1)).2.length,.int .i64 k,.int .i64 (zfo p k (zdq p k) (i+1)).1,.int .i64 (i+1)],⟨[.arr v0 34 1 ((zfo p k (zdq p k) (i+1)).2.map eInts)],tk⟩,?_,?_,(i+1),v0,tk,rfl,by omega,rfl,rfl⟩
   ·simp [-qU,Store.frz,zcj,zcy,za0,zbu,zby,zbt,zcs,zba,zbd,zbb,zaz,za1,zbz,zbc,zbv,za9,Env.put,Env.of,zaf,zbx,qP,qC,zfo,zgr,hw,h2,h3]
   simp [-qU,Store.frz,zcj,zcy,za0,zbu,zby,zbt,zcs,zba,zbd,zbb,zaz,za1,zbz,zbc,zbv,za9,Env.put,Env.of,zaf,zbx,qP,qC,zfo,zgr,hw,h2,h3]
  try simp only[RL]at h1
  refine W.exit ?_
  refine xe ?_
  refine xe ?_
  refine XBlock.hit ?_
  refine XbN ?_
  refine xn ?_
  refine W.k fun K hK=>?_
  simp(disch:=omega)only[↓RU,RV,RH,↓reduceIte,qE,reduceCtorEq,if_pos,w64,↓RS,RG,qA,qM,qL,zaa]
  apply hK;clear hK K
  refine xn ?_
  refine ⟨row0.length - (k+1),by omega,1,[zav p,.loc 0 v0 0 (zdq p (k+1)).length,.int .i64 (k+1)],⟨[.arr v0 34 1 ((zdq p (k+1)).map eInts)],tk⟩,?_,?_,(k+1),v0,tk,rfl,by omega,by omega,rfl,rfl⟩
  ·simp [-qU,Store.frz,zcj,zcy,za0,zbu,zby,zbt,zcs,zba,zbd,zbb,zaz,za1,zbz,zbc,zbv,za9,Env.put,Env.of,zaf,zbx,qP,qC] <;> (rw [znk h1k]; obtain rfl:i=p.length+1:=(by omega); simp)
  simp [-qU,Store.frz,zcj,zcy,za0,zbu,zby,zbt,zcs,zba,zbd,zbb,zaz,za1,zbz,zbc,zbv,za9,Env.put,Env.of,zaf,zbx,qP,qC] <;> (rw [znk h1k]; obtain rfl:i=p.length+1:=(by omega); simp)
 try simp only[RL]at h
 refine W.exit ?_
 refine xe ?_
 refine xe ?_
 refine XBlock.hit ?_
 refine xn ?_
 refine W.r fun K hK=>?_
 simp(disch:=omega)only[↓RU,RV,RH,↓reduceIte,qE,reduceCtorEq,if_pos,↓RS,RG,qA,qM,qL]
 apply hK;clear hK K
 refine W.ret ?_
 refine Br rfl ?_
 have hkp:k=row0.length:=by omega
 subst hkp
 rw [uprights,hhd]
 exact zcv (k:=9) rfl (by simp) (zm7 _)
def ycf (p:List Txt) (k0:Nat) (w:List Int):Prop :=
 ∃ k f l:Nat,w=[(k:Int),(f:Int),(l:Int)]∧1≤k∧k<k0∧1≤l∧f+l≤p.length∧∀ j,f≤j→j<f+l→zhl p k j=true
theorem z8w {p:List Txt} {k:Nat}:zhl p k p.length=false:=by simp [zhl]
theorem z8p {p:List Txt} {k k0:Nat} (hk:1≤k) (hk0:k<k0) {s0:List (List Int)} (h0:∀ w∈s0,ycf p k0 w):∀ i,i≤p.length+1 →
  (∀ w∈(zfo p k s0 i).2,ycf p k0 w)∧((zfo p k s0 i).1 = -1∨∃ f:Nat,(zfo p k s0 i).1=f∧f<i∧∀ j,f≤j→j<i→zhl p k j=true)
 | 0,_=>⟨h0,.inl rfl⟩
 | i+1,hi=>by
  obtain ⟨ih1,ih2⟩:=z8p hk hk0 h0 i (by omega)
  unfold zfo zgr
  cases hw:zhl p k i with
  | true =>
   simp only[Bool.true_and,decide_eq_true_eq,Bool.not_true,Bool.false_and,qF,if_false]
   refine ⟨ih1,.inr ?_⟩
   rcases ih2 with h | ⟨f,h,hf,hr⟩
   ·rw [h,if_pos (by omega)]
    exact ⟨i,rfl,by omega,fun j h1 h2=>by rw [show j=i by omega]; exact hw⟩
   rw [h,if_neg (by omega)]
   refine ⟨f,rfl,by omega,fun j h1 h2=>?_⟩
   by_cases hj:j=i
   ·rw [hj]; exact hw
   exact hr j h1 (by omega)
  | false =>
   simp only[Bool.false_and,qF,if_false,Bool.not_false,Bool.true_and,decide_eq_true_eq]
   rcases ih2 with h | ⟨f,h,hf,hr⟩
   ·rw [h,if_neg (by omega)]
    exact ⟨ih1,.inl rfl⟩
   rw [h,if_pos (by omega)]
   refine ⟨fun w hw'=>?_,.inl rfl⟩
   rcases List.mem_append.1 hw' with h1 | h1
   ·exact ih1 w h1
   rw [List.mem_singleton]at h1
   have hip:i≤p.length:=by omega
   refine ⟨k,f,i - f,by rw [h1]; simp; omega,hk,hk0,by omega,by omega,fun j h1 h2=>hr j h1 (by omega)⟩
theorem ycf.up {p:List Txt} {k k':Nat} (h:k≤k') {w:List Int} (hw:ycf p k w):ycf p k' w:=by
 obtain ⟨a,f,l,h1,h2,h3,h4⟩:=hw
 exact ⟨a,f,l,h1,h2,by omega,h4⟩
theorem zu8 (p:List Txt):∀ k,∀ w∈zdq p k,ycf p k w
 | 0,w,h=>by simp [zdq]at h
 | k+1,w,h=>by
  unfold zdq at h
  split at h
  ·rename_i hk
   exact (z8p hk (Nat.lt_succ_self k) (fun w hw=>(zu8 p k w hw).up (by omega)) _ (qR _)).1 w h
  exact (zu8 p k w h).up (by omega)
theorem z8u {p:List Txt} {w:List Int} (h:w∈uprights p):ycf p (zao p).length w:=zu8 p _ w h
theorem zyj {p:List Txt} {w:List Int} (h:w∈uprights p):w.length=3:=by
 obtain ⟨_,_,_,rfl,_⟩:=z8u h; rfl
theorem z5g {p:List Txt} {k i:Nat} {row:Txt} (h:p[i]?=some row):(zoj p k p.length)[i]?=some (row.getD k 0):=by
 simp [zoj,h]
theorem zyg {p:List Txt} {k:Nat} (h:k<(zao p).length):(zc8 p)[k]?=some (zoj p k p.length):=by
 simp [zc8,zkd,h]
theorem zmo {p:List Txt}:(zc8 p).length=(zao p).length:=by simp [zc8,zjs]
theorem zpa {p:List Txt} (h:0<(zao p).length):(zao (zc8 p)).length=p.length:=by
 rw [zc1 (zyg h)]; exact zh4 (qR _)
theorem z1a {p:List Txt} (h:zc4 p=true) {i k:Nat} {row:Txt} (hr:p[i]?=some row) (hk:k<(zao p).length):∃ c,row[k]?=some c∧zc9 c=true:=by
 have hl:=zdt h hr
 unfold zc4 at h
 simp only[qB,decide_eq_true_eq,List.all_eq_true]at h
 have:=h.1.1 row (List.mem_of_getElem? hr)
 simp only[zs8,qB,decide_eq_true_eq,List.all_eq_true]at this
 obtain ⟨c,hc,hm⟩:=zag (show k<row.length by omega)
 exact ⟨c,hc,this.2 c hm⟩
theorem zth {p:List Txt} (h:zc4 p=true):zc4 (zc8 p)=true:=by
 have hsm:=zce h
 obtain ⟨row0,hrow0,hrm0⟩:=zag hsm.1
 have hhd:=zc1 hrow0
 have hw1:=zfk h hrow0
 have hw6:=hsm.2.2 row0 hrm0
 have hlen:=zmo (p:=p)
 have hhd2:=zpa (p:=p) (by rw [hhd]; omega)
 rw [hhd]at hlen
 unfold zc4
 simp only[qB,decide_eq_true_eq,List.all_eq_true]
 refine ⟨⟨fun r hr=>?_,by omega⟩,by omega⟩
 simp only[zc8,zkd,List.mem_map,List.mem_range]at hr
 obtain ⟨k,hk,rfl⟩:=hr
 simp only[zs8,qB,decide_eq_true_eq,List.all_eq_true]
 refine ⟨⟨⟨by rw [hhd2]; exact zh4 (qR _),by rw [zh4 (qR _)]; omega⟩,by rw [zh4 (qR _)]; omega⟩,fun c hc=>?_⟩
 simp only[zoj,List.take_length,List.mem_map]at hc
 obtain ⟨row,hrm,rfl⟩:=hc
 obtain ⟨i,hi⟩:=List.mem_iff_getElem?.1 hrm
 obtain ⟨c,hc,hl⟩:=z1a h hi hk
 simpa [List.getD_eq_getElem?_getD,hc] using hl
theorem Sm.grid {p:List Txt} (h:zc4 p=true):Sm p:=by
 have:=zce h
 exact ⟨by omega,fun r hr=>by have:=this.2.2 r hr; omega⟩
theorem zih {p:List Txt} {i k:Nat} (h:i<p.length) (hk:k<(zao p).length):zal (zc8 p) k i=zal p i k:=by
 obtain ⟨row,hr,-⟩:=zag h
 simp [zal,zyg hk,z5g hr,hr,List.getD_eq_getElem?_getD]
def walls (p:List Txt):List (List Int):=(uprights p).map (0 :: ·)++(uprights (zc8 p)).map (1 :: ·)
def z0d (p:List Txt) (w:List Int):Prop :=
 ∃ kind line fr long:Nat,w=[(kind:Int),(line:Int),(fr:Int),(long:Int)]∧1≤line∧1≤long ∧
  ((kind=0∧line<(zao p).length∧fr+long≤p.length∧∀ j,fr≤j→j<fr+long→zal p j (line - 1)≠zal p j line) ∨
  (kind=1∧line<p.length∧fr+long≤(zao p).length∧∀ j,fr≤j→j<fr+long→zal p (line - 1) j≠zal p line j))
theorem zva {p:List Txt} (hg:zc4 p=true) {w:List Int} (h:w∈walls p):z0d p w:=by
 have hsm:=zce hg
 obtain ⟨row0,hrow0,hrm0⟩:=zag hsm.1
 have hhd:=zc1 hrow0
 have hw1:=zfk hg hrow0
 have hhd2:=zpa (p:=p) (by rw [hhd]; omega)
 unfold walls at h
 rcases List.mem_append.1 h with h | h
 ·obtain ⟨u,hu,rfl⟩:=List.mem_map.1 h
  obtain ⟨k,f,l,rfl,h1,h2,h3,h4,h5⟩:=z8u hu
  refine ⟨0,k,f,l,rfl,h1,h3,.inl ⟨rfl,h2,h4,fun j a b=>?_⟩⟩
  have:=h5 j a b
  simp only[zhl,qB,decide_eq_true_eq]at this
  exact this.2
 obtain ⟨u,hu,rfl⟩:=List.mem_map.1 h
 obtain ⟨k,f,l,rfl,h1,h2,h3,h4,h5⟩:=z8u hu
 rw [zmo]at h4
 rw [hhd2]at h2
 refine ⟨1,k,f,l,rfl,h1,h3,.inr ⟨rfl,h2,h4,fun j a b=>?_⟩⟩
 have:=h5 j a b
 simp only[zhl,qB,decide_eq_true_eq]at this
 rw [zih (by omega) (by omega),zih (by omega) (by omega)]at this
 exact this.2
def zhv (p:List Txt) (i:Nat):List (List Int):=((uprights p).take i).map (0 :: ·)
def zhk (p:List Txt) (j:Nat):List (List Int):=zhv p (uprights p).length++((uprights (zc8 p)).take j).map (1 :: ·)
theorem ztk {p:List Txt} {i:Nat} (h:i≤(uprights p).length):(zhv p i).length=i:=by simp [zhv]; omega
theorem z4s {p:List Txt} {j:Nat} (h:j≤(uprights (zc8 p)).length):(zhk p j).length=(uprights p).length+j:=by simp [zhk,ztk]; omega
theorem zri {p:List Txt} {i:Nat} {u:List Int} (h:(uprights p)[i]?=some u):zhv p (i+1)=zhv p i++[0::u]:=by simp [zhv,tk h]
theorem zrj {p:List Txt} {i:Nat} {u:List Int} (h:(uprights (zc8 p))[i]?=some u):zhk p (i+1)=zhk p i++[1::u]:=by simp [zhk,tk h]
theorem zrk {p:List Txt}:zhk p 0=zhv p (uprights p).length:=by simp [zhk]
theorem z4r {p:List Txt}:zhk p (uprights (zc8 p)).length=walls p:=by simp [zhk,zhv,walls]
theorem zyk {p:List Txt} (hg:zc4 p=true):(walls p).length≤84:=by
 have hsm:=zce hg
 obtain ⟨row0,hrow0,hrm0⟩:=zag hsm.1
 have hhd:=zc1 hrow0
 have hw1:=zfk hg hrow0
 have hw6:=hsm.2.2 row0 hrm0
 have hhd2:=zpa (p:=p) (by rw [hhd]; omega)
 have hl2:=zmo (p:=p)
 rw [hhd]at hl2
 have h1:=Nat.le_trans (zms p (zao p).length) (Nat.mul_le_mul (show p.length+1≤7 by omega) (show (zao p).length≤6 by rw [hhd]; omega))
 have h2:=Nat.le_trans (zms (zc8 p) (zao (zc8 p)).length) (Nat.mul_le_mul (show (zc8 p).length+1≤7 by omega) (show (zao (zc8 p)).length≤6 by omega))
 simp only[walls,uprights,List.length_append,List.length_map]
 omega
theorem z72 (row:Txt):∀ (n:Int),n≤zgq n row∧∀ (k:Nat) (c:UInt8),row[k]?=some c→(c.toNat:Int) - 97+1≤zgq n row:=by
 induction row with
 | nil=>intro n; exact ⟨Int.le_refl _,by simp⟩
 | cons a row ih =>
  intro n
  have h:=ih (max n ((a.toNat:Int) - 97+1))
  have e:zgq n (a::row)=zgq (max n ((a.toNat:Int) - 97+1)) row:=rfl
  rw [e]
  refine ⟨by omega,?_⟩
  rintro (_ | k) c hc
  ·simp at hc; subst hc; omega
  simp at hc; exact h.2 k c hc
theorem zs7 (p:List Txt):∀ (n:Int),n≤p.foldl zgq n∧∀ (i k:Nat) (row:Txt) (c:UInt8),p[i]?=some row→row[k]?=some c→(c.toNat:Int) - 97+1≤p.foldl zgq n:=by
 induction p with
 | nil=>intro n; exact ⟨Int.le_refl _,by simp⟩
 | cons r p ih =>
  intro n
  have h:=ih (zgq n r)
  have h2:=z72 r n
  simp only[List.foldl_cons]
  refine ⟨by omega,?_⟩
  rintro (_ | i) k row c hr hc
  ·simp at hr; subst hr
   have:=h2.2 k c hc; omega
  simp at hr; exact h.2 i k row c hr hc
theorem zoo {p:List Txt} (hg:zc4 p=true) {i k:Nat} (hi:i<p.length) (hk:k<(zao p).length):0≤zal p i k∧zal p i k<za2 p:=by
 obtain ⟨row,hr,-⟩:=zag hi
 obtain ⟨c,hc,hl⟩:=z1a hg hr hk
 rw [zc0 hr hc]
 have:=(zs7 p 0).2 i k row c hr hc
 simp only[zc9,qB,decide_eq_true_eq]at hl
 unfold za2
 omega
def orBit (ms:List Nat) (a b:Nat):List Nat:=ms.set a ((ms[a]?.getD 0) ||| 2 ^ b)
def justB (a:Nat) (ms:List Nat) (bs:List Int):List Nat:=bs.foldl (fun ms b=>orBit ms a b.toNat) ms
def justA (bs:List Int) (ms:List Nat) (la:List Int):List Nat:=la.foldl (fun ms a=>justB a.toNat ms bs) ms
def zcw (p:List Txt) (w:List Int):List Int × List Int :=
 match w with
 | [kind,line,fr,long]=>zdl p kind.toNat line.toNat fr.toNat long.toNat
 | _=>([],[])
def justW (p:List Txt) (kind:Int) (ms:List Nat) (w:List Int):List Nat :=
 if w[0]?.getD 0=kind then justA (zcw p w).2 ms (zcw p w).1 else ms
def just (p:List Txt) (kind:Int):List Nat:=(walls p).foldl (justW p kind) (List.replicate (za2 p).toNat 0)
def allA (c:Nat) (ms:List Nat) (a:Nat):List Nat:=if (ms[a]?.getD 0).testBit c then ms.set a ((ms[a]?.getD 0) ||| (ms[c]?.getD 0)) else ms
def yem (n:Nat) (ms:List Nat) (c:Nat):List Nat:=(List.range n).foldl (allA c) ms
def zvl (p:List Txt) (kind:Int):List Nat:=(List.range (just p kind).length).foldl (yem (just p kind).length) (just p kind)
def Msk (n:Nat) (ms:List Nat):Prop:=ms.length=n∧∀ m∈ms,m<512
theorem Msk.get {n:Nat} {ms:List Nat} (h:Msk n ms) (a:Nat):ms[a]?.getD 0<512:=by
 cases e:ms[a]? with
 | none=>simp
 | some m=>simpa using h.2 m (List.mem_of_getElem? e)
theorem z1m {a b:Nat} (ha:a<512) (hb:b<512):a ||| b<512:=Nat.or_lt_two_pow (n:=9) ha hb
theorem Msk.set {n:Nat} {ms:List Nat} (h:Msk n ms) {a m:Nat} (hm:m<512):Msk n (ms.set a m):=by
 refine ⟨by simpa using h.1,fun x hx=>?_⟩
 rcases List.mem_or_eq_of_mem_set hx with h1 | rfl
 ·exact h.2 x h1
 exact hm
theorem Msk.orBit {n:Nat} {ms:List Nat} (h:Msk n ms) {a b:Nat} (hb:b<9):Msk n (orBit ms a b) :=
 h.set (z1m (h.get a) (Nat.pow_lt_pow_right (by omega) hb))
theorem Msk.justB {n:Nat} {a:Nat}:∀ {bs:List Int} {ms:List Nat},Msk n ms→(∀ b∈bs,b.toNat<9)→Msk n (justB a ms bs)
 | [],ms,h,_=>h
 | b::bs,ms,h,hb=>by
  show Msk n (Fw.justB a (Fw.orBit ms a b.toNat) bs)
  exact Msk.justB (h.orBit (hb b (by simp))) fun x hx=>hb x (by simp [hx])
theorem Msk.justA {n:Nat} {bs:List Int} (hb:∀ b∈bs,b.toNat<9):∀ {la:List Int} {ms:List Nat},Msk n ms→Msk n (justA bs ms la)
 | [],ms,h=>h
 | a::la,ms,h=>by
  show Msk n (Fw.justA bs (Fw.justB a.toNat ms bs) la)
  exact Msk.justA hb (h.justB hb)
theorem Msk.allA {n c a:Nat} {ms:List Nat} (h:Msk n ms):Msk n (allA c ms a):=by
 unfold Fw.allA
 split
 ·exact h.set (z1m (h.get a) (h.get c))
 exact h
theorem Msk.foldl {n:Nat} {α:Type} {f:List Nat→α→List Nat}:∀ {l:List α} {ms:List Nat},(∀ ms,Msk n ms→∀ a∈l,Msk n (f ms a))→Msk n ms→Msk n (l.foldl f ms)
 | [],ms,_,h=>h
 | a::l,ms,hf,h=>Msk.foldl (l:=l) (fun ms hm x hx=>hf ms hm x (by simp [hx])) (hf ms h a (by simp))
theorem zl8 {l:List Int} {x y:Int} (h:y∈zi5 l x):y∈l∨y=x:=by
 unfold zi5 at h
 split at h
 ·exact .inl h
 simpa using h
theorem zre {p:List Txt} {kind line fr:Nat}:∀ n,
  (∀ x∈(zdl p kind line fr n).1,∃ j,j<n∧x=if kind=0 then zal p (fr+j) (line - 1) else zal p (line - 1) (fr+j)) ∧
  (∀ x∈(zdl p kind line fr n).2,∃ j,j<n∧x=if kind=0 then zal p (fr+j) line else zal p line (fr+j))
 | 0=>by simp [zdl]
 | n+1=>by
  obtain ⟨h1,h2⟩:=zre (p:=p) (kind:=kind) (line:=line) (fr:=fr) n
  unfold zdl
  simp only
  split
  ·rename_i hk
   simp only[hk,if_true]at h1 h2 ⊢
   constructor
   ·intro x hx
    rcases zl8 hx with h | h
    ·obtain ⟨j,hj,e⟩:=h1 x h; exact ⟨j,by omega,e⟩
    exact ⟨n,by omega,h⟩
   intro x hx
   rcases zl8 hx with h | h
   ·obtain ⟨j,hj,e⟩:=h2 x h; exact ⟨j,by omega,e⟩
   exact ⟨n,by omega,h⟩
  rename_i hk
  simp only[hk,if_false]at h1 h2 ⊢
  constructor
  ·intro x hx
   rcases zl8 hx with h | h
   ·obtain ⟨j,hj,e⟩:=h1 x h; exact ⟨j,by omega,e⟩
   exact ⟨n,by omega,h⟩
  intro x hx
  rcases zl8 hx with h | h
  ·obtain ⟨j,hj,e⟩:=h2 x h; exact ⟨j,by omega,e⟩
  exact ⟨n,by omega,h⟩
theorem zof {p:List Txt} (hg:zc4 p=true) {w:List Int} (hw:z0d p w) :
  (∀ x∈(zcw p w).1,0≤x∧x<za2 p)∧(∀ x∈(zcw p w).2,0≤x∧x<za2 p):=by
 obtain ⟨kind,line,fr,long,rfl,h1,h2,h3⟩:=hw
 simp only[zcw,Int.toNat_natCast]
 obtain ⟨m1,m2⟩:=zre (p:=p) (kind:=kind) (line:=line) (fr:=fr) long
 refine ⟨fun x hx=>?_,fun x hx=>?_⟩
 ·obtain ⟨j,hj,rfl⟩:=m1 x hx
  rcases h3 with ⟨rfl,a,b,_⟩ | ⟨rfl,a,b,_⟩
  ·exact zoo hg (by omega) (by omega)
  exact zoo hg (by omega) (by omega)
 obtain ⟨j,hj,rfl⟩:=m2 x hx
 rcases h3 with ⟨rfl,a,b,_⟩ | ⟨rfl,a,b,_⟩
 ·exact zoo hg (by omega) (by omega)
 exact zoo hg (by omega) (by omega)
theorem Msk.justW {p:List Txt} (hg:zc4 p=true) (h9:za2 p≤9) {n:Nat} {ms:List Nat} (h:Msk n ms) {kind:Int} {w:List Int} (hw:z0d p w):Msk n (justW p kind ms w):=by
 unfold Fw.justW
 split
 ·exact Msk.justA (fun b hb=>by have:=(zof hg hw).2 b hb; omega) h
 exact h
theorem zow {p:List Txt} (hg:zc4 p=true) (h9:za2 p≤9) (kind:Int):Msk (za2 p).toNat (just p kind) :=
 Msk.foldl (fun _ hm _ hw=>hm.justW hg h9 (zva hg hw)) ⟨by simp,fun m hm=>by rw [(List.mem_replicate.1 hm).2]; omega⟩
theorem ztu {p:List Txt} (hg:zc4 p=true) (h9:za2 p≤9) (kind:Int):Msk (za2 p).toNat (zvl p kind) :=
 Msk.foldl (fun _ hm _ _=>Msk.foldl (fun _ hm _ _=>hm.allA) hm) (zow hg h9 kind)
theorem w_or {a b:Nat} (ha:a<1048576) (hb:b<1048576):IntKind.i64.wrap ((BitVec.ofInt IntKind.i64.bits (a:Int) ||| BitVec.ofInt IntKind.i64.bits (b:Int)).toNat:Int)=((a ||| b:Nat):Int):=by
 have h1:(BitVec.ofInt 64 (a:Int)).toNat=a:=by simp [BitVec.toNat_ofInt]; omega
 have h2:(BitVec.ofInt 64 (b:Int)).toNat=b:=by simp [BitVec.toNat_ofInt]; omega
 have h3:(BitVec.ofInt IntKind.i64.bits (a:Int) ||| BitVec.ofInt IntKind.i64.bits (b:Int)).toNat=a ||| b:=by
  show (BitVec.ofInt 64 (a:Int) ||| BitVec.ofInt 64 (b:Int)).toNat=_
  rw [BitVec.toNat_or,h1,h2]
 have h4:a ||| b<1048576:=Nat.or_lt_two_pow (n:=20) ha hb
 rw [h3]
 exact w64 (by omega) (by omega)
theorem ygv {b:Nat} (hb:b<20):IntKind.i64.wrap (1*2 ^ (min b IntKind.i64.bits))=((2 ^ b:Nat):Int):=by
 have h1:min b IntKind.i64.bits=b:=by simp [IntKind.bits]; omega
 have h2:(2:Nat) ^ b<2 ^ 20:=Nat.pow_lt_pow_right (by omega) hb
 rw [h1,Int.one_mul,show (2:Int) ^ b=((2 ^ b:Nat):Int) by simp]
 generalize (2:Nat) ^ b=x at h2 ⊢
 exact w64 (by omega) (by omega)
theorem z4p {m c:Nat} (hm:m<1048576) (hc:c<64):(IntKind.i64.wrap ((BitVec.ofInt IntKind.i64.bits ((m:Int).fdiv (2 ^ (min c IntKind.i64.bits))) &&& BitVec.ofInt IntKind.i64.bits 1).toNat:Int) == 1)=m.testBit c:=by
 have h1:min c IntKind.i64.bits=c:=by simp [IntKind.bits]; omega
 have h2:(m:Int).fdiv (2 ^ c)=((m / 2 ^ c:Nat):Int):=by
  rw [show (2:Int) ^ c=((2 ^ c:Nat):Int) by simp,Int.fdiv_eq_ediv_of_nonneg _ (Int.natCast_nonneg _)]
  norm_cast
 have h3:m / 2 ^ c≤m:=Nat.div_le_self _ _
 have h4:(BitVec.ofInt 64 ((m / 2 ^ c:Nat):Int)).toNat=m / 2 ^ c:=by
  generalize m / 2 ^ c=x at h3 ⊢
  simp [BitVec.toNat_ofInt]; omega
 have h5:(BitVec.ofInt IntKind.i64.bits ((m / 2 ^ c:Nat):Int) &&& BitVec.ofInt IntKind.i64.bits 1).toNat=(m / 2 ^ c) % 2:=by
  show (BitVec.ofInt 64 ((m / 2 ^ c:Nat):Int) &&& BitVec.ofInt 64 1).toNat=_
  rw [BitVec.toNat_and,h4]
  show m / 2 ^ c &&& 1=_
  exact Nat.and_one_is_mod _
 rw [h1,h2,h5,w64 (by omega) (by omega),Nat.testBit_eq_decide_div_mod_eq]
 by_cases h:m / 2 ^ c % 2=1
 ·simp [h]
 have:m / 2 ^ c % 2=0:=by omega
 simp [this]
abbrev zy1 (l:List Nat):PV := .sl (l.map fun m:Nat=>PV.int .i64 m) l.length
theorem zur:∀ (n:Nat),repz [PV.int .i64 0] n=(List.replicate n 0).map fun m:Nat=>PV.int .i64 m
 | 0=>rfl
 | n+1=>by rw [zhc,zur n,List.replicate_succ]; rfl
theorem z9y {S:Store} {im:Bool} {k:Nat} (l:List Nat):(l.map fun m:Nat=>PV.int .i64 m).mapM (reify S im (k+1))=some (l.map fun m:Nat=>PV.int .i64 m) :=
 zco fun x hx=>by obtain ⟨a,_,rfl⟩:=List.mem_map.1 hx; rfl
theorem yfp {S:Store} {im:Bool} {k:Nat} (l:List Nat):(l.map fun m:Nat=>PV.int .i64 m).mapM (sh S im (k+1))=some (l.map fun m:Nat=>PV.int .i64 m) :=
 zco fun x hx=>by obtain ⟨a,_,rfl⟩:=List.mem_map.1 hx; rfl
theorem zzx {S:Store} {im:Bool} {k:Nat} {q:IntKind} (l:List Int):(l.map (PV.int q)).mapM (sh S im (k+1))=some (l.map (PV.int q)) :=
 zco fun x hx=>by obtain ⟨a,_,rfl⟩:=List.mem_map.1 hx; rfl
theorem z2k {S:Store} {im:Bool} {v et n:Nat} {cells:List PV} {R:List Ob} (hS:S.obs = .arr v et 1 cells::R) (hc:cells.mapM (sh (S.take 1) im 10)=some cells) :
  ∃ k,sh (S.take k) im 10 (.loc 0 v 0 n)=some (.loc 0 0 0 n)∧zi6 (S.take k) im (S.take k).obs=some [.arr 0 et 1 cells]:=by
 refine ⟨1,?_,?_⟩
 ·simp [sh,Store.take,hS]
 have e:(S.take 1).obs=[.arr v et 1 cells]:=by simp [Store.take,hS]
 rw [e]
 simp [zi6,zyo,hc]
theorem zer {α β:Type} {f:β→α→β} {z:β} {l:List α} {i:Nat} {a:α} (h:l[i]?=some a):(l.take (i+1)).foldl f z=f ((l.take i).foldl f z) a:=by
 simp [tk h,List.foldl_append]
theorem Msk.at_ {n:Nat} {ms:List Nat} (h:Msk n ms) {a:Nat} (ha:a<n):∃ m,ms[a]?=some m∧m<512:=by
 obtain ⟨m,hm,h2⟩:=zag (show a<ms.length by rw [h.1]; exact ha)
 exact ⟨m,hm,h.2 m h2⟩
theorem zes {a b:Int} (h:a≤b):(a≤b)=True:=eq_true h
theorem z7i {b:Nat} (h:b<9):2 ^ b<512:=Nat.pow_lt_pow_right (a:=2) (n:=9) (by omega) h
theorem pShl {k:IntKind} {a:Int} {b:Nat}:zoa .shl k a (b:Int)=some (.int k (k.wrap (a*2 ^ (min b k.bits)))):=by
 simp [zoa,show ¬ ((b:Int)<0) by omega]
theorem yeh {k:IntKind} {a:Int} {b:Nat}:zoa .shr k a (b:Int)=some (.int k (a.fdiv (2 ^ (min b k.bits)))):=by
 simp [zoa,show ¬ ((b:Int)<0) by omega]
theorem z4e {p:List Txt} (hg:zc4 p=true) {w:List Int} (hw:z0d p w):(zcw p w).1.length≤6∧(zcw p w).2.length≤6:=by
 have hsm:=zce hg
 obtain ⟨row0,hrow0,hrm0⟩:=zag hsm.1
 have hhd:=zc1 hrow0
 have hw6:=hsm.2.2 row0 hrm0
 obtain ⟨kind,line,fr,long,rfl,h1,h2,h3⟩:=hw
 have h4:=zk8 (p:=p) (kind:=kind) (line:=line) (fr:=fr) long
 simp only[zcw,Int.toNat_natCast]
 rw [hhd]at h3
 omega
theorem z1l {ms:List Nat} {a b m:Nat} (h:ms[a]?=some m):orBit ms a b=ms.set a (m ||| 2 ^ b):=by simp [orBit,h]
theorem zb5 {α:Type} {f:α→PV} {l:List α} {a:Nat} {v:PV} (h:a<l.length):(l.map f).take a++[v]++(l.map f).drop (a+1)=(l.map f).set a v:=by
 rw [List.set_eq_take_append_cons_drop,if_pos (by simpa using h)]; simp
theorem z8d {l:List Nat} {a m:Nat}:(l.map fun m:Nat=>PV.int .i64 m).set a (.int .i64 (m:Int))=(l.set a m).map fun m:Nat=>PV.int .i64 m:=by
 rw [List.map_set]
theorem zd6 {l:List Int} {q:IntKind} {a:Nat} {m:Int}:(l.map (PV.int q)).set a (.int q m)=(l.set a m).map (PV.int q):=by
 rw [List.map_set]
theorem zct {β:Type} {f:β→Nat→β} {z:β} {i:Nat}:(List.range (i+1)).foldl f z=f ((List.range i).foldl f z) i:=by
 simp [qS,List.foldl_append]
theorem z0f {ms:List Nat} {c a m k:Nat} (h:ms[a]?=some m) (hc:ms[c]?=some k) (hb:m.testBit c=true):allA c ms a=ms.set a (m ||| k):=by simp [allA,h,hc,hb]
theorem z41 {ms:List Nat} {c a m:Nat} (h:ms[a]?=some m) (hb:m.testBit c=false):allA c ms a=ms:=by simp [allA,h,hb]
theorem z3n {p:List Txt} (hs:Sm p) (hg:zc4 p=true):PC Tryz.prog 116 [zav p] (.sl ((walls p).map eInts) (walls p).length) false:=by
 have hp:=hs.rows
 have hsm:=zce hg
 obtain ⟨row0,hrow0,hrm0⟩:=zag hsm.1
 have hhd:=zc1 hrow0
 have hw6:=hsm.2.2 row0 hrm0
 have hw1:=zfk hg hrow0
 have hwl:=zyk hg
 simp only[walls,List.length_append,List.length_map]at hwl
 refine PC.of ⟨Tryz.func116,by kernel_rfl,rfl,by kernel_rfl⟩ zap mixed (by show 1≤Tryz.f116.ntmps; decide) ?_
 refine W.r fun K hK=>?_
 simp(disch:=omega)only[↓RU,RV,RH,↓reduceIte,qE,reduceCtorEq,if_pos,↓RS,RG,qA,qM,qL]
 apply hK;clear hK K
 refine W.r fun K hK=>?_
 simp(disch:=omega)only[↓RU,RV,RH,↓reduceIte,qE,reduceCtorEq,if_pos,↓RS,RG,qA,qM,qL,ty1,zab,zaa]
 apply hK;clear hK K
 refine W.r fun K hK=>?_
 simp(disch:=omega)only[↓RU,RV,RH,↓reduceIte,qE,reduceCtorEq,if_pos,qN,↓RS,RG,qA,qM,qL]
 refine zad.pc (zn3 hs hg) rfl (.inr rfl) ?_
 simp(disch:=omega)only[↓RU,RV,RH,↓reduceIte,qE,reduceCtorEq,if_pos,qN,↓RS,RG,qA,qM,qL]
 apply hK;clear hK K
 refine W.seq ?_
 refine W.r fun K hK=>?_
 simp(disch:=omega)only[↓RU,RV,RH,↓reduceIte,qE,reduceCtorEq,if_pos,↓RS,RG,qA,qM,qL]
 apply hK;clear hK K
 refine W.block ?_
 refine W.loopZ [0,3,4,5] (fun n vs S=>∃ i v0 tk:Nat,n=(uprights p).length - i∧i≤(uprights p).length∧vs=[zav p,.loc 0 v0 0 (zhv p i).length,.sl ((uprights p).map eInts) (uprights p).length,.int .i64 i]∧S=⟨[.arr v0 34 1 ((zhv p i).map eInts)],tk⟩) ((uprights p).length) ?_ ?_
 ·refine ⟨1,[zav p,.loc 0 0 0 (zhv p 0).length,.sl ((uprights p).map eInts) (uprights p).length,.int .i64 0],⟨[.arr 0 34 1 ((zhv p 0).map eInts)],1⟩,?_,?_,0,0,1,rfl,by omega,rfl,rfl⟩
  ·rfl
  rfl
 rintro n vs S - ⟨i,v0,tk,rfl,h_i,rfl,rfl⟩
 refine W.seq ?_
 refine W.r fun K hK=>?_
 simp(disch:=omega)only[↓RU,RV,RH,↓reduceIte,qE,reduceCtorEq,if_pos,w64,↓RS,RG,qA,qM,qL,ty1,zab,zaa]
 apply hK;clear hK K
 refine W.cond rfl (fun h=>?_) (fun h=>?_)
 ·try simp only[RL]at h
  obtain ⟨u,hu,hum⟩:=zag (show i<(uprights p).length by omega)
  have hu3:=zyj hum
  have htl:=ztk h_i
  refine W.skip ?_
  refine xn ?_
  refine W.seq ?_
  refine W.block ?_
  refine W.k fun K hK=>?_
  simp(disch:=omega)only[↓RU,RV,RH,↓reduceIte,qE,reduceCtorEq,if_pos,↓RS,RG,qA,qM,qL,ty1,zab,zaa,hu,htl,hu3]
  apply hK;clear hK K
  refine XbN ?_
  refine xn ?_
  refine W.k fun K hK=>?_
  simp(disch:=omega)only[↓RU,RV,RH,↓reduceIte,qE,reduceCtorEq,if_pos,w64,↓RS,RG,qA,qM,qL,zaa]
  apply hK;clear hK K
  refine xn ?_
  refine ⟨(uprights p).length - (i+1),by omega,1,[zav p,.loc 0 (tk+3) 0 (zhv p (i+1)).length,.sl ((uprights p).map eInts) (uprights p).length,.int .i64 (i+1)],⟨[.arr (tk+3) 34 1 ((zhv p (i+1)).map eInts)],(tk+4)⟩,?_,?_,(i+1),tk+3,tk+4,rfl,by omega,rfl,rfl⟩
  ·simp [-qU,Store.frz,zcj,zcy,za0,zbu,zby,zbt,zcs,zba,zbd,zbb,zaz,za1,zbz,zbc,zbv,za9,Env.put,Env.of,zaf,zbx,qP,qC,hu3,zmn,zri hu,htl]
  simp [-qU,Store.frz,zcj,zcy,za0,zbu,zby,zbt,zcs,zba,zbd,zbb,zaz,za1,zbz,zbc,zbv,za9,Env.put,Env.of,zaf,zbx,qP,qC,hu3,zmn,zri hu,htl]
 try simp only[RL]at h
 obtain rfl:i=(uprights p).length:=by omega
 refine W.exit ?_
 refine xe ?_
 refine xe ?_
 refine XBlock.hit ?_
 refine xn ?_
 refine W.r fun K hK=>?_
 simp(disch:=omega)only[↓RU,RV,RH,↓reduceIte,qE,reduceCtorEq,if_pos,qN,↓RS,RG,qA,qM,qL]
 refine zad.pc (z3k hs hg) rfl (.inl rfl) ?_
 simp(disch:=omega)only[↓RU,RV,RH,↓reduceIte,qE,reduceCtorEq,if_pos,qN,↓RS,RG,qA,qM,qL]
 refine zad.pc (zn3 (Sm.grid (zth hg)) (zth hg)) rfl (.inr rfl) ?_
 simp(disch:=omega)only[↓RU,RV,RH,↓reduceIte,qE,reduceCtorEq,if_pos,qN,↓RS,RG,qA,qM,qL]
 apply hK;clear hK K
 refine W.seq ?_
 refine W.r fun K hK=>?_
 simp(disch:=omega)only[↓RU,RV,RH,↓reduceIte,qE,reduceCtorEq,if_pos,↓RS,RG,qA,qM,qL]
 apply hK;clear hK K
 refine W.block ?_
 refine W.loopZ [0,3,6,7] (fun n vs S=>∃ j v0 tk:Nat,n=(uprights (zc8 p)).length - j∧j≤(uprights (zc8 p)).length∧vs=[zav p,.loc 0 v0 0 (zhk p j).length,.sl ((uprights (zc8 p)).map eInts) (uprights (zc8 p)).length,.int .i64 j]∧S=⟨[.arr v0 34 1 ((zhk p j).map eInts)],tk⟩) ((uprights (zc8 p)).length) ?_ ?_
 ·refine ⟨1,[zav p,.loc 0 v0 0 (zhk p 0).length,.sl ((uprights (zc8 p)).map eInts) (uprights (zc8 p)).length,.int .i64 0],⟨[.arr v0 34 1 ((zhk p 0).map eInts)],tk⟩,?_,?_,0,v0,tk,rfl,by omega,rfl,rfl⟩
  ·simp [-qU,Store.frz,zcj,zcy,za0,zbu,zby,zbt,zcs,zba,zbd,zbb,zaz,za1,zbz,zbc,zbv,za9,Env.put,Env.of,zaf,zbx,qP,qC] <;> simp [zrk]
  simp [-qU,Store.frz,zcj,zcy,za0,zbu,zby,zbt,zcs,zba,zbd,zbb,zaz,za1,zbz,zbc,zbv,za9,Env.put,Env.of,zaf,zbx,qP,qC] <;> simp [zrk]
 rintro n vs S - ⟨j,v0,tk,rfl,h_j,rfl,rfl⟩
 refine W.seq ?_
 refine W.r fun K hK=>?_
 simp(disch:=omega)only[↓RU,RV,RH,↓reduceIte,qE,reduceCtorEq,if_pos,w64,↓RS,RG,qA,qM,qL,ty1,zab,zaa]
 apply hK;clear hK K
 refine W.cond rfl (fun h2=>?_) (fun h2=>?_)
 ·try simp only[RL]at h2
  obtain ⟨u,hu,hum⟩:=zag (show j<(uprights (zc8 p)).length by omega)
  have hu3:=zyj hum
  have htl:=z4s h_j
  refine W.skip ?_
  refine xn ?_
  refine W.seq ?_
  refine W.block ?_
  refine W.k fun K hK=>?_
  simp(disch:=omega)only[↓RU,RV,RH,↓reduceIte,qE,reduceCtorEq,if_pos,↓RS,RG,qA,qM,qL,ty1,zab,zaa,hu,htl,hu3]
  apply hK;clear hK K
  refine XbN ?_
  refine xn ?_
  refine W.k fun K hK=>?_
  simp(disch:=omega)only[↓RU,RV,RH,↓reduceIte,qE,reduceCtorEq,if_pos,w64,↓RS,RG,qA,qM,qL,zaa]
  apply hK;clear hK K
  refine xn ?_
  refine ⟨(uprights (zc8 p)).length - (j+1),by omega,1,[zav p,.loc 0 (tk+3) 0 (zhk p (j+1)).length,.sl ((uprights (zc8 p)).map eInts) (uprights (zc8 p)).length,.int .i64 (j+1)],⟨[.arr (tk+3) 34 1 ((zhk p (j+1)).map eInts)],(tk+4)⟩,?_,?_,(j+1),tk+3,tk+4,rfl,by omega,rfl,rfl⟩
  ·simp [-qU,Store.frz,zcj,zcy,za0,zbu,zby,zbt,zcs,zba,zbd,zbb,zaz,za1,zbz,zbc,zbv,za9,Env.put,Env.of,zaf,zbx,qP,qC,hu3,zmn,zrj hu,htl]
  simp [-qU,Store.frz,zcj,zcy,za0,zbu,zby,zbt,zcs,zba,zbd,zbb,zaz,za1,zbz,zbc,zbv,za9,Env.put,Env.of,zaf,zbx,qP,qC,hu3,zmn,zrj hu,htl]
 try simp only[RL]at h2
 obtain rfl:j=(uprights (zc8 p)).length:=by omega
 refine W.exit ?_
 refine xe ?_
 refine xe ?_
 refine XBlock.hit ?_
 refine xn ?_
 refine W.r fun K hK=>?_
 simp(disch:=omega)only[↓RU,RV,RH,↓reduceIte,qE,reduceCtorEq,if_pos,↓RS,RG,qA,qM,qL]
 apply hK;clear hK K
 refine W.ret ?_
 refine Br rfl ?_
 rw [z4r]
 exact zcv (k:=9) rfl (by simp) (zm7 _)
theorem z6a {p:List Txt} (hs:Sm p) (hg:zc4 p=true) (h9:za2 p≤9) (kind:Int):PN Tryz.prog 104 [zav p,.int .i64 kind] (.loc 0 0 0 (just p kind).length) [.arr 0 3 1 ((just p kind).map fun m:Nat=>PV.int .i64 m)] false:=by
 have hrb:=zdp p
 have hwl:=zyk hg
 obtain ⟨R,hR⟩:∃ R:Nat,za2 p=R:=⟨(za2 p).toNat,by omega⟩
 refine PN.of ⟨Tryz.func104,by kernel_rfl,rfl,by kernel_rfl⟩ zap mixed (by show 2≤Tryz.f104.ntmps; decide) ?_
 refine W.r fun K hK=>?_
 simp(disch:=omega)only[↓RU,RV,RH,↓reduceIte,qE,reduceCtorEq,if_pos,↓RS,RG,qA,qM,qL]
 apply hK;clear hK K
 refine W.r fun K hK=>?_
 simp(disch:=omega)only[↓RU,RV,RH,↓reduceIte,qE,reduceCtorEq,if_pos,qN,↓RS,RG,qA,qM,qL,zab,zaa,hR,zur,zes]
 refine zad.pc (zg0 hs) rfl (.inl rfl) ?_
 simp(disch:=omega)only[↓RU,RV,RH,↓reduceIte,qE,reduceCtorEq,if_pos,qN,↓RS,RG,qA,qM,qL,zab,zaa,hR,zur,zes]
 apply hK;clear hK K
 refine W.r fun K hK=>?_
 simp(disch:=omega)only[↓RU,RV,RH,↓reduceIte,qE,reduceCtorEq,if_pos,qN,↓RS,RG,qA,qM,qL]
 refine zad.pc (z3n hs hg) rfl (.inr rfl) ?_
 simp(disch:=omega)only[↓RU,RV,RH,↓reduceIte,qE,reduceCtorEq,if_pos,qN,↓RS,RG,qA,qM,qL]
 apply hK;clear hK K
 refine W.seq ?_
 refine W.r fun K hK=>?_
 simp(disch:=omega)only[↓RU,RV,RH,↓reduceIte,qE,reduceCtorEq,if_pos,↓RS,RG,qA,qM,qL]
 apply hK;clear hK K
 refine W.block ?_
 refine W.loop [0,1,5,6,7] (fun n vs S=>∃ i:Nat,n=(walls p).length - i∧i≤(walls p).length∧vs=[zav p,.int .i64 kind,.loc 0 0 0 (za2 p).toNat,.sl ((walls p).map eInts) (walls p).length,.int .i64 i]∧S=⟨[.arr 0 3 1 ((((walls p).take i).foldl (justW p kind) (List.replicate (za2 p).toNat 0)).map fun m:Nat=>PV.int .i64 m)],1⟩) ((walls p).length) ?_ ?_
 ·refine ⟨1,0,rfl,Nat.zero_le _,?_,by simp [hR,zbe,Env.put,Env.of,zaf]⟩
  simp [Env.put,Env.of,zaf,hR]
 rintro n vs S - ⟨i,rfl,h_i,rfl,rfl⟩
 refine W.seq ?_
 refine W.r fun K hK=>?_
 simp(disch:=omega)only[↓RU,RV,RH,↓reduceIte,qE,reduceCtorEq,if_pos,w64,↓RS,RG,qA,qM,qL,ty1,zab,zaa]
 apply hK;clear hK K
 refine W.cond rfl (fun h=>?_) (fun h=>?_)
 ·try simp only[RL]at h
  obtain ⟨w,hw,hwm⟩:=zag (show i<(walls p).length by omega)
  have hok:=zva hg hwm
  have hsr:=zof hg hok
  have hsl:=z4e hg hok
  obtain ⟨wk,wl,wf,wg,hwe,hw1,hw2,hw3⟩:=hok
  have hM:Msk (za2 p).toNat (((walls p).take i).foldl (justW p kind) (List.replicate (za2 p).toNat 0)):=Msk.foldl (fun _ hm _ hw=>hm.justW hg h9 (zva hg (List.mem_of_mem_take hw))) ⟨by simp,fun m hm=>by rw [(List.mem_replicate.1 hm).2]; omega⟩
  generalize hMe:((walls p).take i).foldl (justW p kind) (List.replicate (za2 p).toNat 0)=M at hM
  refine W.skip ?_
  refine xn ?_
  refine W.seq ?_
  refine W.block ?_
  refine W.seq ?_
  refine W.r fun K hK=>?_
  simp(disch:=omega)only[↓RU,RV,RH,↓reduceIte,qE,reduceCtorEq,if_pos,w64,↓RS,RG,qA,qM,qL,ty1,zab,zaa,hw,hwe,hMe]
  apply hK;clear hK K
  refine W.cond rfl (fun h1=>?_) (fun h1=>?_)
  ·try simp only[RL]at h1
   have hjs:justW p kind M w=M:=by simp [justW,hwe,h1]
   refine W.exit ?_
   refine xe ?_
   refine XBlock.hit ?_
   refine xn ?_
   refine W.k fun K hK=>?_
   simp(disch:=omega)only[↓RU,RV,RH,↓reduceIte,qE,reduceCtorEq,if_pos,w64,↓RS,RG,qA,qM,qL,zaa]
   apply hK;clear hK K
   refine xn ?_
   refine ⟨(walls p).length - (i+1),by omega,1,i+1,rfl,by omega,?_,?_⟩
   ·simp [Env.put,Env.of]
   simp only[zbe,zer hw,hMe,hjs]; rfl
  try simp only[RL]at h1
  have hjs:justW p kind M w=justA (zcw p w).2 M (zcw p w).1:=by simp [justW,hwe,h1]
  refine W.skip ?_
  refine xn ?_
  refine W.r fun K hK=>?_
  simp(disch:=omega)only[↓RU,RV,RH,↓reduceIte,qE,reduceCtorEq,if_pos,qN,↓RS,RG,qA,qM,qL,ty1,zab,zaa,hw,hwe]
  refine zad.pc (z3m hs hg (kind:=wk) (line:=wl) (fr:=wf) (long:=wg) hw1 (fun h=>by omega) (fun h=>by omega)) rfl (.inl rfl) ?_
  simp(disch:=omega)only[↓RU,RV,RH,↓reduceIte,qE,reduceCtorEq,if_pos,qN,↓RS,RG,qA,qM,qL,ty1,zab,zaa,hw,hwe]
  apply hK;clear hK K
  have hA:zdl p wk wl wf wg=zcw p w:=by simp [zcw,hwe]
  rw [hA]
  refine W.r fun K hK=>?_
  simp(disch:=omega)only[↓RU,RV,RH,↓reduceIte,qE,reduceCtorEq,if_pos,↓RS,RG,qA,qM,qL]
  apply hK;clear hK K
  refine W.block ?_
  refine W.loop [0,1,5,6,7,8,9,10] (fun n vs S=>∃ x:Nat,n=(zcw p w).1.length - x∧x≤(zcw p w).1.length∧vs=[zav p,.int .i64 kind,.loc 0 0 0 (za2 p).toNat,.sl ((walls p).map eInts) (walls p).length,.int .i64 i,eInts (zcw p w).1,eInts (zcw p w).2,.int .i64 x]∧S=⟨[.arr 0 3 1 ((((zcw p w).1.take x).foldl (fun ms a=>justB a.toNat ms (zcw p w).2) M).map fun m:Nat=>PV.int .i64 m)],1⟩) ((zcw p w).1.length) ?_ ?_
  ·refine ⟨1,0,rfl,Nat.zero_le _,?_,by simp [zbe]⟩
   simp [Env.put,Env.of]
  rintro n vs S - ⟨x,rfl,h_x,rfl,rfl⟩
  refine W.seq ?_
  refine W.r fun K hK=>?_
  simp(disch:=omega)only[↓RU,RV,RH,↓reduceIte,qE,reduceCtorEq,if_pos,w64,↓RS,RG,qA,qM,qL,zab,zaa]
  apply hK;clear hK K
  refine W.cond rfl (fun h2=>?_) (fun h2=>?_)
  ·try simp only[RL]at h2
   obtain ⟨a,ha,ham⟩:=zag (show x<(zcw p w).1.length by omega)
   have hab:=hsr.1 a ham
   obtain ⟨a,rfl⟩:∃ a2:Nat,a=a2:=⟨a.toNat,by omega⟩
   have hX:Msk (za2 p).toNat (((zcw p w).1.take x).foldl (fun ms a=>justB a.toNat ms (zcw p w).2) M):=Msk.foldl (fun _ hm _ _=>hm.justB fun b hb=>by have:=hsr.2 b hb; omega) hM
   generalize hXe:((zcw p w).1.take x).foldl (fun ms a=>justB a.toNat ms (zcw p w).2) M=X at hX
   refine W.skip ?_
   refine xn ?_
   refine W.seq ?_
   refine W.block ?_
   refine W.r fun K hK=>?_
   simp(disch:=omega)only[↓RU,RV,RH,↓reduceIte,qE,reduceCtorEq,if_pos,↓RS,RG,qA,qM,qL]
   apply hK;clear hK K
   refine W.block ?_
   refine W.loop [0,1,5,6,7,8,9,10,11] (fun n vs S=>∃ y:Nat,n=(zcw p w).2.length - y∧y≤(zcw p w).2.length∧vs=[zav p,.int .i64 kind,.loc 0 0 0 (za2 p).toNat,.sl ((walls p).map eInts) (walls p).length,.int .i64 i,eInts (zcw p w).1,eInts (zcw p w).2,.int .i64 x,.int .i64 y]∧S=⟨[.arr 0 3 1 ((((zcw p w).2.take y).foldl (fun ms b=>orBit ms a b.toNat) X).map fun m:Nat=>PV.int .i64 m)],1⟩) ((zcw p w).2.length) ?_ ?_
   ·refine ⟨1,0,rfl,Nat.zero_le _,?_,by simp [zbe,hXe]⟩
    simp [Env.put,Env.of]
   rintro n vs S - ⟨y,rfl,h_y,rfl,rfl⟩
   refine W.seq ?_
   refine W.r fun K hK=>?_
   simp(disch:=omega)only[↓RU,RV,RH,↓reduceIte,qE,reduceCtorEq,if_pos,w64,↓RS,RG,qA,qM,qL,zab,zaa]
   apply hK;clear hK K
   refine W.cond rfl (fun h3=>?_) (fun h3=>?_)
   ·try simp only[RL]at h3
    obtain ⟨b,hb,hbm⟩:=zag (show y<(zcw p w).2.length by omega)
    have hbb:=hsr.2 b hbm
    obtain ⟨b,rfl⟩:∃ b2:Nat,b=b2:=⟨b.toNat,by omega⟩
    have hY:Msk (za2 p).toNat (((zcw p w).2.take y).foldl (fun ms b=>orBit ms a b.toNat) X):=Msk.foldl (fun _ hm b hb=>hm.orBit (by have:=hsr.2 b (List.mem_of_mem_take hb); omega)) hX
    generalize hYe:((zcw p w).2.take y).foldl (fun ms b=>orBit ms a b.toNat) X=Y at hY
    obtain ⟨m,hm,hm5⟩:=hY.at_ (show a<(za2 p).toNat by omega)
    have hYl:=hY.1
    have hp2:=z7i (show b<9 by omega)
    refine W.skip ?_
    refine xn ?_
    refine W.seq ?_
    refine W.block ?_
    refine W.draw_k (by kernel_rfl) fun K hK=>?_
    simp(disch:=omega)only[↓RU,RV,RH,↓reduceIte,qE,reduceCtorEq,if_pos,w64,↓RS,RG,qA,qM,qL,zab,zaa,ha,hb,hm,pShl,ygv,w_or,hYl,zb5,z8d]
    apply hK;clear hK K
    refine XbN ?_
    refine xn ?_
    refine W.k fun K hK=>?_
    simp(disch:=omega)only[↓RU,RV,RH,↓reduceIte,qE,reduceCtorEq,if_pos,w64,↓RS,RG,qA,qM,qL,zaa]
    apply hK;clear hK K
    refine xn ?_
    refine ⟨(zcw p w).2.length - (y+1),by omega,1,y+1,rfl,by omega,?_,?_⟩
    ·simp [Env.put,Env.of]
    simp only[zbe,zer hb,hYe,Int.toNat_natCast,z1l hm]; rfl
   try simp only[RL]at h3
   obtain rfl:y=(zcw p w).2.length:=by omega
   rw [List.take_length]
   refine W.exit ?_
   refine xe ?_
   refine xe ?_
   refine XBlock.hit ?_
   refine XbN ?_
   refine xn ?_
   refine W.k fun K hK=>?_
   simp(disch:=omega)only[↓RU,RV,RH,↓reduceIte,qE,reduceCtorEq,if_pos,w64,↓RS,RG,qA,qM,qL,zaa]
   apply hK;clear hK K
   refine xn ?_
   refine ⟨(zcw p w).1.length - (x+1),by omega,1,x+1,rfl,by omega,?_,?_⟩
   ·simp [Env.put,Env.of]
   simp only[zbe,zer ha,hXe,Int.toNat_natCast]; rfl
  try simp only[RL]at h2
  obtain rfl:x=(zcw p w).1.length:=by omega
  rw [List.take_length]
  refine W.exit ?_
  refine xe ?_
  refine xe ?_
  refine XBlock.hit ?_
  refine XbN ?_
  refine xn ?_
  refine W.k fun K hK=>?_
  simp(disch:=omega)only[↓RU,RV,RH,↓reduceIte,qE,reduceCtorEq,if_pos,w64,↓RS,RG,qA,qM,qL,zaa]
  apply hK;clear hK K
  refine xn ?_
  refine ⟨(walls p).length - (i+1),by omega,1,i+1,rfl,by omega,?_,?_⟩
  ·simp [Env.put,Env.of]
  simp only[zbe,zer hw,hMe,hjs]; rfl
 try simp only[RL]at h
 obtain rfl:i=(walls p).length:=by omega
 rw [List.take_length]
 refine W.exit ?_
 refine xe ?_
 refine xe ?_
 refine XBlock.hit ?_
 refine xn ?_
 refine W.r fun K hK=>?_
 simp(disch:=omega)only[↓RU,RV,RH,↓reduceIte,qE,reduceCtorEq,if_pos,↓RS,RG,qA,qM,qL]
 apply hK;clear hK K
 refine W.ret ?_
 refine Br rfl ?_
 have hjl:=(zow hg h9 kind).1
 rw [just]at hjl ⊢
 rw [hjl]
 exact z2k rfl (yfp _)
theorem z1d {p:List Txt} (hs:Sm p) (hg:zc4 p=true) (h9:za2 p≤9) (kind:Int):PC Tryz.prog 75 [zav p,.int .i64 kind] (zy1 (zvl p kind)) true:=by
 have hrb:=zdp p
 have hJ:=zow hg h9 kind
 obtain ⟨nr,hn⟩:∃ nr:Nat,(just p kind).length=nr:=⟨_,rfl⟩
 have hn9:nr≤9:=by have:=hJ.1; omega
 rw [← hJ.1,hn]at hJ
 refine PC.of ⟨Tryz.func75,by kernel_rfl,rfl,by kernel_rfl⟩ zap mixed (by show 2≤Tryz.f75.ntmps; decide) ?_
 refine W.r fun K hK=>?_
 simp(disch:=omega)only[↓RU,RV,RH,↓reduceIte,qE,reduceCtorEq,if_pos,↓RS,RG,qA,qM,qL]
 apply hK;clear hK K
 refine W.r fun K hK=>?_
 simp(disch:=omega)only[↓RU,RV,RH,↓reduceIte,qE,reduceCtorEq,if_pos,qN,↓RS,RG,qA,qM,qL]
 refine zad.pn (z6a hs hg h9 kind) rfl (.inl rfl) ?_
 simp(disch:=omega)only[↓RU,RV,RH,↓reduceIte,qE,reduceCtorEq,if_pos,qN,↓RS,RG,qA,qM,qL,RN]
 apply hK;clear hK K
 refine W.seq ?_
 refine W.r fun K hK=>?_
 simp(disch:=omega)only[↓RU,RV,RH,↓reduceIte,qE,reduceCtorEq,if_pos,↓RS,RG,qA,qM,qL]
 apply hK;clear hK K
 refine W.block ?_
 refine W.loop [0,1,5,6] (fun n vs S=>∃ c:Nat,n=nr - c∧c≤nr∧vs=[zav p,.int .i64 kind,.loc 0 0 0 nr,.int .i64 c]∧S=⟨[.arr 0 3 1 (((List.range c).foldl (yem nr) (just p kind)).map fun m:Nat=>PV.int .i64 m)],1⟩) (nr) ?_ ?_
 ·refine ⟨1,0,rfl,Nat.zero_le _,?_,by simp [zbe,Env.put,Env.of,zaf,z4y,zz7]⟩
  simp [Env.put,Env.of,zaf,hn]
 rintro n vs S - ⟨c,rfl,h_c,rfl,rfl⟩
 refine W.seq ?_
 refine W.r fun K hK=>?_
 simp(disch:=omega)only[↓RU,RV,RH,↓reduceIte,qE,reduceCtorEq,if_pos,w64,↓RS,RG,qA,qM,qL,zab,zaa]
 apply hK;clear hK K
 refine W.cond rfl (fun h=>?_) (fun h=>?_)
 ·try simp only[RL]at h
  have hX:Msk nr ((List.range c).foldl (yem nr) (just p kind)):=Msk.foldl (fun _ hm _ _=>Msk.foldl (fun _ hm _ _=>hm.allA) hm) hJ
  generalize hXe:(List.range c).foldl (yem nr) (just p kind)=X at hX
  refine W.skip ?_
  refine xn ?_
  refine W.seq ?_
  refine W.block ?_
  refine W.r fun K hK=>?_
  simp(disch:=omega)only[↓RU,RV,RH,↓reduceIte,qE,reduceCtorEq,if_pos,↓RS,RG,qA,qM,qL]
  apply hK;clear hK K
  refine W.block ?_
  refine W.loop [0,1,5,6,7] (fun n vs S=>∃ a:Nat,n=nr - a∧a≤nr∧vs=[zav p,.int .i64 kind,.loc 0 0 0 nr,.int .i64 c,.int .i64 a]∧S=⟨[.arr 0 3 1 (((List.range a).foldl (allA c) X).map fun m:Nat=>PV.int .i64 m)],1⟩) (nr) ?_ ?_
  ·refine ⟨1,0,rfl,Nat.zero_le _,?_,by simp [zbe,hXe]⟩
   simp [Env.put,Env.of]
  rintro n vs S - ⟨a,rfl,h_a,rfl,rfl⟩
  refine W.seq ?_
  refine W.r fun K hK=>?_
  simp(disch:=omega)only[↓RU,RV,RH,↓reduceIte,qE,reduceCtorEq,if_pos,w64,↓RS,RG,qA,qM,qL,zab,zaa]
  apply hK;clear hK K
  refine W.cond rfl (fun h1=>?_) (fun h1=>?_)
  ·try simp only[RL]at h1
   have hY:Msk nr ((List.range a).foldl (allA c) X):=Msk.foldl (fun _ hm _ _=>hm.allA) hX
   generalize hYe:(List.range a).foldl (allA c) X=Y at hY
   obtain ⟨m,hm,hm5⟩:=hY.at_ (show a<nr by omega)
   obtain ⟨k,hk,hk5⟩:=hY.at_ (show c<nr by omega)
   have hYl:=hY.1
   refine W.skip ?_
   refine xn ?_
   refine W.seq ?_
   refine W.block ?_
   refine W.r fun K hK=>?_
   simp(disch:=omega)only[↓RU,RV,RH,↓reduceIte,qE,reduceCtorEq,if_pos,w64,↓RS,RG,qA,qM,qL,zab,zaa,hYe,hm,yeh,z4p]
   apply hK;clear hK K
   refine W.cond rfl (fun h2=>?_) (fun h2=>?_)
   ·try simp only[RL]at h2
    refine W.draw_k (by kernel_rfl) fun K hK=>?_
    simp(disch:=omega)only[↓RU,RV,RH,↓reduceIte,qE,reduceCtorEq,if_pos,w64,↓RS,RG,qA,qM,qL,zab,zaa,hm,hk,w_or,zb5,z8d,hYl]
    apply hK;clear hK K
    refine XbN ?_
    refine xn ?_
    refine W.k fun K hK=>?_
    simp(disch:=omega)only[↓RU,RV,RH,↓reduceIte,qE,reduceCtorEq,if_pos,w64,↓RS,RG,qA,qM,qL,zaa]
    apply hK;clear hK K
    refine xn ?_
    refine ⟨nr - (a+1),by omega,1,a+1,rfl,by omega,?_,?_⟩
    ·simp [Env.put,Env.of]
    simp only[zbe,zct,hYe,z0f hm hk h2]; rfl
   try simp only[RL]at h2
   refine W.skip ?_
   refine XbN ?_
   refine xn ?_
   refine W.k fun K hK=>?_
   simp(disch:=omega)only[↓RU,RV,RH,↓reduceIte,qE,reduceCtorEq,if_pos,w64,↓RS,RG,qA,qM,qL,zaa]
   apply hK;clear hK K
   refine xn ?_
   refine ⟨nr - (a+1),by omega,1,a+1,rfl,by omega,?_,?_⟩
   ·simp [Env.put,Env.of]
   simp only[zbe,zct,hYe,z41 hm h2]; rfl
  try simp only[RL]at h1
  obtain rfl:a=nr:=by omega
  refine W.exit ?_
  refine xe ?_
  refine xe ?_
  refine XBlock.hit ?_
  refine XbN ?_
  refine xn ?_
  refine W.k fun K hK=>?_
  simp(disch:=omega)only[↓RU,RV,RH,↓reduceIte,qE,reduceCtorEq,if_pos,w64,↓RS,RG,qA,qM,qL,zaa]
  apply hK;clear hK K
  refine xn ?_
  refine ⟨a - (c+1),by omega,1,c+1,rfl,by omega,?_,?_⟩
  ·simp [Env.put,Env.of]
  simp only[zbe,zct,hXe]; rfl
 try simp only[RL]at h
 obtain rfl:c=nr:=by omega
 refine W.exit ?_
 refine xe ?_
 refine xe ?_
 refine XBlock.hit ?_
 refine xn ?_
 refine W.r fun K hK=>?_
 simp(disch:=omega)only[↓RU,RV,RH,↓reduceIte,qE,reduceCtorEq,if_pos,↓RS,RG,qA,qM,qL]
 apply hK;clear hK K
 refine W.ret ?_
 refine Br rfl ?_
 have hal:(zvl p kind).length=c:=by have:=(ztu hg h9 kind).1; have h2:=(zow hg h9 kind).1; omega
 rw [show (List.range c).foldl (yem c) (just p kind)=zvl p kind by rw [zvl,hn]]
 rw [← hal]
 exact zcv (k:=9) rfl (by simp) (z9y _)
def Bnd (n:Nat) (M:Int) (l:List Int):Prop:=l.length=n∧∀ x∈l,0≤x∧x≤M
theorem Bnd.at_ {n:Nat} {M:Int} {l:List Int} (h:Bnd n M l) {a:Nat} (ha:a<n):∃ x,l[a]?=some x∧0≤x∧x≤M:=by
 obtain ⟨x,hx,hm⟩:=zag (show a<l.length by rw [h.1]; exact ha)
 exact ⟨x,hx,h.2 x hm⟩
theorem Bnd.up {n:Nat} {M M':Int} {l:List Int} (h:Bnd n M l) (hM:M≤M'):Bnd n M' l:=⟨h.1,fun x hx=>by have:=h.2 x hx; omega⟩
theorem Bnd.set {n:Nat} {M:Int} {l:List Int} (h:Bnd n M l) {a:Nat} {x:Int} (h0:0≤x) (hx:x≤M):Bnd n M (l.set a x):=by
 refine ⟨by simpa using h.1,fun y hy=>?_⟩
 rcases List.mem_or_eq_of_mem_set hy with h1 | rfl
 ·exact h.2 y h1
 exact ⟨h0,hx⟩
theorem Bnd.zero {n:Nat}:Bnd n 0 (List.replicate n 0):=⟨by simp,fun x hx=>by rw [(List.mem_replicate.1 hx).2]; omega⟩
def zd2 (l:List Int) (a:Nat):Int:=l[a]?.getD 0
theorem zgh {l:List Int} {a:Nat} {x:Int} (h:l[a]?=some x):zd2 l a=x:=by simp [zd2,h]
def zpk (ms:List Nat) (a b:Nat):Bool:=(ms[a]?.getD 0).testBit b
theorem zig {ms:List Nat} {a b m:Nat} (h:ms[a]?=some m):zpk ms a b=m.testBit b:=by simp [zpk,h]
def plB (sets:List Nat) (needs:List Int) (a:Nat) (out:List Int) (b:Nat):List Int :=
 if zpk sets a b then out.set b (max (zd2 out b) (zd2 out a+zd2 needs a)) else out
def plA (sets:List Nat) (needs:List Int) (out:List Int) (a:Nat):List Int:=(List.range needs.length).foldl (plB sets needs a) out
def plN (sets:List Nat) (needs:List Int) (out:List Int) (_:Nat):List Int:=(List.range needs.length).foldl (plA sets needs) out
def places (sets:List Nat) (needs:List Int):List Int:=(List.range needs.length).foldl (plN sets needs) (List.replicate needs.length 0)
def least (sets:List Nat) (needs:List Int):Int:=(List.range needs.length).foldl (fun m a=>max m (zd2 (places sets needs) a+zd2 needs a)) 0
theorem ze3:∀ (n:Nat),repz [PV.int .i64 0] n=(List.replicate n 0).map (PV.int .i64)
 | 0=>rfl
 | n+1=>by rw [zhc,ze3 n,List.replicate_succ]; rfl
theorem zo6:∀ (n:Nat),repz [PV.str []] n=(List.replicate n []).map PV.str
 | 0=>rfl
 | n+1=>by rw [zhc,zo6 n,List.replicate_succ]; rfl
theorem zra {l:List Txt} {a:Nat} {m:Txt}:(l.map PV.str).set a (.str m)=(l.set a m).map PV.str:=by
 rw [List.map_set]
theorem zvt {α:Type} {l:List α} {z:α} {i:Nat} {a:α} (h:l[i]?=some a):((l.take i)++List.replicate (l.length - i) z).set i a=(l.take (i+1))++List.replicate (l.length - (i+1)) z:=by
 have hi:=zb0 h
 apply List.ext_getElem?
 intro j
 rw [List.getElem?_set]
 by_cases hj:i=j
 ·subst hj
  have e1:i<(l.take i++List.replicate (l.length - i) z).length:=by simp; omega
  rw [if_pos rfl,if_pos e1,tk h,List.append_assoc,List.getElem?_append_right (by simp; omega)]
  simp [Nat.min_eq_left (Nat.le_of_lt hi)]
 rw [if_neg hj]
 by_cases hlt:j<i
 ·rw [List.getElem?_append_left (by simp; omega),List.getElem?_append_left (by simp; omega)]
  simp [List.getElem?_take,hlt,show j<i+1 by omega]
 rw [List.getElem?_append_right (by simp; omega),List.getElem?_append_right (by simp; omega)]
 simp only[List.length_take,Nat.min_eq_left (Nat.le_of_lt hi),Nat.min_eq_left (show i+1≤l.length by omega),List.getElem?_replicate]
 have:(j - i<l.length - i)=(j - (i+1)<l.length - (i+1)):=by apply propext; omega
 simp [this]
def yd3:List Txt→Nat
 | []=>0
 | r::p=>r.length+yd3 p
def sz (p:List Txt) (left:Int):Int:=if (p.length+yd3 p:Nat)≤left then left - (p.length+yd3 p:Nat) else -1
theorem zoh {α:Type} {p q:List α} {i:Nat} {x y:α} (h:p.take i=q.take i) (hx:p[i]?=some x) (hy:q[i]?=some y) (e:x=y):p.take (i+1)=q.take (i+1):=by
 rw [tk hx,tk hy,h,e]
section
abbrev zfb (g:List (List Int)):PV := .sl (g.map eInts) g.length
structure Rect where
 row:Int
 col:Int
 high:Int
 wide:Int
 deriving DecidableEq
def Rect.cells (r:Rect):List PV:=[.int .i64 r.row,.int .i64 r.col,.int .i64 r.high,.int .i64 r.wide]
abbrev zro (r:Rect):PV := .agg r.cells
def rcs (rs:List Rect):List PV:=rs.flatMap Rect.cells
abbrev znu (rs:List Rect):PV := .sl (rcs rs) rs.length
abbrev za3 (g:List (List Int)) (rs:List Rect):PV := .ip [zfb g,znu rs] 0
theorem zb4 (rs:List Rect):(rcs rs).length=rs.length*4:=by
 induction rs with
 | nil=>rfl
 | cons r rs ih=>simp only[rcs,List.flatMap_cons,List.length_append,List.length_cons]at ih ⊢; rw [ih]; simp [Rect.cells]; omega
theorem zuo (rs ss:List Rect):rcs (rs++ss)=rcs rs++rcs ss:=by simp [rcs]
theorem zl9 (r:Rect) (rs:List Rect):rcs (r::rs)=r.cells++rcs rs:=rfl
theorem yac (rs:List Rect) (n:Nat):(rcs rs).take (n*4)=rcs (rs.take n):=by
 induction rs generalizing n with
 | nil=>simp [rcs]
 | cons r rs ih =>
  cases n with
  | zero=>simp [rcs]
  | succ n =>
   rw [zl9,List.take_succ_cons,zl9,← ih n]
   rw [show (n+1)*4=r.cells.length+n*4 by simp [Rect.cells]; omega,List.take_length_add_append]
theorem z17 (rs:List Rect) (n:Nat):(rcs rs).drop (n*4)=rcs (rs.drop n):=by
 induction rs generalizing n with
 | nil=>simp [rcs]
 | cons r rs ih =>
  cases n with
  | zero=>simp
  | succ n =>
   rw [zl9,List.drop_succ_cons,← ih n]
   rw [show (n+1)*4=r.cells.length+n*4 by simp [Rect.cells]; omega,List.drop_length_add_append]
theorem zkn {rs:List Rect} {n:Nat} {r:Rect} (h:rs[n]?=some r):((rcs rs).drop (n*4)).take 4=r.cells:=by
 rw [z17]
 have:rs.drop n=r::rs.drop (n+1):=by
  obtain ⟨hn,rfl⟩:=List.getElem?_eq_some_iff.1 h
  exact List.drop_eq_getElem_cons hn
 rw [this,zl9]
 simp [Rect.cells]
theorem ydn {rs:List Rect} {n:Nat} {r:Rect} (h:n<rs.length):(rcs rs).take (n*4)++r.cells++(rcs rs).drop (n*4+4)=rcs (rs.set n r):=by
 rw [yac,show n*4+4=(n+1)*4 by omega,z17,show r.cells=rcs [r] by simp [rcs],← zuo,← zuo]
 congr 1
 rw [List.set_eq_take_append_cons_drop,if_pos h]
 simp
def ixf {α:Type} (test:α→Bool) (l:List α):Int :=
 match l.findIdx? test with
 | some i=>i
 | none => -1
theorem yfb {α:Type} {test:α→Bool} {l:List α} {i:Nat} {x:α} (h:l[i]?=some x) (hall:(l.take i).any test=false) (hx:test x=true):ixf test l=i:=by
 have:l.findIdx? test=some i:=by
  obtain ⟨hi,rfl⟩:=List.getElem?_eq_some_iff.1 h
  rw [List.findIdx?_eq_some_iff_getElem]
  refine ⟨hi,hx,fun j hj=>?_⟩
  rw [List.any_eq_false]at hall
  have:=hall l[j] (by rw [List.mem_take_iff_getElem]; exact ⟨j,by omega,rfl⟩)
  simpa using this
 simp [ixf,this]
theorem z1c {α:Type} {test:α→Bool} {l:List α} (hall:l.any test=false):ixf test l = -1:=by
 have:l.findIdx? test=none:=by
  rw [List.findIdx?_eq_none_iff]
  intro x hx
  rw [List.any_eq_false]at hall
  simpa using hall x hx
 simp [ixf,this]
theorem yc2 {α:Type} {test:α→Bool} {l:List α}:decide (0≤ixf test l)=l.any test:=by
 cases h:l.any test with
 | false=>rw [z1c h]; rfl
 | true =>
  unfold ixf
  cases hi:l.findIdx? test with
  | none =>
   rw [List.findIdx?_eq_none_iff]at hi
   rw [List.any_eq_true]at h
   obtain ⟨x,hx,hx2⟩:=h
   rw [hi x hx]at hx2; cases hx2
  | some i=>simp
theorem yen {α:Type} {f:α→Bool} {l:List α} {i:Nat} {a:α} (h:l[i]?=some a) (h1:(l.take i).any f=false) (h2:f a=false):(l.take (i+1)).any f=false:=by
 rw [tk h,List.any_append,h1]; simp [h2]
def Rect.both (b o:Rect):Rect:=⟨min b.row o.row,min b.col o.col,max (b.row+b.high) (o.row+o.high) - min b.row o.row,max (b.col+b.wide) (o.col+o.wide) - min b.col o.col⟩
def Rect.In (M:Int) (r:Rect):Prop:=0≤r.row∧r.row≤M∧0≤r.col∧r.col≤M∧0≤r.high∧r.high≤M∧0≤r.wide∧r.wide≤M
theorem zev {S:Store} {im:Bool} {k:Nat} {g:FuncId} {cap:List PV}:reify S im (k+1) (.fn g cap)=(cap.mapM (reify S im k)).map (.fn g):=rfl
section
variable {S:Store} {k f lo:Nat} {sel:List Nat} {fr:Nat→Bool} {im:Bool}
theorem zb8 {q:IntKind} {n:Int}:rn S k sel (f+1) (.int q n)=some (.int q n):=rfl
theorem zbi {b:Bool}:rn S k sel (f+1) (.bool b)=some (.bool b):=rfl
theorem zcb {b:Txt}:rn S k sel (f+1) (.str b)=some (.str b):=rfl
theorem zdd {cs:List PV} {n:Nat}:rn S k sel (f+1) (.sl cs n)=some (.sl cs n):=rfl
theorem zdb {cs:List PV} {n:Nat}:rn S k sel (f+1) (.ip cs n)=some (.ip cs n):=rfl
theorem zbk:rn S k sel (f+1) .nils=some .nils:=rfl
theorem zbj:rn S k sel (f+1) .nilp=some .nilp:=rfl
theorem zay:rn S k sel (f+1) .undef=some .undef:=rfl
theorem zb7 {cs:List PV}:rn S k sel (f+1) (.agg cs)=(cs.mapM (rn S k sel f)).map .agg:=rfl
theorem zcc {cs:List PV}:rn S k sel (f+1) (.tup cs)=(cs.mapM (rn S k sel f)).map .tup:=rfl
theorem zda {g:FuncId} {cs:List PV}:rn S k sel (f+1) (.fn g cs)=(cs.mapM (rn S k sel f)).map (.fn g):=rfl
theorem zb9 {o ver off n:Nat}:rn S k sel (f+1) (.loc o ver off n)=(if o<k then some (.loc o ver off n) else
   if sel.contains o then (match S.obs[o]? with | some (.arr v _ _ _)=>if v=ver then some (.loc (k+sel.idxOf o) S.tick off n) else none | _=>none)
   else rfq S (zfc k sel) 10 (.loc o ver off n)):=rfl
theorem zca {o ver off:Nat}:rn S k sel (f+1) (.ref o ver off)=(if o<k then some (.ref o ver off) else
   if sel.contains o then (match S.obs[o]? with | some (.arr v _ _ _)=>if v=ver then some (.ref (k+sel.idxOf o) S.tick off) else none | _=>none)
   else rfq S (zfc k sel) 10 (.ref o ver off)):=rfl
theorem zdc {o ver:Nat}:rn S k sel (f+1) (.mp o ver)=(if o<k then some (.mp o ver) else
   if sel.contains o then (match S.obs[o]? with | some (.map v _)=>if v=ver then some (.mp (k+sel.idxOf o) S.tick) else none | _=>none)
   else none):=rfl
theorem zbg {o ver off n:Nat}:rfq S fr (f+1) (.loc o ver off n)=(match S.obs[o]? with
   | some (.arr v _ sz cells)=>if fr o=true∧v=ver∧off+n*sz≤cells.length then (((cells.drop off).take (n*sz)).mapM (rfq S fr f)).map (.sl · n) else none
   | _=>none):=rfl
theorem zbf {q:IntKind} {n:Int}:rfq S fr (f+1) (.int q n)=some (.int q n):=rfl
theorem zaw {b:Bool}:rfq S fr (f+1) (.bool b)=some (.bool b):=rfl
theorem zbh {b:Txt}:rfq S fr (f+1) (.str b)=some (.str b):=rfl
theorem zb6 {cs:List PV} {n:Nat}:rfq S fr (f+1) (.sl cs n)=some (.sl cs n):=rfl
theorem zan {old:Bool}:zq3 S k sel old []=some []:=rfl
theorem zaj {old:Bool} {o:Nat} {r:List Nat}:zq3 S k sel old (o::r)=((S.obs[o]?).bind (z4a S k sel old)).bind fun a=>(zq3 S k sel old r).map (a :: ·):=rfl
theorem zau {old:Bool} {ver et sz:Nat} {cells:List PV}:z4a S k sel old (.arr ver et sz cells)=(cells.mapM (rn S k sel 10)).map (.arr (if old then ver else S.tick) et sz ·):=rfl
theorem zax {old:Bool} {ver:Nat} {es:List (PV × PV)}:z4a S k sel old (.map ver es)=(es.mapM fun q=>(rn S k sel 10 q.1).bind fun a=>(rn S k sel 10 q.2).map fun b=>(a,b)).map (.map (if old then ver else S.tick) ·):=rfl
theorem zb1:S.rn k sel=(if sel.all (fun o=>decide (k≤o)) && decide sel.Nodup && decide (k≤S.obs.length) then
  (zq3 S k sel true (List.range k)).bind fun a=>(zq3 S k sel false sel).map fun b=>⟨a++b,S.tick+1⟩
 else none):=rfl
def scal:PV→Bool
 | .int _ _ | .bool _ | .str _=>true
 | _=>false
theorem zuv {l:List PV} (h:l.all scal=true):l.mapM (rn S k sel (f+1))=some l:=by
 rw [List.all_eq_true]at h
 exact zco fun x hx=>by have:=h x hx; cases x <;> simp [scal]at this <;> rfl
theorem znd {l:List PV} (h:l.all scal=true):l.mapM (reify S im (f+1))=some l:=by
 rw [List.all_eq_true]at h
 exact zco fun x hx=>by have:=h x hx; cases x <;> simp [scal]at this <;> rfl
theorem ydy {l:List PV} (h:l.all scal=true):l.mapM (sh S im (f+1))=some l:=by
 rw [List.all_eq_true]at h
 exact zco fun x hx=>by have:=h x hx; cases x <;> simp [scal]at this <;> rfl
theorem z2f (rs:List Rect):(rcs rs).all scal=true:=by
 induction rs with
 | nil=>rfl
 | cons r rs ih=>rw [zl9,List.all_append,ih]; rfl
end
end
theorem zp2 (g:List (List Int)) (rs:List Rect):PC Tryz.prog 25 [za3 g rs] (.int .i64 g.length) true:=by
 refine PC.of ⟨Tryz.func25,by kernel_rfl,rfl,by kernel_rfl⟩ zap mixed (by show 1≤Tryz.f25.ntmps; decide) ?_
 refine W.r fun K hK=>?_
 simp(disch:=omega)only[↓RU,RV,RH,↓reduceIte,qE,reduceCtorEq,if_pos,↓RS,RG,qA,qM,qL]
 apply hK;clear hK K
 refine W.r fun K hK=>?_
 simp(disch:=omega)only[↓RU,RV,RH,↓reduceIte,qE,reduceCtorEq,if_pos,↓RS,RG,qA,qM,qL,ty1,ty3,zab,ze6,zde,za7,zaa,ze7,za8]
 apply hK;clear hK K
 refine W.ret ?_
 refine Br rfl ?_
 rfl
theorem zvc {g:List (List Int)} {row:List Int} (h:g[0]?=some row) (rs:List Rect):PC Tryz.prog 26 [za3 g rs] (.int .i64 row.length) true:=by
 have hl:=zb0 h
 refine PC.of ⟨Tryz.func26,by kernel_rfl,rfl,by kernel_rfl⟩ zap mixed (by show 1≤Tryz.f26.ntmps; decide) ?_
 refine W.r fun K hK=>?_
 simp(disch:=omega)only[↓RU,RV,RH,↓reduceIte,qE,reduceCtorEq,if_pos,↓RS,RG,qA,qM,qL]
 apply hK;clear hK K
 refine W.r fun K hK=>?_
 simp(disch:=omega)only[↓RU,RV,RH,↓reduceIte,qE,reduceCtorEq,if_pos,↓RS,RG,qA,qM,qL,ty1,ty3,zab,ze6,zde,za7,zaa,ze7,za8,h,Int.toNat_zero,Nat.zero_mul,qZ]
 apply hK;clear hK K
 refine W.ret ?_
 refine Br rfl ?_
 rfl
theorem ycg {r:Rect} (h1:0≤r.high*r.wide) (h2:r.high*r.wide≤1048576):PC Tryz.prog 89 [zro r] (.int .i64 (r.high*r.wide)) true:=by
 simp only[zro,Rect.cells]
 refine PC.of ⟨Tryz.func89,by kernel_rfl,rfl,by kernel_rfl⟩ zap mixed (by show 1≤Tryz.f89.ntmps; decide) ?_
 refine W.r fun K hK=>?_
 simp(disch:=omega)only[↓RU,RV,RH,↓reduceIte,qE,reduceCtorEq,if_pos,↓RS,RG,qA,qM,qL,za7,zaa,za8]
 apply hK;clear hK K
 refine W.r fun K hK=>?_
 simp(disch:=omega)only[↓RU,RV,RH,↓reduceIte,qE,reduceCtorEq,if_pos,w64,↓RS,RG,qA,qM,qL,za7,zaa,za8]
 apply hK;clear hK K
 refine W.ret ?_
 refine Br rfl ?_
 rfl
theorem zkq {b o:Rect} (hb:b.In 1000) (ho:o.In 1000):PC Tryz.prog 88 [zro b,zro o] (zro (b.both o)) true:=by
 unfold Rect.In at hb ho
 simp only[zro,Rect.cells,Rect.both]
 refine PC.of ⟨Tryz.func88,by kernel_rfl,rfl,by kernel_rfl⟩ zap mixed (by show 2≤Tryz.f88.ntmps; decide) ?_
 refine W.r fun K hK=>?_
 simp(disch:=omega)only[↓RU,RV,RH,↓reduceIte,qE,reduceCtorEq,if_pos,↓RS,RG,qA,qM,qL,za7,zaa,za8]
 apply hK;clear hK K
 refine W.seq_draw (by kernel_rfl) fun K hK=>?_
 simp(disch:=omega)only[↓RU,RV,RH,↓reduceIte,qE,reduceCtorEq,if_pos,zt4,↓RS,RG,qA,qM,qL,za7,zaa,za8]
 apply hK;clear hK K
 refine W.r fun K hK=>?_
 simp(disch:=omega)only[↓RU,RV,RH,↓reduceIte,qE,reduceCtorEq,if_pos,w64,zm5,↓RS,RG,qA,qM,qL,za7,zaa,za8]
 apply hK;clear hK K
 refine W.ret ?_
 refine Br rfl ?_
 rfl
theorem zzu (row:List Int) (w:Int) (hr:row.length<2147483648):PC Tryz.prog 86 [eInts row,.ip [.int .i64 w] 0] (.bool (decide ((row.length:Int)≠w))) true:=by
 refine PC.of ⟨Tryz.func86,by kernel_rfl,rfl,by kernel_rfl⟩ zap mixed (by show 2≤Tryz.f86.ntmps; decide) ?_
 refine W.r fun K hK=>?_
 simp(disch:=omega)only[↓RU,RV,RH,↓reduceIte,qE,reduceCtorEq,if_pos,↓RS,RG,qA,qM,qL]
 apply hK;clear hK K
 refine W.r fun K hK=>?_
 simp(disch:=omega)only[↓RU,RV,RH,↓reduceIte,qE,reduceCtorEq,if_pos,w64,↓RS,RG,qA,qM,qL,zab,zaa]
 apply hK;clear hK K
 refine W.ret ?_
 refine Br rfl ?_
 rw [show decide ((row.length:Int)≠w)=((row.length:Int) != w) by rw [ztv]; simp]
 rfl
theorem zy5 {l:List (List Int)} (hl:l.length<2147483648) {g:FuncId} {cap:List PV} (hc:cap.mapM (reify ⟨[],0⟩ true 10)=some cap) {test:(List Int)→Bool} (hg:∀ x∈l,PC Tryz.prog g (eInts x::cap) (.bool (test x)) true):PC Tryz.prog 59 [zfb l,.fn g cap] (.int .i64 (ixf test l)) true:=by
 refine PC.of ⟨Tryz.func59,by kernel_rfl,rfl,by kernel_rfl⟩ zap mixed (by show 2≤Tryz.f59.ntmps; decide) ?_
 refine W.r fun K hK=>?_
 simp(disch:=omega)only[↓RU,RV,RH,↓reduceIte,qE,reduceCtorEq,if_pos]
 apply hK;clear hK K
 refine W.seq ?_
 refine W.r fun K hK=>?_
 simp(disch:=omega)only[↓RU,RV,RH,↓reduceIte,qE,reduceCtorEq,if_pos,ty1,zab,zde,zaa]
 apply hK;clear hK K
 refine W.block ?_
 refine W.loop [0,1,6,7,8] (fun n vs S=>∃ i:Nat,n=l.length - i∧i≤l.length∧((l.take i).any test=false)∧vs=[zfb l,.fn g cap,zfb l,.int .i64 l.length,.int .i64 i]∧S=⟨[],0⟩) (l.length) ?_ ?_
 ·refine ⟨0,0,rfl,Nat.zero_le _,rfl,?_,rfl⟩
  simp [Env.put,Env.of,zaf]
 rintro n vs S - ⟨i,rfl,h_i,hall,rfl,rfl⟩
 refine W.r fun K hK=>?_
 simp(disch:=omega)only[↓RU,RV,RH,↓reduceIte,qE,reduceCtorEq,if_pos,w64,zaa]
 apply hK;clear hK K
 refine W.seq ?_
 refine W.cond rfl (fun h=>?_) (fun h=>?_)
 ·try simp only[RL]at h
  obtain ⟨x,hx,hxm⟩:=zag (show i<l.length by omega)
  refine W.skip ?_
  refine xn ?_
  refine W.seq ?_
  refine W.block ?_
  refine W.r fun K hK=>?_
  simp(disch:=omega)only[↓RU,RV,RH,↓reduceIte,qE,reduceCtorEq,if_pos]
  apply hK;clear hK K
  refine W.r fun K hK=>?_
  simp(disch:=omega)only[↓RU,RV,RH,↓reduceIte,qE,reduceCtorEq,if_pos,qN,ty1,zab,zde,zaa,hx]
  refine zad.pc (hg x hxm) (zch rfl hc) (.inl rfl) ?_
  simp(disch:=omega)only[↓RU,RV,RH,↓reduceIte,qE,reduceCtorEq,if_pos,qN,ty1,zab,zde,zaa,hx]
  apply hK;clear hK K
  refine W.cond rfl (fun h1=>?_) (fun h1=>?_)
  ·try simp only[RL]at h1
   refine W.r fun K hK=>?_
   simp(disch:=omega)only[↓RU,RV,RH,↓reduceIte,qE,reduceCtorEq,if_pos]
   apply hK;clear hK K
   refine W.ret ?_
   refine XBlock.ret ?_
   refine XThen.ret ?_
   refine XThen.ret ?_
   refine XBlock.ret ?_
   refine XThen.ret ?_
   refine Br rfl ?_
   rw [yfb hx hall h1]
   rfl
  try simp only[RL]at h1
  refine W.skip ?_
  refine XbN ?_
  refine xn ?_
  refine W.k fun K hK=>?_
  simp(disch:=omega)only[↓RU,RV,RH,↓reduceIte,qE,reduceCtorEq,if_pos,w64,zaa]
  apply hK;clear hK K
  refine xn ?_
  refine ⟨l.length - (i+1),by omega,0,i+1,rfl,by omega,yen hx (by assumption) h1,?_,rfl⟩
  simp [Env.put,Env.of]
 try simp only[RL]at h
 refine W.exit ?_
 refine xe ?_
 refine xe ?_
 refine XBlock.hit ?_
 refine xn ?_
 refine W.r fun K hK=>?_
 simp(disch:=omega)only[↓RU,RV,RH,↓reduceIte,qE,reduceCtorEq,if_pos]
 apply hK;clear hK K
 refine W.ret ?_
 refine Br rfl ?_
 have hip:l.take i=l:=qT (by omega)
 rw [hip]at hall
 rw [z1c hall]
 rfl
theorem zrm {l:List (List Int)} (hl:l.length<2147483648) {g:FuncId} {cap:List PV} (hc9:cap.mapM (reify ⟨[],0⟩ true 9)=some cap) (hc:cap.mapM (reify ⟨[],0⟩ true 10)=some cap) {test:(List Int)→Bool} (hg:∀ x∈l,PC Tryz.prog g (eInts x::cap) (.bool (test x)) true):PC Tryz.prog 85 [zfb l,.fn g cap] (.bool (l.any test)) true:=by
 have hcr:[zfb l,.fn g cap].mapM (reify ⟨[],0⟩ true 10)=some [zfb l,.fn g cap]:=zch rfl (zch (by rw [zev,hc9]; rfl) rfl)
 refine PC.of ⟨Tryz.func85,by kernel_rfl,rfl,by kernel_rfl⟩ zap mixed (by show 2≤Tryz.f85.ntmps; decide) ?_
 refine W.r fun K hK=>?_
 simp(disch:=omega)only[↓RU,RV,RH,↓reduceIte,qE,reduceCtorEq,if_pos]
 apply hK;clear hK K
 refine W.r fun K hK=>?_
 simp(disch:=omega)only[↓RU,RV,RH,↓reduceIte,qE,reduceCtorEq,if_pos,qN,w64,zaa]
 refine zad.pc (zy5 hl hc hg) hcr (.inl rfl) ?_
 simp(disch:=omega)only[↓RU,RV,RH,↓reduceIte,qE,reduceCtorEq,if_pos,qN,w64,zaa]
 apply hK;clear hK K
 refine W.ret ?_
 refine Br rfl ?_
 rw [← yc2]
 rfl
theorem zv7 {p q:List Txt} (hp:p.length<2147483648) (hq:q.length<2147483648):PC Tryz.prog 78 [zav p,zav q] (.bool (decide (p=q))) true:=by
 refine PC.of ⟨Tryz.func78,by kernel_rfl,rfl,by kernel_rfl⟩ zap mixed (by show 2≤Tryz.f78.ntmps; decide) ?_
 refine W.r fun K hK=>?_
 simp(disch:=omega)only[↓RU,RV,RH,↓reduceIte,qE,reduceCtorEq,if_pos]
 apply hK;clear hK K
 refine W.seq ?_
 refine W.r fun K hK=>?_
 simp(disch:=omega)only[↓RU,RV,RH,↓reduceIte,qE,reduceCtorEq,if_pos,w64,ty5,zaa,zac]
 apply hK;clear hK K
 refine W.cond rfl (fun h=>?_) (fun h=>?_)
 ·try simp only[RL]at h
  refine W.r fun K hK=>?_
  simp(disch:=omega)only[↓RU,RV,RH,↓reduceIte,qE,reduceCtorEq,if_pos]
  apply hK;clear hK K
  refine W.ret ?_
  refine XThen.ret ?_
  refine Br rfl ?_
  rw [show decide (p=q)=false by simp; rintro rfl; exact h rfl]
  rfl
 try simp only[RL]at h
 refine W.skip ?_
 refine xn ?_
 refine W.seq ?_
 refine W.r fun K hK=>?_
 simp(disch:=omega)only[↓RU,RV,RH,↓reduceIte,qE,reduceCtorEq,if_pos,ty5,zac]
 apply hK;clear hK K
 refine W.block ?_
 refine W.loop [0,1,11,12,13] (fun n vs S=>∃ i:Nat,n=p.length - i∧i≤p.length∧(p.take i=q.take i)∧vs=[zav p,zav q,zav p,.int .i64 p.length,.int .i64 i]∧S=⟨[],0⟩) (p.length) ?_ ?_
 ·refine ⟨0,0,rfl,Nat.zero_le _,rfl,?_,rfl⟩
  simp [Env.put,Env.of,zaf]
 rintro n vs S - ⟨i,rfl,h_i,htk,rfl,rfl⟩
 refine W.r fun K hK=>?_
 simp(disch:=omega)only[↓RU,RV,RH,↓reduceIte,qE,reduceCtorEq,if_pos,w64,zaa]
 apply hK;clear hK K
 refine W.seq ?_
 refine W.cond rfl (fun h1=>?_) (fun h1=>?_)
 ·try simp only[RL]at h1
  obtain ⟨x,hx,-⟩:=zag (show i<p.length by omega)
  obtain ⟨y,hy,-⟩:=zag (show i<q.length by omega)
  refine W.skip ?_
  refine xn ?_
  refine W.seq ?_
  refine W.block ?_
  refine W.r fun K hK=>?_
  simp(disch:=omega)only[↓RU,RV,RH,↓reduceIte,qE,reduceCtorEq,if_pos]
  apply hK;clear hK K
  refine W.seq_draw (by kernel_rfl) fun K hK=>?_
  simp(disch:=omega)only[↓RU,RV,RH,↓reduceIte,qE,reduceCtorEq,if_pos,w64,ty5,zac,hx,hy]
  apply hK;clear hK K
  refine W.cond rfl (fun h2=>?_) (fun h2=>?_)
  ·try simp only[RL]at h2
   refine W.r fun K hK=>?_
   simp(disch:=omega)only[↓RU,RV,RH,↓reduceIte,qE,reduceCtorEq,if_pos]
   apply hK;clear hK K
   refine W.ret ?_
   refine XBlock.ret ?_
   refine XThen.ret ?_
   refine XThen.ret ?_
   refine XBlock.ret ?_
   refine XThen.ret ?_
   refine Br rfl ?_
   rw [show decide (p=q)=false by simp; rintro rfl; rw [hx]at hy; simp_all]
   rfl
  try simp only[RL]at h2
  refine W.skip ?_
  refine XbN ?_
  refine xn ?_
  refine W.k fun K hK=>?_
  simp(disch:=omega)only[↓RU,RV,RH,↓reduceIte,qE,reduceCtorEq,if_pos,w64,zaa]
  apply hK;clear hK K
  refine xn ?_
  refine ⟨p.length - (i+1),by omega,0,i+1,rfl,by omega,zoh htk hx hy h2,?_,rfl⟩
  simp [Env.put,Env.of]
 try simp only[RL]at h1
 refine W.exit ?_
 refine xe ?_
 refine xe ?_
 refine XBlock.hit ?_
 refine xn ?_
 refine W.r fun K hK=>?_
 simp(disch:=omega)only[↓RU,RV,RH,↓reduceIte,qE,reduceCtorEq,if_pos]
 apply hK;clear hK K
 refine W.ret ?_
 refine Br rfl ?_
 have h1:p.take i=p:=qT (by omega)
 have h2:q.take i=q:=qT (by omega)
 rw [show decide (p=q)=true by simp; rw [← h1,← h2]; exact htk]
 rfl
def GW (g:List (List Int)) (H W:Nat):Prop:=g.length=H∧(∀ r∈g,r.length=W)∧1≤H∧H≤6∧1≤W∧W≤6
def gz (g:List (List Int)) (i j:Nat):Int:=(g[i]?.getD [])[j]?.getD 0
theorem GW.at_ {g:List (List Int)} {H W:Nat} (h:GW g H W) {i j:Nat} (hi:i<H) (hj:j<W):∃ row,g[i]?=some row∧row.length=W∧row[j]?=some (gz g i j):=by
 obtain ⟨row,hr,hm⟩:=zag (show i<g.length by rw [h.1]; exact hi)
 have hl:=h.2.1 row hm
 obtain ⟨x,hx,-⟩:=zag (show j<row.length by omega)
 exact ⟨row,hr,hl,by simp [gz,hr,hx]⟩
def zcp (g:List (List Int)) (level:Bool) (line at_:Nat):Int × Int:=if level then (gz g (line - 1) at_,gz g line at_) else (gz g at_ (line - 1),gz g at_ line)
def InL (H W:Nat) (level:Bool) (line at_:Nat):Prop:=1≤line∧if level then line<H∧at_<W else line<W∧at_<H
structure Wall where
 level:Bool
 line:Int
 fr:Int
 long:Int
def Wall.cells (w:Wall):List PV:=[.bool w.level,.int .i64 w.line,.int .i64 w.fr,.int .i64 w.long]
abbrev ye2 (w:Wall):PV := .agg w.cells
def wcs (ws:List Wall):List PV:=ws.flatMap Wall.cells
abbrev zsd (ws:List Wall):PV := .sl (wcs ws) ws.length
theorem zpc (r:Wall) (rs:List Wall):wcs (r::rs)=r.cells++wcs rs:=rfl
theorem zvb (rs ss:List Wall):wcs (rs++ss)=wcs rs++wcs ss:=by simp [wcs]
theorem ziv (rs:List Wall):(wcs rs).length=rs.length*4:=by
 induction rs with
 | nil=>rfl
 | cons r rs ih=>rw [zpc,List.length_append,ih,List.length_cons]; simp [Wall.cells]; omega
theorem yf1 {ws:List Wall} {n:Nat} {w:Wall} (h:ws[n]?=some w):((wcs ws).drop (n*4)).take 4=w.cells:=by
 induction ws generalizing n with
 | nil=>simp at h
 | cons a ws ih =>
  cases n with
  | zero=>simp at h; subst h; rw [zpc]; simp [Wall.cells]
  | succ n =>
   simp at h
   rw [zpc,show (n+1)*4=a.cells.length+n*4 by simp [Wall.cells]; omega,List.drop_length_add_append]
   exact ih h
def zep (d:Bool) (level:Bool) (line at_:Nat) (s:List Wall × Bool):List Wall × Bool :=
 if d && s.2 then (s.1.dropLast++(s.1.getLast?.map fun w=>{ w with long:=w.long+1 }).toList,d)
 else if d then (s.1++[⟨level,line,at_,1⟩],d) else (s.1,d)
def zij (g:List (List Int)) (level:Bool) (line at_:Nat):Bool:=decide ((zcp g level line at_).1≠(zcp g level line at_).2)
def zcd (g:List (List Int)) (level:Bool) (line:Nat) (ws:List Wall) (n:Nat):List Wall × Bool :=
 (List.range n).foldl (fun s at_=>zep (zij g level line at_) level line at_ s) (ws,false)
def zci (g:List (List Int)) (level:Bool) (places:Nat) (ws:List Wall) (line:Nat):List Wall :=
 (List.range line).foldl (fun ws l=>if 1≤l then (zcd g level l ws places).1 else ws) ws
def zcx (g:List (List Int)) (H W:Nat):List Wall:=zci g true W (zci g false H [] W) H
theorem zd8 {g:List (List Int)} {level:Bool} {line:Nat} {ws:List Wall} {n:Nat}:zcd g level line ws (n+1)=zep (zij g level line n) level line n (zcd g level line ws n):=by
 unfold zcd; rw [zct]
theorem zeo {g:List (List Int)} {level:Bool} {places:Nat} {ws:List Wall} {line:Nat} (h:1≤line):zci g level places ws (line+1)=(zcd g level line (zci g level places ws line) places).1:=by
 unfold zci; rw [zct,if_pos h]
theorem z0b {d level:Bool} {line at_:Nat} {s:List Wall × Bool} (h:s.2=true→s.1≠[]):(zep d level line at_ s).2=d∧(d=true→(zep d level line at_ s).1≠[])∧(zep d level line at_ s).1.length≤s.1.length+1∧s.1.length≤(zep d level line at_ s).1.length:=by
 unfold zep
 cases d with
 | false=>simp
 | true =>
  cases ho:s.2 with
  | false=>simp
  | true =>
   have:=h ho
   cases hl:s.1.getLast? with
   | none=>rw [List.getLast?_eq_none_iff]at hl; exact absurd hl this
   | some w =>
    have:0<s.1.length:=List.length_pos_iff.2 this
    simp; omega
theorem zle (g:List (List Int)) (level:Bool) (line:Nat) (ws:List Wall):∀ n,((zcd g level line ws n).2=true→(zcd g level line ws n).1≠[])∧(zcd g level line ws n).1.length≤ws.length+n∧ws.length≤(zcd g level line ws n).1.length
 | 0=>by simp [zcd]
 | n+1=>by
  have ih:=zle g level line ws n
  have:=z0b (d:=zij g level line n) (level:=level) (line:=line) (at_:=n) ih.1
  rw [zd8]
  refine ⟨fun h=>this.2.1 (this.1 ▸ h),by omega,by omega⟩
theorem ziw (g:List (List Int)) (level:Bool) {places:Nat} (hp:places≤6) (ws:List Wall):∀ line,(zci g level places ws line).length≤ws.length+6*line
 | 0=>by simp [zci]
 | line+1=>by
  have ih:=ziw g level hp ws line
  by_cases h:1≤line
  ·rw [zeo h]
   have:=(zle g level line (zci g level places ws line) places).2.1
   omega
  have:line=0:=by omega
  subst this
  simp [zci]at ih ⊢
theorem zld (g:List (List Int)) (level:Bool) (line:Nat) {ws:List Wall} {M:Int} (hM:1≤M) (hws:∀ w∈ws,0≤w.long∧w.long≤M):∀ n:Nat,∀ w∈(zcd g level line ws n).1,0≤w.long∧w.long≤M+n
 | 0,w,h=>by simp [zcd]at h; have:=hws w h; omega
 | n+1,w,h=>by
  have ih:=zld g level line hM hws n
  rw [zd8]at h
  unfold zep at h
  split at h
  ·simp only[List.mem_append,Option.mem_toList,Option.mem_def,qI]at h
   rcases h with h | ⟨u,hu,rfl⟩
   ·have:=ih w ((List.dropLast_sublist _).subset h); omega
   have:=ih u (List.mem_of_getLast? hu); simp only; omega
  split at h
  ·simp only[List.mem_append,List.mem_singleton]at h
   rcases h with h | rfl
   ·have:=ih w h; omega
   simp only; omega
  have:=ih w h; omega
theorem zhw (g:List (List Int)) (level:Bool) {places:Nat} (hp:places≤6) {ws:List Wall} {M:Int} (hM:1≤M) (hws:∀ w∈ws,0≤w.long∧w.long≤M):∀ line:Nat,∀ w∈zci g level places ws line,0≤w.long∧w.long≤M+6*line
 | 0,w,h=>by simp [zci]at h; have:=hws w h; omega
 | line+1,w,h=>by
  have ih:=zhw g level hp hM hws line
  by_cases hl:1≤line
  ·rw [zeo hl]at h
   have:=zld g level line (M:=M+6*line) (by omega) ih places w h
   omega
  have:line=0:=by omega
  subst this
  simp [zci]at h
  have:=hws w h; omega
theorem z2g (ws:List Wall):(wcs ws).all scal=true:=by
 induction ws with
 | nil=>rfl
 | cons r rs ih=>rw [zpc,List.all_append,ih]; rfl
def slW (ws:List Wall) (v:Nat):PV:=match ws with | [] => .nils | _ => .loc 0 v 0 ws.length
def stW (ws:List Wall) (v t:Nat):Store:=match ws with | []=>⟨[],t⟩ | _=>⟨[.arr v 78 4 (wcs ws)],t⟩
theorem ydz {v:Nat}:slW [] v = .nils:=rfl
theorem yd2 {v t:Nat}:stW [] v t=⟨[],t⟩:=rfl
theorem ztd {ws:List Wall} {v:Nat} (h:ws≠[]):slW ws v = .loc 0 v 0 ws.length:=by cases ws with | nil=>exact absurd rfl h | cons a l=>rfl
theorem zog {ws:List Wall} {v t:Nat} (h:ws≠[]):stW ws v t=⟨[.arr v 78 4 (wcs ws)],t⟩:=by cases ws with | nil=>exact absurd rfl h | cons a l=>rfl
theorem z70 {S:Store} {k f:Nat} {sel:List Nat} (ws:List Wall):(wcs ws).mapM (rn S k sel (f+1))=some (wcs ws):=zuv (z2g ws)
theorem z7t {S:Store} {im:Bool} {f:Nat} (ws:List Wall):(wcs ws).mapM (reify S im (f+1))=some (wcs ws):=znd (z2g ws)
theorem ya3 {d op:Bool} {ws:List Wall} (h:op=true→ws≠[]):d=false∨(d=true∧op=false∧ws=[])∨(d=true∧op=false∧ws≠[])∨(d=true∧op=true∧ws≠[]):=by
 cases d <;> cases op <;> simp_all
 by_cases hw:ws=[] <;> simp [hw]
theorem z6e {α:Type} {l:List α} (h:l≠[]):∃ l0 a,l=l0++[a]:=⟨l.dropLast,l.getLast h,(List.dropLast_concat_getLast h).symm⟩
theorem ya0 {ws:List Wall} {w:Wall}:(wcs (ws++[w]))[ws.length*4+3]?=some (.int .i64 w.long):=by
 rw [zvb,List.getElem?_append_right (by rw [ziv]; omega),ziv]
 simp [wcs,Wall.cells]
theorem yeb {ws:List Wall} {w:Wall} {x:Int}:(wcs (ws++[w])).take (ws.length*4+3)++[.int .i64 x]++(wcs (ws++[w])).drop (ws.length*4+4)=wcs (ws++[{ w with long:=x }]):=by
 rw [zvb,zvb,← ziv,List.take_length_add_append,List.drop_length_add_append]
 simp [wcs,Wall.cells]
def wsI (g:List (List Int)) (nh nw:Nat) (i:Nat):List Wall:=if i=0 then [] else if i=1 then zci g false nh [] nw else zcx g nh nw
theorem zlc {g:List (List Int)} {level:Bool} {places:Nat} {ws:List Wall}:zci g level places ws 1=ws:=by simp [zci]
theorem zlf {g:List (List Int)} {level:Bool} {line:Nat} {ws:List Wall}:zcd g level line ws 0=(ws,false):=rfl
theorem ya5 {g:List (List Int)} {nh nw i:Nat} (h:i<2):wsI g nh nw (i+1)=zci g (decide (i=1)) (if i=1 then nw else nh) (wsI g nh nw i) (if i=1 then nh else nw):=by
 rcases (show i=0∨i=1 by omega) with rfl | rfl <;> simp [wsI,zcx]
theorem z8y {g:List (List Int)} {nh nw i:Nat} (hh:nh≤6) (hw:nw≤6):(wsI g nh nw i).length≤72:=by
 have h1:=ziw g false (places:=nh) hh [] nw
 have h2:=ziw g true (places:=nw) hw (zci g false nh [] nw) nh
 unfold wsI
 split
 ·simp
 split
 ·simp at h1; omega
 simp at h1; simp only[zcx]; omega
theorem ya4 {g:List (List Int)} {nh nw i:Nat} (hh:nh≤6) (hw:nw≤6):∀ w∈wsI g nh nw i,0≤w.long∧w.long≤100:=by
 have h1:=zhw g false (places:=nh) hh (ws:=[]) (M:=1) (by omega) (by simp) nw
 have h2:=zhw g true (places:=nw) hw (M:=1+6*nw) (by omega) h1 nh
 unfold wsI
 split
 ·simp
 split
 ·intro w hw; have:=h1 w hw; omega
 intro w hw; have:=h2 w hw; omega
theorem zxz {ws:List Wall} {v t f:Nat}:rn (stW ws v t) (stW ws v t).obs.length [] (f+1) (slW ws v)=some (slW ws v):=by
 cases ws <;> rfl
theorem zx0 {ws:List Wall} {v t:Nat}:(stW ws v t).rn (stW ws v t).obs.length []=some (stW ws v (t+1)):=by
 cases ws with
 | nil=>rfl
 | cons w ws =>
  rw [zog (by simp),zog (by simp)]
  simp [zb1,zaj,zan,zau,z70,qS]
theorem zak {S:Store}:S.take S.obs.length=S:=by simp [Store.take]
theorem ycb {ws:List Wall}:(wcs ws).take (ws.length*4)=wcs ws:=by rw [← ziv,List.take_length]
theorem ya1 {ws:List Wall} {w:Wall}:wcs (ws++[w])=wcs ws++w.cells:=by rw [zvb]; simp [wcs]
theorem z7s {ws:List Wall} {v t:Nat} {im:Bool} {k:Nat}:reify (stW ws v t) im (k+2) (slW ws v)=some (zsd ws):=by
 cases ws with
 | nil=>rfl
 | cons w ws =>
  rw [ztd (by simp),zog (by simp)]
  exact zcv rfl (ziv _) (z7t _)
theorem z4l {n:Nat}:(((n+1:Nat):Int) - 1).toNat=n:=by omega
theorem z2o {g:List (List Int)} {nh nw:Nat} (hg:GW g nh nw) (rs:List Rect) {level:Bool} {line at_:Nat} (hi:InL nh nw level line at_):PC Tryz.prog 81 [za3 g rs,.bool level,.int .i64 line,.int .i64 at_] (.tup [.int .i64 (zcp g level line at_).1,.int .i64 (zcp g level line at_).2]) true:=by
 have hl:=hg.1
 obtain ⟨hi1,hi2⟩:=hi
 have hb:line≤6∧at_≤6:=by have:=hg.2.2; cases level <;> simp at hi2 <;> omega
 refine PC.of ⟨Tryz.func81,by kernel_rfl,rfl,by kernel_rfl⟩ zap mixed (by show 4≤Tryz.f81.ntmps; decide) ?_
 refine W.r fun K hK=>?_
 simp(disch:=omega)only[↓RU,RV,RH,↓reduceIte,qE,reduceCtorEq,if_pos,↓RS,RG,qA,qM,qL]
 apply hK;clear hK K
 refine W.seq ?_
 refine W.r fun K hK=>?_
 simp(disch:=omega)only[↓RU,RV,RH,↓reduceIte,qE,reduceCtorEq,if_pos,↓RS,RG,qA,qM,qL]
 apply hK;clear hK K
 refine W.cond rfl (fun h0=>?_) (fun h0=>?_)
 ·try simp only[RL]at h0
  subst h0
  simp only[if_true]at hi2
  obtain ⟨r1,hr1,hl1,hx1⟩:=hg.at_ (i:=line - 1) (j:=at_) (by omega) hi2.2
  obtain ⟨r2,hr2,hl2,hx2⟩:=hg.at_ (i:=line) (j:=at_) hi2.1 hi2.2
  refine W.seq_draw (by kernel_rfl) fun K hK=>?_
  simp(disch:=omega)only[↓RU,RV,RH,↓reduceIte,qE,reduceCtorEq,if_pos,w64,↓RS,RG,qA,qM,qL,ty1,ty3,zab,ze6,zde,za7,zaa,ze7,za8,hr1,hx1,hr2,hx2,zbl]
  apply hK;clear hK K
  refine W.ret ?_
  refine XThen.ret ?_
  refine Br rfl ?_
  rfl
 try simp only[RL]at h0
 subst h0
 simp only[qF,if_false]at hi2
 obtain ⟨r1,hr1,hl1,hx1⟩:=hg.at_ (i:=at_) (j:=line - 1) hi2.2 (by omega)
 obtain ⟨r2,hr2,hl2,hx2⟩:=hg.at_ (i:=at_) (j:=line) hi2.2 hi2.1
 obtain rfl:r1=r2:=by rw [hr1]at hr2; exact Option.some.inj hr2
 refine W.skip ?_
 refine xn ?_
 refine W.seq_draw (by kernel_rfl) fun K hK=>?_
 simp(disch:=omega)only[↓RU,RV,RH,↓reduceIte,qE,reduceCtorEq,if_pos,w64,↓RS,RG,qA,qM,qL,ty1,ty3,zab,ze6,zde,za7,zaa,ze7,za8,hr1,hx1,hr2,hx2,zbl]
 apply hK;clear hK K
 refine W.ret ?_
 refine Br rfl ?_
 rfl
theorem zvv {g:List (List Int)} {nh nw:Nat} (hg:GW g nh nw) (rs:List Rect) {level:Bool} {line at_:Nat} (hi:InL nh nw level line at_):PC Tryz.prog 80 [za3 g rs,.bool level,.int .i64 line,.int .i64 at_] (.bool (zij g level line at_)) true:=by
 refine PC.of ⟨Tryz.func80,by kernel_rfl,rfl,by kernel_rfl⟩ zap mixed (by show 4≤Tryz.f80.ntmps; decide) ?_
 refine W.r fun K hK=>?_
 simp(disch:=omega)only[↓RU,RV,RH,↓reduceIte,qE,reduceCtorEq,if_pos]
 apply hK;clear hK K
 refine W.r fun K hK=>?_
 simp(disch:=omega)only[↓RU,RV,RH,↓reduceIte,qE,reduceCtorEq,if_pos,qN]
 refine zad.pc (z2o hg rs hi) rfl (.inl rfl) ?_
 simp(disch:=omega)only[↓RU,RV,RH,↓reduceIte,qE,reduceCtorEq,if_pos,qN]
 apply hK;clear hK K
 refine W.r fun K hK=>?_
 simp(disch:=omega)only[↓RU,RV,RH,↓reduceIte,qE,reduceCtorEq,if_pos,w64,zaa]
 apply hK;clear hK K
 refine W.ret ?_
 refine Br rfl ?_
 rw [show zij g level line at_=((zcp g level line at_).1 != (zcp g level line at_).2) by rw [ztv,zij]; simp]
 rfl
theorem yaz {g:List (List Int)} {nh nw:Nat} (hg:GW g nh nw) (rs:List Rect):PC Tryz.prog 48 [za3 g rs] (zsd (zcx g nh nw)) true:=by
 have hl:=hg.1
 obtain ⟨hg1,hg2,hg3,hg4⟩:=hg.2.2
 obtain ⟨row0,hrow0,hrl0,-⟩:=hg.at_ (i:=0) (j:=0) (by omega) (by omega)
 refine PC.of ⟨Tryz.func48,by kernel_rfl,rfl,by kernel_rfl⟩ zap mixed (by show 1≤Tryz.f48.ntmps; decide) ?_
 refine W.r fun K hK=>?_
 simp(disch:=omega)only[↓RU,RV,RH,↓reduceIte,qE,reduceCtorEq,if_pos,↓RS,RG,qA,qM,qL]
 apply hK;clear hK K
 refine W.r fun K hK=>?_
 simp(disch:=omega)only[↓RU,RV,RH,↓reduceIte,qE,reduceCtorEq,if_pos,↓RS,RG,qA,qM,qL]
 apply hK;clear hK K
 refine W.seq ?_
 refine W.r fun K hK=>?_
 simp(disch:=omega)only[↓RU,RV,RH,↓reduceIte,qE,reduceCtorEq,if_pos,↓RS,RG,qA,qM,qL,ty2,zah]
 apply hK;clear hK K
 refine W.block ?_
 refine W.loopS [0,12,13,14,3] (fun n vs S=>∃ i v t:Nat,n=2 - i∧(i≤2)∧vs=[za3 g rs,.sl [.bool false,.bool true] 2,.int .i64 2,.int .i64 i,slW (wsI g nh nw i) v]∧S=stW (wsI g nh nw i) v t) 2 ?_ ?_
 ·refine ⟨0,[],[za3 g rs,.sl [.bool false,.bool true] 2,.int .i64 2,.int .i64 (0:Nat),.nils],⟨[],2⟩,?_,?_,0,0,2,rfl,by omega,rfl,rfl⟩
  ·simp [-qU,Env.put,Env.of,zaf,zb1,zaj,zan,zau,zax,zb9,zca,zdc,zb8,zbi,zcb,zdb,zdd,zbk,zbj,zay,zb7,zcc,zda,zbg,zbf,zaw,zbh,zb6,zfc,qS,qP,qC]
  simp [-qU,Env.put,Env.of,zaf,zb1,zaj,zan,zau,zax,zb9,zca,zdc,zb8,zbi,zcb,zdb,zdd,zbk,zbj,zay,zb7,zcc,zda,zbg,zbf,zaw,zbh,zb6,zfc,qS,qP,qC]
 rintro n vs S - ⟨i,v,t,rfl,h_i,rfl,rfl⟩
 refine W.r fun K hK=>?_
 simp(disch:=omega)only[↓RU,RV,RH,↓reduceIte,qE,reduceCtorEq,if_pos,w64,↓RS,RG,qA,qM,qL,zaa]
 apply hK;clear hK K
 refine W.seq ?_
 refine W.cond rfl (fun h=>?_) (fun h=>?_)
 ·try simp only[RL]at h
  have hi2:i<2:=by omega
  obtain ⟨ls,hls⟩:∃ ls:Nat,(if i=1 then nh else nw)=ls:=⟨_,rfl⟩
  obtain ⟨ps,hps⟩:∃ ps:Nat,(if i=1 then nw else nh)=ps:=⟨_,rfl⟩
  have hlp:1≤ls∧ls≤6∧1≤ps∧ps≤6:=by subst hls hps; split <;> omega
  have hwl:=z8y (g:=g) (nh:=nh) (nw:=nw) (i:=i) hg2 hg4
  have hlong:=ya4 (g:=g) (nh:=nh) (nw:=nw) (i:=i) hg2 hg4
  have hlev:[PV.bool false,PV.bool true][i]?=some (.bool (decide (i=1))):=by rcases (show i=0∨i=1 by omega) with rfl | rfl <;> rfl
  refine W.skip ?_
  refine xn ?_
  refine W.seq ?_
  refine W.block ?_
  refine W.r fun K hK=>?_
  simp(disch:=omega)only[↓RU,RV,RH,↓reduceIte,qE,reduceCtorEq,if_pos,↓RS,RG,qA,qM,qL,ty2,zah,hlev]
  apply hK;clear hK K
  refine W.r fun K hK=>?_
  simp(disch:=omega)only[↓RU,RV,RH,↓reduceIte,qE,reduceCtorEq,if_pos,qN,↓RS,RG,qA,qM,qL,hl,hrl0]
  refine zad.pc (zvc hrow0 rs) rfl (.inl rfl) ?_
  simp(disch:=omega)only[↓RU,RV,RH,↓reduceIte,qE,reduceCtorEq,if_pos,qN,↓RS,RG,qA,qM,qL,hl,hrl0]
  refine zad.pc (zp2 g rs) rfl (.inl rfl) ?_
  simp(disch:=omega)only[↓RU,RV,RH,↓reduceIte,qE,reduceCtorEq,if_pos,qN,↓RS,RG,qA,qM,qL,hl,hrl0]
  apply hK;clear hK K
  refine W.join [0,12,13,14,3,5,6,7] (fun vs S=>vs=[za3 g rs,.sl [.bool false,.bool true] 2,.int .i64 2,.int .i64 i,slW (wsI g nh nw i) v,.bool (decide (i=1)),.int .i64 ls,.int .i64 ps]∧S=stW (wsI g nh nw i) v t) ?_ ?_
  ·
   refine W.r fun K hK=>?_
   simp(disch:=omega)only[↓RU,RV,RH,↓reduceIte,qE,reduceCtorEq,if_pos,↓RS,RG,qA,qM,qL]
   apply hK;clear hK K
   refine W.cond rfl (fun h1=>?_) (fun h1=>?_)
   ·try simp only[RL]at h1
    refine W.k fun K hK=>?_
    simp(disch:=omega)only[↓RU,RV,RH,↓reduceIte,qE,reduceCtorEq,if_pos,↓RS,RG,qA,qM,qL]
    apply hK;clear hK K
    refine xn ?_
    refine ⟨_,?_,zak⟩
    subst hls hps
    simp [Env.put,Env.of,h1]
   try simp only[RL]at h1
   refine W.skip ?_
   refine xn ?_
   refine ⟨_,?_,zak⟩
   subst hls hps
   simp [Env.put,Env.of,h1]
  rintro vs S - ⟨rfl,rfl⟩
  refine W.r fun K hK=>?_
  simp(disch:=omega)only[↓RU,RV,RH,↓reduceIte,qE,reduceCtorEq,if_pos,↓RS,RG,qA,qM,qL]
  apply hK;clear hK K
  refine W.block ?_
  refine W.loopS [0,12,13,14,3,5,6,7,8] (fun n vs S=>∃ line v t:Nat,n=ls - line∧(1≤line)∧(line≤ls)∧vs=[za3 g rs,.sl [.bool false,.bool true] 2,.int .i64 2,.int .i64 i,slW (zci g (decide (i=1)) ps (wsI g nh nw i) line) v,.bool (decide (i=1)),.int .i64 ls,.int .i64 ps,.int .i64 line]∧S=stW (zci g (decide (i=1)) ps (wsI g nh nw i) line) v t) (ls - 1) ?_ ?_
  ·refine ⟨_,[],[za3 g rs,.sl [.bool false,.bool true] 2,.int .i64 2,.int .i64 i,slW (wsI g nh nw i) v,.bool (decide (i=1)),.int .i64 ls,.int .i64 ps,.int .i64 (1:Nat)],stW (wsI g nh nw i) v (t+1),?_,zx0,1,v,t+1,rfl,by omega,by omega,by rw [zlc],by rw [zlc]⟩
   simp [-qU,Env.put,Env.of,zaf,zb1,zaj,zan,zau,zax,zb9,zca,zdc,zb8,zbi,zcb,zdb,zdd,zbk,zbj,zay,zb7,zcc,zda,zbg,zbf,zaw,zbh,zb6,zfc,qS,qP,qC,zxz]
  rintro n vs S - ⟨line,v,t,rfl,h1l,h_l,rfl,rfl⟩
  refine W.seq ?_
  refine W.r fun K hK=>?_
  simp(disch:=omega)only[↓RU,RV,RH,↓reduceIte,qE,reduceCtorEq,if_pos,w64,↓RS,RG,qA,qM,qL,zaa]
  apply hK;clear hK K
  refine W.cond rfl (fun h2=>?_) (fun h2=>?_)
  ·try simp only[RL]at h2
   have hwl2:=ziw g (decide (i=1)) hlp.2.2.2 (wsI g nh nw i) line
   have hlong2:=zhw g (decide (i=1)) hlp.2.2.2 (M:=100) (by omega) hlong line
   generalize hWs:(zci g (decide (i=1)) ps (wsI g nh nw i) line)=Ws at hwl2 hlong2
   refine W.skip ?_
   refine xn ?_
   refine W.seq ?_
   refine W.block ?_
   refine W.r fun K hK=>?_
   simp(disch:=omega)only[↓RU,RV,RH,↓reduceIte,qE,reduceCtorEq,if_pos,↓RS,RG,qA,qM,qL]
   apply hK;clear hK K
   refine W.r fun K hK=>?_
   simp(disch:=omega)only[↓RU,RV,RH,↓reduceIte,qE,reduceCtorEq,if_pos,↓RS,RG,qA,qM,qL]
   apply hK;clear hK K
   refine W.block ?_
   refine W.loopS [0,12,13,14,3,5,6,7,8,9,30,31] (fun n vs S=>∃ at_ v t:Nat,n=ps - at_∧(at_≤ps)∧vs=[za3 g rs,.sl [.bool false,.bool true] 2,.int .i64 2,.int .i64 i,slW (zcd g (decide (i=1)) line Ws at_).1 v,.bool (decide (i=1)),.int .i64 ls,.int .i64 ps,.int .i64 line,.bool (zcd g (decide (i=1)) line Ws at_).2,.int .i64 ps,.int .i64 at_]∧S=stW (zcd g (decide (i=1)) line Ws at_).1 v t) ps ?_ ?_
   ·refine ⟨_,[],[za3 g rs,.sl [.bool false,.bool true] 2,.int .i64 2,.int .i64 i,slW Ws v,.bool (decide (i=1)),.int .i64 ls,.int .i64 ps,.int .i64 line,.bool false,.int .i64 ps,.int .i64 (0:Nat)],stW Ws v (t+1),?_,zx0,0,v,t+1,rfl,by omega,rfl,rfl⟩
    simp [-qU,Env.put,Env.of,zaf,zb1,zaj,zan,zau,zax,zb9,zca,zdc,zb8,zbi,zcb,zdb,zdd,zbk,zbj,zay,zb7,zcc,zda,zbg,zbf,zaw,zbh,zb6,zfc,qS,qP,qC,zxz]
   rintro n vs S - ⟨at_,v,t,rfl,h_a,rfl,rfl⟩
   refine W.r fun K hK=>?_
   simp(disch:=omega)only[↓RU,RV,RH,↓reduceIte,qE,reduceCtorEq,if_pos,w64,↓RS,RG,qA,qM,qL,zaa]
   apply hK;clear hK K
   refine W.seq ?_
   refine W.cond rfl (fun h3=>?_) (fun h3=>?_)
   ·try simp only[RL]at h3
    have hop:=(zle g (decide (i=1)) line Ws at_)
    have hlong3:=zld g (decide (i=1)) line (M:=100+6*line) (by omega) hlong2 at_
    have hin:InL nh nw (decide (i=1)) line at_:=by refine ⟨h1l,?_⟩; rcases (show i=0∨i=1 by omega) with rfl | rfl <;> simp at hls hps ⊢ <;> omega
    generalize hs:zcd g (decide (i=1)) line Ws at_=s at hop hlong3
    obtain ⟨ws,op⟩:=s
    simp only at hop hlong3
    refine W.skip ?_
    refine xn ?_
    refine W.seq ?_
    refine W.block ?_
    refine W.r fun K hK=>?_
    simp(disch:=omega)only[↓RU,RV,RH,↓reduceIte,qE,reduceCtorEq,if_pos,↓RS,RG,qA,qM,qL]
    apply hK;clear hK K
    refine W.r fun K hK=>?_
    simp(disch:=omega)only[↓RU,RV,RH,↓reduceIte,qE,reduceCtorEq,if_pos,qN,↓RS,RG,qA,qM,qL]
    refine zad.pc (zvv hg rs hin) rfl (.inl rfl) ?_
    simp(disch:=omega)only[↓RU,RV,RH,↓reduceIte,qE,reduceCtorEq,if_pos,qN,↓RS,RG,qA,qM,qL]
    apply hK;clear hK K
    refine W.seq ?_
    refine W.block ?_
    refine W.r fun K hK=>?_
    obtain hd | ⟨hd,rfl,rfl⟩ | ⟨hd,rfl,hw⟩ | ⟨hd,rfl,hw⟩:=ya3 (d:=zij g (decide (i=1)) line at_) hop.1
    ·skip
     simp(disch:=omega)only[↓RU,RV,RH,↓reduceIte,qE,reduceCtorEq,if_pos,↓RS,RG,qA,qM,qL,hd]
     apply hK;clear hK K
     refine W.cond rfl (fun h4=>?_) (fun h4=>?_)
     ·try simp only[RL]at h4
      exact absurd h4 (by simp)
     try simp only[RL]at h4
     refine W.r fun K hK=>?_
     simp(disch:=omega)only[↓RU,RV,RH,↓reduceIte,qE,reduceCtorEq,if_pos,↓RS,RG,qA,qM,qL]
     apply hK;clear hK K
     refine W.cond rfl (fun h5=>?_) (fun h5=>?_)
     ·try simp only[RL]at h5
      exact absurd h5 (by simp)
     try simp only[RL]at h5
     refine W.skip ?_
     refine XbN ?_
     refine xn ?_
     refine W.k fun K hK=>?_
     simp(disch:=omega)only[↓RU,RV,RH,↓reduceIte,qE,reduceCtorEq,if_pos,↓RS,RG,qA,qM,qL]
     apply hK;clear hK K
     refine XbN ?_
     refine xn ?_
     refine W.k fun K hK=>?_
     simp(disch:=omega)only[↓RU,RV,RH,↓reduceIte,qE,reduceCtorEq,if_pos,w64,↓RS,RG,qA,qM,qL,zaa]
     apply hK;clear hK K
     refine xn ?_
     have hnx:zcd g (decide (i=1)) line Ws (at_+1)=(ws,false):=by rw [zd8,hs,hd]; simp [zep]
     refine ⟨ps - (at_+1),by omega,(stW ws v t).obs.length,[],[za3 g rs,.sl [.bool false,.bool true] 2,.int .i64 2,.int .i64 i,slW (zcd g (decide (i=1)) line Ws (at_+1)).1 v,.bool (decide (i=1)),.int .i64 ls,.int .i64 ps,.int .i64 line,.bool (zcd g (decide (i=1)) line Ws (at_+1)).2,.int .i64 ps,.int .i64 ((at_+1:Nat):Int)],stW (zcd g (decide (i=1)) line Ws (at_+1)).1 v (t+1),?_,?_,at_+1,v,(t+1),rfl,by omega,rfl,rfl⟩
     ·rw [hnx]; simp [-qU,Env.put,Env.of,zaf,zb1,zaj,zan,zau,zax,zb9,zca,zdc,zb8,zbi,zcb,zdb,zdd,zbk,zbj,zay,zb7,zcc,zda,zbg,zbf,zaw,zbh,zb6,zfc,qS,qP,qC,zxz]
     rw [hnx]; exact zx0
    ·skip
     rw [ydz,yd2]
     simp(disch:=omega)only[↓RU,RV,RH,↓reduceIte,qE,reduceCtorEq,if_pos,↓RS,RG,qA,qM,qL,hd]
     apply hK;clear hK K
     refine W.cond rfl (fun h4=>?_) (fun h4=>?_)
     ·try simp only[RL]at h4
      exact absurd h4 (by simp)
     try simp only[RL]at h4
     refine W.r fun K hK=>?_
     simp(disch:=omega)only[↓RU,RV,RH,↓reduceIte,qE,reduceCtorEq,if_pos,↓RS,RG,qA,qM,qL]
     apply hK;clear hK K
     refine W.cond rfl (fun h5=>?_) (fun h5=>?_)
     ·try simp only[RL]at h5
      refine W.k fun K hK=>?_
      simp(disch:=omega)only[↓RU,RV,RH,↓reduceIte,qE,reduceCtorEq,if_pos,↓RS,RG,qA,qM,qL,ty4,zah,z2w,zaa,z2x,ziv,ycb]
      apply hK;clear hK K
      refine XbN ?_
      refine xn ?_
      refine W.k fun K hK=>?_
      simp(disch:=omega)only[↓RU,RV,RH,↓reduceIte,qE,reduceCtorEq,if_pos,↓RS,RG,qA,qM,qL]
      apply hK;clear hK K
      refine XbN ?_
      refine xn ?_
      refine W.k fun K hK=>?_
      simp(disch:=omega)only[↓RU,RV,RH,↓reduceIte,qE,reduceCtorEq,if_pos,w64,↓RS,RG,qA,qM,qL,zaa]
      apply hK;clear hK K
      refine xn ?_
      have hnx:zcd g (decide (i=1)) line Ws (at_+1)=([⟨decide (i=1),line,at_,1⟩],true):=by rw [zd8,hs,hd]; simp [zep]
      refine ⟨ps - (at_+1),by omega,0,[1],[za3 g rs,.sl [.bool false,.bool true] 2,.int .i64 2,.int .i64 i,slW (zcd g (decide (i=1)) line Ws (at_+1)).1 (t+2),.bool (decide (i=1)),.int .i64 ls,.int .i64 ps,.int .i64 line,.bool (zcd g (decide (i=1)) line Ws (at_+1)).2,.int .i64 ps,.int .i64 ((at_+1:Nat):Int)],stW (zcd g (decide (i=1)) line Ws (at_+1)).1 (t+2) (t+3),?_,?_,at_+1,(t+2),(t+3),rfl,by omega,rfl,rfl⟩
      ·rw [hnx]; simp [-qU,Env.put,Env.of,zaf,zb1,zaj,zan,zau,zax,zb9,zca,zdc,zb8,zbi,zcb,zdb,zdd,zbk,zbj,zay,zb7,zcc,zda,zbg,zbf,zaw,zbh,zb6,zfc,qS,qP,qC,ztd]
      rw [hnx]; simp [-qU,Env.put,Env.of,zaf,zb1,zaj,zan,zau,zax,zb9,zca,zdc,zb8,zbi,zcb,zdb,zdd,zbk,zbj,zay,zb7,zcc,zda,zbg,zbf,zaw,zbh,zb6,zfc,qS,qP,qC,zog,wcs,Wall.cells]
     try simp only[RL]at h5
     exact absurd h5 (by simp)
    ·skip
     rw [ztd hw,zog hw]
     simp(disch:=omega)only[↓RU,RV,RH,↓reduceIte,qE,reduceCtorEq,if_pos,↓RS,RG,qA,qM,qL,hd]
     apply hK;clear hK K
     refine W.cond rfl (fun h4=>?_) (fun h4=>?_)
     ·try simp only[RL]at h4
      exact absurd h4 (by simp)
     try simp only[RL]at h4
     refine W.r fun K hK=>?_
     simp(disch:=omega)only[↓RU,RV,RH,↓reduceIte,qE,reduceCtorEq,if_pos,↓RS,RG,qA,qM,qL]
     apply hK;clear hK K
     refine W.cond rfl (fun h5=>?_) (fun h5=>?_)
     ·try simp only[RL]at h5
      refine W.k fun K hK=>?_
      simp(disch:=omega)only[↓RU,RV,RH,↓reduceIte,qE,reduceCtorEq,if_pos,↓RS,RG,qA,qM,qL,ty4,zah,z2w,zaa,z2x,ziv,ycb]
      apply hK;clear hK K
      refine XbN ?_
      refine xn ?_
      refine W.k fun K hK=>?_
      simp(disch:=omega)only[↓RU,RV,RH,↓reduceIte,qE,reduceCtorEq,if_pos,↓RS,RG,qA,qM,qL]
      apply hK;clear hK K
      refine XbN ?_
      refine xn ?_
      refine W.k fun K hK=>?_
      simp(disch:=omega)only[↓RU,RV,RH,↓reduceIte,qE,reduceCtorEq,if_pos,w64,↓RS,RG,qA,qM,qL,zaa]
      apply hK;clear hK K
      refine xn ?_
      have hnx:zcd g (decide (i=1)) line Ws (at_+1)=(ws++[⟨decide (i=1),line,at_,1⟩],true):=by rw [zd8,hs,hd]; simp [zep]
      refine ⟨ps - (at_+1),by omega,1,[],[za3 g rs,.sl [.bool false,.bool true] 2,.int .i64 2,.int .i64 i,slW (zcd g (decide (i=1)) line Ws (at_+1)).1 (t+1),.bool (decide (i=1)),.int .i64 ls,.int .i64 ps,.int .i64 line,.bool (zcd g (decide (i=1)) line Ws (at_+1)).2,.int .i64 ps,.int .i64 ((at_+1:Nat):Int)],stW (zcd g (decide (i=1)) line Ws (at_+1)).1 (t+1) (t+3),?_,?_,at_+1,(t+1),(t+3),rfl,by omega,rfl,rfl⟩
      ·rw [hnx]; simp [-qU,Env.put,Env.of,zaf,zb1,zaj,zan,zau,zax,zb9,zca,zdc,zb8,zbi,zcb,zdb,zdd,zbk,zbj,zay,zb7,zcc,zda,zbg,zbf,zaw,zbh,zb6,zfc,qS,qP,qC,ztd]
      rw [hnx]; simp [-qU,Env.put,Env.of,zaf,zb1,zaj,zan,zau,zax,zb9,zca,zdc,zb8,zbi,zcb,zdb,zdd,zbk,zbj,zay,zb7,zcc,zda,zbg,zbf,zaw,zbh,zb6,zfc,qS,qP,qC,zog,z70,ya1,Wall.cells]
     try simp only[RL]at h5
     exact absurd h5 (by simp)
    skip
    obtain ⟨ws,w,rfl⟩:=z6e hw
    rw [ztd hw,zog hw]
    have hwlg:=hlong3 w (by simp)
    have hwl3:ws.length+1≤200:=by have:=hop.2.1; simp at this; omega
    simp(disch:=omega)only[↓RU,RV,RH,↓reduceIte,qE,reduceCtorEq,if_pos,↓RS,RG,qA,qM,qL,hd]
    apply hK;clear hK K
    refine W.cond rfl (fun h4=>?_) (fun h4=>?_)
    ·try simp only[RL]at h4
     refine W.k fun K hK=>?_
     simp(disch:=omega)only[↓RU,RV,RH,↓reduceIte,qE,reduceCtorEq,if_pos,w64,↓RS,RG,qA,qM,qL,ty4,zah,z2w,zaa,z2x,List.length_append,ziv,ya0,yeb,z4l]
     apply hK;clear hK K
     refine XbN ?_
     refine xn ?_
     refine W.k fun K hK=>?_
     simp(disch:=omega)only[↓RU,RV,RH,↓reduceIte,qE,reduceCtorEq,if_pos,↓RS,RG,qA,qM,qL]
     apply hK;clear hK K
     refine XbN ?_
     refine xn ?_
     refine W.k fun K hK=>?_
     simp(disch:=omega)only[↓RU,RV,RH,↓reduceIte,qE,reduceCtorEq,if_pos,w64,↓RS,RG,qA,qM,qL,zaa]
     apply hK;clear hK K
     refine xn ?_
     have hnx:zcd g (decide (i=1)) line Ws (at_+1)=(ws++[{ w with long:=w.long+1 }],true):=by rw [zd8,hs,hd]; simp [zep]
     refine ⟨ps - (at_+1),by omega,1,[],[za3 g rs,.sl [.bool false,.bool true] 2,.int .i64 2,.int .i64 i,slW (zcd g (decide (i=1)) line Ws (at_+1)).1 v,.bool (decide (i=1)),.int .i64 ls,.int .i64 ps,.int .i64 line,.bool (zcd g (decide (i=1)) line Ws (at_+1)).2,.int .i64 ps,.int .i64 ((at_+1:Nat):Int)],stW (zcd g (decide (i=1)) line Ws (at_+1)).1 v (t+1),?_,?_,at_+1,v,(t+1),rfl,by omega,rfl,rfl⟩
     ·rw [hnx]; simp [-qU,Env.put,Env.of,zaf,zb1,zaj,zan,zau,zax,zb9,zca,zdc,zb8,zbi,zcb,zdb,zdd,zbk,zbj,zay,zb7,zcc,zda,zbg,zbf,zaw,zbh,zb6,zfc,qS,qP,qC,ztd]
     rw [hnx]; simp [-qU,Env.put,Env.of,zaf,zb1,zaj,zan,zau,zax,zb9,zca,zdc,zb8,zbi,zcb,zdb,zdd,zbk,zbj,zay,zb7,zcc,zda,zbg,zbf,zaw,zbh,zb6,zfc,qS,qP,qC,zog,z70]
    try simp only[RL]at h4
    exact absurd h4 (by simp)
   ·try simp only[RL]at h3
    obtain rfl:ps=at_:=by omega
    refine W.exit ?_
    refine xe ?_
    refine xe ?_
    refine XBlock.hit ?_
    refine XbN ?_
    refine xn ?_
    refine W.k fun K hK=>?_
    simp(disch:=omega)only[↓RU,RV,RH,↓reduceIte,qE,reduceCtorEq,if_pos,w64,↓RS,RG,qA,qM,qL,zaa]
    apply hK;clear hK K
    refine xn ?_
    refine ⟨ls - (line+1),by omega,(stW (zcd g (decide (i=1)) line Ws ps).1 v t).obs.length,[],[za3 g rs,.sl [.bool false,.bool true] 2,.int .i64 2,.int .i64 i,slW (zci g (decide (i=1)) ps (wsI g nh nw i) (line+1)) v,.bool (decide (i=1)),.int .i64 ls,.int .i64 ps,.int .i64 ((line+1:Nat):Int)],stW (zci g (decide (i=1)) ps (wsI g nh nw i) (line+1)) v (t+1),?_,?_,line+1,v,t+1,rfl,by omega,by omega,rfl,rfl⟩
    rotate_left
    ·rw [zeo h1l,hWs]; exact zx0
    rw [zeo h1l,hWs]; simp [-qU,Env.put,Env.of,zaf,zb1,zaj,zan,zau,zax,zb9,zca,zdc,zb8,zbi,zcb,zdb,zdd,zbk,zbj,zay,zb7,zcc,zda,zbg,zbf,zaw,zbh,zb6,zfc,qS,qP,qC,zxz]
  ·try simp only[RL]at h2
   obtain rfl:ls=line:=by omega
   refine W.exit ?_
   refine xe ?_
   refine xe ?_
   refine XBlock.hit ?_
   refine XbN ?_
   refine xn ?_
   refine W.k fun K hK=>?_
   simp(disch:=omega)only[↓RU,RV,RH,↓reduceIte,qE,reduceCtorEq,if_pos,w64,↓RS,RG,qA,qM,qL,zaa]
   apply hK;clear hK K
   refine xn ?_
   have hwn:=ya5 (g:=g) (nh:=nh) (nw:=nw) hi2
   rw [hps,hls]at hwn
   refine ⟨2 - (i+1),by omega,(stW (zci g (decide (i=1)) ps (wsI g nh nw i) ls) v t).obs.length,[],[za3 g rs,.sl [.bool false,.bool true] 2,.int .i64 2,.int .i64 ((i+1:Nat):Int),slW (wsI g nh nw (i+1)) v],stW (wsI g nh nw (i+1)) v (t+1),?_,?_,i+1,v,t+1,rfl,by omega,rfl,rfl⟩
   rotate_left
   ·rw [hwn]; exact zx0
   rw [hwn]; simp [-qU,Env.put,Env.of,zaf,zb1,zaj,zan,zau,zax,zb9,zca,zdc,zb8,zbi,zcb,zdb,zdd,zbk,zbj,zay,zb7,zcc,zda,zbg,zbf,zaw,zbh,zb6,zfc,qS,qP,qC,zxz]
 try simp only[RL]at h
 refine W.exit ?_
 refine xe ?_
 refine xe ?_
 refine XBlock.hit ?_
 refine xn ?_
 refine W.r fun K hK=>?_
 simp(disch:=omega)only[↓RU,RV,RH,↓reduceIte,qE,reduceCtorEq,if_pos,↓RS,RG,qA,qM,qL]
 apply hK;clear hK K
 refine W.ret ?_
 refine Br rfl ?_
 obtain rfl:i=2:=by omega
 rw [show wsI g nh nw 2=zcx g nh nw from rfl]
 exact z7s
theorem gF {F R:List Ob} {a:Ob}:(F++a::R)[F.length]?=some a:=by simp
theorem zd1 {F R:List Ob} {a b:Ob}:(F++a::R).set F.length b=F++b::R:=by simp
theorem yam {α:Type} {f:α→PV} {l:List α} {x:α} {a n:Nat}:(l.map f).take a++(List.replicate n x).map f++(l.map f).drop (a+n)=(l.take a++List.replicate n x++l.drop (a+n)).map f:=by simp
theorem z86 {q:IntKind} {l:List Int}:zcn (l.map (PV.int q))=True:=eq_true (zvk (fun _=>rfl) l)
def ddp (l:List Int):List Int:=l.foldl zi5 []
theorem zor {l:List Int} {p:Nat} {x:Int} (h:l[p]?=some x):ddp (l.take (p+1))=zi5 (ddp (l.take p)) x:=zer h
theorem z7l (l:List Int) (x:Int):(zi5 l x).getLast?=some x:=by
 unfold zi5; split
 ·assumption
 simp
theorem zty {l:List Int} {p:Nat} {y:Int} (h:l[p]?=some y):(ddp (l.take (p+1))).getLast?=some y:=by rw [zor h]; exact z7l _ _
theorem zoq {l:List Int} {p:Nat} {x y:Int} (hp:1≤p) (h0:l[p - 1]?=some y) (h:l[p]?=some x) (e:x=y):ddp (l.take (p+1))=ddp (l.take p):=by
 have:=zty h0
 rw [show p - 1+1=p by omega]at this
 rw [zor h,zi5,this,e]; simp
theorem zy0 {l:List Int} {p:Nat} {x y:Int} (hp:1≤p) (h0:l[p - 1]?=some y) (h:l[p]?=some x) (e:¬ x=y):ddp (l.take (p+1))=ddp (l.take p)++[x]:=by
 have:=zty h0
 rw [show p - 1+1=p by omega]at this
 rw [zor h,zi5,this,if_neg (by simpa using Ne.symm e)]
theorem ycn {l:List Int} (h:1≤l.length):ddp (l.take 1)=l.take 1:=by
 cases l with
 | nil=>simp at h
 | cons a l=>rfl
theorem zvu {l:List Int} (h:l.length<2):ddp l=l:=by
 match l,h with
 | [],_=>rfl
 | [a],_=>rfl
theorem z5k (l:List Int):(ddp l).length≤l.length:=by
 unfold ddp
 have:∀ (l m:List Int),(l.foldl zi5 m).length≤m.length+l.length:=by
  intro l
  induction l with
  | nil=>intro m; simp
  | cons a l ih=>intro m; have:=ih (zi5 m a); have:=zl7 (l:=m) (x:=a); simp only[List.foldl_cons,List.length_cons]; omega
 have:=this l []
 simpa using this
structure DC (l c:List Int) (k p:Nat):Prop where
 len:c.length=l.length
 dk:(ddp (l.take p)).length=k
 hd:c.take k=ddp (l.take p)
 dr:c.drop (p - 1)=l.drop (p - 1)
 kp:k+1≤p
theorem DC.get {l c:List Int} {k p j:Nat} (h:DC l c k p) (hj:p - 1≤j):c[j]?=l[j]?:=by
 have:=congrArg (fun x=>x[j - (p - 1)]?) h.dr
 simp only[List.getElem?_drop]at this
 rwa [show p - 1+(j - (p - 1))=j by omega]at this
theorem DC.first {l:List Int} {k:Nat} {x y:Int} (h1:1≤k) (hd:ddp (l.take k)=l.take k) (hy:l[k - 1]?=some y) (hx:l[k]?=some x) (e:x=y):DC l l k (k+1):=by
 have hk:=zb0 hx
 refine ⟨rfl,?_,?_,rfl,qR _⟩
 ·rw [zoq h1 hy hx e,hd,List.length_take]; omega
 rw [zoq h1 hy hx e,hd]
theorem DC.same {l c:List Int} {k p:Nat} {x y:Int} (h:DC l c k p) (h1:1≤p) (hy:l[p - 1]?=some y) (hx:l[p]?=some x) (e:x=y):DC l c k (p+1):=by
 refine ⟨h.len,?_,?_,?_,by have:=h.kp; omega⟩
 ·rw [zoq h1 hy hx e]; exact h.dk
 ·rw [zoq h1 hy hx e]; exact h.hd
 have:=congrArg (List.drop 1) h.dr
 rw [List.drop_drop,List.drop_drop]at this
 rwa [show p - 1+1=p by omega]at this
theorem DC.new {l c:List Int} {k p:Nat} {x y:Int} (h:DC l c k p) (h1:1≤p) (hy:l[p - 1]?=some y) (hx:l[p]?=some x) (e:¬ x=y):DC l (c.set k x) (k+1) (p+1):=by
 have hp:=zb0 hx
 have hk:=h.kp
 have hl:=h.len
 refine ⟨by simpa using hl,?_,?_,?_,by omega⟩
 ·rw [zy0 h1 hy hx e,List.length_append,h.dk]; rfl
 ·rw [zy0 h1 hy hx e,← h.hd]
  have:(c.set k x)[k]?=some x:=by rw [List.getElem?_set]; simp; omega
  rw [tk this,List.take_set_of_le (qR _)]
 rw [Nat.add_sub_cancel,List.drop_set_of_lt (by omega)]
 have:=congrArg (List.drop 1) h.dr
 rw [List.drop_drop,List.drop_drop]at this
 rwa [show p - 1+1=p by omega]at this
def zbq (g:List (List Int)) (level:Bool) (line fr:Nat) (n:Nat):List Int × List Int :=
 ((List.range n).map fun j=>(zcp g level line (fr+j)).1,(List.range n).map fun j=>(zcp g level line (fr+j)).2)
theorem zf2 {g:List (List Int)} {level:Bool} {line fr n:Nat}:(zbq g level line fr (n+1)).1=(zbq g level line fr n).1++[(zcp g level line (fr+n)).1]:=by simp [zbq,qS]
theorem zf3 {g:List (List Int)} {level:Bool} {line fr n:Nat}:(zbq g level line fr (n+1)).2=(zbq g level line fr n).2++[(zcp g level line (fr+n)).2]:=by simp [zbq,qS]
theorem zmw {g:List (List Int)} {level:Bool} {line fr n:Nat}:(zbq g level line fr n).1.length=n∧(zbq g level line fr n).2.length=n:=by simp [zbq]
def slL (l:List Int) (k v:Nat):PV:=match l with | [] => .nils | _ => .loc k v 0 l.length
def tlL (l m:List Int) (v0 v1:Nat):List Ob:=match l with | []=>[] | _=>[.arr v0 3 1 (l.map (.int .i64)),.arr v1 3 1 (m.map (.int .i64))]
theorem ztc {l:List Int} {k v:Nat} (h:l≠[]):slL l k v = .loc k v 0 l.length:=by cases l with | nil=>exact absurd rfl h | cons a l=>rfl
theorem z2u {l m:List Int} {v0 v1:Nat} (h:l≠[]):tlL l m v0 v1=[.arr v0 3 1 (l.map (.int .i64)),.arr v1 3 1 (m.map (.int .i64))]:=by cases l with | nil=>exact absurd rfl h | cons a l=>rfl
theorem zh2 {S:Store} {k f:Nat} {sel:List Nat} {q:IntKind} (l:List Int):(l.map (PV.int q)).mapM (rn S k sel (f+1))=some (l.map (PV.int q)) :=
 zco fun x hx=>by obtain ⟨a,_,rfl⟩:=List.mem_map.1 hx; rfl
theorem zxr {S:Store} {im:Bool} {k o ver et:Nat} {l z:List Int} (h:S.obs[o]?=some (.arr ver et 1 ((l++z).map (.int .i64)))):reify S im (k+2) (.loc o ver 0 l.length)=some (eInts l):=by
 simp only[reify,h,Nat.zero_add,Nat.mul_one,List.length_map,List.length_append,Nat.le_add_right,and_self,if_true,List.drop_zero,List.map_append]
 rw [List.take_append_of_le_length (by simp),qT (by simp)]
 have:=zjy (S:=S) (im:=im) (k:=k) (q := .i64) l
 simp only[eInts]
 exact congrArg (Option.map fun x=>PV.sl x l.length) this
theorem zmy {F R:List Ob} {ver t:Nat} {l:List Int} (hl:l.length<2147483648):Ev Tryz.prog 82 [.loc F.length ver 0 l.length] ⟨F ++ .arr ver 3 1 (l.map (.int .i64))::R,t⟩ fun v S=>∃ z:List Int,v = .loc F.length ver 0 (ddp l).length∧S=⟨F ++ .arr ver 3 1 ((ddp l++z).map (.int .i64))::R,t⟩:=by
 refine Ev.of ⟨Tryz.func82,by kernel_rfl,rfl,by kernel_rfl⟩ zap mixed (by show 1≤Tryz.f82.ntmps; decide) ?_
 refine W.r fun K hK=>?_
 simp(disch:=omega)only[↓RU,RV,RH,↓reduceIte,qE,reduceCtorEq,if_pos,↓RS,RG,qA,qM,qL,gF,zd1]
 apply hK;clear hK K
 refine W.seq ?_
 refine W.r fun K hK=>?_
 simp(disch:=omega)only[↓RU,RV,RH,↓reduceIte,qE,reduceCtorEq,if_pos,w64,↓RS,RG,qA,qM,qL,zab,zaa,gF,zd1]
 apply hK;clear hK K
 refine W.cond rfl (fun h=>?_) (fun h=>?_)
 ·try simp only[RL]at h
  refine W.r fun K hK=>?_
  simp(disch:=omega)only[↓RU,RV,RH,↓reduceIte,qE,reduceCtorEq,if_pos,↓RS,RG,qA,qM,qL,gF,zd1]
  apply hK;clear hK K
  refine W.ret ?_
  refine XThen.ret ?_
  refine Br rfl ?_
  refine ⟨(F++Ob.arr ver 3 1 (l.map (.int .i64))::R).length,[],?_,?_⟩
  ·rw [zvu (by omega)]; rfl
  rw [qN,zvu (by omega)]; exact zak
 try simp only[RL]at h
 refine W.skip ?_
 refine xn ?_
 refine W.seq ?_
 refine W.r fun K hK=>?_
 simp(disch:=omega)only[↓RU,RV,RH,↓reduceIte,qE,reduceCtorEq,if_pos,↓RS,RG,qA,qM,qL,gF,zd1]
 apply hK;clear hK K
 refine W.block ?_
 refine W.loop [0,3] (fun n vs S=>∃ k0:Nat,n=l.length - k0∧k0≤l.length∧(1≤k0)∧(ddp (l.take k0)=l.take k0)∧vs=[.loc F.length ver 0 l.length,.int .i64 k0]∧S=⟨F ++ .arr ver 3 1 (l.map (.int .i64))::R,t⟩) (l.length - 1) ?_ ?_
 ·refine ⟨_,1,rfl,by omega,qR _,ycn (by omega),?_,zak⟩
  simp [Env.put,Env.of,zaf]
 rintro n vs S - ⟨k0,rfl,h_k0,h1k,hd,rfl,rfl⟩
 refine W.seq ?_
 refine W.r fun K hK=>?_
 simp(disch:=omega)only[↓RU,RV,RH,↓reduceIte,qE,reduceCtorEq,if_pos,w64,↓RS,RG,qA,qM,qL,zab,zaa,gF,zd1]
 apply hK;clear hK K
 refine W.cond rfl (fun h1=>?_) (fun h1=>?_)
 ·try simp only[RL]at h1
  obtain ⟨x,hx,-⟩:=zag (show k0<l.length by omega)
  obtain ⟨y,hy,-⟩:=zag (show k0 - 1<l.length by omega)
  refine W.skip ?_
  refine xn ?_
  refine W.seq ?_
  refine W.block ?_
  refine W.seq_draw (by kernel_rfl) fun K hK=>?_
  simp(disch:=omega)only[↓RU,RV,RH,↓reduceIte,qE,reduceCtorEq,if_pos,w64,↓RS,RG,qA,qM,qL,zab,zaa,gF,zd1,hx,hy,zbl]
  apply hK;clear hK K
  refine W.cond rfl (fun h2=>?_) (fun h2=>?_)
  ·try simp only[RL]at h2
   refine W.r fun K hK=>?_
   simp(disch:=omega)only[↓RU,RV,RH,↓reduceIte,qE,reduceCtorEq,if_pos,Option.map_none,↓RS,RG,qA,qM,qL,zab,zaa,gF,zd1]
   apply hK;clear hK K
   refine W.seq ?_
   refine W.r fun K hK=>?_
   simp(disch:=omega)only[↓RU,RV,RH,↓reduceIte,qE,reduceCtorEq,if_pos,↓RS,RG,qA,qM,qL,gF,zd1]
   apply hK;clear hK K
   refine W.block ?_
   refine W.loop [0,3,4,5] (fun n vs S=>∃ k p:Nat,∃ c:List Int,n=l.length - p∧DC l c k p∧k0+1≤p∧p≤l.length∧vs=[.loc F.length ver 0 l.length,.int .i64 k,.loc F.length ver k0 (l.length - k0),.int .i64 ((p - k0:Nat):Int)]∧S=⟨F ++ .arr ver 3 1 (c.map (.int .i64))::R,t⟩) (l.length - (k0+1)) ?_ ?_
   ·refine ⟨_,k0,k0+1,l,rfl,DC.first h1k hd hy hx h2,qR _,by omega,?_,zak⟩
    simp [Env.put,Env.of]
   rintro n vs S - ⟨k,p,c,rfl,hdc,hk0,h_p,rfl,rfl⟩
   refine W.seq ?_
   refine W.r fun K hK=>?_
   simp(disch:=omega)only[↓RU,RV,RH,↓reduceIte,qE,reduceCtorEq,if_pos,w64,↓RS,RG,qA,qM,qL,zab,zaa,gF,zd1]
   apply hK;clear hK K
   refine W.cond rfl (fun h3=>?_) (fun h3=>?_)
   ·try simp only[RL]at h3
    have hkp:=hdc.kp
    obtain ⟨x2,hx2,-⟩:=zag (show p<l.length by omega)
    obtain ⟨y2,hy2,-⟩:=zag (show p - 1<l.length by omega)
    have hcx:=hdc.get (j:=p) (by omega)
    have hcy:=hdc.get (j:=p - 1) (by omega)
    rw [hx2]at hcx
    rw [hy2]at hcy
    have hcl:=hdc.len
    have e1:k0+(p - k0)=p:=by omega
    have e2:k0+(p - k0 - 1)=p - 1:=by omega
    refine W.skip ?_
    refine xn ?_
    refine W.seq ?_
    refine W.block ?_
    refine W.seq_draw (by kernel_rfl) fun K hK=>?_
    simp(disch:=omega)only[↓RU,RV,RH,↓reduceIte,qE,reduceCtorEq,if_pos,w64,↓RS,RG,qA,qM,qL,zab,zaa,gF,zd1,hcx,hcy,zbl,e1,e2]
    apply hK;clear hK K
    refine W.cond rfl (fun h4=>?_) (fun h4=>?_)
    ·try simp only[RL]at h4
     refine W.r fun K hK=>?_
     simp(disch:=omega)only[↓RU,RV,RH,↓reduceIte,qE,reduceCtorEq,if_pos,↓RS,RG,qA,qM,qL,zab,zaa,gF,zd1,hcx,e1,hcl,zb5,zd6]
     apply hK;clear hK K
     refine W.k fun K hK=>?_
     simp(disch:=omega)only[↓RU,RV,RH,↓reduceIte,qE,reduceCtorEq,if_pos,w64,↓RS,RG,qA,qM,qL,zaa,gF,zd1]
     apply hK;clear hK K
     refine XbN ?_
     refine xn ?_
     refine W.k fun K hK=>?_
     simp(disch:=omega)only[↓RU,RV,RH,↓reduceIte,qE,reduceCtorEq,if_pos,w64,↓RS,RG,qA,qM,qL,zaa,gF,zd1]
     apply hK;clear hK K
     refine xn ?_
     refine ⟨l.length - (p+1),by omega,_,k+1,p+1,c.set k x2,rfl,hdc.new (by omega) hy2 hx2 h4,by omega,by omega,?_,zak⟩
     simp [Env.put,Env.of,show p+1 - k0=p - k0+1 by omega]
    try simp only[RL]at h4
    refine W.skip ?_
    refine XbN ?_
    refine xn ?_
    refine W.k fun K hK=>?_
    simp(disch:=omega)only[↓RU,RV,RH,↓reduceIte,qE,reduceCtorEq,if_pos,w64,↓RS,RG,qA,qM,qL,zaa,gF,zd1]
    apply hK;clear hK K
    refine xn ?_
    refine ⟨l.length - (p+1),by omega,_,k,p+1,c,rfl,hdc.same (by omega) hy2 hx2 h4,by omega,by omega,?_,zak⟩
    simp [Env.put,Env.of,show p+1 - k0=p - k0+1 by omega]
   try simp only[RL]at h3
   have hkp:=hdc.kp
   have hcl:=hdc.len
   obtain rfl:p=l.length:=by omega
   refine W.exit ?_
   refine xe ?_
   refine xe ?_
   refine XBlock.hit ?_
   refine xn ?_
   refine W.r fun K hK=>?_
   simp(disch:=omega)only[↓RU,RV,RH,↓reduceIte,qE,reduceCtorEq,if_pos,Option.map_none,zhb,ze3,↓RS,RG,qA,qM,qL,zab,zaa,gF,zd1,hcl,ze3,yam,z86,List.length_replicate]
   apply hK;clear hK K
   refine W.r fun K hK=>?_
   simp(disch:=omega)only[↓RU,RV,RH,↓reduceIte,qE,reduceCtorEq,if_pos,Option.map_none,↓RS,RG,qA,qM,qL,zab,zaa,gF,zd1]
   apply hK;clear hK K
   refine W.ret ?_
   refine XBlock.ret ?_
   refine XThen.ret ?_
   refine XThen.ret ?_
   refine XBlock.ret ?_
   refine XThen.ret ?_
   refine Br rfl ?_
   have hdk:=hdc.dk
   rw [List.take_length]at hdk
   have htk:=hdc.hd
   rw [List.take_length]at htk
   have hdrop:c.drop (k+(l.length - k))=[]:=List.drop_of_length_le (by omega)
   rw [hdrop,qN,htk]
   refine ⟨(F++Ob.arr ver 3 1 ((ddp l++List.replicate (l.length - k) 0).map (.int .i64))::R).length,_,?_,zak⟩
   rw [hdk]; rfl
  try simp only[RL]at h2
  refine W.skip ?_
  refine XbN ?_
  refine xn ?_
  refine W.k fun K hK=>?_
  simp(disch:=omega)only[↓RU,RV,RH,↓reduceIte,qE,reduceCtorEq,if_pos,w64,↓RS,RG,qA,qM,qL,zaa,gF,zd1]
  apply hK;clear hK K
  refine xn ?_
  refine ⟨l.length - (k0+1),by omega,_,k0+1,rfl,by omega,by omega,by rw [zy0 h1k hy hx h2,hd,← tk hx],?_,zak⟩
  simp [Env.put,Env.of]
 try simp only[RL]at h1
 refine W.exit ?_
 refine xe ?_
 refine xe ?_
 refine XBlock.hit ?_
 refine xn ?_
 refine W.r fun K hK=>?_
 simp(disch:=omega)only[↓RU,RV,RH,↓reduceIte,qE,reduceCtorEq,if_pos,↓RS,RG,qA,qM,qL,gF,zd1]
 apply hK;clear hK K
 refine W.ret ?_
 refine Br rfl ?_
 obtain rfl:k0=l.length:=by omega
 refine ⟨(F++Ob.arr ver 3 1 (l.map (.int .i64))::R).length,[],?_,?_⟩
 ·rw [show ddp l=l by simpa using hd]; rfl
 rw [qN,show ddp l=l by simpa using hd]; exact zak
theorem z87 {g:List (List Int)} {nh nw:Nat} (hg:GW g nh nw) (rs:List Rect) {level:Bool} {line fr long:Nat} (h1:1≤long) (hin:∀ j,fr≤j→j<fr+long→InL nh nw level line j):PC Tryz.prog 49 [za3 g rs,ye2 ⟨level,line,fr,long⟩] (.tup [eInts (ddp (zbq g level line fr long).1),eInts (ddp (zbq g level line fr long).2)]) true:=by
 have hgg:=hg.2.2
 have hb:fr+long≤6:=by have h:=hin (fr+long - 1) (by omega) (by omega); unfold InL at h; cases level <;> simp at h <;> omega
 simp only[ye2,Wall.cells]
 refine PC.of ⟨Tryz.func49,by kernel_rfl,rfl,by kernel_rfl⟩ zap mixed (by show 2≤Tryz.f49.ntmps; decide) ?_
 refine W.r fun K hK=>?_
 simp(disch:=omega)only[↓RU,RV,RH,↓reduceIte,qE,reduceCtorEq,if_pos,↓RS,RG,qA,qM,qL,zah,z2w,zaa,z2x]
 apply hK;clear hK K
 refine W.r fun K hK=>?_
 simp(disch:=omega)only[↓RU,RV,RH,↓reduceIte,qE,reduceCtorEq,if_pos,↓RS,RG,qA,qM,qL]
 apply hK;clear hK K
 refine W.seq ?_
 refine W.r fun K hK=>?_
 simp(disch:=omega)only[↓RU,RV,RH,↓reduceIte,qE,reduceCtorEq,if_pos,↓RS,RG,qA,qM,qL,zah,z2w,zaa,z2x]
 apply hK;clear hK K
 refine W.block ?_
 refine W.loopS [0,3,6,7,8] (fun n vs S=>∃ j v0 v1 t:Nat,n=long - j∧j≤long∧vs=[za3 g rs,.ref 0 0 0,slL (zbq g level line fr j).1 1 v0,slL (zbq g level line fr j).2 2 v1,.int .i64 (((fr+j:Nat):Int))]∧S=⟨(.arr 0 78 4 [.bool level,.int .i64 line,.int .i64 fr,.int .i64 long])::tlL (zbq g level line fr j).1 (zbq g level line fr j).2 v0 v1,t⟩) long ?_ ?_
 ·refine ⟨1,[],[za3 g rs,.ref 0 0 0,slL (zbq g level line fr 0).1 1 0,slL (zbq g level line fr 0).2 2 0,.int .i64 (((fr+0:Nat):Int))],⟨(.arr 0 78 4 [.bool level,.int .i64 line,.int .i64 fr,.int .i64 long])::tlL (zbq g level line fr 0).1 (zbq g level line fr 0).2 0 0,2⟩,?_,?_,0,0,0,2,rfl,by omega,rfl,rfl⟩
  ·simp [-qU,Env.put,Env.of,zaf,zb1,zaj,zan,zau,zax,zb9,zca,zdc,zb8,zbi,zcb,zdb,zdd,zbk,zbj,zay,zb7,zcc,zda,zbg,zbf,zaw,zbh,zb6,zfc,qS,qP,qC,zbq,slL]
  simp [-qU,Env.put,Env.of,zaf,zb1,zaj,zan,zau,zax,zb9,zca,zdc,zb8,zbi,zcb,zdb,zdd,zbk,zbj,zay,zb7,zcc,zda,zbg,zbf,zaw,zbh,zb6,zfc,qS,qP,qC,zbq,tlL]
 rintro n vs S - ⟨j,v0,v1,t,rfl,h_j,rfl,rfl⟩
 refine W.seq ?_
 refine W.r fun K hK=>?_
 simp(disch:=omega)only[↓RU,RV,RH,↓reduceIte,qE,reduceCtorEq,if_pos,w64,↓RS,RG,qA,qM,qL,zah,z2w,zaa,z2x]
 apply hK;clear hK K
 refine W.cond rfl (fun h=>?_) (fun h=>?_)
 ·try simp only[RL]at h
  have hjl:j<long:=by omega
  have hij:=hin (fr+j) (by omega) (by omega)
  have hal:=zmw (g:=g) (level:=level) (line:=line) (fr:=fr) (n:=j)
  refine W.skip ?_
  refine xn ?_
  refine W.seq ?_
  refine W.block ?_
  refine W.r fun K hK=>?_
  simp(disch:=omega)only[↓RU,RV,RH,↓reduceIte,qE,reduceCtorEq,if_pos,qN,↓RS,RG,qA,qM,qL,zah,z2w,zaa,z2x]
  refine zad.pc (z2o hg rs hij) rfl (.inl rfl) ?_
  simp(disch:=omega)only[↓RU,RV,RH,↓reduceIte,qE,reduceCtorEq,if_pos,qN,↓RS,RG,qA,qM,qL,zah,z2w,zaa,z2x]
  apply hK;clear hK K
  refine W.k fun K hK=>?_
  by_cases hj0:j=0
  ·skip
   subst hj0
   rw [show (zbq g level line fr 0)=([],[]) from rfl]
   rw [show slL ([],[]).1 1 v0 = .nils from rfl,show slL ([],[]).2 2 v1 = .nils from rfl,show tlL ([],[]).1 ([],[]).2 v0 v1=[] from rfl]
   simp(disch:=omega)only[↓RU,RV,RH,↓reduceIte,qE,reduceCtorEq,if_pos,↓RS,RG,qA,qM,qL,zab,zaa]
   apply hK;clear hK K
   refine XbN ?_
   refine xn ?_
   refine W.k fun K hK=>?_
   simp(disch:=omega)only[↓RU,RV,RH,↓reduceIte,qE,reduceCtorEq,if_pos,w64,↓RS,RG,qA,qM,qL,zaa]
   apply hK;clear hK K
   refine xn ?_
   refine ⟨long - ((0+1)),by omega,1,[2,4],[za3 g rs,.ref 0 0 0,slL (zbq g level line fr (0+1)).1 1 (t+4),slL (zbq g level line fr (0+1)).2 2 (t+4),.int .i64 (((fr+(0+1):Nat):Int))],⟨(.arr 0 78 4 [.bool level,.int .i64 line,.int .i64 fr,.int .i64 long])::tlL (zbq g level line fr (0+1)).1 (zbq g level line fr (0+1)).2 (t+4) (t+4),(t+5)⟩,?_,?_,(0+1),(t+4),(t+4),(t+5),rfl,by omega,rfl,rfl⟩
   ·simp [-qU,Env.put,Env.of,zaf,zb1,zaj,zan,zau,zax,zb9,zca,zdc,zb8,zbi,zcb,zdb,zdd,zbk,zbj,zay,zb7,zcc,zda,zbg,zbf,zaw,zbh,zb6,zfc,qS,qP,qC,show zbq g level line fr 0=([],[]) from rfl,show List.idxOf 4 [2,4]=1 from rfl,Int.add_assoc,zf2,zf3,ztc,hal.1,hal.2]
   simp [-qU,Env.put,Env.of,zaf,zb1,zaj,zan,zau,zax,zb9,zca,zdc,zb8,zbi,zcb,zdb,zdd,zbk,zbj,zay,zb7,zcc,zda,zbg,zbf,zaw,zbh,zb6,zfc,qS,qP,qC,show zbq g level line fr 0=([],[]) from rfl,show List.idxOf 4 [2,4]=1 from rfl,zf2,zf3,z2u,zh2,zmn,hal.1,hal.2]
  skip
  have hne1:(zbq g level line fr j).1≠[]:=by intro h; have:=hal.1; rw [h]at this; simp at this; omega
  have hne2:(zbq g level line fr j).2≠[]:=by intro h; have:=hal.2; rw [h]at this; simp at this; omega
  rw [ztc hne1,ztc hne2,z2u hne1]
  simp(disch:=omega)only[↓RU,RV,RH,↓reduceIte,qE,reduceCtorEq,if_pos,↓RS,RG,qA,qM,qL,zab,zaa,hal.1,hal.2]
  apply hK;clear hK K
  refine XbN ?_
  refine xn ?_
  refine W.k fun K hK=>?_
  simp(disch:=omega)only[↓RU,RV,RH,↓reduceIte,qE,reduceCtorEq,if_pos,w64,↓RS,RG,qA,qM,qL,zaa]
  apply hK;clear hK K
  refine xn ?_
  refine ⟨long - ((j+1)),by omega,3,[],[za3 g rs,.ref 0 0 0,slL (zbq g level line fr (j+1)).1 1 (t+1),slL (zbq g level line fr (j+1)).2 2 (t+3),.int .i64 (((fr+(j+1):Nat):Int))],⟨(.arr 0 78 4 [.bool level,.int .i64 line,.int .i64 fr,.int .i64 long])::tlL (zbq g level line fr (j+1)).1 (zbq g level line fr (j+1)).2 (t+1) (t+3),(t+5)⟩,?_,?_,(j+1),(t+1),(t+3),(t+5),rfl,by omega,rfl,rfl⟩
  ·simp [-qU,Env.put,Env.of,zaf,zb1,zaj,zan,zau,zax,zb9,zca,zdc,zb8,zbi,zcb,zdb,zdd,zbk,zbj,zay,zb7,zcc,zda,zbg,zbf,zaw,zbh,zb6,zfc,qS,qP,qC,Int.add_assoc,zf2,zf3,ztc,hal.1,hal.2]
  simp [-qU,Env.put,Env.of,zaf,zb1,zaj,zan,zau,zax,zb9,zca,zdc,zb8,zbi,zcb,zdb,zdd,zbk,zbj,zay,zb7,zcc,zda,zbg,zbf,zaw,zbh,zb6,zfc,qS,qP,qC,zf2,zf3,z2u,zh2,zmn,hal.1,hal.2]
 try simp only[RL]at h
 obtain rfl:long=j:=by omega
 refine W.exit ?_
 refine xe ?_
 refine xe ?_
 refine XBlock.hit ?_
 refine xn ?_
 refine W.r fun K hK=>?_
 have hal:=zmw (g:=g) (level:=level) (line:=line) (fr:=fr) (n:=long)
 have hne1:(zbq g level line fr long).1≠[]:=by intro h; have:=hal.1; rw [h]at this; simp at this; omega
 have hne2:(zbq g level line fr long).2≠[]:=by intro h; have:=hal.2; rw [h]at this; simp at this; omega
 rw [ztc hne1,ztc hne2,z2u hne1]
 simp(disch:=omega)only[↓RU,RV,RH,↓reduceIte,qE,reduceCtorEq,if_pos,qN,↓RS,RG,qA,qM,qL]
 refine zad.ev (zmy (F:=[(.arr 0 78 4 [.bool level,.int .i64 line,.int .i64 fr,.int .i64 long])]) (R:=[.arr v1 3 1 ((zbq g level line fr long).2.map (.int .i64))]) (l:=(zbq g level line fr long).1) (by omega)) ?_
 rintro _ _ ⟨z1,rfl,rfl⟩
 simp(disch:=omega)only[↓RU,RV,RH,↓reduceIte,qE,reduceCtorEq,if_pos,qN,↓RS,RG,qA,qM,qL]
 refine zad.ev (zmy (F:=[(.arr 0 78 4 [.bool level,.int .i64 line,.int .i64 fr,.int .i64 long]),.arr v0 3 1 ((ddp (zbq g level line fr long).1++z1).map (.int .i64))]) (R:=[]) (l:=(zbq g level line fr long).2) (by omega)) ?_
 rintro _ _ ⟨z2,rfl,rfl⟩
 simp(disch:=omega)only[↓RU,RV,RH,↓reduceIte,qE,reduceCtorEq,if_pos,qN,↓RS,RG,qA,qM,qL]
 apply hK;clear hK K
 refine W.ret ?_
 refine Br rfl ?_
 exact zid (zxr (k:=7) rfl) (zxr (k:=7) rfl)
abbrev eBools (l:List Bool):PV := .sl (l.map .bool) l.length
abbrev zhn (M:List (List Bool)):PV := .sl (M.map eBools) M.length
theorem za4 {S S':Store} (h:S=S'):S.take S.obs.length=S':=by rw [zak,h]
def Sq (n:Nat) (M:List (List Bool)):Prop:=M.length=n∧∀ r∈M,r.length=n
def zc2 (M:List (List Bool)) (a b:Nat):Bool:=(M[a]?.getD [])[b]?.getD false
def z4c (M:List (List Bool)) (a b:Nat) (x:Bool):List (List Bool):=M.set a ((M[a]?.getD []).set b x)
theorem Sq.at_ {n:Nat} {M:List (List Bool)} (h:Sq n M) {a b:Nat} (ha:a<n) (hb:b<n):∃ row,M[a]?=some row∧row.length=n∧row[b]?=some (zc2 M a b):=by
 obtain ⟨row,hr,hm⟩:=zag (show a<M.length by rw [h.1]; exact ha)
 have hl:=h.2 row hm
 obtain ⟨x,hx,-⟩:=zag (show b<row.length by omega)
 exact ⟨row,hr,hl,by simp [zc2,hr,hx]⟩
theorem Sq.set {n:Nat} {M:List (List Bool)} (h:Sq n M) {a b:Nat} {x:Bool} (ha:a<n):Sq n (z4c M a b x):=by
 obtain ⟨row,hr,hm⟩:=zag (show a<M.length by rw [h.1]; exact ha)
 refine ⟨by simp [z4c,h.1],fun r hr'=>?_⟩
 rcases List.mem_or_eq_of_mem_set hr' with h1 | rfl
 ·exact h.2 r h1
 simp [hr,h.2 row hm]
theorem zhg {M:List (List Bool)} {a b:Nat} {x:Bool} {row:List Bool} (h:M[a]?=some row):z4c M a b x=M.set a (row.set b x):=by simp [z4c,h]
def zcg (n:Nat):List (List Bool):=List.replicate n (List.replicate n false)
theorem zex (n:Nat):Sq n (zcg n):=⟨by simp [zcg],fun r hr=>by rw [(List.mem_replicate.1 hr).2]; simp⟩
def zbs (k t:Nat) (M:List (List Bool)):List Ob :=
 .arr t 81 1 ((List.range M.length).map fun i => .loc (k+1+i) t 0 M.length)::M.map fun r => .arr t 4 1 (r.map .bool)
theorem zai {k t:Nat} {M:List (List Bool)}:(zbs k t M).length=M.length+1:=by simp [zbs]
theorem z4w {F R:List Ob} {t:Nat} {M:List (List Bool)} {n:Nat} (h:M.length=n):(F++(zbs F.length t M++R))[F.length]?=some (.arr t 81 1 ((List.range n).map fun i => .loc (F.length+1+i) t 0 n)):=by
 subst h; simp [zbs]
theorem zxt {F R:List Ob} {t a:Nat} {M:List (List Bool)} {row:List Bool} (h:M[a]?=some row):(F++(zbs F.length t M++R))[F.length+1+a]?=some (.arr t 4 1 (row.map .bool)):=by
 have ha:=zb0 h
 rw [List.getElem?_append_right (by omega),List.getElem?_append_left (by rw [zai]; omega),show F.length+1+a - F.length=a+1 by omega]
 simp [zbs,h]
theorem zma {F R:List Ob} {t a:Nat} {M:List (List Bool)} {row:List Bool} {n:Nat} (hn:M.length=n) (h:a<n):(F++(zbs F.length t M++R)).set (F.length+1+a) (.arr t 4 1 (row.map .bool))=F++(zbs F.length t (M.set a row)++R):=by
 subst hn
 rw [List.set_append_right _ _ (by omega),List.set_append_left _ _ (by rw [zai]; omega),show F.length+1+a - F.length=a+1 by omega]
 simp [zbs,List.map_set]
theorem zko {n a:Nat} (h:a<n):(List.range n)[a]?=some a:=List.getElem?_range h
theorem zf1 {l:List Bool} {a:Nat} {x:Bool}:(l.map PV.bool).set a (.bool x)=(l.set a x).map PV.bool:=by rw [List.map_set]
theorem zxu:∀ (n:Nat),repz [PV.bool false] n=(List.replicate n false).map PV.bool
 | 0=>rfl
 | n+1=>by rw [zhc,zxu n,List.replicate_succ]; rfl
theorem zqz:∀ (n:Nat),repz [PV.nils] n=List.replicate n PV.nils
 | 0=>rfl
 | n+1=>by rw [zhc,zqz n,List.replicate_succ]; rfl
theorem zzd {α:Type} {f:α→PV} {g:PV→Option PV} {h:α→PV}:∀ {l:List α},(∀ a∈l,g (f a)=some (h a))→(l.map f).mapM g=some (l.map h)
 | [],_=>rfl
 | a::l,H=>by
  rw [List.map_cons,qC,H a (by simp),zzd (l:=l) fun x hx=>H x (by simp [hx])]; rfl
theorem z2j {α:Type} {f h:α→Ob} {S:Store} {im:Bool}:∀ {l:List α},(∀ a∈l,zyo S im (f a)=some (h a))→zi6 S im (l.map f)=some (l.map h)
 | [],_=>rfl
 | a::l,H=>by
  rw [List.map_cons,zi6,H a (by simp),Option.bind_some,z2j (l:=l) fun x hx=>H x (by simp [hx])]; rfl
def grX (n i:Nat):List PV:=((List.range i).map fun j=>PV.loc (j+1) (j+1) 0 n)++List.replicate (n - i) .nils
def grY (n i:Nat):List Ob:=(List.range i).map fun j => .arr (j+1) 4 1 ((List.replicate n false).map .bool)
theorem ycy {n i:Nat} (h:i≤n):(grX n i).length=n:=by simp [grX]; omega
theorem ycz {n i:Nat}:(grY n i).length=i:=by simp [grY]
theorem z9r {n i:Nat}:grY n (i+1)=grY n i++[.arr (i+1) 4 1 ((List.replicate n false).map .bool)]:=by simp [grY,qS]
theorem z9q {n i:Nat} (h:i<n):(grX n i).take i++[.loc (i+1) (i+1) 0 n]++(grX n i).drop (i+1)=grX n (i+1):=by
 unfold grX
 have e:((List.range i).map fun j=>PV.loc (j+1) (j+1) 0 n).length=i:=by simp
 rw [List.take_append_of_le_length (by omega),qT (by omega)]
 have:(((List.range i).map fun j=>PV.loc (j+1) (j+1) 0 n)++List.replicate (n - i) PV.nils).drop (i+1)=List.replicate (n - (i+1)) PV.nils:=by
  rw [List.drop_append,List.drop_of_length_le (by omega),e,List.nil_append,List.drop_replicate]; congr 1; omega
 rw [this,qS]; simp
def zfh (n i:Nat):List Ob := .arr 0 81 1 (grX n i)::grY n i
theorem yc0 {n t:Nat} {im:Bool}:∃ k,sh (Store.take ⟨zfh n n,t⟩ k) im 10 (.loc 0 0 0 n)=some (.loc 0 0 0 n)∧zi6 (Store.take ⟨zfh n n,t⟩ k) im (Store.take ⟨zfh n n,t⟩ k).obs=some (zbs 0 0 (zcg n)):=by
 refine ⟨(zfh n n).length,?_⟩
 have e:Store.take ⟨zfh n n,t⟩ (zfh n n).length=⟨zfh n n,t⟩:=zak
 rw [e]
 refine ⟨rfl,?_⟩
 have hrow:∀ j,j<n→(zfh n n)[j+1]?=some (.arr (j+1) 4 1 ((List.replicate n false).map .bool)):=by
  intro j hj; simp [zfh,grY,hj]
 have h1:((List.range n).map fun j=>PV.loc (j+1) (j+1) 0 n).mapM (sh ⟨zfh n n,t⟩ im 10)=some ((List.range n).map fun j=>PV.loc (0+1+j) 0 0 n):=by
  refine zzd fun j hj=>?_
  have hj:=List.mem_range.1 hj
  simp only[sh,hrow j hj,if_true]
  congr 2; omega
 have h2:zi6 ⟨zfh n n,t⟩ im ((List.range n).map fun j => .arr (j+1) 4 1 ((List.replicate n false).map .bool))=some ((List.range n).map fun _ => .arr 0 4 1 ((List.replicate n false).map .bool)):=by
  refine z2j fun j _=>?_
  simp only[zyo]
  rw [ydy (by simp [List.all_replicate,scal])]; rfl
 have h3:(zcg n).length=n:=by simp [zcg]
 show zi6 ⟨zfh n n,t⟩ im (zfh n n)=_
 conv=>lhs; arg 3; unfold zfh grX grY
 rw [zi6,Nat.sub_self,List.replicate_zero,qN]
 simp only[zyo]
 rw [h1]
 simp only[qO,Option.bind_some]
 rw [h2]
 simp only[qO,zbs,h3]
 congr 2
 simp [zcg,List.map_const']
theorem zgd {k t:Nat} {M:List (List Bool)}:(zbs 0 0 M).map (z4y k t)=zbs k t M:=by
 simp only[zbs,List.map_cons,zmr,List.map_map]
 congr 1
 ·congr 1
  apply List.map_congr_left
  intro i _
  simp only[Function.comp,z2z]
  congr 1; omega
 apply List.map_congr_left
 intro r _
 simp only[Function.comp,zmr,zu7]
theorem zxs {S:Store} {im:Bool} {f k t:Nat} {M:List (List Bool)} {n:Nat} (hM:Sq n M) (h0:S.obs[k]?=some (.arr t 81 1 ((List.range n).map fun i => .loc (k+1+i) t 0 n)))
  (h1:∀ a row,M[a]?=some row→S.obs[k+1+a]?=some (.arr t 4 1 (row.map .bool))):reify S im (f+3) (.loc k t 0 n)=some (zhn M):=by
 have hm:((List.range n).map fun i=>PV.loc (k+1+i) t 0 n).mapM (reify S im (f+2))=some ((List.range n).map fun i=>eBools (M[i]?.getD [])):=by
  refine zzd fun i hi=>?_
  have hi:=List.mem_range.1 hi
  obtain ⟨row,hr,hm⟩:=zag (show i<M.length by rw [hM.1]; exact hi)
  have hl:=hM.2 row hm
  rw [hr]
  have:=zcv (n:=n) (k:=f+1) (im:=im) (h1 i row hr) (by simp [hl]) (z6m row)
  rw [this]
  simp [eBools,hl]
 have:=zcv (n:=n) (k:=f+2) (im:=im) h0 (by simp) hm
 rw [this]
 have e:((List.range n).map fun i=>eBools (M[i]?.getD []))=M.map eBools:=by
  apply List.ext_getElem
  ·simp [hM.1]
  intro i a b
  have:i<M.length:=by rw [hM.1]; simpa using a
  simp [this]
 rw [e]
 simp [zhn,hM.1]
def clB (k a:Nat) (M:List (List Bool)) (b:Nat):List (List Bool):=z4c M a b (zc2 M a b || (zc2 M a k && zc2 M k b))
def clA (n k:Nat) (M:List (List Bool)) (a:Nat):List (List Bool):=(List.range n).foldl (clB k a) M
def clK (n:Nat) (M:List (List Bool)) (k:Nat):List (List Bool):=(List.range n).foldl (clA n k) M
def zf4 (M:List (List Bool)):List (List Bool):=(List.range M.length).foldl (clK M.length) M
theorem Sq.foldl {n:Nat} {f:List (List Bool)→Nat→List (List Bool)}:∀ (i:Nat) {M:List (List Bool)},(∀ M j,j<i→Sq n M→Sq n (f M j))→Sq n M→Sq n ((List.range i).foldl f M)
 | 0,M,_,h=>by simpa using h
 | i+1,M,hf,h=>by
  rw [zct]
  exact hf _ i (Nat.lt_succ_self i) (Sq.foldl i (fun M j hj=>hf M j (by omega)) h)
theorem Sq.clB {n:Nat} {M:List (List Bool)} {k a b:Nat} (h:Sq n M) (ha:a<n):Sq n (clB k a M b):=h.set ha
theorem Sq.clA {n:Nat} {M:List (List Bool)} {k a:Nat} (h:Sq n M) (ha:a<n):Sq n (clA n k M a):=Sq.foldl n (fun _ _ _ h=>h.clB ha) h
theorem Sq.clK {n:Nat} {M:List (List Bool)} {k:Nat} (h:Sq n M):Sq n (clK n M k):=Sq.foldl n (fun _ _ hj h=>h.clA hj) h
theorem Sq.close {n:Nat} {M:List (List Bool)} (h:Sq n M):Sq n (zf4 M):=by
 unfold zf4; rw [h.1]; exact Sq.foldl n (fun _ _ _ h=>h.clK) h
theorem zg5 {nr:Nat} (hn:nr≤9):PN Tryz.prog 47 [.int .i64 nr] (.loc 0 0 0 nr) (zbs 0 0 (zcg nr)) false:=by
 refine PN.of ⟨Tryz.func47,by kernel_rfl,rfl,by kernel_rfl⟩ zap mixed (by show 1≤Tryz.f47.ntmps; decide) ?_
 refine W.r fun K hK=>?_
 simp(disch:=omega)only[↓RU,RV,RH,↓reduceIte,qE,reduceCtorEq,if_pos,↓RS,RG,qA,qM,qL]
 apply hK;clear hK K
 refine W.r fun K hK=>?_
 simp(disch:=omega)only[↓RU,RV,RH,↓reduceIte,qE,reduceCtorEq,if_pos,↓RS,RG,qA,qM,qL,ty0,ty2,zah,ze0,zqz,zes]
 apply hK;clear hK K
 refine W.seq ?_
 refine W.r fun K hK=>?_
 simp(disch:=omega)only[↓RU,RV,RH,↓reduceIte,qE,reduceCtorEq,if_pos,↓RS,RG,qA,qM,qL,ty0,ty2,zah,ze0]
 apply hK;clear hK K
 refine W.block ?_
 refine W.loop [0,3,8,9] (fun n vs S=>∃ i:Nat,n=nr - i∧i≤nr∧vs=[.int .i64 nr,.loc 0 0 0 nr,.int .i64 nr,.int .i64 i]∧S=⟨.arr 0 81 1 (grX nr i)::grY nr i,i+1⟩) (nr) ?_ ?_
 ·refine ⟨_,0,rfl,Nat.zero_le _,?_,za4 (by simp [grX,grY])⟩
  simp [Env.put,Env.of,zaf]
 rintro n vs S - ⟨i,rfl,h_i,rfl,rfl⟩
 refine W.r fun K hK=>?_
 simp(disch:=omega)only[↓RU,RV,RH,↓reduceIte,qE,reduceCtorEq,if_pos,w64,↓RS,RG,qA,qM,qL,zaa]
 apply hK;clear hK K
 refine W.seq ?_
 refine W.cond rfl (fun h=>?_) (fun h=>?_)
 ·try simp only[RL]at h
  have hx:=ycy (show i≤nr by omega)
  refine W.skip ?_
  refine xn ?_
  refine W.seq ?_
  refine W.block ?_
  refine W.r fun K hK=>?_
  simp(disch:=omega)only[↓RU,RV,RH,↓reduceIte,qE,reduceCtorEq,if_pos,↓RS,RG,qA,qM,qL]
  apply hK;clear hK K
  refine W.k fun K hK=>?_
  simp(disch:=omega)only[↓RU,RV,RH,↓reduceIte,qE,reduceCtorEq,if_pos,↓RS,RG,qA,qM,qL,ty0,ty2,zah,ze0,zxu,zes,ycz,hx,z9q]
  apply hK;clear hK K
  refine XbN ?_
  refine xn ?_
  refine W.k fun K hK=>?_
  simp(disch:=omega)only[↓RU,RV,RH,↓reduceIte,qE,reduceCtorEq,if_pos,w64,↓RS,RG,qA,qM,qL,zaa]
  apply hK;clear hK K
  refine xn ?_
  refine ⟨nr - (i+1),by omega,_,i+1,rfl,by omega,?_,za4 (by simp [z9r])⟩
  simp [Env.put,Env.of]
 try simp only[RL]at h
 refine W.exit ?_
 refine xe ?_
 refine xe ?_
 refine XBlock.hit ?_
 refine xn ?_
 refine W.r fun K hK=>?_
 simp(disch:=omega)only[↓RU,RV,RH,↓reduceIte,qE,reduceCtorEq,if_pos,↓RS,RG,qA,qM,qL]
 apply hK;clear hK K
 refine W.ret ?_
 refine Br rfl ?_
 obtain rfl:nr=i:=by omega
 exact yc0
theorem z0o {F R:List Ob} {t tk nr:Nat} {M:List (List Bool)} (hM:Sq nr M) (hn:nr≤9):Ev Tryz.prog 50 [.loc F.length t 0 nr] ⟨F++(zbs F.length t (M)++R),tk⟩ fun v S=>v = .tup []∧S=⟨F++(zbs F.length t (zf4 M)++R),tk⟩:=by
 refine Ev.of ⟨Tryz.func50,by kernel_rfl,rfl,by kernel_rfl⟩ zap mixed (by show 1≤Tryz.f50.ntmps; decide) ?_
 refine W.r fun K hK=>?_
 simp(disch:=omega)only[↓RU,RV,RH,↓reduceIte,qE,reduceCtorEq,if_pos,↓RS,RG,qA,qM,qL,ty0,ty2,zah,ze0,z4w hM.1]
 apply hK;clear hK K
 refine W.block ?_
 refine W.loop [0,6,7] (fun n vs S=>∃ k:Nat,n=nr - k∧k≤nr∧vs=[.loc F.length t 0 nr,.int .i64 nr,.int .i64 k]∧S=⟨F++(zbs F.length t ((List.range k).foldl (clK nr) M)++R),tk⟩) (nr) ?_ ?_
 ·refine ⟨_,0,rfl,Nat.zero_le _,?_,za4 rfl⟩
  simp [Env.put,Env.of,zaf]
 rintro n vs S - ⟨k,rfl,h_k,rfl,rfl⟩
 refine W.r fun K hK=>?_
 simp(disch:=omega)only[↓RU,RV,RH,↓reduceIte,qE,reduceCtorEq,if_pos,w64,↓RS,RG,qA,qM,qL,zaa]
 apply hK;clear hK K
 refine W.seq ?_
 refine W.cond rfl (fun h=>?_) (fun h=>?_)
 ·try simp only[RL]at h
  have hX:=Sq.foldl (f:=clK nr) k (fun _ _ _ h=>h.clK) hM
  generalize hXe:(List.range k).foldl (clK nr) M=X at hX
  refine W.skip ?_
  refine xn ?_
  refine W.seq ?_
  refine W.block ?_
  refine W.r fun K hK=>?_
  simp(disch:=omega)only[↓RU,RV,RH,↓reduceIte,qE,reduceCtorEq,if_pos,↓RS,RG,qA,qM,qL]
  apply hK;clear hK K
  refine W.r fun K hK=>?_
  simp(disch:=omega)only[↓RU,RV,RH,↓reduceIte,qE,reduceCtorEq,if_pos,↓RS,RG,qA,qM,qL,ty0,ty2,zah,ze0,hXe,z4w hX.1]
  apply hK;clear hK K
  refine W.block ?_
  refine W.loop [0,2,6,7,11,12] (fun n vs S=>∃ a:Nat,n=nr - a∧a≤nr∧vs=[.loc F.length t 0 nr,.int .i64 k,.int .i64 nr,.int .i64 k,.int .i64 nr,.int .i64 a]∧S=⟨F++(zbs F.length t ((List.range a).foldl (clA nr k) X)++R),tk⟩) (nr) ?_ ?_
  ·refine ⟨_,0,rfl,Nat.zero_le _,?_,za4 rfl⟩
   simp [Env.put,Env.of,zaf]
  rintro n vs S - ⟨a,rfl,h_a,rfl,rfl⟩
  refine W.r fun K hK=>?_
  simp(disch:=omega)only[↓RU,RV,RH,↓reduceIte,qE,reduceCtorEq,if_pos,w64,↓RS,RG,qA,qM,qL,zaa]
  apply hK;clear hK K
  refine W.seq ?_
  refine W.cond rfl (fun h1=>?_) (fun h1=>?_)
  ·try simp only[RL]at h1
   have hY:=Sq.foldl (f:=clA nr k) a (fun _ _ hj h=>h.clA (by omega)) hX
   generalize hYe:(List.range a).foldl (clA nr k) X=Y at hY
   refine W.skip ?_
   refine xn ?_
   refine W.seq ?_
   refine W.block ?_
   refine W.r fun K hK=>?_
   simp(disch:=omega)only[↓RU,RV,RH,↓reduceIte,qE,reduceCtorEq,if_pos,↓RS,RG,qA,qM,qL]
   apply hK;clear hK K
   refine W.r fun K hK=>?_
   simp(disch:=omega)only[↓RU,RV,RH,↓reduceIte,qE,reduceCtorEq,if_pos,↓RS,RG,qA,qM,qL,ty0,ty2,zah,ze0,hYe,z4w hY.1]
   apply hK;clear hK K
   refine W.block ?_
   refine W.loop [0,2,3,6,7,11,12,16,17] (fun n vs S=>∃ b:Nat,n=nr - b∧b≤nr∧vs=[.loc F.length t 0 nr,.int .i64 k,.int .i64 a,.int .i64 nr,.int .i64 k,.int .i64 nr,.int .i64 a,.int .i64 nr,.int .i64 b]∧S=⟨F++(zbs F.length t ((List.range b).foldl (clB k a) Y)++R),tk⟩) (nr) ?_ ?_
   ·refine ⟨_,0,rfl,Nat.zero_le _,?_,za4 rfl⟩
    simp [Env.put,Env.of,zaf]
   rintro n vs S - ⟨b,rfl,h_b,rfl,rfl⟩
   refine W.r fun K hK=>?_
   simp(disch:=omega)only[↓RU,RV,RH,↓reduceIte,qE,reduceCtorEq,if_pos,w64,↓RS,RG,qA,qM,qL,zaa]
   apply hK;clear hK K
   refine W.seq ?_
   refine W.cond rfl (fun h2=>?_) (fun h2=>?_)
   ·try simp only[RL]at h2
    have hZ:=Sq.foldl (f:=clB k a) b (fun _ _ _ h=>h.clB (show a<nr by omega)) hY
    generalize hZe:(List.range b).foldl (clB k a) Y=Z at hZ
    have hZl:=hZ.1
    obtain ⟨ra,hra,hral,hrab⟩:=hZ.at_ (show a<nr by omega) (show b<nr by omega)
    obtain ⟨ra2,hra2,-,hrak⟩:=hZ.at_ (show a<nr by omega) (show k<nr by omega)
    obtain ⟨rk,hrk,hrkl,hrkb⟩:=hZ.at_ (show k<nr by omega) (show b<nr by omega)
    obtain rfl:ra=ra2:=by rw [hra]at hra2; exact Option.some.inj hra2
    refine W.skip ?_
    refine xn ?_
    refine W.seq ?_
    refine W.block ?_
    refine W.r fun K hK=>?_
    simp(disch:=omega)only[↓RU,RV,RH,↓reduceIte,qE,reduceCtorEq,if_pos,↓RS,RG,qA,qM,qL]
    apply hK;clear hK K
    refine W.draw_k (by kernel_rfl) fun K hK=>?_
    rcases hv:(zc2 Z a b,zc2 Z a k,zc2 Z k b) with ⟨_ | _,_ | _,_ | _⟩
    ·skip
     simp only[Prod.mk.injEq]at hv
     obtain ⟨hv1,hv2,hv3⟩:=hv
     rw [hv1]at hrab
     rw [hv2]at hrak
     rw [hv3]at hrkb
     simp(disch:=omega)only[↓RU,RV,RH,↓reduceIte,qE,reduceCtorEq,if_pos,↓RS,RG,qA,qM,qL,ty0,ty2,zah,ze0,hZe,z4w hZl,zko,zxt hra,zxt hrk,hrab,hrak,hrkb,zb5,zf1,hral,zma hZl]
     apply hK;clear hK K
     refine XbN ?_
     refine xn ?_
     refine W.k fun K hK=>?_
     simp(disch:=omega)only[↓RU,RV,RH,↓reduceIte,qE,reduceCtorEq,if_pos,w64,↓RS,RG,qA,qM,qL,zaa]
     apply hK;clear hK K
     refine xn ?_
     refine ⟨nr - (b+1),by omega,_,b+1,rfl,by omega,?_,za4 (by rw [zct,hZe,clB,zhg hra]; simp [hv1,hv2,hv3])⟩
     simp [Env.put,Env.of]
    ·skip
     simp only[Prod.mk.injEq]at hv
     obtain ⟨hv1,hv2,hv3⟩:=hv
     rw [hv1]at hrab
     rw [hv2]at hrak
     rw [hv3]at hrkb
     simp(disch:=omega)only[↓RU,RV,RH,↓reduceIte,qE,reduceCtorEq,if_pos,↓RS,RG,qA,qM,qL,ty0,ty2,zah,ze0,hZe,z4w hZl,zko,zxt hra,zxt hrk,hrab,hrak,hrkb,zb5,zf1,hral,zma hZl]
     apply hK;clear hK K
     refine XbN ?_
     refine xn ?_
     refine W.k fun K hK=>?_
     simp(disch:=omega)only[↓RU,RV,RH,↓reduceIte,qE,reduceCtorEq,if_pos,w64,↓RS,RG,qA,qM,qL,zaa]
     apply hK;clear hK K
     refine xn ?_
     refine ⟨nr - (b+1),by omega,_,b+1,rfl,by omega,?_,za4 (by rw [zct,hZe,clB,zhg hra]; simp [hv1,hv2,hv3])⟩
     simp [Env.put,Env.of]
    ·skip
     simp only[Prod.mk.injEq]at hv
     obtain ⟨hv1,hv2,hv3⟩:=hv
     rw [hv1]at hrab
     rw [hv2]at hrak
     rw [hv3]at hrkb
     simp(disch:=omega)only[↓RU,RV,RH,↓reduceIte,qE,reduceCtorEq,if_pos,↓RS,RG,qA,qM,qL,ty0,ty2,zah,ze0,hZe,z4w hZl,zko,zxt hra,zxt hrk,hrab,hrak,hrkb,zb5,zf1,hral,zma hZl]
     apply hK;clear hK K
     refine XbN ?_
     refine xn ?_
     refine W.k fun K hK=>?_
     simp(disch:=omega)only[↓RU,RV,RH,↓reduceIte,qE,reduceCtorEq,if_pos,w64,↓RS,RG,qA,qM,qL,zaa]
     apply hK;clear hK K
     refine xn ?_
     refine ⟨nr - (b+1),by omega,_,b+1,rfl,by omega,?_,za4 (by rw [zct,hZe,clB,zhg hra]; simp [hv1,hv2,hv3])⟩
     simp [Env.put,Env.of]
    ·skip
     simp only[Prod.mk.injEq]at hv
     obtain ⟨hv1,hv2,hv3⟩:=hv
     rw [hv1]at hrab
     rw [hv2]at hrak
     rw [hv3]at hrkb
     simp(disch:=omega)only[↓RU,RV,RH,↓reduceIte,qE,reduceCtorEq,if_pos,↓RS,RG,qA,qM,qL,ty0,ty2,zah,ze0,hZe,z4w hZl,zko,zxt hra,zxt hrk,hrab,hrak,hrkb,zb5,zf1,hral,zma hZl]
     apply hK;clear hK K
     refine XbN ?_
     refine xn ?_
     refine W.k fun K hK=>?_
     simp(disch:=omega)only[↓RU,RV,RH,↓reduceIte,qE,reduceCtorEq,if_pos,w64,↓RS,RG,qA,qM,qL,zaa]
     apply hK;clear hK K
     refine xn ?_
     refine ⟨nr - (b+1),by omega,_,b+1,rfl,by omega,?_,za4 (by rw [zct,hZe,clB,zhg hra]; simp [hv1,hv2,hv3])⟩
     simp [Env.put,Env.of]
    ·skip
     simp only[Prod.mk.injEq]at hv
     obtain ⟨hv1,hv2,hv3⟩:=hv
     rw [hv1]at hrab
     rw [hv2]at hrak
     rw [hv3]at hrkb
     simp(disch:=omega)only[↓RU,RV,RH,↓reduceIte,qE,reduceCtorEq,if_pos,↓RS,RG,qA,qM,qL,ty0,ty2,zah,ze0,hZe,z4w hZl,zko,zxt hra,zxt hrk,hrab,hrak,hrkb,zb5,zf1,hral,zma hZl]
     apply hK;clear hK K
     refine XbN ?_
     refine xn ?_
     refine W.k fun K hK=>?_
     simp(disch:=omega)only[↓RU,RV,RH,↓reduceIte,qE,reduceCtorEq,if_pos,w64,↓RS,RG,qA,qM,qL,zaa]
     apply hK;clear hK K
     refine xn ?_
     refine ⟨nr - (b+1),by omega,_,b+1,rfl,by omega,?_,za4 (by rw [zct,hZe,clB,zhg hra]; simp [hv1,hv2,hv3])⟩
     simp [Env.put,Env.of]
    ·skip
     simp only[Prod.mk.injEq]at hv
     obtain ⟨hv1,hv2,hv3⟩:=hv
     rw [hv1]at hrab
     rw [hv2]at hrak
     rw [hv3]at hrkb
     simp(disch:=omega)only[↓RU,RV,RH,↓reduceIte,qE,reduceCtorEq,if_pos,↓RS,RG,qA,qM,qL,ty0,ty2,zah,ze0,hZe,z4w hZl,zko,zxt hra,zxt hrk,hrab,hrak,hrkb,zb5,zf1,hral,zma hZl]
     apply hK;clear hK K
     refine XbN ?_
     refine xn ?_
     refine W.k fun K hK=>?_
     simp(disch:=omega)only[↓RU,RV,RH,↓reduceIte,qE,reduceCtorEq,if_pos,w64,↓RS,RG,qA,qM,qL,zaa]
     apply hK;clear hK K
     refine xn ?_
     refine ⟨nr - (b+1),by omega,_,b+1,rfl,by omega,?_,za4 (by rw [zct,hZe,clB,zhg hra]; simp [hv1,hv2,hv3])⟩
     simp [Env.put,Env.of]
    ·skip
     simp only[Prod.mk.injEq]at hv
     obtain ⟨hv1,hv2,hv3⟩:=hv
     rw [hv1]at hrab
     rw [hv2]at hrak
     rw [hv3]at hrkb
     simp(disch:=omega)only[↓RU,RV,RH,↓reduceIte,qE,reduceCtorEq,if_pos,↓RS,RG,qA,qM,qL,ty0,ty2,zah,ze0,hZe,z4w hZl,zko,zxt hra,zxt hrk,hrab,hrak,hrkb,zb5,zf1,hral,zma hZl]
     apply hK;clear hK K
     refine XbN ?_
     refine xn ?_
     refine W.k fun K hK=>?_
     simp(disch:=omega)only[↓RU,RV,RH,↓reduceIte,qE,reduceCtorEq,if_pos,w64,↓RS,RG,qA,qM,qL,zaa]
     apply hK;clear hK K
     refine xn ?_
     refine ⟨nr - (b+1),by omega,_,b+1,rfl,by omega,?_,za4 (by rw [zct,hZe,clB,zhg hra]; simp [hv1,hv2,hv3])⟩
     simp [Env.put,Env.of]
    skip
    simp only[Prod.mk.injEq]at hv
    obtain ⟨hv1,hv2,hv3⟩:=hv
    rw [hv1]at hrab
    rw [hv2]at hrak
    rw [hv3]at hrkb
    simp(disch:=omega)only[↓RU,RV,RH,↓reduceIte,qE,reduceCtorEq,if_pos,↓RS,RG,qA,qM,qL,ty0,ty2,zah,ze0,hZe,z4w hZl,zko,zxt hra,zxt hrk,hrab,hrak,hrkb,zb5,zf1,hral,zma hZl]
    apply hK;clear hK K
    refine XbN ?_
    refine xn ?_
    refine W.k fun K hK=>?_
    simp(disch:=omega)only[↓RU,RV,RH,↓reduceIte,qE,reduceCtorEq,if_pos,w64,↓RS,RG,qA,qM,qL,zaa]
    apply hK;clear hK K
    refine xn ?_
    refine ⟨nr - (b+1),by omega,_,b+1,rfl,by omega,?_,za4 (by rw [zct,hZe,clB,zhg hra]; simp [hv1,hv2,hv3])⟩
    simp [Env.put,Env.of]
   try simp only[RL]at h2
   obtain rfl:nr=b:=by omega
   refine W.exit ?_
   refine xe ?_
   refine xe ?_
   refine XBlock.hit ?_
   refine XbN ?_
   refine xn ?_
   refine W.k fun K hK=>?_
   simp(disch:=omega)only[↓RU,RV,RH,↓reduceIte,qE,reduceCtorEq,if_pos,w64,↓RS,RG,qA,qM,qL,zaa]
   apply hK;clear hK K
   refine xn ?_
   refine ⟨nr - (a+1),by omega,_,a+1,rfl,by omega,?_,za4 (by rw [zct,hYe]; rfl)⟩
   simp [Env.put,Env.of]
  try simp only[RL]at h1
  obtain rfl:nr=a:=by omega
  refine W.exit ?_
  refine xe ?_
  refine xe ?_
  refine XBlock.hit ?_
  refine XbN ?_
  refine xn ?_
  refine W.k fun K hK=>?_
  simp(disch:=omega)only[↓RU,RV,RH,↓reduceIte,qE,reduceCtorEq,if_pos,w64,↓RS,RG,qA,qM,qL,zaa]
  apply hK;clear hK K
  refine xn ?_
  refine ⟨nr - (k+1),by omega,_,k+1,rfl,by omega,?_,za4 (by rw [zct,hXe]; rfl)⟩
  simp [Env.put,Env.of]
 try simp only[RL]at h
 obtain rfl:nr=k:=by omega
 refine W.exit ?_
 refine xe ?_
 refine xe ?_
 refine XBlock.hit ?_
 refine zfe.norm rfl ?_
 refine ⟨_,rfl,za4 ?_⟩
 rw [zf4,hM.1]
section
def relB (a:Int) (bs:List Int) (M:List (List Bool)):List (List Bool):=bs.foldl (fun M b=>z4c M a.toNat b.toNat true) M
def relW (M:List (List Bool)) (la bs:List Int):List (List Bool):=la.foldl (fun M a=>relB a bs M) M
def za6 (g:List (List Int)) (w:Wall):List Int × List Int :=
 (ddp (zbq g w.level w.line.toNat w.fr.toNat w.long.toNat).1,ddp (zbq g w.level w.line.toNat w.fr.toNat w.long.toNat).2)
def zmt (g:List (List Int)) (M:List (List Bool) × List (List Bool)) (w:Wall):List (List Bool) × List (List Bool) :=
 if w.level then (M.1,relW M.2 (za6 g w).1 (za6 g w).2) else (relW M.1 (za6 g w).1 (za6 g w).2,M.2)
def z92 (g:List (List Int)) (nh nw n:Nat):List (List Bool) × List (List Bool):=(zcx g nh nw).foldl (zmt g) (zcg n,zcg n)
def zwm (g:List (List Int)) (nh nw n:Nat):List (List Bool):=zf4 (z92 g nh nw n).1
def znn (g:List (List Int)) (nh nw n:Nat):List (List Bool):=zf4 (z92 g nh nw n).2
def zts (g:List (List Int)) (nh nw:Nat) (w:Wall):Prop :=
 ∃ line fr long:Nat,w=⟨w.level,line,fr,long⟩∧1≤long∧∀ j,fr≤j→j<fr+long→InL nh nw w.level line j∧zij g w.level line j=true
theorem zyl {g:List (List Int)} {nh nw:Nat} {level:Bool} {line places:Nat} (hin:∀ j,j<places→InL nh nw level line j) {ws:List Wall} (hws:∀ w∈ws,zts g nh nw w):∀ n,n≤places →
  (∀ w∈(zcd g level line ws n).1,zts g nh nw w)∧((zcd g level line ws n).2=true→∃ ws0,∃ fr long:Nat,(zcd g level line ws n).1=ws0++[⟨level,line,fr,long⟩]∧fr+long=n∧1≤long∧∀ j,fr≤j→j<fr+long→InL nh nw level line j∧zij g level line j=true)
 | 0,_=>⟨hws,by simp [zcd]⟩
 | n+1,hn=>by
  obtain ⟨ih1,ih2⟩:=zyl hin hws n (by omega)
  rw [zd8]
  generalize zcd g level line ws n=s at ih1 ih2
  obtain ⟨ws',op⟩:=s
  simp only at ih1 ih2
  cases hd:zij g level line n with
  | false=>simp only[zep,Bool.false_and,qF,if_false]; exact ⟨ih1,by simp⟩
  | true =>
   cases op with
   | false =>
    simp only[zep,Bool.and_false,qF,if_false,if_true]
    have hnew:∀ j,n≤j→j<n+1→InL nh nw level line j∧zij g level line j=true:=by
     intro j h1 h2
     obtain rfl:j=n:=by omega
     exact ⟨hin _ (by omega),hd⟩
    refine ⟨fun w hw=>?_,fun _=>⟨ws',n,1,rfl,rfl,qR _,hnew⟩⟩
    rcases List.mem_append.1 hw with h | h
    ·exact ih1 w h
    rw [List.mem_singleton]at h; subst h
    exact ⟨line,n,1,rfl,qR _,hnew⟩
   | true =>
    obtain ⟨ws0,fr,long,e,h1,h2,h3⟩:=ih2 rfl
    subst e
    have hnew:∀ j,fr≤j→j<fr+(long+1)→InL nh nw level line j∧zij g level line j=true:=by
     intro j a b
     by_cases hj:j=n
     ·subst hj; exact ⟨hin _ (by omega),hd⟩
     exact h3 j a (by omega)
    simp only[zep,Bool.and_self,if_true,List.dropLast_concat,List.getLast?_concat,qO,Option.toList_some]
    refine ⟨fun w hw=>?_,fun _=>⟨ws0,fr,long+1,rfl,by omega,by omega,hnew⟩⟩
    rcases List.mem_append.1 hw with h | h
    ·exact ih1 w (List.mem_append_left _ h)
    rw [List.mem_singleton]at h; subst h
    exact ⟨line,fr,long+1,rfl,by omega,hnew⟩
theorem znl {g:List (List Int)} {nh nw:Nat} {level:Bool} {lines places:Nat} (hin:∀ l j,1≤l→l<lines→j<places→InL nh nw level l j) {ws:List Wall} (hws:∀ w∈ws,zts g nh nw w):∀ line,line≤lines →
  ∀ w∈zci g level places ws line,zts g nh nw w
 | 0,_=>by simpa [zci] using hws
 | line+1,hl=>by
  have ih:=znl hin hws line (by omega)
  by_cases h:1≤line
  ·rw [zeo h]
   exact (zyl (fun j hj=>hin line j h (by omega) hj) ih places (qR _)).1
  have:line=0:=by omega
  subst this
  simpa [zci] using hws
theorem zdz {g:List (List Int)} {nh nw:Nat}:∀ w∈zcx g nh nw,zts g nh nw w :=
 znl (lines:=nh) (fun l j h1 h2 h3=>⟨h1,by simp; omega⟩) (znl (lines:=nw) (fun l j h1 h2 h3=>⟨h1,by simp; omega⟩) (by simp) nw (qR _)) nh (qR _)
def zvf (g:List (List Int)) (nh nw n:Nat):Prop:=∀ i j,i<nh→j<nw→0≤gz g i j∧gz g i j<n
theorem zrf {g:List (List Int)} {nh nw n:Nat} (h:zvf g nh nw n) {level:Bool} {line j:Nat} (hi:InL nh nw level line j) :
  0≤(zcp g level line j).1∧(zcp g level line j).1<n∧0≤(zcp g level line j).2∧(zcp g level line j).2<n:=by
 obtain ⟨h1,h2⟩:=hi
 cases level with
 | true=>simp only[if_true]at h2; have a:=h (line - 1) j (by omega) h2.2; have b:=h line j h2.1 h2.2; simp only[zcp,if_true]; omega
 | false=>simp only[qF,if_false]at h2; have a:=h j (line - 1) h2.2 (by omega); have b:=h j line h2.2 h2.1; simp only[zcp,qF,if_false]; omega
theorem z5l {l:List Int} {x:Int} (h:x∈ddp l):x∈l:=by
 unfold ddp at h
 have:∀ (l m:List Int),x∈l.foldl zi5 m→x∈m∨x∈l:=by
  intro l
  induction l with
  | nil=>intro m h; exact .inl h
  | cons a l ih =>
   intro m h
   rcases ih _ h with h | h
   ·rcases zl8 h with h | h
    ·exact .inl h
    exact .inr (by simp [h])
   exact .inr (by simp [h])
 rcases this l [] h with h | h
 ·simp at h
 exact h
theorem zfm {g:List (List Int)} {nh nw n:Nat} (h:zvf g nh nw n) {w:Wall} (hw:zts g nh nw w):(∀ x∈(za6 g w).1,0≤x∧x<n)∧(∀ x∈(za6 g w).2,0≤x∧x<n):=by
 obtain ⟨line,fr,long,e,h1,h2⟩:=hw
 have e1:w.line.toNat=line:=by rw [e]; simp
 have e2:w.fr.toNat=fr:=by rw [e]; simp
 have e3:w.long.toNat=long:=by rw [e]; simp
 simp only[za6,e1,e2,e3]
 refine ⟨fun x hx=>?_,fun x hx=>?_⟩
 ·have:=z5l hx
  simp only[zbq,List.mem_map,List.mem_range]at this
  obtain ⟨j,hj,rfl⟩:=this
  have:=zrf h (h2 (fr+j) (by omega) (by omega)).1
  omega
 have:=z5l hx
 simp only[zbq,List.mem_map,List.mem_range]at this
 obtain ⟨j,hj,rfl⟩:=this
 have:=zrf h (h2 (fr+j) (by omega) (by omega)).1
 omega
theorem zzy {g:List (List Int)} {nh nw:Nat} (hg:GW g nh nw) {w:Wall} (hw:zts g nh nw w):(za6 g w).1.length≤6∧(za6 g w).2.length≤6:=by
 obtain ⟨line,fr,long,e,h1,h2⟩:=hw
 have hgg:=hg.2.2
 have hb:fr+long≤6:=by
  have h:=(h2 (fr+long - 1) (by omega) (by omega)).1.2
  cases hl:w.level <;> rw [hl]at h <;> simp at h <;> omega
 have e3:w.long.toNat=long:=by rw [e]; simp
 have h3:=zmw (g:=g) (level:=w.level) (line:=w.line.toNat) (fr:=w.fr.toNat) (n:=long)
 simp only[za6,e3]
 exact ⟨Nat.le_trans (z5k _) (by omega),Nat.le_trans (z5k _) (by omega)⟩
theorem Sq.relB {n:Nat} {a:Int} (ha:a.toNat<n):∀ {bs:List Int} {M:List (List Bool)},Sq n M→Sq n (relB a bs M)
 | [],M,h=>h
 | b::bs,M,h=>by
  show Sq n (Fw.relB a bs (z4c M a.toNat b.toNat true))
  exact Sq.relB ha (h.set ha)
theorem Sq.relW {n:Nat} {bs:List Int}:∀ {la:List Int} {M:List (List Bool)},(∀ a∈la,a.toNat<n)→Sq n M→Sq n (relW M la bs)
 | [],M,_,h=>h
 | a::la,M,ha,h=>by
  show Sq n (Fw.relW (Fw.relB a bs M) la bs)
  exact Sq.relW (fun x hx=>ha x (by simp [hx])) (h.relB (ha a (by simp)))
theorem ydi {g:List (List Int)} {nh nw n:Nat} (h:zvf g nh nw n) {w:Wall} (hw:zts g nh nw w) {M:List (List Bool) × List (List Bool)} (h1:Sq n M.1) (h2:Sq n M.2):Sq n (zmt g M w).1∧Sq n (zmt g M w).2:=by
 have hs:=(zfm h hw).1
 unfold zmt
 split
 ·exact ⟨h1,h2.relW fun a ha=>by have:=hs a ha; omega⟩
 exact ⟨h1.relW fun a ha=>by have:=hs a ha; omega,h2⟩
theorem zuf {g:List (List Int)} {nh nw n:Nat} (h:zvf g nh nw n):∀ {ws:List Wall},(∀ w∈ws,zts g nh nw w)→∀ {M:List (List Bool) × List (List Bool)},Sq n M.1→Sq n M.2→Sq n (ws.foldl (zmt g) M).1∧Sq n (ws.foldl (zmt g) M).2
 | [],_,M,h1,h2=>⟨h1,h2⟩
 | w::ws,hw,M,h1,h2=>by
  obtain ⟨k1,k2⟩:=ydi h (hw w (by simp)) h1 h2
  exact zuf h (ws:=ws) (fun x hx=>hw x (by simp [hx])) k1 k2
theorem z37 {F R:List Ob} {k t:Nat} {M:List (List Bool)} {n:Nat} (hk:F.length=k) (h:M.length=n):(F++(zbs k t M++R))[k]?=some (.arr t 81 1 ((List.range n).map fun i => .loc (k+1+i) t 0 n)):=by subst hk; exact z4w h
theorem z38 {F R:List Ob} {k t a:Nat} {M:List (List Bool)} {row:List Bool} (hk:F.length=k) (h:M[a]?=some row):(F++(zbs k t M++R))[k+1+a]?=some (.arr t 4 1 (row.map .bool)):=by subst hk; exact zxt h
theorem zne {F R:List Ob} {k t a:Nat} {M:List (List Bool)} {row:List Bool} {n:Nat} (hk:F.length=k) (hn:M.length=n) (h:a<n):(F++(zbs k t M++R)).set (k+1+a) (.arr t 4 1 (row.map .bool))=F++(zbs k t (M.set a row)++R):=by subst hk; exact zma hn h
structure Lay (n:Nat) where
 f:Ob→Ob→List Ob→List (List Bool)→List (List Bool)→List Ob
 pL:Nat
 vL:Nat
 pA:Nat
 vA:Nat
 p3:Nat
 v3:Nat
 appR:∀ {o2:Ob} {o3:Ob} {R:List Ob} {L:List (List Bool)} {A:List (List Bool)},f o2 o3 R L A=f o2 o3 [] L A++R
 len0:∀ {o2:Ob} {o3:Ob} {L:List (List Bool)} {A:List (List Bool)},L.length=n→A.length=n→(f o2 o3 [] L A).length=2*n+4
 get0:∀ {o2:Ob} {o3:Ob} {R:List Ob} {L:List (List Bool)} {A:List (List Bool)},(f o2 o3 R L A)[0]?=some o2
 set0:∀ {o2:Ob} {o3:Ob} {R:List Ob} {L:List (List Bool)} {A:List (List Bool)} {o:Ob},(f o2 o3 R L A).set 0 o=f o o3 R L A
 get3:∀ {o2:Ob} {o3:Ob} {R:List Ob} {L:List (List Bool)} {A:List (List Bool)},L.length=n→A.length=n→(f o2 o3 R L A)[p3]?=some o3
 getL:∀ {o2:Ob} {o3:Ob} {R:List Ob} {L:List (List Bool)} {A:List (List Bool)},L.length=n→(f o2 o3 R L A)[pL]?=some (.arr vL 81 1 ((List.range n).map fun i => .loc (pL+1+i) vL 0 n))
 getLr:∀ {o2:Ob} {o3:Ob} {R:List Ob} {L:List (List Bool)} {A:List (List Bool)} {a:Nat} {row:List Bool},L[a]?=some row→(f o2 o3 R L A)[pL+1+a]?=some (.arr vL 4 1 (row.map .bool))
 setL:∀ {o2:Ob} {o3:Ob} {R:List Ob} {L:List (List Bool)} {A:List (List Bool)} {a:Nat} {row:List Bool},L.length=n→a<n→(f o2 o3 R L A).set (pL+1+a) (.arr vL 4 1 (row.map .bool))=f o2 o3 R (L.set a row) A
 getA:∀ {o2:Ob} {o3:Ob} {R:List Ob} {L:List (List Bool)} {A:List (List Bool)},L.length=n→A.length=n→(f o2 o3 R L A)[pA]?=some (.arr vA 81 1 ((List.range n).map fun i => .loc (pA+1+i) vA 0 n))
 getAr:∀ {o2:Ob} {o3:Ob} {R:List Ob} {L:List (List Bool)} {A:List (List Bool)} {a:Nat} {row:List Bool},L.length=n→A[a]?=some row→(f o2 o3 R L A)[pA+1+a]?=some (.arr vA 4 1 (row.map .bool))
 setA:∀ {o2:Ob} {o3:Ob} {R:List Ob} {L:List (List Bool)} {A:List (List Bool)} {a:Nat} {row:List Bool},L.length=n→A.length=n→a<n→(f o2 o3 R L A).set (pA+1+a) (.arr vA 4 1 (row.map .bool))=f o2 o3 R L (A.set a row)
 splL:∀ {o2:Ob} {o3:Ob} {R:List Ob} {L:List (List Bool)} {A:List (List Bool)},∃ F R',pL=F.length∧∀ L':List (List Bool),L'.length=L.length→f o2 o3 R L' A=F++(zbs F.length vL L'++R')
 splA:∀ {o2:Ob} {o3:Ob} {R:List Ob} {L:List (List Bool)} {A:List (List Bool)},L.length=n→∃ F R',pA=F.length∧∀ A':List (List Bool),A'.length=A.length→f o2 o3 R L A'=F++(zbs F.length vA A'++R')
section
variable {n:Nat} (Y:Lay n) {o2 o3:Ob} {R:List Ob} {a t:Nat} {L A:List (List Bool)} {w w':Ob}
theorem Lay.app:Y.f o2 o3 R L A++[w]=Y.f o2 o3 (R++[w]) L A:=by rw [Y.appR,Y.appR (R:=R++[w])]; simp
theorem Lay.len (hl:L.length=n) (h:A.length=n):(Y.f o2 o3 R L A).length=2*n+4+R.length:=by rw [Y.appR,List.length_append,Y.len0 hl h]
theorem Lay.get4 (hl:L.length=n) (h:A.length=n):(Y.f o2 o3 (w::R) L A)[2*n+4]?=some w:=by
 rw [Y.appR,List.getElem?_append_right (by rw [Y.len0 hl h]; exact qR _),Y.len0 hl h]; simp
theorem Lay.set4 (hl:L.length=n) (h:A.length=n):(Y.f o2 o3 (w::R) L A).set (2*n+4) w'=Y.f o2 o3 (w'::R) L A:=by
 rw [Y.appR,List.set_append_right _ _ (by rw [Y.len0 hl h]; exact qR _),Y.len0 hl h,Y.appR (R:=w'::R)]; simp
theorem Lay.take (hl:L.length=n) (h:A.length=n):Store.take ⟨Y.f o2 o3 R L A,t⟩ (2*n+4)=⟨Y.f o2 o3 [] L A,t⟩:=by
 simp only[Store.take]
 rw [Y.appR,List.take_append_of_le_length (by rw [Y.len0 hl h]; exact qR _),qT (by rw [Y.len0 hl h]; exact qR _)]
end
def ygf (n:Nat):Lay n where
 f o2 o3 R L A:=[o2]++(zbs 1 1 L++(zbs (n+2) 2 A++o3::R))
 pL:=1
 vL:=1
 pA:=n+2
 vA:=2
 p3:=2*n+3
 v3:=3
 appR:=by intros; simp
 len0:=by intros o2 o3 L A h1 h2; simp [zai]; omega
 get0:=rfl
 set0:=rfl
 get3:=by
  intros o2 o3 R L A h1 h2
  rw [List.getElem?_append_right (by simp),List.getElem?_append_right (by simp [zai]; omega),List.getElem?_append_right (by simp [zai]; omega)]
  rw [zai,zai,show 2*n+3 - [o2].length - (L.length+1) - (A.length+1)=0 by simp; omega]; rfl
 getL:=fun h=>z37 rfl h
 getLr:=fun h=>z38 rfl h
 setL:=fun h1 h2=>zne rfl h1 h2
 getA:=by intros o2 o3 R L A h1 h2; rw [← List.append_assoc]; exact z37 (by simp [zai]; omega) h2
 getAr:=by intros o2 o3 R L A a row h1 h2; rw [← List.append_assoc]; exact z38 (by simp [zai]; omega) h2
 setA:=by intros o2 o3 R L A a row h1 h2 h3; rw [← List.append_assoc,zne (by simp [zai]; omega) h2 h3,List.append_assoc]
 splL:=by intros o2 o3 R L A; exact ⟨[o2],_,rfl,fun _ _=>rfl⟩
 splA:=by intros o2 o3 R L A h; exact ⟨[o2]++zbs 1 1 L,o3::R,by simp [zai]; omega,fun A' _=>by rw [show ([o2]++zbs 1 1 L).length=n+2 by simp [zai]; omega,List.append_assoc]⟩
def yge (n:Nat):Lay n where
 f o2 o3 R L A:=[o2]++(zbs 1 1 L++(o3::(zbs (n+3) 3 A++R)))
 pL:=1
 vL:=1
 pA:=n+3
 vA:=3
 p3:=n+2
 v3:=2
 appR:=by intros; simp
 len0:=by intros o2 o3 L A h1 h2; simp [zai]; omega
 get0:=rfl
 set0:=rfl
 get3:=by
  intros o2 o3 R L A h1 h2
  rw [List.getElem?_append_right (by simp),List.getElem?_append_right (by simp [zai]; omega)]
  rw [zai,show n+2 - [o2].length - (L.length+1)=0 by simp; omega]; rfl
 getL:=fun h=>z37 rfl h
 getLr:=fun h=>z38 rfl h
 setL:=fun h1 h2=>zne rfl h1 h2
 getA:=by intros o2 o3 R L A h1 h2; rw [show [o2]++(zbs 1 1 L++(o3::(zbs (n+3) 3 A++R)))=([o2]++zbs 1 1 L++[o3])++(zbs (n+3) 3 A++R) by simp]; exact z37 (by simp [zai]; omega) h2
 getAr:=by intros o2 o3 R L A a row h1 h2; rw [show [o2]++(zbs 1 1 L++(o3::(zbs (n+3) 3 A++R)))=([o2]++zbs 1 1 L++[o3])++(zbs (n+3) 3 A++R) by simp]; exact z38 (by simp [zai]; omega) h2
 setA:=by intros o2 o3 R L A a row h1 h2 h3; rw [show [o2]++(zbs 1 1 L++(o3::(zbs (n+3) 3 A++R)))=([o2]++zbs 1 1 L++[o3])++(zbs (n+3) 3 A++R) by simp,zne (by simp [zai]; omega) h2 h3]; simp
 splL:=by intros o2 o3 R L A; exact ⟨[o2],_,rfl,fun _ _=>rfl⟩
 splA:=by intros o2 o3 R L A h; exact ⟨[o2]++zbs 1 1 L++[o3],R,by simp [zai]; omega,fun A' _=>by rw [show ([o2]++zbs 1 1 L++[o3]).length=n+3 by simp [zai]; omega]; simp⟩
def ygd (n:Nat):Lay n where
 f o2 o3 R L A:=[o2,o3]++(zbs 2 2 L++(zbs (n+3) 3 A++R))
 pL:=2
 vL:=2
 pA:=n+3
 vA:=3
 p3:=1
 v3:=1
 appR:=by intros; simp
 len0:=by intros o2 o3 L A h1 h2; simp [zai]; omega
 get0:=rfl
 set0:=rfl
 get3:=fun _ _=>rfl
 getL:=fun h=>z37 rfl h
 getLr:=fun h=>z38 rfl h
 setL:=fun h1 h2=>zne rfl h1 h2
 getA:=by intros o2 o3 R L A h1 h2; rw [← List.append_assoc]; exact z37 (by simp [zai]; omega) h2
 getAr:=by intros o2 o3 R L A a row h1 h2; rw [← List.append_assoc]; exact z38 (by simp [zai]; omega) h2
 setA:=by intros o2 o3 R L A a row h1 h2 h3; rw [← List.append_assoc,zne (by simp [zai]; omega) h2 h3,List.append_assoc]
 splL:=by intros o2 o3 R L A; exact ⟨[o2,o3],_,rfl,fun _ _=>rfl⟩
 splA:=by intros o2 o3 R L A h; exact ⟨[o2,o3]++zbs 2 2 L,R,by simp [zai]; omega,fun A' _=>by rw [show ([o2,o3]++zbs 2 2 L).length=n+3 by simp [zai]; omega,List.append_assoc]⟩
def yak (lv:Bool) (M:List (List Bool) × List (List Bool)) (X:List (List Bool)):List (List Bool) × List (List Bool):=if lv then (M.1,X) else (X,M.2)
def zpi (lv:Bool) (M:List (List Bool) × List (List Bool)):List (List Bool):=if lv then M.2 else M.1
theorem z8c {lv:Bool} {M:List (List Bool) × List (List Bool)}:yak lv M (zpi lv M)=M:=by cases lv <;> rfl
theorem z88 {n:Nat} {lv:Bool} {M:List (List Bool) × List (List Bool)} (h1:Sq n M.1) (h2:Sq n M.2):Sq n (zpi lv M):=by cases lv <;> simp [zpi,h1,h2]
theorem z93 {g:List (List Int)} {M:List (List Bool) × List (List Bool)} {w:Wall}:zmt g M w=yak w.level M (relW (zpi w.level M) (za6 g w).1 (za6 g w).2):=by
 unfold zmt yak zpi; cases w.level <;> rfl
theorem ydp {M:List (List Bool)} {la bs:List Int} {x:Nat} {a:Int} (h:la[x]?=some a):relW M (la.take (x+1)) bs=relB a bs (relW M (la.take x) bs):=zer h
theorem z7u {M:List (List Bool)} {bs:List Int} {y:Nat} {a b:Int} (h:bs[y]?=some b):relB a (bs.take (y+1)) M=z4c (relB a (bs.take y) M) a.toNat b.toNat true:=zer h
theorem z34 {S:Store} {im:Bool} {k:Nat} {a b a2 b2:PV} (h1:reify S im k a=some a2) (h2:reify S im k b=some b2):reify S im (k+1) (.agg [a,b])=some (.agg [a2,b2]):=by
 simp [reify,h1,h2]
theorem zjd {nr:Nat} {x:Ob} {B:List Ob}:(zbs 1 1 (zcg nr)++[x]++B)[nr+1]?=some x:=by
 have:(zbs 1 1 (zcg nr)).length=nr+1:=by simp [zai,zcg]
 rw [List.append_assoc,List.getElem?_append_right (by omega),this]; simp
theorem zjn {nr:Nat} {x y:Ob} {B:List Ob}:(zbs 1 1 (zcg nr)++[x]++B).set (nr+1) y=zbs 1 1 (zcg nr)++[y]++B:=by
 have:(zbs 1 1 (zcg nr)).length=nr+1:=by simp [zai,zcg]
 rw [List.append_assoc,List.set_append_right _ _ (by omega),this]; simp
theorem zku {P:Program} {T:Tab} {e:Env} {S:Store} {ds pd:List (Option Tmp)} {t d:Nat} {o:Oper} {r l2:List Oper} {K:Env→Store→Prop} (hp:pd.contains o.dst=false) (h:zdu o.op=true)
  (k:zbp false P T ds [o] e S fun e S=>zkb P T ds pd t d l2 r e S K):zkb P T ds pd t d l2 (o::r) e S K:=(z27 hp h).symm ▸ k
theorem zt2 {l:List Ob} {a:Ob}:(l++[a])[l.length]?=some a:=by simp
theorem zfl {l:List Ob} {a b:Ob}:(l++[a]).set l.length b=l++[b]:=by simp
theorem zbr {n:Nat}:(zcg n).length=n:=by simp [zcg]
end
theorem z5e {nr tk:Nat} (Y:Lay nr) {o2 o3:Ob} {R:List Ob} {L A:List (List Bool)} (hL:Sq nr L) (hn:nr≤9) :
  Ev Tryz.prog 50 [.loc Y.pL Y.vL 0 nr] ⟨Y.f o2 o3 R L A,tk⟩ fun v S=>v = .tup []∧S=⟨Y.f o2 o3 R (zf4 L) A,tk⟩:=by
 obtain ⟨F,R',hp,hF⟩:=Y.splL (o2:=o2) (o3:=o3) (R:=R) (L:=L) (A:=A)
 rw [hp,hF L rfl,hF (zf4 L) (by rw [hL.1,hL.close.1])]
 exact z0o hL hn
theorem z5d {nr tk:Nat} (Y:Lay nr) {o2 o3:Ob} {R:List Ob} {L A:List (List Bool)} (hL:L.length=nr) (hA:Sq nr A) (hn:nr≤9) :
  Ev Tryz.prog 50 [.loc Y.pA Y.vA 0 nr] ⟨Y.f o2 o3 R L A,tk⟩ fun v S=>v = .tup []∧S=⟨Y.f o2 o3 R L (zf4 A),tk⟩:=by
 obtain ⟨F,R',hp,hF⟩:=Y.splA (o2:=o2) (o3:=o3) (R:=R) (L:=L) (A:=A) hL
 rw [hp,hF A rfl,hF (zf4 A) (by rw [hA.1,hA.close.1])]
 exact z0o hA hn
theorem z64 {g:List (List Int)} {nh nw nr:Nat} (hg:GW g nh nw) {rs:List Rect} (hr:rs.length=nr) (hn:nr≤9) (hrm:zvf g nh nw nr):PC Tryz.prog 27 [za3 g rs] (.agg [zhn (zwm g nh nw nr),zhn (znn g nh nw nr)]) true:=by
 have hwsl:=z8y (g:=g) (nh:=nh) (nw:=nw) (i:=2) hg.2.2.2.1 hg.2.2.2.2.2
 rw [show wsI g nh nw 2=zcx g nh nw from rfl]at hwsl
 refine PC.of ⟨Tryz.func27,by kernel_rfl,rfl,by kernel_rfl⟩ zap mixed (by show 1≤Tryz.f27.ntmps; decide) ?_
 refine W.r fun K hK=>?_
 simp(disch:=omega)only[↓RU,RV,RH,↓reduceIte,qE,reduceCtorEq,if_pos,↓RS,RG,qA,qM,qL,ty0,ty2,zah,zgx,ze0,zgy]
 apply hK;clear hK K
 refine W.join [0,2,3] (fun vs S=>∃ (Y:Lay nr) (tk:Nat),vs=[za3 g rs,.ref 0 0 0,.ref Y.p3 Y.v3 0]∧S=⟨Y.f (.arr 0 49 2 [.nils,.nils]) (.arr Y.v3 49 2 [.loc Y.pL Y.vL 0 nr,.loc Y.pA Y.vA 0 nr]) [] (zcg nr) (zcg nr),tk⟩) ?_ ?_
 ·
  refine W.region_mk (r1:=[_,_,_,_,_,_,_,_,_,_,_,_,_]) (r2:=[_]) 13 49 3 [0,1,2,3,4,6,7,8,9,10,5,11,12] [14] [7,8,9,10] [some 20,some 21,some 22,some 23] (by kernel_rfl) (by kernel_rfl) (by kernel_rfl) rfl rfl fun K hK=>?_
  refine zku rfl rfl ?_
  simp(disch:=omega)only[↓RU,RV,RH,↓reduceIte,qE,reduceCtorEq,if_pos,qN,↓RS,RG,qA,qM,qL,ty0,ty1,ty2,ty3,zab,zah,ze6,zde,zgx,za7,ze0,zaa,ze7,zgy,za8,hr,zgd,zai,zbr,zt2,zfl,zjd,zjn]
  refine zku rfl rfl ?_
  simp(disch:=omega)only[↓RU,RV,RH,↓reduceIte,qE,reduceCtorEq,if_pos,qN,↓RS,RG,qA,qM,qL,ty0,ty1,ty2,ty3,zab,zah,ze6,zde,zgx,za7,ze0,zaa,ze7,zgy,za8,hr,zgd,zai,zbr,zt2,zfl,zjd,zjn]
  refine zku rfl rfl ?_
  simp(disch:=omega)only[↓RU,RV,RH,↓reduceIte,qE,reduceCtorEq,if_pos,qN,↓RS,RG,qA,qM,qL,ty0,ty1,ty2,ty3,zab,zah,ze6,zde,zgx,za7,ze0,zaa,ze7,zgy,za8,hr,zgd,zai,zbr,zt2,zfl,zjd,zjn]
  refine zku rfl rfl ?_
  simp(disch:=omega)only[↓RU,RV,RH,↓reduceIte,qE,reduceCtorEq,if_pos,qN,↓RS,RG,qA,qM,qL,ty0,ty1,ty2,ty3,zab,zah,ze6,zde,zgx,za7,ze0,zaa,ze7,zgy,za8,hr,zgd,zai,zbr,zt2,zfl,zjd,zjn]
  refine zku rfl rfl ?_
  simp(disch:=omega)only[↓RU,RV,RH,↓reduceIte,qE,reduceCtorEq,if_pos,qN,↓RS,RG,qA,qM,qL,ty0,ty1,ty2,ty3,zab,zah,ze6,zde,zgx,za7,ze0,zaa,ze7,zgy,za8,hr,zgd,zai,zbr,zt2,zfl,zjd,zjn]
  refine zku rfl rfl ?_
  simp(disch:=omega)only[↓RU,RV,RH,↓reduceIte,qE,reduceCtorEq,if_pos,qN,↓RS,RG,qA,qM,qL,ty0,ty1,ty2,ty3,zab,zah,ze6,zde,zgx,za7,ze0,zaa,ze7,zgy,za8,hr,zgd,zai,zbr,zt2,zfl,zjd,zjn]
  refine zjt rfl rfl rfl (fun S'=>rfl) ?_
  refine zjt rfl rfl rfl (fun S'=>rfl) ?_
  refine zjt rfl rfl rfl (fun S'=>rfl) ?_
  refine zjt rfl rfl rfl (fun S'=>rfl) ?_
  refine zvx rfl (by decide) ?_ ?_
  ·simp(disch:=omega)only[↓RU,RV,RH,↓reduceIte,qE,reduceCtorEq,if_pos,qN,↓RS,RG,qA,qM,qL,ty0,ty1,ty2,ty3,zab,zah,ze6,zde,zgx,za7,ze0,zaa,ze7,zgy,za8,hr,zgd,zai,zbr,zt2,zfl,zjd,zjn]
   refine zad.pn (zg5 hn) rfl (.inl rfl) ?_
   simp(disch:=omega)only[↓RU,RV,RH,↓reduceIte,qE,reduceCtorEq,if_pos,qN,↓RS,RG,qA,qM,qL,ty0,ty1,ty2,ty3,zab,zah,ze6,zde,zgx,za7,ze0,zaa,ze7,zgy,za8,hr,zgd,zai,zbr,zt2,zfl,zjd,zjn,RN]
   refine zad.pn (zg5 hn) rfl (.inl rfl) ?_
   simp(disch:=omega)only[↓RU,RV,RH,↓reduceIte,qE,reduceCtorEq,if_pos,qN,↓RS,RG,qA,qM,qL,ty0,ty1,ty2,ty3,zab,zah,ze6,zde,zgx,za7,ze0,zaa,ze7,zgy,za8,hr,zgd,zai,zbr,zt2,zfl,zjd,zjn,RN]
   apply hK;clear hK K
   refine xn ?_
   refine ⟨_,ygd nr,4,?_,za4 ?_⟩
   ·simp [Env.put,Env.of,zaf,ygd,zai,zbr]; try omega
   simp [ygd,zai,zbr]
  simp(disch:=omega)only[↓RU,RV,RH,↓reduceIte,qE,reduceCtorEq,if_pos,qN,↓RS,RG,qA,qM,qL,ty0,ty1,ty2,ty3,zab,zah,ze6,zde,zgx,za7,ze0,zaa,ze7,zgy,za8,hr,zgd,zai,zbr,zt2,zfl,zjd,zjn]
  refine zad.pn (zg5 hn) rfl (.inl rfl) ?_
  simp(disch:=omega)only[↓RU,RV,RH,↓reduceIte,qE,reduceCtorEq,if_pos,qN,↓RS,RG,qA,qM,qL,ty0,ty1,ty2,ty3,zab,zah,ze6,zde,zgx,za7,ze0,zaa,ze7,zgy,za8,hr,zgd,zai,zbr,zt2,zfl,zjd,zjn,RN]
  refine zvx rfl (by decide) ?_ ?_
  ·simp(disch:=omega)only[↓RU,RV,RH,↓reduceIte,qE,reduceCtorEq,if_pos,qN,↓RS,RG,qA,qM,qL,ty0,ty1,ty2,ty3,zab,zah,ze6,zde,zgx,za7,ze0,zaa,ze7,zgy,za8,hr,zgd,zai,zbr,zt2,zfl,zjd,zjn]
   refine zad.pn (zg5 hn) rfl (.inl rfl) ?_
   simp(disch:=omega)only[↓RU,RV,RH,↓reduceIte,qE,reduceCtorEq,if_pos,qN,↓RS,RG,qA,qM,qL,ty0,ty1,ty2,ty3,zab,zah,ze6,zde,zgx,za7,ze0,zaa,ze7,zgy,za8,hr,zgd,zai,zbr,zt2,zfl,zjd,zjn,RN]
   apply hK;clear hK K
   refine xn ?_
   refine ⟨_,yge nr,4,?_,za4 ?_⟩
   ·simp [Env.put,Env.of,zaf,yge,zai,zbr]; try omega
   simp [yge,zai,zbr]
  simp(disch:=omega)only[↓RU,RV,RH,↓reduceIte,qE,reduceCtorEq,if_pos,qN,↓RS,RG,qA,qM,qL,ty0,ty1,ty2,ty3,zab,zah,ze6,zde,zgx,za7,ze0,zaa,ze7,zgy,za8,hr,zgd,zai,zbr,zt2,zfl,zjd,zjn]
  refine zad.pn (zg5 hn) rfl (.inl rfl) ?_
  simp(disch:=omega)only[↓RU,RV,RH,↓reduceIte,qE,reduceCtorEq,if_pos,qN,↓RS,RG,qA,qM,qL,ty0,ty1,ty2,ty3,zab,zah,ze6,zde,zgx,za7,ze0,zaa,ze7,zgy,za8,hr,zgd,zai,zbr,zt2,zfl,zjd,zjn,RN]
  refine zku rfl rfl ?_
  simp(disch:=omega)only[↓RU,RV,RH,↓reduceIte,qE,reduceCtorEq,if_pos,qN,↓RS,RG,qA,qM,qL,ty0,ty1,ty2,ty3,zab,zah,ze6,zde,zgx,za7,ze0,zaa,ze7,zgy,za8,hr,zgd,zai,zbr,zt2,zfl,zjd,zjn,RN]
  refine ⟨by decide,?_⟩
  simp(disch:=omega)only[↓RU,RV,RH,↓reduceIte,qE,reduceCtorEq,if_pos,qN,↓RS,RG,qA,qM,qL,ty0,ty1,ty2,ty3,zab,zah,ze6,zde,zgx,za7,ze0,zaa,ze7,zgy,za8,hr,zgd,zai,zbr,zt2,zfl,zjd,zjn,RN]
  apply hK;clear hK K
  refine xn ?_
  refine ⟨_,ygf nr,4,?_,za4 ?_⟩
  ·simp [Env.put,Env.of,zaf,ygf,zai,zbr]; try omega
  simp [ygf,zai,zbr]
 rintro vs S - ⟨Y,tk,rfl,rfl⟩
 refine W.seq ?_
 refine W.r fun K hK=>?_
 simp(disch:=omega)only[↓RU,RV,RH,↓reduceIte,qE,reduceCtorEq,if_pos,qN,↓RS,RG,qA,qM,qL,ty4,zah,z2w,zaa,z2x,zt2,zfl]
 refine zad.pc (yaz hg rs) rfl (.inl rfl) ?_
 simp(disch:=omega)only[↓RU,RV,RH,↓reduceIte,qE,reduceCtorEq,if_pos,qN,↓RS,RG,qA,qM,qL,ty4,zah,z2w,zaa,z2x,zt2,zfl]
 apply hK;clear hK K
 refine W.block ?_
 refine W.loop [0,2,3,27,28,29] (fun n vs S=>∃ i tk:Nat,n=(zcx g nh nw).length - i∧i≤(zcx g nh nw).length∧vs=[za3 g rs,.ref 0 0 0,.ref Y.p3 Y.v3 0,zsd (zcx g nh nw),.int .i64 (zcx g nh nw).length,.int .i64 i]∧S=⟨Y.f (.arr 0 49 2 [.nils,.nils]) (.arr Y.v3 49 2 [.loc Y.pL Y.vL 0 nr,.loc Y.pA Y.vA 0 nr]) [] (((zcx g nh nw).take i).foldl (zmt g) (zcg nr,zcg nr)).1 (((zcx g nh nw).take i).foldl (zmt g) (zcg nr,zcg nr)).2,tk⟩) (zcx g nh nw).length ?_ ?_
 ·refine ⟨_,0,tk,rfl,by omega,?_,za4 rfl⟩
  simp [Env.put,Env.of,zaf]
 rintro n vs S - ⟨i,tk,rfl,h_i,rfl,rfl⟩
 refine W.r fun K hK=>?_
 simp(disch:=omega)only[↓RU,RV,RH,↓reduceIte,qE,reduceCtorEq,if_pos,w64,↓RS,RG,qA,qM,qL,zaa]
 apply hK;clear hK K
 refine W.seq ?_
 refine W.cond rfl (fun h=>?_) (fun h=>?_)
 ·try simp only[RL]at h
  obtain ⟨w,hw,hwm⟩:=zag (show i<(zcx g nh nw).length by omega)
  obtain ⟨hL,hA⟩:=zuf hrm (ws:=(zcx g nh nw).take i) (fun w hw=>zdz w (List.mem_of_mem_take hw)) (M:=(zcg nr,zcg nr)) (zex nr) (zex nr)
  generalize hMe:(((zcx g nh nw).take i).foldl (zmt g) (zcg nr,zcg nr))=M at hL hA
  obtain ⟨ln,fr,lg,hwe,hlg,hin⟩:=zdz w hwm
  obtain ⟨lv,wl,wf,wg⟩:=w
  simp only[Wall.mk.injEq,true_and]at hwe hin
  obtain ⟨rfl,rfl,rfl⟩:=hwe
  have hsr:=zfm hrm (zdz _ hwm)
  obtain ⟨hLl,-⟩:=id hL
  obtain ⟨hAl,-⟩:=id hA
  refine W.skip ?_
  refine xn ?_
  refine W.seq ?_
  refine W.block ?_
  refine W.r fun K hK=>?_
  simp(disch:=omega)only[↓RU,RV,RH,↓reduceIte,qE,reduceCtorEq,if_pos,↓RS,RG,qA,qM,qL,ty4,zah,z2w,zaa,z2x,hMe,hw,yf1 hw,ziv,Y.app,Y.len hLl hAl,Y.get4 hLl hAl,Y.set4 hLl hAl,Wall.cells]
  apply hK;clear hK K
  refine W.r fun K hK=>?_
  simp(disch:=omega)only[↓RU,RV,RH,↓reduceIte,qE,reduceCtorEq,if_pos,↓RS,RG,qA,qM,qL,ty0,ty2,zah,zgx,ze0,zgy,Y.get3 hLl hAl]
  apply hK;clear hK K
  refine W.join [0,2,3,27,28,29,5,6] (fun vs S=>vs=[za3 g rs,.ref 0 0 0,.ref Y.p3 Y.v3 0,zsd (zcx g nh nw),.int .i64 (zcx g nh nw).length,.int .i64 i,.ref (2*nr+4) tk 0,(if lv then .loc Y.pA Y.vA 0 nr else .loc Y.pL Y.vL 0 nr)]∧S=⟨Y.f (.arr 0 49 2 [.nils,.nils]) (.arr Y.v3 49 2 [.loc Y.pL Y.vL 0 nr,.loc Y.pA Y.vA 0 nr]) [.arr tk 78 4 [.bool lv,.int .i64 ln,.int .i64 fr,.int .i64 lg]] M.1 M.2,tk+1⟩) ?_ ?_
  ·
   refine W.r fun K hK=>?_
   simp(disch:=omega)only[↓RU,RV,RH,↓reduceIte,qE,reduceCtorEq,if_pos,↓RS,RG,qA,qM,qL,zah,z2w,zaa,z2x,Y.get4 hLl hAl]
   apply hK;clear hK K
   refine W.cond rfl (fun h1=>?_) (fun h1=>?_)
   ·try simp only[RL]at h1
    refine W.k fun K hK=>?_
    simp(disch:=omega)only[↓RU,RV,RH,↓reduceIte,qE,reduceCtorEq,if_pos,↓RS,RG,qA,qM,qL,ty0,ty2,zah,zgx,ze0,zgy,Y.get3 hLl hAl]
    apply hK;clear hK K
    refine xn ?_
    refine ⟨_,?_,zak⟩
    simp [Env.put,Env.of,h1]
   try simp only[RL]at h1
   refine W.skip ?_
   refine xn ?_
   refine ⟨_,?_,zak⟩
   simp [Env.put,Env.of,h1]
  rintro vs S - ⟨rfl,rfl⟩
  refine W.r fun K hK=>?_
  simp(disch:=omega)only[↓RU,RV,RH,↓reduceIte,qE,reduceCtorEq,if_pos,qN,↓RS,RG,qA,qM,qL,zah,z2w,zaa,z2x,Y.get4 hLl hAl]
  refine zad.pc (z87 hg rs hlg fun j a b=>(hin j a b).1) rfl (.inl rfl) ?_
  simp(disch:=omega)only[↓RU,RV,RH,↓reduceIte,qE,reduceCtorEq,if_pos,qN,↓RS,RG,qA,qM,qL,zah,z2w,zaa,z2x,Y.get4 hLl hAl]
  apply hK;clear hK K
  have hs1:ddp (zbq g lv ln fr lg).1=(za6 g ⟨lv,ln,fr,lg⟩).1:=by simp [za6]
  have hs2:ddp (zbq g lv ln fr lg).2=(za6 g ⟨lv,ln,fr,lg⟩).2:=by simp [za6]
  rw [hs1,hs2]
  obtain ⟨hsr1,hsr2⟩:=hsr
  have hsl:=zzy hg (zdz _ hwm)
  generalize hasE:(za6 g ⟨lv,ln,fr,lg⟩).1=av at hsr1 hsl
  generalize hbsE:(za6 g ⟨lv,ln,fr,lg⟩).2=bv at hsr2 hsl
  refine W.r fun K hK=>?_
  simp(disch:=omega)only[↓RU,RV,RH,↓reduceIte,qE,reduceCtorEq,if_pos,↓RS,RG,qA,qM,qL,zab,zaa]
  apply hK;clear hK K
  refine W.block ?_
  refine W.loop [0,2,3,27,28,29,6,8,45,46,47] (fun n vs S=>∃ x tk:Nat,n=av.length - x∧x≤av.length∧vs=[za3 g rs,.ref 0 0 0,.ref Y.p3 Y.v3 0,zsd (zcx g nh nw),.int .i64 (zcx g nh nw).length,.int .i64 i,(if lv then .loc Y.pA Y.vA 0 nr else .loc Y.pL Y.vL 0 nr),eInts bv,eInts av,.int .i64 av.length,.int .i64 x]∧S=⟨Y.f (.arr 0 49 2 [.nils,.nils]) (.arr Y.v3 49 2 [.loc Y.pL Y.vL 0 nr,.loc Y.pA Y.vA 0 nr]) [] (yak lv M (relW (zpi lv M) (av.take x) bv)).1 (yak lv M (relW (zpi lv M) (av.take x) bv)).2,tk⟩) av.length ?_ ?_
  ·refine ⟨2*nr+4,0,tk+1,rfl,by omega,?_,?_⟩
   ·simp [Env.put,Env.of]
   rw [Y.take hLl hAl,List.take_zero]; rw [show relW (zpi lv M) [] bv=zpi lv M from rfl,z8c]
  rintro n vs S - ⟨x,tk,rfl,h_x,rfl,rfl⟩
  refine W.r fun K hK=>?_
  simp(disch:=omega)only[↓RU,RV,RH,↓reduceIte,qE,reduceCtorEq,if_pos,w64,↓RS,RG,qA,qM,qL,zaa]
  apply hK;clear hK K
  refine W.seq ?_
  refine W.cond rfl (fun h2=>?_) (fun h2=>?_)
  ·try simp only[RL]at h2
   obtain ⟨a,ha,ham⟩:=zag (show x<av.length by omega)
   have hab:=hsr1 a ham
   have hX:Sq nr (relW (zpi lv M) (av.take x) bv):=Sq.relW (fun a ha=>by have:=hsr1 a (List.mem_of_mem_take ha); omega) (z88 hL hA)
   generalize hXe:relW (zpi lv M) (av.take x) bv=X at hX
   have hasl2:=hsl.1
   have hbsl2:=hsl.2
   refine W.skip ?_
   refine xn ?_
   refine W.seq ?_
   refine W.block ?_
   refine W.r fun K hK=>?_
   simp(disch:=omega)only[↓RU,RV,RH,↓reduceIte,qE,reduceCtorEq,if_pos,↓RS,RG,qA,qM,qL,zab,zaa,ha]
   apply hK;clear hK K
   refine W.r fun K hK=>?_
   simp(disch:=omega)only[↓RU,RV,RH,↓reduceIte,qE,reduceCtorEq,if_pos,↓RS,RG,qA,qM,qL,zab,zaa]
   apply hK;clear hK K
   refine W.block ?_
   refine W.loop [0,2,3,27,28,29,6,8,45,46,47,10,51,52,53] (fun n vs S=>∃ y tk:Nat,n=bv.length - y∧y≤bv.length∧vs=[za3 g rs,.ref 0 0 0,.ref Y.p3 Y.v3 0,zsd (zcx g nh nw),.int .i64 (zcx g nh nw).length,.int .i64 i,(if lv then .loc Y.pA Y.vA 0 nr else .loc Y.pL Y.vL 0 nr),eInts bv,eInts av,.int .i64 av.length,.int .i64 x,.int .i64 a,eInts bv,.int .i64 bv.length,.int .i64 y]∧S=⟨Y.f (.arr 0 49 2 [.nils,.nils]) (.arr Y.v3 49 2 [.loc Y.pL Y.vL 0 nr,.loc Y.pA Y.vA 0 nr]) [] (yak lv M (relB a (bv.take y) X)).1 (yak lv M (relB a (bv.take y) X)).2,tk⟩) bv.length ?_ ?_
   ·refine ⟨_,0,tk,rfl,by omega,?_,za4 ?_⟩
    ·simp [Env.put,Env.of]
    rfl
   rintro n vs S - ⟨y,tk,rfl,h_y,rfl,rfl⟩
   refine W.r fun K hK=>?_
   simp(disch:=omega)only[↓RU,RV,RH,↓reduceIte,qE,reduceCtorEq,if_pos,w64,↓RS,RG,qA,qM,qL,zaa]
   apply hK;clear hK K
   refine W.seq ?_
   refine W.cond rfl (fun h3=>?_) (fun h3=>?_)
   ·try simp only[RL]at h3
    obtain ⟨b,hb,hbm⟩:=zag (show y<bv.length by omega)
    have hbb:=hsr2 b hbm
    have hZ:Sq nr (relB a (bv.take y) X):=hX.relB (by omega)
    generalize hZe:relB a (bv.take y) X=Z at hZ
    obtain ⟨a,rfl⟩:∃ a2:Nat,a=a2:=⟨a.toNat,by omega⟩
    obtain ⟨b,rfl⟩:∃ b2:Nat,b=b2:=⟨b.toNat,by omega⟩
    obtain ⟨row,hrow,hrl,-⟩:=hZ.at_ (show a<nr by omega) (show b<nr by omega)
    have hZl:=hZ.1
    refine W.skip ?_
    refine xn ?_
    refine W.seq ?_
    refine W.block ?_
    refine W.r fun K hK=>?_
    simp(disch:=omega)only[↓RU,RV,RH,↓reduceIte,qE,reduceCtorEq,if_pos,↓RS,RG,qA,qM,qL,zab,zaa,hb]
    apply hK;clear hK K
    refine W.k fun K hK=>?_
    cases lv
    ·skip
     simp only[yak,qF,if_false]
     try rw [hZe]
     simp(disch:=omega)only[↓RU,RV,RH,↓reduceIte,qE,reduceCtorEq,if_pos,↓RS,RG,qA,qM,qL,ty0,ty2,zah,ze0,Y.getL hZl,Y.getLr hrow,zko,hrl,zb5,zf1,Y.setL hZl]
     apply hK;clear hK K
     refine XbN ?_
     refine xn ?_
     refine W.k fun K hK=>?_
     simp(disch:=omega)only[↓RU,RV,RH,↓reduceIte,qE,reduceCtorEq,if_pos,w64,↓RS,RG,qA,qM,qL,zaa]
     apply hK;clear hK K
     refine xn ?_
     refine ⟨bv.length - (y+1),by omega,_,y+1,tk,rfl,by omega,?_,za4 ?_⟩
     ·simp [Env.put,Env.of]
     rw [z7u hb,hZe,Int.toNat_natCast,Int.toNat_natCast,zhg hrow]; rfl
    skip
    simp only[yak,if_true]
    try rw [hZe]
    simp(disch:=omega)only[↓RU,RV,RH,↓reduceIte,qE,reduceCtorEq,if_pos,↓RS,RG,qA,qM,qL,ty0,ty2,zah,ze0,Y.getA hLl hZl,Y.getAr hLl hrow,zko,hrl,zb5,zf1,Y.setA hLl hZl]
    apply hK;clear hK K
    refine XbN ?_
    refine xn ?_
    refine W.k fun K hK=>?_
    simp(disch:=omega)only[↓RU,RV,RH,↓reduceIte,qE,reduceCtorEq,if_pos,w64,↓RS,RG,qA,qM,qL,zaa]
    apply hK;clear hK K
    refine xn ?_
    refine ⟨bv.length - (y+1),by omega,_,y+1,tk,rfl,by omega,?_,za4 ?_⟩
    ·simp [Env.put,Env.of]
    rw [z7u hb,hZe,Int.toNat_natCast,Int.toNat_natCast,zhg hrow]; rfl
   try simp only[RL]at h3
   obtain rfl:y=bv.length:=by omega
   rw [List.take_length]
   refine W.exit ?_
   refine xe ?_
   refine xe ?_
   refine XBlock.hit ?_
   refine XbN ?_
   refine xn ?_
   refine W.k fun K hK=>?_
   simp(disch:=omega)only[↓RU,RV,RH,↓reduceIte,qE,reduceCtorEq,if_pos,w64,↓RS,RG,qA,qM,qL,zaa]
   apply hK;clear hK K
   refine xn ?_
   refine ⟨av.length - (x+1),by omega,_,x+1,tk,rfl,by omega,?_,za4 ?_⟩
   ·simp [Env.put,Env.of]
   rw [ydp ha,hXe]
  try simp only[RL]at h2
  obtain rfl:x=av.length:=by omega
  refine W.exit ?_
  refine xe ?_
  refine xe ?_
  refine XBlock.hit ?_
  refine XbN ?_
  refine xn ?_
  refine W.k fun K hK=>?_
  simp(disch:=omega)only[↓RU,RV,RH,↓reduceIte,qE,reduceCtorEq,if_pos,w64,↓RS,RG,qA,qM,qL,zaa]
  apply hK;clear hK K
  refine xn ?_
  refine ⟨(zcx g nh nw).length - (i+1),by omega,_,i+1,tk,rfl,by omega,?_,za4 ?_⟩
  ·simp [Env.put,Env.of]
  rw [zer hw,hMe,z93,List.take_length,hasE,hbsE]
 try simp only[RL]at h
 obtain rfl:i=(zcx g nh nw).length:=by omega
 rw [List.take_length]
 have hLA:=zuf hrm (ws:=zcx g nh nw) zdz (M:=(zcg nr,zcg nr)) (zex nr) (zex nr)
 rw [show (zcx g nh nw).foldl (zmt g) (zcg nr,zcg nr)=z92 g nh nw nr from rfl]at hLA ⊢
 obtain ⟨hL,hA⟩:=hLA
 have hLl:=hL.1
 have hAl:=hA.1
 have hLc:=hL.close
 have hAc:=hA.close
 have hLcl:=hLc.1
 have hAcl:=hAc.1
 refine W.exit ?_
 refine xe ?_
 refine xe ?_
 refine XBlock.hit ?_
 refine xn ?_
 refine W.r fun K hK=>?_
 simp(disch:=omega)only[↓RU,RV,RH,↓reduceIte,qE,reduceCtorEq,if_pos,qN,↓RS,RG,qA,qM,qL,ty0,ty2,zah,zgx,ze0,zgy,Y.get3 hLl hAl]
 refine zad.ev (z5e Y hL hn) ?_
 rintro _ _ ⟨rfl,rfl⟩
 simp(disch:=omega)only[↓RU,RV,RH,↓reduceIte,qE,reduceCtorEq,if_pos,qN,↓RS,RG,qA,qM,qL,ty0,ty2,zah,zgx,ze0,zgy,Y.get3 hLl hAl]
 apply hK;clear hK K
 refine W.r fun K hK=>?_
 simp(disch:=omega)only[↓RU,RV,RH,↓reduceIte,qE,reduceCtorEq,if_pos,qN,↓RS,RG,qA,qM,qL,ty0,ty2,zah,zgx,ze0,zgy,Y.get3 hLcl hAl]
 refine zad.ev (z5d Y hLcl hA hn) ?_
 rintro _ _ ⟨rfl,rfl⟩
 simp(disch:=omega)only[↓RU,RV,RH,↓reduceIte,qE,reduceCtorEq,if_pos,qN,↓RS,RG,qA,qM,qL,ty0,ty2,zah,zgx,ze0,zgy,Y.get3 hLcl hAl]
 apply hK;clear hK K
 refine W.r fun K hK=>?_
 simp(disch:=omega)only[↓RU,RV,RH,↓reduceIte,qE,reduceCtorEq,if_pos,↓RS,RG,qA,qM,qL,ty0,ty2,zah,zgx,ze0,zgy,Y.get3 hLcl hAcl,Y.get0,Y.set0]
 apply hK;clear hK K
 refine W.ret ?_
 refine Br (v := .agg [.loc Y.pL Y.vL 0 nr,.loc Y.pA Y.vA 0 nr]) (by simp only[zut,zk3,show Tryz.f27.results.toList=[.cell 2 49] from rfl,zxw,Env.put,Env.of,qE,↓reduceIte,zqo,ycl,Y.get0]; rfl) ?_
 exact z34 (zxs (f:=6) hLc (Y.getL hLcl) fun a row h=>Y.getLr h) (zxs (f:=6) hAc (Y.getA hLcl hAcl) fun a row h=>Y.getAr hLcl h)
def hvF (M:List (List Bool)) (g:Nat→Int) (b i:Nat):Int:=(List.range i).foldl (fun m a=>if zc2 M a b then max m (g a) else m) 0
def hv (M:List (List Bool)) (ws:List Int) (n:Nat):Nat→Nat→Int
 | 0,_=>0
 | f+1,b=>hvF M (hv M ws n f) b n+zd2 ws b
theorem zov {M:List (List Bool)} {g:Nat→Int} {b i:Nat}:hvF M g b (i+1)=if zc2 M i b then max (hvF M g b i) (g i) else hvF M g b i:=by
 unfold hvF; rw [zct]
theorem zp3 {M:List (List Bool)} {g h:Nat→Int} {b:Nat}:∀ {i:Nat},(∀ a,a<i→zc2 M a b=true→g a=h a)→hvF M g b i=hvF M h b i
 | 0,_=>rfl
 | i+1,H=>by
  rw [zov,zov,zp3 (i:=i) fun a ha=>H a (by omega)]
  cases hb:zc2 M i b with
  | false=>rfl
  | true=>rw [H i (by omega) hb]
theorem ybi {M:List (List Bool)} {g:Nat→Int} {b:Nat}:∀ {i a:Nat},a<i→zc2 M a b=true→g a≤hvF M g b i
 | i+1,a,h,hb=>by
  rw [zov]
  by_cases e:a=i
  ·subst e; rw [hb]; simp only[if_true]; omega
  have:=ybi (M:=M) (g:=g) (i:=i) (a:=a) (by omega) hb
  split <;> omega
structure Up (M:List (List Bool)) (n:Nat) (rk:Nat→Nat):Prop where
 sq:Sq n M
 up:∀ a b,a<n→b<n→zc2 M a b=true→rk a<rk b
 le:∀ b,rk b≤100
theorem ye3 {M:List (List Bool)} {ws:List Int} {n:Nat} {rk:Nat→Nat} (hu:Up M n rk):∀ (f f' b:Nat),b<n→rk b<f→rk b<f'→hv M ws n f b=hv M ws n f' b
 | 0,_,_,_,h,_=>by omega
 | _+1,0,_,_,_,h=>by omega
 | f+1,f'+1,b,hb,h1,h2=>by
  show hvF M (hv M ws n f) b n+zd2 ws b=hvF M (hv M ws n f') b n+zd2 ws b
  congr 1
  apply zp3
  intro a ha hab
  have h3:=hu.up a b ha hb hab
  exact ye3 hu f f' a ha (by omega) (by omega)
def HB (M:List (List Bool)) (ws:List Int) (n b:Nat):Int:=hv M ws n 101 b
theorem yf9 {M:List (List Bool)} {ws:List Int} {n:Nat} {rk:Nat→Nat} (hu:Up M n rk) {b:Nat} (hb:b<n):HB M ws n b=hvF M (HB M ws n) b n+zd2 ws b:=by
 have e:HB M ws n b=hvF M (hv M ws n 100) b n+zd2 ws b:=rfl
 rw [e,zp3 (h:=HB M ws n)]
 intro a ha hab
 have h3:=hu.up a b ha hb hab
 have h4:=hu.le b
 exact ye3 hu 100 101 a ha (by omega) (by omega)
def Memo (M:List (List Bool)) (ws:List Int) (n:Nat) (out:List Int):Prop:=out.length=n∧∀ (b:Nat) x,out[b]?=some x→x=0∨x=HB M ws n b
def Keep (out out':List Int):Prop:=∀ (b:Nat) x,out[b]?=some x→x≠0→out'[b]?=some x
theorem Keep.refl (out:List Int):Keep out out:=fun _ _ h _=>h
theorem Keep.trans {a b c:List Int} (h:Keep a b) (k:Keep b c):Keep a c:=fun i x h1 h2=>k i x (h i x h1 h2) h2
theorem Memo.at_ {M:List (List Bool)} {ws out:List Int} {n:Nat} (h:Memo M ws n out) {b:Nat} (hb:b<n):∃ x,out[b]?=some x∧(x=0∨x=HB M ws n b):=by
 obtain ⟨x,hx,-⟩:=zag (show b<out.length by rw [h.1]; exact hb)
 exact ⟨x,hx,h.2 b x hx⟩
theorem Memo.set {M:List (List Bool)} {ws out:List Int} {n:Nat} (h:Memo M ws n out) {b:Nat}:Memo M ws n (out.set b (HB M ws n b)):=by
 refine ⟨by simpa using h.1,fun c x hx=>?_⟩
 rw [List.getElem?_set]at hx
 split at hx
 ·rename_i e; subst e
  split at hx
  ·cases hx; exact .inr rfl
  cases hx
 exact h.2 c x hx
theorem Memo.keep {M:List (List Bool)} {ws out:List Int} {n:Nat} (h:Memo M ws n out) {b:Nat}:Keep out (out.set b (HB M ws n b)):=by
 intro c x hx h0
 rw [List.getElem?_set]
 split
 ·rename_i e; subst e
  have:=(h.2 b x hx).resolve_left h0
  rw [if_pos (zb0 hx),this]
 exact hx
def heaviest (M:List (List Bool)) (ws:List Int) (n:Nat):List Int:=(List.range n).map (HB M ws n)
def Ord (c:List Int) (i:Nat):Prop:=∀ p q x y,p<q→q<i→c[p]?=some x→c[q]?=some y→x≤y
def z80 (c:List Int) (j i:Nat):Prop:=∀ p q x y,p<q→q≤i→q≠j→c[p]?=some x→c[q]?=some y→x≤y
theorem Ord.one (c:List Int):Ord c 1:=by intro p q x y h1 h2; omega
theorem Ord.ins {c:List Int} {i:Nat} (h:Ord c i):z80 c i i:=by
 intro p q x y h1 h2 h3 hx hy
 exact h p q x y h1 (by omega) hx hy
theorem z80.zero {c:List Int} {i:Nat} (h:z80 c 0 i):Ord c (i+1):=by
 intro p q x y h1 h2 hx hy
 exact h p q x y h1 (by omega) (by omega) hx hy
theorem z80.stop {c:List Int} {i j:Nat} {a b:Int} (h:z80 c j i) (ha:c[j]?=some a) (hb:c[j - 1]?=some b) (hle:¬ a<b):Ord c (i+1):=by
 intro p q x y h1 h2 hx hy
 by_cases e:q=j
 ·subst e
  rw [ha]at hy; cases hy
  by_cases e2:p=q - 1
  ·subst e2; rw [hb]at hx; cases hx; omega
  have:=h p (q - 1) x b (by omega) (by omega) (by omega) hx hb; omega
 exact h p q x y h1 (by omega) e hx hy
theorem z80.swap {c:List Int} {i j:Nat} {a b:Int} (h:z80 c j i) (hj:j≠0) (hji:j≤i) (ha:c[j]?=some a) (hb:c[j - 1]?=some b) (hlt:a<b):z80 ((c.set j b).set (j - 1) a) (j - 1) i:=by
 have hl:=zb0 ha
 have g:∀ k,((c.set j b).set (j - 1) a)[k]?=if k=j - 1 then some a else if k=j then some b else c[k]?:=by
  intro k
  rw [List.getElem?_set]
  by_cases e:j - 1=k
  ·rw [if_pos e,if_pos e.symm,if_pos (by simp; omega)]
  rw [if_neg e,if_neg (Ne.symm e),List.getElem?_set]
  by_cases e2:j=k
  ·rw [if_pos e2,if_pos e2.symm,if_pos (by omega)]
  rw [if_neg e2,if_neg (Ne.symm e2)]
 intro p q x y h1 h2 h3 hx hy
 rw [g]at hx hy
 rw [if_neg h3]at hy
 by_cases e:q=j
 ·rw [if_pos e]at hy; cases hy
  by_cases e2:p=j - 1
  ·rw [if_pos e2]at hx; cases hx; omega
  rw [if_neg e2,if_neg (by omega)]at hx
  exact h p (j - 1) x b (by omega) (by omega) (by omega) hx hb
 rw [if_neg e]at hy
 by_cases e2:p=j - 1
 ·rw [if_pos e2]at hx; cases hx
  exact h j q a y (by omega) h2 e ha hy
 rw [if_neg e2]at hx
 by_cases e3:p=j
 ·rw [if_pos e3]at hx; cases hx
  exact h (j - 1) q b y (by omega) h2 e hb hy
 rw [if_neg e3]at hx
 exact h p q x y h1 h2 e hx hy
theorem zyd {c l:List Int} {j:Nat} {a b:Int} (h:c.Perm l) (ha:c[j]?=some a) (hb:c[j - 1]?=some b):((c.set j b).set (j - 1) a).Perm l:=by
 obtain ⟨h1,e1⟩:=List.getElem?_eq_some_iff.mp ha
 obtain ⟨h2,e2⟩:=List.getElem?_eq_some_iff.mp hb
 have := @List.set_set_perm _ c _ _ h1 h2
 rw [e1,e2]at this
 exact this.trans h
theorem Ord.pair {c:List Int} (h:Ord c c.length):c.Pairwise (· ≤ ·):=by
 rw [List.pairwise_iff_getElem]
 intro i j hi hj hij
 exact h i j _ _ hij hj (List.getElem?_eq_getElem hi) (List.getElem?_eq_getElem hj)
theorem z9u {x:Int}:PC Tryz.prog 153 [.int .i64 x] (.bool false) true:=by
 refine PC.of ⟨Tryz.func153,by kernel_rfl,rfl,by kernel_rfl⟩ zap mixed (by show 1≤Tryz.f153.ntmps; decide) ?_
 refine W.r fun K hK=>?_
 simp(disch:=omega)only[↓RU,RV,RH,↓reduceIte,qE,reduceCtorEq,if_pos]
 apply hK;clear hK K
 refine W.r fun K hK=>?_
 simp(disch:=omega)only[↓RU,RV,RH,↓reduceIte,qE,reduceCtorEq,if_pos,w64,zaa]
 apply hK;clear hK K
 refine W.ret ?_
 refine Br rfl ?_
 rw [show (x != x)=false by simp]
 rfl
theorem ydf {x y:Int}:PC Tryz.prog 135 [.int .i64 x,.int .i64 y] (.bool (decide (x<y))) true:=by
 refine PC.of ⟨Tryz.func135,by kernel_rfl,rfl,by kernel_rfl⟩ zap mixed (by show 2≤Tryz.f135.ntmps; decide) ?_
 refine W.r fun K hK=>?_
 simp(disch:=omega)only[↓RU,RV,RH,↓reduceIte,qE,reduceCtorEq,if_pos]
 apply hK;clear hK K
 refine W.r fun K hK=>?_
 simp(disch:=omega)only[↓RU,RV,RH,↓reduceIte,qE,reduceCtorEq,if_pos,qN,w64,zaa]
 refine zad.pc (z9u) rfl (.inl rfl) ?_
 simp(disch:=omega)only[↓RU,RV,RH,↓reduceIte,qE,reduceCtorEq,if_pos,qN,w64,zaa]
 apply hK;clear hK K
 refine W.ret ?_
 refine Br rfl ?_
 rfl
theorem z59 {F R:List Ob} {ver t:Nat} {l:List Int} (hl:l.length<2147483648) (h1:1≤l.length):Ev Tryz.prog 129 [.loc F.length ver 0 l.length,.int .i64 0,.int .i64 l.length] ⟨F ++ .arr ver 3 1 (l.map (.int .i64))::R,t⟩ fun v S=>v = .tup []∧∃ z:List Int,z.Perm l∧z.Pairwise (· ≤ ·)∧S=⟨F ++ .arr ver 3 1 (z.map (.int .i64))::R,t⟩:=by
 refine Ev.of ⟨Tryz.func129,by kernel_rfl,rfl,by kernel_rfl⟩ zap mixed (by show 3≤Tryz.f129.ntmps; decide) ?_
 refine W.r fun K hK=>?_
 simp(disch:=omega)only[↓RU,RV,RH,↓reduceIte,qE,reduceCtorEq,if_pos,w64,↓RS,RG,qA,qM,qL,zaa,gF,zd1]
 apply hK;clear hK K
 refine W.block ?_
 refine W.loop [0,1,2,6] (fun n vs S=>∃ (i:Nat) (c:List Int),n=l.length - i∧1≤i∧i≤l.length∧c.Perm l∧Ord c i∧vs=[.loc F.length ver 0 l.length,.int .i64 0,.int .i64 l.length,.int .i64 i]∧S=⟨F ++ .arr ver 3 1 (c.map (.int .i64))::R,t⟩) (l.length - 1) ?_ ?_
 ·refine ⟨_,1,l,rfl,qR _,h1,List.Perm.refl _,Ord.one l,?_,zak⟩
  simp [Env.put,Env.of,zaf]
 rintro n vs S - ⟨i,c,rfl,hi1,h_i,hp,ho,rfl,rfl⟩
 refine W.seq ?_
 refine W.r fun K hK=>?_
 simp(disch:=omega)only[↓RU,RV,RH,↓reduceIte,qE,reduceCtorEq,if_pos,w64,↓RS,RG,qA,qM,qL,zaa,gF,zd1]
 apply hK;clear hK K
 refine W.cond rfl (fun h=>?_) (fun h=>?_)
 ·try simp only[RL]at h
  refine W.skip ?_
  refine xn ?_
  refine W.seq ?_
  refine W.block ?_
  refine W.r fun K hK=>?_
  simp(disch:=omega)only[↓RU,RV,RH,↓reduceIte,qE,reduceCtorEq,if_pos,↓RS,RG,qA,qM,qL,gF,zd1]
  apply hK;clear hK K
  refine W.block ?_
  refine W.loop [0,1,2,6,7] (fun n vs S=>∃ (j:Nat) (d:List Int),n=j+1∧j≤i∧d.Perm l∧z80 d j i∧vs=[.loc F.length ver 0 l.length,.int .i64 0,.int .i64 l.length,.int .i64 i,.int .i64 j]∧S=⟨F ++ .arr ver 3 1 (d.map (.int .i64))::R,t⟩) (i+1) ?_ ?_
  ·refine ⟨_,i,c,rfl,qR _,hp,ho.ins,?_,zak⟩
   simp [Env.put,Env.of]
  rintro n vs S - ⟨j,d,rfl,h_j,hq,hO,rfl,rfl⟩
  refine W.seq ?_
  refine W.seq_draw (by kernel_rfl) fun K hK=>?_
  cases hd:decide ((j:Int)>0)
  ·skip
   obtain rfl:j=0:=by simpa using hd
   simp(disch:=omega)only[↓RU,RV,RH,↓reduceIte,qE,reduceCtorEq,if_pos,w64,qN,↓RS,RG,qA,qM,qL,zab,zaa,gF,zd1,hd]
   apply hK;clear hK K
   refine W.cond rfl (fun h2=>?_) (fun h2=>?_)
   ·try simp only[RL]at h2
    exact absurd h2 (by simp)
   try simp only[RL]at h2
   have hO2:Ord d (i+1):=hO.zero
   refine W.exit ?_
   refine xe ?_
   refine xe ?_
   refine XBlock.hit ?_
   refine XbN ?_
   refine xn ?_
   refine W.k fun K hK=>?_
   simp(disch:=omega)only[↓RU,RV,RH,↓reduceIte,qE,reduceCtorEq,if_pos,w64,↓RS,RG,qA,qM,qL,zaa,gF,zd1]
   apply hK;clear hK K
   refine xn ?_
   refine ⟨l.length - (i+1),by omega,_,i+1,d,rfl,by omega,by omega,hq,hO2,?_,zak⟩
   simp [Env.put,Env.of]
  ·skip
   have hj0:j≠0:=by have:=of_decide_eq_true hd; omega
   have hdl:=hq.length_eq
   obtain ⟨x,hx,-⟩:=zag (show j<d.length by omega)
   obtain ⟨y,hy,-⟩:=zag (show j - 1<d.length by omega)
   simp(disch:=omega)only[↓RU,RV,RH,↓reduceIte,qE,reduceCtorEq,if_pos,w64,qN,↓RS,RG,qA,qM,qL,zab,zaa,gF,zd1,hd,hx,hy,zbl]
   refine zad.pc (ydf (x:=x) (y:=y)) rfl (.inl rfl) ?_
   simp(disch:=omega)only[↓RU,RV,RH,↓reduceIte,qE,reduceCtorEq,if_pos,w64,qN,↓RS,RG,qA,qM,qL,zab,zaa,gF,zd1,hd,hx,hy,zbl]
   apply hK;clear hK K
   refine W.cond rfl (fun h2=>?_) (fun h2=>?_)
   ·try simp only[RL]at h2
    have hjl:=zb0 hx
    have hsl:(d.set j y).length=d.length:=by simp
    refine W.skip ?_
    refine xn ?_
    refine W.seq ?_
    refine W.block ?_
    refine W.draw_k (by kernel_rfl) fun K hK=>?_
    simp(disch:=omega)only[↓RU,RV,RH,↓reduceIte,qE,reduceCtorEq,if_pos,w64,↓RS,RG,qA,qM,qL,zab,zaa,gF,zd1,hx,hy,zbl,zb5,zd6,List.length_set]
    apply hK;clear hK K
    refine XbN ?_
    refine xn ?_
    refine W.k fun K hK=>?_
    simp(disch:=omega)only[↓RU,RV,RH,↓reduceIte,qE,reduceCtorEq,if_pos,w64,↓RS,RG,qA,qM,qL,zaa,gF,zd1]
    apply hK;clear hK K
    refine xn ?_
    refine ⟨j - 1+1,by omega,_,j - 1,(d.set j y).set (j - 1) x,rfl,by omega,zyd hq hx hy,hO.swap hj0 h_j hx hy h2,?_,zak⟩
    simp [Env.put,Env.of]; omega
   try simp only[RL]at h2
   have hO2:Ord d (i+1):=hO.stop hx hy h2
   refine W.exit ?_
   refine xe ?_
   refine xe ?_
   refine XBlock.hit ?_
   refine XbN ?_
   refine xn ?_
   refine W.k fun K hK=>?_
   simp(disch:=omega)only[↓RU,RV,RH,↓reduceIte,qE,reduceCtorEq,if_pos,w64,↓RS,RG,qA,qM,qL,zaa,gF,zd1]
   apply hK;clear hK K
   refine xn ?_
   refine ⟨l.length - (i+1),by omega,_,i+1,d,rfl,by omega,by omega,hq,hO2,?_,zak⟩
   simp [Env.put,Env.of]
 try simp only[RL]at h
 obtain rfl:l.length=i:=by omega
 refine W.exit ?_
 refine xe ?_
 refine xe ?_
 refine XBlock.hit ?_
 refine zfe.norm rfl ?_
 exact ⟨_,rfl,c,hp,by rw [← hp.length_eq]at ho; exact ho.pair,zak⟩
theorem z9v  : PC Tryz.prog 128 [.int .u64 4] (.int .i64 3) true:=by
 refine PC.of ⟨Tryz.func128,by kernel_rfl,rfl,by kernel_rfl⟩ zap mixed (by show 1≤Tryz.f128.ntmps; decide) ?_
 refine W.r fun K hK=>?_
 simp(disch:=omega)only[↓RU,RV,RH,↓reduceIte,qE,reduceCtorEq,if_pos]
 apply hK;clear hK K
 refine W.seq ?_
 refine W.r fun K hK=>?_
 simp(disch:=omega)only[↓RU,RV,RH,↓reduceIte,qE,reduceCtorEq,if_pos,w64,zif]
 apply hK;clear hK K
 refine W.cond rfl (fun h=>?_) (fun h=>?_)
 ·try simp only[RL]at h
  exact absurd h (by decide)
 try simp only[RL]at h
 refine W.skip ?_
 refine xn ?_
 refine W.seq ?_
 refine W.r fun K hK=>?_
 simp(disch:=omega)only[↓RU,RV,RH,↓reduceIte,qE,reduceCtorEq,if_pos,w64,zif]
 apply hK;clear hK K
 refine W.cond rfl (fun h1=>?_) (fun h1=>?_)
 ·try simp only[RL]at h1
  exact absurd h1 (by decide)
 try simp only[RL]at h1
 refine W.skip ?_
 refine xn ?_
 refine W.seq ?_
 refine W.r fun K hK=>?_
 simp(disch:=omega)only[↓RU,RV,RH,↓reduceIte,qE,reduceCtorEq,if_pos,w64,zif]
 apply hK;clear hK K
 refine W.cond rfl (fun h2=>?_) (fun h2=>?_)
 ·try simp only[RL]at h2
  exact absurd h2 (by decide)
 try simp only[RL]at h2
 refine W.skip ?_
 refine xn ?_
 refine W.r fun K hK=>?_
 simp(disch:=omega)only[↓RU,RV,RH,↓reduceIte,qE,reduceCtorEq,if_pos,w64,w64,zaa,zac,zif,zen]
 apply hK;clear hK K
 refine W.ret ?_
 refine Br rfl ?_
 rfl
theorem yfc  : PC Tryz.prog 109 [.int .u64 4] (.int .i64 3) true:=by
 refine PC.of ⟨Tryz.func109,by kernel_rfl,rfl,by kernel_rfl⟩ zap mixed (by show 1≤Tryz.f109.ntmps; decide) ?_
 refine W.r fun K hK=>?_
 simp(disch:=omega)only[↓RU,RV,RH,↓reduceIte,qE,reduceCtorEq,if_pos]
 apply hK;clear hK K
 refine W.seq ?_
 refine W.cond rfl (fun h=>?_) (fun h=>?_)
 ·try simp only[RL]at h
  exact absurd h (by decide)
 try simp only[RL]at h
 refine W.skip ?_
 refine xn ?_
 refine W.r fun K hK=>?_
 simp(disch:=omega)only[↓RU,RV,RH,↓reduceIte,qE,reduceCtorEq,if_pos,qN]
 refine zad.pc (z9v) rfl (.inl rfl) ?_
 simp(disch:=omega)only[↓RU,RV,RH,↓reduceIte,qE,reduceCtorEq,if_pos,qN]
 apply hK;clear hK K
 refine W.ret ?_
 refine Br rfl ?_
 rfl
theorem yfj {F R:List Ob} {ver t:Nat} {l:List Int} (hl:l.length≤12) (h1:1≤l.length) (lim:Int):Ev Tryz.prog 110 [.loc F.length ver 0 l.length,.int .i64 0,.int .i64 l.length,.int .i64 lim] ⟨F ++ .arr ver 3 1 (l.map (.int .i64))::R,t⟩ fun v S=>v = .tup []∧∃ z:List Int,z.Perm l∧z.Pairwise (· ≤ ·)∧S=⟨F ++ .arr ver 3 1 (z.map (.int .i64))::R,t⟩:=by
 refine Ev.of ⟨Tryz.func110,by kernel_rfl,rfl,by kernel_rfl⟩ zap mixed (by show 4≤Tryz.f110.ntmps; decide) ?_
 refine W.r fun K hK=>?_
 simp(disch:=omega)only[↓RU,RV,RH,↓reduceIte,qE,reduceCtorEq,if_pos,↓RS,RG,qA,qM,qL,gF,zd1]
 apply hK;clear hK K
 refine W.r fun K hK=>?_
 simp(disch:=omega)only[↓RU,RV,RH,↓reduceIte,qE,reduceCtorEq,if_pos,↓RS,RG,qA,qM,qL,gF,zd1]
 apply hK;clear hK K
 refine W.block ?_
 refine W.loop [0,1,2] (fun n vs S=>vs=[.loc F.length ver 0 l.length,.int .i64 0,.int .i64 l.length]∧S=⟨F ++ .arr ver 3 1 (l.map (.int .i64))::R,t⟩) 0 ?_ ?_
 ·refine ⟨_,?_,zak⟩
  simp [Env.put,Env.of,zaf]
 rintro n vs S - ⟨rfl,rfl⟩
 refine W.block ?_
 refine W.r fun K hK=>?_
 simp(disch:=omega)only[↓RU,RV,RH,↓reduceIte,qE,reduceCtorEq,if_pos,w64,↓RS,RG,qA,qM,qL,zaa,gF,zd1]
 apply hK;clear hK K
 refine W.seq ?_
 refine W.r fun K hK=>?_
 simp(disch:=omega)only[↓RU,RV,RH,↓reduceIte,qE,reduceCtorEq,if_pos,w64,↓RS,RG,qA,qM,qL,zaa,gF,zd1]
 apply hK;clear hK K
 refine W.cond rfl (fun h=>?_) (fun h=>?_)
 ·try simp only[RL]at h
  refine W.r fun K hK=>?_
  simp(disch:=omega)only[↓RU,RV,RH,↓reduceIte,qE,reduceCtorEq,if_pos,qN,↓RS,RG,qA,qM,qL,gF,zd1]
  refine zad.ev (z59 (by omega) h1) ?_
  rintro _ _ ⟨rfl,z,hz1,hz2,rfl⟩
  simp(disch:=omega)only[↓RU,RV,RH,↓reduceIte,qE,reduceCtorEq,if_pos,qN,↓RS,RG,qA,qM,qL,gF,zd1]
  apply hK;clear hK K
  refine W.ret ?_
  refine XThen.ret ?_
  refine XBlock.ret ?_
  refine XThen.ret ?_
  refine XBlock.ret ?_
  refine Br rfl ?_
  exact ⟨_,rfl,z,hz1,hz2,zak⟩
 try simp only[RL]at h
 exact absurd (show (l.length:Int)≤12 by omega) h
theorem yd0 {F R:List Ob} {ver t:Nat} {l:List Int} (hl:l.length=4):Ev Tryz.prog 90 [.loc F.length ver 0 l.length] ⟨F ++ .arr ver 3 1 (l.map (.int .i64))::R,t⟩ fun v S=>v = .tup []∧∃ z:List Int,z.Perm l∧z.Pairwise (· ≤ ·)∧S=⟨F ++ .arr ver 3 1 (z.map (.int .i64))::R,t⟩:=by
 have hw4:IntKind.u64.wrap ((l.length:Nat):Int)=4:=by rw [hl]; rfl
 refine Ev.of ⟨Tryz.func90,by kernel_rfl,rfl,by kernel_rfl⟩ zap mixed (by show 1≤Tryz.f90.ntmps; decide) ?_
 refine W.r fun K hK=>?_
 simp(disch:=omega)only[↓RU,RV,RH,↓reduceIte,qE,reduceCtorEq,if_pos,↓RS,RG,qA,qM,qL,zab,zaa,gF,zd1]
 apply hK;clear hK K
 refine W.k fun K hK=>?_
 simp(disch:=omega)only[↓RU,RV,RH,↓reduceIte,qE,reduceCtorEq,if_pos,w64,qN,↓RS,RG,qA,qM,qL,zaa,zdk,gF,zd1,hw4]
 refine zad.pc (yfc) rfl (.inl rfl) ?_
 simp(disch:=omega)only[↓RU,RV,RH,↓reduceIte,qE,reduceCtorEq,if_pos,w64,qN,↓RS,RG,qA,qM,qL,zaa,zdk,gF,zd1,hw4]
 refine zad.ev (yfj (by omega) (by omega) 3) ?_
 rintro _ _ ⟨rfl,z,hz1,hz2,rfl⟩
 simp(disch:=omega)only[↓RU,RV,RH,↓reduceIte,qE,reduceCtorEq,if_pos,w64,qN,↓RS,RG,qA,qM,qL,zaa,zdk,gF,zd1,hw4]
 apply hK;clear hK K
 refine zfe.norm rfl ?_
 exact ⟨_,rfl,z,hz1,hz2,zak⟩
def dn:List Int→Nat
 | []=>0
 | a::l=>(if a∈l then 0 else 1)+dn l
theorem ycq:∀ {m l:List Int},l.Nodup→(∀ x,x∈l↔x∈m)→l.length=dn m
 | [],l,_,h=>by
  cases l with
  | nil=>rfl
  | cons a l=>exact absurd ((h a).1 (by simp)) (by simp)
 | a::m,l,hn,h=>by
  unfold dn
  by_cases ha:a∈m
  ·rw [if_pos ha,ycq (m:=m) hn fun x=>?_]; · omega
   rw [h x,List.mem_cons]
   constructor
   ·rintro (rfl | h)
    ·exact ha
    exact h
   exact .inr
  have hal:a∈l:=(h a).2 (by simp)
  have hl:=List.length_erase_of_mem hal
  have h0:=List.length_pos_of_mem hal
  rw [if_neg ha,← ycq (m:=m) (l:=l.erase a) (hn.erase a) fun x=>?_]
  ·omega
  rw [hn.mem_erase_iff,h x,List.mem_cons]
  constructor
  ·rintro ⟨h1,h2 | h2⟩
   ·exact absurd h2 h1
   exact h2
  intro hx
  exact ⟨fun e=>ha (e ▸ hx),.inr hx⟩
theorem z1g {l:List Int} {x y:Int}:y∈zi5 l x↔y∈l∨y=x:=by
 unfold zi5
 split
 ·rename_i h
  constructor
  ·exact .inl
  rintro (h' | rfl)
  ·exact h'
  exact List.mem_of_getLast? h
 simp
theorem zr4 {z:List Int} (hz:z.Pairwise (· ≤ ·)):∀ p,p≤z.length→(ddp (z.take p)).Pairwise (· < ·)∧∀ x,x∈ddp (z.take p)↔x∈z.take p
 | 0,_=>by simp [ddp]
 | p+1,hp=>by
  obtain ⟨x,hx,-⟩:=zag (show p<z.length by omega)
  obtain ⟨h1,h2⟩:=zr4 hz p (by omega)
  have hle:∀ a∈z.take p,a≤x:=by
   intro a ha
   obtain ⟨j,hj,rfl⟩:=List.mem_take_iff_getElem.1 ha
   obtain ⟨hp',rfl⟩:=List.getElem?_eq_some_iff.1 hx
   exact (List.pairwise_iff_getElem.1 hz) j p (by omega) hp' (by omega)
  rw [zor hx]
  constructor
  ·unfold zi5
   split
   ·exact h1
   rename_i hl
   rw [List.pairwise_append]
   refine ⟨h1,by simp,?_⟩
   intro a ha b hb
   rw [List.mem_singleton]at hb
   subst hb
   have ha':=(h2 a).1 ha
   by_cases hp0:p=0
   ·subst hp0; simp at ha'
   obtain ⟨y,hy,-⟩:=zag (show p - 1<z.length by omega)
   have hlast:=zty hy
   rw [show p - 1+1=p by omega]at hlast
   have hyb:y≠b:=fun e=>hl (e ▸ hlast)
   have hyl:y≤b:=hle y ((h2 y).1 (List.mem_of_getLast? hlast))
   have:a≤y:=by
    obtain ⟨j,hj,rfl⟩:=List.mem_take_iff_getElem.1 ha'
    obtain ⟨hp',rfl⟩:=List.getElem?_eq_some_iff.1 hy
    by_cases e:j=p - 1
    ·subst e; exact Int.le_refl _
    exact (List.pairwise_iff_getElem.1 hz) j (p - 1) (by omega) hp' (by omega)
   omega
  intro y
  rw [z1g,h2 y,tk hx]
  simp
theorem ye1 {l z:List Int} (hp:z.Perm l) (hz:z.Pairwise (· ≤ ·)):(ddp z).length=dn l:=by
 have h:=zr4 hz z.length (qR _)
 rw [List.take_length]at h
 refine ycq (h.1.imp fun h=>Int.ne_of_lt h) fun x=>?_
 rw [h.2 x]
 exact hp.mem_iff
def four (g:List (List Int)) (i k:Nat):List Int:=[gz g (i - 1) (k - 1),gz g (i - 1) k,gz g i (k - 1),gz g i k]
def zee (g:List (List Int)) (many:Int) (i:Nat):Nat→Int
 | 0=>0
 | k+1=>zee g many i k+if 1≤k∧((dn (four g i k):Nat):Int)=many then 1 else 0
def zxk (g:List (List Int)) (many:Int) (w:Nat):Nat→Int
 | 0=>0
 | i+1=>zxk g many w i+if 1≤i then zee g many i w else 0
theorem zir (g:List (List Int)) (many:Int) (i:Nat):∀ k,0≤zee g many i k∧zee g many i k≤k
 | 0=>by simp [zee]
 | k+1=>by have:=zir g many i k; unfold zee; split <;> omega
theorem zs3 (g:List (List Int)) (many:Int) {w:Nat} (hw:w≤6):∀ i,0≤zxk g many w i∧zxk g many w i≤6*i
 | 0=>by simp [zxk]
 | i+1=>by have:=zs3 g many hw i; have:=zir g many i w; unfold zxk; split <;> omega
theorem yaa {g:List (List Int)} {many:Int} {w:Nat}:zxk g many w 1=0:=by simp [zxk]
theorem zzl {g:List (List Int)} {many:Int} {i:Nat}:zee g many i 1=0:=by simp [zee]
theorem z7j {g:List (List Int)} {many:Int} {w i:Nat} (h:1≤i):zxk g many w (i+1)=zxk g many w i+zee g many i w:=by simp [zxk,h]
theorem zzk {g:List (List Int)} {many:Int} {i k:Nat} (h:1≤k) (e:((dn (four g i k):Nat):Int)=many):zee g many i (k+1)=zee g many i k+1:=by simp [zee,h,e]
theorem zxl {g:List (List Int)} {many:Int} {i k:Nat} (e:¬ ((dn (four g i k):Nat):Int)=many):zee g many i (k+1)=zee g many i k:=by simp [zee,e]
theorem zyx {v t:Nat} {z:List Int} (hz:z.length=4):Ev Tryz.prog 82 [.loc 0 v 0 4] ⟨[.arr v 3 1 (z.map (.int .i64))],t⟩ fun r S=>∃ y:List Int,r = .loc 0 v 0 (ddp z).length∧S=⟨[.arr v 3 1 ((ddp z++y).map (.int .i64))],t⟩:=by
 have h:=zmy (F:=[]) (R:=[]) (ver:=v) (t:=t) (l:=z) (by omega)
 rw [hz]at h
 exact h
theorem z7h {g:List (List Int)} {nh nw:Nat} (hg:GW g nh nw) (rs:List Rect) (many:Int):PC Tryz.prog 64 [za3 g rs,.int .i64 many] (.int .i64 (zxk g many nw nh)) true:=by
 have hl:=hg.1
 obtain ⟨hg1,hg2,hg3,hg4⟩:=hg.2.2
 obtain ⟨row0,hrow0,hrl0,-⟩:=hg.at_ (i:=0) (j:=0) (by omega) (by omega)
 refine PC.of ⟨Tryz.func64,by kernel_rfl,rfl,by kernel_rfl⟩ zap mixed (by show 2≤Tryz.f64.ntmps; decide) ?_
 refine W.r fun K hK=>?_
 simp(disch:=omega)only[↓RU,RV,RH,↓reduceIte,qE,reduceCtorEq,if_pos,↓RS,RG,qA,qM,qL]
 apply hK;clear hK K
 refine W.r fun K hK=>?_
 simp(disch:=omega)only[↓RU,RV,RH,↓reduceIte,qE,reduceCtorEq,if_pos,↓RS,RG,qA,qM,qL]
 apply hK;clear hK K
 refine W.seq ?_
 refine W.r fun K hK=>?_
 simp(disch:=omega)only[↓RU,RV,RH,↓reduceIte,qE,reduceCtorEq,if_pos,↓RS,RG,qA,qM,qL]
 apply hK;clear hK K
 refine W.block ?_
 refine W.loop [0,1,5,6] (fun n vs S=>∃ i t:Nat,n=nh - i∧i≤nh∧(1≤i)∧vs=[za3 g rs,.int .i64 many,.int .i64 (zxk g many nw i),.int .i64 (i:Nat)]∧S=⟨[],t⟩) (nh - 1) ?_ ?_
 ·refine ⟨0,1,_,rfl,by omega,qR _,?_,rfl⟩
  simp [Env.put,Env.of,zaf,yaa]
 rintro n vs S - ⟨i,t,rfl,h_i,h1i,rfl,rfl⟩
 refine W.seq ?_
 refine W.r fun K hK=>?_
 simp(disch:=omega)only[↓RU,RV,RH,↓reduceIte,qE,reduceCtorEq,if_pos,qN,w64,↓RS,RG,qA,qM,qL,zaa,hl]
 refine zad.pc (zp2 g rs) rfl (.inl rfl) ?_
 simp(disch:=omega)only[↓RU,RV,RH,↓reduceIte,qE,reduceCtorEq,if_pos,qN,w64,↓RS,RG,qA,qM,qL,zaa,hl]
 apply hK;clear hK K
 refine W.cond rfl (fun h=>?_) (fun h=>?_)
 ·try simp only[RL]at h
  have hpb:=zs3 g many hg4 i
  refine W.skip ?_
  refine xn ?_
  refine W.seq ?_
  refine W.block ?_
  refine W.r fun K hK=>?_
  simp(disch:=omega)only[↓RU,RV,RH,↓reduceIte,qE,reduceCtorEq,if_pos,↓RS,RG,qA,qM,qL]
  apply hK;clear hK K
  refine W.block ?_
  refine W.loop [0,1,5,6,7] (fun n vs S=>∃ k t:Nat,n=nw - k∧k≤nw∧(1≤k)∧vs=[za3 g rs,.int .i64 many,.int .i64 (zxk g many nw i+zee g many i k),.int .i64 (i:Nat),.int .i64 (k:Nat)]∧S=⟨[],t⟩) (nw - 1) ?_ ?_
  ·refine ⟨0,1,_,rfl,by omega,qR _,?_,rfl⟩
   simp [Env.put,Env.of,zzl]
  rintro n vs S - ⟨k,t,rfl,h_k,h1k,rfl,rfl⟩
  refine W.seq ?_
  refine W.r fun K hK=>?_
  simp(disch:=omega)only[↓RU,RV,RH,↓reduceIte,qE,reduceCtorEq,if_pos,qN,w64,↓RS,RG,qA,qM,qL,zaa,hrl0]
  refine zad.pc (zvc hrow0 rs) rfl (.inl rfl) ?_
  simp(disch:=omega)only[↓RU,RV,RH,↓reduceIte,qE,reduceCtorEq,if_pos,qN,w64,↓RS,RG,qA,qM,qL,zaa,hrl0]
  apply hK;clear hK K
  refine W.cond rfl (fun h1=>?_) (fun h1=>?_)
  ·try simp only[RL]at h1
   have hrb:=zir g many i k
   obtain ⟨r1,hr1,hl1,hx1⟩:=hg.at_ (i:=i - 1) (j:=k - 1) (by omega) (by omega)
   obtain ⟨r1b,hr1b,-,hx2⟩:=hg.at_ (i:=i - 1) (j:=k) (by omega) (by omega)
   obtain ⟨r2,hr2,hl2,hx3⟩:=hg.at_ (i:=i) (j:=k - 1) (by omega) (by omega)
   obtain ⟨r2b,hr2b,-,hx4⟩:=hg.at_ (i:=i) (j:=k) (by omega) (by omega)
   obtain rfl:r1=r1b:=by rw [hr1]at hr1b; exact Option.some.inj hr1b
   obtain rfl:r2=r2b:=by rw [hr2]at hr2b; exact Option.some.inj hr2b
   refine W.skip ?_
   refine xn ?_
   refine W.seq ?_
   refine W.block ?_
   refine W.seq_draw (by kernel_rfl) fun K hK=>?_
   simp(disch:=omega)only[↓RU,RV,RH,↓reduceIte,qE,reduceCtorEq,if_pos,w64,↓RS,RG,qA,qM,qL,ty1,ty3,zab,ze6,zde,za7,zaa,ze7,za8,hr1,hx1,hx2,hr2,hx3,hx4,zbl]
   apply hK;clear hK K
   refine W.r fun K hK=>?_
   simp(disch:=omega)only[↓RU,RV,RH,↓reduceIte,qE,reduceCtorEq,if_pos,qN,↓RS,RG,qA,qM,qL]
   refine zad.ev (yd0 (F:=[]) (R:=[]) (l:=four g i k) rfl) ?_
   rintro _ _ ⟨rfl,z,hz1,hz2,rfl⟩
   simp(disch:=omega)only[↓RU,RV,RH,↓reduceIte,qE,reduceCtorEq,if_pos,qN,↓RS,RG,qA,qM,qL]
   apply hK;clear hK K
   have hz4:z.length=4:=hz1.length_eq
   have hdn:=ye1 hz1 hz2
   refine W.r fun K hK=>?_
   simp(disch:=omega)only[↓RU,RV,RH,↓reduceIte,qE,reduceCtorEq,if_pos,qN,w64,↓RS,RG,qA,qM,qL,zab,zaa,hdn]
   refine zad.ev (zyx hz4) ?_
   rintro _ _ ⟨y,rfl,rfl⟩
   simp(disch:=omega)only[↓RU,RV,RH,↓reduceIte,qE,reduceCtorEq,if_pos,qN,w64,↓RS,RG,qA,qM,qL,zab,zaa,hdn]
   apply hK;clear hK K
   refine W.cond rfl (fun h2=>?_) (fun h2=>?_)
   ·try simp only[RL]at h2
    refine W.k fun K hK=>?_
    simp(disch:=omega)only[↓RU,RV,RH,↓reduceIte,qE,reduceCtorEq,if_pos,w64,↓RS,RG,qA,qM,qL,zaa]
    apply hK;clear hK K
    refine XbN ?_
    refine xn ?_
    refine W.k fun K hK=>?_
    simp(disch:=omega)only[↓RU,RV,RH,↓reduceIte,qE,reduceCtorEq,if_pos,w64,↓RS,RG,qA,qM,qL,zaa]
    apply hK;clear hK K
    refine xn ?_
    refine ⟨nw - (k+1),by omega,0,k+1,_,rfl,by omega,by omega,?_,rfl⟩
    simp [Env.put,Env.of,zzk h1k h2,Int.add_assoc]
   try simp only[RL]at h2
   refine W.skip ?_
   refine XbN ?_
   refine xn ?_
   refine W.k fun K hK=>?_
   simp(disch:=omega)only[↓RU,RV,RH,↓reduceIte,qE,reduceCtorEq,if_pos,w64,↓RS,RG,qA,qM,qL,zaa]
   apply hK;clear hK K
   refine xn ?_
   refine ⟨nw - (k+1),by omega,0,k+1,_,rfl,by omega,by omega,?_,rfl⟩
   simp [Env.put,Env.of,zxl h2,Int.add_assoc]
  try simp only[RL]at h1
  obtain rfl:nw=k:=by omega
  refine W.exit ?_
  refine xe ?_
  refine xe ?_
  refine XBlock.hit ?_
  refine XbN ?_
  refine xn ?_
  refine W.k fun K hK=>?_
  simp(disch:=omega)only[↓RU,RV,RH,↓reduceIte,qE,reduceCtorEq,if_pos,w64,↓RS,RG,qA,qM,qL,zaa]
  apply hK;clear hK K
  refine xn ?_
  refine ⟨nh - (i+1),by omega,0,i+1,_,rfl,by omega,by omega,?_,rfl⟩
  simp [Env.put,Env.of,z7j h1i]
 try simp only[RL]at h
 obtain rfl:nh=i:=by omega
 refine W.exit ?_
 refine xe ?_
 refine xe ?_
 refine XBlock.hit ?_
 refine xn ?_
 refine W.r fun K hK=>?_
 simp(disch:=omega)only[↓RU,RV,RH,↓reduceIte,qE,reduceCtorEq,if_pos,↓RS,RG,qA,qM,qL]
 apply hK;clear hK K
 refine W.ret ?_
 refine Br rfl ?_
 rfl
theorem z5s {g:List (List Int)} {nh nw:Nat} (hg:GW g nh nw) (rs:List Rect):PC Tryz.prog 30 [za3 g rs] (.bool (decide (zxk g 4 nw nh=0))) true:=by
 refine PC.of ⟨Tryz.func30,by kernel_rfl,rfl,by kernel_rfl⟩ zap mixed (by show 1≤Tryz.f30.ntmps; decide) ?_
 refine W.r fun K hK=>?_
 simp(disch:=omega)only[↓RU,RV,RH,↓reduceIte,qE,reduceCtorEq,if_pos]
 apply hK;clear hK K
 refine W.r fun K hK=>?_
 simp(disch:=omega)only[↓RU,RV,RH,↓reduceIte,qE,reduceCtorEq,if_pos,qN,w64,zaa]
 refine zad.pc (z7h hg rs 4) rfl (.inl rfl) ?_
 simp(disch:=omega)only[↓RU,RV,RH,↓reduceIte,qE,reduceCtorEq,if_pos,qN,w64,zaa]
 apply hK;clear hK K
 refine W.ret ?_
 refine Br rfl ?_
 rfl
end Fw
end Go.Proofs.YtjnbmmjpibpkhaaGreat
