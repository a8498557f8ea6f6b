/- Parts of the framework and of the proof: Plans cut in two, gone through; Drawing plans, gone through; Drawing plans, gone through, continued; Drawing needs, gone through; Areas, gone through; The law of areas, gone through; The laws of left and above, gone through; The law of places, gone through; Permutations by the program and by the specification, gone through; Fair and loose permutations by the program, gone through; The cells of all plans of a size, set and set back, gone through; All plans of a size are put, each one once; All plans of a size, yielded one after the other, gone through; Permutations of plans, gone through; The orders and permutations: the exported functions, gone through; Sizes that are counted, and permutations, gone through; The framework: a box that is frozen as soon as it is made; a loop over a function whose objects stay; Plans with the same permutation, counted by the program, gone through; The first plan with a permutation, found by the program, gone through. -/
import Derived.Test.YtddhgiafpmghpaaGreatJ4
import Derived.Test.YtddhgiafpmghpaaGreatJ3
set_option linter.all false
namespace Go.Proofs.YtddhgiafpmghpaaGreat
namespace Fw
open Go
open Nat renaming reduceEqDiff → qE, reduceLeDiff → qL, reduceAdd → qA, reduceMul → qM, le_refl → qR
open List renaming append_nil → qN, mapM_append → qP, mapM_cons → qC, mapM_map → qU, range_succ → qS, take_of_length_le → qT
open Bool renaming and_eq_true → qB, false_eq_true → qF
open Option renaming map_some → qO, map_eq_some_iff → qI
open Int renaming reduceToNat → qZ
theorem yhx {l:Txt} {a:Nat} {c:UInt8}:(l.map eB).set a (.int .u8 (c.toNat:Int))=(l.set a c).map eB:=by rw [List.map_set]
theorem zsy (l:Txt):zgj (l.map eB)=some l:=zlj l
theorem zew  : PC Tryz.prog 62 [] (.tup [zan [],.bool false]) true:=by
 refine PC.of ⟨Tryz.func62,by kernel_rfl,rfl,by kernel_rfl⟩ zao mixed (by show 0≤Tryz.f62.ntmps; decide) ?_
 refine W.r fun K hK=>?_
 simp(disch:=omega)only[↓RU,RV,RH,↓reduceIte,qE,reduceCtorEq,if_pos,↓RS,RG,qA,qM,qL]
 apply hK;clear hK K
 refine W.r fun K hK=>?_
 simp(disch:=omega)only[↓RU,RV,RH,↓reduceIte,qE,reduceCtorEq,if_pos,↓RS,RG,qA,qM,qL,ty6,zac]
 apply hK;clear hK K
 refine W.ret ?_
 refine Br rfl ?_
 exact zik (k:=9) (zb5 (k:=8) (n:=0) rfl rfl rfl) rfl
theorem zpx {p:List Txt} (hs:Sm p) {tp lf hg wd:Nat} {c:UInt8} (h1:tp+hg≤p.length) (h2:∀ row∈p,lf+wd≤row.length):PC Tryz.prog 165 [zan p,.int .i64 tp,.int .i64 lf,.int .i64 hg,.int .i64 wd,eB c] (zan (zef p tp lf wd c (tp+hg))) true:=by
 obtain ⟨hs1,hs2⟩:=hs
 refine PC.of ⟨Tryz.func165,by kernel_rfl,rfl,by kernel_rfl⟩ zao mixed (by show 6≤Tryz.f165.ntmps; decide) ?_
 refine W.r fun K hK=>?_
 simp(disch:=omega)only[↓RU,RV,RH,↓reduceIte,qE,reduceCtorEq,if_pos,↓RS,RG,qA,qM,qL]
 apply hK;clear hK K
 refine W.r fun K hK=>?_
 simp(disch:=omega)only[↓RU,RV,RH,↓reduceIte,qE,reduceCtorEq,if_pos,↓RS,RG,qA,qM,qL,ty6,zac]
 apply hK;clear hK K
 refine W.seq ?_
 refine W.r fun K hK=>?_
 simp(disch:=omega)only[↓RU,RV,RH,↓reduceIte,qE,reduceCtorEq,if_pos,↓RS,RG,qA,qM,qL]
 apply hK;clear hK K
 refine W.block ?_
 refine W.loop [0,1,2,3,4,5,13,14] (fun n vs S=>∃ j t v:Nat,n=hg - j∧j≤hg∧vs=[zan p,.int .i64 tp,.int .i64 lf,.int .i64 hg,.int .i64 wd,eB c,.loc 0 v 0 p.length,.int .i64 ((tp+j:Nat):Int)]∧S=⟨[.arr v 9 1 ((zef p tp lf wd c (tp+j)).map .str)],t⟩) hg ?_ ?_
 ·refine ⟨1,0,2,1,rfl,by omega,?_,?_⟩
  ·simp [Env.put,Env.of,zae]
  simp [zay,zt8]
 rintro n vs S - ⟨j,t,v,rfl,h_j,rfl,rfl⟩
 refine W.seq ?_
 refine W.r fun K hK=>?_
 simp(disch:=omega)only[↓RU,RV,RH,↓reduceIte,qE,reduceCtorEq,if_pos,w64,↓RS,RG,qA,qM,qL,zaa]
 apply hK;clear hK K
 refine W.cond rfl (fun h=>?_) (fun h=>?_)
 ·try simp only[RL]at h
  obtain ⟨i,hi⟩:∃ i,tp+j=i:=⟨_,rfl⟩
  simp only[hi]
  obtain ⟨row,hrow0,hrm⟩:=zaf (show i<p.length by omega)
  have hrow:=z27 (t:=tp) (l:=lf) (w:=wd) (c:=c) hrow0
  have hlen:=zgf (p:=p) (t:=tp) (l:=lf) (w:=wd) (c:=c) (i:=i)
  have hr1:=hs2 row hrm
  have hr2:=h2 row hrm
  refine W.skip ?_
  refine xn ?_
  refine W.seq ?_
  refine W.block ?_
  refine W.seq_thaw (l1:=[_,_,_,_]) (o:=_) (l2:=[_]) rfl fun K hK=>?_
  simp(disch:=omega)only[↓RU,RV,RH,↓reduceIte,qE,reduceCtorEq,if_pos,w64,↓RS,RG,qA,qM,qL,ty6,ty7,zac,zd4,hrow,hlen]
  refine ⟨_,_,_,_,_,rfl,rfl,rfl,rfl,rfl,rfl,by omega,?_⟩
  simp(disch:=omega)only[↓RU,RV,RH,↓reduceIte,qE,reduceCtorEq,if_pos,w64,↓RS,RG,qA,qM,qL,ty6,ty7,zac,zd4,hrow,hlen]
  apply hK;clear hK K
  refine W.seq ?_
  refine W.r fun K hK=>?_
  simp(disch:=omega)only[↓RU,RV,RH,↓reduceIte,qE,reduceCtorEq,if_pos,↓RS,RG,qA,qM,qL]
  apply hK;clear hK K
  refine W.block ?_
  refine W.loop [0,1,2,3,4,5,13,14,15,16] (fun n vs S=>∃ k t2:Nat,n=wd - k∧k≤wd∧vs=[zan p,.int .i64 tp,.int .i64 lf,.int .i64 hg,.int .i64 wd,eB c,.loc 0 v 0 p.length,.int .i64 (i:Int),.loc 1 t 0 row.length,.int .i64 ((lf+k:Nat):Int)]∧S=⟨[.arr v 9 1 ((zef p tp lf wd c i).map .str),.arr t 5 1 ((zey row lf c (lf+k)).map eB)],t2⟩) wd ?_ ?_
  ·refine ⟨2,0,t+1,rfl,by omega,?_,?_⟩
   ·simp [Env.put,Env.of]
   simp [zay,zr0]
  rintro n vs S - ⟨k,t2,rfl,h_k,rfl,rfl⟩
  refine W.seq ?_
  refine W.r fun K hK=>?_
  simp(disch:=omega)only[↓RU,RV,RH,↓reduceIte,qE,reduceCtorEq,if_pos,w64,↓RS,RG,qA,qM,qL,zaa]
  apply hK;clear hK K
  refine W.cond rfl (fun h3=>?_) (fun h3=>?_)
  ·try simp only[RL]at h3
   have hrl:=zf4 (row:=row) (l:=lf) (k:=lf+k) (c:=c)
   refine W.skip ?_
   refine xn ?_
   refine W.seq ?_
   refine W.block ?_
   refine W.k fun K hK=>?_
   simp(disch:=omega)only[↓RU,RV,RH,↓reduceIte,qE,reduceCtorEq,if_pos,↓RS,RG,qA,qM,qL,ty7,zd4,hrl,zbo,yhx]
   apply hK;clear hK K
   refine XbN ?_
   refine xn ?_
   refine W.k fun K hK=>?_
   simp(disch:=omega)only[↓RU,RV,RH,↓reduceIte,qE,reduceCtorEq,if_pos,w64,↓RS,RG,qA,qM,qL,zaa]
   apply hK;clear hK K
   refine xn ?_
   refine ⟨wd - (k+1),by omega,2,k+1,t2,rfl,by omega,?_,?_⟩
   ·simp [Env.put,Env.of]; omega
   simp only[zay]; rw [zrz (by omega) (by omega)]; rfl
  try simp only[RL]at h3
  obtain rfl:k=wd:=by omega
  have hrl:=zf4 (row:=row) (l:=lf) (k:=lf+k) (c:=c)
  have htk:((zey row lf c (lf+k)).map eB).take row.length=(zey row lf c (lf+k)).map eB:=qT (by simp [hrl])
  refine W.exit ?_
  refine xe ?_
  refine xe ?_
  refine XBlock.hit ?_
  refine xn ?_
  refine W.k fun K hK=>?_
  simp(disch:=omega)only[↓RU,RV,RH,↓reduceIte,qE,reduceCtorEq,if_pos,w64,↓RS,RG,qA,qM,qL,ty6,ty7,zac,zd4,hrl,htk,zsy,hlen,zbo,zl0,zjf,List.length_cons,List.length_nil,qO]
  apply hK;clear hK K
  refine XbN ?_
  refine xn ?_
  refine W.k fun K hK=>?_
  simp(disch:=omega)only[↓RU,RV,RH,↓reduceIte,qE,reduceCtorEq,if_pos,w64,↓RS,RG,qA,qM,qL,zaa]
  apply hK;clear hK K
  refine xn ?_
  refine ⟨hg - (j+1),by omega,1,j+1,t2,v,rfl,by omega,?_,?_⟩
  ·subst hi; simp [Env.put,Env.of]; omega
  subst hi; simp only[zay,List.take_succ_cons,List.take_zero]; rw [zt7 (by omega) hrow0]; rfl
 try simp only[RL]at h
 refine W.exit ?_
 refine xe ?_
 refine xe ?_
 refine XBlock.hit ?_
 refine xn ?_
 refine W.r fun K hK=>?_
 simp(disch:=omega)only[↓RU,RV,RH,↓reduceIte,qE,reduceCtorEq,if_pos,↓RS,RG,qA,qM,qL]
 apply hK;clear hK K
 refine W.ret ?_
 refine Br rfl ?_
 obtain rfl:j=hg:=by omega
 exact (zb5 (k:=9) rfl (by simp [zgf]) (zmo _)).trans (by simp [zgf])
theorem zq4 {p:List Txt} (hs:Sm p):PC Tryz.prog 207 [zan p] (.tup [zan (zi9 p).1,.bool (zi9 p).2]) false:=by
 refine PC.of ⟨Tryz.func207,by kernel_rfl,rfl,by kernel_rfl⟩ zao mixed (by show 1≤Tryz.f207.ntmps; decide) ?_
 refine W.r fun K hK=>?_
 simp(disch:=omega)only[↓RU,RV,RH,↓reduceIte,qE,reduceCtorEq,if_pos,↓RS,RG,qA,qM,qL]
 apply hK;clear hK K
 refine W.seq ?_
 refine W.r fun K hK=>?_
 rcases hgg:(zc1 p,zcu (names p)) with ⟨_ | _,_ | _⟩
 ·skip
  simp only[Prod.mk.injEq]at hgg
  obtain ⟨hg1,hg2⟩:=hgg
  simp(disch:=omega)only[↓RU,RV,RH,↓reduceIte,qE,reduceCtorEq,if_pos,qN,↓RS,RG,qA,qM,qL,hg1,hg2]
  refine zad.pc (zgd hs) rfl (.inl rfl) ?_
  simp(disch:=omega)only[↓RU,RV,RH,↓reduceIte,qE,reduceCtorEq,if_pos,qN,↓RS,RG,qA,qM,qL,hg1,hg2]
  apply hK;clear hK K
  refine W.cond rfl (fun h=>?_) (fun h=>?_)
  ·try simp only[RL]at h
   refine W.r fun K hK=>?_
   simp(disch:=omega)only[↓RU,RV,RH,↓reduceIte,qE,reduceCtorEq,if_pos,qN,↓RS,RG,qA,qM,qL]
   refine zad.pc (zew) rfl (.inl rfl) ?_
   simp(disch:=omega)only[↓RU,RV,RH,↓reduceIte,qE,reduceCtorEq,if_pos,qN,↓RS,RG,qA,qM,qL]
   apply hK;clear hK K
   refine W.ret ?_
   refine XThen.ret ?_
   refine Br rfl ?_
   rw [show zi9 p=([],false) by unfold zi9; rw [hg1]; rfl]
   rfl
  try simp only[RL]at h
  exact absurd h (by simp)
 ·skip
  simp only[Prod.mk.injEq]at hgg
  obtain ⟨hg1,hg2⟩:=hgg
  simp(disch:=omega)only[↓RU,RV,RH,↓reduceIte,qE,reduceCtorEq,if_pos,qN,↓RS,RG,qA,qM,qL,hg1,hg2]
  refine zad.pc (zgd hs) rfl (.inl rfl) ?_
  simp(disch:=omega)only[↓RU,RV,RH,↓reduceIte,qE,reduceCtorEq,if_pos,qN,↓RS,RG,qA,qM,qL,hg1,hg2]
  apply hK;clear hK K
  refine W.cond rfl (fun h=>?_) (fun h=>?_)
  ·try simp only[RL]at h
   refine W.r fun K hK=>?_
   simp(disch:=omega)only[↓RU,RV,RH,↓reduceIte,qE,reduceCtorEq,if_pos,qN,↓RS,RG,qA,qM,qL]
   refine zad.pc (zew) rfl (.inl rfl) ?_
   simp(disch:=omega)only[↓RU,RV,RH,↓reduceIte,qE,reduceCtorEq,if_pos,qN,↓RS,RG,qA,qM,qL]
   apply hK;clear hK K
   refine W.ret ?_
   refine XThen.ret ?_
   refine Br rfl ?_
   rw [show zi9 p=([],false) by unfold zi9; rw [hg1]; rfl]
   rfl
  try simp only[RL]at h
  exact absurd h (by simp)
 ·skip
  simp only[Prod.mk.injEq]at hgg
  obtain ⟨hg1,hg2⟩:=hgg
  simp(disch:=omega)only[↓RU,RV,RH,↓reduceIte,qE,reduceCtorEq,if_pos,qN,↓RS,RG,qA,qM,qL,hg1,hg2]
  refine zad.pc (zgd hs) rfl (.inl rfl) ?_
  simp(disch:=omega)only[↓RU,RV,RH,↓reduceIte,qE,reduceCtorEq,if_pos,qN,↓RS,RG,qA,qM,qL,hg1,hg2]
  refine zad.pc (zic hs) rfl (.inl rfl) ?_
  simp(disch:=omega)only[↓RU,RV,RH,↓reduceIte,qE,reduceCtorEq,if_pos,qN,↓RS,RG,qA,qM,qL,hg1,hg2]
  refine zad.pc (zg5 hs.names) rfl (.inl rfl) ?_
  simp(disch:=omega)only[↓RU,RV,RH,↓reduceIte,qE,reduceCtorEq,if_pos,qN,↓RS,RG,qA,qM,qL,hg1,hg2]
  apply hK;clear hK K
  refine W.cond rfl (fun h=>?_) (fun h=>?_)
  ·try simp only[RL]at h
   refine W.r fun K hK=>?_
   simp(disch:=omega)only[↓RU,RV,RH,↓reduceIte,qE,reduceCtorEq,if_pos,qN,↓RS,RG,qA,qM,qL]
   refine zad.pc (zew) rfl (.inl rfl) ?_
   simp(disch:=omega)only[↓RU,RV,RH,↓reduceIte,qE,reduceCtorEq,if_pos,qN,↓RS,RG,qA,qM,qL]
   apply hK;clear hK K
   refine W.ret ?_
   refine XThen.ret ?_
   refine Br rfl ?_
   rw [show zi9 p=([],false) by unfold zi9; rw [hg1,hg2]; rfl]
   rfl
  try simp only[RL]at h
  exact absurd h (by simp)
 skip
 simp only[Prod.mk.injEq]at hgg
 obtain ⟨hg1,hg2⟩:=hgg
 simp(disch:=omega)only[↓RU,RV,RH,↓reduceIte,qE,reduceCtorEq,if_pos,qN,↓RS,RG,qA,qM,qL,hg1,hg2]
 refine zad.pc (zgd hs) rfl (.inl rfl) ?_
 simp(disch:=omega)only[↓RU,RV,RH,↓reduceIte,qE,reduceCtorEq,if_pos,qN,↓RS,RG,qA,qM,qL,hg1,hg2]
 refine zad.pc (zic hs) rfl (.inl rfl) ?_
 simp(disch:=omega)only[↓RU,RV,RH,↓reduceIte,qE,reduceCtorEq,if_pos,qN,↓RS,RG,qA,qM,qL,hg1,hg2]
 refine zad.pc (zg5 hs.names) rfl (.inl rfl) ?_
 simp(disch:=omega)only[↓RU,RV,RH,↓reduceIte,qE,reduceCtorEq,if_pos,qN,↓RS,RG,qA,qM,qL,hg1,hg2]
 apply hK;clear hK K
 refine W.cond rfl (fun h=>?_) (fun h=>?_)
 ·try simp only[RL]at h
  exact absurd h (by simp)
 try simp only[RL]at h
 refine W.skip ?_
 refine xn ?_
 refine W.r fun K hK=>?_
 simp(disch:=omega)only[↓RU,RV,RH,↓reduceIte,qE,reduceCtorEq,if_pos,qN,↓RS,RG,qA,qM,qL]
 refine zad.pc (zic hs) rfl (.inl rfl) ?_
 simp(disch:=omega)only[↓RU,RV,RH,↓reduceIte,qE,reduceCtorEq,if_pos,qN,↓RS,RG,qA,qM,qL]
 apply hK;clear hK K
 refine W.ret ?_
 refine Br rfl ?_
 rw [show zi9 p=(names p,true) by unfold zi9; rw [hg1,hg2]; rfl]
 rfl
theorem zo8 {p:List Txt} (hs:Sm p) (room:Int) {s:Txt} (hsl:s.length≤1048576) (k:Int):PC Tryz.prog 194 [zan p,.int .i64 room,.str s,.int .i64 k] (.tup [zan (zfy p room s k).1,.bool (zfy p room s k).2]) false:=by
 have hrb:=zdw p
 refine PC.of ⟨Tryz.func194,by kernel_rfl,rfl,by kernel_rfl⟩ zao mixed (by show 4≤Tryz.f194.ntmps; decide) ?_
 refine W.r fun K hK=>?_
 simp(disch:=omega)only[↓RU,RV,RH,↓reduceIte,qE,reduceCtorEq,if_pos,↓RS,RG,qA,qM,qL]
 apply hK;clear hK K
 refine W.seq ?_
 refine W.r fun K hK=>?_
 simp(disch:=omega)only[↓RU,RV,RH,↓reduceIte,qE,reduceCtorEq,if_pos,qN,↓RS,RG,qA,qM,qL]
 refine zad.pc (z4p hs room) rfl (.inl rfl) ?_
 simp(disch:=omega)only[↓RU,RV,RH,↓reduceIte,qE,reduceCtorEq,if_pos,qN,↓RS,RG,qA,qM,qL]
 apply hK;clear hK K
 refine W.cond rfl (fun h0=>?_) (fun h0=>?_)
 ·try simp only[RL]at h0
  have hgv:(zcu p && (decide (0≤room) && decide (room≤zaw p - 1)))=false:=by simpa using h0
  refine W.r fun K hK=>?_
  simp(disch:=omega)only[↓RU,RV,RH,↓reduceIte,qE,reduceCtorEq,if_pos,qN,↓RS,RG,qA,qM,qL]
  refine zad.pc (zew) rfl (.inl rfl) ?_
  simp(disch:=omega)only[↓RU,RV,RH,↓reduceIte,qE,reduceCtorEq,if_pos,qN,↓RS,RG,qA,qM,qL]
  apply hK;clear hK K
  refine W.ret ?_
  refine XThen.ret ?_
  refine Br rfl ?_
  first | (rw [zhw hgv]; rfl) | (rw [zhx hgv e1 e2 e3 e4 hB1]; rfl) | (rw [zhy hgv e1 e2 e3 e4 hB1 hB2]; rfl) | (rw [zgg hB1 hB2]; rfl)
 try simp only[RL]at h0
 have hgv:(zcu p && (decide (0≤room) && decide (room≤zaw p - 1)))=true:=by simpa using h0
 have hgv2:=hgv
 simp only[qB,decide_eq_true_eq]at hgv2
 obtain ⟨hp,hr0,hr1⟩:=hgv2
 obtain ⟨t,l,h,w,e1,e2,e3,e4,q1,q2,q3,q4⟩:=ybp hp hr0 hr1
 obtain ⟨ps1,ps2,ps3⟩:=zn8 hp
 have hrw:∀ row∈p,row.length=(zax p).length:=fun row hr=>by obtain ⟨i,hi,rfl⟩:=List.getElem_of_mem hr; exact z9f hp (List.getElem?_eq_getElem hi)
 have hw6:(zax p).length≤6:=by obtain ⟨row,hrow,hrm⟩:=zaf ps2; rw [← hrw row hrm]; exact (ps3 row hrm).2
 refine W.skip ?_
 refine xn ?_
 refine W.r fun K hK=>?_
 simp(disch:=omega)only[↓RU,RV,RH,↓reduceIte,qE,reduceCtorEq,if_pos,qN,↓RS,RG,qA,qM,qL,e1,e2,e3,e4]
 refine zad.pc (zxm hs (by omega) room) rfl (.inl rfl) ?_
 simp(disch:=omega)only[↓RU,RV,RH,↓reduceIte,qE,reduceCtorEq,if_pos,qN,↓RS,RG,qA,qM,qL,e1,e2,e3,e4]
 apply hK;clear hK K
 refine W.seq ?_
 refine W.block ?_
 refine W.r fun K hK=>?_
 cases hb1:(s == ([104]:Txt))
 ·skip
  have hB1:((s == [104]) && (decide (1≤k) && decide (k≤zen p room - 1)))=false:=by rw [hb1]; rfl
  simp(disch:=omega)only[↓RU,RV,RH,↓reduceIte,qE,reduceCtorEq,if_pos,w64,qN,↓RS,RG,qA,qM,qL,zaa,zac,hb1,zyj]
  apply hK;clear hK K
  refine W.cond rfl (fun h1=>?_) (fun h1=>?_)
  ·try simp only[RL]at h1
   exact absurd h1 (by simp)
  try simp only[RL]at h1
  refine W.r fun K hK=>?_
  cases hb2:(s == ([118]:Txt))
  ·skip
   have hB2:((s == [118]) && (decide (1≤k) && decide (k≤zed p room - 1)))=false:=by rw [hb2]; rfl
   simp(disch:=omega)only[↓RU,RV,RH,↓reduceIte,qE,reduceCtorEq,if_pos,w64,qN,↓RS,RG,qA,qM,qL,zaa,zac,hb2,zyj]
   apply hK;clear hK K
   refine W.cond rfl (fun h2=>?_) (fun h2=>?_)
   ·try simp only[RL]at h2
    exact absurd h2 (by simp)
   try simp only[RL]at h2
   refine W.skip ?_
   refine XbN ?_
   refine xn ?_
   refine W.r fun K hK=>?_
   simp(disch:=omega)only[↓RU,RV,RH,↓reduceIte,qE,reduceCtorEq,if_pos,qN,↓RS,RG,qA,qM,qL]
   refine zad.pc (zew) rfl (.inl rfl) ?_
   simp(disch:=omega)only[↓RU,RV,RH,↓reduceIte,qE,reduceCtorEq,if_pos,qN,↓RS,RG,qA,qM,qL]
   apply hK;clear hK K
   refine W.ret ?_
   refine Br rfl ?_
   first | (rw [zhw hgv]; rfl) | (rw [zhx hgv e1 e2 e3 e4 hB1]; rfl) | (rw [zhy hgv e1 e2 e3 e4 hB1 hB2]; rfl) | (rw [zgg hB1 hB2]; rfl)
  skip
  simp(disch:=omega)only[↓RU,RV,RH,↓reduceIte,qE,reduceCtorEq,if_pos,w64,qN,↓RS,RG,qA,qM,qL,zaa,zac,hb2,zyj]
  refine zad.pc (zeq _ _ _) rfl (.inl rfl) ?_
  simp(disch:=omega)only[↓RU,RV,RH,↓reduceIte,qE,reduceCtorEq,if_pos,w64,qN,↓RS,RG,qA,qM,qL,zaa,zac,hb2,zyj]
  apply hK;clear hK K
  refine W.cond rfl (fun h2=>?_) (fun h2=>?_)
  ·try simp only[RL]at h2
   have hB2:((s == [118]) && (decide (1≤k) && decide (k≤zed p room - 1)))=true:=by rw [hb2,e4]; exact h2
   have hk:=h2
   simp only[qB,decide_eq_true_eq]at hk
   obtain ⟨kn,rfl⟩:∃ kn:Nat,k=kn:=⟨k.toNat,by omega⟩
   refine W.r fun K hK=>?_
   simp(disch:=omega)only[↓RU,RV,RH,↓reduceIte,qE,reduceCtorEq,if_pos,w64,qN,↓RS,RG,qA,qM,qL,zaa,show ((l:Int)+(kn:Int))=((l+kn:Nat):Int) from by omega,show ((w:Int) - (kn:Int))=((w - kn:Nat):Int) from by omega]
   refine zad.pc (zpx hs (tp:=t) (lf:=l+kn) (hg:=h) (wd:=w - kn) (c:=122) (by omega) (fun row hr=>by rw [hrw row hr]; omega)) rfl (.inl rfl) ?_
   simp(disch:=omega)only[↓RU,RV,RH,↓reduceIte,qE,reduceCtorEq,if_pos,w64,qN,↓RS,RG,qA,qM,qL,zaa,show ((l:Int)+(kn:Int))=((l+kn:Nat):Int) from by omega,show ((w:Int) - (kn:Int))=((w - kn:Nat):Int) from by omega]
   refine zad.pc (zq4 (zvp hs)) rfl (.inr rfl) ?_
   simp(disch:=omega)only[↓RU,RV,RH,↓reduceIte,qE,reduceCtorEq,if_pos,w64,qN,↓RS,RG,qA,qM,qL,zaa,show ((l:Int)+(kn:Int))=((l+kn:Nat):Int) from by omega,show ((w:Int) - (kn:Int))=((w - kn:Nat):Int) from by omega]
   apply hK;clear hK K
   refine W.ret ?_
   refine XBlock.ret ?_
   refine XThen.ret ?_
   refine Br rfl ?_
   first | (rw [zhw hgv]; rfl) | (rw [zhx hgv e1 e2 e3 e4 hB1]; rfl) | (rw [zhy hgv e1 e2 e3 e4 hB1 hB2]; rfl) | (rw [zgg hB1 hB2]; rfl)
  try simp only[RL]at h2
  have hB2:((s == [118]) && (decide (1≤k) && decide (k≤zed p room - 1)))=false:=by rw [hb2,e4]; exact h2
  refine W.skip ?_
  refine XbN ?_
  refine xn ?_
  refine W.r fun K hK=>?_
  simp(disch:=omega)only[↓RU,RV,RH,↓reduceIte,qE,reduceCtorEq,if_pos,qN,↓RS,RG,qA,qM,qL]
  refine zad.pc (zew) rfl (.inl rfl) ?_
  simp(disch:=omega)only[↓RU,RV,RH,↓reduceIte,qE,reduceCtorEq,if_pos,qN,↓RS,RG,qA,qM,qL]
  apply hK;clear hK K
  refine W.ret ?_
  refine Br rfl ?_
  first | (rw [zhw hgv]; rfl) | (rw [zhx hgv e1 e2 e3 e4 hB1]; rfl) | (rw [zhy hgv e1 e2 e3 e4 hB1 hB2]; rfl) | (rw [zgg hB1 hB2]; rfl)
 skip
 simp(disch:=omega)only[↓RU,RV,RH,↓reduceIte,qE,reduceCtorEq,if_pos,w64,qN,↓RS,RG,qA,qM,qL,zaa,zac,hb1,zyj]
 refine zad.pc (zeq _ _ _) rfl (.inl rfl) ?_
 simp(disch:=omega)only[↓RU,RV,RH,↓reduceIte,qE,reduceCtorEq,if_pos,w64,qN,↓RS,RG,qA,qM,qL,zaa,zac,hb1,zyj]
 apply hK;clear hK K
 refine W.cond rfl (fun h1=>?_) (fun h1=>?_)
 ·try simp only[RL]at h1
  have hB1:((s == [104]) && (decide (1≤k) && decide (k≤zen p room - 1)))=true:=by rw [hb1,e3]; exact h1
  have hk:=h1
  simp only[qB,decide_eq_true_eq]at hk
  obtain ⟨kn,rfl⟩:∃ kn:Nat,k=kn:=⟨k.toNat,by omega⟩
  refine W.r fun K hK=>?_
  simp(disch:=omega)only[↓RU,RV,RH,↓reduceIte,qE,reduceCtorEq,if_pos,w64,qN,↓RS,RG,qA,qM,qL,zaa,show ((t:Int)+(kn:Int))=((t+kn:Nat):Int) from by omega,show ((h:Int) - (kn:Int))=((h - kn:Nat):Int) from by omega]
  refine zad.pc (zpx hs (tp:=t+kn) (lf:=l) (hg:=h - kn) (wd:=w) (c:=122) (by omega) (fun row hr=>by rw [hrw row hr]; omega)) rfl (.inl rfl) ?_
  simp(disch:=omega)only[↓RU,RV,RH,↓reduceIte,qE,reduceCtorEq,if_pos,w64,qN,↓RS,RG,qA,qM,qL,zaa,show ((t:Int)+(kn:Int))=((t+kn:Nat):Int) from by omega,show ((h:Int) - (kn:Int))=((h - kn:Nat):Int) from by omega]
  refine zad.pc (zq4 (zvp hs)) rfl (.inr rfl) ?_
  simp(disch:=omega)only[↓RU,RV,RH,↓reduceIte,qE,reduceCtorEq,if_pos,w64,qN,↓RS,RG,qA,qM,qL,zaa,show ((t:Int)+(kn:Int))=((t+kn:Nat):Int) from by omega,show ((h:Int) - (kn:Int))=((h - kn:Nat):Int) from by omega]
  apply hK;clear hK K
  refine W.ret ?_
  refine XBlock.ret ?_
  refine XThen.ret ?_
  refine Br rfl ?_
  first | (rw [zhw hgv]; rfl) | (rw [zhx hgv e1 e2 e3 e4 hB1]; rfl) | (rw [zhy hgv e1 e2 e3 e4 hB1 hB2]; rfl) | (rw [zgg hB1 hB2]; rfl)
 try simp only[RL]at h1
 have hB1:((s == [104]) && (decide (1≤k) && decide (k≤zen p room - 1)))=false:=by rw [hb1,e3]; exact h1
 refine W.r fun K hK=>?_
 cases hb2:(s == ([118]:Txt))
 ·skip
  have hB2:((s == [118]) && (decide (1≤k) && decide (k≤zed p room - 1)))=false:=by rw [hb2]; rfl
  simp(disch:=omega)only[↓RU,RV,RH,↓reduceIte,qE,reduceCtorEq,if_pos,w64,qN,↓RS,RG,qA,qM,qL,zaa,zac,hb2,zyj]
  apply hK;clear hK K
  refine W.cond rfl (fun h2=>?_) (fun h2=>?_)
  ·try simp only[RL]at h2
   exact absurd h2 (by simp)
  try simp only[RL]at h2
  refine W.skip ?_
  refine XbN ?_
  refine xn ?_
  refine W.r fun K hK=>?_
  simp(disch:=omega)only[↓RU,RV,RH,↓reduceIte,qE,reduceCtorEq,if_pos,qN,↓RS,RG,qA,qM,qL]
  refine zad.pc (zew) rfl (.inl rfl) ?_
  simp(disch:=omega)only[↓RU,RV,RH,↓reduceIte,qE,reduceCtorEq,if_pos,qN,↓RS,RG,qA,qM,qL]
  apply hK;clear hK K
  refine W.ret ?_
  refine Br rfl ?_
  first | (rw [zhw hgv]; rfl) | (rw [zhx hgv e1 e2 e3 e4 hB1]; rfl) | (rw [zhy hgv e1 e2 e3 e4 hB1 hB2]; rfl) | (rw [zgg hB1 hB2]; rfl)
 skip
 simp(disch:=omega)only[↓RU,RV,RH,↓reduceIte,qE,reduceCtorEq,if_pos,w64,qN,↓RS,RG,qA,qM,qL,zaa,zac,hb2,zyj]
 refine zad.pc (zeq _ _ _) rfl (.inl rfl) ?_
 simp(disch:=omega)only[↓RU,RV,RH,↓reduceIte,qE,reduceCtorEq,if_pos,w64,qN,↓RS,RG,qA,qM,qL,zaa,zac,hb2,zyj]
 apply hK;clear hK K
 refine W.cond rfl (fun h2=>?_) (fun h2=>?_)
 ·try simp only[RL]at h2
  have hB2:((s == [118]) && (decide (1≤k) && decide (k≤zed p room - 1)))=true:=by rw [hb2,e4]; exact h2
  have hk:=h2
  simp only[qB,decide_eq_true_eq]at hk
  obtain ⟨kn,rfl⟩:∃ kn:Nat,k=kn:=⟨k.toNat,by omega⟩
  refine W.r fun K hK=>?_
  simp(disch:=omega)only[↓RU,RV,RH,↓reduceIte,qE,reduceCtorEq,if_pos,w64,qN,↓RS,RG,qA,qM,qL,zaa,show ((l:Int)+(kn:Int))=((l+kn:Nat):Int) from by omega,show ((w:Int) - (kn:Int))=((w - kn:Nat):Int) from by omega]
  refine zad.pc (zpx hs (tp:=t) (lf:=l+kn) (hg:=h) (wd:=w - kn) (c:=122) (by omega) (fun row hr=>by rw [hrw row hr]; omega)) rfl (.inl rfl) ?_
  simp(disch:=omega)only[↓RU,RV,RH,↓reduceIte,qE,reduceCtorEq,if_pos,w64,qN,↓RS,RG,qA,qM,qL,zaa,show ((l:Int)+(kn:Int))=((l+kn:Nat):Int) from by omega,show ((w:Int) - (kn:Int))=((w - kn:Nat):Int) from by omega]
  refine zad.pc (zq4 (zvp hs)) rfl (.inr rfl) ?_
  simp(disch:=omega)only[↓RU,RV,RH,↓reduceIte,qE,reduceCtorEq,if_pos,w64,qN,↓RS,RG,qA,qM,qL,zaa,show ((l:Int)+(kn:Int))=((l+kn:Nat):Int) from by omega,show ((w:Int) - (kn:Int))=((w - kn:Nat):Int) from by omega]
  apply hK;clear hK K
  refine W.ret ?_
  refine XBlock.ret ?_
  refine XThen.ret ?_
  refine Br rfl ?_
  first | (rw [zhw hgv]; rfl) | (rw [zhx hgv e1 e2 e3 e4 hB1]; rfl) | (rw [zhy hgv e1 e2 e3 e4 hB1 hB2]; rfl) | (rw [zgg hB1 hB2]; rfl)
 try simp only[RL]at h2
 have hB2:((s == [118]) && (decide (1≤k) && decide (k≤zed p room - 1)))=false:=by rw [hb2,e4]; exact h2
 refine W.skip ?_
 refine XbN ?_
 refine xn ?_
 refine W.r fun K hK=>?_
 simp(disch:=omega)only[↓RU,RV,RH,↓reduceIte,qE,reduceCtorEq,if_pos,qN,↓RS,RG,qA,qM,qL]
 refine zad.pc (zew) rfl (.inl rfl) ?_
 simp(disch:=omega)only[↓RU,RV,RH,↓reduceIte,qE,reduceCtorEq,if_pos,qN,↓RS,RG,qA,qM,qL]
 apply hK;clear hK K
 refine W.ret ?_
 refine Br rfl ?_
 first | (rw [zhw hgv]; rfl) | (rw [zhx hgv e1 e2 e3 e4 hB1]; rfl) | (rw [zhy hgv e1 e2 e3 e4 hB1 hB2]; rfl) | (rw [zgg hB1 hB2]; rfl)
theorem zdg {code:Txt} {q vr t:Nat} {R:List Ob} (hc:code.length≤1048576) (hq:q≤1000000) (n:Int) (hn:n≤1000000) (hn0 : -1000000≤n) :
  Ev Tryz.prog 57 [.ref 0 vr 0,.int .i64 n] ⟨.arr vr 118 2 [eBy code,.int .i64 (q:Int)]::R,t⟩ fun v S=>∃ k:Nat,v = .int .i64 (k:Int)∧(n<1→k=0)∧(1≤n→(k:Int)<n)∧S=⟨.arr vr 118 2 [eBy code,.int .i64 ((q+1:Nat):Int)]::R,t⟩ :=
 ybo hc hq n hn hn0
theorem yho {code:Txt} {q vr t v1:Nat} {R:List Ob} {l:List Txt} (hc:code.length≤1048576) (hq:q≤1000000) (hl:1≤l.length) (hl2:l.length≤1000):Ev Tryz.prog 195 [.ref 0 vr 0,.loc 1 v1 0 l.length] ⟨.arr vr 118 2 [eBy code,.int .i64 (q:Int)] :: .arr v1 9 1 (l.map .str)::R,t⟩ fun v S=>∃ s,s∈l∧v = .str s∧S=⟨.arr vr 118 2 [eBy code,.int .i64 ((q+1:Nat):Int)] :: .arr v1 9 1 (l.map .str)::R,t⟩:=by
 refine Ev.of ⟨Tryz.func195,by kernel_rfl,rfl,by kernel_rfl⟩ zao mixed (by show 2≤Tryz.f195.ntmps; decide) ?_
 refine W.r fun K hK=>?_
 simp(disch:=omega)only[↓RU,RV,RH,↓reduceIte,qE,reduceCtorEq,if_pos,↓RS,RG,qA,qM,qL]
 apply hK;clear hK K
 refine W.r fun K hK=>?_
 simp(disch:=omega)only[↓RU,RV,RH,↓reduceIte,qE,reduceCtorEq,if_pos,qN,↓RS,RG,qA,qM,qL,ty6,zac]
 refine zad.ev (zdg hc hq (l.length:Int) (by omega) (by omega)) ?_
 rintro _ _ ⟨k,rfl,-,hk,rfl⟩
 have hk2:=hk (by omega)
 obtain ⟨s,hsk,hsm⟩:=zaf (show k<l.length by omega)
 simp(disch:=omega)only[↓RU,RV,RH,↓reduceIte,qE,reduceCtorEq,if_pos,qN,↓RS,RG,qA,qM,qL,ty6,zac,hsk]
 apply hK;clear hK K
 refine W.ret ?_
 refine Br rfl ?_
 exact ⟨_,s,hsm,rfl,zah⟩
theorem z0j {nh nw:Nat} (hn:nh≤100) (hm:nw≤100):PC Tryz.prog 168 [.int .i64 nh,.int .i64 nw] (zan (List.replicate nh (List.replicate nw (97:UInt8)))) true:=by
 refine PC.of ⟨Tryz.func168,by kernel_rfl,rfl,by kernel_rfl⟩ zao mixed (by show 2≤Tryz.f168.ntmps; decide) ?_
 refine W.r fun K hK=>?_
 simp(disch:=omega)only[↓RU,RV,RH,↓reduceIte,qE,reduceCtorEq,if_pos,↓RS,RG,qA,qM,qL]
 apply hK;clear hK K
 refine W.r fun K hK=>?_
 simp(disch:=omega)only[↓RU,RV,RH,↓reduceIte,qE,reduceCtorEq,if_pos,↓RS,RG,qA,qM,qL,ty6,zac]
 apply hK;clear hK K
 refine W.seq ?_
 refine W.r fun K hK=>?_
 simp(disch:=omega)only[↓RU,RV,RH,↓reduceIte,qE,reduceCtorEq,if_pos,↓RS,RG,qA,qM,qL]
 apply hK;clear hK K
 refine W.block ?_
 refine W.loop [0,1,5,6] (fun n vs S=>∃ i v0 tk:Nat,n=nh - i∧i≤nh∧vs=[.int .i64 nh,.int .i64 nw,.loc 0 v0 0 i,.int .i64 i]∧S=⟨[.arr v0 9 1 ((List.replicate i (List.replicate nw (97:UInt8))).map .str)],tk⟩) (nh) ?_ ?_
 ·refine ⟨1,0,0,1,rfl,Nat.zero_le _,?_,rfl⟩
  simp [Env.put,Env.of,zae]
 rintro n vs S - ⟨i,v0,tk,rfl,h_i,rfl,rfl⟩
 refine W.seq ?_
 refine W.r fun K hK=>?_
 simp(disch:=omega)only[↓RU,RV,RH,↓reduceIte,qE,reduceCtorEq,if_pos,w64,↓RS,RG,qA,qM,qL,zaa]
 apply hK;clear hK K
 refine W.cond rfl (fun h=>?_) (fun h=>?_)
 ·try simp only[RL]at h
  refine W.skip ?_
  refine xn ?_
  refine W.seq ?_
  refine W.block ?_
  refine W.r fun K hK=>?_
  simp(disch:=omega)only[↓RU,RV,RH,↓reduceIte,qE,reduceCtorEq,if_pos,↓RS,RG,qA,qM,qL,ty7,zd4]
  apply hK;clear hK K
  refine W.seq ?_
  refine W.r fun K hK=>?_
  simp(disch:=omega)only[↓RU,RV,RH,↓reduceIte,qE,reduceCtorEq,if_pos,↓RS,RG,qA,qM,qL]
  apply hK;clear hK K
  refine W.block ?_
  refine W.loop [0,1,5,6,7,8] (fun n vs S=>∃ k v1 tk:Nat,n=nw - k∧k≤nw∧vs=[.int .i64 nh,.int .i64 nw,.loc 0 v0 0 i,.int .i64 i,.loc 1 v1 0 k,.int .i64 k]∧S=⟨[.arr v0 9 1 ((List.replicate i (List.replicate nw (97:UInt8))).map .str),.arr v1 5 1 ((List.replicate k (97:UInt8)).map eB)],tk⟩) (nw) ?_ ?_
  ·refine ⟨2,0,tk,tk+1,rfl,Nat.zero_le _,?_,rfl⟩
   simp [Env.put,Env.of]
  rintro n vs S - ⟨k,v1,tk,rfl,h_k,rfl,rfl⟩
  refine W.seq ?_
  refine W.r fun K hK=>?_
  simp(disch:=omega)only[↓RU,RV,RH,↓reduceIte,qE,reduceCtorEq,if_pos,w64,↓RS,RG,qA,qM,qL,zaa]
  apply hK;clear hK K
  refine W.cond rfl (fun h1=>?_) (fun h1=>?_)
  ·try simp only[RL]at h1
   refine W.skip ?_
   refine xn ?_
   refine W.seq ?_
   refine W.block ?_
   refine W.k fun K hK=>?_
   simp(disch:=omega)only[↓RU,RV,RH,↓reduceIte,qE,reduceCtorEq,if_pos,↓RS,RG,qA,qM,qL,ty7,zd4,List.length_replicate]
   apply hK;clear hK K
   refine XbN ?_
   refine xn ?_
   refine W.k fun K hK=>?_
   simp(disch:=omega)only[↓RU,RV,RH,↓reduceIte,qE,reduceCtorEq,if_pos,w64,↓RS,RG,qA,qM,qL,zaa]
   apply hK;clear hK K
   refine xn ?_
   refine ⟨nw - (k+1),by omega,2,k+1,tk+1,tk+2,rfl,by omega,?_,?_⟩
   all_goals simp [Env.put,Env.of,zay,zk2,List.replicate_succ',List.map_append]
  ·try simp only[RL]at h1
   obtain rfl:k=nw:=by omega
   have hbo:=zsy (List.replicate k (97:UInt8))
   have htk:((List.replicate k (97:UInt8)).map eB).take k=(List.replicate k (97:UInt8)).map eB:=qT (by simp)
   refine W.exit ?_
   refine xe ?_
   refine xe ?_
   refine XBlock.hit ?_
   refine xn ?_
   refine W.k fun K hK=>?_
   simp(disch:=omega)only[↓RU,RV,RH,↓reduceIte,qE,reduceCtorEq,if_pos,w64,↓RS,RG,qA,qM,qL,ty6,ty7,zac,zd4,List.length_replicate,htk,hbo]
   apply hK;clear hK K
   refine XbN ?_
   refine xn ?_
   refine W.k fun K hK=>?_
   simp(disch:=omega)only[↓RU,RV,RH,↓reduceIte,qE,reduceCtorEq,if_pos,w64,↓RS,RG,qA,qM,qL,zaa]
   apply hK;clear hK K
   refine xn ?_
   refine ⟨nh - (i+1),by omega,1,i+1,tk+1,tk+2,rfl,by omega,?_,?_⟩
   all_goals simp [Env.put,Env.of,zay,zk2,List.replicate_succ',List.map_append]
 try simp only[RL]at h
 obtain rfl:i=nh:=by omega
 refine W.exit ?_
 refine xe ?_
 refine xe ?_
 refine XBlock.hit ?_
 refine xn ?_
 refine W.r fun K hK=>?_
 simp(disch:=omega)only[↓RU,RV,RH,↓reduceIte,qE,reduceCtorEq,if_pos,↓RS,RG,qA,qM,qL]
 apply hK;clear hK K
 refine W.ret ?_
 refine Br rfl ?_
 exact (zb5 (k:=9) rfl (by simp) (zmo _)).trans (by simp)
theorem zdn {S:Store} {k ver off:Nat}:frz S 1 (k+1) (.ref 0 ver off)=some (.ref 0 ver off):=by simp [frz]
theorem zes (p:List Txt):List.take p.length (p.map PV.str)=p.map .str:=qT (by simp)
theorem zdo {S:Store} {lo k:Nat} (l:List Txt):(l.map PV.str).mapM (rfz S lo (k+1))=some (l.map PV.str):=zrv (fun _=>rfl) l
theorem z0t {p:List Txt} (h:zcu p=true):Sm p:=by
 obtain ⟨h1,-,h3⟩:=zn8 h
 exact ⟨by omega,fun r hr=>by have:=(h3 r hr).2; omega⟩
theorem zrq {p:List Txt} (h:zcu p=true):zaw p≤9:=by
 unfold zcu at h; simp only[qB,decide_eq_true_eq]at h; omega
theorem yc7 {s:Txt} (h:s∈([[104],[118]]:List Txt)):s.length≤1048576:=by
 simp only[List.mem_cons,List.not_mem_nil,or_false]at h
 rcases h with rfl | rfl <;> simp
theorem z7x {code:Txt} {q vr t:Nat} {R:List Ob} (hc:code.length≤1048576) (hq:q≤900000) {p:List Txt} (hp:zcu p=true) {many:Nat} (hm:many≤1000):Ev Tryz.prog 167 [.ref 0 vr 0,zan p,.int .i64 many] ⟨.arr vr 118 2 [eBy code,.int .i64 (q:Int)]::R,t⟩ fun v S=>∃ (p2:List Txt) (q2 t2:Nat),v=zan p2∧zcu p2=true∧p2.length=p.length∧q2≤q+3*many∧S=⟨[.arr vr 118 2 [eBy code,.int .i64 (q2:Int)]],t2⟩:=by
 refine Ev.of ⟨Tryz.func167,by kernel_rfl,rfl,by kernel_rfl⟩ zao mixed (by show 3≤Tryz.f167.ntmps; decide) ?_
 refine W.r fun K hK=>?_
 simp(disch:=omega)only[↓RU,RV,RH,↓reduceIte,qE,reduceCtorEq,if_pos,↓RS,RG,qA,qM,qL]
 apply hK;clear hK K
 refine W.seq ?_
 refine W.r fun K hK=>?_
 simp(disch:=omega)only[↓RU,RV,RH,↓reduceIte,qE,reduceCtorEq,if_pos,↓RS,RG,qA,qM,qL]
 apply hK;clear hK K
 refine W.block ?_
 refine W.loopZ [0,1,2,7] (fun n vs S=>∃ (i:Nat) (p2:List Txt) (q2 tk:Nat),n=many - i∧i≤many∧zcu p2=true∧p2.length=p.length∧q2≤q+3*i∧vs=[.ref 0 vr 0,zan p2,.int .i64 many,.int .i64 i]∧S=⟨[.arr vr 118 2 [eBy code,.int .i64 (q2:Int)]],tk⟩) many ?_ ?_
 ·refine ⟨1,[.ref 0 vr 0,zan p,.int .i64 many,.int .i64 (0:Nat)],⟨[.arr vr 118 2 [eBy code,.int .i64 (q:Int)]],t⟩,?_,?_,0,p,q,t,rfl,by omega,hp,rfl,by omega,rfl,rfl⟩
  ·simp [-qU,Store.frz,zcd,zcz,zau,zbi,zbf,zbs,zcm,za8,za5,za9,zat,zav,zbv,zba,zbt,za7,Env.put,Env.of,zae,zbu,qP,qC,zdn,zes,zdo]
  simp [-qU,Store.frz,zcd,zcz,zau,zbi,zbf,zbs,zcm,za8,za5,za9,zat,zav,zbv,zba,zbt,za7,Env.put,Env.of,zae,zbu,qP,qC,zdn,zes,zdo]
 rintro n vs S - ⟨i,p2,q2,tk,rfl,h_i,hp2,hl2,hq2,rfl,rfl⟩
 refine W.seq ?_
 refine W.r fun K hK=>?_
 simp(disch:=omega)only[↓RU,RV,RH,↓reduceIte,qE,reduceCtorEq,if_pos,w64,↓RS,RG,qA,qM,qL,zaa]
 apply hK;clear hK K
 refine W.cond rfl (fun h=>?_) (fun h=>?_)
 ·try simp only[RL]at h
  have hs2:=z0t hp2
  have hr9:=zrq hp2
  have hrb:=zdw p2
  refine W.skip ?_
  refine xn ?_
  refine W.seq ?_
  refine W.block ?_
  refine W.r fun K hK=>?_
  simp(disch:=omega)only[↓RU,RV,RH,↓reduceIte,qE,reduceCtorEq,if_pos,qN,↓RS,RG,qA,qM,qL]
  refine zad.pc (zep hs2) rfl (.inl rfl) ?_
  simp(disch:=omega)only[↓RU,RV,RH,↓reduceIte,qE,reduceCtorEq,if_pos,qN,↓RS,RG,qA,qM,qL]
  refine zad.ev (zdg hc (by omega) (zaw p2) (by omega) (by omega)) ?_
  rintro _ _ ⟨k1,rfl,-,-,rfl⟩
  simp(disch:=omega)only[↓RU,RV,RH,↓reduceIte,qE,reduceCtorEq,if_pos,qN,↓RS,RG,qA,qM,qL]
  apply hK;clear hK K
  refine W.r fun K hK=>?_
  simp(disch:=omega)only[↓RU,RV,RH,↓reduceIte,qE,reduceCtorEq,if_pos,qN,w64,↓RS,RG,qA,qM,qL,ty6,zaa,zac]
  refine zad.ev (yho (R:=[]) (l:=[[104],[118]]) hc (by omega) (by simp) (by simp)) ?_
  rintro _ _ ⟨s,hsm,rfl,rfl⟩
  have hsl:=yc7 hsm
  simp(disch:=omega)only[↓RU,RV,RH,↓reduceIte,qE,reduceCtorEq,if_pos,qN,w64,↓RS,RG,qA,qM,qL,ty6,zaa,zac]
  refine zad.ev (zdg (q:=q2+1+1) hc (by omega) 3 (by omega) (by omega)) ?_
  rintro _ _ ⟨k2,rfl,-,hk2,rfl⟩
  have hk3:=hk2 (by omega)
  simp(disch:=omega)only[↓RU,RV,RH,↓reduceIte,qE,reduceCtorEq,if_pos,qN,w64,↓RS,RG,qA,qM,qL,ty6,zaa,zac]
  refine zad.pc (zo8 hs2 k1 hsl (1+k2)) rfl (.inr rfl) ?_
  simp(disch:=omega)only[↓RU,RV,RH,↓reduceIte,qE,reduceCtorEq,if_pos,qN,w64,↓RS,RG,qA,qM,qL,ty6,zaa,zac]
  apply hK;clear hK K
  refine W.r fun K hK=>?_
  simp(disch:=omega)only[↓RU,RV,RH,↓reduceIte,qE,reduceCtorEq,if_pos,↓RS,RG,qA,qM,qL]
  apply hK;clear hK K
  refine W.cond rfl (fun h1=>?_) (fun h1=>?_)
  ·try simp only[RL]at h1
   obtain ⟨ho1,ho2⟩:=zzf h1
   refine W.k fun K hK=>?_
   simp(disch:=omega)only[↓RU,RV,RH,↓reduceIte,qE,reduceCtorEq,if_pos,↓RS,RG,qA,qM,qL]
   apply hK;clear hK K
   refine XbN ?_
   refine xn ?_
   refine W.k fun K hK=>?_
   simp(disch:=omega)only[↓RU,RV,RH,↓reduceIte,qE,reduceCtorEq,if_pos,w64,↓RS,RG,qA,qM,qL,zaa]
   apply hK;clear hK K
   refine xn ?_
   refine ⟨many - (i+1),by omega,1,[.ref 0 vr 0,zan (zfy p2 k1 s (1+k2)).1,.int .i64 many,.int .i64 ((i+1:Nat):Int)],⟨[.arr vr 118 2 [eBy code,.int .i64 ((q2+1+1+1:Nat):Int)]],tk+1⟩,?_,?_,i+1,(zfy p2 k1 s (1+k2)).1,q2+1+1+1,tk+1,rfl,by omega,ho1,ho2.trans hl2,by omega,rfl,rfl⟩
   ·simp [-qU,Store.frz,zcd,zcz,zau,zbi,zbf,zbs,zcm,za8,za5,za9,zat,zav,zbv,zba,zbt,za7,Env.put,Env.of,zae,zbu,qP,qC,zdn,zes,zdo]
   simp [-qU,Store.frz,zcd,zcz,zau,zbi,zbf,zbs,zcm,za8,za5,za9,zat,zav,zbv,zba,zbt,za7,Env.put,Env.of,zae,zbu,qP,qC,zdn,zes,zdo]
  try simp only[RL]at h1
  refine W.skip ?_
  refine XbN ?_
  refine xn ?_
  refine W.k fun K hK=>?_
  simp(disch:=omega)only[↓RU,RV,RH,↓reduceIte,qE,reduceCtorEq,if_pos,w64,↓RS,RG,qA,qM,qL,zaa]
  apply hK;clear hK K
  refine xn ?_
  refine ⟨many - (i+1),by omega,1,[.ref 0 vr 0,zan p2,.int .i64 many,.int .i64 ((i+1:Nat):Int)],⟨[.arr vr 118 2 [eBy code,.int .i64 ((q2+1+1+1:Nat):Int)]],tk+1⟩,?_,?_,i+1,p2,q2+1+1+1,tk+1,rfl,by omega,hp2,hl2,by omega,rfl,rfl⟩
  ·simp [-qU,Store.frz,zcd,zcz,zau,zbi,zbf,zbs,zcm,za8,za5,za9,zat,zav,zbv,zba,zbt,za7,Env.put,Env.of,zae,zbu,qP,qC,zdn,zes,zdo]
  simp [-qU,Store.frz,zcd,zcz,zau,zbi,zbf,zbs,zcm,za8,za5,za9,zat,zav,zbv,zba,zbt,za7,Env.put,Env.of,zae,zbu,qP,qC,zdn,zes,zdo]
 try simp only[RL]at h
 obtain rfl:i=many:=by omega
 refine W.exit ?_
 refine xe ?_
 refine xe ?_
 refine XBlock.hit ?_
 refine xn ?_
 refine W.r fun K hK=>?_
 simp(disch:=omega)only[↓RU,RV,RH,↓reduceIte,qE,reduceCtorEq,if_pos,↓RS,RG,qA,qM,qL]
 apply hK;clear hK K
 refine W.ret ?_
 refine Br rfl ?_
 exact ⟨_,p2,q2,tk,rfl,hp2,hl2,by omega,zah⟩
theorem ztl {code:Txt} {q vr t v1:Nat} {R:List Ob} (hc:code.length≤1048576) (hq:q≤900000) {p:List Txt} (hp:zcu p=true) {many:Nat} (hm:many≤1000):Ev Tryz.prog 167 [.ref 0 vr 0,.loc 1 v1 0 p.length,.int .i64 many] ⟨.arr vr 118 2 [eBy code,.int .i64 (q:Int)] :: .arr v1 9 1 (p.map .str)::R,t⟩ fun v S=>∃ (p2:List Txt) (q2 t2:Nat),v=zan p2∧zcu p2=true∧p2.length=p.length∧q2≤q+3*many∧S=⟨[.arr vr 118 2 [eBy code,.int .i64 (q2:Int)]],t2⟩:=by
 refine Ev.of ⟨Tryz.func167,by kernel_rfl,rfl,by kernel_rfl⟩ zao mixed (by show 3≤Tryz.f167.ntmps; decide) ?_
 refine W.r fun K hK=>?_
 simp(disch:=omega)only[↓RU,RV,RH,↓reduceIte,qE,reduceCtorEq,if_pos,↓RS,RG,qA,qM,qL]
 apply hK;clear hK K
 refine W.seq ?_
 refine W.r fun K hK=>?_
 simp(disch:=omega)only[↓RU,RV,RH,↓reduceIte,qE,reduceCtorEq,if_pos,↓RS,RG,qA,qM,qL]
 apply hK;clear hK K
 refine W.block ?_
 refine W.loopZ [0,1,2,7] (fun n vs S=>∃ (i:Nat) (p2:List Txt) (q2 tk:Nat),n=many - i∧i≤many∧zcu p2=true∧p2.length=p.length∧q2≤q+3*i∧vs=[.ref 0 vr 0,zan p2,.int .i64 many,.int .i64 i]∧S=⟨[.arr vr 118 2 [eBy code,.int .i64 (q2:Int)]],tk⟩) many ?_ ?_
 ·refine ⟨1,[.ref 0 vr 0,zan p,.int .i64 many,.int .i64 (0:Nat)],⟨[.arr vr 118 2 [eBy code,.int .i64 (q:Int)]],t⟩,?_,?_,0,p,q,t,rfl,by omega,hp,rfl,by omega,rfl,rfl⟩
  ·simp [-qU,Store.frz,zcd,zcz,zau,zbi,zbf,zbs,zcm,za8,za5,za9,zat,zav,zbv,zba,zbt,za7,Env.put,Env.of,zae,zbu,qP,qC,zdn,zes,zdo]
  simp [-qU,Store.frz,zcd,zcz,zau,zbi,zbf,zbs,zcm,za8,za5,za9,zat,zav,zbv,zba,zbt,za7,Env.put,Env.of,zae,zbu,qP,qC,zdn,zes,zdo]
 rintro n vs S - ⟨i,p2,q2,tk,rfl,h_i,hp2,hl2,hq2,rfl,rfl⟩
 refine W.seq ?_
 refine W.r fun K hK=>?_
 simp(disch:=omega)only[↓RU,RV,RH,↓reduceIte,qE,reduceCtorEq,if_pos,w64,↓RS,RG,qA,qM,qL,zaa]
 apply hK;clear hK K
 refine W.cond rfl (fun h=>?_) (fun h=>?_)
 ·try simp only[RL]at h
  have hs2:=z0t hp2
  have hr9:=zrq hp2
  have hrb:=zdw p2
  refine W.skip ?_
  refine xn ?_
  refine W.seq ?_
  refine W.block ?_
  refine W.r fun K hK=>?_
  simp(disch:=omega)only[↓RU,RV,RH,↓reduceIte,qE,reduceCtorEq,if_pos,qN,↓RS,RG,qA,qM,qL]
  refine zad.pc (zep hs2) rfl (.inl rfl) ?_
  simp(disch:=omega)only[↓RU,RV,RH,↓reduceIte,qE,reduceCtorEq,if_pos,qN,↓RS,RG,qA,qM,qL]
  refine zad.ev (zdg hc (by omega) (zaw p2) (by omega) (by omega)) ?_
  rintro _ _ ⟨k1,rfl,-,-,rfl⟩
  simp(disch:=omega)only[↓RU,RV,RH,↓reduceIte,qE,reduceCtorEq,if_pos,qN,↓RS,RG,qA,qM,qL]
  apply hK;clear hK K
  refine W.r fun K hK=>?_
  simp(disch:=omega)only[↓RU,RV,RH,↓reduceIte,qE,reduceCtorEq,if_pos,qN,w64,↓RS,RG,qA,qM,qL,ty6,zaa,zac]
  refine zad.ev (yho (R:=[]) (l:=[[104],[118]]) hc (by omega) (by simp) (by simp)) ?_
  rintro _ _ ⟨s,hsm,rfl,rfl⟩
  have hsl:=yc7 hsm
  simp(disch:=omega)only[↓RU,RV,RH,↓reduceIte,qE,reduceCtorEq,if_pos,qN,w64,↓RS,RG,qA,qM,qL,ty6,zaa,zac]
  refine zad.ev (zdg (q:=q2+1+1) hc (by omega) 3 (by omega) (by omega)) ?_
  rintro _ _ ⟨k2,rfl,-,hk2,rfl⟩
  have hk3:=hk2 (by omega)
  simp(disch:=omega)only[↓RU,RV,RH,↓reduceIte,qE,reduceCtorEq,if_pos,qN,w64,↓RS,RG,qA,qM,qL,ty6,zaa,zac]
  refine zad.pc (zo8 hs2 k1 hsl (1+k2)) rfl (.inr rfl) ?_
  simp(disch:=omega)only[↓RU,RV,RH,↓reduceIte,qE,reduceCtorEq,if_pos,qN,w64,↓RS,RG,qA,qM,qL,ty6,zaa,zac]
  apply hK;clear hK K
  refine W.r fun K hK=>?_
  simp(disch:=omega)only[↓RU,RV,RH,↓reduceIte,qE,reduceCtorEq,if_pos,↓RS,RG,qA,qM,qL]
  apply hK;clear hK K
  refine W.cond rfl (fun h1=>?_) (fun h1=>?_)
  ·try simp only[RL]at h1
   obtain ⟨ho1,ho2⟩:=zzf h1
   refine W.k fun K hK=>?_
   simp(disch:=omega)only[↓RU,RV,RH,↓reduceIte,qE,reduceCtorEq,if_pos,↓RS,RG,qA,qM,qL]
   apply hK;clear hK K
   refine XbN ?_
   refine xn ?_
   refine W.k fun K hK=>?_
   simp(disch:=omega)only[↓RU,RV,RH,↓reduceIte,qE,reduceCtorEq,if_pos,w64,↓RS,RG,qA,qM,qL,zaa]
   apply hK;clear hK K
   refine xn ?_
   refine ⟨many - (i+1),by omega,1,[.ref 0 vr 0,zan (zfy p2 k1 s (1+k2)).1,.int .i64 many,.int .i64 ((i+1:Nat):Int)],⟨[.arr vr 118 2 [eBy code,.int .i64 ((q2+1+1+1:Nat):Int)]],tk+1⟩,?_,?_,i+1,(zfy p2 k1 s (1+k2)).1,q2+1+1+1,tk+1,rfl,by omega,ho1,ho2.trans hl2,by omega,rfl,rfl⟩
   ·simp [-qU,Store.frz,zcd,zcz,zau,zbi,zbf,zbs,zcm,za8,za5,za9,zat,zav,zbv,zba,zbt,za7,Env.put,Env.of,zae,zbu,qP,qC,zdn,zes,zdo]
   simp [-qU,Store.frz,zcd,zcz,zau,zbi,zbf,zbs,zcm,za8,za5,za9,zat,zav,zbv,zba,zbt,za7,Env.put,Env.of,zae,zbu,qP,qC,zdn,zes,zdo]
  try simp only[RL]at h1
  refine W.skip ?_
  refine XbN ?_
  refine xn ?_
  refine W.k fun K hK=>?_
  simp(disch:=omega)only[↓RU,RV,RH,↓reduceIte,qE,reduceCtorEq,if_pos,w64,↓RS,RG,qA,qM,qL,zaa]
  apply hK;clear hK K
  refine xn ?_
  refine ⟨many - (i+1),by omega,1,[.ref 0 vr 0,zan p2,.int .i64 many,.int .i64 ((i+1:Nat):Int)],⟨[.arr vr 118 2 [eBy code,.int .i64 ((q2+1+1+1:Nat):Int)]],tk+1⟩,?_,?_,i+1,p2,q2+1+1+1,tk+1,rfl,by omega,hp2,hl2,by omega,rfl,rfl⟩
  ·simp [-qU,Store.frz,zcd,zcz,zau,zbi,zbf,zbs,zcm,za8,za5,za9,zat,zav,zbv,zba,zbt,za7,Env.put,Env.of,zae,zbu,qP,qC,zdn,zes,zdo]
  simp [-qU,Store.frz,zcd,zcz,zau,zbi,zbf,zbs,zcm,za8,za5,za9,zat,zav,zbv,zba,zbt,za7,Env.put,Env.of,zae,zbu,qP,qC,zdn,zes,zdo]
 try simp only[RL]at h
 obtain rfl:i=many:=by omega
 refine W.exit ?_
 refine xe ?_
 refine xe ?_
 refine XBlock.hit ?_
 refine xn ?_
 refine W.r fun K hK=>?_
 simp(disch:=omega)only[↓RU,RV,RH,↓reduceIte,qE,reduceCtorEq,if_pos,↓RS,RG,qA,qM,qL]
 apply hK;clear hK K
 refine W.ret ?_
 refine Br rfl ?_
 exact ⟨_,p2,q2,tk,rfl,hp2,hl2,by omega,zah⟩
theorem z4d {nh nw:Nat} (h1:1≤nh) (h2:nh≤6) (w1:1≤nw) (w2:nw≤6):zcu (List.replicate nh (List.replicate nw (97:UInt8)))=true:=by
 rcases (show nh=1∨nh=2∨nh=3∨nh=4∨nh=5∨nh=6 by omega) with rfl | rfl | rfl | rfl | rfl | rfl <;>
 rcases (show nw=1∨nw=2∨nw=3∨nw=4∨nw=5∨nw=6 by omega) with rfl | rfl | rfl | rfl | rfl | rfl <;> decide +kernel
def yie:List Txt:=[[97,97,98],[99,100,98],[99,101,101]]
def yif:List Txt:=[[97,97,97,98],[99,100,100,98],[99,100,100,98],[99,101,101,101]]
theorem z1c:zcu yie=true:=by decide +kernel
theorem z1d:zcu yif=true:=by decide +kernel
theorem z4v {code:Txt} {q vr t:Nat} (hc:code.length≤1048576) (hq:q≤800000) {nh nw:Nat} (h1:1≤nh) (h2:nh≤6) (w1:1≤nw) (w2:nw≤6):Ev Tryz.prog 146 [.ref 0 vr 0,.int .i64 nh,.int .i64 nw] ⟨[.arr vr 118 2 [eBy code,.int .i64 (q:Int)]],t⟩ fun v S=>∃ (p2:List Txt) (q2 t2:Nat),v=zan p2∧zcu p2=true∧p2.length=nh∧q2≤q+100∧S=⟨[.arr vr 118 2 [eBy code,.int .i64 (q2:Int)]],t2⟩:=by
 refine Ev.of ⟨Tryz.func146,by kernel_rfl,rfl,by kernel_rfl⟩ zao mixed (by show 3≤Tryz.f146.ntmps; decide) ?_
 refine W.r fun K hK=>?_
 simp(disch:=omega)only[↓RU,RV,RH,↓reduceIte,qE,reduceCtorEq,if_pos,↓RS,RG,qA,qM,qL]
 apply hK;clear hK K
 refine W.seq ?_
 refine W.join [0,1,2,17] (fun vs S=>∃ (q2:Nat) (b:Bool),q2≤q+1∧(b=true→nh=3)∧vs=[.ref 0 vr 0,.int .i64 nh,.int .i64 nw,.bool b]∧S=⟨[.arr vr 118 2 [eBy code,.int .i64 (q2:Int)]],t⟩) ?_ ?_
 ·
  refine W.k fun K hK=>?_
  rcases hd:(((nh:Int) == 3),((nw:Int) == 3)) with ⟨_ | _,_ | _⟩
  ·skip
   simp only[Prod.mk.injEq]at hd
   obtain ⟨hd1,hd2⟩:=hd
   simp(disch:=omega)only[↓RU,RV,RH,↓reduceIte,qE,reduceCtorEq,if_pos,w64,qN,↓RS,RG,qA,qM,qL,zaa,hd1,hd2]
   apply hK;clear hK K
   refine xn ?_
   refine ⟨_,q,false,by omega,fun h9=>(by cases h9),?_,zah⟩
   simp [Env.put,Env.of,zae]
  ·skip
   simp only[Prod.mk.injEq]at hd
   obtain ⟨hd1,hd2⟩:=hd
   simp(disch:=omega)only[↓RU,RV,RH,↓reduceIte,qE,reduceCtorEq,if_pos,w64,qN,↓RS,RG,qA,qM,qL,zaa,hd1,hd2]
   apply hK;clear hK K
   refine xn ?_
   refine ⟨_,q,false,by omega,fun h9=>(by cases h9),?_,zah⟩
   simp [Env.put,Env.of,zae]
  ·skip
   simp only[Prod.mk.injEq]at hd
   obtain ⟨hd1,hd2⟩:=hd
   simp(disch:=omega)only[↓RU,RV,RH,↓reduceIte,qE,reduceCtorEq,if_pos,w64,qN,↓RS,RG,qA,qM,qL,zaa,hd1,hd2]
   apply hK;clear hK K
   refine xn ?_
   refine ⟨_,q,false,by omega,fun h9=>(by cases h9),?_,zah⟩
   simp [Env.put,Env.of,zae]
  skip
  simp only[Prod.mk.injEq]at hd
  obtain ⟨hd1,hd2⟩:=hd
  simp(disch:=omega)only[↓RU,RV,RH,↓reduceIte,qE,reduceCtorEq,if_pos,w64,qN,↓RS,RG,qA,qM,qL,zaa,hd1,hd2]
  refine zad.ev (zdg (q:=q) hc (by omega) 2 (by omega) (by omega)) ?_
  rintro _ _ ⟨k1,rfl,-,hk1,rfl⟩
  have hk1b:=hk1 (by omega)
  simp(disch:=omega)only[↓RU,RV,RH,↓reduceIte,qE,reduceCtorEq,if_pos,w64,qN,↓RS,RG,qA,qM,qL,zaa,hd1,hd2]
  apply hK;clear hK K
  refine xn ?_
  refine ⟨_,q+1,((k1:Int) == 0),by omega,fun _=>(by have:=beq_iff_eq.1 hd1; omega),?_,zah⟩
  simp [Env.put,Env.of,zae]
 rintro vs S - ⟨qa,b3,hqa,hb3,rfl,rfl⟩
 refine W.cond rfl (fun h3=>?_) (fun h3=>?_)
 ·try simp only[RL]at h3
  refine W.r fun K hK=>?_
  simp(disch:=omega)only[↓RU,RV,RH,↓reduceIte,qE,reduceCtorEq,if_pos,qN,↓RS,RG,qA,qM,qL,ty6,zac]
  refine zad.ev (zdg (q:=qa) hc (by omega) 2 (by omega) (by omega)) ?_
  rintro _ _ ⟨k1,rfl,-,hk1,rfl⟩
  have hk1b:=hk1 (by omega)
  simp(disch:=omega)only[↓RU,RV,RH,↓reduceIte,qE,reduceCtorEq,if_pos,qN,↓RS,RG,qA,qM,qL,ty6,zac]
  refine zad.ev (ztl (q:=qa+1) (R:=[]) hc (by omega) z1c (many:=k1) (by omega)) ?_
  rintro _ _ ⟨p2,q2,t2,rfl,hp2,hl2,hq2,rfl⟩
  simp(disch:=omega)only[↓RU,RV,RH,↓reduceIte,qE,reduceCtorEq,if_pos,qN,↓RS,RG,qA,qM,qL,ty6,zac]
  apply hK;clear hK K
  refine W.ret ?_
  refine XThen.ret ?_
  refine Br rfl ?_
  exact ⟨_,p2,q2,t2,rfl,hp2,hl2.trans (hb3 h3).symm,by omega,zah⟩
 try simp only[RL]at h3
 refine W.skip ?_
 refine xn ?_
 refine W.seq ?_
 refine W.join [0,1,2,33] (fun vs S=>∃ (q2:Nat) (b:Bool),q2≤q+2∧(b=true→nh=4)∧vs=[.ref 0 vr 0,.int .i64 nh,.int .i64 nw,.bool b]∧S=⟨[.arr vr 118 2 [eBy code,.int .i64 (q2:Int)]],t⟩) ?_ ?_
 ·
  refine W.k fun K hK=>?_
  rcases hd:(((nh:Int) == 4),((nw:Int) == 4)) with ⟨_ | _,_ | _⟩
  ·skip
   simp only[Prod.mk.injEq]at hd
   obtain ⟨hd1,hd2⟩:=hd
   simp(disch:=omega)only[↓RU,RV,RH,↓reduceIte,qE,reduceCtorEq,if_pos,w64,qN,↓RS,RG,qA,qM,qL,zaa,hd1,hd2]
   apply hK;clear hK K
   refine xn ?_
   refine ⟨_,qa,false,by omega,fun h9=>(by cases h9),?_,zah⟩
   simp [Env.put,Env.of,zae]
  ·skip
   simp only[Prod.mk.injEq]at hd
   obtain ⟨hd1,hd2⟩:=hd
   simp(disch:=omega)only[↓RU,RV,RH,↓reduceIte,qE,reduceCtorEq,if_pos,w64,qN,↓RS,RG,qA,qM,qL,zaa,hd1,hd2]
   apply hK;clear hK K
   refine xn ?_
   refine ⟨_,qa,false,by omega,fun h9=>(by cases h9),?_,zah⟩
   simp [Env.put,Env.of,zae]
  ·skip
   simp only[Prod.mk.injEq]at hd
   obtain ⟨hd1,hd2⟩:=hd
   simp(disch:=omega)only[↓RU,RV,RH,↓reduceIte,qE,reduceCtorEq,if_pos,w64,qN,↓RS,RG,qA,qM,qL,zaa,hd1,hd2]
   apply hK;clear hK K
   refine xn ?_
   refine ⟨_,qa,false,by omega,fun h9=>(by cases h9),?_,zah⟩
   simp [Env.put,Env.of,zae]
  skip
  simp only[Prod.mk.injEq]at hd
  obtain ⟨hd1,hd2⟩:=hd
  simp(disch:=omega)only[↓RU,RV,RH,↓reduceIte,qE,reduceCtorEq,if_pos,w64,qN,↓RS,RG,qA,qM,qL,zaa,hd1,hd2]
  refine zad.ev (zdg (q:=qa) hc (by omega) 2 (by omega) (by omega)) ?_
  rintro _ _ ⟨k1,rfl,-,hk1,rfl⟩
  have hk1b:=hk1 (by omega)
  simp(disch:=omega)only[↓RU,RV,RH,↓reduceIte,qE,reduceCtorEq,if_pos,w64,qN,↓RS,RG,qA,qM,qL,zaa,hd1,hd2]
  apply hK;clear hK K
  refine xn ?_
  refine ⟨_,qa+1,((k1:Int) == 0),by omega,fun _=>(by have:=beq_iff_eq.1 hd1; omega),?_,zah⟩
  simp [Env.put,Env.of,zae]
 rintro vs S - ⟨qb,b4,hqb,hb4,rfl,rfl⟩
 refine W.cond rfl (fun h4=>?_) (fun h4=>?_)
 ·try simp only[RL]at h4
  refine W.r fun K hK=>?_
  simp(disch:=omega)only[↓RU,RV,RH,↓reduceIte,qE,reduceCtorEq,if_pos,qN,↓RS,RG,qA,qM,qL,ty6,zac]
  refine zad.ev (zdg (q:=qb) hc (by omega) 4 (by omega) (by omega)) ?_
  rintro _ _ ⟨k2,rfl,-,hk2,rfl⟩
  have hk2b:=hk2 (by omega)
  simp(disch:=omega)only[↓RU,RV,RH,↓reduceIte,qE,reduceCtorEq,if_pos,qN,↓RS,RG,qA,qM,qL,ty6,zac]
  refine zad.ev (ztl (q:=qb+1) (R:=[]) hc (by omega) z1d (many:=k2) (by omega)) ?_
  rintro _ _ ⟨p2,q2,t2,rfl,hp2,hl2,hq2,rfl⟩
  simp(disch:=omega)only[↓RU,RV,RH,↓reduceIte,qE,reduceCtorEq,if_pos,qN,↓RS,RG,qA,qM,qL,ty6,zac]
  apply hK;clear hK K
  refine W.ret ?_
  refine XThen.ret ?_
  refine Br rfl ?_
  exact ⟨_,p2,q2,t2,rfl,hp2,hl2.trans (hb4 h4).symm,by omega,zah⟩
 try simp only[RL]at h4
 refine W.skip ?_
 refine xn ?_
 refine W.r fun K hK=>?_
 simp(disch:=omega)only[↓RU,RV,RH,↓reduceIte,qE,reduceCtorEq,if_pos,qN,↓RS,RG,qA,qM,qL]
 refine zad.pc (z0j (nh:=nh) (nw:=nw) (by omega) (by omega)) rfl (.inl rfl) ?_
 simp(disch:=omega)only[↓RU,RV,RH,↓reduceIte,qE,reduceCtorEq,if_pos,qN,↓RS,RG,qA,qM,qL]
 refine zad.ev (zdg (q:=qb) hc (by omega) 9 (by omega) (by omega)) ?_
 rintro _ _ ⟨k3,rfl,-,hk3,rfl⟩
 have hk3b:=hk3 (by omega)
 simp(disch:=omega)only[↓RU,RV,RH,↓reduceIte,qE,reduceCtorEq,if_pos,qN,↓RS,RG,qA,qM,qL]
 refine zad.ev (z7x (q:=qb+1) (R:=[]) hc (by omega) (z4d h1 h2 w1 w2) (many:=k3) (by omega)) ?_
 rintro _ _ ⟨p2,q2,t2,rfl,hp2,hl2,hq2,rfl⟩
 simp(disch:=omega)only[↓RU,RV,RH,↓reduceIte,qE,reduceCtorEq,if_pos,qN,↓RS,RG,qA,qM,qL]
 apply hK;clear hK K
 refine W.ret ?_
 refine Br rfl ?_
 exact ⟨_,p2,q2,t2,rfl,hp2,by simpa using hl2,by omega,zah⟩
theorem ydv {p:List Txt} (h:Sm p) {i:Nat} {r:Txt} (hr:r.length≤1048576):Sm (p.set i r):=by
 refine ⟨by rw [List.length_set]; exact h.1,fun x hx=>?_⟩
 rcases List.mem_or_eq_of_mem_set hx with k | rfl
 ·exact h.2 x k
 exact hr
theorem yhy {p:List Txt} {x:Txt} (h:0<p.length):PV.str x::List.drop 1 (p.map PV.str)=(p.set 0 x).map .str:=by cases p with | nil=>simp at h | cons a p=>simp
theorem zjv {k:Nat}:(1:Int)+(k:Int)=((1+k:Nat):Int):=by omega
theorem ztm {code:Txt} {q vr t:Nat} (hc:code.length≤1048576) (hq:q≤700000) {rows cols:Nat} (h1:1≤rows) (h2:rows≤6) (w1:1≤cols) (w2:cols≤6):Ev Tryz.prog 110 [.ref 0 vr 0,.int .i64 rows,.int .i64 cols] ⟨[.arr vr 118 2 [eBy code,.int .i64 (q:Int)]],t⟩ fun v S=>∃ (p2:List Txt) (q2 t2:Nat),v=zan p2∧Sm p2∧p2.length≤6∧q2≤q+200∧S=⟨[.arr vr 118 2 [eBy code,.int .i64 (q2:Int)]],t2⟩:=by
 refine Ev.of ⟨Tryz.func110,by kernel_rfl,rfl,by kernel_rfl⟩ zao mixed (by show 3≤Tryz.f110.ntmps; decide) ?_
 refine W.r fun K hK=>?_
 simp(disch:=omega)only[↓RU,RV,RH,↓reduceIte,qE,reduceCtorEq,if_pos,↓RS,RG,qA,qM,qL]
 apply hK;clear hK K
 refine W.r fun K hK=>?_
 simp(disch:=omega)only[↓RU,RV,RH,↓reduceIte,qE,reduceCtorEq,if_pos,qN,w64,↓RS,RG,qA,qM,qL,zaa]
 refine zad.ev (zdg hc (by omega) (rows:Int) (by omega) (by omega)) ?_
 rintro _ _ ⟨k1,rfl,-,hk1,rfl⟩
 have hk1b:=hk1 (by omega)
 simp(disch:=omega)only[↓RU,RV,RH,↓reduceIte,qE,reduceCtorEq,if_pos,qN,w64,↓RS,RG,qA,qM,qL,zaa,zjv]
 apply hK;clear hK K
 refine W.r fun K hK=>?_
 simp(disch:=omega)only[↓RU,RV,RH,↓reduceIte,qE,reduceCtorEq,if_pos,qN,w64,↓RS,RG,qA,qM,qL,zaa]
 refine zad.ev (zdg hc (by omega) (cols:Int) (by omega) (by omega)) ?_
 rintro _ _ ⟨k2,rfl,-,hk2,rfl⟩
 have hk2b:=hk2 (by omega)
 simp(disch:=omega)only[↓RU,RV,RH,↓reduceIte,qE,reduceCtorEq,if_pos,qN,w64,↓RS,RG,qA,qM,qL,zaa,zjv]
 refine zad.ev (z4v (q:=q+1+1) hc (by omega) (nh:=1+k1) (nw:=1+k2) (by omega) (by omega) (by omega) (by omega)) ?_
 rintro _ _ ⟨p2,q2,t2,rfl,hp2,hl2,hq2,rfl⟩
 simp(disch:=omega)only[↓RU,RV,RH,↓reduceIte,qE,reduceCtorEq,if_pos,qN,w64,↓RS,RG,qA,qM,qL,zaa]
 apply hK;clear hK K
 obtain ⟨ps1,ps2,ps3⟩:=zn8 hp2
 have hsm:=z0t hp2
 obtain ⟨nh,hnh⟩:∃ nh:Nat,1+k1=nh:=⟨_,rfl⟩
 simp only[hnh]at hl2 ⊢
 refine W.joinZ [8] (fun vs S=>∃ (p3:List Txt) (q3 tk:Nat),Sm p3∧p3.length≤6∧q3≤q+200∧vs=[zan p3]∧S=⟨[.arr vr 118 2 [eBy code,.int .i64 (q3:Int)]],tk⟩) ?_ ?_
 ·
  refine W.r fun K hK=>?_
  simp(disch:=omega)only[↓RU,RV,RH,↓reduceIte,qE,reduceCtorEq,if_pos,qN,↓RS,RG,qA,qM,qL]
  refine zad.ev (zdg hc (by omega) 50 (by omega) (by omega)) ?_
  rintro _ _ ⟨k3,rfl,-,hk3,rfl⟩
  simp(disch:=omega)only[↓RU,RV,RH,↓reduceIte,qE,reduceCtorEq,if_pos,qN,↓RS,RG,qA,qM,qL]
  apply hK;clear hK K
  refine W.block ?_
  refine W.r fun K hK=>?_
  simp(disch:=omega)only[↓RU,RV,RH,↓reduceIte,qE,reduceCtorEq,if_pos,w64,↓RS,RG,qA,qM,qL,zaa]
  apply hK;clear hK K
  refine W.cond rfl (fun h0=>?_) (fun h0=>?_)
  ·try simp only[RL]at h0
   obtain ⟨row,hrow,hrm⟩:=zaf (show nh - 1<p2.length by omega)
   have hr6:=(ps3 row hrm).2
   refine W.r fun K hK=>?_
   simp(disch:=omega)only[↓RU,RV,RH,↓reduceIte,qE,reduceCtorEq,if_pos,↓RS,RG,qA,qM,qL,ty6,zac]
   apply hK;clear hK K
   refine W.k fun K hK=>?_
   simp(disch:=omega)only[↓RU,RV,RH,↓reduceIte,qE,reduceCtorEq,if_pos,w64,↓RS,RG,qA,qM,qL,ty6,zaa,zac,zbb,hrow,zyj,zbo,zl0,zjf,List.length_cons,List.length_nil]
   apply hK;clear hK K
   refine XbN ?_
   refine xn ?_
   have hPs:Sm (p2.set (nh - 1) (row++[97])):=ydv hsm (by simp; omega)
   have hPl:(p2.set (nh - 1) (row++[97])).length=p2.length:=by simp
   generalize p2.set (nh - 1) (row++[97])=P at hPs hPl ⊢
   have htk:(P.map PV.str).take p2.length=P.map .str:=qT (by simp [hPl])
   refine ⟨1,[zan P],⟨[.arr vr 118 2 [eBy code,.int .i64 ((q2+1:Nat):Int)]],t2+1+1⟩,?_,?_,P,q2+1,t2+1+1,hPs,by omega,by omega,rfl,rfl⟩
   ·simp [-qU,Store.frz,zcd,zcz,zau,zbi,zbf,zbs,zcm,za8,za5,za9,zat,zav,zbv,zba,zbt,za7,Env.put,Env.of,zae,zbu,qP,qC,zdn,zes,zdo,htk,hPl]
   simp [-qU,Store.frz,zcd,zcz,zau,zbi,zbf,zbs,zcm,za8,za5,za9,zat,zav,zbv,zba,zbt,za7,Env.put,Env.of,zae,zbu,qP,qC,zdn,zes,zdo]
  try simp only[RL]at h0
  refine W.r fun K hK=>?_
  simp(disch:=omega)only[↓RU,RV,RH,↓reduceIte,qE,reduceCtorEq,if_pos,w64,↓RS,RG,qA,qM,qL,zaa]
  apply hK;clear hK K
  refine W.cond rfl (fun h1=>?_) (fun h1=>?_)
  ·try simp only[RL]at h1
   obtain ⟨row,hrow,hrm⟩:=zaf (show 0<p2.length by omega)
   have hr6:=ps3 row hrm
   have hdl:(row.drop 1).length≤6:=by rw [List.length_drop]; omega
   refine W.r fun K hK=>?_
   simp(disch:=omega)only[↓RU,RV,RH,↓reduceIte,qE,reduceCtorEq,if_pos,↓RS,RG,qA,qM,qL,ty6,zac]
   apply hK;clear hK K
   refine W.k fun K hK=>?_
   simp(disch:=omega)only[↓RU,RV,RH,↓reduceIte,qE,reduceCtorEq,if_pos,Option.map_none,w64,↓RS,RG,qA,qM,qL,ty6,zac,hrow,zyj,zbo,zl0,zjf,List.length_cons,List.length_nil,Int.toNat_zero,qZ,List.take_length,Nat.zero_mul,Nat.zero_add]
   apply hK;clear hK K
   rw [yhy (show 0<p2.length by omega)]
   refine XbN ?_
   refine xn ?_
   have hPs:Sm (p2.set 0 (122::row.drop 1)):=ydv hsm (by simp; omega)
   have hPl:(p2.set 0 (122::row.drop 1)).length=p2.length:=by simp
   generalize p2.set 0 (122::row.drop 1)=P at hPs hPl ⊢
   have htk:(P.map PV.str).take p2.length=P.map .str:=qT (by simp [hPl])
   refine ⟨1,[zan P],⟨[.arr vr 118 2 [eBy code,.int .i64 ((q2+1:Nat):Int)]],t2+1+1⟩,?_,?_,P,q2+1,t2+1+1,hPs,by omega,by omega,rfl,rfl⟩
   ·simp [-qU,Store.frz,zcd,zcz,zau,zbi,zbf,zbs,zcm,za8,za5,za9,zat,zav,zbv,zba,zbt,za7,Env.put,Env.of,zae,zbu,qP,qC,zdn,zes,zdo,htk,hPl]
   simp [-qU,Store.frz,zcd,zcz,zau,zbi,zbf,zbs,zcm,za8,za5,za9,zat,zav,zbv,zba,zbt,za7,Env.put,Env.of,zae,zbu,qP,qC,zdn,zes,zdo]
  try simp only[RL]at h1
  refine W.skip ?_
  refine XbN ?_
  refine xn ?_
  have hPs:=hsm
  have hPl:p2.length=p2.length:=rfl
  have htk:True:=trivial
  refine ⟨1,[zan p2],⟨[.arr vr 118 2 [eBy code,.int .i64 ((q2+1:Nat):Int)]],t2⟩,?_,?_,p2,q2+1,t2,hPs,by omega,by omega,rfl,rfl⟩
  ·simp [-qU,Store.frz,zcd,zcz,zau,zbi,zbf,zbs,zcm,za8,za5,za9,zat,zav,zbv,zba,zbt,za7,Env.put,Env.of,zae,zbu,qP,qC,zdn,zes,zdo,htk,hPl]
  simp [-qU,Store.frz,zcd,zcz,zau,zbi,zbf,zbs,zcm,za8,za5,za9,zat,zav,zbv,zba,zbt,za7,Env.put,Env.of,zae,zbu,qP,qC,zdn,zes,zdo]
 rintro vs S - ⟨p3,q3,tk,hs3,hl3,hq3,rfl,rfl⟩
 refine W.r fun K hK=>?_
 simp(disch:=omega)only[↓RU,RV,RH,↓reduceIte,qE,reduceCtorEq,if_pos,↓RS,RG,qA,qM,qL]
 apply hK;clear hK K
 refine W.ret ?_
 refine Br rfl ?_
 exact ⟨_,p3,q3,tk,rfl,hs3,hl3,hq3,zah⟩
theorem z0k {code:Txt} {q vr t:Nat} (hc:code.length≤1048576) (hq:q≤600000) {rows cols:Nat} (h1:1≤rows) (h2:rows≤6) (w1:1≤cols) (w2:cols≤6):Ev Tryz.prog 56 [.ref 0 vr 0,.int .i64 rows,.int .i64 cols] ⟨[.arr vr 118 2 [eBy code,.int .i64 (q:Int)]],t⟩ fun v S=>∃ (p2:List Txt) (q2 t2:Nat),v=zan p2∧Sm p2∧p2.length≤6∧q2≤q+1000∧S=⟨[.arr vr 118 2 [eBy code,.int .i64 (q2:Int)]],t2⟩:=by
 refine Ev.of ⟨Tryz.func56,by kernel_rfl,rfl,by kernel_rfl⟩ zao mixed (by show 3≤Tryz.f56.ntmps; decide) ?_
 refine W.r fun K hK=>?_
 simp(disch:=omega)only[↓RU,RV,RH,↓reduceIte,qE,reduceCtorEq,if_pos,↓RS,RG,qA,qM,qL]
 apply hK;clear hK K
 refine W.r fun K hK=>?_
 simp(disch:=omega)only[↓RU,RV,RH,↓reduceIte,qE,reduceCtorEq,if_pos,qN,↓RS,RG,qA,qM,qL]
 refine zad.ev (ztm (q:=q) hc (by omega) h1 h2 w1 w2) ?_
 rintro _ _ ⟨p3,q3,t3,rfl,hs3,hl3,hq3,rfl⟩
 simp(disch:=omega)only[↓RU,RV,RH,↓reduceIte,qE,reduceCtorEq,if_pos,qN,↓RS,RG,qA,qM,qL]
 apply hK;clear hK K
 refine W.seq ?_
 refine W.r fun K hK=>?_
 simp(disch:=omega)only[↓RU,RV,RH,↓reduceIte,qE,reduceCtorEq,if_pos,↓RS,RG,qA,qM,qL]
 apply hK;clear hK K
 refine W.block ?_
 refine W.loop [0,1,2,7,8] (fun n vs S=>∃ (i:Nat) (p2:List Txt) (q2 tk:Nat),n=3 - i∧i≤3∧Sm p2∧p2.length≤6∧q2≤q+200+200*i∧vs=[.ref 0 vr 0,.int .i64 rows,.int .i64 cols,zan p2,.int .i64 i]∧S=⟨[.arr vr 118 2 [eBy code,.int .i64 (q2:Int)]],tk⟩) 3 ?_ ?_
 ·refine ⟨1,0,p3,q3,t3,rfl,by omega,hs3,hl3,by omega,?_,rfl⟩
  simp [Env.put,Env.of,zae]
 rintro n vs S - ⟨i,p2,q2,tk,rfl,h_i,hs2,hl2,hq2,rfl,rfl⟩
 refine W.seq ?_
 refine W.r fun K hK=>?_
 by_cases hi3:i<3
 ·skip
  have hd:decide ((i:Int)<3)=true:=decide_eq_true (by omega)
  simp(disch:=omega)only[↓RU,RV,RH,↓reduceIte,qE,reduceCtorEq,if_pos,w64,qN,↓RS,RG,qA,qM,qL,zaa,hd]
  refine zad.pc (znf hs2) rfl (.inl rfl) ?_
  simp(disch:=omega)only[↓RU,RV,RH,↓reduceIte,qE,reduceCtorEq,if_pos,w64,qN,↓RS,RG,qA,qM,qL,zaa,hd]
  apply hK;clear hK K
  refine W.cond rfl (fun h=>?_) (fun h=>?_)
  ·try simp only[RL]at h
   refine W.skip ?_
   refine xn ?_
   refine W.seq ?_
   refine W.block ?_
   refine W.k fun K hK=>?_
   simp(disch:=omega)only[↓RU,RV,RH,↓reduceIte,qE,reduceCtorEq,if_pos,qN,↓RS,RG,qA,qM,qL]
   refine zad.ev (ztm (q:=q2) hc (by omega) h1 h2 w1 w2) ?_
   rintro _ _ ⟨p3,q3,t3,rfl,hs3,hl3,hq3,rfl⟩
   simp(disch:=omega)only[↓RU,RV,RH,↓reduceIte,qE,reduceCtorEq,if_pos,qN,↓RS,RG,qA,qM,qL]
   apply hK;clear hK K
   refine XbN ?_
   refine xn ?_
   refine W.k fun K hK=>?_
   simp(disch:=omega)only[↓RU,RV,RH,↓reduceIte,qE,reduceCtorEq,if_pos,w64,↓RS,RG,qA,qM,qL,zaa]
   apply hK;clear hK K
   refine xn ?_
   refine ⟨3 - (i+1),by omega,1,i+1,p3,q3,t3,rfl,by omega,hs3,hl3,by omega,?_,rfl⟩
   simp [Env.put,Env.of]
  try simp only[RL]at h
  refine W.exit ?_
  refine xe ?_
  refine xe ?_
  refine XBlock.hit ?_
  refine xn ?_
  refine W.r fun K hK=>?_
  simp(disch:=omega)only[↓RU,RV,RH,↓reduceIte,qE,reduceCtorEq,if_pos,↓RS,RG,qA,qM,qL]
  apply hK;clear hK K
  refine W.ret ?_
  refine Br rfl ?_
  exact ⟨_,p2,q2,tk,rfl,hs2,hl2,by omega,zah⟩
 skip
 have hd:decide ((i:Int)<3)=false:=decide_eq_false (by omega)
 simp(disch:=omega)only[↓RU,RV,RH,↓reduceIte,qE,reduceCtorEq,if_pos,w64,qN,↓RS,RG,qA,qM,qL,zaa,hd]
 apply hK;clear hK K
 refine W.cond rfl (fun h=>?_) (fun h=>?_)
 ·try simp only[RL]at h
  exact absurd h (by simp)
 try simp only[RL]at h
 refine W.exit ?_
 refine xe ?_
 refine xe ?_
 refine XBlock.hit ?_
 refine xn ?_
 refine W.r fun K hK=>?_
 simp(disch:=omega)only[↓RU,RV,RH,↓reduceIte,qE,reduceCtorEq,if_pos,↓RS,RG,qA,qM,qL]
 apply hK;clear hK K
 refine W.ret ?_
 refine Br rfl ?_
 exact ⟨_,p2,q2,tk,rfl,hs2,hl2,by omega,zah⟩
theorem zlf {k:Nat}:((k:Nat):Int).tdiv 39=((k / 39:Nat):Int):=(Int.ofNat_tdiv k 39).symm
theorem yad:((39:Int)=0)=False:=by simp
theorem tk_i {l:List Int} {q:IntKind} {i:Nat} (h:l.length=i):(l.map (PV.int q)).take i=l.map (.int q):=qT (by simp [h])

theorem zo3 {S:Store} {a b:Bool}:pEq tab S 4 (.bool a) (.bool b)=some (a == b):=rfl

theorem z0y {p q:List Int} (hp:p.length<2147483648) (hq:q.length<2147483648):PC Tryz.prog 25 [eInts p,eInts q] (.bool (decide (p=q))) true:=by
 refine PC.of ⟨Tryz.func25,by kernel_rfl,rfl,by kernel_rfl⟩ zao mixed (by show 2≤Tryz.f25.ntmps; decide) ?_
 refine W.r fun K hK=>?_
 simp(disch:=omega)only[↓RU,RV,RH,↓reduceIte,qE,reduceCtorEq,if_pos]
 apply hK;clear hK K
 refine W.seq ?_
 refine W.r fun K hK=>?_
 simp(disch:=omega)only[↓RU,RV,RH,↓reduceIte,qE,reduceCtorEq,if_pos,w64,zab,zaa]
 apply hK;clear hK K
 refine W.cond rfl (fun h=>?_) (fun h=>?_)
 ·try simp only[RL]at h
  refine W.r fun K hK=>?_
  simp(disch:=omega)only[↓RU,RV,RH,↓reduceIte,qE,reduceCtorEq,if_pos]
  apply hK;clear hK K
  refine W.ret ?_
  refine XThen.ret ?_
  refine Br rfl ?_
  rw [show decide (p=q)=false by simp; rintro rfl; exact h rfl]
  rfl
 try simp only[RL]at h
 refine W.skip ?_
 refine xn ?_
 refine W.seq ?_
 refine W.r fun K hK=>?_
 simp(disch:=omega)only[↓RU,RV,RH,↓reduceIte,qE,reduceCtorEq,if_pos]
 apply hK;clear hK K
 refine W.block ?_
 refine W.loop [0,1,5] (fun n vs S=>∃ i:Nat,n=p.length - i∧i≤p.length∧(p.take i=q.take i)∧vs=[eInts p,eInts q,.int .i64 i]∧S=⟨[],0⟩) (p.length) ?_ ?_
 ·refine ⟨0,0,rfl,Nat.zero_le _,rfl,?_,rfl⟩
  simp [Env.put,Env.of,zae]
 rintro n vs S - ⟨i,rfl,h_i,htk,rfl,rfl⟩
 refine W.seq ?_
 refine W.r fun K hK=>?_
 simp(disch:=omega)only[↓RU,RV,RH,↓reduceIte,qE,reduceCtorEq,if_pos,w64,zab,zaa]
 apply hK;clear hK K
 refine W.cond rfl (fun h1=>?_) (fun h1=>?_)
 ·try simp only[RL]at h1
  obtain ⟨x,hx,-⟩:=zaf (show i<p.length by omega)
  obtain ⟨y,hy,-⟩:=zaf (show i<q.length by omega)
  refine W.skip ?_
  refine xn ?_
  refine W.seq ?_
  refine W.block ?_
  refine W.seq_draw (by kernel_rfl) fun K hK=>?_
  simp(disch:=omega)only[↓RU,RV,RH,↓reduceIte,qE,reduceCtorEq,if_pos,w64,zab,zaa,hx,hy]
  apply hK;clear hK K
  refine W.cond rfl (fun h2=>?_) (fun h2=>?_)
  ·try simp only[RL]at h2
   refine W.r fun K hK=>?_
   simp(disch:=omega)only[↓RU,RV,RH,↓reduceIte,qE,reduceCtorEq,if_pos]
   apply hK;clear hK K
   refine W.ret ?_
   refine XBlock.ret ?_
   refine XThen.ret ?_
   refine XThen.ret ?_
   refine XBlock.ret ?_
   refine XThen.ret ?_
   refine Br rfl ?_
   rw [show decide (p=q)=false by simp; rintro rfl; rw [hx]at hy; simp_all]
   rfl
  try simp only[RL]at h2
  have h2:x=y:=by simpa using h2
  refine W.skip ?_
  refine XbN ?_
  refine xn ?_
  refine W.k fun K hK=>?_
  simp(disch:=omega)only[↓RU,RV,RH,↓reduceIte,qE,reduceCtorEq,if_pos,w64,zaa]
  apply hK;clear hK K
  refine xn ?_
  refine ⟨p.length - (i+1),by omega,0,i+1,rfl,by omega,zgh htk hx hy h2,?_,rfl⟩
  simp [Env.put,Env.of]
 try simp only[RL]at h1
 refine W.exit ?_
 refine xe ?_
 refine xe ?_
 refine XBlock.hit ?_
 refine xn ?_
 refine W.r fun K hK=>?_
 simp(disch:=omega)only[↓RU,RV,RH,↓reduceIte,qE,reduceCtorEq,if_pos]
 apply hK;clear hK K
 refine W.ret ?_
 refine Br rfl ?_
 have h1:p.take i=p:=qT (by omega)
 have h2:q.take i=q:=qT (by omega)
 rw [show decide (p=q)=true by simp; rw [← h1,← h2]; exact htk]
 rfl
theorem PN.ints0 {P:Program} {f:FuncId} {args:List PV} {l:List Int} {n:Nat} {im:Bool} (h:PN P f args (.loc 0 0 0 n) [.arr 0 3 1 (l.map (.int .i64))] im) (h1:args.mapM (reify ⟨[],0⟩ true 10)=some args) (hl:l.length=n):PC P f args (eInts l) true:=by
 refine PN.pc h h1 ?_
 subst hl
 simp only[zzn,List.map_cons,List.map_nil,zkx,zwa,Nat.add_zero]
 exact zb5 (k:=9) rfl (by simp) (zmn _)
theorem z5t {p:List Txt} (hv:zc0 p=true):PC Tryz.prog 98 [(.agg [zhp (lfM p),zhp (abM p)]),.bm 99 (.agg [zhp (lfM p),zhp (abM p)])] (eInts (srt p false)) true∧PC Tryz.prog 98 [(.agg [zhp (lfM p),zhp (abM p)]),.bm 100 (.agg [zhp (lfM p),zhp (abM p)])] (eInts (srt p true)) true:=by
 have hok:=(zhc hv).1
 have hn9:=zge hok
 have hn1:=zkm hok
 have hlq:=ydl hv
 have haq:=ycu hv
 have hp:zca p=true:=by rw [← zfh]; exact hv
 obtain ⟨f,hf,hi⟩:=zlg hp false
 obtain ⟨g,hg,hj⟩:=zlg hp true
 exact ⟨PN.ints0 (zze (bf:=bfK p false) hlq hn1 hn9 (fun a b ha hb=>z6g hlq haq ha hb) hf (fun z h1 h2=>z9v hf hi h1 h2)) rfl zi2,
  PN.ints0 (zze (bf:=bfK p true) hlq hn1 hn9 (fun a b ha hb=>zqf hlq haq ha hb) hg (fun z h1 h2=>z9v hg hj h1 h2)) rfl zi2⟩
theorem zn0 {l:List Int} (hl:l.length<2147483648) {x:Int} {i:Nat} (hx:l[i]?=some x) (hi:∀ (j:Nat),j<i→l[j]?≠some x):PC Tryz.prog 101 [eInts l,.int .i64 x] (.int .i64 i) true:=by
 refine PC.of ⟨Tryz.func101,by kernel_rfl,rfl,by kernel_rfl⟩ zao mixed (by show 2≤Tryz.f101.ntmps; decide) ?_
 refine W.r fun K hK=>?_
 simp(disch:=omega)only[↓RU,RV,RH,↓reduceIte,qE,reduceCtorEq,if_pos]
 apply hK;clear hK K
 refine W.seq ?_
 refine W.r fun K hK=>?_
 simp(disch:=omega)only[↓RU,RV,RH,↓reduceIte,qE,reduceCtorEq,if_pos,zab,zaa]
 apply hK;clear hK K
 refine W.block ?_
 refine W.loop [0,1,7,8] (fun n vs S=>∃ j:Nat,n=l.length - j∧j≤l.length∧(j≤i)∧vs=[eInts l,.int .i64 x,.int .i64 l.length,.int .i64 j]∧S=⟨[],0⟩) (l.length) ?_ ?_
 ·refine ⟨0,0,rfl,Nat.zero_le _,Nat.zero_le _,?_,rfl⟩
  simp [Env.put,Env.of,zae]
 rintro n vs S - ⟨j,rfl,h_j,hji,rfl,rfl⟩
 refine W.r fun K hK=>?_
 simp(disch:=omega)only[↓RU,RV,RH,↓reduceIte,qE,reduceCtorEq,if_pos,w64,zaa]
 apply hK;clear hK K
 refine W.seq ?_
 refine W.cond rfl (fun h=>?_) (fun h=>?_)
 ·try simp only[RL]at h
  obtain ⟨y,hy,-⟩:=zaf (show j<l.length by omega)
  refine W.skip ?_
  refine xn ?_
  refine W.seq ?_
  refine W.block ?_
  refine W.r fun K hK=>?_
  simp(disch:=omega)only[↓RU,RV,RH,↓reduceIte,qE,reduceCtorEq,if_pos]
  apply hK;clear hK K
  refine W.r fun K hK=>?_
  simp(disch:=omega)only[↓RU,RV,RH,↓reduceIte,qE,reduceCtorEq,if_pos,w64,zab,zaa,hy]
  apply hK;clear hK K
  refine W.cond rfl (fun h1=>?_) (fun h1=>?_)
  ·try simp only[RL]at h1
   have e:x=y:=by simpa using h1
   have hij:j=i:=by
    refine Classical.byContradiction fun k=>hi j (by omega) (by rw [hy,e])
   subst hij
   refine W.r fun K hK=>?_
   simp(disch:=omega)only[↓RU,RV,RH,↓reduceIte,qE,reduceCtorEq,if_pos]
   apply hK;clear hK K
   refine W.ret ?_
   refine XBlock.ret ?_
   refine XThen.ret ?_
   refine XThen.ret ?_
   refine XBlock.ret ?_
   refine XThen.ret ?_
   refine Br rfl ?_
   rfl
  try simp only[RL]at h1
  have hne:j≠i:=by rintro rfl; rw [hx]at hy; cases hy; simp at h1
  refine W.skip ?_
  refine XbN ?_
  refine xn ?_
  refine W.k fun K hK=>?_
  simp(disch:=omega)only[↓RU,RV,RH,↓reduceIte,qE,reduceCtorEq,if_pos,w64,zaa]
  apply hK;clear hK K
  refine xn ?_
  refine ⟨l.length - (j+1),by omega,0,j+1,rfl,by omega,by have:=hne; omega,?_,rfl⟩
  simp [Env.put,Env.of]
 try simp only[RL]at h
 exact absurd (zbd hx) (by omega)
theorem yfj {p:List Txt} (hv:zc0 p=true):PN Tryz.prog 51 [(.agg [zhp (lfM p),zhp (abM p)])] (.loc 0 0 0 (rP p).length) [.arr 0 3 1 ((zd3 p).map (.int .i64))] false:=by
 have hok:=(zhc hv).1
 have hn9:=zge hok
 have hn1:=zkm hok
 have hlq:=ydl hv
 have haq:=ycu hv
 have hp:zca p=true:=by rw [← zfh]; exact hv
 obtain ⟨hs1,hs2⟩:=z5t hv
 have hl1:=zi2 (p:=p) (below:=false)
 have hl2:=zi2 (p:=p) (below:=true)
 have hpl:=zfq (p:=p)
 refine PN.of ⟨Tryz.func51,by kernel_rfl,rfl,by kernel_rfl⟩ zao mixed (by show 1≤Tryz.f51.ntmps; decide) ?_
 refine W.r fun K hK=>?_
 simp(disch:=omega)only[↓RU,RV,RH,↓reduceIte,qE,reduceCtorEq,if_pos,↓RS,RG,qA,qM,qL,ty0,ty3,zam,zg1,zfb,zg2]
 apply hK;clear hK K
 refine W.r fun K hK=>?_
 simp(disch:=omega)only[↓RU,RV,RH,↓reduceIte,qE,reduceCtorEq,if_pos,qN,↓RS,RG,qA,qM,qL,ty0,ty3,zam,zg1,zfb,zg2,zvo,List.isEmpty_nil,Bool.and_self]
 refine zad.pc (hs1) rfl (.inl rfl) ?_
 simp(disch:=omega)only[↓RU,RV,RH,↓reduceIte,qE,reduceCtorEq,if_pos,qN,↓RS,RG,qA,qM,qL,ty0,ty3,zam,zg1,zfb,zg2,zvo,List.isEmpty_nil,Bool.and_self]
 apply hK;clear hK K
 refine W.r fun K hK=>?_
 simp(disch:=omega)only[↓RU,RV,RH,↓reduceIte,qE,reduceCtorEq,if_pos,qN,↓RS,RG,qA,qM,qL,ty0,ty3,zam,zg1,zfb,zg2,zvo,List.isEmpty_nil,Bool.and_self]
 refine zad.pc (hs2) rfl (.inl rfl) ?_
 simp(disch:=omega)only[↓RU,RV,RH,↓reduceIte,qE,reduceCtorEq,if_pos,qN,↓RS,RG,qA,qM,qL,ty0,ty3,zam,zg1,zfb,zg2,zvo,List.isEmpty_nil,Bool.and_self]
 apply hK;clear hK K
 refine W.joinS [3,4,5] (fun vs S=>∃ t tk:Nat,vs=[eInts (srt p false),eInts (srt p true),.loc 0 t 0 (rP p).length]∧S=⟨[.arr t 3 1 ((List.replicate (rP p).length 0).map (.int .i64))],tk⟩) ?_ ?_
 ·
  refine W.k fun K hK=>?_
  simp(disch:=omega)only[↓RU,RV,RH,↓reduceIte,qE,reduceCtorEq,if_pos,↓RS,RG,qA,qM,qL,zab,zaa,hl2,zel,zdv]
  apply hK;clear hK K
  refine xn ?_
  refine ⟨0,[1],[eInts (srt p false),eInts (srt p true),.loc 0 2 0 (rP p).length],⟨[.arr 2 3 1 ((List.replicate (rP p).length 0).map (.int .i64))],3⟩,?_,?_,2,3,rfl,rfl⟩
  ·simp [-qU,Env.put,Env.of,zae,zbq,zag,zaj,zap,zar,zbz,zb0,zc9,zby,za2,zb1,zc8,zda,za4,za3,zas,zbx,zb2,zc7,za0,zaz,zaq,za1,zbw,ze9,qS,qP,qC,Store.cellsOf]
  simp [-qU,Env.put,Env.of,zae,zbq,zag,zaj,zap,zar,zbz,zb0,zc9,zby,za2,zb1,zc8,zda,za4,za3,zas,zbx,zb2,zc7,za0,zaz,zaq,za1,zbw,ze9,qS,qP,qC,z88]
 rintro vs S - ⟨t0,tk0,rfl,rfl⟩
 refine W.seq ?_
 refine W.r fun K hK=>?_
 simp(disch:=omega)only[↓RU,RV,RH,↓reduceIte,qE,reduceCtorEq,if_pos,↓RS,RG,qA,qM,qL,zab,zaa]
 apply hK;clear hK K
 refine W.block ?_
 refine W.loop [3,5,19,20,21] (fun n vs S=>∃ i t tk:Nat,n=(rP p).length - i∧i≤(rP p).length∧vs=[eInts (srt p false),.loc 0 t 0 (rP p).length,eInts (srt p true),.int .i64 (rP p).length,.int .i64 i]∧S=⟨[.arr t 3 1 (((zd3 p).take i++List.replicate ((rP p).length - i) 0).map (.int .i64))],tk⟩) (rP p).length ?_ ?_
 ·refine ⟨1,0,t0,tk0,rfl,by omega,?_,by simp [Store.take]⟩
  simp [Env.put,Env.of,zae,hl2]
 rintro n vs S - ⟨i,t,tk,rfl,h_i,rfl,rfl⟩
 refine W.r fun K hK=>?_
 simp(disch:=omega)only[↓RU,RV,RH,↓reduceIte,qE,reduceCtorEq,if_pos,w64,↓RS,RG,qA,qM,qL,zaa]
 apply hK;clear hK K
 refine W.seq ?_
 refine W.cond rfl (fun h=>?_) (fun h=>?_)
 ·try simp only[RL]at h
  obtain ⟨a,ha,ha2,hsa⟩:=zv4 (below:=true) hp (show i<(rP p).length by omega)
  have hpa:=z22 hp hsa
  have hix:=ydx (below:=false) hp ha
  have hin:∀ j,j<ahK p false a→(srt p false)[j]?≠some (a:Int):=fun j hj k=>by
   have k1:=zbd hix
   have k2:=zbd k
   rw [List.getElem?_eq_getElem k1]at hix
   rw [List.getElem?_eq_getElem k2]at k
   have:=zrb (zzg hp) k1 k2 ((Option.some.inj hix).trans (Option.some.inj k).symm)
   omega
  have hol:((zd3 p).take i++List.replicate ((rP p).length - i) 0).length=(rP p).length:=by simp [hpl]; omega
  refine W.skip ?_
  refine xn ?_
  refine W.seq ?_
  refine W.block ?_
  refine W.r fun K hK=>?_
  simp(disch:=omega)only[↓RU,RV,RH,↓reduceIte,qE,reduceCtorEq,if_pos,↓RS,RG,qA,qM,qL,zab,zaa,hsa]
  apply hK;clear hK K
  refine W.k fun K hK=>?_
  simp(disch:=omega)only[↓RU,RV,RH,↓reduceIte,qE,reduceCtorEq,if_pos,qN,↓RS,RG,qA,qM,qL,zab,zaa,zbo,zdq,hol]
  refine zad.pc (zn0 (by omega) hix hin) rfl (.inl rfl) ?_
  simp(disch:=omega)only[↓RU,RV,RH,↓reduceIte,qE,reduceCtorEq,if_pos,qN,↓RS,RG,qA,qM,qL,zab,zaa,zbo,zdq,hol]
  apply hK;clear hK K
  refine XbN ?_
  refine xn ?_
  refine W.k fun K hK=>?_
  simp(disch:=omega)only[↓RU,RV,RH,↓reduceIte,qE,reduceCtorEq,if_pos,w64,↓RS,RG,qA,qM,qL,zaa]
  apply hK;clear hK K
  refine xn ?_
  refine ⟨(rP p).length - (i+1),by omega,1,i+1,t,tk,rfl,by omega,?_,?_⟩
  ·simp [Env.put,Env.of]
  rw [← hpl]; simp only[zay,zwx hpa]; rfl
 try simp only[RL]at h
 obtain rfl:i=(rP p).length:=by omega
 rw [qT (by omega),Nat.sub_self]
 simp only[List.replicate_zero,qN]
 refine W.exit ?_
 refine xe ?_
 refine xe ?_
 refine XBlock.hit ?_
 refine xn ?_
 refine W.r fun K hK=>?_
 simp(disch:=omega)only[↓RU,RV,RH,↓reduceIte,qE,reduceCtorEq,if_pos,↓RS,RG,qA,qM,qL]
 apply hK;clear hK K
 refine W.ret ?_
 refine Br rfl ?_
 exact zzb rfl (zv3 _)
theorem ygu (p q r:Bool):p=false∨(p=true∧q=false)∨(p=true∧q=true∧r=false)∨(p=true∧q=true∧r=true):=by cases p <;> cases q <;> cases r <;> simp
theorem yia (a b c d:Int):PC Tryz.prog 133 [(.agg [.int .i64 a,.int .i64 b,.int .i64 c,.int .i64 d])] (.bool (zzm a b c d)) true:=by
 refine PC.of ⟨Tryz.func133,by kernel_rfl,rfl,by kernel_rfl⟩ zao mixed (by show 1≤Tryz.f133.ntmps; decide) ?_
 refine W.r fun K hK=>?_
 simp(disch:=omega)only[↓RU,RV,RH,↓reduceIte,qE,reduceCtorEq,if_pos,↓RS,RG,qA,qM,qL,zcy,zaa]
 apply hK;clear hK K
 refine W.seq_draw (by kernel_rfl) fun K hK=>?_
 simp(disch:=omega)only[↓RU,RV,RH,↓reduceIte,qE,reduceCtorEq,if_pos,zvb,zn2,↓RS,RG,qA,qM,qL,zcy,zaa,Int.toNat_zero,Nat.zero_mul,qZ,qM,Nat.zero_add,Nat.mul_one,List.getElem?_cons_zero,List.getElem?_cons_succ]
 apply hK;clear hK K
 refine W.r fun K hK=>?_
 rcases ygu (decide (b>max a d)) (decide (c<min a d)) (decide (a<d)) with g1 | ⟨g1,g2⟩ | ⟨g1,g2,g3⟩ | ⟨g1,g2,g3⟩
 ·skip
  simp(disch:=omega)only[↓RU,RV,RH,↓reduceIte,qE,reduceCtorEq,if_pos,w64,↓RS,RG,qA,qM,qL,zcy,zaa,Int.toNat_zero,Nat.zero_mul,qZ,qM,Nat.zero_add,Nat.mul_one,List.getElem?_cons_zero,List.getElem?_cons_succ,g1]
  apply hK;clear hK K
  refine W.r fun K hK=>?_
  rcases ygu (decide (b<min a d)) (decide (c>max a d)) (decide (a>d)) with f1 | ⟨f1,f2⟩ | ⟨f1,f2,f3⟩ | ⟨f1,f2,f3⟩
  ·skip
   simp(disch:=omega)only[↓RU,RV,RH,↓reduceIte,qE,reduceCtorEq,if_pos,w64,↓RS,RG,qA,qM,qL,zcy,zaa,Int.toNat_zero,Nat.zero_mul,qZ,qM,Nat.zero_add,Nat.mul_one,List.getElem?_cons_zero,List.getElem?_cons_succ,f1]
   apply hK;clear hK K
   refine W.r fun K hK=>?_
   simp(disch:=omega)only[↓RU,RV,RH,↓reduceIte,qE,reduceCtorEq,if_pos,↓RS,RG,qA,qM,qL,Int.toNat_zero,Nat.zero_mul,qZ,qM,Nat.zero_add,Nat.mul_one,List.getElem?_cons_zero,List.getElem?_cons_succ]
   apply hK;clear hK K
   refine W.ret ?_
   refine Br rfl ?_
   simp only[zzm, *,Bool.and_true,Bool.and_false,Bool.false_and,Bool.true_and,Bool.or_false,Bool.false_or,Bool.true_or]
   rfl
  ·skip
   simp(disch:=omega)only[↓RU,RV,RH,↓reduceIte,qE,reduceCtorEq,if_pos,w64,↓RS,RG,qA,qM,qL,zcy,zaa,Int.toNat_zero,Nat.zero_mul,qZ,qM,Nat.zero_add,Nat.mul_one,List.getElem?_cons_zero,List.getElem?_cons_succ,f1,f2]
   apply hK;clear hK K
   refine W.r fun K hK=>?_
   simp(disch:=omega)only[↓RU,RV,RH,↓reduceIte,qE,reduceCtorEq,if_pos,↓RS,RG,qA,qM,qL,Int.toNat_zero,Nat.zero_mul,qZ,qM,Nat.zero_add,Nat.mul_one,List.getElem?_cons_zero,List.getElem?_cons_succ]
   apply hK;clear hK K
   refine W.ret ?_
   refine Br rfl ?_
   simp only[zzm, *,Bool.and_true,Bool.and_false,Bool.false_and,Bool.true_and,Bool.or_false,Bool.false_or,Bool.true_or]
   rfl
  ·skip
   simp(disch:=omega)only[↓RU,RV,RH,↓reduceIte,qE,reduceCtorEq,if_pos,w64,↓RS,RG,qA,qM,qL,zcy,zaa,Int.toNat_zero,Nat.zero_mul,qZ,qM,Nat.zero_add,Nat.mul_one,List.getElem?_cons_zero,List.getElem?_cons_succ,f1,f2,f3]
   apply hK;clear hK K
   refine W.r fun K hK=>?_
   simp(disch:=omega)only[↓RU,RV,RH,↓reduceIte,qE,reduceCtorEq,if_pos,↓RS,RG,qA,qM,qL,Int.toNat_zero,Nat.zero_mul,qZ,qM,Nat.zero_add,Nat.mul_one,List.getElem?_cons_zero,List.getElem?_cons_succ]
   apply hK;clear hK K
   refine W.ret ?_
   refine Br rfl ?_
   simp only[zzm, *,Bool.and_true,Bool.and_false,Bool.false_and,Bool.true_and,Bool.or_false,Bool.false_or,Bool.true_or]
   rfl
  skip
  simp(disch:=omega)only[↓RU,RV,RH,↓reduceIte,qE,reduceCtorEq,if_pos,w64,↓RS,RG,qA,qM,qL,zcy,zaa,Int.toNat_zero,Nat.zero_mul,qZ,qM,Nat.zero_add,Nat.mul_one,List.getElem?_cons_zero,List.getElem?_cons_succ,f1,f2,f3]
  apply hK;clear hK K
  refine W.r fun K hK=>?_
  simp(disch:=omega)only[↓RU,RV,RH,↓reduceIte,qE,reduceCtorEq,if_pos,↓RS,RG,qA,qM,qL,Int.toNat_zero,Nat.zero_mul,qZ,qM,Nat.zero_add,Nat.mul_one,List.getElem?_cons_zero,List.getElem?_cons_succ]
  apply hK;clear hK K
  refine W.ret ?_
  refine Br rfl ?_
  simp only[zzm, *,Bool.and_true,Bool.and_false,Bool.false_and,Bool.true_and,Bool.or_false,Bool.false_or,Bool.true_or]
  rfl
 ·skip
  simp(disch:=omega)only[↓RU,RV,RH,↓reduceIte,qE,reduceCtorEq,if_pos,w64,↓RS,RG,qA,qM,qL,zcy,zaa,Int.toNat_zero,Nat.zero_mul,qZ,qM,Nat.zero_add,Nat.mul_one,List.getElem?_cons_zero,List.getElem?_cons_succ,g1,g2]
  apply hK;clear hK K
  refine W.r fun K hK=>?_
  rcases ygu (decide (b<min a d)) (decide (c>max a d)) (decide (a>d)) with f1 | ⟨f1,f2⟩ | ⟨f1,f2,f3⟩ | ⟨f1,f2,f3⟩
  ·skip
   simp(disch:=omega)only[↓RU,RV,RH,↓reduceIte,qE,reduceCtorEq,if_pos,w64,↓RS,RG,qA,qM,qL,zcy,zaa,Int.toNat_zero,Nat.zero_mul,qZ,qM,Nat.zero_add,Nat.mul_one,List.getElem?_cons_zero,List.getElem?_cons_succ,f1]
   apply hK;clear hK K
   refine W.r fun K hK=>?_
   simp(disch:=omega)only[↓RU,RV,RH,↓reduceIte,qE,reduceCtorEq,if_pos,↓RS,RG,qA,qM,qL,Int.toNat_zero,Nat.zero_mul,qZ,qM,Nat.zero_add,Nat.mul_one,List.getElem?_cons_zero,List.getElem?_cons_succ]
   apply hK;clear hK K
   refine W.ret ?_
   refine Br rfl ?_
   simp only[zzm, *,Bool.and_true,Bool.and_false,Bool.false_and,Bool.true_and,Bool.or_false,Bool.false_or,Bool.true_or]
   rfl
  ·skip
   simp(disch:=omega)only[↓RU,RV,RH,↓reduceIte,qE,reduceCtorEq,if_pos,w64,↓RS,RG,qA,qM,qL,zcy,zaa,Int.toNat_zero,Nat.zero_mul,qZ,qM,Nat.zero_add,Nat.mul_one,List.getElem?_cons_zero,List.getElem?_cons_succ,f1,f2]
   apply hK;clear hK K
   refine W.r fun K hK=>?_
   simp(disch:=omega)only[↓RU,RV,RH,↓reduceIte,qE,reduceCtorEq,if_pos,↓RS,RG,qA,qM,qL,Int.toNat_zero,Nat.zero_mul,qZ,qM,Nat.zero_add,Nat.mul_one,List.getElem?_cons_zero,List.getElem?_cons_succ]
   apply hK;clear hK K
   refine W.ret ?_
   refine Br rfl ?_
   simp only[zzm, *,Bool.and_true,Bool.and_false,Bool.false_and,Bool.true_and,Bool.or_false,Bool.false_or,Bool.true_or]
   rfl
  ·skip
   simp(disch:=omega)only[↓RU,RV,RH,↓reduceIte,qE,reduceCtorEq,if_pos,w64,↓RS,RG,qA,qM,qL,zcy,zaa,Int.toNat_zero,Nat.zero_mul,qZ,qM,Nat.zero_add,Nat.mul_one,List.getElem?_cons_zero,List.getElem?_cons_succ,f1,f2,f3]
   apply hK;clear hK K
   refine W.r fun K hK=>?_
   simp(disch:=omega)only[↓RU,RV,RH,↓reduceIte,qE,reduceCtorEq,if_pos,↓RS,RG,qA,qM,qL,Int.toNat_zero,Nat.zero_mul,qZ,qM,Nat.zero_add,Nat.mul_one,List.getElem?_cons_zero,List.getElem?_cons_succ]
   apply hK;clear hK K
   refine W.ret ?_
   refine Br rfl ?_
   simp only[zzm, *,Bool.and_true,Bool.and_false,Bool.false_and,Bool.true_and,Bool.or_false,Bool.false_or,Bool.true_or]
   rfl
  skip
  simp(disch:=omega)only[↓RU,RV,RH,↓reduceIte,qE,reduceCtorEq,if_pos,w64,↓RS,RG,qA,qM,qL,zcy,zaa,Int.toNat_zero,Nat.zero_mul,qZ,qM,Nat.zero_add,Nat.mul_one,List.getElem?_cons_zero,List.getElem?_cons_succ,f1,f2,f3]
  apply hK;clear hK K
  refine W.r fun K hK=>?_
  simp(disch:=omega)only[↓RU,RV,RH,↓reduceIte,qE,reduceCtorEq,if_pos,↓RS,RG,qA,qM,qL,Int.toNat_zero,Nat.zero_mul,qZ,qM,Nat.zero_add,Nat.mul_one,List.getElem?_cons_zero,List.getElem?_cons_succ]
  apply hK;clear hK K
  refine W.ret ?_
  refine Br rfl ?_
  simp only[zzm, *,Bool.and_true,Bool.and_false,Bool.false_and,Bool.true_and,Bool.or_false,Bool.false_or,Bool.true_or]
  rfl
 ·skip
  simp(disch:=omega)only[↓RU,RV,RH,↓reduceIte,qE,reduceCtorEq,if_pos,w64,↓RS,RG,qA,qM,qL,zcy,zaa,Int.toNat_zero,Nat.zero_mul,qZ,qM,Nat.zero_add,Nat.mul_one,List.getElem?_cons_zero,List.getElem?_cons_succ,g1,g2,g3]
  apply hK;clear hK K
  refine W.r fun K hK=>?_
  rcases ygu (decide (b<min a d)) (decide (c>max a d)) (decide (a>d)) with f1 | ⟨f1,f2⟩ | ⟨f1,f2,f3⟩ | ⟨f1,f2,f3⟩
  ·skip
   simp(disch:=omega)only[↓RU,RV,RH,↓reduceIte,qE,reduceCtorEq,if_pos,w64,↓RS,RG,qA,qM,qL,zcy,zaa,Int.toNat_zero,Nat.zero_mul,qZ,qM,Nat.zero_add,Nat.mul_one,List.getElem?_cons_zero,List.getElem?_cons_succ,f1]
   apply hK;clear hK K
   refine W.r fun K hK=>?_
   simp(disch:=omega)only[↓RU,RV,RH,↓reduceIte,qE,reduceCtorEq,if_pos,↓RS,RG,qA,qM,qL,Int.toNat_zero,Nat.zero_mul,qZ,qM,Nat.zero_add,Nat.mul_one,List.getElem?_cons_zero,List.getElem?_cons_succ]
   apply hK;clear hK K
   refine W.ret ?_
   refine Br rfl ?_
   simp only[zzm, *,Bool.and_true,Bool.and_false,Bool.false_and,Bool.true_and,Bool.or_false,Bool.false_or,Bool.true_or]
   rfl
  ·skip
   simp(disch:=omega)only[↓RU,RV,RH,↓reduceIte,qE,reduceCtorEq,if_pos,w64,↓RS,RG,qA,qM,qL,zcy,zaa,Int.toNat_zero,Nat.zero_mul,qZ,qM,Nat.zero_add,Nat.mul_one,List.getElem?_cons_zero,List.getElem?_cons_succ,f1,f2]
   apply hK;clear hK K
   refine W.r fun K hK=>?_
   simp(disch:=omega)only[↓RU,RV,RH,↓reduceIte,qE,reduceCtorEq,if_pos,↓RS,RG,qA,qM,qL,Int.toNat_zero,Nat.zero_mul,qZ,qM,Nat.zero_add,Nat.mul_one,List.getElem?_cons_zero,List.getElem?_cons_succ]
   apply hK;clear hK K
   refine W.ret ?_
   refine Br rfl ?_
   simp only[zzm, *,Bool.and_true,Bool.and_false,Bool.false_and,Bool.true_and,Bool.or_false,Bool.false_or,Bool.true_or]
   rfl
  ·skip
   simp(disch:=omega)only[↓RU,RV,RH,↓reduceIte,qE,reduceCtorEq,if_pos,w64,↓RS,RG,qA,qM,qL,zcy,zaa,Int.toNat_zero,Nat.zero_mul,qZ,qM,Nat.zero_add,Nat.mul_one,List.getElem?_cons_zero,List.getElem?_cons_succ,f1,f2,f3]
   apply hK;clear hK K
   refine W.r fun K hK=>?_
   simp(disch:=omega)only[↓RU,RV,RH,↓reduceIte,qE,reduceCtorEq,if_pos,↓RS,RG,qA,qM,qL,Int.toNat_zero,Nat.zero_mul,qZ,qM,Nat.zero_add,Nat.mul_one,List.getElem?_cons_zero,List.getElem?_cons_succ]
   apply hK;clear hK K
   refine W.ret ?_
   refine Br rfl ?_
   simp only[zzm, *,Bool.and_true,Bool.and_false,Bool.false_and,Bool.true_and,Bool.or_false,Bool.false_or,Bool.true_or]
   rfl
  skip
  simp(disch:=omega)only[↓RU,RV,RH,↓reduceIte,qE,reduceCtorEq,if_pos,w64,↓RS,RG,qA,qM,qL,zcy,zaa,Int.toNat_zero,Nat.zero_mul,qZ,qM,Nat.zero_add,Nat.mul_one,List.getElem?_cons_zero,List.getElem?_cons_succ,f1,f2,f3]
  apply hK;clear hK K
  refine W.r fun K hK=>?_
  simp(disch:=omega)only[↓RU,RV,RH,↓reduceIte,qE,reduceCtorEq,if_pos,↓RS,RG,qA,qM,qL,Int.toNat_zero,Nat.zero_mul,qZ,qM,Nat.zero_add,Nat.mul_one,List.getElem?_cons_zero,List.getElem?_cons_succ]
  apply hK;clear hK K
  refine W.ret ?_
  refine Br rfl ?_
  simp only[zzm, *,Bool.and_true,Bool.and_false,Bool.false_and,Bool.true_and,Bool.or_false,Bool.false_or,Bool.true_or]
  rfl
 skip
 simp(disch:=omega)only[↓RU,RV,RH,↓reduceIte,qE,reduceCtorEq,if_pos,w64,↓RS,RG,qA,qM,qL,zcy,zaa,Int.toNat_zero,Nat.zero_mul,qZ,qM,Nat.zero_add,Nat.mul_one,List.getElem?_cons_zero,List.getElem?_cons_succ,g1,g2,g3]
 apply hK;clear hK K
 refine W.r fun K hK=>?_
 rcases ygu (decide (b<min a d)) (decide (c>max a d)) (decide (a>d)) with f1 | ⟨f1,f2⟩ | ⟨f1,f2,f3⟩ | ⟨f1,f2,f3⟩
 ·skip
  simp(disch:=omega)only[↓RU,RV,RH,↓reduceIte,qE,reduceCtorEq,if_pos,w64,↓RS,RG,qA,qM,qL,zcy,zaa,Int.toNat_zero,Nat.zero_mul,qZ,qM,Nat.zero_add,Nat.mul_one,List.getElem?_cons_zero,List.getElem?_cons_succ,f1]
  apply hK;clear hK K
  refine W.r fun K hK=>?_
  simp(disch:=omega)only[↓RU,RV,RH,↓reduceIte,qE,reduceCtorEq,if_pos,↓RS,RG,qA,qM,qL,Int.toNat_zero,Nat.zero_mul,qZ,qM,Nat.zero_add,Nat.mul_one,List.getElem?_cons_zero,List.getElem?_cons_succ]
  apply hK;clear hK K
  refine W.ret ?_
  refine Br rfl ?_
  simp only[zzm, *,Bool.and_true,Bool.and_false,Bool.false_and,Bool.true_and,Bool.or_false,Bool.false_or,Bool.true_or]
  rfl
 ·skip
  simp(disch:=omega)only[↓RU,RV,RH,↓reduceIte,qE,reduceCtorEq,if_pos,w64,↓RS,RG,qA,qM,qL,zcy,zaa,Int.toNat_zero,Nat.zero_mul,qZ,qM,Nat.zero_add,Nat.mul_one,List.getElem?_cons_zero,List.getElem?_cons_succ,f1,f2]
  apply hK;clear hK K
  refine W.r fun K hK=>?_
  simp(disch:=omega)only[↓RU,RV,RH,↓reduceIte,qE,reduceCtorEq,if_pos,↓RS,RG,qA,qM,qL,Int.toNat_zero,Nat.zero_mul,qZ,qM,Nat.zero_add,Nat.mul_one,List.getElem?_cons_zero,List.getElem?_cons_succ]
  apply hK;clear hK K
  refine W.ret ?_
  refine Br rfl ?_
  simp only[zzm, *,Bool.and_true,Bool.and_false,Bool.false_and,Bool.true_and,Bool.or_false,Bool.false_or,Bool.true_or]
  rfl
 ·skip
  simp(disch:=omega)only[↓RU,RV,RH,↓reduceIte,qE,reduceCtorEq,if_pos,w64,↓RS,RG,qA,qM,qL,zcy,zaa,Int.toNat_zero,Nat.zero_mul,qZ,qM,Nat.zero_add,Nat.mul_one,List.getElem?_cons_zero,List.getElem?_cons_succ,f1,f2,f3]
  apply hK;clear hK K
  refine W.r fun K hK=>?_
  simp(disch:=omega)only[↓RU,RV,RH,↓reduceIte,qE,reduceCtorEq,if_pos,↓RS,RG,qA,qM,qL,Int.toNat_zero,Nat.zero_mul,qZ,qM,Nat.zero_add,Nat.mul_one,List.getElem?_cons_zero,List.getElem?_cons_succ]
  apply hK;clear hK K
  refine W.ret ?_
  refine Br rfl ?_
  simp only[zzm, *,Bool.and_true,Bool.and_false,Bool.false_and,Bool.true_and,Bool.or_false,Bool.false_or,Bool.true_or]
  rfl
 skip
 simp(disch:=omega)only[↓RU,RV,RH,↓reduceIte,qE,reduceCtorEq,if_pos,w64,↓RS,RG,qA,qM,qL,zcy,zaa,Int.toNat_zero,Nat.zero_mul,qZ,qM,Nat.zero_add,Nat.mul_one,List.getElem?_cons_zero,List.getElem?_cons_succ,f1,f2,f3]
 apply hK;clear hK K
 refine W.r fun K hK=>?_
 simp(disch:=omega)only[↓RU,RV,RH,↓reduceIte,qE,reduceCtorEq,if_pos,↓RS,RG,qA,qM,qL,Int.toNat_zero,Nat.zero_mul,qZ,qM,Nat.zero_add,Nat.mul_one,List.getElem?_cons_zero,List.getElem?_cons_succ]
 apply hK;clear hK K
 refine W.ret ?_
 refine Br rfl ?_
 simp only[zzm, *,Bool.and_true,Bool.and_false,Bool.false_and,Bool.true_and,Bool.or_false,Bool.false_or,Bool.true_or]
 rfl
theorem zz2 {q:List Int} (hl:q.length<2147483648) {x:Int} {i:Nat} (hx:q[i]?=some x) (hi:∀ (j:Nat),j<i→q[j]?≠some x):PC Tryz.prog 77 [eInts q,.int .i64 x] (.bool true) true:=by
 have hd:decide ((i:Int) ≥ 0)=true:=decide_eq_true (by omega)
 refine PC.of ⟨Tryz.func77,by kernel_rfl,rfl,by kernel_rfl⟩ zao mixed (by show 2≤Tryz.f77.ntmps; decide) ?_
 refine W.r fun K hK=>?_
 simp(disch:=omega)only[↓RU,RV,RH,↓reduceIte,qE,reduceCtorEq,if_pos]
 apply hK;clear hK K
 refine W.r fun K hK=>?_
 simp(disch:=omega)only[↓RU,RV,RH,↓reduceIte,qE,reduceCtorEq,if_pos,qN,w64,zaa,hd]
 refine zad.pc (zn0 hl hx hi) rfl (.inl rfl) ?_
 simp(disch:=omega)only[↓RU,RV,RH,↓reduceIte,qE,reduceCtorEq,if_pos,qN,w64,zaa,hd]
 apply hK;clear hK K
 refine W.ret ?_
 refine Br rfl ?_
 rfl
section
def ze2 (k u H W:Nat):PV := .fn 105 [.ref (k+2+H) (u+2) 0,.ref k u 0,.ip [.int .i64 W] 0,.ip [.int .i64 H] 0,.ref (k+3+H) (u+3) 0]
def zh4 (k u lb H W:Nat) (g:List (List Int)):List Ob :=
 .arr u 110 1 [.yl lb] :: .arr (u+1) 34 1 (lcW (k+2) (u+1) H W)::(rwO (u+1) g++[.arr (u+2) 75 1 [.loc (k+1) (u+1) 0 H],.arr (u+3) 113 1 [ze2 k u H W]])
section
variable {A tl:List Ob} {k u lb H W:Nat} {g:List (List Int)}
theorem z4j (hA:A.length=k) {j:Nat} {n:Nat} (hn:n=k+j):(A++(zh4 k u lb H W g++tl))[n]?=(zh4 k u lb H W g++tl)[j]?:=by
 subst hn; rw [List.getElem?_append_right (by omega)]; congr 1; omega
theorem zce (hg:g.length=H):(zh4 k u lb H W g).length=H+4:=by simp [zh4,zj5,hg]
theorem gO_y (hA:A.length=k):(A++(zh4 k u lb H W g++tl))[k]?=some (.arr u 110 1 [.yl lb]):=z4j hA (j:=0) rfl
theorem zkj (hA:A.length=k):(A++(zh4 k u lb H W g++tl))[k+1]?=some (.arr (u+1) 34 1 (lcW (k+2) (u+1) H W)):=z4j hA (j:=1) rfl
theorem ygi (hA:A.length=k) (hg:g.length=H) {r:Nat} {row:List Int} (hr:g[r]?=some row):(A++(zh4 k u lb H W g++tl))[k+2+r]?=some (.arr (u+1) 3 1 (row.map (.int .i64))):=by
 have hl:=zbd hr
 rw [z4j hA (j:=r+2) (by omega)]
 unfold zh4
 rw [List.cons_append,List.cons_append,List.getElem?_cons_succ,List.getElem?_cons_succ,List.append_assoc,List.getElem?_append_left (by rw [zj5]; exact hl)]
 unfold rwO
 rw [List.getElem?_map,hr]; rfl
theorem zk0 (hA:A.length=k) (hg:g.length=H):(A++(zh4 k u lb H W g++tl))[k+2+H]?=some (.arr (u+2) 75 1 [.loc (k+1) (u+1) 0 H]):=by
 rw [z4j hA (j:=H+2) (by omega)]
 unfold zh4
 rw [List.cons_append,List.cons_append,List.getElem?_cons_succ,List.getElem?_cons_succ,List.append_assoc,List.getElem?_append_right (by rw [zj5]; omega),zj5,hg,Nat.sub_self]; rfl
theorem zlp (hA:A.length=k) (hg:g.length=H):(A++(zh4 k u lb H W g++tl))[k+3+H]?=some (.arr (u+3) 113 1 [ze2 k u H W]):=by
 rw [z4j hA (j:=H+3) (by omega)]
 unfold zh4
 rw [List.cons_append,List.cons_append,List.getElem?_cons_succ,List.getElem?_cons_succ,List.append_assoc,List.getElem?_append_right (by rw [zj5]; omega),zj5,hg,Nat.add_sub_cancel_left]; rfl
theorem ziw (hA:A.length=k) (hg:g.length=H) {j:Nat}:(A++(zh4 k u lb H W g++tl))[k+(H+4+j)]?=tl[j]?:=by
 rw [z4j hA (j:=H+4+j) (by omega),List.getElem?_append_right (by rw [zce hg]; omega),zce hg,Nat.add_sub_cancel_left]
theorem zeh (hA:A.length=k) (hg:g.length=H) {j:Nat} {ob:Ob}:(A++(zh4 k u lb H W g++tl)).set (k+(H+4+j)) ob=A++(zh4 k u lb H W g++tl.set j ob):=by
 rw [List.set_append_right _ _ (by omega),hA,List.set_append_right _ _ (by rw [zce hg]; omega),zce hg]
 congr 3; omega
theorem yis (hA:A.length=k) (hg:g.length=H) {r:Nat} (hr:r<H) {row:List Int}:(A++(zh4 k u lb H W g++tl)).set (k+2+r) (.arr (u+1) 3 1 (row.map (.int .i64)))=A++(zh4 k u lb H W (g.set r row)++tl):=by
 rw [List.set_append_right _ _ (by omega),hA,show k+2+r - k=r+1+1 by omega]
 unfold zh4
 rw [List.cons_append,List.cons_append,List.set_cons_succ,List.set_cons_succ,List.append_assoc,List.set_append_left _ _ (by rw [zj5]; omega)]
 unfold rwO
 rw [← List.map_set]
 simp
theorem zei {x:Ob}:(tl++[x])[tl.length]?=some x:=List.getElem?_concat_length
theorem zej {x y:Ob}:(tl++[x]).set tl.length y=tl++[y]:=by simp
end
theorem zh6 {p:List Txt} {H W:Nat} (h:Shp2 p H W):(gI p).length=H:=by simp [gI,h.h]
theorem z2b {p:List Txt} {r:Nat} {row:Txt} (h:p[r]?=some row):(gI p)[r]?=some (row.map cI):=by simp [gI,h]
theorem yhe {p:List Txt} {r:Nat} {row:Txt}:(gI p).set r (row.map cI)=gI (p.set r row):=by simp [gI]
theorem yg4 {row:Txt} {j:Nat} {c:UInt8}:(row.map cI).set j (cI c)=(row.set j c).map cI:=by simp
theorem yas (c:UInt8) : -1000≤cI c∧cI c≤1000:=by
 have:=c.toNat_lt
 unfold cI
 split <;> omega
theorem Shp2.set {p:List Txt} {H W i:Nat} {r:Txt} (h:Shp2 p H W) (hr:r.length=W):Shp2 (p.set i r) H W:=by
 refine ⟨by rw [List.length_set]; exact h.h,fun x hx=>?_⟩
 rcases List.mem_or_eq_of_mem_set hx with hx | rfl
 ·exact h.w x hx
 exact hr
theorem yi8 {α:Type} {l:List α} {i:Nat} {x:α} (h:i<l.length):l.take i++x::l.drop (i+1)=l.set i x:=(List.set_eq_take_append_cons_drop).symm ▸ by rw [if_pos h]
theorem zum {A B tl:List Ob} {x:Ob} {t:Nat}:Store.take ⟨A++(B++(tl++[x])),t⟩ (A.length+(B.length+tl.length))=⟨A++(B++tl),t⟩:=by
 show (⟨List.take _ _,t⟩:Store)=_
 rw [← List.append_assoc,← List.append_assoc,List.take_left' (by simp [Nat.add_assoc]),List.append_assoc]
theorem yb6 {α:Type} {l:List α} {i:Nat} {x:α} (h:l[i]?=some x):l.set i x=l:=by
 apply List.ext_getElem?
 intro j
 rw [List.getElem?_set]
 split
 ·rename_i e; subst e; rw [if_pos (zbd h),h]
 rfl
theorem zlz {A tl:List Ob} {k u lb t nh nw:Nat} (hA:A.length=k) {p:List Txt} (hp:Shp2 p nh nw) {i kk d w:Nat} {c:UInt8} (hi:i+d≤nh) (hk:kk+w≤nw) (hH:nh≤6) (hW:nw≤6):Ev Tryz.prog 109 [.agg [.int .i64 i,.int .i64 kk,.int .i64 d,.int .i64 w],.int .i64 (cI c),.ref (k+2+nh) (u+2) 0] ⟨A++(zh4 k u lb nh nw (gI p)++tl),t⟩ fun v S=>v = .tup []∧∃ t2,t≤t2∧S=⟨A++(zh4 k u lb nh nw (gI (zef p i kk w c (i+d)))++tl),t2⟩:=by
 have hgl:=zh6 hp
 have hcb:=yas c
 refine Ev.of ⟨Tryz.func109,by kernel_rfl,rfl,by kernel_rfl⟩ zao mixed (by show 3≤Tryz.f109.ntmps; decide) ?_
 refine W.r fun K hK=>?_
 simp(disch:=omega)only[↓RU,RV,RH,↓reduceIte,qE,reduceCtorEq,if_pos,↓RS,RG,qA,qM,qL,zc5,zaa,zc6,List.append_assoc,List.length_append,hA,zce hgl,ziw hA hgl,zei,zej,zeh hA hgl]
 apply hK;clear hK K
 refine W.r fun K hK=>?_
 simp(disch:=omega)only[↓RU,RV,RH,↓reduceIte,qE,reduceCtorEq,if_pos,↓RS,RG,qA,qM,qL,zc5,zaa,zc6,List.append_assoc,List.length_append,hA,zce hgl,ziw hA hgl,zei,zej,zeh hA hgl]
 apply hK;clear hK K
 refine W.block ?_
 refine W.loop [1,2,3,5] (fun n vs S=>∃ r:Nat,n=d - r∧r≤d∧vs=[.int .i64 (cI c),.ref (k+2+nh) (u+2) 0,.ref (k+(nh+4+tl.length)) t 0,.int .i64 ((i+r:Nat):Int)]∧S=⟨A++(zh4 k u lb nh nw (gI (zef p i kk w c (i+r)))++(tl++[.arr t 92 4 [.int .i64 i,.int .i64 kk,.int .i64 d,.int .i64 w]])),t+1⟩) d ?_ ?_
 ·refine ⟨_,0,rfl,Nat.zero_le _,?_,zak ?_⟩
  rotate_left
  ·simp only[Nat.add_zero,zt8]
  simp [Env.put,Env.of,zae]
 rintro n vs S - ⟨r,rfl,h_r,rfl,rfl⟩
 have hps:Shp2 (zef p i kk w c (i+r)) nh nw:=zlu hp
 have hgl:=zh6 hps
 refine W.seq ?_
 refine W.r fun K hK=>?_
 simp(disch:=omega)only[↓RU,RV,RH,↓reduceIte,qE,reduceCtorEq,if_pos,w64,↓RS,RG,qA,qM,qL,zc5,zaa,zc6,List.append_assoc,List.length_append,hA,zce hgl,ziw hA hgl,zei,zej,zeh hA hgl]
 apply hK;clear hK K
 refine W.cond rfl (fun h=>?_) (fun h=>?_)
 ·try simp only[RL]at h
  obtain ⟨row,hrow0,hrl,-⟩:=hp.row (show i+r<nh by omega)
  have hrow:(zef p i kk w c (i+r))[i+r]?=some row:=z27 hrow0
  refine W.skip ?_
  refine xn ?_
  refine W.seq ?_
  refine W.block ?_
  refine W.r fun K hK=>?_
  simp(disch:=omega)only[↓RU,RV,RH,↓reduceIte,qE,reduceCtorEq,if_pos,↓RS,RG,qA,qM,qL,zc5,zaa,zc6,List.append_assoc,List.length_append,hA,zce hgl,ziw hA hgl,zei,zej,zeh hA hgl]
  apply hK;clear hK K
  refine W.block ?_
  refine W.loop [1,2,3,5,6] (fun n vs S=>∃ j:Nat,n=w - j∧j≤w∧vs=[.int .i64 (cI c),.ref (k+2+nh) (u+2) 0,.ref (k+(nh+4+tl.length)) t 0,.int .i64 ((i+r:Nat):Int),.int .i64 ((kk+j:Nat):Int)]∧S=⟨A++(zh4 k u lb nh nw (gI ((zef p i kk w c (i+r)).set (i+r) (zey row kk c (kk+j))))++(tl++[.arr t 92 4 [.int .i64 i,.int .i64 kk,.int .i64 d,.int .i64 w]])),t+1⟩) w ?_ ?_
  ·refine ⟨_,0,rfl,Nat.zero_le _,?_,zak ?_⟩
   rotate_left
   ·simp only[Nat.add_zero,zr0,yb6 hrow]
   simp [Env.put,Env.of]
  rintro n vs S - ⟨j,rfl,h_j,rfl,rfl⟩
  have hps2:Shp2 ((zef p i kk w c (i+r)).set (i+r) (zey row kk c (kk+j))) nh nw:=hps.set (by rw [zf4]; exact hrl)
  have hgl:=zh6 hps2
  have hrj:((zef p i kk w c (i+r)).set (i+r) (zey row kk c (kk+j)))[i+r]?=some (zey row kk c (kk+j)):=by rw [List.getElem?_set,if_pos rfl,if_pos (zbd hrow)]
  have hgr:=z2b hrj
  have hrl2:(zey row kk c (kk+j)).length=nw:=by rw [zf4]; exact hrl
  have hirH:i+r<nh:=by omega
  refine W.seq ?_
  refine W.r fun K hK=>?_
  simp(disch:=omega)only[↓RU,RV,RH,↓reduceIte,qE,reduceCtorEq,if_pos,w64,↓RS,RG,qA,qM,qL,zc5,zaa,zc6,List.append_assoc,List.length_append,hA,zce hgl,ziw hA hgl,zei,zej,zeh hA hgl]
  apply hK;clear hK K
  refine W.cond rfl (fun h1=>?_) (fun h1=>?_)
  ·try simp only[RL]at h1
   have hspl:(List.map (PV.int .i64) (List.map cI (zey row kk c (kk+j)))).take (kk+j)++PV.int .i64 (cI c)::(List.map (PV.int .i64) (List.map cI (zey row kk c (kk+j)))).drop (kk+j+1)=(List.map cI (zey row kk c (kk+j+1))).map (PV.int .i64):=by rw [← zrz (by omega) (by omega),← yg4,← zdq,yi8 (by simp only[List.length_map]; omega)]
   refine W.skip ?_
   refine xn ?_
   refine W.seq ?_
   refine W.block ?_
   refine W.k fun K hK=>?_
   simp(disch:=omega)only[↓RU,RV,RH,↓reduceIte,qE,reduceCtorEq,if_pos,↓RS,RG,qA,qM,qL,ty1,zab,zb7,zaa,List.append_assoc,List.length_append,hA,zce hgl,ziw hA hgl,zei,zej,zeh hA hgl,zk0 hA hgl,zkj hA,zdh hirH,zb9,ygi hA hgl hgr,hrl2,hspl,yis hA hgl hirH,yhe,List.set_set]
   apply hK;clear hK K
   refine XbN ?_
   refine xn ?_
   refine W.k fun K hK=>?_
   simp(disch:=omega)only[↓RU,RV,RH,↓reduceIte,qE,reduceCtorEq,if_pos,w64,↓RS,RG,qA,qM,qL,zaa,List.append_assoc,List.length_append,hA,zce hgl,ziw hA hgl,zei,zej,zeh hA hgl]
   apply hK;clear hK K
   refine xn ?_
   refine ⟨w - (j+1),by omega,_,j+1,rfl,by omega,?_,zak ?_⟩
   rotate_left
   ·rfl
   simp [Env.put,Env.of]; omega
  ·try simp only[RL]at h1
   obtain rfl:j=w:=by omega
   refine W.exit ?_
   refine xe ?_
   refine xe ?_
   refine XBlock.hit ?_
   refine XbN ?_
   refine xn ?_
   refine W.k fun K hK=>?_
   simp(disch:=omega)only[↓RU,RV,RH,↓reduceIte,qE,reduceCtorEq,if_pos,w64,↓RS,RG,qA,qM,qL,zaa,List.append_assoc,List.length_append,hA,zce hgl,ziw hA hgl,zei,zej,zeh hA hgl]
   apply hK;clear hK K
   refine xn ?_
   refine ⟨d - (r+1),by omega,_,r+1,rfl,by omega,?_,zak ?_⟩
   rotate_left
   ·rw [← Nat.add_assoc,← zt7 (p:=p) (by omega) hrow0]
   simp [Env.put,Env.of]; omega
 try simp only[RL]at h
 obtain rfl:r=d:=by omega
 refine W.exit ?_
 refine xe ?_
 refine xe ?_
 refine XBlock.hit ?_
 refine zfe.norm rfl ?_
 exact ⟨_,rfl,_,Nat.le_succ _,zum⟩
end
section
variable {H W:Nat} {p q:List Txt} {R:List RmB}
theorem yf0 {p q:List Txt} {H W:Nat} (hp:Shp2 p H W) (hq:Shp2 q H W) (h:∀ i j,i<H→j<W→ch p i j=ch q i j):p=q:=by
 apply List.ext_getElem?
 intro i
 by_cases hi:i<H
 ·obtain ⟨r,hr,hl,hx⟩:=hp.row hi
  obtain ⟨s,hs,hl2,hy⟩:=hq.row hi
  rw [hr,hs]
  congr 1
  apply List.ext_getElem?
  intro j
  by_cases hj:j<W
  ·rw [hx j hj,hy j hj,h i j hi hj]
  rw [List.getElem?_eq_none (by omega),List.getElem?_eq_none (by omega)]
 rw [List.getElem?_eq_none (by rw [hp.h]; omega),List.getElem?_eq_none (by rw [hq.h]; omega)]
end
section
theorem ybs {p:List Txt} {H W i k w e:Nat} {c:UInt8} (hp:Shp2 p H W) (h:∀ a b,a<H→b<W→(i≤a∧a<e)→(k≤b∧b<k+w)→ch p a b=46):zef (zef p i k w c e) i k w 46 e=p:=by
 have h1:Shp2 (zef p i k w c e) H W:=zlu hp
 refine yf0 (zlu h1) hp fun a b ha hb=>?_
 rw [z6r h1 ha hb]
 split
 ·rename_i q; exact (h a b ha hb q.1 q.2).symm
 rename_i q; rw [z6r hp ha hb,if_neg q]
theorem ztd {α β:Type} {f:α→List β} {l:List α} {w:Nat} {a:α} (h:l[w]?=some a):∃ r,l.flatMap f=(l.take w).flatMap f++f a++r:=by
 obtain ⟨hl,e⟩:=List.getElem?_eq_some_iff.1 h
 refine ⟨(l.drop (w+1)).flatMap f,?_⟩
 conv=>lhs; rw [← List.take_append_drop w l,List.drop_eq_getElem_cons hl,e]
 rw [List.flatMap_append,List.flatMap_cons,List.append_assoc]
theorem yc1 {c:UInt8} (h:c=46∨97≤c.toNat):cI c = -1↔c=46:=by
 unfold cI
 by_cases e:c=46
 ·simp [e]
 rw [if_neg e]
 have:=h.resolve_left e
 constructor
 ·intro q; omega
 intro q; exact absurd q e
theorem St.letter {H W:Nat} {p:List Txt} {R:List RmB} (h:St H W p R) (hn:R.length≤9) {i j:Nat} (hi:i<H) (hj:j<W):ch p i j=46∨97≤(ch p i j).toNat:=by
 rcases h.val i j hi hj with e | ⟨v,hv,e⟩
 ·exact .inl e
 exact .inr (by rw [e,zj2 (by omega)]; omega)
theorem St.rows {H W:Nat} {p:List Txt} {R:List RmB} (h:St H W p R) (hn:R.length≤9):∀ r∈p,∀ c∈r,c=46∨97≤c.toNat:=by
 intro r hr c hc
 obtain ⟨i,hi⟩:=List.getElem?_of_mem hr
 have hil:=zbd hi
 rw [h.sh.h]at hil
 obtain ⟨r',hr',hl,hx⟩:=h.sh.row hil
 rw [hi]at hr'
 cases hr'
 obtain ⟨j,hj⟩:=List.getElem?_of_mem hc
 have hjl:=zbd hj
 have:=hx j (by omega)
 rw [hj]at this
 cases this
 exact h.letter hn hil (by omega)
def tst (r:List Int):Bool:=r.contains (-1)
theorem ygb {r:Txt} (h:∀ c∈r,c=46∨97≤c.toNat):tst (r.map cI)=r.contains 46:=by
 unfold tst
 rw [Bool.eq_iff_iff]
 simp only[List.contains_eq_mem,decide_eq_true_eq,List.mem_map]
 constructor
 ·rintro ⟨c,hc,e⟩; rw [← (yc1 (h c hc)).1 e]; exact hc
 intro hc; exact ⟨46,hc,rfl⟩
theorem ydi {p:List Txt} (h:∀ r∈p,∀ c∈r,c=46∨97≤c.toNat):ixf tst (gI p)=if fi p<p.length then ((fi p:Nat):Int) else -1:=by
 have e:(gI p).findIdx? tst=p.findIdx? fun r=>r.contains 46:=by
  unfold gI
  rw [List.findIdx?_map]
  have:∀ l:List Txt,(∀ r∈l,r∈p)→l.findIdx? (tst ∘ fun r=>r.map cI)=l.findIdx? fun r=>r.contains 46:=by
   intro l
   induction l with
   | nil=>intro _; rfl
   | cons a l ih =>
    intro hl
    rw [List.findIdx?_cons,List.findIdx?_cons,ih fun r hr=>hl r (by simp [hr])]
    show (if tst (a.map cI) then _ else _)=_
    rw [ygb (h a (hl a (by simp)))]
  exact this p fun _ h=>h
 unfold ixf
 rw [e]
 unfold fi
 cases hq:p.findIdx? fun r=>r.contains 46 with
 | none =>
  rw [List.findIdx?_eq_none_iff_findIdx_eq]at hq
  rw [hq,if_neg (by omega)]
 | some i =>
  have:=List.findIdx?_eq_some_iff_findIdx_eq.1 hq
  rw [this.2,if_pos this.1]
section
variable {A tl:List Ob} {k u lb H W t:Nat} {p:List Txt}
theorem z5g {S:Store} {k2 b v w:Nat} {g:List (List Int)} (hw:∀ r∈g,r.length=w) (hg:∀ (j:Nat) r,g[j]?=some r→S.obs[b+j]?=some (.arr v 3 1 (r.map (.int .i64)))) :
  (lcW b v g.length w).mapM (reify S true (k2+2))=some (g.map eInts):=by
 induction g generalizing b with
 | nil=>rfl
 | cons a g ih =>
  have e:lcW b v (a::g).length w = .loc b v 0 w::lcW (b+1) v g.length w:=by
   unfold lcW
   rw [List.length_cons,List.range_succ_eq_map,List.map_cons,List.map_map]
   congr 1
   refine List.map_congr_left fun j _=>?_
   show PV.loc (b+(j+1)) v 0 w=PV.loc (b+1+j) v 0 w
   rw [show b+1+j=b+(j+1) by omega]
  rw [e,List.map_cons]
  refine zcw ?_ (ih (b:=b+1) (fun r hr=>hw r (by simp [hr])) fun j r hr=>by have:=hg (j+1) r (by simpa using hr); rwa [show b+(j+1)=b+1+j by omega]at this)
  have h0:=hg 0 a rfl
  have hal:a.length=w:=hw a (by simp)
  subst hal
  exact zb5 (S:=S) (k:=k2+1) (n:=a.length) (o:=b) (ver:=v) (sz:=1) h0 (by simp) (zbm fun x hx=>by obtain ⟨z,_,rfl⟩:=List.mem_map.1 hx; rfl)
theorem z5e (hA:A.length=k) (hp:Shp2 p H W) {k2:Nat}:reify ⟨A++(zh4 k u lb H W (gI p)++tl),t⟩ true (k2+3) (.loc (k+1) (u+1) 0 H)=some (zeu (gI p)):=by
 have hgl:=zh6 hp
 have h1:=zb5 (S:=⟨A++(zh4 k u lb H W (gI p)++tl),t⟩) (im:=true) (k:=k2+2) (n:=H) (ts:=(gI p).map eInts) (zkj (u:=u) (lb:=lb) (H:=H) (W:=W) (g:=gI p) (tl:=tl) hA) (by rw [zb9]; omega) (by
  have:=z5g (S:=⟨A++(zh4 k u lb H W (gI p)++tl),t⟩) (k2:=k2) (b:=k+2) (v:=u+1) (w:=W) (g:=gI p) (fun r hr=>by obtain ⟨x,hx,rfl⟩:=List.mem_map.1 hr; rw [List.length_map]; exact hp.w x hx) (fun j r hr=>ygi hA hgl hr)
  rw [hgl]at this; exact this)
 rw [h1]
 show _=some (PV.sl _ (gI p).length)
 rw [hgl]
theorem ybz {S:Store} {k2 lo b v w:Nat} {g:List (List Int)} (hb:lo≤b) (hw:∀ r∈g,r.length=w) (hg:∀ (j:Nat) r,g[j]?=some r→S.obs[b+j]?=some (.arr v 3 1 (r.map (.int .i64)))) :
  (lcW b v g.length w).mapM (rfz S lo (k2+2))=some (g.map eInts):=by
 induction g generalizing b with
 | nil=>rfl
 | cons a g ih =>
  have e:lcW b v (a::g).length w = .loc b v 0 w::lcW (b+1) v g.length w:=by
   unfold lcW
   rw [List.length_cons,List.range_succ_eq_map,List.map_cons,List.map_map]
   congr 1
   refine List.map_congr_left fun j _=>?_
   show PV.loc (b+(j+1)) v 0 w=PV.loc (b+1+j) v 0 w
   rw [show b+1+j=b+(j+1) by omega]
  rw [e,List.map_cons]
  refine zcw ?_ (ih (b:=b+1) (by omega) (fun r hr=>hw r (by simp [hr])) fun j r hr=>by have:=hg (j+1) r (by simpa using hr); rwa [show b+(j+1)=b+1+j by omega]at this)
  have h0:=hg 0 a rfl
  have hal:a.length=w:=hw a (by simp)
  subst hal
  rw [Nat.add_zero]at h0
  have ht:(a.map (PV.int .i64)).take a.length=a.map (PV.int .i64):=qT (by simp)
  rw [zbf,h0]
  simp only[Nat.zero_add,Nat.mul_one,List.length_map,qR,and_true,hb,if_true,List.drop_zero,ht,za5,qO]
theorem yby (hA:A.length=k) (hp:Shp2 p H W):frz ⟨A++(zh4 k u lb H W (gI p)++tl),t⟩ k 10 (.ref (k+2+H) (u+2) 0)=some (.ip [zeu (gI p)] 0):=by
 have hgl:=zh6 hp
 rw [z7e,if_neg (by omega)]
 obtain ⟨S,hS⟩:∃ S:Store,(⟨A++(zh4 k u lb H W (gI p)++tl),t⟩:Store)=S:=⟨_,rfl⟩
 have e1:S.obs[k+2+H]?=some (.arr (u+2) 75 1 [.loc (k+1) (u+1) 0 H]):=by rw [← hS]; exact zk0 hA hgl
 have e2:S.obs[k+1]?=some (.arr (u+1) 34 1 (lcW (k+2) (u+1) H W)):=by rw [← hS]; exact zkj hA
 have e3:(lcW (k+2) (u+1) H W).mapM (rfz S k 8)=some ((gI p).map eInts):=by
  have:=ybz (S:=S) (k2:=6) (lo:=k) (b:=k+2) (v:=u+1) (w:=W) (g:=gI p) (by omega) (fun r hr=>by obtain ⟨x,hx,rfl⟩:=List.mem_map.1 hr; rw [List.length_map]; exact hp.w x hx) (fun j r hr=>by rw [← hS]; exact ygi hA hgl hr)
  rw [hgl]at this; exact this
 have ht:(lcW (k+2) (u+1) H W).take H=lcW (k+2) (u+1) H W:=qT (by rw [zb9]; omega)
 have e4:rfz S k 9 (.loc (k+1) (u+1) 0 H)=some (zeu (gI p)):=by
  rw [zbf,e2]
  simp only[Nat.zero_add,Nat.mul_one,zb9,qR,and_true,show k≤k+1 by omega,if_true,List.drop_zero,ht,e3,qO]
  show _=some (PV.sl _ (gI p).length)
  rw [hgl]
 rw [hS]
 show (if k≤k+2+H then (S.cellsOf (k+2+H) (u+2)).bind fun cells=>(cells.mapM (rfz S k 9)).map (PV.ip · 0) else none)=_
 rw [if_pos (by omega)]
 have e5:S.cellsOf (k+2+H) (u+2)=some [.loc (k+1) (u+1) 0 H]:=by simp [Store.cellsOf,e1]
 rw [e5,Option.bind_some,zcw e4 rfl]; rfl
end
structure YC {σ:Type} (lb k H W:Nat) (pre:σ→List Ob) (fin:Nat→List Txt→Nat→List Ob × List Ob) (stop:List Txt→Bool) (nxt:σ→List Txt→σ):Prop where
 len:∀ s,(pre s).length=k
 finl:∀ r q x,(fin r q x).1.length=k
 ey:∀ s q t,zcu q=true→Shp2 q H W→Ey Tryz.prog lb [zb3 (gP q) (rP q)] ⟨pre s,t⟩ fun v S=>v = .bool (!stop q)∧∃ t2,if stop q=true then ∃ x,S=⟨(fin 0 q x).1++(fin 0 q x).2,t2⟩ else S=⟨pre (nxt s q),t2⟩
 sp:∀ r s,zr7 k r (pre s)=some (pre s)
 lp1:∀ s q,zss (pre s) (pre (nxt s q))
 lp2:∀ s q x,zss (pre s) ((fin 0 q x).1++(fin 0 q x).2)
 sfin:∀ r q x,zr7 k r ((fin 0 q x).1++(fin 0 q x).2)=some ((fin r q x).1++(fin r q x).2)
def zpf {σ:Type} (k u lb H W:Nat) (pre:σ→List Ob) (fin:Nat→List Txt→Nat→List Ob × List Ob) (stop:List Txt→Bool) (nxt:σ→List Txt→σ) (L:List (List Txt)) (s:σ) (p:List Txt) (tl:List Ob) (v:PV) (S:Store):Prop :=
 match L.find? stop with
 | none=>v = .bool true∧∃ t,S=⟨pre (L.foldl nxt s)++(zh4 k u lb H W (gI p)++tl),t⟩
 | some q=>v = .bool false∧∃ t x J,S=⟨(fin (H+4+tl.length+J.length) q x).1++(zh4 k u lb H W (gI p)++(tl++(J++(fin (H+4+tl.length+J.length) q x).2))),t⟩
theorem ybc (a b:Int):PC Tryz.prog 104 [.int .i64 a,.int .i64 b] (.int .i64 (-1)) true:=by
 refine PC.of ⟨Tryz.func104,by kernel_rfl,rfl,by kernel_rfl⟩ zao mixed (by show 2≤Tryz.f104.ntmps; decide) ?_
 refine W.r fun K hK=>?_
 simp(disch:=omega)only[↓RU,RV,RH,↓reduceIte,qE,reduceCtorEq,if_pos]
 apply hK;clear hK K
 refine W.r fun K hK=>?_
 simp(disch:=omega)only[↓RU,RV,RH,↓reduceIte,qE,reduceCtorEq,if_pos]
 apply hK;clear hK K
 refine W.ret ?_
 refine Br rfl ?_
 rfl
theorem z0d {l:List Int} (hl:l.length<2147483648) {x:Int} (hx:∀ (j:Nat),l[j]?≠some x):PC Tryz.prog 101 [eInts l,.int .i64 x] (.int .i64 (-1)) true:=by
 refine PC.of ⟨Tryz.func101,by kernel_rfl,rfl,by kernel_rfl⟩ zao mixed (by show 2≤Tryz.f101.ntmps; decide) ?_
 refine W.r fun K hK=>?_
 simp(disch:=omega)only[↓RU,RV,RH,↓reduceIte,qE,reduceCtorEq,if_pos]
 apply hK;clear hK K
 refine W.seq ?_
 refine W.r fun K hK=>?_
 simp(disch:=omega)only[↓RU,RV,RH,↓reduceIte,qE,reduceCtorEq,if_pos,zab,zaa]
 apply hK;clear hK K
 refine W.block ?_
 refine W.loop [0,1,7,8] (fun n vs S=>∃ i:Nat,n=l.length - i∧i≤l.length∧vs=[eInts l,.int .i64 x,.int .i64 l.length,.int .i64 i]∧S=⟨[],0⟩) (l.length) ?_ ?_
 ·refine ⟨0,0,rfl,Nat.zero_le _,?_,rfl⟩
  simp [Env.put,Env.of,zae]
 rintro n vs S - ⟨i,rfl,h_i,rfl,rfl⟩
 refine W.r fun K hK=>?_
 simp(disch:=omega)only[↓RU,RV,RH,↓reduceIte,qE,reduceCtorEq,if_pos,w64,zaa]
 apply hK;clear hK K
 refine W.seq ?_
 refine W.cond rfl (fun h0=>?_) (fun h0=>?_)
 ·try simp only[RL]at h0
  obtain ⟨y,hy,-⟩:=zaf (show i<l.length by omega)
  have hne:(x == y)=false:=by simpa using fun e=>hx i (by rw [hy,e])
  refine W.skip ?_
  refine xn ?_
  refine W.seq ?_
  refine W.block ?_
  refine W.r fun K hK=>?_
  simp(disch:=omega)only[↓RU,RV,RH,↓reduceIte,qE,reduceCtorEq,if_pos]
  apply hK;clear hK K
  refine W.r fun K hK=>?_
  simp(disch:=omega)only[↓RU,RV,RH,↓reduceIte,qE,reduceCtorEq,if_pos,w64,zab,zaa,hy,hne]
  apply hK;clear hK K
  refine W.cond rfl (fun h1=>?_) (fun h1=>?_)
  ·try simp only[RL]at h1
   exact absurd h1 (by simp)
  try simp only[RL]at h1
  refine W.skip ?_
  refine XbN ?_
  refine xn ?_
  refine W.k fun K hK=>?_
  simp(disch:=omega)only[↓RU,RV,RH,↓reduceIte,qE,reduceCtorEq,if_pos,w64,zaa]
  apply hK;clear hK K
  refine xn ?_
  refine ⟨l.length - (i+1),by omega,0,i+1,rfl,by omega,?_,rfl⟩
  simp [Env.put,Env.of]
 try simp only[RL]at h0
 obtain rfl:i=l.length:=by omega
 refine W.exit ?_
 refine xe ?_
 refine xe ?_
 refine XBlock.hit ?_
 refine xn ?_
 refine W.r fun K hK=>?_
 simp(disch:=omega)only[↓RU,RV,RH,↓reduceIte,qE,reduceCtorEq,if_pos]
 apply hK;clear hK K
 refine W.ret ?_
 refine Br rfl ?_
 rfl
theorem zsi {l:List Int} (hl:l.length<2147483648) {x:Int} (hx:∀ (j:Nat),l[j]?≠some x):PC Tryz.prog 77 [eInts l,.int .i64 x] (.bool false) true:=by
 have hd:decide ((-1:Int) ≥ 0)=false:=by decide
 refine PC.of ⟨Tryz.func77,by kernel_rfl,rfl,by kernel_rfl⟩ zao mixed (by show 2≤Tryz.f77.ntmps; decide) ?_
 refine W.r fun K hK=>?_
 simp(disch:=omega)only[↓RU,RV,RH,↓reduceIte,qE,reduceCtorEq,if_pos]
 apply hK;clear hK K
 refine W.r fun K hK=>?_
 simp(disch:=omega)only[↓RU,RV,RH,↓reduceIte,qE,reduceCtorEq,if_pos,qN,w64,zaa,hd]
 refine zad.pc (z0d hl hx) rfl (.inl rfl) ?_
 simp(disch:=omega)only[↓RU,RV,RH,↓reduceIte,qE,reduceCtorEq,if_pos,qN,w64,zaa,hd]
 apply hK;clear hK K
 refine W.ret ?_
 refine Br rfl ?_
 rfl
theorem zji {l:List Int} (hl:l.length<2147483648) {x:Int}:PC Tryz.prog 77 [eInts l,.int .i64 x] (.bool (l.contains x)) true:=by
 by_cases h:x∈l
 ·have hk:l.idxOf x<l.length:=List.idxOf_lt_length_of_mem h
  have e:l.contains x=true:=by simpa using h
  rw [e]
  exact zz2 hl (i:=l.idxOf x) (by rw [List.getElem?_eq_getElem hk]; exact congrArg some (List.getElem_idxOf hk)) fun j hj hq=>by
   have:=List.not_of_lt_findIdx (p:=(· == x)) (xs:=l) (i:=j) (show j<l.findIdx (· == x) from hj)
   rw [List.getElem?_eq_getElem (by omega)]at hq
   rw [Option.some.inj hq]at this
   simp at this
 have e:l.contains x=false:=by simpa using h
 rw [e]
 exact zsi hl fun j hj=>h (List.mem_of_getElem? hj)
theorem yc5 {l:List Int} (hl:l.length<2147483648):PC Tryz.prog 107 [eInts l] (.bool (tst l)) true:=by
 refine PC.of ⟨Tryz.func107,by kernel_rfl,rfl,by kernel_rfl⟩ zao mixed (by show 1≤Tryz.f107.ntmps; decide) ?_
 refine W.r fun K hK=>?_
 simp(disch:=omega)only[↓RU,RV,RH,↓reduceIte,qE,reduceCtorEq,if_pos]
 apply hK;clear hK K
 refine W.r fun K hK=>?_
 simp(disch:=omega)only[↓RU,RV,RH,↓reduceIte,qE,reduceCtorEq,if_pos,qN]
 refine zad.pc (zji hl) rfl (.inl rfl) ?_
 simp(disch:=omega)only[↓RU,RV,RH,↓reduceIte,qE,reduceCtorEq,if_pos,qN]
 apply hK;clear hK K
 refine W.ret ?_
 refine Br rfl ?_
 rfl
theorem ye4 {σ:Type} {lb k nh nw:Nat} {pre:σ→List Ob} {fin:Nat→List Txt→Nat→List Ob × List Ob} {stop:List Txt→Bool} {nxt:σ→List Txt→σ} (Y:YC lb k nh nw pre fin stop nxt) {p:List Txt} {R:List RmB} (hs:St nh nw p R) (hn:R.length≤9) (h1:1≤nh) (h2:nh≤6) (h3:1≤nw) (h4:nw≤6) (hf:¬ fi p<nh) (s:σ) (t:Nat) (n:Int):Ev Tryz.prog 105 [.int .i64 n,.ip [zeu (gI p)] 0,.ip [.yl lb] 0,.ip [.int .i64 nw] 0,.ip [.int .i64 nh] 0,.undef] ⟨pre s,t⟩ fun v S=>v = .bool (!stop p)∧∃ t2,if stop p=true then ∃ x,S=⟨(fin 0 p x).1++(fin 0 p x).2,t2⟩ else S=⟨pre (nxt s p),t2⟩:=by
 obtain ⟨q1,⟨q2,q3⟩,q4,q5⟩:=hs.plan hn hf h1 h2 h3 h4
 have hgl:=zh6 hs.sh
 have hrw:∀ r∈gI p,r.length=nw:=fun r hr=>by obtain ⟨x,hx,rfl⟩:=List.mem_map.1 hr; rw [List.length_map]; exact hs.sh.w x hx
 have hix:=ydi (hs.rows hn)
 rw [hs.sh.h,if_neg hf]at hix
 have hI:=zlq (l:=gI p) (by omega) (cap:=[]) (g:=107) rfl (test:=tst) fun x hx=>yc5 (by rw [hrw x hx]; omega)
 rw [hix]at hI
 have hS:=zr6 (g:=gI p) (by omega) (fun r hr=>by rw [hrw r hr]; omega) q2
 rw [q3,q4,q5]at hS
 have hY:=Y.ey s p t q1 hs.sh
 refine Ev.of ⟨Tryz.func105,by kernel_rfl,rfl,by kernel_rfl⟩ zao mixed (by show 6≤Tryz.f105.ntmps; decide) ?_
 refine W.r fun K hK=>?_
 simp(disch:=omega)only[↓RU,RV,RH,↓reduceIte,qE,reduceCtorEq,if_pos,↓RS,RG,qA,qM,qL]
 apply hK;clear hK K
 refine W.r fun K hK=>?_
 simp(disch:=omega)only[↓RU,RV,RH,↓reduceIte,qE,reduceCtorEq,if_pos,qN,↓RS,RG,qA,qM,qL,ty1,zab,zb7,zaa,Int.toNat_zero,List.getElem?_cons_zero]
 refine zad.pc (hI) rfl (.inl rfl) ?_
 simp(disch:=omega)only[↓RU,RV,RH,↓reduceIte,qE,reduceCtorEq,if_pos,qN,↓RS,RG,qA,qM,qL,ty1,zab,zb7,zaa,Int.toNat_zero,List.getElem?_cons_zero]
 apply hK;clear hK K
 refine W.seq ?_
 refine W.r fun K hK=>?_
 simp(disch:=omega)only[↓RU,RV,RH,↓reduceIte,qE,reduceCtorEq,if_pos,w64,↓RS,RG,qA,qM,qL,zaa]
 apply hK;clear hK K
 refine W.cond rfl (fun h0=>?_) (fun h0=>?_)
 ·try simp only[RL]at h0
  refine W.r fun K hK=>?_
  simp(disch:=omega)only[↓RU,RV,RH,↓reduceIte,qE,reduceCtorEq,if_pos,qN,↓RS,RG,qA,qM,qL,ty1,zab,zb7,zaa,Int.toNat_zero,List.getElem?_cons_zero]
  refine zad.pc (hS) rfl (.inr rfl) ?_
  simp(disch:=omega)only[↓RU,RV,RH,↓reduceIte,qE,reduceCtorEq,if_pos,qN,↓RS,RG,qA,qM,qL,ty1,zab,zb7,zaa,Int.toNat_zero,List.getElem?_cons_zero]
  apply hK;clear hK K
  refine W.r fun K hK=>?_
  simp(disch:=omega)only[↓RU,RV,RH,↓reduceIte,qE,reduceCtorEq,if_pos,qN,↓RS,RG,qA,qM,qL,yi9,Int.toNat_zero,List.getElem?_cons_zero]
  refine yaf.ey (hY) ?_
  rintro _ S2 ⟨rfl,t2,hS2⟩
  simp(disch:=omega)only[↓RU,RV,RH,↓reduceIte,qE,reduceCtorEq,if_pos,qN,↓RS,RG,qA,qM,qL,yi9,Int.toNat_zero,List.getElem?_cons_zero]
  apply hK;clear hK K
  refine W.ret ?_
  refine XThen.ret ?_
  refine Br rfl ?_
  exact ⟨_,rfl,t2,by rw [zah]; exact hS2⟩
 try simp only[RL]at h0
 exact absurd h0 (by simp)
theorem zxf {σ:Type} {lb k nh nw:Nat} {pre:σ→List Ob} {fin:Nat→List Txt→Nat→List Ob × List Ob} {stop:List Txt→Bool} {nxt:σ→List Txt→σ} (Y:YC lb k nh nw pre fin stop nxt) {p:List Txt} {R:List RmB} (hs:St nh nw p R) (hn:R.length≤9) (h1:1≤nh) (h2:nh≤6) (h3:1≤nw) (h4:nw≤6) (hf:¬ fi p<nh) {u:Nat} (s:σ) (tl:List Ob) (t:Nat) (n:Int) :
  Ev Tryz.prog 105 [.int .i64 n,.ref (k+2+nh) (u+2) 0,.ref k u 0,.ip [.int .i64 nw] 0,.ip [.int .i64 nh] 0,.ref (k+3+nh) (u+3) 0] ⟨pre s++(zh4 k u lb nh nw (gI p)++tl),t⟩ (zpf k u lb nh nw pre fin stop nxt [p] s p tl):=by
 have hk:=Y.len s
 have hgl:=zh6 hs.sh
 have e0:=gO_y (u:=u) (lb:=lb) (H:=nh) (W:=nw) (g:=gI p) (tl:=tl) hk
 refine Ev.lend (ye4 Y hs hn h1 h2 h3 h4 hf s t n) ?_ ?_
 ·rw [hk]
  refine ⟨.inr rfl,.inr (yby hk hs.sh),.inr ?_,.inr rfl,.inr rfl,.inl rfl,trivial⟩
  rw [z7e,if_neg (by omega)]
  obtain ⟨S,hS⟩:∃ S:Store,(⟨pre s++(zh4 k u lb nh nw (gI p)++tl),t⟩:Store)=S:=⟨_,rfl⟩
  rw [hS]
  have e1:S.cellsOf k u=some [.yl lb]:=by rw [← hS]; simp only[Store.cellsOf,e0,if_true]
  show (if k≤k then (S.cellsOf k u).bind fun cells=>(cells.mapM (rfz S k 9)).map (PV.ip · 0) else none)=_
  rw [if_pos (qR _),e1]; rfl
 rintro v S ⟨rfl,t2,hS⟩
 have hR:(zh4 k u lb nh nw (gI p)++tl).length=nh+4+tl.length:=by rw [List.length_append,zce hgl]
 rw [hk,hR]
 unfold zpf
 cases hst:stop p with
 | false =>
  rw [hst]at hS
  simp only[qF,if_false]at hS
  subst hS
  have hl:=Y.len (nxt s p)
  refine ⟨.bool true,_,rfl,Y.sp _ _,by omega,Y.lp1 s p,?_⟩
  simp only[List.find?_cons,hst,List.find?_nil]
  refine ⟨trivial,t2,?_⟩
  rw [qT (by omega),List.drop_of_length_le (by omega),qN]; rfl
 | true =>
  rw [hst]at hS
  simp only[if_true]at hS
  obtain ⟨x,rfl⟩:=hS
  have hl:=Y.finl (nh+4+tl.length) p x
  refine ⟨.bool false,_,rfl,Y.sfin _ _ _,by rw [List.length_append]; omega,Y.lp2 s p x,?_⟩
  simp only[List.find?_cons,hst]
  refine ⟨trivial,t2,x,[],?_⟩
  rw [List.take_left' hl,List.drop_left' hl]
  simp
def Cd (m:Nat) (p:List Txt) (n w d:Nat):List (List Txt):=En m (zef p (fi p) (fk p) (w+1) (rl n) (fi p+(d+1))) (n+1)
def Ld (m:Nat) (p:List Txt) (n w d:Nat):List (List Txt):=(List.range d).flatMap (Cd m p n w)
def Lw (m:Nat) (p:List Txt) (n H w:Nat):List (List Txt):=(List.range w).flatMap fun w=>Ld m p n w (H - fi p)
theorem zuw {m n w d:Nat} {p:List Txt}:Ld m p n w (d+1)=Ld m p n w d++Cd m p n w d:=by simp [Ld,qS]
theorem zux {m n H w:Nat} {p:List Txt}:Lw m p n H (w+1)=Lw m p n H w++Ld m p n w (H - fi p):=by simp [Lw,qS]
theorem yag {m n H w d W2:Nat} {p:List Txt} (hw:w<W2) (hd:d<H - fi p):∃ r,Lw m p n H W2=Lw m p n H w++Ld m p n w d++Cd m p n w d++r:=by
 obtain ⟨r1,h1⟩:=ztd (f:=fun w=>Ld m p n w (H - fi p)) (l:=List.range W2) (w:=w) (a:=w) (List.getElem?_range hw)
 obtain ⟨r2,h2⟩:=ztd (f:=Cd m p n w) (l:=List.range (H - fi p)) (w:=d) (a:=d) (List.getElem?_range hd)
 refine ⟨r2++r1,?_⟩
 rw [List.take_range,Nat.min_eq_left (by omega)]at h1 h2
 have e1:Lw m p n H W2=(List.range w).flatMap (fun w=>Ld m p n w (H - fi p))++Ld m p n w (H - fi p)++r1:=h1
 have e2:Ld m p n w (H - fi p)=Ld m p n w d++Cd m p n w d++r2:=h2
 rw [e1,e2]
 simp [Lw,List.append_assoc]
theorem yd8 {m n H:Nat} {p:List Txt} (h:p.length=H) (hf:fi p<H):En (m+1) p n=Lw m p n H (fw p):=by
 unfold En
 rw [h,if_pos hf]; rfl
theorem z5f {A tl:List Ob} {k u lb H W t:Nat} {p:List Txt} (hA:A.length=k) (hp:Shp2 p H W) {r:Nat} {row:Txt} (hr:p[r]?=some row):reify ⟨A++(zh4 k u lb H W (gI p)++tl),t⟩ true 10 (.loc (k+2+r) (u+1) 0 W)=some (eInts (row.map cI)):=by
 have hl:row.length=W:=hp.w row (List.mem_of_getElem? hr)
 have h1:=zb5 (S:=⟨A++(zh4 k u lb H W (gI p)++tl),t⟩) (im:=true) (k:=9) (n:=W) (ts:=(row.map cI).map (.int .i64)) (ygi (u:=u) (lb:=lb) (W:=W) (tl:=tl) hA (zh6 hp) (z2b hr)) (by simp [hl]) (zbm fun x hx=>by obtain ⟨z,_,rfl⟩:=List.mem_map.1 hx; rfl)
 rw [h1]
 show _=some (PV.sl _ (row.map cI).length)
 rw [List.length_map,hl]
theorem yiq {A B tl:List Ob} {x:Ob} {t:Nat} {S:Store} (h:(⟨A++(B++tl),t⟩:Store)=S):Store.take ⟨A++(B++(tl++[x])),t⟩ (A.length+(B.length+tl.length))=S:=zum.trans h
theorem zdl {tl R:List Ob} {x:Ob}:(tl++x::R)[tl.length]?=some x:=by rw [List.getElem?_append_right (qR _),Nat.sub_self]; rfl
theorem zdm {tl R:List Ob} {x y:Ob}:(tl++x::R).set tl.length y=tl++y::R:=by rw [List.set_append_right _ _ (qR _),Nat.sub_self]; rfl
theorem ya3 {p:List Txt} {H W:Nat} (hp:Shp2 p H W) (hf:fi p<H):fk p+fw p≤W:=by
 rcases Nat.eq_zero_or_pos (fw p) with h | h
 ·have:=(zjl hp hf).1; omega
 have:=((ztf hp hf).1 (show fw p - 1<fw p by omega)).1; omega
theorem z2a {p:List Txt} {H W w:Nat} (hp:Shp2 p H W) (hf:fi p<H) (h:w≤fw p):w<fw p∨(w=fw p∧fk p+w<W∧ch p (fi p) (fk p+w)≠46)∨(w=fw p∧¬ fk p+w<W):=by
 rcases Nat.lt_or_eq_of_le h with h | h
 ·exact .inl h
 by_cases q:fk p+w<W
 ·refine .inr (.inl ⟨h,q,fun e=>?_⟩)
  have:¬ w<fw p:=by omega
  refine this ((ztf hp hf).2 ⟨q,fun b b1 b2=>?_⟩)
  by_cases e2:b=fk p+w
  ·rw [e2]; exact e
  have h3:b - fk p<fw p:=by omega
  exact ((ztf hp hf).1 h3).2 b b1 (by omega)
 exact .inr (.inr ⟨h,q⟩)
set_option maxHeartbeats 1000000 in
theorem z7a {σ:Type} {lb k nh nw:Nat} {pre:σ→List Ob} {fin:Nat→List Txt→Nat→List Ob × List Ob} {stop:List Txt→Bool} {nxt:σ→List Txt→σ} (Y:YC lb k nh nw pre fin stop nxt) {p:List Txt} {R:List RmB} (hs:St nh nw p R) (hn:R.length≤9) (h1:1≤nh) (h2:nh≤6) (h3:1≤nw) (h4:nw≤6) {m:Nat} (hm:R.length+(m+1)=9) (h9:nh*nw≤9) (hf:fi p<nh) {u:Nat} (s:σ) (tl:List Ob) (t:Nat)
  (ih:∀ w d,w<fw p→d<nh - fi p→∀ (s:σ) (tl:List Ob) (t:Nat),Ev Tryz.prog 105 [.int .i64 (((R.length:Nat):Int)+1),.ref (k+2+nh) (u+2) 0,.ref k u 0,.ip [.int .i64 nw] 0,.ip [.int .i64 nh] 0,.ref (k+3+nh) (u+3) 0] ⟨pre s++(zh4 k u lb nh nw (gI (zef p (fi p) (fk p) (w+1) (rl R.length) (fi p+(d+1))))++tl),t⟩ (zpf k u lb nh nw pre fin stop nxt (Cd m p R.length w d) s (zef p (fi p) (fk p) (w+1) (rl R.length) (fi p+(d+1))) tl)):Ev Tryz.prog 105 [.int .i64 (R.length:Nat),.ref (k+2+nh) (u+2) 0,.ref k u 0,.ip [.int .i64 nw] 0,.ip [.int .i64 nh] 0,.ref (k+3+nh) (u+3) 0] ⟨pre s++(zh4 k u lb nh nw (gI p)++tl),t⟩ fun v S=>zpf k u lb nh nw pre fin stop nxt (Lw m p R.length nh (fw p)) s p tl v S:=by
 have hfw:=ya3 hs.sh hf
 have hcr:cI (rl R.length)=((R.length:Nat):Int):=by rw [cI,if_neg (zpa (by omega)),zj2 (by omega)]; omega
 have hk:=Y.len s
 have hgl:=zh6 hs.sh
 obtain ⟨f1,f2,f3⟩:=zjl hs.sh hf
 obtain ⟨hrr,hrl,-,hrx⟩:=z17 hs.sh hf
 have hlt:=hs.rows hn
 have hrw:∀ r∈gI p,r.length=nw:=fun r hr=>by obtain ⟨x,hx,rfl⟩:=List.mem_map.1 hr; rw [List.length_map]; exact hs.sh.w x hx
 have hix:=ydi hlt
 rw [hs.sh.h,if_pos hf]at hix
 have hI:=zlq (l:=gI p) (by omega) (cap:=[]) (g:=107) rfl (test:=tst) fun x hx=>yc5 (by rw [hrw x hx]; omega)
 rw [hix]at hI
 have hX:=zn0 (l:=(z16 p).map cI) (by rw [List.length_map]; omega) (x := -1) (i:=fk p) (by rw [List.getElem?_map,hrx _ f1,f2]; rfl) fun j hj e=>by
  rw [List.getElem?_map,hrx j (by omega)]at e
  exact f3 (fi p) j hf (by omega) (.inr ⟨rfl,hj⟩) ((yc1 (hs.letter hn hf (by omega))).1 (Option.some.inj e))
 refine Ev.of ⟨Tryz.func105,by kernel_rfl,rfl,by kernel_rfl⟩ zao mixed (by show 6≤Tryz.f105.ntmps; decide) ?_
 refine W.r fun K hK=>?_
 simp(disch:=omega)only[↓RU,RV,RH,↓reduceIte,qE,reduceCtorEq,if_pos,↓RS,RG,qA,qM,qL,List.append_assoc,List.length_append,List.cons_append,List.nil_append,hk,zce hgl,ziw hk hgl,zeh hk hgl,zdl,zdm,zei,zej,zk0 hk hgl,zlp hk hgl,zkj hk,zdh hf,zb9,ze2]
 apply hK;clear hK K
 refine W.r fun K hK=>?_
 simp(disch:=omega)only[↓RU,RV,RH,↓reduceIte,qE,reduceCtorEq,if_pos,qN,↓RS,RG,qA,qM,qL,ty1,zab,zb7,zaa,List.append_assoc,List.length_append,List.cons_append,List.nil_append,hk,zce hgl,ziw hk hgl,zeh hk hgl,zdl,zdm,zei,zej,zk0 hk hgl,zlp hk hgl,zkj hk,zdh hf,zb9,ze2]
 refine zad.pc (hI) (zcw (z5e hk hs.sh (k2:=7)) (zcw rfl rfl)) (.inl rfl) ?_
 simp(disch:=omega)only[↓RU,RV,RH,↓reduceIte,qE,reduceCtorEq,if_pos,qN,↓RS,RG,qA,qM,qL,ty1,zab,zb7,zaa,List.append_assoc,List.length_append,List.cons_append,List.nil_append,hk,zce hgl,ziw hk hgl,zeh hk hgl,zdl,zdm,zei,zej,zk0 hk hgl,zlp hk hgl,zkj hk,zdh hf,zb9,ze2]
 apply hK;clear hK K
 refine W.seq ?_
 refine W.r fun K hK=>?_
 simp(disch:=omega)only[↓RU,RV,RH,↓reduceIte,qE,reduceCtorEq,if_pos,w64,↓RS,RG,qA,qM,qL,zaa,List.append_assoc,List.length_append,List.cons_append,List.nil_append,hk,zce hgl,ziw hk hgl,zeh hk hgl,zdl,zdm,zei,zej,zk0 hk hgl,zlp hk hgl,zkj hk,zdh hf,zb9,ze2]
 apply hK;clear hK K
 refine W.cond rfl (fun h0=>?_) (fun h0=>?_)
 ·try simp only[RL]at h0
  exfalso; omega
 ·try simp only[RL]at h0
  refine W.skip ?_
  refine xn ?_
  refine W.r fun K hK=>?_
  simp(disch:=omega)only[↓RU,RV,RH,↓reduceIte,qE,reduceCtorEq,if_pos,qN,↓RS,RG,qA,qM,qL,ty1,zab,zb7,zaa,List.append_assoc,List.length_append,List.cons_append,List.nil_append,hk,zce hgl,ziw hk hgl,zeh hk hgl,zdl,zdm,zei,zej,zk0 hk hgl,zlp hk hgl,zkj hk,zdh hf,zb9,ze2]
  refine zad.pc (hX) (zcw (z5f hk hs.sh hrr) (zcw rfl rfl)) (.inl rfl) ?_
  simp(disch:=omega)only[↓RU,RV,RH,↓reduceIte,qE,reduceCtorEq,if_pos,qN,↓RS,RG,qA,qM,qL,ty1,zab,zb7,zaa,List.append_assoc,List.length_append,List.cons_append,List.nil_append,hk,zce hgl,ziw hk hgl,zeh hk hgl,zdl,zdm,zei,zej,zk0 hk hgl,zlp hk hgl,zkj hk,zdh hf,zb9,ze2]
  apply hK;clear hK K
  refine W.r fun K hK=>?_
  simp(disch:=omega)only[↓RU,RV,RH,↓reduceIte,qE,reduceCtorEq,if_pos,↓RS,RG,qA,qM,qL,List.append_assoc,List.length_append,List.cons_append,List.nil_append,hk,zce hgl,ziw hk hgl,zeh hk hgl,zdl,zdm,zei,zej,zk0 hk hgl,zlp hk hgl,zkj hk,zdh hf,zb9,ze2]
  apply hK;clear hK K
  refine W.seq ?_
  refine W.r fun K hK=>?_
  simp(disch:=omega)only[↓RU,RV,RH,↓reduceIte,qE,reduceCtorEq,if_pos,↓RS,RG,qA,qM,qL,List.append_assoc,List.length_append,List.cons_append,List.nil_append,hk,zce hgl,ziw hk hgl,zeh hk hgl,zdl,zdm,zei,zej,zk0 hk hgl,zlp hk hgl,zkj hk,zdh hf,zb9,ze2]
  apply hK;clear hK K
  refine W.block ?_
  refine W.loop [0,1,2,3,4,5,8,11,12,13] (fun n vs S=>∃ w t:Nat,n=fw p - w∧w≤fw p∧((Lw m p R.length nh w).find? stop=none)∧vs=[.int .i64 (R.length:Nat),.ref (k+2+nh) (u+2) 0,.ref k u 0,.ip [.int .i64 nw] 0,.ip [.int .i64 nh] 0,.ref (k+3+nh) (u+3) 0,.int .i64 (fi p:Nat),.int .i64 (fk p:Nat),.fn 109 [.ref (k+2+nh) (u+2) 0],.int .i64 ((w+1:Nat):Int)]∧S=⟨pre ((Lw m p R.length nh w).foldl nxt s)++(zh4 k u lb nh nw (gI p)++tl),t⟩) (fw p) ?_ ?_
  ·refine ⟨_,0,t,rfl,Nat.zero_le _,rfl,?_,zak ?_⟩
   rotate_left
   ·rfl
   simp [Env.put,Env.of,zae]
  rintro n vs S - ⟨w,t,rfl,h_w,hno,rfl,rfl⟩
  have hk:=Y.len ((Lw m p R.length nh w).foldl nxt s)
  refine W.seq ?_
  refine W.r fun K hK=>?_
  rcases (show w<fw p∨(w=fw p∧fk p+w<nw∧ch p (fi p) (fk p+w)≠46)∨(w=fw p∧¬ fk p+w<nw) from z2a hs.sh hf h_w) with hw | ⟨hw,hw2,hw3⟩ | ⟨hw,hw2⟩
  ·skip
   obtain ⟨hw1,hw2⟩:=(ztf hs.sh hf).1 hw
   have hc:=hrx _ hw1
   rw [hw2 _ (by omega) (by omega)]at hc
   have e1:decide (((fk p:Nat):Int)+((w+1:Nat):Int)≤(nw:Int))=true:=decide_eq_true (by omega)
   have e2:decide (cI 46<0)=true:=rfl
   have tn:(((fk p:Nat):Int)+((w+1:Nat):Int) - 1).toNat=fk p+w:=by omega
   have gr:=ygi (u:=u) (lb:=lb) (W:=nw) (tl:=tl) hk hgl (z2b hrr)
   simp(disch:=omega)only[↓RU,RV,RH,↓reduceIte,qE,reduceCtorEq,if_pos,w64,↓RS,RG,qA,qM,qL,ty1,zab,zb7,zaa,List.append_assoc,List.length_append,List.cons_append,List.nil_append,hk,zce hgl,ziw hk hgl,zeh hk hgl,zdl,zdm,zei,zej,zk0 hk hgl,zlp hk hgl,zkj hk,zdh hf,zb9,ze2,e1,e2,tn,hc,gr,hrl]
   apply hK;clear hK K
   refine W.cond rfl (fun h8=>?_) (fun h8=>?_)
   ·try simp only[RL]at h8
    refine W.skip ?_
    refine xn ?_
    refine W.seq ?_
    refine W.block ?_
    refine W.r fun K hK=>?_
    simp(disch:=omega)only[↓RU,RV,RH,↓reduceIte,qE,reduceCtorEq,if_pos,↓RS,RG,qA,qM,qL,List.append_assoc,List.length_append,List.cons_append,List.nil_append,hk,zce hgl,ziw hk hgl,zeh hk hgl,zdl,zdm,zei,zej,zk0 hk hgl,zlp hk hgl,zkj hk,zdh hf,zb9,ze2]
    apply hK;clear hK K
    refine W.block ?_
    refine W.loop [0,1,2,3,4,5,8,11,12,13,14] (fun n vs S=>∃ d t:Nat,n=nh - fi p - d∧d≤nh - fi p∧((Lw m p R.length nh w++Ld m p R.length w d).find? stop=none)∧vs=[.int .i64 (R.length:Nat),.ref (k+2+nh) (u+2) 0,.ref k u 0,.ip [.int .i64 nw] 0,.ip [.int .i64 nh] 0,.ref (k+3+nh) (u+3) 0,.int .i64 (fi p:Nat),.int .i64 (fk p:Nat),.fn 109 [.ref (k+2+nh) (u+2) 0],.int .i64 ((w+1:Nat):Int),.int .i64 ((d+1:Nat):Int)]∧S=⟨pre ((Lw m p R.length nh w++Ld m p R.length w d).foldl nxt s)++(zh4 k u lb nh nw (gI p)++tl),t⟩) (nh - fi p) ?_ ?_
    ·have hl0:(Lw m p R.length nh w++Ld m p R.length w 0)=(Lw m p R.length nh w):=by rw [show Ld m p R.length w 0=[] from rfl,qN]
     refine ⟨_,0,t,rfl,Nat.zero_le _,by rw [hl0]; exact hno,?_,zak ?_⟩
     rotate_left
     ·rw [hl0]
     simp [Env.put,Env.of]
    rintro n vs S - ⟨d,t,rfl,h_d,hno2,rfl,rfl⟩
    have hk:=Y.len ((Lw m p R.length nh w++Ld m p R.length w d).foldl nxt s)
    refine W.seq ?_
    refine W.r fun K hK=>?_
    simp(disch:=omega)only[↓RU,RV,RH,↓reduceIte,qE,reduceCtorEq,if_pos,w64,↓RS,RG,qA,qM,qL,zaa,List.append_assoc,List.length_append,List.cons_append,List.nil_append,hk,zce hgl,ziw hk hgl,zeh hk hgl,zdl,zdm,zei,zej,zk0 hk hgl,zlp hk hgl,zkj hk,zdh hf,zb9,ze2]
    apply hK;clear hK K
    refine W.cond rfl (fun h2c=>?_) (fun h2c=>?_)
    ·try simp only[RL]at h2c
     have hd:d<nh - fi p:=by omega
     have hps:Shp2 (zef p (fi p) (fk p) (w+1) (rl R.length) (fi p+(d+1))) nh nw:=zlu hs.sh
     have hbk:=ybs (c:=rl R.length) (i:=fi p) (k:=fk p) (w:=w+1) (e:=fi p+(d+1)) hs.sh fun a b ha hb q1 q2=>hs.col (fi p) b a hf hb (hw2 b q2.1 (by omega)) q1.1 ha
     refine W.skip ?_
     refine xn ?_
     refine W.seq ?_
     refine W.block ?_
     refine W.r fun K hK=>?_
     simp(disch:=omega)only[↓RU,RV,RH,↓reduceIte,qE,reduceCtorEq,if_pos,↓RS,RG,qA,qM,qL,zc5,zaa,zc6,List.append_assoc,List.length_append,List.cons_append,List.nil_append,hk,zce hgl,ziw hk hgl,zeh hk hgl,zdl,zdm,zei,zej,zk0 hk hgl,zlp hk hgl,zkj hk,zdh hf,zb9,ze2]
     apply hK;clear hK K
     refine W.r fun K hK=>?_
     simp(disch:=omega)only[↓RU,RV,RH,↓reduceIte,qE,reduceCtorEq,if_pos,qN,↓RS,RG,qA,qM,qL,zc5,zaa,zc6,List.append_assoc,List.length_append,List.cons_append,List.nil_append,hk,zce hgl,ziw hk hgl,zeh hk hgl,zdl,zdm,zei,zej,zk0 hk hgl,zlp hk hgl,zkj hk,zdh hf,zb9,ze2]
     have hE:=zlz (u:=u) (lb:=lb) (tl:=tl++[Ob.arr t 92 4 [.int .i64 (fi p:Nat),.int .i64 (fk p:Nat),.int .i64 ((d+1:Nat):Int),.int .i64 ((w+1:Nat):Int)]]) (t:=t+1) (c:=rl R.length) hk hs.sh (i:=fi p) (kk:=fk p) (d:=d+1) (w:=w+1) (by omega) (by omega) h2 h4
     rw [hcr]at hE
     refine zad.ev (hE) ?_
     rintro _ _ ⟨rfl,t2,-,rfl⟩
     simp(disch:=omega)only[↓RU,RV,RH,↓reduceIte,qE,reduceCtorEq,if_pos,qN,↓RS,RG,qA,qM,qL,zc5,zaa,zc6,List.append_assoc,List.length_append,List.cons_append,List.nil_append,hk,zce hgl,ziw hk hgl,zeh hk hgl,zdl,zdm,zei,zej,zk0 hk hgl,zlp hk hgl,zkj hk,zdh hf,zb9,ze2]
     apply hK;clear hK K
     refine W.r fun K hK=>?_
     rcases hF:(Cd m p R.length w d).find? stop with _ | q
     ·skip
      have hgl:=zh6 hps
      simp(disch:=omega)only[↓RU,RV,RH,↓reduceIte,qE,reduceCtorEq,if_pos,w64,qN,↓RS,RG,qA,qM,qL,ydz,zaa,List.append_assoc,List.length_append,List.cons_append,List.nil_append,hk,zce hgl,ziw hk hgl,zeh hk hgl,zdl,zdm,zei,zej,zk0 hk hgl,zlp hk hgl,zkj hk,zdh hf,zb9,ze2]
      refine zad.ev (ih w d hw hd _ _ _) ?_
      rintro _ _ hR
      simp only[zpf,hF]at hR
      obtain ⟨rfl,t3,rfl⟩:=hR
      simp(disch:=omega)only[↓RU,RV,RH,↓reduceIte,qE,reduceCtorEq,if_pos,w64,qN,↓RS,RG,qA,qM,qL,ydz,zaa,List.append_assoc,List.length_append,List.cons_append,List.nil_append,hk,zce hgl,ziw hk hgl,zeh hk hgl,zdl,zdm,zei,zej,zk0 hk hgl,zlp hk hgl,zkj hk,zdh hf,zb9,ze2]
      apply hK;clear hK K
      refine W.r fun K hK=>?_
      have hk:=Y.len ((Cd m p R.length w d).foldl nxt ((Lw m p R.length nh w++Ld m p R.length w d).foldl nxt s))
      simp(disch:=omega)only[↓RU,RV,RH,↓reduceIte,qE,reduceCtorEq,if_pos,qN,↓RS,RG,qA,qM,qL,zc5,zaa,zc6,List.append_assoc,List.length_append,List.cons_append,List.nil_append,hk,zce hgl,ziw hk hgl,zeh hk hgl,zdl,zdm,zei,zej,zk0 hk hgl,zlp hk hgl,zkj hk,zdh hf,zb9,ze2]
      have hE:=zlz (u:=u) (lb:=lb) (tl:=tl++[Ob.arr t 92 4 [.int .i64 (fi p:Nat),.int .i64 (fk p:Nat),.int .i64 ((d+1:Nat):Int),.int .i64 ((w+1:Nat):Int)]]) (t:=t3) (c:=46) hk hps (i:=fi p) (kk:=fk p) (d:=d+1) (w:=w+1) (by omega) (by omega) h2 h4
      rw [hbk,show cI 46 = -1 from rfl]at hE
      refine zad.ev (hE) ?_
      rintro _ _ ⟨rfl,t4,-,rfl⟩
      simp(disch:=omega)only[↓RU,RV,RH,↓reduceIte,qE,reduceCtorEq,if_pos,qN,↓RS,RG,qA,qM,qL,zc5,zaa,zc6,List.append_assoc,List.length_append,List.cons_append,List.nil_append,hk,zce hgl,ziw hk hgl,zeh hk hgl,zdl,zdm,zei,zej,zk0 hk hgl,zlp hk hgl,zkj hk,zdh hf,zb9,ze2]
      apply hK;clear hK K
      refine W.r fun K hK=>?_
      simp(disch:=omega)only[↓RU,RV,RH,↓reduceIte,qE,reduceCtorEq,if_pos,↓RS,RG,qA,qM,qL,List.append_assoc,List.length_append,List.cons_append,List.nil_append,hk,zce hgl,ziw hk hgl,zeh hk hgl,zdl,zdm,zei,zej,zk0 hk hgl,zlp hk hgl,zkj hk,zdh hf,zb9,ze2]
      apply hK;clear hK K
      refine W.cond rfl (fun h3c=>?_) (fun h3c=>?_)
      ·try simp only[RL]at h3c
       exact absurd h3c (by simp)
      ·try simp only[RL]at h3c
       refine W.skip ?_
       refine XbN ?_
       refine xn ?_
       refine W.k fun K hK=>?_
       simp(disch:=omega)only[↓RU,RV,RH,↓reduceIte,qE,reduceCtorEq,if_pos,w64,↓RS,RG,qA,qM,qL,zaa,List.append_assoc,List.length_append,List.cons_append,List.nil_append,hk,zce hgl,ziw hk hgl,zeh hk hgl,zdl,zdm,zei,zej,zk0 hk hgl,zlp hk hgl,zkj hk,zdh hf,zb9,ze2]
       apply hK;clear hK K
       refine xn ?_
       refine ⟨nh - fi p - (d+1),by omega,_,d+1,t4,rfl,by omega,?_,?_,yiq ?_⟩
       rotate_left 2
       ·simp only[zuw,← List.append_assoc,List.foldl_append]
       ·rw [zuw,← List.append_assoc,List.find?_append,hno2,Option.none_or]; exact hF
       simp [Env.put,Env.of]
     skip
     have hgl:=zh6 hps
     simp(disch:=omega)only[↓RU,RV,RH,↓reduceIte,qE,reduceCtorEq,if_pos,w64,qN,↓RS,RG,qA,qM,qL,ydz,zaa,List.append_assoc,List.length_append,List.cons_append,List.nil_append,hk,zce hgl,ziw hk hgl,zeh hk hgl,zdl,zdm,zei,zej,zk0 hk hgl,zlp hk hgl,zkj hk,zdh hf,zb9,ze2]
     refine zad.ev (ih w d hw hd _ _ _) ?_
     rintro _ _ hR
     simp only[zpf,hF]at hR
     obtain ⟨rfl,t3,x,J,hS3⟩:=hR
     have hz:nh+4+(tl++[Ob.arr t 92 4 [.int .i64 (fi p:Nat),.int .i64 (fk p:Nat),.int .i64 ((d+1:Nat):Int),.int .i64 ((w+1:Nat):Int)]]).length+J.length=nh+4+tl.length+(Ob.arr t 92 4 [.int .i64 (fi p:Nat),.int .i64 (fk p:Nat),.int .i64 ((d+1:Nat):Int),.int .i64 ((w+1:Nat):Int)]::J).length:=by simp only[List.length_append,List.length_cons,List.length_nil]; omega
     rw [hz]at hS3
     generalize hG:fin (nh+4+tl.length+(Ob.arr t 92 4 [.int .i64 (fi p:Nat),.int .i64 (fk p:Nat),.int .i64 ((d+1:Nat):Int),.int .i64 ((w+1:Nat):Int)]::J).length) q x=G at hS3
     subst hS3
     simp(disch:=omega)only[↓RU,RV,RH,↓reduceIte,qE,reduceCtorEq,if_pos,w64,qN,↓RS,RG,qA,qM,qL,ydz,zaa,List.append_assoc,List.length_append,List.cons_append,List.nil_append,hk,zce hgl,ziw hk hgl,zeh hk hgl,zdl,zdm,zei,zej,zk0 hk hgl,zlp hk hgl,zkj hk,zdh hf,zb9,ze2]
     apply hK;clear hK K
     refine W.r fun K hK=>?_
     have hk:G.1.length=k:=by rw [← hG]; exact Y.finl _ q x
     simp(disch:=omega)only[↓RU,RV,RH,↓reduceIte,qE,reduceCtorEq,if_pos,qN,↓RS,RG,qA,qM,qL,zc5,zaa,zc6,List.append_assoc,List.length_append,List.cons_append,List.nil_append,hk,zce hgl,ziw hk hgl,zeh hk hgl,zdl,zdm,zei,zej,zk0 hk hgl,zlp hk hgl,zkj hk,zdh hf,zb9,ze2]
     have hE:=zlz (u:=u) (lb:=lb) (tl:=tl++Ob.arr t 92 4 [.int .i64 (fi p:Nat),.int .i64 (fk p:Nat),.int .i64 ((d+1:Nat):Int),.int .i64 ((w+1:Nat):Int)]::(J++G.2)) (t:=t3) (c:=46) hk hps (i:=fi p) (kk:=fk p) (d:=d+1) (w:=w+1) (by omega) (by omega) h2 h4
     rw [hbk,show cI 46 = -1 from rfl]at hE
     refine zad.ev (hE) ?_
     rintro _ _ ⟨rfl,t4,-,rfl⟩
     simp(disch:=omega)only[↓RU,RV,RH,↓reduceIte,qE,reduceCtorEq,if_pos,qN,↓RS,RG,qA,qM,qL,zc5,zaa,zc6,List.append_assoc,List.length_append,List.cons_append,List.nil_append,hk,zce hgl,ziw hk hgl,zeh hk hgl,zdl,zdm,zei,zej,zk0 hk hgl,zlp hk hgl,zkj hk,zdh hf,zb9,ze2]
     apply hK;clear hK K
     refine W.r fun K hK=>?_
     simp(disch:=omega)only[↓RU,RV,RH,↓reduceIte,qE,reduceCtorEq,if_pos,↓RS,RG,qA,qM,qL,List.append_assoc,List.length_append,List.cons_append,List.nil_append,hk,zce hgl,ziw hk hgl,zeh hk hgl,zdl,zdm,zei,zej,zk0 hk hgl,zlp hk hgl,zkj hk,zdh hf,zb9,ze2]
     apply hK;clear hK K
     refine W.cond rfl (fun h3c=>?_) (fun h3c=>?_)
     ·try simp only[RL]at h3c
      refine W.r fun K hK=>?_
      simp(disch:=omega)only[↓RU,RV,RH,↓reduceIte,qE,reduceCtorEq,if_pos,↓RS,RG,qA,qM,qL,List.append_assoc,List.length_append,List.cons_append,List.nil_append,hk,zce hgl,ziw hk hgl,zeh hk hgl,zdl,zdm,zei,zej,zk0 hk hgl,zlp hk hgl,zkj hk,zdh hf,zb9,ze2]
      apply hK;clear hK K
      refine W.ret ?_
      refine XBlock.ret ?_
      refine XThen.ret ?_
      refine XThen.ret ?_
      refine XBlock.ret ?_
      refine XBlock.ret ?_
      refine XThen.ret ?_
      refine XThen.ret ?_
      refine XBlock.ret ?_
      refine XThen.ret ?_
      refine Br rfl ?_
      obtain ⟨r,hr⟩:=yag (m:=m) (p:=p) (n:=R.length) hw hd
      exact ⟨_,by rw [zpf,hr,List.find?_append,List.find?_append,hno2,hF]; exact ⟨rfl,t4,x,Ob.arr t 92 4 [.int .i64 (fi p:Nat),.int .i64 (fk p:Nat),.int .i64 ((d+1:Nat):Int),.int .i64 ((w+1:Nat):Int)]::J,by rw [hG]; exact zah⟩⟩
     try simp only[RL]at h3c
     exact absurd h3c (by simp)
    ·try simp only[RL]at h2c
     obtain rfl:d=nh - fi p:=by omega
     refine W.exit ?_
     refine xe ?_
     refine xe ?_
     refine XBlock.hit ?_
     refine XbN ?_
     refine xn ?_
     refine W.k fun K hK=>?_
     simp(disch:=omega)only[↓RU,RV,RH,↓reduceIte,qE,reduceCtorEq,if_pos,w64,↓RS,RG,qA,qM,qL,zaa,List.append_assoc,List.length_append,List.cons_append,List.nil_append,hk,zce hgl,ziw hk hgl,zeh hk hgl,zdl,zdm,zei,zej,zk0 hk hgl,zlp hk hgl,zkj hk,zdh hf,zb9,ze2]
     apply hK;clear hK K
     refine xn ?_
     refine ⟨fw p - (w+1),by omega,_,w+1,t,rfl,by omega,?_,?_,zak ?_⟩
     ·rw [zux]; exact hno2
     rotate_left
     ·rw [zux]
     simp [Env.put,Env.of]
   try simp only[RL]at h8
   exact absurd h8 (by simp)
  ·skip
   have hc:=hrx _ hw2
   have hlc:=(hs.letter hn hf hw2).resolve_left hw3
   have e1:decide (((fk p:Nat):Int)+((w+1:Nat):Int)≤(nw:Int))=true:=decide_eq_true (by omega)
   have e2:decide (cI (ch p (fi p) (fk p+w))<0)=false:=decide_eq_false (by unfold cI; rw [if_neg hw3]; omega)
   have tn:(((fk p:Nat):Int)+((w+1:Nat):Int) - 1).toNat=fk p+w:=by omega
   have gr:=ygi (u:=u) (lb:=lb) (W:=nw) (tl:=tl) hk hgl (z2b hrr)
   simp(disch:=omega)only[↓RU,RV,RH,↓reduceIte,qE,reduceCtorEq,if_pos,w64,↓RS,RG,qA,qM,qL,ty1,zab,zb7,zaa,List.append_assoc,List.length_append,List.cons_append,List.nil_append,hk,zce hgl,ziw hk hgl,zeh hk hgl,zdl,zdm,zei,zej,zk0 hk hgl,zlp hk hgl,zkj hk,zdh hf,zb9,ze2,e1,e2,tn,hc,gr,hrl]
   apply hK;clear hK K
   refine W.cond rfl (fun h8=>?_) (fun h8=>?_)
   ·try simp only[RL]at h8
    exact absurd h8 (by simp)
   try simp only[RL]at h8
   subst hw
   refine W.exit ?_
   refine xe ?_
   refine xe ?_
   refine XBlock.hit ?_
   refine xn ?_
   refine W.r fun K hK=>?_
   simp(disch:=omega)only[↓RU,RV,RH,↓reduceIte,qE,reduceCtorEq,if_pos,↓RS,RG,qA,qM,qL,List.append_assoc,List.length_append,List.cons_append,List.nil_append,hk,zce hgl,ziw hk hgl,zeh hk hgl,zdl,zdm,zei,zej,zk0 hk hgl,zlp hk hgl,zkj hk,zdh hf,zb9,ze2]
   apply hK;clear hK K
   refine W.ret ?_
   refine Br rfl ?_
   exact ⟨_,by rw [zpf,hno]; exact ⟨rfl,t,zah⟩⟩
  skip
  have e1:decide (((fk p:Nat):Int)+((w+1:Nat):Int)≤(nw:Int))=false:=decide_eq_false (by omega)
  simp(disch:=omega)only[↓RU,RV,RH,↓reduceIte,qE,reduceCtorEq,if_pos,w64,↓RS,RG,qA,qM,qL,ty1,zab,zb7,zaa,List.append_assoc,List.length_append,List.cons_append,List.nil_append,hk,zce hgl,ziw hk hgl,zeh hk hgl,zdl,zdm,zei,zej,zk0 hk hgl,zlp hk hgl,zkj hk,zdh hf,zb9,ze2,e1]
  apply hK;clear hK K
  refine W.cond rfl (fun h8=>?_) (fun h8=>?_)
  ·try simp only[RL]at h8
   exact absurd h8 (by simp)
  try simp only[RL]at h8
  subst hw
  refine W.exit ?_
  refine xe ?_
  refine xe ?_
  refine XBlock.hit ?_
  refine xn ?_
  refine W.r fun K hK=>?_
  simp(disch:=omega)only[↓RU,RV,RH,↓reduceIte,qE,reduceCtorEq,if_pos,↓RS,RG,qA,qM,qL,List.append_assoc,List.length_append,List.cons_append,List.nil_append,hk,zce hgl,ziw hk hgl,zeh hk hgl,zdl,zdm,zei,zej,zk0 hk hgl,zlp hk hgl,zkj hk,zdh hf,zb9,ze2]
  apply hK;clear hK K
  refine W.ret ?_
  refine Br rfl ?_
  exact ⟨_,by rw [zpf,hno]; exact ⟨rfl,t,zah⟩⟩
theorem zir {l:Nat}:(PV.yl l).cells=[.yl l]:=rfl
theorem z0c {l:Nat}:(PV.yl l).isCell=true:=rfl
theorem z69 {σ:Type} {lb k nh nw:Nat} {pre:σ→List Ob} {fin:Nat→List Txt→Nat→List Ob × List Ob} {stop:List Txt→Bool} {nxt:σ→List Txt→σ} (Y:YC lb k nh nw pre fin stop nxt) (h1:1≤nh) (h2:nh≤6) (h3:1≤nw) (h4:nw≤6) (h9:nh*nw≤9):∀ (m:Nat) {p:List Txt} {R:List RmB},St nh nw p R→R.length+m=9→∀ (u:Nat) (s:σ) (tl:List Ob) (t:Nat) (n:Int),n=(R.length:Nat) →
  Ev Tryz.prog 105 [.int .i64 n,.ref (k+2+nh) (u+2) 0,.ref k u 0,.ip [.int .i64 nw] 0,.ip [.int .i64 nh] 0,.ref (k+3+nh) (u+3) 0] ⟨pre s++(zh4 k u lb nh nw (gI p)++tl),t⟩ (zpf k u lb nh nw pre fin stop nxt (En m p R.length) s p tl)
 | 0,p,R,hs,hm,u,s,tl,t,n,hn=>by
  have hf:¬ fi p<nh:=fun hf=>by
   obtain ⟨f1,f2,-⟩:=zjl hs.sh hf
   have:=hs.lim hf f1 f2
   omega
  exact zxf Y hs (by omega) h1 h2 h3 h4 hf s tl t n
 | m+1,p,R,hs,hm,u,s,tl,t,n,hn=>by
  subst hn
  by_cases hf:fi p<nh
  ·rw [yd8 hs.sh.h hf]
   refine z7a Y hs (by omega) h1 h2 h3 h4 hm h9 hf s tl t fun w d hw hd s tl t=>?_
   have hl:(R++[(⟨fi p,fk p,d+1,w+1⟩:RmB)]).length=R.length+1:=by simp
   have:=z69 Y h1 h2 h3 h4 h9 m (hs.next h9 hf hw hd) (by omega) u s tl t (((R.length:Nat):Int)+1) (by rw [hl]; rfl)
   rw [hl]at this
   exact this
  have e:En (m+1) p R.length=[p]:=by
   unfold En
   rw [hs.sh.h,if_neg hf]
  rw [e]
  exact zxf Y hs (by omega) h1 h2 h3 h4 hf s tl t _
theorem yan {nh nw:Nat}:bgT (fun _ _ => -1) nw nh=gI (dots nh nw):=by
 unfold bgT gI dots
 rw [List.map_replicate,List.map_replicate,List.map_const',List.map_const',List.length_range,List.length_range]
 rfl
theorem yht {A Rw tl:List Ob} {y o:Ob} {k nh n:Nat} (hA:A.length=k) (hR:Rw.length=nh) (j:Nat) (hn:n=k+(nh+2+j)):(A++y::o::(Rw++tl))[n]?=tl[j]?:=by
 subst hn
 rw [List.getElem?_append_right (by omega),show k+(nh+2+j) - A.length=nh+j+1+1 by omega,List.getElem?_cons_succ,List.getElem?_cons_succ,List.getElem?_append_right (by omega)]
 congr 1; omega
theorem yhu {A Rw tl:List Ob} {y o b:Ob} {k nh n:Nat} (hA:A.length=k) (hR:Rw.length=nh) (j:Nat) (hn:n=k+(nh+2+j)):(A++y::o::(Rw++tl)).set n b=A++y::o::(Rw++tl.set j b):=by
 subst hn
 rw [List.set_append_right _ _ (by omega),show k+(nh+2+j) - A.length=nh+j+1+1 by omega,List.set_cons_succ,List.set_cons_succ,List.set_append_right _ _ (by omega)]
 congr 5; omega
def ygn {σ:Type} (pre:σ→List Ob) (fin:Nat→List Txt→Nat→List Ob × List Ob) (stop:List Txt→Bool) (nxt:σ→List Txt→σ) (L:List (List Txt)) (s:σ) (S:Store):Prop :=
 match L.find? stop with
 | none=>∃ t,S=⟨pre (L.foldl nxt s),t⟩
 | some q=>∃ t x J,S=⟨(fin (List.length J) q x).1++(J++(fin (List.length J) q x).2),t⟩
theorem ya0 {σ:Type} {lb k nh nw:Nat} {pre:σ→List Ob} {fin:Nat→List Txt→Nat→List Ob × List Ob} {stop:List Txt→Bool} {nxt:σ→List Txt→σ} (Y:YC lb k nh nw pre fin stop nxt) {v:PV} {S:Store} {p:List Txt} (hp:Shp2 p nh nw) {u:Nat} {L:List (List Txt)} {s:σ} (h:zpf k u lb nh nw pre fin stop nxt L s p [] v S):∃ j,ygn pre fin stop nxt L s (S.take j):=by
 unfold zpf at h
 unfold ygn
 cases hF:L.find? stop with
 | none =>
  rw [hF]at h
  obtain ⟨-,t,rfl⟩:=h
  exact ⟨(pre (L.foldl nxt s)).length,t,by show (⟨List.take _ _,t⟩:Store)=_; rw [List.take_left]⟩
 | some q =>
  rw [hF]at h
  obtain ⟨-,t,x,J,rfl⟩:=h
  have e:nh+4+([]:List Ob).length+J.length=(zh4 k u lb nh nw (gI p)++J).length:=by rw [List.length_append,zce (zh6 hp)]; rfl
  rw [e]
  exact ⟨_,t,x,zh4 k u lb nh nw (gI p)++J,zak (by rw [List.nil_append,List.append_assoc])⟩
theorem zxe {σ:Type} {lb k nh nw:Nat} {pre:σ→List Ob} {fin:Nat→List Txt→Nat→List Ob × List Ob} {stop:List Txt→Bool} {nxt:σ→List Txt→σ} (Y:YC lb k nh nw pre fin stop nxt) (h1:1≤nh) (h2:nh≤6) (h3:1≤nw) (h4:nw≤6) (h9:nh*nw≤9) (s:σ) (t:Nat):Ev Tryz.prog 102 [.yl lb,.ip [.int .i64 nh] 0,.ip [.int .i64 nw] 0] ⟨pre s,t⟩ fun v S=>ygn pre fin stop nxt (zfi nh nw) s S:=by
 have hk:=Y.len s
 have hB:=z35 (c:=fun _ _ => -1) (nh:=nh) (nw:=nw) (by omega) (by omega) (g:=104) (cap:=[]) (fun _ _=>rfl) fun r w _ _=>ybc r w
 rw [yan]at hB
 have hR:∀ v,(rwO v (gI (dots nh nw))).length=nh:=fun v=>by rw [zj5,zh6 zpq]
 refine Ev.of ⟨Tryz.func102,by kernel_rfl,rfl,by kernel_rfl⟩ zao mixed (by show 3≤Tryz.f102.ntmps; decide) ?_
 refine W.r fun K hK=>?_
 simp(disch:=omega)only[↓RU,RV,RH,↓reduceIte,qE,reduceCtorEq,if_pos,↓RS,RG,qA,qM,qL,yi9,hk,List.append_assoc,List.length_append,List.cons_append,List.nil_append,Int.toNat_zero,List.getElem?_cons_zero,zir,z0c,ziq,z0b]
 apply hK;clear hK K
 refine W.r fun K hK=>?_
 simp(disch:=omega)only[↓RU,RV,RH,↓reduceIte,qE,reduceCtorEq,if_pos,qN,↓RS,RG,qA,qM,qL,ty1,zab,zb7,zaa,hk,List.append_assoc,List.length_append,List.cons_append,List.nil_append,Int.toNat_zero,List.getElem?_cons_zero,zir,z0c,ziq,z0b,yd2,yd4,hR,yht hk (hR (t+1)) 0 (show k+(nh+1+1)=k+(nh+2+0) by omega),yhu hk (hR (t+1)) 0 (show k+(nh+1+1)=k+(nh+2+0) by omega)]
 refine zad.pn (hB) rfl (.inl rfl) ?_
 simp(disch:=omega)only[↓RU,RV,RH,↓reduceIte,qE,reduceCtorEq,if_pos,qN,↓RS,RG,qA,qM,qL,ty1,zab,zb7,zaa,hk,List.append_assoc,List.length_append,List.cons_append,List.nil_append,Int.toNat_zero,List.getElem?_cons_zero,zir,z0c,ziq,z0b,yd2,yd4,hR,yht hk (hR (t+1)) 0 (show k+(nh+1+1)=k+(nh+2+0) by omega),yhu hk (hR (t+1)) 0 (show k+(nh+1+1)=k+(nh+2+0) by omega),RN]
 apply hK;clear hK K
 refine W.r fun K hK=>?_
 simp(disch:=omega)only[↓RU,RV,RH,↓reduceIte,qE,reduceCtorEq,if_pos,↓RS,RG,qA,qM,qL,ydz,hk,List.append_assoc,List.length_append,List.cons_append,List.nil_append,Int.toNat_zero,List.getElem?_cons_zero,zir,z0c,ziq,z0b,hR]
 apply hK;clear hK K
 refine W.r fun K hK=>?_
 simp(disch:=omega)only[↓RU,RV,RH,↓reduceIte,qE,reduceCtorEq,if_pos,↓RS,RG,qA,qM,qL,ydz,hk,List.append_assoc,List.length_append,List.cons_append,List.nil_append,Int.toNat_zero,List.getElem?_cons_zero,zir,z0c,ziq,z0b,hR,yht hk (hR (t+1)) 1 (show k+(nh+1+1+1)=k+(nh+2+1) by omega),yhu hk (hR (t+1)) 1 (show k+(nh+1+1+1)=k+(nh+2+1) by omega)]
 apply hK;clear hK K
 refine W.k fun K hK=>?_
 simp(disch:=omega)only[↓RU,RV,RH,↓reduceIte,qE,reduceCtorEq,if_pos,qN,↓RS,RG,qA,qM,qL,ydz,hk,List.append_assoc,List.length_append,List.cons_append,List.nil_append,Int.toNat_zero,List.getElem?_cons_zero,zir,z0c,ziq,z0b,hR,yht hk (hR (t+1)) 1 (show k+(nh+1+1+1)=k+(nh+2+1) by omega),yhu hk (hR (t+1)) 1 (show k+(nh+1+1+1)=k+(nh+2+1) by omega)]
 rw [show k+(nh+1+1)=k+2+nh by omega,show k+(nh+1+1+1)=k+3+nh by omega,show 1+(k+1)=k+2 by omega]
 have hF:=z69 Y h1 h2 h3 h4 h9 9 (zz4 (H:=nh) (W:=nw)) rfl t s [] (t+1+1+1+1) 0 rfl
 simp only[qN,zh4,ze2]at hF
 refine zad.ev (hF) ?_
 rintro _ S2 hR2
 simp(disch:=omega)only[↓RU,RV,RH,↓reduceIte,qE,reduceCtorEq,if_pos,qN,↓RS,RG,qA,qM,qL,ydz,hk,List.append_assoc,List.length_append,List.cons_append,List.nil_append,Int.toNat_zero,List.getElem?_cons_zero,zir,z0c,ziq,z0b,hR,yht hk (hR (t+1)) 1 (show k+(nh+1+1+1)=k+(nh+2+1) by omega),yhu hk (hR (t+1)) 1 (show k+(nh+1+1+1)=k+(nh+2+1) by omega)]
 apply hK;clear hK K
 refine zfe.norm rfl ?_
 exact ya0 Y zpq hR2
end
theorem zrp {p:List Txt} (hv:zc0 p=true):PC Tryz.prog 51 [.agg [zhp (lfM p),zhp (abM p)]] (eInts (zd3 p)) true:=PN.ints0 (yfj hv) rfl zfq
def ifL (b:Bool) (l:List Int):List Int:=if b then l else []
theorem zq6 {p:List Txt} (hs:Sm p) (hp:zca p=true) (below:Bool):PC Tryz.prog 92 [zan p,.bool below] (eInts (srt p below)) true:=PN.ints0 (z0i hs hp below) rfl zi2
theorem zx1 {p:List Txt} (hs:Sm p) (hv:zc0 p=false):PC Tryz.prog 24 [zan p] (.tup [eInts [],.bool false]) false:=by
 refine PC.of ⟨Tryz.func24,by kernel_rfl,rfl,by kernel_rfl⟩ zao mixed (by show 1≤Tryz.f24.ntmps; decide) ?_
 refine W.r fun K hK=>?_
 simp(disch:=omega)only[↓RU,RV,RH,↓reduceIte,qE,reduceCtorEq,if_pos,↓RS,RG,qA,qM,qL]
 apply hK;clear hK K
 refine W.r fun K hK=>?_
 simp(disch:=omega)only[↓RU,RV,RH,↓reduceIte,qE,reduceCtorEq,if_pos,qN,↓RS,RG,qA,qM,qL,ty0,ty3,zam,zg1,zfb,zg2]
 refine zad.pc (z0n hs hv) rfl (.inr rfl) ?_
 simp(disch:=omega)only[↓RU,RV,RH,↓reduceIte,qE,reduceCtorEq,if_pos,qN,↓RS,RG,qA,qM,qL,ty0,ty3,zam,zg1,zfb,zg2]
 apply hK;clear hK K
 refine W.seq ?_
 refine W.r fun K hK=>?_
 simp(disch:=omega)only[↓RU,RV,RH,↓reduceIte,qE,reduceCtorEq,if_pos,↓RS,RG,qA,qM,qL]
 apply hK;clear hK K
 refine W.cond rfl (fun h=>?_) (fun h=>?_)
 ·try simp only[RL]at h
  refine W.r fun K hK=>?_
  simp(disch:=omega)only[↓RU,RV,RH,↓reduceIte,qE,reduceCtorEq,if_pos,↓RS,RG,qA,qM,qL]
  apply hK;clear hK K
  refine W.ret ?_
  refine XThen.ret ?_
  refine Br rfl ?_
  rfl
 try simp only[RL]at h
 exact absurd h (by simp)
theorem zvl {p:List Txt} (hs:Sm p) (hv:zc0 p=true):PC Tryz.prog 24 [zan p] (.tup [eInts (zd3 p),.bool true]) false:=by
 refine PC.of ⟨Tryz.func24,by kernel_rfl,rfl,by kernel_rfl⟩ zao mixed (by show 1≤Tryz.f24.ntmps; decide) ?_
 refine W.r fun K hK=>?_
 simp(disch:=omega)only[↓RU,RV,RH,↓reduceIte,qE,reduceCtorEq,if_pos,↓RS,RG,qA,qM,qL]
 apply hK;clear hK K
 refine W.r fun K hK=>?_
 simp(disch:=omega)only[↓RU,RV,RH,↓reduceIte,qE,reduceCtorEq,if_pos,qN,↓RS,RG,qA,qM,qL,ty0,ty3,zam,zg1,zfb,zg2]
 refine zad.pc (zx3 hs hv) rfl (.inr rfl) ?_
 simp(disch:=omega)only[↓RU,RV,RH,↓reduceIte,qE,reduceCtorEq,if_pos,qN,↓RS,RG,qA,qM,qL,ty0,ty3,zam,zg1,zfb,zg2]
 apply hK;clear hK K
 refine W.seq ?_
 refine W.r fun K hK=>?_
 simp(disch:=omega)only[↓RU,RV,RH,↓reduceIte,qE,reduceCtorEq,if_pos,↓RS,RG,qA,qM,qL]
 apply hK;clear hK K
 refine W.cond rfl (fun h=>?_) (fun h=>?_)
 ·try simp only[RL]at h
  exact absurd h (by simp)
 try simp only[RL]at h
 refine W.skip ?_
 refine xn ?_
 refine W.r fun K hK=>?_
 simp(disch:=omega)only[↓RU,RV,RH,↓reduceIte,qE,reduceCtorEq,if_pos,qN,↓RS,RG,qA,qM,qL,ty0,ty3,zam,zg1,zfb,zg2]
 refine zad.pc (zrp hv) rfl (.inl rfl) ?_
 simp(disch:=omega)only[↓RU,RV,RH,↓reduceIte,qE,reduceCtorEq,if_pos,qN,↓RS,RG,qA,qM,qL,ty0,ty3,zam,zg1,zfb,zg2]
 apply hK;clear hK K
 refine W.ret ?_
 refine Br rfl ?_
 rfl
theorem zx2 {p:List Txt} (hs:Sm p):PC Tryz.prog 24 [zan p] (.tup [eInts (ifL (zc0 p) (zd3 p)),.bool (zc0 p)]) false:=by
 cases hv:zc0 p with
 | false=>exact zx1 hs hv
 | true=>exact zvl hs hv
theorem zq5 {p:List Txt} (hs:Sm p) (hp:zca p=true):PC Tryz.prog 44 [zan p] (eInts (zd3 p)) true:=by
 obtain ⟨hg,hr,hn9,hn1,-,-⟩:=zn7 hp
 have hl1:=zi2 (p:=p) (below:=false)
 have hl2:=zi2 (p:=p) (below:=true)
 have hpl:=zfq (p:=p)
 refine PC.of ⟨Tryz.func44,by kernel_rfl,rfl,by kernel_rfl⟩ zao mixed (by show 1≤Tryz.f44.ntmps; decide) ?_
 refine W.r fun K hK=>?_
 simp(disch:=omega)only[↓RU,RV,RH,↓reduceIte,qE,reduceCtorEq,if_pos,↓RS,RG,qA,qM,qL]
 apply hK;clear hK K
 refine W.r fun K hK=>?_
 simp(disch:=omega)only[↓RU,RV,RH,↓reduceIte,qE,reduceCtorEq,if_pos,qN,↓RS,RG,qA,qM,qL]
 refine zad.pc (zq6 hs hp false) rfl (.inl rfl) ?_
 simp(disch:=omega)only[↓RU,RV,RH,↓reduceIte,qE,reduceCtorEq,if_pos,qN,↓RS,RG,qA,qM,qL]
 apply hK;clear hK K
 refine W.r fun K hK=>?_
 simp(disch:=omega)only[↓RU,RV,RH,↓reduceIte,qE,reduceCtorEq,if_pos,qN,↓RS,RG,qA,qM,qL]
 refine zad.pc (zq6 hs hp true) rfl (.inl rfl) ?_
 simp(disch:=omega)only[↓RU,RV,RH,↓reduceIte,qE,reduceCtorEq,if_pos,qN,↓RS,RG,qA,qM,qL]
 apply hK;clear hK K
 refine W.r fun K hK=>?_
 simp(disch:=omega)only[↓RU,RV,RH,↓reduceIte,qE,reduceCtorEq,if_pos,↓RS,RG,qA,qM,qL,zab,zaa,hl1,zel,zdv]
 apply hK;clear hK K
 refine W.seq ?_
 refine W.r fun K hK=>?_
 simp(disch:=omega)only[↓RU,RV,RH,↓reduceIte,qE,reduceCtorEq,if_pos,↓RS,RG,qA,qM,qL]
 apply hK;clear hK K
 refine W.block ?_
 refine W.loop [3,4,5,6] (fun n vs S=>∃ i t tv:Nat,n=(rP p).length - i∧i≤(rP p).length∧vs=[eInts (srt p false),eInts (srt p true),.loc 0 t 0 (rP p).length,.int .i64 i]∧S=⟨[.arr t 3 1 ((ybq p i).map (.int .i64))],tv⟩) (rP p).length ?_ ?_
 ·refine ⟨1,0,0,1,rfl,by omega,?_,rfl⟩
  simp [Env.put,Env.of,zae]
 rintro n vs S - ⟨i,t,tv,rfl,h_i,rfl,rfl⟩
 refine W.seq ?_
 refine W.r fun K hK=>?_
 simp(disch:=omega)only[↓RU,RV,RH,↓reduceIte,qE,reduceCtorEq,if_pos,w64,↓RS,RG,qA,qM,qL,zab,zaa]
 apply hK;clear hK K
 refine W.cond rfl (fun h=>?_) (fun h=>?_)
 ·try simp only[RL]at h
  obtain ⟨a,ha,ha2,hsa⟩:=zv4 (below:=false) hp (show i<(rP p).length by omega)
  have hpl2:=zp0 (p:=p) i
  refine W.skip ?_
  refine xn ?_
  refine W.seq ?_
  refine W.block ?_
  refine W.k fun K hK=>?_
  simp(disch:=omega)only[↓RU,RV,RH,↓reduceIte,qE,reduceCtorEq,if_pos,↓RS,RG,qA,qM,qL,zab,zaa,hsa,hpl2,zbo,zdq,Int.toNat_natCast]
  apply hK;clear hK K
  refine XbN ?_
  refine xn ?_
  refine W.k fun K hK=>?_
  simp(disch:=omega)only[↓RU,RV,RH,↓reduceIte,qE,reduceCtorEq,if_pos,w64,↓RS,RG,qA,qM,qL,zaa]
  apply hK;clear hK K
  refine xn ?_
  refine ⟨(rP p).length - (i+1),by omega,1,i+1,t,tv,rfl,by omega,?_,?_⟩
  ·simp [Env.put,Env.of]
  simp only[zay,ybq,z7k hsa,Int.toNat_natCast]; rfl
 try simp only[RL]at h
 obtain rfl:i=(rP p).length:=by omega
 have hpl2:=zp0 (p:=p) (rP p).length
 refine W.exit ?_
 refine xe ?_
 refine xe ?_
 refine XBlock.hit ?_
 refine xn ?_
 refine W.r fun K hK=>?_
 simp(disch:=omega)only[↓RU,RV,RH,↓reduceIte,qE,reduceCtorEq,if_pos,↓RS,RG,qA,qM,qL,zab,zaa]
 apply hK;clear hK K
 refine W.seq ?_
 refine W.r fun K hK=>?_
 simp(disch:=omega)only[↓RU,RV,RH,↓reduceIte,qE,reduceCtorEq,if_pos,↓RS,RG,qA,qM,qL]
 apply hK;clear hK K
 refine W.block ?_
 refine W.loop [4,5,7,8] (fun n vs S=>∃ k vo tk2:Nat,n=(rP p).length - k∧k≤(rP p).length∧vs=[eInts (srt p true),.loc 0 t 0 (rP p).length,.loc 1 vo 0 k,.int .i64 k]∧S=⟨[.arr t 3 1 ((ybq p (rP p).length).map (.int .i64)),.arr vo 3 1 (((zd3 p).take k).map (.int .i64))],tk2⟩) (rP p).length ?_ ?_
 ·refine ⟨2,0,tv,tv+1,rfl,by omega,?_,by simp [zay]⟩
  simp [Env.put,Env.of]
 rintro n vs S - ⟨k,vo,tk2,rfl,h_k,rfl,rfl⟩
 refine W.seq ?_
 refine W.r fun K hK=>?_
 simp(disch:=omega)only[↓RU,RV,RH,↓reduceIte,qE,reduceCtorEq,if_pos,w64,↓RS,RG,qA,qM,qL,zab,zaa]
 apply hK;clear hK K
 refine W.cond rfl (fun h1=>?_) (fun h1=>?_)
 ·try simp only[RL]at h1
  obtain ⟨b,hb,hb2,hsb⟩:=zv4 (below:=true) hp (show k<(rP p).length by omega)
  have hpa:=z22 hp hsb
  have hpc:=z8t hp (rP p).length (qR _) b hb (ycv hp hb)
  have hol:(((zd3 p).take k)).length=k:=by rw [List.length_take]; omega
  refine W.skip ?_
  refine xn ?_
  refine W.seq ?_
  refine W.block ?_
  refine W.k fun K hK=>?_
  simp(disch:=omega)only[↓RU,RV,RH,↓reduceIte,qE,reduceCtorEq,if_pos,↓RS,RG,qA,qM,qL,zab,zaa,hsb,hpc,hpl2,tk_i hol,Int.toNat_natCast]
  apply hK;clear hK K
  refine XbN ?_
  refine xn ?_
  refine W.k fun K hK=>?_
  simp(disch:=omega)only[↓RU,RV,RH,↓reduceIte,qE,reduceCtorEq,if_pos,w64,↓RS,RG,qA,qM,qL,zaa]
  apply hK;clear hK K
  refine xn ?_
  refine ⟨(rP p).length - (k+1),by omega,2,k+1,tk2+1,tk2+2,rfl,by omega,?_,?_⟩
  ·simp [Env.put,Env.of,zk2]
  simp only[zay,tk hpa,List.map_append,← List.map_take]; simp [zk2]
 try simp only[RL]at h1
 obtain rfl:k=(rP p).length:=by omega
 refine W.exit ?_
 refine xe ?_
 refine xe ?_
 refine XBlock.hit ?_
 refine xn ?_
 refine W.r fun K hK=>?_
 simp(disch:=omega)only[↓RU,RV,RH,↓reduceIte,qE,reduceCtorEq,if_pos,↓RS,RG,qA,qM,qL]
 apply hK;clear hK K
 refine W.ret ?_
 refine Br rfl ?_
 rw [qT (by omega)]
 exact ((zb5 (k:=9) rfl (by simp [hpl]) (zmn _)).trans (by rw [← hpl]))
theorem zv2 {p:List Txt} (hs:Sm p):PC Tryz.prog 69 [zan p] (.tup [eInts (ifL (zca p) (zd3 p)),.bool (zca p)]) false:=by
 refine PC.of ⟨Tryz.func69,by kernel_rfl,rfl,by kernel_rfl⟩ zao mixed (by show 1≤Tryz.f69.ntmps; decide) ?_
 refine W.r fun K hK=>?_
 simp(disch:=omega)only[↓RU,RV,RH,↓reduceIte,qE,reduceCtorEq,if_pos,↓RS,RG,qA,qM,qL]
 apply hK;clear hK K
 refine W.seq ?_
 refine W.r fun K hK=>?_
 simp(disch:=omega)only[↓RU,RV,RH,↓reduceIte,qE,reduceCtorEq,if_pos,qN,↓RS,RG,qA,qM,qL]
 refine zad.pc (zkk hs) rfl (.inl rfl) ?_
 simp(disch:=omega)only[↓RU,RV,RH,↓reduceIte,qE,reduceCtorEq,if_pos,qN,↓RS,RG,qA,qM,qL]
 apply hK;clear hK K
 refine W.cond rfl (fun h0=>?_) (fun h0=>?_)
 ·try simp only[RL]at h0
  have h:zca p=false:=by simpa using h0
  refine W.r fun K hK=>?_
  simp(disch:=omega)only[↓RU,RV,RH,↓reduceIte,qE,reduceCtorEq,if_pos,↓RS,RG,qA,qM,qL,zab,zaa]
  apply hK;clear hK K
  refine W.ret ?_
  refine XThen.ret ?_
  refine Br rfl ?_
  rw [h]
  rfl
 try simp only[RL]at h0
 have h:zca p=true:=by simpa using h0
 refine W.skip ?_
 refine xn ?_
 refine W.r fun K hK=>?_
 simp(disch:=omega)only[↓RU,RV,RH,↓reduceIte,qE,reduceCtorEq,if_pos,qN,↓RS,RG,qA,qM,qL]
 refine zad.pc (zq5 hs h) rfl (.inl rfl) ?_
 simp(disch:=omega)only[↓RU,RV,RH,↓reduceIte,qE,reduceCtorEq,if_pos,qN,↓RS,RG,qA,qM,qL]
 apply hK;clear hK K
 refine W.ret ?_
 refine Br rfl ?_
 rw [h]
 rfl
theorem ztk {p q:List Int} (hp:p.length<2147483648) (hq:q.length<2147483648):PC Tryz.prog 46 [eInts p,eInts q] (.bool (decide (p=q))) true:=by
 refine PC.of ⟨Tryz.func46,by kernel_rfl,rfl,by kernel_rfl⟩ zao mixed (by show 2≤Tryz.f46.ntmps; decide) ?_
 refine W.r fun K hK=>?_
 simp(disch:=omega)only[↓RU,RV,RH,↓reduceIte,qE,reduceCtorEq,if_pos]
 apply hK;clear hK K
 refine W.seq ?_
 refine W.r fun K hK=>?_
 simp(disch:=omega)only[↓RU,RV,RH,↓reduceIte,qE,reduceCtorEq,if_pos,w64,zab,zaa]
 apply hK;clear hK K
 refine W.cond rfl (fun h=>?_) (fun h=>?_)
 ·try simp only[RL]at h
  refine W.r fun K hK=>?_
  simp(disch:=omega)only[↓RU,RV,RH,↓reduceIte,qE,reduceCtorEq,if_pos]
  apply hK;clear hK K
  refine W.ret ?_
  refine XThen.ret ?_
  refine Br rfl ?_
  rw [show decide (p=q)=false by simp; rintro rfl; exact h rfl]
  rfl
 try simp only[RL]at h
 refine W.skip ?_
 refine xn ?_
 refine W.seq ?_
 refine W.r fun K hK=>?_
 simp(disch:=omega)only[↓RU,RV,RH,↓reduceIte,qE,reduceCtorEq,if_pos]
 apply hK;clear hK K
 refine W.block ?_
 refine W.loop [0,1,5] (fun n vs S=>∃ i:Nat,n=p.length - i∧i≤p.length∧(p.take i=q.take i)∧vs=[eInts p,eInts q,.int .i64 i]∧S=⟨[],0⟩) (p.length) ?_ ?_
 ·refine ⟨0,0,rfl,Nat.zero_le _,rfl,?_,rfl⟩
  simp [Env.put,Env.of,zae]
 rintro n vs S - ⟨i,rfl,h_i,htk,rfl,rfl⟩
 refine W.seq ?_
 refine W.r fun K hK=>?_
 simp(disch:=omega)only[↓RU,RV,RH,↓reduceIte,qE,reduceCtorEq,if_pos,w64,zab,zaa]
 apply hK;clear hK K
 refine W.cond rfl (fun h1=>?_) (fun h1=>?_)
 ·try simp only[RL]at h1
  obtain ⟨x,hx,-⟩:=zaf (show i<p.length by omega)
  obtain ⟨y,hy,-⟩:=zaf (show i<q.length by omega)
  refine W.skip ?_
  refine xn ?_
  refine W.seq ?_
  refine W.block ?_
  refine W.seq_draw (by kernel_rfl) fun K hK=>?_
  simp(disch:=omega)only[↓RU,RV,RH,↓reduceIte,qE,reduceCtorEq,if_pos,w64,zab,zaa,hx,hy]
  apply hK;clear hK K
  refine W.cond rfl (fun h2=>?_) (fun h2=>?_)
  ·try simp only[RL]at h2
   refine W.r fun K hK=>?_
   simp(disch:=omega)only[↓RU,RV,RH,↓reduceIte,qE,reduceCtorEq,if_pos]
   apply hK;clear hK K
   refine W.ret ?_
   refine XBlock.ret ?_
   refine XThen.ret ?_
   refine XThen.ret ?_
   refine XBlock.ret ?_
   refine XThen.ret ?_
   refine Br rfl ?_
   rw [show decide (p=q)=false by simp; rintro rfl; rw [hx]at hy; simp_all]
   rfl
  try simp only[RL]at h2
  have h2:x=y:=by simpa using h2
  refine W.skip ?_
  refine XbN ?_
  refine xn ?_
  refine W.k fun K hK=>?_
  simp(disch:=omega)only[↓RU,RV,RH,↓reduceIte,qE,reduceCtorEq,if_pos,w64,zaa]
  apply hK;clear hK K
  refine xn ?_
  refine ⟨p.length - (i+1),by omega,0,i+1,rfl,by omega,zgh htk hx hy h2,?_,rfl⟩
  simp [Env.put,Env.of]
 try simp only[RL]at h1
 refine W.exit ?_
 refine xe ?_
 refine xe ?_
 refine XBlock.hit ?_
 refine xn ?_
 refine W.r fun K hK=>?_
 simp(disch:=omega)only[↓RU,RV,RH,↓reduceIte,qE,reduceCtorEq,if_pos]
 apply hK;clear hK K
 refine W.ret ?_
 refine Br rfl ?_
 have h1:p.take i=p:=qT (by omega)
 have h2:q.take i=q:=qT (by omega)
 rw [show decide (p=q)=true by simp; rw [← h1,← h2]; exact htk]
 rfl
theorem zhr {p q:List Int} (hp:p.length<2147483648) (hq:q.length<2147483648):PC Tryz.prog 54 [eInts p,eInts q] (.bool (decide (p=q))) true:=by
 refine PC.of ⟨Tryz.func54,by kernel_rfl,rfl,by kernel_rfl⟩ zao mixed (by show 2≤Tryz.f54.ntmps; decide) ?_
 refine W.r fun K hK=>?_
 simp(disch:=omega)only[↓RU,RV,RH,↓reduceIte,qE,reduceCtorEq,if_pos]
 apply hK;clear hK K
 refine W.seq ?_
 refine W.r fun K hK=>?_
 simp(disch:=omega)only[↓RU,RV,RH,↓reduceIte,qE,reduceCtorEq,if_pos,w64,zab,zaa]
 apply hK;clear hK K
 refine W.cond rfl (fun h=>?_) (fun h=>?_)
 ·try simp only[RL]at h
  refine W.r fun K hK=>?_
  simp(disch:=omega)only[↓RU,RV,RH,↓reduceIte,qE,reduceCtorEq,if_pos]
  apply hK;clear hK K
  refine W.ret ?_
  refine XThen.ret ?_
  refine Br rfl ?_
  rw [show decide (p=q)=false by simp; rintro rfl; exact h rfl]
  rfl
 try simp only[RL]at h
 refine W.skip ?_
 refine xn ?_
 refine W.seq ?_
 refine W.r fun K hK=>?_
 simp(disch:=omega)only[↓RU,RV,RH,↓reduceIte,qE,reduceCtorEq,if_pos,zab,zaa]
 apply hK;clear hK K
 refine W.block ?_
 refine W.loop [0,1,11,12,13] (fun n vs S=>∃ i:Nat,n=p.length - i∧i≤p.length∧(p.take i=q.take i)∧vs=[eInts p,eInts q,eInts p,.int .i64 p.length,.int .i64 i]∧S=⟨[],0⟩) (p.length) ?_ ?_
 ·refine ⟨0,0,rfl,Nat.zero_le _,rfl,?_,rfl⟩
  simp [Env.put,Env.of,zae]
 rintro n vs S - ⟨i,rfl,h_i,htk,rfl,rfl⟩
 refine W.r fun K hK=>?_
 simp(disch:=omega)only[↓RU,RV,RH,↓reduceIte,qE,reduceCtorEq,if_pos,w64,zaa]
 apply hK;clear hK K
 refine W.seq ?_
 refine W.cond rfl (fun h1=>?_) (fun h1=>?_)
 ·try simp only[RL]at h1
  obtain ⟨x,hx,-⟩:=zaf (show i<p.length by omega)
  obtain ⟨y,hy,-⟩:=zaf (show i<q.length by omega)
  refine W.skip ?_
  refine xn ?_
  refine W.seq ?_
  refine W.block ?_
  refine W.r fun K hK=>?_
  simp(disch:=omega)only[↓RU,RV,RH,↓reduceIte,qE,reduceCtorEq,if_pos]
  apply hK;clear hK K
  refine W.seq_draw (by kernel_rfl) fun K hK=>?_
  simp(disch:=omega)only[↓RU,RV,RH,↓reduceIte,qE,reduceCtorEq,if_pos,w64,zab,zaa,hx,hy]
  apply hK;clear hK K
  refine W.cond rfl (fun h2=>?_) (fun h2=>?_)
  ·try simp only[RL]at h2
   refine W.r fun K hK=>?_
   simp(disch:=omega)only[↓RU,RV,RH,↓reduceIte,qE,reduceCtorEq,if_pos]
   apply hK;clear hK K
   refine W.ret ?_
   refine XBlock.ret ?_
   refine XThen.ret ?_
   refine XThen.ret ?_
   refine XBlock.ret ?_
   refine XThen.ret ?_
   refine Br rfl ?_
   rw [show decide (p=q)=false by simp; rintro rfl; rw [hx]at hy; simp_all]
   rfl
  try simp only[RL]at h2
  have h2:x=y:=by simpa using h2
  refine W.skip ?_
  refine XbN ?_
  refine xn ?_
  refine W.k fun K hK=>?_
  simp(disch:=omega)only[↓RU,RV,RH,↓reduceIte,qE,reduceCtorEq,if_pos,w64,zaa]
  apply hK;clear hK K
  refine xn ?_
  refine ⟨p.length - (i+1),by omega,0,i+1,rfl,by omega,zgh htk hx hy h2,?_,rfl⟩
  simp [Env.put,Env.of]
 try simp only[RL]at h1
 refine W.exit ?_
 refine xe ?_
 refine xe ?_
 refine XBlock.hit ?_
 refine xn ?_
 refine W.r fun K hK=>?_
 simp(disch:=omega)only[↓RU,RV,RH,↓reduceIte,qE,reduceCtorEq,if_pos]
 apply hK;clear hK K
 refine W.ret ?_
 refine Br rfl ?_
 have h1:p.take i=p:=qT (by omega)
 have h2:q.take i=q:=qT (by omega)
 rw [show decide (p=q)=true by simp; rw [← h1,← h2]; exact htk]
 rfl
theorem z0q {p:List Txt} (hp:zca p=true):(zd3 p).length≤9:=by rw [zfq]; exact (zn7 hp).2.2.1
def yfz (x:Int):Int:=IntKind.i64.wrap (1*2 ^ (min x.toNat 64))
def orI (a b:Int):Int:=IntKind.i64.wrap (((a % 2 ^ IntKind.i64.bits).toNat ||| (b % 2 ^ IntKind.i64.bits).toNat:Nat):Int)
theorem z03 {x:Int} (h:0≤x):zld .shl .i64 1 x=some (.int .i64 (yfz x)):=by
 unfold zld
 rw [if_neg (by omega)]; rfl
theorem zr9 {x:Nat} (h:x<8):yfz x=((2 ^ x:Nat):Int):=by
 have:x=0∨x=1∨x=2∨x=3∨x=4∨x=5∨x=6∨x=7:=by omega
 rcases this with rfl | rfl | rfl | rfl | rfl | rfl | rfl | rfl <;> rfl
theorem yhq {a b:Nat} (h1:a<128) (h2:b<128):orI a b=((a ||| b:Nat):Int):=by
 have h3:a ||| b<2 ^ 7:=Nat.or_lt_two_pow h1 h2
 have h5:((a:Int) % 2 ^ IntKind.i64.bits).toNat=a:=by
  rw [Int.emod_eq_of_lt (by omega) (show (a:Int)<2 ^ IntKind.i64.bits from (show (a:Int)<18446744073709551616 by omega))]; omega
 have h6:((b:Int) % 2 ^ IntKind.i64.bits).toNat=b:=by
  rw [Int.emod_eq_of_lt (by omega) (show (b:Int)<2 ^ IntKind.i64.bits from (show (b:Int)<18446744073709551616 by omega))]; omega
 unfold orI
 rw [h5,h6]
 have:(2:Nat) ^ 7=128:=rfl
 generalize a ||| b=c at h3 ⊢
 rw [w64 (by omega) (by omega)]
def msk (l:List Int):Nat:=l.foldl (fun m x=>m ||| 2 ^ x.toNat) 0
theorem zvg {l:List Int} {x:Int}:msk (l++[x])=msk l ||| 2 ^ x.toNat:=by simp [msk]
theorem pow7 {x:Nat} (h:x<7):2 ^ x<128:=by
 have:=Nat.pow_lt_pow_right (a:=2) (by omega) h
 exact this
theorem zxx:∀ (n:Nat) {l:List Int},l.length=n→(∀ x∈l,0≤x∧x<7)→msk l<128
 | 0,l,h,_=>by rw [List.length_eq_zero_iff.1 h]; decide
 | n+1,l,h,hl=>by
  obtain ⟨a,x,rfl⟩:∃ a x,l=a++[x]:=⟨l.dropLast,l.getLast (by intro e; rw [e]at h; simp at h),(List.dropLast_concat_getLast _).symm⟩
  rw [zvg]
  have h1:=zxx n (l:=a) (by simpa using h) fun y hy=>hl y (by simp [hy])
  have h2:=hl x (by simp)
  exact Nat.or_lt_two_pow (n:=7) h1 (pow7 (by omega))
theorem z0m (i:Nat):∀ (n:Nat) {l:List Int},l.length=n→(∀ x∈l,0≤x)→(msk l).testBit i=l.contains (i:Int)
 | 0,l,h,_=>by rw [List.length_eq_zero_iff.1 h]; simp [msk]
 | n+1,l,h,hl=>by
  obtain ⟨a,x,rfl⟩:∃ a x,l=a++[x]:=⟨l.dropLast,l.getLast (by intro e; rw [e]at h; simp at h),(List.dropLast_concat_getLast _).symm⟩
  have h1:=z0m i n (l:=a) (by simpa using h) fun y hy=>hl y (by simp [hy])
  have h2:=hl x (by simp)
  rw [zvg,Nat.testBit_or,h1,Nat.testBit_two_pow]
  rw [Bool.eq_iff_iff]
  simp only[Bool.or_eq_true,List.contains_eq_mem,decide_eq_true_eq,List.mem_append,List.mem_singleton]
  constructor
  ·rintro (h | h)
   ·exact .inl h
   exact .inr (by omega)
  rintro (h | h)
  ·exact .inl h
  exact .inr (by omega)
def ygm (l:List Int):Bool:=l.all fun x=>decide (0≤x) && decide (x≤(l.length:Int) - 1)
def z58 (l:List Int):Bool:=(List.range l.length).all fun i=>l.contains (i:Int)
def zgz (l:List Int):Bool:=decide (1≤l.length) && decide (l.length≤7) && z58 l
theorem z5a (n:Nat):((List.range n).map Int.ofNat).Nodup:=by
 unfold List.Nodup
 rw [List.pairwise_map]
 refine List.Pairwise.imp ?_ (List.nodup_range (n:=n))
 intro a b h e
 exact h (Int.ofNat.inj e)
theorem zxz:∀ {a b:List Int},a.Nodup→(∀ x∈a,x∈b)→a.length≤b.length
 | [],b,_,_=>by simp
 | x::a,b,h,hs=>by
  have h1:=List.nodup_cons.1 h
  have h2:=zxz (b:=b.erase x) h1.2 fun y hy=>(List.mem_erase_of_ne (fun e=>by subst e; exact h1.1 hy)).2 (hs y (by simp [hy]))
  have h3:=List.length_erase_of_mem (hs x (by simp))
  have h4:0<b.length:=List.length_pos_of_mem (hs x (by simp))
  simp only[List.length_cons]; omega
theorem yea {l:List Int} (h:z58 l=true):ygm l=true:=by
 unfold z58 at h
 rw [List.all_eq_true]at h
 unfold ygm
 rw [List.all_eq_true]
 intro x hx
 rw [qB,decide_eq_true_eq,decide_eq_true_eq]
 refine Classical.byContradiction fun hn=>?_
 have h1:(x::(List.range l.length).map Int.ofNat).Nodup:=by
  rw [List.nodup_cons]
  refine ⟨fun hm=>?_,z5a _⟩
  obtain ⟨i,hi,e⟩:=List.mem_map.1 hm
  have:=List.mem_range.1 hi
  have e2:(i:Int)=x:=e
  omega
 have h2:=zxz (b:=l) h1 fun y hy=>by
  rcases List.mem_cons.1 hy with rfl | hy
  ·exact hx
  obtain ⟨i,hi,rfl⟩:=List.mem_map.1 hy
  simpa using h i hi
 simp at h2
 omega
theorem yfg {l:List Int} (h1:1≤l.length) (h7:l.length≤7) (hr:ygm l=true):(((msk l:Nat):Int) == yfz (l.length:Int) - 1)=z58 l:=by
 unfold ygm at hr
 rw [List.all_eq_true]at hr
 have hb:∀ x∈l,0≤x∧x<7:=fun x hx=>by
  have:=hr x hx
  rw [qB,decide_eq_true_eq,decide_eq_true_eq]at this
  omega
 have hb2:∀ x∈l,x<(l.length:Int):=fun x hx=>by
  have:=hr x hx
  rw [qB,decide_eq_true_eq,decide_eq_true_eq]at this
  omega
 rw [zr9 (by omega)]
 have hp:0<2 ^ l.length:=Nat.two_pow_pos _
 have key:msk l=2 ^ l.length - 1↔z58 l=true:=by
  unfold z58
  rw [List.all_eq_true]
  constructor
  ·intro h i hi
   rw [← z0m i _ rfl fun x hx=>(hb x hx).1,h,Nat.testBit_two_pow_sub_one]
   simpa using hi
  intro h
  refine Nat.eq_of_testBit_eq fun i=>?_
  rw [Nat.testBit_two_pow_sub_one,z0m i _ rfl fun x hx=>(hb x hx).1]
  by_cases hi:i<l.length
  ·rw [h i (List.mem_range.2 hi),decide_eq_true hi]
  rw [decide_eq_false hi]
  simp only[List.contains_eq_mem,decide_eq_false_iff_not]
  intro hm
  have:=hb2 _ hm
  omega
 rw [Bool.eq_iff_iff,← key,beq_iff_eq]
 omega
def zjh (a b:Int):Bool:=decide (1≤a) && decide (a≤6) && decide (1≤b) && decide (b≤6) && decide (a*b≤9)
theorem zzz {a b:Int} (h:zjh a b=true):∃ n m:Nat,a=n∧b=m∧1≤n∧n≤6∧1≤m∧m≤6∧n*m≤9:=by
 unfold zjh at h
 simp only[qB,decide_eq_true_eq]at h
 obtain ⟨n,rfl⟩:=Int.eq_ofNat_of_zero_le (show 0≤a by omega)
 obtain ⟨m,rfl⟩:=Int.eq_ofNat_of_zero_le (show 0≤b by omega)
 refine ⟨n,m,rfl,rfl,by omega,by omega,by omega,by omega,?_⟩
 have:((n*m:Nat):Int)≤9:=by simpa using h.2
 omega
theorem z97 {P:Nat→Prop} {i:Nat} (h:∀ j,j<i→P j) (hi:P i):∀ j,j<i+1→P j:=fun j hj=>by
 by_cases e:j=i
 ·subst e; exact hi
 exact h j (by omega)
theorem zyk {l:List Int} (h:¬ (1≤l.length∧l.length≤7)):zgz l=false:=by
 unfold zgz
 by_cases h1:1≤l.length
 ·rw [decide_eq_false (fun h2=>h ⟨h1,h2⟩:¬ l.length≤7),Bool.and_false]; rfl
 rw [decide_eq_false h1]; rfl
theorem yhn {a b:Int} (h1:1≤a) (h2:a≤6) (h3:1≤b) (h4:b≤6):IntKind.i64.wrap (a*b)=a*b:=by
 have h5:a*b≤6*6:=Int.mul_le_mul h2 h4 (by omega) (by omega)
 have h6:0≤a*b:=Int.mul_nonneg (by omega) (by omega)
 exact w64 (by omega) (by omega)
theorem zit (a b:Int):PC Tryz.prog 64 [.int .i64 a,.int .i64 b] (.bool (zjh a b)) true:=by
 refine PC.of ⟨Tryz.func64,by kernel_rfl,rfl,by kernel_rfl⟩ zao mixed (by show 2≤Tryz.f64.ntmps; decide) ?_
 refine W.r fun K hK=>?_
 simp(disch:=omega)only[↓RU,RV,RH,↓reduceIte,qE,reduceCtorEq,if_pos,↓RS,RG,qA,qM,qL]
 apply hK;clear hK K
 refine W.r fun K hK=>?_
 rcases (show ¬ 1≤a∨(1≤a∧¬ a≤6)∨(1≤a∧a≤6∧¬ 1≤b)∨(1≤a∧a≤6∧1≤b∧¬ b≤6)∨(1≤a∧a≤6∧1≤b∧b≤6) by omega) with h1 | ⟨h1,h2⟩ | ⟨h1,h2,h3⟩ | ⟨h1,h2,h3,h4⟩ | ⟨h1,h2,h3,h4⟩
 ·skip
  have d0:decide (a ≥ 1)=false:=decide_eq_false (by omega)
  have dc0:decide (1≤a)=false:=decide_eq_false (by omega)
  simp(disch:=omega)only[↓RU,RV,RH,↓reduceIte,qE,reduceCtorEq,if_pos,w64,↓RS,RG,qA,qM,qL,zaa,d0,dc0,Bool.and_false,Bool.and_true,Bool.true_and,Bool.false_and]
  apply hK;clear hK K
  refine W.ret ?_
  refine Br rfl ?_
  rw [show zjh a b=false by unfold zjh; simp [d0,dc0]]
  rfl
 ·skip
  have d0:decide (a ≥ 1)=true:=decide_eq_true (by omega)
  have dc0:decide (1≤a)=true:=decide_eq_true (by omega)
  have d1:decide (a≤6)=false:=decide_eq_false (by omega)
  simp(disch:=omega)only[↓RU,RV,RH,↓reduceIte,qE,reduceCtorEq,if_pos,w64,↓RS,RG,qA,qM,qL,zaa,d0,dc0,d1,Bool.and_false,Bool.and_true,Bool.true_and,Bool.false_and]
  apply hK;clear hK K
  refine W.ret ?_
  refine Br rfl ?_
  rw [show zjh a b=false by unfold zjh; simp [d0,dc0,d1]]
  rfl
 ·skip
  have d0:decide (a ≥ 1)=true:=decide_eq_true (by omega)
  have dc0:decide (1≤a)=true:=decide_eq_true (by omega)
  have d1:decide (a≤6)=true:=decide_eq_true (by omega)
  have d2:decide (b ≥ 1)=false:=decide_eq_false (by omega)
  have dc2:decide (1≤b)=false:=decide_eq_false (by omega)
  simp(disch:=omega)only[↓RU,RV,RH,↓reduceIte,qE,reduceCtorEq,if_pos,w64,↓RS,RG,qA,qM,qL,zaa,d0,dc0,d1,d2,dc2,Bool.and_false,Bool.and_true,Bool.true_and,Bool.false_and]
  apply hK;clear hK K
  refine W.ret ?_
  refine Br rfl ?_
  rw [show zjh a b=false by unfold zjh; simp [d0,dc0,d1,d2,dc2]]
  rfl
 ·skip
  have d0:decide (a ≥ 1)=true:=decide_eq_true (by omega)
  have dc0:decide (1≤a)=true:=decide_eq_true (by omega)
  have d1:decide (a≤6)=true:=decide_eq_true (by omega)
  have d2:decide (b ≥ 1)=true:=decide_eq_true (by omega)
  have dc2:decide (1≤b)=true:=decide_eq_true (by omega)
  have d3:decide (b≤6)=false:=decide_eq_false (by omega)
  simp(disch:=omega)only[↓RU,RV,RH,↓reduceIte,qE,reduceCtorEq,if_pos,w64,↓RS,RG,qA,qM,qL,zaa,d0,dc0,d1,d2,dc2,d3,Bool.and_false,Bool.and_true,Bool.true_and,Bool.false_and]
  apply hK;clear hK K
  refine W.ret ?_
  refine Br rfl ?_
  rw [show zjh a b=false by unfold zjh; simp [d0,dc0,d1,d2,dc2,d3]]
  rfl
 skip
 have d0:decide (a ≥ 1)=true:=decide_eq_true (by omega)
 have dc0:decide (1≤a)=true:=decide_eq_true (by omega)
 have d1:decide (a≤6)=true:=decide_eq_true (by omega)
 have d2:decide (b ≥ 1)=true:=decide_eq_true (by omega)
 have dc2:decide (1≤b)=true:=decide_eq_true (by omega)
 have d3:decide (b≤6)=true:=decide_eq_true (by omega)
 have hm:=yhn h1 h2 h3 h4
 simp(disch:=omega)only[↓RU,RV,RH,↓reduceIte,qE,reduceCtorEq,if_pos,w64,↓RS,RG,qA,qM,qL,zaa,d0,dc0,d1,d2,dc2,d3,hm,Bool.and_false,Bool.and_true,Bool.true_and,Bool.false_and]
 apply hK;clear hK K
 refine W.ret ?_
 refine Br rfl ?_
 rw [show zjh a b=decide (a*b≤9) by unfold zjh; simp [d0,dc0,d1,d2,dc2,d3]]
 rfl
theorem zls (a b:Int):PC Tryz.prog 60 [.int .i64 a,.int .i64 b] (.bool (zjh a b)) true:=by
 refine PC.of ⟨Tryz.func60,by kernel_rfl,rfl,by kernel_rfl⟩ zao mixed (by show 2≤Tryz.f60.ntmps; decide) ?_
 refine W.r fun K hK=>?_
 simp(disch:=omega)only[↓RU,RV,RH,↓reduceIte,qE,reduceCtorEq,if_pos,↓RS,RG,qA,qM,qL]
 apply hK;clear hK K
 refine W.r fun K hK=>?_
 rcases (show ¬ 1≤a∨(1≤a∧¬ a≤6)∨(1≤a∧a≤6∧¬ 1≤b)∨(1≤a∧a≤6∧1≤b∧¬ b≤6)∨(1≤a∧a≤6∧1≤b∧b≤6) by omega) with h1 | ⟨h1,h2⟩ | ⟨h1,h2,h3⟩ | ⟨h1,h2,h3,h4⟩ | ⟨h1,h2,h3,h4⟩
 ·skip
  have d0:decide (1≤a)=false:=decide_eq_false (by omega)
  simp(disch:=omega)only[↓RU,RV,RH,↓reduceIte,qE,reduceCtorEq,if_pos,qN,w64,↓RS,RG,qA,qM,qL,zaa,d0,Bool.and_false,Bool.and_true,Bool.true_and,Bool.false_and]
  refine zad.pc (zeq a 1 6) rfl (.inl rfl) ?_
  simp(disch:=omega)only[↓RU,RV,RH,↓reduceIte,qE,reduceCtorEq,if_pos,qN,w64,↓RS,RG,qA,qM,qL,zaa,d0,Bool.and_false,Bool.and_true,Bool.true_and,Bool.false_and]
  apply hK;clear hK K
  refine W.ret ?_
  refine Br rfl ?_
  rw [show zjh a b=false by unfold zjh; simp [d0]]
  rfl
 ·skip
  have d0:decide (1≤a)=true:=decide_eq_true (by omega)
  have d1:decide (a≤6)=false:=decide_eq_false (by omega)
  simp(disch:=omega)only[↓RU,RV,RH,↓reduceIte,qE,reduceCtorEq,if_pos,qN,w64,↓RS,RG,qA,qM,qL,zaa,d0,d1,Bool.and_false,Bool.and_true,Bool.true_and,Bool.false_and]
  refine zad.pc (zeq a 1 6) rfl (.inl rfl) ?_
  simp(disch:=omega)only[↓RU,RV,RH,↓reduceIte,qE,reduceCtorEq,if_pos,qN,w64,↓RS,RG,qA,qM,qL,zaa,d0,d1,Bool.and_false,Bool.and_true,Bool.true_and,Bool.false_and]
  apply hK;clear hK K
  refine W.ret ?_
  refine Br rfl ?_
  rw [show zjh a b=false by unfold zjh; simp [d0,d1]]
  rfl
 ·skip
  have d0:decide (1≤a)=true:=decide_eq_true (by omega)
  have d1:decide (a≤6)=true:=decide_eq_true (by omega)
  have d2:decide (1≤b)=false:=decide_eq_false (by omega)
  simp(disch:=omega)only[↓RU,RV,RH,↓reduceIte,qE,reduceCtorEq,if_pos,qN,w64,↓RS,RG,qA,qM,qL,zaa,d0,d1,d2,Bool.and_false,Bool.and_true,Bool.true_and,Bool.false_and]
  refine zad.pc (zeq a 1 6) rfl (.inl rfl) ?_
  simp(disch:=omega)only[↓RU,RV,RH,↓reduceIte,qE,reduceCtorEq,if_pos,qN,w64,↓RS,RG,qA,qM,qL,zaa,d0,d1,d2,Bool.and_false,Bool.and_true,Bool.true_and,Bool.false_and]
  refine zad.pc (zeq b 1 6) rfl (.inl rfl) ?_
  simp(disch:=omega)only[↓RU,RV,RH,↓reduceIte,qE,reduceCtorEq,if_pos,qN,w64,↓RS,RG,qA,qM,qL,zaa,d0,d1,d2,Bool.and_false,Bool.and_true,Bool.true_and,Bool.false_and]
  apply hK;clear hK K
  refine W.ret ?_
  refine Br rfl ?_
  rw [show zjh a b=false by unfold zjh; simp [d0,d1,d2]]
  rfl
 ·skip
  have d0:decide (1≤a)=true:=decide_eq_true (by omega)
  have d1:decide (a≤6)=true:=decide_eq_true (by omega)
  have d2:decide (1≤b)=true:=decide_eq_true (by omega)
  have d3:decide (b≤6)=false:=decide_eq_false (by omega)
  simp(disch:=omega)only[↓RU,RV,RH,↓reduceIte,qE,reduceCtorEq,if_pos,qN,w64,↓RS,RG,qA,qM,qL,zaa,d0,d1,d2,d3,Bool.and_false,Bool.and_true,Bool.true_and,Bool.false_and]
  refine zad.pc (zeq a 1 6) rfl (.inl rfl) ?_
  simp(disch:=omega)only[↓RU,RV,RH,↓reduceIte,qE,reduceCtorEq,if_pos,qN,w64,↓RS,RG,qA,qM,qL,zaa,d0,d1,d2,d3,Bool.and_false,Bool.and_true,Bool.true_and,Bool.false_and]
  refine zad.pc (zeq b 1 6) rfl (.inl rfl) ?_
  simp(disch:=omega)only[↓RU,RV,RH,↓reduceIte,qE,reduceCtorEq,if_pos,qN,w64,↓RS,RG,qA,qM,qL,zaa,d0,d1,d2,d3,Bool.and_false,Bool.and_true,Bool.true_and,Bool.false_and]
  apply hK;clear hK K
  refine W.ret ?_
  refine Br rfl ?_
  rw [show zjh a b=false by unfold zjh; simp [d0,d1,d2,d3]]
  rfl
 skip
 have d0:decide (1≤a)=true:=decide_eq_true (by omega)
 have d1:decide (a≤6)=true:=decide_eq_true (by omega)
 have d2:decide (1≤b)=true:=decide_eq_true (by omega)
 have d3:decide (b≤6)=true:=decide_eq_true (by omega)
 have hm:=yhn h1 h2 h3 h4
 simp(disch:=omega)only[↓RU,RV,RH,↓reduceIte,qE,reduceCtorEq,if_pos,qN,w64,↓RS,RG,qA,qM,qL,zaa,d0,d1,d2,d3,hm,Bool.and_false,Bool.and_true,Bool.true_and,Bool.false_and]
 refine zad.pc (zeq a 1 6) rfl (.inl rfl) ?_
 simp(disch:=omega)only[↓RU,RV,RH,↓reduceIte,qE,reduceCtorEq,if_pos,qN,w64,↓RS,RG,qA,qM,qL,zaa,d0,d1,d2,d3,hm,Bool.and_false,Bool.and_true,Bool.true_and,Bool.false_and]
 refine zad.pc (zeq b 1 6) rfl (.inl rfl) ?_
 simp(disch:=omega)only[↓RU,RV,RH,↓reduceIte,qE,reduceCtorEq,if_pos,qN,w64,↓RS,RG,qA,qM,qL,zaa,d0,d1,d2,d3,hm,Bool.and_false,Bool.and_true,Bool.true_and,Bool.false_and]
 apply hK;clear hK K
 refine W.ret ?_
 refine Br rfl ?_
 rw [show zjh a b=decide (a*b≤9) by unfold zjh; simp [d0,d1,d2,d3]]
 rfl
theorem ybn {l:List Int} (hl:¬ (1≤l.length∧l.length≤7)) (hb:l.length≤9223372036854775807):PC Tryz.prog 30 [eInts l] (.bool false) true:=by
 refine PC.of ⟨Tryz.func30,by kernel_rfl,rfl,by kernel_rfl⟩ zao mixed (by show 1≤Tryz.f30.ntmps; decide) ?_
 refine W.r fun K hK=>?_
 simp(disch:=omega)only[↓RU,RV,RH,↓reduceIte,qE,reduceCtorEq,if_pos,↓RS,RG,qA,qM,qL]
 apply hK;clear hK K
 refine W.seq ?_
 refine W.r fun K hK=>?_
 by_cases h1:1≤l.length
 ·skip
  have d1:decide ((l.length:Int)<1)=false:=decide_eq_false (by omega)
  have d2:decide ((l.length:Int)>7)=true:=decide_eq_true (by omega)
  simp(disch:=omega)only[↓RU,RV,RH,↓reduceIte,qE,reduceCtorEq,if_pos,w64,↓RS,RG,qA,qM,qL,zab,zaa,d1,d2]
  apply hK;clear hK K
  refine W.cond rfl (fun h0=>?_) (fun h0=>?_)
  ·try simp only[RL]at h0
   refine W.r fun K hK=>?_
   simp(disch:=omega)only[↓RU,RV,RH,↓reduceIte,qE,reduceCtorEq,if_pos,↓RS,RG,qA,qM,qL]
   apply hK;clear hK K
   refine W.ret ?_
   refine XThen.ret ?_
   refine Br rfl ?_
   rfl
  try simp only[RL]at h0
  exact absurd h0 (by simp)
 skip
 have d1:decide ((l.length:Int)<1)=true:=decide_eq_true (by omega)
 simp(disch:=omega)only[↓RU,RV,RH,↓reduceIte,qE,reduceCtorEq,if_pos,w64,↓RS,RG,qA,qM,qL,zab,zaa,d1]
 apply hK;clear hK K
 refine W.cond rfl (fun h0=>?_) (fun h0=>?_)
 ·try simp only[RL]at h0
  refine W.r fun K hK=>?_
  simp(disch:=omega)only[↓RU,RV,RH,↓reduceIte,qE,reduceCtorEq,if_pos,↓RS,RG,qA,qM,qL]
  apply hK;clear hK K
  refine W.ret ?_
  refine XThen.ret ?_
  refine Br rfl ?_
  rfl
 try simp only[RL]at h0
 exact absurd h0 (by simp)
theorem z8q {l:List Int} (hl1:1≤l.length) (hl7:l.length≤7):PC Tryz.prog 30 [eInts l] (.bool (z58 l)) true:=by
 have hd1:decide ((l.length:Int)<1)=false:=decide_eq_false (by omega)
 have hd2:decide ((l.length:Int)>7)=false:=decide_eq_false (by omega)
 have hall:z58 l=true↔∀ i,i<l.length→l.contains (i:Int)=true:=by unfold z58; rw [List.all_eq_true]; exact ⟨fun h i hi=>h i (List.mem_range.2 hi),fun h i hi=>h i (List.mem_range.1 hi)⟩
 refine PC.of ⟨Tryz.func30,by kernel_rfl,rfl,by kernel_rfl⟩ zao mixed (by show 1≤Tryz.f30.ntmps; decide) ?_
 refine W.r fun K hK=>?_
 simp(disch:=omega)only[↓RU,RV,RH,↓reduceIte,qE,reduceCtorEq,if_pos,↓RS,RG,qA,qM,qL]
 apply hK;clear hK K
 refine W.seq ?_
 refine W.r fun K hK=>?_
 simp(disch:=omega)only[↓RU,RV,RH,↓reduceIte,qE,reduceCtorEq,if_pos,w64,↓RS,RG,qA,qM,qL,zab,zaa,hd1,hd2]
 apply hK;clear hK K
 refine W.cond rfl (fun h0=>?_) (fun h0=>?_)
 ·try simp only[RL]at h0
  exact absurd h0 (by simp)
 try simp only[RL]at h0
 refine W.skip ?_
 refine xn ?_
 refine W.seq ?_
 refine W.r fun K hK=>?_
 simp(disch:=omega)only[↓RU,RV,RH,↓reduceIte,qE,reduceCtorEq,if_pos,↓RS,RG,qA,qM,qL,zab,zaa]
 apply hK;clear hK K
 refine W.block ?_
 refine W.loop [0,13,14] (fun n vs S=>∃ i:Nat,n=l.length - i∧i≤l.length∧(∀ j,j<i→l.contains (j:Int)=true)∧vs=[eInts l,.int .i64 l.length,.int .i64 i]∧S=⟨[],0⟩) (l.length) ?_ ?_
 ·refine ⟨0,0,rfl,Nat.zero_le _,by simp,?_,rfl⟩
  simp [Env.put,Env.of,zae]
 rintro n vs S - ⟨i,rfl,h_i,hp,rfl,rfl⟩
 refine W.r fun K hK=>?_
 simp(disch:=omega)only[↓RU,RV,RH,↓reduceIte,qE,reduceCtorEq,if_pos,w64,↓RS,RG,qA,qM,qL,zaa]
 apply hK;clear hK K
 refine W.seq ?_
 refine W.cond rfl (fun h1=>?_) (fun h1=>?_)
 ·try simp only[RL]at h1
  refine W.skip ?_
  refine xn ?_
  refine W.seq ?_
  refine W.block ?_
  refine W.r fun K hK=>?_
  simp(disch:=omega)only[↓RU,RV,RH,↓reduceIte,qE,reduceCtorEq,if_pos,↓RS,RG,qA,qM,qL]
  apply hK;clear hK K
  refine W.r fun K hK=>?_
  cases hv:l.contains (i:Int)
  ·skip
   simp(disch:=omega)only[↓RU,RV,RH,↓reduceIte,qE,reduceCtorEq,if_pos,qN,↓RS,RG,qA,qM,qL,hv]
   refine zad.pc (zji (l:=l) (x:=(i:Int)) (by omega)) rfl (.inl rfl) ?_
   simp(disch:=omega)only[↓RU,RV,RH,↓reduceIte,qE,reduceCtorEq,if_pos,qN,↓RS,RG,qA,qM,qL,hv]
   apply hK;clear hK K
   refine W.cond rfl (fun h2=>?_) (fun h2=>?_)
   ·try simp only[RL]at h2
    refine W.r fun K hK=>?_
    simp(disch:=omega)only[↓RU,RV,RH,↓reduceIte,qE,reduceCtorEq,if_pos,↓RS,RG,qA,qM,qL]
    apply hK;clear hK K
    refine W.ret ?_
    refine XBlock.ret ?_
    refine XThen.ret ?_
    refine XThen.ret ?_
    refine XBlock.ret ?_
    refine XThen.ret ?_
    refine Br rfl ?_
    rw [show z58 l=false by cases h:z58 l with | false=>rfl | true=>rw [hall.1 h i (by omega)]at hv; cases hv]
    rfl
   try simp only[RL]at h2
   exact absurd h2 (by simp)
  skip
  simp(disch:=omega)only[↓RU,RV,RH,↓reduceIte,qE,reduceCtorEq,if_pos,qN,↓RS,RG,qA,qM,qL,hv]
  refine zad.pc (zji (l:=l) (x:=(i:Int)) (by omega)) rfl (.inl rfl) ?_
  simp(disch:=omega)only[↓RU,RV,RH,↓reduceIte,qE,reduceCtorEq,if_pos,qN,↓RS,RG,qA,qM,qL,hv]
  apply hK;clear hK K
  refine W.cond rfl (fun h2=>?_) (fun h2=>?_)
  ·try simp only[RL]at h2
   exact absurd h2 (by simp)
  try simp only[RL]at h2
  refine W.skip ?_
  refine XbN ?_
  refine xn ?_
  refine W.k fun K hK=>?_
  simp(disch:=omega)only[↓RU,RV,RH,↓reduceIte,qE,reduceCtorEq,if_pos,w64,↓RS,RG,qA,qM,qL,zaa]
  apply hK;clear hK K
  refine xn ?_
  refine ⟨l.length - (i+1),by omega,0,i+1,rfl,by omega,z97 hp hv,?_,rfl⟩
  simp [Env.put,Env.of]
 try simp only[RL]at h1
 obtain rfl:i=l.length:=by omega
 refine W.exit ?_
 refine xe ?_
 refine xe ?_
 refine XBlock.hit ?_
 refine xn ?_
 refine W.r fun K hK=>?_
 simp(disch:=omega)only[↓RU,RV,RH,↓reduceIte,qE,reduceCtorEq,if_pos,↓RS,RG,qA,qM,qL]
 apply hK;clear hK K
 refine W.ret ?_
 refine Br rfl ?_
 rw [hall.2 hp]
 rfl
theorem zvn {l:List Int} (hb:l.length≤9223372036854775807):PC Tryz.prog 30 [eInts l] (.bool (zgz l)) true:=by
 by_cases h:1≤l.length∧l.length≤7
 ·unfold zgz
  rw [decide_eq_true h.1,decide_eq_true h.2]
  exact z8q h.1 h.2
 rw [zyk h]
 exact ybn h hb
theorem zuf {l:List Int} (hb:l.length≤1048576):PC Tryz.prog 61 [eInts l] (.bool (zgz l)) true:=by
 have hrg:ygm l=true↔∀ x∈l,(decide (0≤x) && decide (x≤(l.length:Int) - 1))=true:=by unfold ygm; rw [List.all_eq_true]
 refine PC.of ⟨Tryz.func61,by kernel_rfl,rfl,by kernel_rfl⟩ zao mixed (by show 1≤Tryz.f61.ntmps; decide) ?_
 refine W.r fun K hK=>?_
 simp(disch:=omega)only[↓RU,RV,RH,↓reduceIte,qE,reduceCtorEq,if_pos,↓RS,RG,qA,qM,qL]
 apply hK;clear hK K
 refine W.r fun K hK=>?_
 simp(disch:=omega)only[↓RU,RV,RH,↓reduceIte,qE,reduceCtorEq,if_pos,↓RS,RG,qA,qM,qL]
 apply hK;clear hK K
 refine W.seq ?_
 refine W.r fun K hK=>?_
 simp(disch:=omega)only[↓RU,RV,RH,↓reduceIte,qE,reduceCtorEq,if_pos,↓RS,RG,qA,qM,qL]
 apply hK;clear hK K
 refine W.block ?_
 refine W.loop [0,3,4] (fun n vs S=>∃ (i:Nat) (m:Int),n=l.length - i∧i≤l.length∧(∀ x∈l.take i,(decide (0≤x) && decide (x≤(l.length:Int) - 1))=true)∧(l.length≤7→m=((msk (l.take i):Nat):Int))∧vs=[eInts l,.int .i64 m,.int .i64 i]∧S=⟨[],0⟩) l.length ?_ ?_
 ·refine ⟨0,0,0,rfl,Nat.zero_le _,by simp,fun _=>rfl,?_,rfl⟩
  simp [Env.put,Env.of,zae]
 rintro n vs S - ⟨i,m,rfl,h_i,hin,hm,rfl,rfl⟩
 refine W.seq ?_
 refine W.r fun K hK=>?_
 simp(disch:=omega)only[↓RU,RV,RH,↓reduceIte,qE,reduceCtorEq,if_pos,w64,↓RS,RG,qA,qM,qL,zab,zaa]
 apply hK;clear hK K
 refine W.cond rfl (fun h0=>?_) (fun h0=>?_)
 ·try simp only[RL]at h0
  obtain ⟨x,hx,hxm⟩:=zaf (show i<l.length by omega)
  refine W.skip ?_
  refine xn ?_
  refine W.seq ?_
  refine W.block ?_
  refine W.seq ?_
  refine W.r fun K hK=>?_
  cases hx2:(decide ((0:Int)≤x) && decide (x≤(l.length:Int) - 1))
  ·skip
   simp(disch:=omega)only[↓RU,RV,RH,↓reduceIte,qE,reduceCtorEq,if_pos,w64,qN,↓RS,RG,qA,qM,qL,zab,zaa,hx,hx2]
   refine zad.pc (zeq x 0 ((l.length:Int) - 1)) rfl (.inl rfl) ?_
   simp(disch:=omega)only[↓RU,RV,RH,↓reduceIte,qE,reduceCtorEq,if_pos,w64,qN,↓RS,RG,qA,qM,qL,zab,zaa,hx,hx2]
   apply hK;clear hK K
   refine W.cond rfl (fun h1=>?_) (fun h1=>?_)
   ·try simp only[RL]at h1
    refine W.r fun K hK=>?_
    simp(disch:=omega)only[↓RU,RV,RH,↓reduceIte,qE,reduceCtorEq,if_pos,↓RS,RG,qA,qM,qL]
    apply hK;clear hK K
    refine W.ret ?_
    refine XThen.ret ?_
    refine XBlock.ret ?_
    refine XThen.ret ?_
    refine XThen.ret ?_
    refine XBlock.ret ?_
    refine XThen.ret ?_
    refine Br rfl ?_
    rw [show zgz l=false by
        cases hp:zgz l with
        | false=>rfl
        | true =>
         unfold zgz at hp
         rw [qB]at hp
         rw [hrg.1 (yea hp.2) x hxm]at hx2; cases hx2]
    rfl
   try simp only[RL]at h1
   exact absurd h1 (by simp)
  skip
  simp(disch:=omega)only[↓RU,RV,RH,↓reduceIte,qE,reduceCtorEq,if_pos,w64,qN,↓RS,RG,qA,qM,qL,zab,zaa,hx,hx2]
  refine zad.pc (zeq x 0 ((l.length:Int) - 1)) rfl (.inl rfl) ?_
  simp(disch:=omega)only[↓RU,RV,RH,↓reduceIte,qE,reduceCtorEq,if_pos,w64,qN,↓RS,RG,qA,qM,qL,zab,zaa,hx,hx2]
  apply hK;clear hK K
  refine W.cond rfl (fun h1=>?_) (fun h1=>?_)
  ·try simp only[RL]at h1
   exact absurd h1 (by simp)
  try simp only[RL]at h1
  have hx0:0≤x:=by have:=hx2; rw [qB,decide_eq_true_eq]at this; exact this.1
  refine W.skip ?_
  refine xn ?_
  refine W.k fun K hK=>?_
  simp(disch:=omega)only[↓RU,RV,RH,↓reduceIte,qE,reduceCtorEq,if_pos,w64,↓RS,RG,qA,qM,qL,zab,zaa,hx,z03]
  apply hK;clear hK K
  refine XbN ?_
  refine xn ?_
  refine W.k fun K hK=>?_
  simp(disch:=omega)only[↓RU,RV,RH,↓reduceIte,qE,reduceCtorEq,if_pos,w64,↓RS,RG,qA,qM,qL,zaa]
  apply hK;clear hK K
  refine xn ?_
  refine ⟨l.length - (i+1),by omega,0,i+1,orI m (yfz x),rfl,by omega,?_,?_,?_,rfl⟩
  ·intro y hy; rw [tk hx]at hy; rcases List.mem_append.1 hy with hy | hy
   ·exact hin y hy
   rw [List.mem_singleton.1 hy]; exact hx2
  ·intro h7
   have hy:=hx2
   rw [qB,decide_eq_true_eq,decide_eq_true_eq]at hy
   obtain ⟨xn,rfl⟩:=Int.eq_ofNat_of_zero_le hy.1
   rw [hm h7,zr9 (by omega),yhq (zxx _ rfl fun y hy2=>by have:=hin y hy2; rw [qB,decide_eq_true_eq,decide_eq_true_eq]at this; omega) (pow7 (by omega)),tk hx,zvg]; rfl
  simp [Env.put,Env.of]; rfl
 try simp only[RL]at h0
 obtain rfl:i=l.length:=by omega
 rw [List.take_length]at hin hm
 refine W.exit ?_
 refine xe ?_
 refine xe ?_
 refine XBlock.hit ?_
 refine xn ?_
 refine W.r fun K hK=>?_
 by_cases h7:1≤l.length∧l.length≤7
 ·skip
  have d1:(decide ((1:Int)≤(l.length:Int)) && decide ((l.length:Int)≤7))=true:=by rw [decide_eq_true (by omega),decide_eq_true (by omega)]; rfl
  have hs1:yfz (l.length:Int)=((2 ^ l.length:Nat):Int):=zr9 (by omega)
  have hp7:2 ^ l.length<256:=by have:=Nat.pow_lt_pow_right (a:=2) (by omega) (show l.length<8 by omega); exact this
  have hw:IntKind.i64.wrap (yfz (l.length:Int) - 1)=yfz (l.length:Int) - 1:=by rw [hs1]; generalize 2 ^ l.length=z at hp7; exact w64 (by omega) (by omega)
  have hma:=yfg h7.1 h7.2 (hrg.2 hin)
  rw [← hm h7.2]at hma
  simp(disch:=omega)only[↓RU,RV,RH,↓reduceIte,qE,reduceCtorEq,if_pos,qN,w64,↓RS,RG,qA,qM,qL,zab,zaa,d1,z03,hw,hma]
  refine zad.pc (zeq (l.length:Int) 1 7) rfl (.inl rfl) ?_
  simp(disch:=omega)only[↓RU,RV,RH,↓reduceIte,qE,reduceCtorEq,if_pos,qN,w64,↓RS,RG,qA,qM,qL,zab,zaa,d1,z03,hw,hma]
  apply hK;clear hK K
  refine W.ret ?_
  refine Br rfl ?_
  rw [show zgz l=z58 l by unfold zgz; rw [decide_eq_true h7.1,decide_eq_true h7.2]; rfl]
  rfl
 skip
 have d1:(decide ((1:Int)≤(l.length:Int)) && decide ((l.length:Int)≤7))=false:=by rw [Bool.and_eq_false_iff,decide_eq_false_iff_not,decide_eq_false_iff_not]; omega
 simp(disch:=omega)only[↓RU,RV,RH,↓reduceIte,qE,reduceCtorEq,if_pos,qN,w64,↓RS,RG,qA,qM,qL,zab,zaa,d1]
 refine zad.pc (zeq (l.length:Int) 1 7) rfl (.inl rfl) ?_
 simp(disch:=omega)only[↓RU,RV,RH,↓reduceIte,qE,reduceCtorEq,if_pos,qN,w64,↓RS,RG,qA,qM,qL,zab,zaa,d1]
 apply hK;clear hK K
 refine W.ret ?_
 refine Br rfl ?_
 rw [zyk h7]
 rfl
section
section
variable {P:Program} {T:Tab} {F0:Nat→Prop} {G0:GSt} {w0:World} {N:Nat}
theorem z0p {R:Option Nat} {nn:Nat} (hT:zbr P T) {ops:Array Oper} {Q:Env→Store→Prop} {L:List Nat} {o:Oper} {l:List Oper} {e:Env} {F:Nat→Prop} {G:GSt} {a:Act} {w:World} (hg:o.guard=none)
  (h:pOp P T e G.er o.op fun v S'=>zwk L (fun vs S2=>zyg P T ops Q l (Env.of L vs) S2) (e.put o.dst v) S') (hi:Inv F G w) (he:ze7 w.heap F G e a)
  (hn:Next F0 G0 w0 F G w) (hs:a.tmps.size=N) (hd:Marks w0 a.defers w) (hdst:∀ q∈o::l,∀ d,q.dst=some d→d<N):wpListIn (fnc R) nn P ops (Sto F0 G0 w0 N (Nrm Q)) (o::l) a w:=by
 have ho:∀ t,o.dst=some t→t<a.tmps.size:=fun t ht=>by rw [hs]; exact hdst o (by simp) t ht
 have hl:∀ o∈l,∀ d,o.dst=some d→d<N:=fun o' h'=>hdst o' (by simp [h'])
 unfold wpListIn
 have hw:Region.wanted o (yielded ops a.tmps)=true:=by unfold Region.wanted; rw [hg]
 rw [if_pos hw]
 refine zf7 hT hi he h ?_
 intro v cv F' G' w' hK i1 i2 i3
 obtain ⟨vs,F2,G2,k1,k2,k3,k4,k5⟩:=znx i1 ((he.next hi i2).put _ ho i3) hK
 exact zif hT l k1 k3 k5 ((hn.trans i2).trans k4) (by rw [zd7]; exact hs) (by rw [zcg]; exact hd.next hi i2) hl
end
def Kept (Q:Exit→Env→Store→Prop) (x:Exit) (e:Env) (S:Store):Prop:=Q x e S∨∃ L,z32 L (fun vs S2=>Q x (Env.of L vs) S2) e S
section
variable {P:Program} {T:Tab} {Q:Exit→Env→Store→Prop} {e:Env} {S:Store} {a b c:Code}
theorem W.region_z {id:Nat} {ops:Array Oper} {L:List Nat} {o:Oper} {l:List Oper} (ho:ops.toList=o::l) (hg:o.guard=none) (h:pOp P T e S o.op fun v S'=>zwk L (fun vs S2=>zyg P T ops (Q .normal) l (Env.of L vs) S2) (e.put o.dst v) S'):W P T (.region id ops false) Q e S:=by
 refine ⟨?_⟩
 intro hT hm F0 G0 w0 N F G a w h3 h4 h5 h6 h7 h8 h9 R nn
 subst h3
 refine wpIn_mono (wpIn_region_list ?_) ztr
 have hd:=znt h9
 rw [ho]at hd ⊢
 exact z0p hT hg h h4 h5 h6 h7 h8 hd
theorem V.seq_boxZ (L:List Nat) {id:Nat} {o:Oper} {l:List Oper} (hg:o.guard=none)
  (h:∀ K:Env→Store→Prop,(∀ e S,V P T b Q e S→K e S)→zbg false P T (dsts (o::l)) [o] e S fun e1 S1=>zwk L (fun vs S2=>zbg false P T (dsts (o::l)) l (Env.of L vs) S2 K) e1 S1) :
  V P T (.seq (.region id (o::l).toArray false) b) Q e S:=by
 refine V.seq (W.v (W.region_z (L:=L) (o:=o) (l:=l) rfl hg ?_))
 have h1:=zg7 [o] e S (h _ fun _ _ h=>h)
 unfold zyg zdi gdec at h1
 rw [hg]at h1
 refine zd6 (fun v S' k=>?_) h1
 obtain ⟨lo,vs,S2,k1,k2,k3⟩:=k
 exact ⟨lo,vs,S2,k1,k2,zg7 l _ _ k3⟩
theorem V.rangeFuncK {g:Operand} {ps:Array Tmp} {asg body:Code} (L:List Nat) {f:FuncId} {cap:List PV} (hg:e.ev g = .fn f cap)
  (h:∀ (l:Nat) (r:Loop),LoopR ps asg body r→r.state = .ready→r.pending=none→∃ J,Ev P f (.yl l::cap) ⟨S.obs++[.lp S.tick l (r,L) (L.map e)],S.tick+1⟩ J ∧
   ∀ v S',J v S'→∃ ver r' L' tm x,S'.obs[S.obs.length]?=some (.lp ver l (r',L') tm)∧r'.state ≠ .busy∧z4m r'.pending=some x∧Kept Q x e ⟨S'.obs.set S.obs.length (.lp ver l ({ r' with state := .exhausted,pending:=r'.pending },L') tm),S'.tick⟩) :
  V P T (.rangeFunc g ps asg body) Q e S:=by
 refine ⟨?_⟩
 intro hT hm F0 G0 w0 N F G a w h3 h4 h5 h6 h7 h8 h9
 subst h3
 simp only[zgw,qB,List.all_eq_true,decide_eq_true_eq]at h9
 obtain ⟨⟨d1,d2⟩,d3⟩:=h9
 refine wpIn_rangeFunc ?_
 intro fn _
 obtain ⟨rec,hrec⟩:∃ rec:Loop,rec={ state := .ready,pending:=none,fn,tmps:=a.tmps,params:=ps,assign:=asg,body,defers:=w.heap.size }:=⟨_,rfl⟩
 obtain ⟨i1,n1⟩:=zqa h4 (.deferred (some []))
 obtain ⟨W0,hW0⟩:∃ W0,w.alloc (.deferred (some []))=W0:=⟨_,rfl⟩
 have hsz:W0.heap.size=w.heap.size+1:=by rw [← hW0]; simp
 rw [hW0]at i1 n1
 have hdef:W0.heap[w.heap.size]?=some (.deferred (some [])):=by rw [← hW0]; exact World.alloc_heap_new w _
 obtain ⟨W1,hW1⟩:∃ W1,W0.alloc (.loop rec)=W1:=⟨_,rfl⟩
 have hL1:W1.heap[W0.heap.size]?=some (.loop rec):=by rw [← hW1]; exact World.alloc_heap_new W0 _
 have hhold:Holds W0.heap F G W1.heap (.lp G.tick W0.heap.size (rec,L) (L.map e)) ⟨W0.heap.size,0⟩:=by
  refine ⟨rfl,a.tmps,by rw [hL1,hrec],⟨by rw [hrec],by simp⟩,fun i p j q1 q2=>?_⟩
  simp only at q2
  rw [List.getElem?_map,q2]at q1
  cases q1
  exact (h5 j).next h4 n1
 obtain ⟨i2,n2⟩:=zm0 i1 (.lp G.tick W0.heap.size (rec,L) (L.map e)) 0 W1 W1.drawn (by rw [← hW1]; rfl) (by rw [← hW1]; exact qR _) ⟨_,by rw [← hW1]; rfl⟩ rfl hhold
 have n12:=n1.trans n2
 have hgv:=h5.ev g
 rw [hg]at hgv
 obtain ⟨vs,hge,hvl,hvr⟩:=hgv.fn_at
 obtain ⟨J,hev,hJ⟩:=h W0.heap.size rec (by rw [hrec]; exact ⟨rfl,rfl,rfl,fun t ht=>by rw [h7]; exact d1 t ht,by rw [h7]; exact d2,by rw [h7]; exact d3⟩) (by rw [hrec]) (by rw [hrec])
 refine ⟨w.heap.size+1,[{ target := .collected w.heap.size,args := #[] }],W1,{ target := .fn (.func f) vs,args := #[.func (.yield (w.heap.size+1)) #[] #[]] },W1,f,
  #[.func (.yield (w.heap.size+1)) #[] #[]]++vs,W1,?_,?_,fun _ _=>trivial,?_,fun q=>(by simp [Fence.wide]at q),?_⟩
 ·rw [← hW1,← hW0,hrec]; exact run_enterLoop_outer _ _ _ _ _
 ·simp only[resolve,hge]
  simp [go_sem]
 ·simp only[invoke]; exact hev.ent _ _
 ·refine callsIn_wide.2 ((hev.run F _ W1 _ (zqt G _ _) i2 (by simp; omega) ?_).mono ?_)
  ·intro i p c q1 q2
   cases i with
   | zero=>rw [Array.getElem?_append_left (by simp)]at q2; simp at q1 q2; subst q1; subst q2; rw [hsz]; exact .imm _ _ (.yl _)
   | succ i =>
    simp only[List.getElem?_cons_succ]at q1
    rw [Array.getElem?_append_right (by simp)]at q2
    simp at q2
    exact (hvr i p c q1 q2).next h4 n12
  ·rintro en w2 ⟨v,cv,F2,G2,rfl,j1,j2,j3,j4⟩
   obtain ⟨ver,r',L',tm,x,g1,g2,g3,g4⟩:=hJ v _ j1
   obtain ⟨lc,hG2⟩:=zff g1
   rw [show (GSt.er G).obs.length=G.obs.length by simp [GSt.er]]at hG2 g4
   obtain ⟨t,p1,p2,p3⟩:=z28 j2 hG2 .exhausted r'.pending
   rw [hsz]at p1
   refine ⟨_,_,run_endLoop p1 g2,?_⟩
   have hnx:=(h6.trans n12).trans (j3.trans p3)
   have hmk:Marks w0 ([{ target := .collected w.heap.size,args := #[] }]++a.defers) (w2.putObj W0.heap.size (.loop { r' with tmps:=t,state := .exhausted,pending:=r'.pending })):=by
    have m1:=h8.next h4 n12
    have hd1:W1.heap[w.heap.size]?=some (.deferred (some [])):=(by rw [← hW1]; exact (Go.RowKit.Below.heap_alloc W0 _ _ (by omega)).trans hdef)
    have m2:Marks w0 ([{ target := .collected w.heap.size,args := #[] }]++a.defers) W1:=by
     obtain ⟨bs,b1,b2,b3⟩:=h8
     obtain ⟨bs',c1,c2,c3⟩:=m1
     have hb:bs'=bs:=by
      rw [b1]at c1
      have:=congrArg (List.map fun d:Deferred=>(match d.target with | .collected b=>b | _=>0)) c1
      simpa [List.map_map,Function.comp_def] using this.symm
     subst hb
     refine ⟨w.heap.size::bs',by rw [b1]; simp,?_,?_⟩
     ·refine List.nodup_cons.2 ⟨fun hm=>?_,b2⟩
      have:=(Array.getElem?_eq_some_iff.1 (b3 _ hm).2).1
      omega
     intro b hb
     rcases List.mem_cons.1 hb with rfl | hb
     ·exact ⟨h6.size,hd1⟩
     exact c3 b hb
    exact (m2.next i2 j3).next j2 p3
   have henv:ze7 (w2.putObj W0.heap.size (.loop { r' with tmps:=t,state := .exhausted,pending:=r'.pending })).heap F2 ⟨G2.obs.set G.obs.length (.lp ver W0.heap.size ({ r' with state := .exhausted,pending:=r'.pending },L') tm,lc),G2.tick⟩ e { a with defers:=[{ target := .collected w.heap.size,args := #[] }]++a.defers } :=
    fun k=>(((h5 k).next h4 n12).next i2 j3).next j2 p3
   have hst:Sto F0 G0 w0 N Q x { a with defers:=[{ target := .collected w.heap.size,args := #[] }]++a.defers } (w2.putObj W0.heap.size (.loop { r' with tmps:=t,state := .exhausted,pending:=r'.pending })):=by
    rw [← zi6 (l:=lc)]at g4
    rcases g4 with g4 | ⟨L2,g4⟩
    ·exact ⟨e,F2,_,g4,p2,henv,hnx,h7,hmk⟩
    obtain ⟨vs,F3,G3,q1,q2,q3,q4,q5⟩:=znw p2 henv g4
    exact ⟨_,F3,G3,q1,q3,q5,hnx.trans q4,h7,hmk⟩
   rw [hsz]at hst
   cases hpe:r'.pending with
   | none=>rw [hpe]at g3 hst ; simp only[z4m]at g3; cases g3; exact hst
   | some c =>
    rw [hpe]at g3 hst
    cases c <;> simp only[z4m]at g3 <;> cases g3
    ·exact wpIn_exit hst
    exact wpIn_ret hst
theorem PN.ofV {f:FuncId} {fn:Func} {c:Code} (h:Fn P f fn c) (hT:zbr P T) (hm:P.follows .mixedOrders=true) {args:List PV} {r:PV} {obs:List Ob} {im:Bool} (hn:args.length≤fn.ntmps)
  (hw:V P T c (zfe T fn.results.toList fun v S=>∃ k,sh (S.take k) im 10 v=some r∧zf5 (S.take k) im (S.take k).obs=some obs) (zae args) ⟨[],0⟩):PN P f args r obs im :=
 Ev.ofV h hT hm hn (hw.mono fun x e S hx=>by
  have key:∀ (v:PV) (S:Store),(∃ k,sh (S.take k) im 10 v=some r∧zf5 (S.take k) im (S.take k).obs=some obs) →
    ∃ k1 k,sh ((S.take k1).take k) im 10 v=some r∧zf5 ((S.take k1).take k) im ((S.take k1).take k).obs=some obs:=by
   rintro v S ⟨k,h1,h2⟩
   have e:(S.take k).take k=S.take k:=by simp [Store.take,List.take_take]
   exact ⟨k,k,by rw [e]; exact h1,by rw [e]; exact h2⟩
  cases x <;> simp only[zfe,zie]at hx ⊢ <;> (try exact hx)
  all_goals
   split at hx
   ·exact key _ _ hx
   exact hx)
end
end
theorem zig {q:List Txt} (h:zcu q=true):decide (zwj (gP q) 4 (zax q).length q.length=0)=zc0 q:=by
 unfold zc0
 rw [zfz,h,zgq,Bool.true_and]
theorem zhv {q:List Txt} (h:zcu q=true):GW (gP q) q.length (zax q).length:=by
 have h2:zgc q=true:=by rw [zfz]; exact h
 unfold zgc at h2
 rw [qB]at h2
 have:=zo2 h2.1
 rwa [zgq]at this
theorem zou (a b:Int):PC Tryz.prog 52 [.int .i64 a,.int .i64 b] (.fn 102 [.ip [.int .i64 a] 0,.ip [.int .i64 b] 0]) false:=by
 refine PC.of ⟨Tryz.func52,by kernel_rfl,rfl,by kernel_rfl⟩ zao mixed (by show 2≤Tryz.f52.ntmps; decide) ?_
 refine W.r fun K hK=>?_
 simp(disch:=omega)only[↓RU,RV,RH,↓reduceIte,qE,reduceCtorEq,if_pos,↓RS,RG,qA,qM,qL,zaa]
 apply hK;clear hK K
 refine W.r fun K hK=>?_
 simp(disch:=omega)only[↓RU,RV,RH,↓reduceIte,qE,reduceCtorEq,if_pos,↓RS,RG,qA,qM,qL]
 apply hK;clear hK K
 refine W.ret ?_
 refine Br rfl ?_
 rfl
theorem zun {g:List (List Int)} {nh nw:Nat} (hg:GW g nh nw) (rs:List Rect) (hz:∀ r∈g,∀ z∈r,0≤z∧z≤100):PN Tryz.prog 65 [zb3 g rs] (.loc 0 0 0 nh) [.arr 0 9 1 ((zfv g).map .str)] false:=by
 have hl:=hg.1
 obtain ⟨hg1,hg2,hg3,hg4⟩:=hg.2.2
 refine PN.of ⟨Tryz.func65,by kernel_rfl,rfl,by kernel_rfl⟩ zao mixed (by show 1≤Tryz.f65.ntmps; decide) ?_
 refine W.r fun K hK=>?_
 simp(disch:=omega)only[↓RU,RV,RH,↓reduceIte,qE,reduceCtorEq,if_pos,↓RS,RG,qA,qM,qL]
 apply hK;clear hK K
 refine W.r fun K hK=>?_
 simp(disch:=omega)only[↓RU,RV,RH,↓reduceIte,qE,reduceCtorEq,if_pos,qN,↓RS,RG,qA,qM,qL,ty6,zac,hl,zel,zi0,zdv]
 refine zad.pc (zqx g rs) rfl (.inl rfl) ?_
 simp(disch:=omega)only[↓RU,RV,RH,↓reduceIte,qE,reduceCtorEq,if_pos,qN,↓RS,RG,qA,qM,qL,ty6,zac,hl,zel,zi0,zdv]
 apply hK;clear hK K
 refine W.seq ?_
 refine W.r fun K hK=>?_
 simp(disch:=omega)only[↓RU,RV,RH,↓reduceIte,qE,reduceCtorEq,if_pos,↓RS,RG,qA,qM,qL,ty1,ty4,zab,zdz,zb7,zc5,zaa,zd0,zc6,hl]
 apply hK;clear hK K
 refine W.block ?_
 refine W.loop [0,3,15,16,17] (fun n vs S=>∃ (i vo t:Nat) (o:List Txt),n=nh - i∧i≤nh∧o.length=nh∧(∀ j,j<i→o[j]?=(zfv g)[j]?)∧vs=[zb3 g rs,.loc 0 vo 0 nh,zeu g,.int .i64 nh,.int .i64 (i:Nat)]∧S=⟨[.arr vo 9 1 (o.map .str)],t⟩) nh ?_ ?_
 ·refine ⟨1,0,0,1,List.replicate nh [],rfl,Nat.zero_le _,by simp,fun j h=>absurd h (by omega),?_,?_⟩
  ·simp [Env.put,Env.of,zae,hl]
  simp [zay,zi0]
 rintro n vs S - ⟨i,vo,t,o,rfl,h_i,hol,hdone,rfl,rfl⟩
 refine W.r fun K hK=>?_
 simp(disch:=omega)only[↓RU,RV,RH,↓reduceIte,qE,reduceCtorEq,if_pos,w64,↓RS,RG,qA,qM,qL,zaa]
 apply hK;clear hK K
 refine W.seq ?_
 refine W.cond rfl (fun h=>?_) (fun h=>?_)
 ·try simp only[RL]at h
  obtain ⟨row,hrow,hrm⟩:=zaf (show i<g.length by omega)
  have hrl:=hg.2.1 row hrm
  have hrz:=hz row hrm
  refine W.skip ?_
  refine xn ?_
  refine W.seq ?_
  refine W.block ?_
  refine W.r fun K hK=>?_
  simp(disch:=omega)only[↓RU,RV,RH,↓reduceIte,qE,reduceCtorEq,if_pos,↓RS,RG,qA,qM,qL,ty1,zab,zb7,zaa,hrow]
  apply hK;clear hK K
  refine W.r fun K hK=>?_
  simp(disch:=omega)only[↓RU,RV,RH,↓reduceIte,qE,reduceCtorEq,if_pos,↓RS,RG,qA,qM,qL,ty7,ty9,yik,yil,zd4]
  apply hK;clear hK K
  refine W.seq ?_
  refine W.r fun K hK=>?_
  simp(disch:=omega)only[↓RU,RV,RH,↓reduceIte,qE,reduceCtorEq,if_pos,↓RS,RG,qA,qM,qL,zab,zaa,hrl]
  apply hK;clear hK K
  refine W.block ?_
  refine W.loop [0,3,15,16,17,4,6,22,23,24] (fun n vs S=>∃ (k vb vq t:Nat),n=nw - k∧k≤nw∧vs=[zb3 g rs,.loc 0 vo 0 nh,zeu g,.int .i64 nh,.int .i64 (i:Nat),.int .i64 (i:Nat),.ref 1 vb 0,eInts row,.int .i64 nw,.int .i64 (k:Nat)]∧S=stB o vo vb (zpj (row.take k)) vq t) nw ?_ ?_
  ·refine ⟨2,0,_,0,_,rfl,Nat.zero_le _,?_,rfl⟩
   simp [Env.put,Env.of,hrl]
  rintro n vs S - ⟨k,vb,vq,t,rfl,h_k,rfl,rfl⟩
  refine W.r fun K hK=>?_
  simp(disch:=omega)only[↓RU,RV,RH,↓reduceIte,qE,reduceCtorEq,if_pos,w64,↓RS,RG,qA,qM,qL,zaa]
  apply hK;clear hK K
  refine W.seq ?_
  refine W.cond rfl (fun h1=>?_) (fun h1=>?_)
  ·try simp only[RL]at h1
   obtain ⟨z,hzk,hzm⟩:=zaf (show k<row.length by omega)
   have hzb:=hrz z hzm
   have hul:=yd1 hzb.1
   refine W.skip ?_
   refine xn ?_
   refine W.seq ?_
   refine W.block ?_
   refine W.r fun K hK=>?_
   simp(disch:=omega)only[↓RU,RV,RH,↓reduceIte,qE,reduceCtorEq,if_pos,↓RS,RG,qA,qM,qL,zab,zaa,hzk]
   apply hK;clear hK K
   refine W.k fun K hK=>?_
   simp(disch:=omega)only[↓RU,RV,RH,↓reduceIte,qE,reduceCtorEq,if_pos,w64,w64,qN,↓RS,RG,qA,qM,qL,zaa,zd4,hul]
   refine zad.ev (zpe (by rw [zvz,List.length_take]; omega) (z59 z)) ?_
   rintro _ _ ⟨rfl,vq2,t2,rfl⟩
   simp(disch:=omega)only[↓RU,RV,RH,↓reduceIte,qE,reduceCtorEq,if_pos,w64,w64,qN,↓RS,RG,qA,qM,qL,zaa,zd4,hul]
   apply hK;clear hK K
   refine XbN ?_
   refine xn ?_
   refine W.k fun K hK=>?_
   simp(disch:=omega)only[↓RU,RV,RH,↓reduceIte,qE,reduceCtorEq,if_pos,w64,↓RS,RG,qA,qM,qL,zaa]
   apply hK;clear hK K
   refine xn ?_
   refine ⟨nw - (k+1),by omega,_,k+1,vb,vq2,t2,rfl,by omega,?_,by rw [zy3 hzk]; exact zah⟩
   simp [Env.put,Env.of]
  try simp only[RL]at h1
  obtain rfl:nw=k:=by omega
  refine W.exit ?_
  refine xe ?_
  refine xe ?_
  refine XBlock.hit ?_
  refine xn ?_
  refine W.k fun K hK=>?_
  have htk:row.take nw=row:=qT (by omega)
  rw [htk]
  have hne:=z9d (row:=row) (by omega)
  simp(disch:=omega)only[↓RU,RV,RH,↓reduceIte,qE,reduceCtorEq,if_pos,qN,↓RS,RG,qA,qM,qL,ty6,zac,hol,zbo,zl0]
  refine zad.ev (zsx hne) ?_
  rintro _ _ ⟨rfl,rfl⟩
  simp(disch:=omega)only[↓RU,RV,RH,↓reduceIte,qE,reduceCtorEq,if_pos,qN,↓RS,RG,qA,qM,qL,ty6,zac,hol,zbo,zl0]
  apply hK;clear hK K
  refine XbN ?_
  refine xn ?_
  refine W.k fun K hK=>?_
  simp(disch:=omega)only[↓RU,RV,RH,↓reduceIte,qE,reduceCtorEq,if_pos,w64,↓RS,RG,qA,qM,qL,zaa]
  apply hK;clear hK K
  refine xn ?_
  refine ⟨nh - (i+1),by omega,1,i+1,vo,t,o.set i (zpj row),rfl,by omega,by simp [hol],?_,?_,?_⟩
  ·intro j hj
   by_cases e:j=i
   ·subst e; rw [zkw hrow,List.getElem?_set,if_pos rfl,if_pos (by omega)]
   rw [List.getElem?_set,if_neg (Ne.symm e)]; exact hdone j (by omega)
  ·simp [Env.put,Env.of]
  simp [zay]
 try simp only[RL]at h
 obtain rfl:nh=i:=by omega
 refine W.exit ?_
 refine xe ?_
 refine xe ?_
 refine XBlock.hit ?_
 refine xn ?_
 refine W.r fun K hK=>?_
 simp(disch:=omega)only[↓RU,RV,RH,↓reduceIte,qE,reduceCtorEq,if_pos,↓RS,RG,qA,qM,qL]
 apply hK;clear hK K
 refine W.ret ?_
 refine Br rfl ?_
 have hdo:=zzj (by omega) (fun j hj=>hdone j (by omega))
 subst hdo
 exact zzb rfl (z9r _)
def zfk (w:List Int) (q:List Txt):Bool:=decide ((rP q).length=w.length) && (zc0 q && decide (zd3 q=w))
theorem yb7 {k r d:Nat} (l:List Txt):(l.map PV.str).mapM (sf k r (d+1))=some (l.map PV.str):=zbm fun x hx=>by obtain ⟨a,_,rfl⟩:=List.mem_map.1 hx; rfl
theorem yc2 {w:List Int} {l r2:Nat} {r:Loop}:zr7 3 r2 [.arr 1 22 1 [.nils],.arr 2 4 1 [.bool false],.lp 3 l (r,[5,6,7]) [.ip [eInts w] 0,.ref 0 1 0,.ref 1 2 0]]=some [.arr 1 22 1 [.nils],.arr 2 4 1 [.bool false],.lp 3 l (r,[5,6,7]) [.ip [eInts w] 0,.ref 0 1 0,.ref 1 2 0]]:=by
 simp only[zr7,z3q]
 rfl
theorem z6w {w:List Int} {l r2 x:Nat} {r:Loop} {q:List Txt}:zr7 3 r2 ([.arr 1 22 1 [.loc (3+0) x 0 q.length],.arr 2 4 1 [.bool true],.lp 3 l ({ r with state := .done,pending:=some .ret },[5,6,7]) [.ip [eInts w] 0,.ref 0 1 0,.ref 1 2 0]]++[.arr x 9 1 (q.map .str)])=some ([.arr 1 22 1 [.loc (3+r2) x 0 q.length],.arr 2 4 1 [.bool true],.lp 3 l ({ r with state := .done,pending:=some .ret },[5,6,7]) [.ip [eInts w] 0,.ref 0 1 0,.ref 1 2 0]]++[.arr x 9 1 (q.map .str)]):=by
 simp only[zr7,z3q,List.cons_append,List.nil_append,yb7]
 simp [sf]
theorem yg9 {a b c:Ob} {x t n:Nat} {J:List Ob} {q:List Txt} (ha:a = .arr 1 22 1 [.loc (3+J.length) x 0 n]) (hb:b = .arr 2 4 1 [.bool true]) :
  Store.rn ⟨a::b::c::(J++[.arr x 9 1 (q.map .str)]),t⟩ 0 [3+J.length,0,1]=some ⟨[.arr t 9 1 (q.map .str),.arr t 22 1 [.loc 0 t 0 n],.arr t 4 1 [.bool true]],t+1⟩:=by
 subst ha hb
 have e0:(a2:Ob)→(b2:Ob)→(a2::b2::c::(J++[.arr x 9 1 (q.map .str)]))[3+J.length]?=some (.arr x 9 1 (q.map .str)):=fun a2 b2=>by
  rw [show 3+J.length=J.length+1+1+1 by omega,List.getElem?_cons_succ,List.getElem?_cons_succ,List.getElem?_cons_succ,List.getElem?_append_right (qR _),Nat.sub_self]; rfl
 have e1:∀ S:Store,(q.map PV.str).mapM (rn S 0 [3+J.length,0,1] 10)=some (q.map PV.str):=fun S=>zbm fun y hy=>by obtain ⟨z,_,rfl⟩:=List.mem_map.1 hy; rfl
 have n0:¬ (3+J.length=0):=by omega
 have n1:¬ (3+J.length=1):=by omega
 unfold Store.rn
 rw [if_pos (by simp; omega)]
 simp only[List.range_zero,zpi,e0,Option.bind_some,z3f,e1,List.getElem?_cons_zero,List.getElem?_cons_succ,qO]
 simp [rn,e0,rfq]
theorem yeh {t n:Nat} {o:Ob}:zrt tab ⟨[o,.arr t 22 1 [.loc 0 t 0 n],.arr t 4 1 [.bool true]],t+1⟩ (Env.of [6,7] [.ref 1 t 0,.ref 2 t 0]) [.cell 6 22,.cell 7 4]=some (.tup [.loc 0 t 0 n,.bool true]):=by
 have e1:∀ v:PV,zjq (tab 22) [v] 0=some v:=fun _=>rfl
 have e2:∀ v:PV,zjq (tab 4) [v] 0=some v:=fun _=>rfl
 simp [zrt,zj1,zub,Env.of,zsq,Store.cellsOf,e1,e2]
theorem yei {v1 v2 e1 e2 s1 s2 t j:Nat} {c1 c2:List PV} {R:List Ob}:[PV.ref 0 v1 0,PV.ref 1 v2 0].mapM (rn ⟨.arr v1 e1 s1 c1 :: .arr v2 e2 s2 c2::R,t⟩ 0 [3+j,0,1] 10)=some [.ref 1 t 0,.ref 2 t 0]:=by
 have n0:(3+j == 0)=false:=by rw [beq_eq_false_iff_ne]; omega
 have n1:(3+j == 1)=false:=by rw [beq_eq_false_iff_ne]; omega
 simp [rn,List.idxOf_cons,n0,n1]
theorem yax {a b:Int} {w:List Int} (hw:w.length≤1048576) (hv:(zjh a b && zgz w)=false):PC Tryz.prog 17 [.int .i64 a,.int .i64 b,eInts w] (.tup [.sl [] 0,.bool false]) true:=by
 refine PC.ofV ⟨Tryz.func17,by kernel_rfl,rfl,by kernel_rfl⟩ zao mixed (by show 3≤Tryz.f17.ntmps; decide) ?_
 refine V.seq_region fun K hK=>?_
 simp(disch:=omega)only[↓RU,RV,RH,↓reduceIte,qE,reduceCtorEq,if_pos,↓RS,RG,qA,qM,qL,zab,ty6,zam,zaa,zac]
 apply hK;clear hK K
 refine V.seq ?_
 refine W.v ?_
 refine W.r fun K hK=>?_
 cases hc:zjh a b
 ·skip
  simp(disch:=omega)only[↓RU,RV,RH,↓reduceIte,qE,reduceCtorEq,if_pos,qN,↓RS,RG,qA,qM,qL,zab,zaa,hc]
  refine zad.pc (zit a b) rfl (.inl rfl) ?_
  simp(disch:=omega)only[↓RU,RV,RH,↓reduceIte,qE,reduceCtorEq,if_pos,qN,↓RS,RG,qA,qM,qL,zab,zaa,hc]
  apply hK;clear hK K
  refine W.cond rfl (fun h0=>?_) (fun h0=>?_)
  ·try simp only[RL]at h0
   refine W.r fun K hK=>?_
   simp(disch:=omega)only[↓RU,RV,RH,↓reduceIte,qE,reduceCtorEq,if_pos,↓RS,RG,qA,qM,qL,ty6,zam,zac]
   apply hK;clear hK K
   refine W.ret ?_
   refine XThen.ret ?_
   refine Br rfl ?_
   rfl
  try simp only[RL]at h0
  exact absurd h0 (by simp)
 skip
 have hp:zgz w=false:=by rw [hc,Bool.true_and]at hv; exact hv
 simp(disch:=omega)only[↓RU,RV,RH,↓reduceIte,qE,reduceCtorEq,if_pos,qN,↓RS,RG,qA,qM,qL,zab,zaa,hc,hp]
 refine zad.pc (zit a b) rfl (.inl rfl) ?_
 simp(disch:=omega)only[↓RU,RV,RH,↓reduceIte,qE,reduceCtorEq,if_pos,qN,↓RS,RG,qA,qM,qL,zab,zaa,hc,hp]
 refine zad.pc (zvn (l:=w) (by omega)) rfl (.inl rfl) ?_
 simp(disch:=omega)only[↓RU,RV,RH,↓reduceIte,qE,reduceCtorEq,if_pos,qN,↓RS,RG,qA,qM,qL,zab,zaa,hc,hp]
 apply hK;clear hK K
 refine W.cond rfl (fun h0=>?_) (fun h0=>?_)
 ·try simp only[RL]at h0
  refine W.r fun K hK=>?_
  simp(disch:=omega)only[↓RU,RV,RH,↓reduceIte,qE,reduceCtorEq,if_pos,↓RS,RG,qA,qM,qL,ty6,zam,zac]
  apply hK;clear hK K
  refine W.ret ?_
  refine XThen.ret ?_
  refine Br rfl ?_
  rfl
 try simp only[RL]at h0
 exact absurd h0 (by simp)
theorem z39 {n m:Nat} {w:List Int} (hc:zjh n m=true) (hp:zgz w=true) (h1:1≤n) (h2:n≤6) (h3:1≤m) (h4:m≤6) (h9:n*m≤9) (hF:(zfi n m).find? (zfk w)=none):PC Tryz.prog 17 [.int .i64 n,.int .i64 m,eInts w] (.tup [.sl [] 0,.bool false]) true:=by
 have hw7:w.length≤7:=by unfold zgz at hp; simp only[qB,decide_eq_true_eq]at hp; exact hp.1.2
 refine PC.ofV ⟨Tryz.func17,by kernel_rfl,rfl,by kernel_rfl⟩ zao mixed (by show 3≤Tryz.f17.ntmps; decide) ?_
 refine V.seq_boxZ [0,1,2,5] rfl fun K hK=>?_
 simp(disch:=omega)only[↓RU,RV,RH,↓reduceIte,qE,reduceCtorEq,if_pos,↓RS,RG,qA,qM,qL,zab,ty6,zam,zaa,zac]
 refine ⟨0,[.int .i64 n,.int .i64 m,eInts w,.ip [eInts w] 0],⟨[],1⟩,rfl,rfl,?_⟩
 simp(disch:=omega)only[↓RU,RV,RH,↓reduceIte,qE,reduceCtorEq,if_pos,↓RS,RG,qA,qM,qL,zab,ty6,zam,zaa,zac]
 apply hK;clear hK K
 refine V.seq ?_
 refine W.v ?_
 refine W.r fun K hK=>?_
 simp(disch:=omega)only[↓RU,RV,RH,↓reduceIte,qE,reduceCtorEq,if_pos,qN,↓RS,RG,qA,qM,qL,zab,zaa,hc,hp]
 refine zad.pc (zit n m) rfl (.inl rfl) ?_
 simp(disch:=omega)only[↓RU,RV,RH,↓reduceIte,qE,reduceCtorEq,if_pos,qN,↓RS,RG,qA,qM,qL,zab,zaa,hc,hp]
 refine zad.pc (zvn (l:=w) (by omega)) rfl (.inl rfl) ?_
 simp(disch:=omega)only[↓RU,RV,RH,↓reduceIte,qE,reduceCtorEq,if_pos,qN,↓RS,RG,qA,qM,qL,zab,zaa,hc,hp]
 apply hK;clear hK K
 refine W.cond rfl (fun h0=>?_) (fun h0=>?_)
 ·try simp only[RL]at h0
  exact absurd h0 (by simp)
 try simp only[RL]at h0
 refine W.skip ?_
 refine xn ?_
 refine V.seq ?_
 refine V.seq_region fun K hK=>?_
 simp(disch:=omega)only[↓RU,RV,RH,↓reduceIte,qE,reduceCtorEq,if_pos,qN,↓RS,RG,qA,qM,qL]
 refine zad.pc (zou _ _) rfl (.inr rfl) ?_
 simp(disch:=omega)only[↓RU,RV,RH,↓reduceIte,qE,reduceCtorEq,if_pos,qN,↓RS,RG,qA,qM,qL]
 apply hK;clear hK K
 refine V.block ?_
 refine V.rangeFuncK [5,6,7] rfl fun l r hr hst hpd=>?_
 have hrr:({ r with state := .ready,pending:=none }:Loop)=r:=by cases r; simp only at hst hpd; subst hst; subst hpd; rfl
 refine ⟨_,zxe (σ:=Unit) (lb:=l) (k:=3) (pre:=fun _=>[.arr 1 22 1 [.nils],.arr 2 4 1 [.bool false],.lp 3 l (r,[5,6,7]) [.ip [eInts w] 0,.ref 0 1 0,.ref 1 2 0]]) (fin:=fun r2 q x=>([.arr 1 22 1 [.loc (3+r2) x 0 q.length],.arr 2 4 1 [.bool true],.lp 3 l ({ r with state := .done,pending:=some .ret },[5,6,7]) [.ip [eInts w] 0,.ref 0 1 0,.ref 1 2 0]],[.arr x 9 1 (q.map .str)])) (stop:=zfk w) (nxt:=fun _ _=>()) ⟨fun _=>rfl,fun _ _ _=>rfl,fun _ q t hq hsh=>?_,fun _ _=>yc2,fun _ _=>⟨trivial,trivial,⟨rfl,rfl,rfl,rfl⟩,trivial⟩,fun _ _ _=>⟨trivial,trivial,⟨rfl,rfl,rfl,rfl⟩,trivial,trivial⟩,fun _ _ _=>z6w⟩ h1 h2 h3 h4 h9 () _,?_⟩
 ·refine Ey.of (o:=2) zao mixed rfl hr hst rfl ?_
  change W _ _ _ _ (Env.put (Env.of [5,6,7] [.ip [eInts w] 0,.ref 0 1 0,.ref 1 2 0]) (some 21) (zb3 (gP q) (rP q))) _
  refine W.k fun K hK=>?_
  simp(disch:=omega)only[↓RU,RV,RH,↓reduceIte,qE,reduceCtorEq,if_pos,↓RS,RG,qA,qM,qL]
  apply hK;clear hK K
  refine xn ⟨_,_,_,_,rfl,hst,?_⟩
  simp only[List.set_cons_succ,List.set_cons_zero]
  refine W.block ?_
  refine W.seq_draw (by kernel_rfl) fun K hK=>?_
  rcases (show (rP q).length≠w.length∨((rP q).length=w.length∧zc0 q=false)∨((rP q).length=w.length∧zc0 q=true∧zd3 q=w)∨((rP q).length=w.length∧zc0 q=true∧zd3 q≠w) by by_cases e0:(rP q).length=w.length <;> cases zc0 q <;> by_cases e:zd3 q=w <;> simp [e0,e]) with hq0 | ⟨hq0,hq1⟩ | ⟨hq0,hq1,hq2⟩ | ⟨hq0,hq1,hq2⟩
  ·skip
   have hgd:zfk w q=false:=by unfold zfk; rw [decide_eq_false hq0,Bool.false_and]
   have hle:(((rP q).length:Int) == (w.length:Int))=false:=by rw [beq_eq_false_iff_ne]; omega
   simp(disch:=omega)only[↓RU,RV,RH,↓reduceIte,qE,reduceCtorEq,if_pos,w64,qN,↓RS,RG,qA,qM,qL,ty1,ty4,zab,zdz,zb7,zc5,zaa,zd0,zc6,hle]
   apply hK;clear hK K
   refine W.cond rfl (fun h8=>?_) (fun h8=>?_)
   ·try simp only[RL]at h8
    exact absurd h8 (by simp)
   try simp only[RL]at h8
   refine W.skip ?_
   refine XbN ?_
   exact ⟨_,_,_,_,3,rfl,by rw [hgd]; rfl,_,by rw [hgd,if_neg (by simp)]; exact congrArg (fun r=>(⟨[_,_,.lp 3 l (r,[5,6,7]) _],_⟩:Store)) hrr⟩
  ·skip
   have hqp:=zg9 (zhv hq) (rP q)
   rw [zig hq,hq1]at hqp
   have hgd:zfk w q=false:=by unfold zfk; rw [hq1,Bool.false_and,Bool.and_false]
   have hle:(((rP q).length:Int) == (w.length:Int))=true:=by rw [beq_iff_eq]; omega
   simp(disch:=omega)only[↓RU,RV,RH,↓reduceIte,qE,reduceCtorEq,if_pos,w64,qN,↓RS,RG,qA,qM,qL,ty1,ty4,zab,zdz,zb7,zc5,zaa,zd0,zc6,hle]
   refine zad.pc (hqp) rfl (.inl rfl) ?_
   simp(disch:=omega)only[↓RU,RV,RH,↓reduceIte,qE,reduceCtorEq,if_pos,w64,qN,↓RS,RG,qA,qM,qL,ty1,ty4,zab,zdz,zb7,zc5,zaa,zd0,zc6,hle]
   apply hK;clear hK K
   refine W.cond rfl (fun h8=>?_) (fun h8=>?_)
   ·try simp only[RL]at h8
    exact absurd h8 (by simp)
   try simp only[RL]at h8
   refine W.skip ?_
   refine XbN ?_
   exact ⟨_,_,_,_,3,rfl,by rw [hgd]; rfl,_,by rw [hgd,if_neg (by simp)]; exact congrArg (fun r=>(⟨[_,_,.lp 3 l (r,[5,6,7]) _],_⟩:Store)) hrr⟩
  ·skip
   have hqp:=zg9 (zhv hq) (rP q)
   rw [zig hq,hq1]at hqp
   obtain ⟨qrm,-,-⟩:=ziy hq1
   have qok:=(zhc hq1).1
   have q9:=zge qok
   have hQ:=zjx (g:=gP q) (zo2 qok) (rs:=rP q) rfl q9 qrm
   rw [z4x,z33]at hQ
   have ql:=zfq (p:=q)
   have hde:decide (zd3 q=w)=true:=decide_eq_true hq2
   have hgd:zfk w q=true:=by unfold zfk; rw [decide_eq_true hq0,hq1,hde]; rfl
   have hle:(((rP q).length:Int) == (w.length:Int))=true:=by rw [beq_iff_eq]; omega
   simp(disch:=omega)only[↓RU,RV,RH,↓reduceIte,qE,reduceCtorEq,if_pos,w64,qN,↓RS,RG,qA,qM,qL,ty1,ty4,zab,zdz,zb7,zc5,zaa,zd0,zc6,hle,hde]
   refine zad.pc (hqp) rfl (.inl rfl) ?_
   simp(disch:=omega)only[↓RU,RV,RH,↓reduceIte,qE,reduceCtorEq,if_pos,w64,qN,↓RS,RG,qA,qM,qL,ty1,ty4,zab,zdz,zb7,zc5,zaa,zd0,zc6,hle,hde]
   refine zad.pc (hQ) rfl (.inl rfl) ?_
   simp(disch:=omega)only[↓RU,RV,RH,↓reduceIte,qE,reduceCtorEq,if_pos,w64,qN,↓RS,RG,qA,qM,qL,ty1,ty4,zab,zdz,zb7,zc5,zaa,zd0,zc6,hle,hde]
   refine zad.pc (zrp hq1) rfl (.inl rfl) ?_
   simp(disch:=omega)only[↓RU,RV,RH,↓reduceIte,qE,reduceCtorEq,if_pos,w64,qN,↓RS,RG,qA,qM,qL,ty1,ty4,zab,zdz,zb7,zc5,zaa,zd0,zc6,hle,hde]
   refine zad.pc (zhr (p:=zd3 q) (q:=w) (by omega) (by omega)) rfl (.inl rfl) ?_
   simp(disch:=omega)only[↓RU,RV,RH,↓reduceIte,qE,reduceCtorEq,if_pos,w64,qN,↓RS,RG,qA,qM,qL,ty1,ty4,zab,zdz,zb7,zc5,zaa,zd0,zc6,hle,hde]
   apply hK;clear hK K
   refine W.cond rfl (fun h8=>?_) (fun h8=>?_)
   ·try simp only[RL]at h8
    refine W.r fun K hK=>?_
    have htx:=zun (zhv hq) (rP q) (zrd qok)
    rw [(zds hq).ht]at htx
    simp(disch:=omega)only[↓RU,RV,RH,↓reduceIte,qE,reduceCtorEq,if_pos,qN,↓RS,RG,qA,qM,qL,ty6,zam,zac]
    refine zad.pn (htx) rfl (.inr rfl) ?_
    simp(disch:=omega)only[↓RU,RV,RH,↓reduceIte,qE,reduceCtorEq,if_pos,qN,↓RS,RG,qA,qM,qL,ty6,zam,zac,RN]
    apply hK;clear hK K
    refine W.ret ?_
    refine XBlock.ret ?_
    exact ⟨_,_,_,_,4,rfl,by rw [hgd]; rfl,_,by rw [hgd,if_pos rfl]; exact ⟨_,rfl⟩⟩
   try simp only[RL]at h8
   exact absurd h8 (by simp)
  skip
  have hqp:=zg9 (zhv hq) (rP q)
  rw [zig hq,hq1]at hqp
  obtain ⟨qrm,-,-⟩:=ziy hq1
  have qok:=(zhc hq1).1
  have q9:=zge qok
  have hQ:=zjx (g:=gP q) (zo2 qok) (rs:=rP q) rfl q9 qrm
  rw [z4x,z33]at hQ
  have ql:=zfq (p:=q)
  have hde:decide (zd3 q=w)=false:=decide_eq_false hq2
  have hgd:zfk w q=false:=by unfold zfk; rw [hq1,hde,Bool.true_and,Bool.and_false]
  have hle:(((rP q).length:Int) == (w.length:Int))=true:=by rw [beq_iff_eq]; omega
  simp(disch:=omega)only[↓RU,RV,RH,↓reduceIte,qE,reduceCtorEq,if_pos,w64,qN,↓RS,RG,qA,qM,qL,ty1,ty4,zab,zdz,zb7,zc5,zaa,zd0,zc6,hle,hde]
  refine zad.pc (hqp) rfl (.inl rfl) ?_
  simp(disch:=omega)only[↓RU,RV,RH,↓reduceIte,qE,reduceCtorEq,if_pos,w64,qN,↓RS,RG,qA,qM,qL,ty1,ty4,zab,zdz,zb7,zc5,zaa,zd0,zc6,hle,hde]
  refine zad.pc (hQ) rfl (.inl rfl) ?_
  simp(disch:=omega)only[↓RU,RV,RH,↓reduceIte,qE,reduceCtorEq,if_pos,w64,qN,↓RS,RG,qA,qM,qL,ty1,ty4,zab,zdz,zb7,zc5,zaa,zd0,zc6,hle,hde]
  refine zad.pc (zrp hq1) rfl (.inl rfl) ?_
  simp(disch:=omega)only[↓RU,RV,RH,↓reduceIte,qE,reduceCtorEq,if_pos,w64,qN,↓RS,RG,qA,qM,qL,ty1,ty4,zab,zdz,zb7,zc5,zaa,zd0,zc6,hle,hde]
  refine zad.pc (zhr (p:=zd3 q) (q:=w) (by omega) (by omega)) rfl (.inl rfl) ?_
  simp(disch:=omega)only[↓RU,RV,RH,↓reduceIte,qE,reduceCtorEq,if_pos,w64,qN,↓RS,RG,qA,qM,qL,ty1,ty4,zab,zdz,zb7,zc5,zaa,zd0,zc6,hle,hde]
  apply hK;clear hK K
  refine W.cond rfl (fun h8=>?_) (fun h8=>?_)
  ·try simp only[RL]at h8
   exact absurd h8 (by simp)
  try simp only[RL]at h8
  refine W.skip ?_
  refine XbN ?_
  exact ⟨_,_,_,_,3,rfl,by rw [hgd]; rfl,_,by rw [hgd,if_neg (by simp)]; exact congrArg (fun r=>(⟨[_,_,.lp 3 l (r,[5,6,7]) _],_⟩:Store)) hrr⟩
 rintro v S2 hA
 skip
 rw [ygn,hF]at hA
 obtain ⟨t2,rfl⟩:=hA
 refine ⟨_,_,_,_,.normal,rfl,by rw [hst]; simp,by rw [hpd]; rfl,.inl ?_⟩
 change XBlock _ _ _ _ ⟨[_,_,_],_⟩
 refine XbN ?_
 refine xn ?_
 refine W.v ?_
 refine W.r fun K hK=>?_
 simp(disch:=omega)only[↓RU,RV,RH,↓reduceIte,qE,reduceCtorEq,if_pos,↓RS,RG,qA,qM,qL,ty6,zam,zac]
 apply hK;clear hK K
 refine W.ret ?_
 refine Br rfl ?_
 rfl
theorem yfx {S:Store} {im:Bool} {v et n:Nat} {b:Bool} {cells:List PV} {R:List Ob} (hS:S.obs = .arr v et 1 cells::R) (hc:cells.mapM (sh (S.take 1) im 10)=some cells):∃ k,sh (S.take k) im 10 (.tup [.loc 0 v 0 n,.bool b])=some (.tup [.loc 0 0 0 n,.bool b])∧zf5 (S.take k) im (S.take k).obs=some [.arr 0 et 1 cells]:=by
 refine ⟨1,?_,?_⟩
 ·simp [sh,Store.take,hS]
 simp only[Store.take,hS]at hc ⊢
 simp only[List.take_succ_cons,List.take_zero]at hc ⊢
 simp only[zf5,zy9,hc,qO,Option.bind_some]
theorem z4a {n m:Nat} {w:List Int} (hc:zjh n m=true) (hp:zgz w=true) (h1:1≤n) (h2:n≤6) (h3:1≤m) (h4:m≤6) (h9:n*m≤9) {qz:List Txt} (hF:(zfi n m).find? (zfk w)=some qz):PN Tryz.prog 17 [.int .i64 n,.int .i64 m,eInts w] (.tup [.loc 0 0 0 qz.length,.bool true]) [.arr 0 9 1 (qz.map .str)] false:=by
 have hw7:w.length≤7:=by unfold zgz at hp; simp only[qB,decide_eq_true_eq]at hp; exact hp.1.2
 refine PN.ofV ⟨Tryz.func17,by kernel_rfl,rfl,by kernel_rfl⟩ zao mixed (by show 3≤Tryz.f17.ntmps; decide) ?_
 refine V.seq_boxZ [0,1,2,5] rfl fun K hK=>?_
 simp(disch:=omega)only[↓RU,RV,RH,↓reduceIte,qE,reduceCtorEq,if_pos,↓RS,RG,qA,qM,qL,zab,ty6,zam,zaa,zac]
 refine ⟨0,[.int .i64 n,.int .i64 m,eInts w,.ip [eInts w] 0],⟨[],1⟩,rfl,rfl,?_⟩
 simp(disch:=omega)only[↓RU,RV,RH,↓reduceIte,qE,reduceCtorEq,if_pos,↓RS,RG,qA,qM,qL,zab,ty6,zam,zaa,zac]
 apply hK;clear hK K
 refine V.seq ?_
 refine W.v ?_
 refine W.r fun K hK=>?_
 simp(disch:=omega)only[↓RU,RV,RH,↓reduceIte,qE,reduceCtorEq,if_pos,qN,↓RS,RG,qA,qM,qL,zab,zaa,hc,hp]
 refine zad.pc (zit n m) rfl (.inl rfl) ?_
 simp(disch:=omega)only[↓RU,RV,RH,↓reduceIte,qE,reduceCtorEq,if_pos,qN,↓RS,RG,qA,qM,qL,zab,zaa,hc,hp]
 refine zad.pc (zvn (l:=w) (by omega)) rfl (.inl rfl) ?_
 simp(disch:=omega)only[↓RU,RV,RH,↓reduceIte,qE,reduceCtorEq,if_pos,qN,↓RS,RG,qA,qM,qL,zab,zaa,hc,hp]
 apply hK;clear hK K
 refine W.cond rfl (fun h0=>?_) (fun h0=>?_)
 ·try simp only[RL]at h0
  exact absurd h0 (by simp)
 try simp only[RL]at h0
 refine W.skip ?_
 refine xn ?_
 refine V.seq ?_
 refine V.seq_region fun K hK=>?_
 simp(disch:=omega)only[↓RU,RV,RH,↓reduceIte,qE,reduceCtorEq,if_pos,qN,↓RS,RG,qA,qM,qL]
 refine zad.pc (zou _ _) rfl (.inr rfl) ?_
 simp(disch:=omega)only[↓RU,RV,RH,↓reduceIte,qE,reduceCtorEq,if_pos,qN,↓RS,RG,qA,qM,qL]
 apply hK;clear hK K
 refine V.block ?_
 refine V.rangeFuncK [5,6,7] rfl fun l r hr hst hpd=>?_
 have hrr:({ r with state := .ready,pending:=none }:Loop)=r:=by cases r; simp only at hst hpd; subst hst; subst hpd; rfl
 refine ⟨_,zxe (σ:=Unit) (lb:=l) (k:=3) (pre:=fun _=>[.arr 1 22 1 [.nils],.arr 2 4 1 [.bool false],.lp 3 l (r,[5,6,7]) [.ip [eInts w] 0,.ref 0 1 0,.ref 1 2 0]]) (fin:=fun r2 q x=>([.arr 1 22 1 [.loc (3+r2) x 0 q.length],.arr 2 4 1 [.bool true],.lp 3 l ({ r with state := .done,pending:=some .ret },[5,6,7]) [.ip [eInts w] 0,.ref 0 1 0,.ref 1 2 0]],[.arr x 9 1 (q.map .str)])) (stop:=zfk w) (nxt:=fun _ _=>()) ⟨fun _=>rfl,fun _ _ _=>rfl,fun _ q t hq hsh=>?_,fun _ _=>yc2,fun _ _=>⟨trivial,trivial,⟨rfl,rfl,rfl,rfl⟩,trivial⟩,fun _ _ _=>⟨trivial,trivial,⟨rfl,rfl,rfl,rfl⟩,trivial,trivial⟩,fun _ _ _=>z6w⟩ h1 h2 h3 h4 h9 () _,?_⟩
 ·refine Ey.of (o:=2) zao mixed rfl hr hst rfl ?_
  change W _ _ _ _ (Env.put (Env.of [5,6,7] [.ip [eInts w] 0,.ref 0 1 0,.ref 1 2 0]) (some 21) (zb3 (gP q) (rP q))) _
  refine W.k fun K hK=>?_
  simp(disch:=omega)only[↓RU,RV,RH,↓reduceIte,qE,reduceCtorEq,if_pos,↓RS,RG,qA,qM,qL]
  apply hK;clear hK K
  refine xn ⟨_,_,_,_,rfl,hst,?_⟩
  simp only[List.set_cons_succ,List.set_cons_zero]
  refine W.block ?_
  refine W.seq_draw (by kernel_rfl) fun K hK=>?_
  rcases (show (rP q).length≠w.length∨((rP q).length=w.length∧zc0 q=false)∨((rP q).length=w.length∧zc0 q=true∧zd3 q=w)∨((rP q).length=w.length∧zc0 q=true∧zd3 q≠w) by by_cases e0:(rP q).length=w.length <;> cases zc0 q <;> by_cases e:zd3 q=w <;> simp [e0,e]) with hq0 | ⟨hq0,hq1⟩ | ⟨hq0,hq1,hq2⟩ | ⟨hq0,hq1,hq2⟩
  ·skip
   have hgd:zfk w q=false:=by unfold zfk; rw [decide_eq_false hq0,Bool.false_and]
   have hle:(((rP q).length:Int) == (w.length:Int))=false:=by rw [beq_eq_false_iff_ne]; omega
   simp(disch:=omega)only[↓RU,RV,RH,↓reduceIte,qE,reduceCtorEq,if_pos,w64,qN,↓RS,RG,qA,qM,qL,ty1,ty4,zab,zdz,zb7,zc5,zaa,zd0,zc6,hle]
   apply hK;clear hK K
   refine W.cond rfl (fun h8=>?_) (fun h8=>?_)
   ·try simp only[RL]at h8
    exact absurd h8 (by simp)
   try simp only[RL]at h8
   refine W.skip ?_
   refine XbN ?_
   exact ⟨_,_,_,_,3,rfl,by rw [hgd]; rfl,_,by rw [hgd,if_neg (by simp)]; exact congrArg (fun r=>(⟨[_,_,.lp 3 l (r,[5,6,7]) _],_⟩:Store)) hrr⟩
  ·skip
   have hqp:=zg9 (zhv hq) (rP q)
   rw [zig hq,hq1]at hqp
   have hgd:zfk w q=false:=by unfold zfk; rw [hq1,Bool.false_and,Bool.and_false]
   have hle:(((rP q).length:Int) == (w.length:Int))=true:=by rw [beq_iff_eq]; omega
   simp(disch:=omega)only[↓RU,RV,RH,↓reduceIte,qE,reduceCtorEq,if_pos,w64,qN,↓RS,RG,qA,qM,qL,ty1,ty4,zab,zdz,zb7,zc5,zaa,zd0,zc6,hle]
   refine zad.pc (hqp) rfl (.inl rfl) ?_
   simp(disch:=omega)only[↓RU,RV,RH,↓reduceIte,qE,reduceCtorEq,if_pos,w64,qN,↓RS,RG,qA,qM,qL,ty1,ty4,zab,zdz,zb7,zc5,zaa,zd0,zc6,hle]
   apply hK;clear hK K
   refine W.cond rfl (fun h8=>?_) (fun h8=>?_)
   ·try simp only[RL]at h8
    exact absurd h8 (by simp)
   try simp only[RL]at h8
   refine W.skip ?_
   refine XbN ?_
   exact ⟨_,_,_,_,3,rfl,by rw [hgd]; rfl,_,by rw [hgd,if_neg (by simp)]; exact congrArg (fun r=>(⟨[_,_,.lp 3 l (r,[5,6,7]) _],_⟩:Store)) hrr⟩
  ·skip
   have hqp:=zg9 (zhv hq) (rP q)
   rw [zig hq,hq1]at hqp
   obtain ⟨qrm,-,-⟩:=ziy hq1
   have qok:=(zhc hq1).1
   have q9:=zge qok
   have hQ:=zjx (g:=gP q) (zo2 qok) (rs:=rP q) rfl q9 qrm
   rw [z4x,z33]at hQ
   have ql:=zfq (p:=q)
   have hde:decide (zd3 q=w)=true:=decide_eq_true hq2
   have hgd:zfk w q=true:=by unfold zfk; rw [decide_eq_true hq0,hq1,hde]; rfl
   have hle:(((rP q).length:Int) == (w.length:Int))=true:=by rw [beq_iff_eq]; omega
   simp(disch:=omega)only[↓RU,RV,RH,↓reduceIte,qE,reduceCtorEq,if_pos,w64,qN,↓RS,RG,qA,qM,qL,ty1,ty4,zab,zdz,zb7,zc5,zaa,zd0,zc6,hle,hde]
   refine zad.pc (hqp) rfl (.inl rfl) ?_
   simp(disch:=omega)only[↓RU,RV,RH,↓reduceIte,qE,reduceCtorEq,if_pos,w64,qN,↓RS,RG,qA,qM,qL,ty1,ty4,zab,zdz,zb7,zc5,zaa,zd0,zc6,hle,hde]
   refine zad.pc (hQ) rfl (.inl rfl) ?_
   simp(disch:=omega)only[↓RU,RV,RH,↓reduceIte,qE,reduceCtorEq,if_pos,w64,qN,↓RS,RG,qA,qM,qL,ty1,ty4,zab,zdz,zb7,zc5,zaa,zd0,zc6,hle,hde]
   refine zad.pc (zrp hq1) rfl (.inl rfl) ?_
   simp(disch:=omega)only[↓RU,RV,RH,↓reduceIte,qE,reduceCtorEq,if_pos,w64,qN,↓RS,RG,qA,qM,qL,ty1,ty4,zab,zdz,zb7,zc5,zaa,zd0,zc6,hle,hde]
   refine zad.pc (zhr (p:=zd3 q) (q:=w) (by omega) (by omega)) rfl (.inl rfl) ?_
   simp(disch:=omega)only[↓RU,RV,RH,↓reduceIte,qE,reduceCtorEq,if_pos,w64,qN,↓RS,RG,qA,qM,qL,ty1,ty4,zab,zdz,zb7,zc5,zaa,zd0,zc6,hle,hde]
   apply hK;clear hK K
   refine W.cond rfl (fun h8=>?_) (fun h8=>?_)
   ·try simp only[RL]at h8
    refine W.r fun K hK=>?_
    have htx:=zun (zhv hq) (rP q) (zrd qok)
    rw [(zds hq).ht]at htx
    simp(disch:=omega)only[↓RU,RV,RH,↓reduceIte,qE,reduceCtorEq,if_pos,qN,↓RS,RG,qA,qM,qL,ty6,zam,zac]
    refine zad.pn (htx) rfl (.inr rfl) ?_
    simp(disch:=omega)only[↓RU,RV,RH,↓reduceIte,qE,reduceCtorEq,if_pos,qN,↓RS,RG,qA,qM,qL,ty6,zam,zac,RN]
    apply hK;clear hK K
    refine W.ret ?_
    refine XBlock.ret ?_
    exact ⟨_,_,_,_,4,rfl,by rw [hgd]; rfl,_,by rw [hgd,if_pos rfl]; exact ⟨_,rfl⟩⟩
   try simp only[RL]at h8
   exact absurd h8 (by simp)
  skip
  have hqp:=zg9 (zhv hq) (rP q)
  rw [zig hq,hq1]at hqp
  obtain ⟨qrm,-,-⟩:=ziy hq1
  have qok:=(zhc hq1).1
  have q9:=zge qok
  have hQ:=zjx (g:=gP q) (zo2 qok) (rs:=rP q) rfl q9 qrm
  rw [z4x,z33]at hQ
  have ql:=zfq (p:=q)
  have hde:decide (zd3 q=w)=false:=decide_eq_false hq2
  have hgd:zfk w q=false:=by unfold zfk; rw [hq1,hde,Bool.true_and,Bool.and_false]
  have hle:(((rP q).length:Int) == (w.length:Int))=true:=by rw [beq_iff_eq]; omega
  simp(disch:=omega)only[↓RU,RV,RH,↓reduceIte,qE,reduceCtorEq,if_pos,w64,qN,↓RS,RG,qA,qM,qL,ty1,ty4,zab,zdz,zb7,zc5,zaa,zd0,zc6,hle,hde]
  refine zad.pc (hqp) rfl (.inl rfl) ?_
  simp(disch:=omega)only[↓RU,RV,RH,↓reduceIte,qE,reduceCtorEq,if_pos,w64,qN,↓RS,RG,qA,qM,qL,ty1,ty4,zab,zdz,zb7,zc5,zaa,zd0,zc6,hle,hde]
  refine zad.pc (hQ) rfl (.inl rfl) ?_
  simp(disch:=omega)only[↓RU,RV,RH,↓reduceIte,qE,reduceCtorEq,if_pos,w64,qN,↓RS,RG,qA,qM,qL,ty1,ty4,zab,zdz,zb7,zc5,zaa,zd0,zc6,hle,hde]
  refine zad.pc (zrp hq1) rfl (.inl rfl) ?_
  simp(disch:=omega)only[↓RU,RV,RH,↓reduceIte,qE,reduceCtorEq,if_pos,w64,qN,↓RS,RG,qA,qM,qL,ty1,ty4,zab,zdz,zb7,zc5,zaa,zd0,zc6,hle,hde]
  refine zad.pc (zhr (p:=zd3 q) (q:=w) (by omega) (by omega)) rfl (.inl rfl) ?_
  simp(disch:=omega)only[↓RU,RV,RH,↓reduceIte,qE,reduceCtorEq,if_pos,w64,qN,↓RS,RG,qA,qM,qL,ty1,ty4,zab,zdz,zb7,zc5,zaa,zd0,zc6,hle,hde]
  apply hK;clear hK K
  refine W.cond rfl (fun h8=>?_) (fun h8=>?_)
  ·try simp only[RL]at h8
   exact absurd h8 (by simp)
  try simp only[RL]at h8
  refine W.skip ?_
  refine XbN ?_
  exact ⟨_,_,_,_,3,rfl,by rw [hgd]; rfl,_,by rw [hgd,if_neg (by simp)]; exact congrArg (fun r=>(⟨[_,_,.lp 3 l (r,[5,6,7]) _],_⟩:Store)) hrr⟩
 rintro v S2 hA
 skip
 rw [ygn,hF]at hA
 obtain ⟨t2,x,J,rfl⟩:=hA
 refine ⟨_,_,_,_,.ret,rfl,by simp,rfl,.inr ?_⟩
 simp only[List.cons_append,List.nil_append,List.length_cons,List.length_nil,Nat.zero_add,qA,List.set_cons_succ,List.set_cons_zero]
 refine ⟨[6,7],0,[3+J.length,0,1],[.ref 1 t2 0,.ref 2 t2 0],_,yei,yg9 (q:=qz) rfl rfl,?_⟩
 change XBlock _ _ _ _ ⟨[_,_,_],_⟩
 refine XBlock.ret ?_
 refine XThen.ret ?_
 refine Br yeh ?_
 exact yfx rfl (z9r _)
end Fw
end Go.Proofs.YtddhgiafpmghpaaGreat
