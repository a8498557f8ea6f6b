/- Plans have terms with their permutation: the law FnTermOf answers true for all codes. No condition. -/
import Derived.Test.YtcfgpmeebpinaaaGreatJ4
import Derived.Test.YtcfgpmeebpinaaaGreatJ3
import Derived.Test.YtcfgpmeebpinaaaGreatJ2
set_option linter.all false
namespace Go.Proofs.YtcfgpmeebpinaaaGreat
namespace Fw
open Go
open Nat renaming reduceEqDiff → qE, reduceLeDiff → qL, reduceAdd → qA, reduceMul → qM, le_refl → qR
open List renaming append_nil → qN, mapM_append → qP, mapM_cons → qC, mapM_map → qU, range_succ → qS, take_of_length_le → qT
open Bool renaming and_eq_true → qB, false_eq_true → qF
open Option renaming map_some → qO, map_eq_some_iff → qI
open Int renaming reduceToNat → qZ
theorem zaf {a b:Nat}:((a+b:Nat):Int) - (a:Int)=(b:Int):=by omega
theorem zzv {p:List Txt} (hp:zbs p=true):GW (gP p) p.length (zao p).length:=by
 rw [← zin]at hp
 simp only[zht,qB]at hp
 have:=z1u hp.1
 rwa [zh7]at this
theorem z94 {p:List Txt} (hp:zbs p=true) {t:Pt} (ht:t.In p.length (zao p).length) (l:Nat) (a b c d:Ob) (tk:Nat) (B C D:Bool × Nat→Ob)
  (hy:∀ q,zd2 (zak p) t=some q→∀ (x y:Ob) (tk2:Nat),tk≤tk2→Ey Tryz.prog l [z07 (gP p) (rP p) t q] ⟨[a,b,c,d,x,y],tk2⟩ fun v S=>v = .bool false∧∃ tk3,S=⟨[a,B q,C q,D q,x,y],tk3⟩):Ev Tryz.prog 153 [.yl l,.ip (zaz (gP p) (rP p)::t.rect.cells) 0] ⟨[a,b,c,d],tk⟩ fun v S=>(∃ tk2,zd2 (zak p) t=none∧S=⟨[a,b,c,d],tk2⟩)∨∃ q tk2,zd2 (zak p) t=some q∧S=⟨[a,B q,C q,D q],tk2⟩:=by
 have hsm:=zbl (zd7 hp)
 obtain ⟨t1,t2,t3,t4⟩:=id ht
 have hgw:=zzv hp
 obtain ⟨g1,g2,g3,g4⟩:=hgw.2.2
 simp only[Pt.rect,Rect.cells]
 refine Ev.of ⟨Tryz.func153,by kernel_rfl,rfl,by kernel_rfl⟩ zap mixed (by show 2≤Tryz.f153.ntmps; decide) ?_
 refine W.seq ?_
 refine W.r fun K hK=>?_
 simp(disch:=omega)only[↓RU,RV,RH,↓reduceIte,qE,reduceCtorEq,if_pos,w64,↓RS,RG,qA,qM,qL,ty8,zch,za5,zaa,zci,za6,zaf]
 apply hK;clear hK K
 refine W.block ?_
 refine W.loop [0,1,3] (fun n vs S=>∃ k tk2:Nat,n=t.w - k∧1≤k∧k≤t.w∧(∀ j,1≤j→j<k→thU (zak p) t j=false)∧tk≤tk2∧vs=[.yl l,.ip [zaz (gP p) (rP p),.int .i64 t.r,.int .i64 t.c,.int .i64 t.h,.int .i64 t.w] 0,.int .i64 ((t.c+k:Nat):Int)]∧S=⟨[a,b,c,d],tk2⟩) (t.w - 1) ?_ ?_
 ·refine ⟨4,1,_,rfl,by omega,by omega,fun j _ _=>by omega,qR _,?_,rfl⟩
  simp [Env.put,Env.of,zae]
 rintro n vs S - ⟨k,tk2,rfl,hk1,h_k,hall,htk,rfl,rfl⟩
 refine W.seq ?_
 refine W.r fun K hK=>?_
 simp(disch:=omega)only[↓RU,RV,RH,↓reduceIte,qE,reduceCtorEq,if_pos,w64,↓RS,RG,qA,qM,qL,ty8,zch,za5,zaa,zci,za6,zaf]
 apply hK;clear hK K
 refine W.cond rfl (fun h=>?_) (fun h=>?_)
 ·try simp only[RL]at h
  have hgu:=yhx hp ht hk1 (show k<t.w by omega)
  have e1:((t.w:Nat):Int) - ((k:Nat):Int)=((t.w - k:Nat):Int):=by omega
  refine W.skip ?_
  refine xn ?_
  refine W.seq ?_
  refine W.block ?_
  refine W.seq (W.draw_two (r1:=[_,_,_,_,_,_]) (r2:=[_,_,_,_,_,_]) [0,1,2,3,4,5] [0,1,3,2,4,5] [0,1] 2 3 1 rfl (by kernel_rfl) (by kernel_rfl) rfl rfl (fun K hK=>?_) (fun K hK=>?_))
  ·simp(disch:=omega)only[↓RU,RV,RH,↓reduceIte,qE,reduceCtorEq,if_pos,↓RS,RG,qA,qM,qL,ty8,zch,za5,zaa,zci,za6,zaf]
   apply hK;clear hK K
   refine xn ?_
   refine W.r fun K hK=>?_
   simp(disch:=omega)only[↓RU,RV,RH,↓reduceIte,qE,reduceCtorEq,if_pos,w64,↓RS,RG,qA,qM,qL,ty8,zch,za5,zaa,zci,za6,zaf]
   apply hK;clear hK K
   refine W.seq_pk 11 [some 34,some 35,some 36,some 37,some 38,some 39] [4] (by decide) (by kernel_rfl) fun K hK=>?_
   simp only[List.take_succ_cons,List.take_zero,List.drop_succ_cons,List.drop_zero]
   refine za1 rfl ?_
   simp(disch:=omega)only[↓RU,RV,RH,↓reduceIte,qE,reduceCtorEq,if_pos,w64,↓RS,RG,qA,qM,qL,ty8,zch,za5,zaa,zci,za6,zaf,e1,zam,zar]
   refine zat (.ip [zaz (gP p) (rP p),.int .i64 t.r,.int .i64 t.c,.int .i64 t.h,.int .i64 t.w] 1) rfl rfl rfl (fun S' hS=>?_) ?_
   ·skip
    have k4:=(hS 4 (by decide)).trans (show _=some _ from rfl)
    simp(disch:=omega)only[↓RU,RV,RH,↓reduceIte,qE,reduceCtorEq,if_pos,w64,↓RS,RG,qA,qM,qL,ty8,zch,za5,zaa,zci,za6,zaf,e1,zbx,zcv,zd8,zd9,k4]
   refine zat (.ip [zaz (gP p) (rP p),.int .i64 t.r,.int .i64 t.c,.int .i64 t.h,.int .i64 t.w] 4) rfl rfl rfl (fun S' hS=>?_) ?_
   ·skip
    have k4:=(hS 4 (by decide)).trans (show _=some _ from rfl)
    simp(disch:=omega)only[↓RU,RV,RH,↓reduceIte,qE,reduceCtorEq,if_pos,w64,↓RS,RG,qA,qM,qL,ty8,zch,za5,zaa,zci,za6,zaf,e1,zbx,zcv,zd8,zd9,k4]
   refine zat (.int .i64 t.w) rfl rfl rfl (fun S' hS=>?_) ?_
   ·skip
    have k4:=(hS 4 (by decide)).trans (show _=some _ from rfl)
    simp(disch:=omega)only[↓RU,RV,RH,↓reduceIte,qE,reduceCtorEq,if_pos,w64,↓RS,RG,qA,qM,qL,ty8,zch,za5,zaa,zci,za6,zaf,e1,zbx,zcv,zd8,zd9,k4]
   refine zat (.ref 4 tk2 1) rfl rfl rfl (fun S' hS=>?_) ?_
   ·skip
    have k4:=(hS 4 (by decide)).trans (show _=some _ from rfl)
    simp(disch:=omega)only[↓RU,RV,RH,↓reduceIte,qE,reduceCtorEq,if_pos,w64,↓RS,RG,qA,qM,qL,ty8,zch,za5,zaa,zci,za6,zaf,e1,zbx,zcv,zd8,zd9,k4]
   refine zat (.ref 4 tk2 4) rfl rfl rfl (fun S' hS=>?_) ?_
   ·skip
    have k4:=(hS 4 (by decide)).trans (show _=some _ from rfl)
    simp(disch:=omega)only[↓RU,RV,RH,↓reduceIte,qE,reduceCtorEq,if_pos,w64,↓RS,RG,qA,qM,qL,ty8,zch,za5,zaa,zci,za6,zaf,e1,zbx,zcv,zd8,zd9,k4]
   refine zat (.int .i64 k) rfl rfl rfl (fun S' hS=>?_) ?_
   ·skip
    have k4:=(hS 4 (by decide)).trans (show _=some _ from rfl)
    simp(disch:=omega)only[↓RU,RV,RH,↓reduceIte,qE,reduceCtorEq,if_pos,w64,↓RS,RG,qA,qM,qL,ty8,zch,za5,zaa,zci,za6,zaf,e1,zbx,zcv,zd8,zd9,k4]
   refine za1 rfl ?_
   simp(disch:=omega)only[↓RU,RV,RH,↓reduceIte,qE,reduceCtorEq,if_pos,w64,↓RS,RG,qA,qM,qL,ty8,zch,za5,zaa,zci,za6,zaf,e1,zam,zar]
   refine za1 rfl ?_
   simp(disch:=omega)only[↓RU,RV,RH,↓reduceIte,qE,reduceCtorEq,if_pos,w64,↓RS,RG,qA,qM,qL,ty8,zch,za5,zaa,zci,za6,zaf,e1,zam,zar]
   refine za1 rfl ?_
   simp(disch:=omega)only[↓RU,RV,RH,↓reduceIte,qE,reduceCtorEq,if_pos,w64,↓RS,RG,qA,qM,qL,ty8,zch,za5,zaa,zci,za6,zaf,e1,zam,zar]
   refine za1 rfl ?_
   simp(disch:=omega)only[↓RU,RV,RH,↓reduceIte,qE,reduceCtorEq,if_pos,w64,↓RS,RG,qA,qM,qL,ty8,zch,za5,zaa,zci,za6,zaf,e1,zam,zar]
   refine zf5 ?_
   simp(disch:=omega)only[↓RU,RV,RH,↓reduceIte,qE,reduceCtorEq,if_pos,w64,↓RS,RG,qA,qM,qL,ty8,zch,za5,zaa,zci,za6,zaf,e1]
   apply hK;clear hK K
   refine W.r fun K hK=>?_
   cases hth:thU (zak p) t k
   ·skip
    simp(disch:=omega)only[↓RU,RV,RH,↓reduceIte,qE,reduceCtorEq,if_pos,qN,↓RS,RG,qA,qM,qL,ty8,zah,zch,zh0,za5,zaa,zci,zh1,za6,zaf,hgu,hth]
    refine zac.pc (ze5 hgw (rP p) ht (level:=false) (line:=t.c+k) (by omega) (by simp; omega)) rfl (.inl rfl) ?_
    simp(disch:=omega)only[↓RU,RV,RH,↓reduceIte,qE,reduceCtorEq,if_pos,qN,↓RS,RG,qA,qM,qL,ty8,zah,zch,zh0,za5,zaa,zci,zh1,za6,zaf,hgu,hth]
    apply hK;clear hK K
    refine W.cond rfl (fun h1=>?_) (fun h1=>?_)
    ·try simp only[RL]at h1
     exact absurd h1 (by simp)
    try simp only[RL]at h1
    refine W.skip ?_
    refine XbN ?_
    refine xn ?_
    refine W.k fun K hK=>?_
    simp(disch:=omega)only[↓RU,RV,RH,↓reduceIte,qE,reduceCtorEq,if_pos,w64,↓RS,RG,qA,qM,qL,zaa,zaf]
    apply hK;clear hK K
    refine xn ?_
    refine ⟨t.w - (k+1),by omega,4,k+1,_,rfl,by omega,by omega,fun j j1 j2=>?_,?_,?_,rfl⟩
    ·rcases Nat.lt_succ_iff_lt_or_eq.1 j2 with h | rfl
     ·exact hall j j1 h
     exact hth
    ·exact Nat.le_trans htk (Nat.le_add_right _ 2)
    simp [Env.put,Env.of]; omega
   skip
   have hq:zd2 (zak p) t=some (false,k):=by unfold zd2; rw [zfb.2 ⟨hk1,by omega,hth,hall⟩]
   simp(disch:=omega)only[↓RU,RV,RH,↓reduceIte,qE,reduceCtorEq,if_pos,qN,↓RS,RG,qA,qM,qL,ty8,zah,zch,zh0,za5,zaa,zci,zh1,za6,zaf,hgu,hth]
   refine zac.pc (ze5 hgw (rP p) ht (level:=false) (line:=t.c+k) (by omega) (by simp; omega)) rfl (.inl rfl) ?_
   simp(disch:=omega)only[↓RU,RV,RH,↓reduceIte,qE,reduceCtorEq,if_pos,qN,↓RS,RG,qA,qM,qL,ty8,zah,zch,zh0,za5,zaa,zci,zh1,za6,zaf,hgu,hth]
   refine zyz.ey (hy _ hq _ _ _ (Nat.le_trans htk (Nat.le_add_right _ 2))) ?_
   rintro _ _ ⟨rfl,tk3,rfl⟩
   simp(disch:=omega)only[↓RU,RV,RH,↓reduceIte,qE,reduceCtorEq,if_pos,qN,↓RS,RG,qA,qM,qL,ty8,zah,zch,zh0,za5,zaa,zci,zh1,za6,zaf,hgu,hth]
   apply hK;clear hK K
   refine W.cond rfl (fun h1=>?_) (fun h1=>?_)
   ·try simp only[RL]at h1
    refine W.ret ?_
    refine XBlock.ret ?_
    refine XThen.ret ?_
    refine XThen.ret ?_
    refine XBlock.ret ?_
    refine XThen.ret ?_
    refine Br rfl ?_
    exact ⟨4,.inr ⟨_,_,hq,rfl⟩⟩
   try simp only[RL]at h1
   exact absurd h1 (by simp)
  simp(disch:=omega)only[↓RU,RV,RH,↓reduceIte,qE,reduceCtorEq,if_pos,↓RS,RG,qA,qM,qL,ty8,zch,za5,zaa,zci,za6,zaf]
  apply hK;clear hK K
  refine xn ?_
  refine W.r fun K hK=>?_
  simp(disch:=omega)only[↓RU,RV,RH,↓reduceIte,qE,reduceCtorEq,if_pos,w64,↓RS,RG,qA,qM,qL,ty8,zch,za5,zaa,zci,za6,zaf]
  apply hK;clear hK K
  refine W.seq_pk 11 [some 34,some 35,some 36,some 37,some 38,some 39] [5] (by decide) (by kernel_rfl) fun K hK=>?_
  simp only[List.take_succ_cons,List.take_zero,List.drop_succ_cons,List.drop_zero]
  refine za1 rfl ?_
  simp(disch:=omega)only[↓RU,RV,RH,↓reduceIte,qE,reduceCtorEq,if_pos,w64,↓RS,RG,qA,qM,qL,ty8,zch,za5,zaa,zci,za6,zaf,e1,zam,zar]
  refine zat (.ip [zaz (gP p) (rP p),.int .i64 t.r,.int .i64 t.c,.int .i64 t.h,.int .i64 t.w] 1) rfl rfl rfl (fun S' hS=>?_) ?_
  ·skip
   have k5:=(hS 5 (by decide)).trans (show _=some _ from rfl)
   simp(disch:=omega)only[↓RU,RV,RH,↓reduceIte,qE,reduceCtorEq,if_pos,w64,↓RS,RG,qA,qM,qL,ty8,zch,za5,zaa,zci,za6,zaf,e1,zbx,zcv,zd8,zd9,k5]
  refine zat (.ip [zaz (gP p) (rP p),.int .i64 t.r,.int .i64 t.c,.int .i64 t.h,.int .i64 t.w] 4) rfl rfl rfl (fun S' hS=>?_) ?_
  ·skip
   have k5:=(hS 5 (by decide)).trans (show _=some _ from rfl)
   simp(disch:=omega)only[↓RU,RV,RH,↓reduceIte,qE,reduceCtorEq,if_pos,w64,↓RS,RG,qA,qM,qL,ty8,zch,za5,zaa,zci,za6,zaf,e1,zbx,zcv,zd8,zd9,k5]
  refine zat (.int .i64 t.w) rfl rfl rfl (fun S' hS=>?_) ?_
  ·skip
   have k5:=(hS 5 (by decide)).trans (show _=some _ from rfl)
   simp(disch:=omega)only[↓RU,RV,RH,↓reduceIte,qE,reduceCtorEq,if_pos,w64,↓RS,RG,qA,qM,qL,ty8,zch,za5,zaa,zci,za6,zaf,e1,zbx,zcv,zd8,zd9,k5]
  refine zat (.ref 5 (tk2+1) 1) rfl rfl rfl (fun S' hS=>?_) ?_
  ·skip
   have k5:=(hS 5 (by decide)).trans (show _=some _ from rfl)
   simp(disch:=omega)only[↓RU,RV,RH,↓reduceIte,qE,reduceCtorEq,if_pos,w64,↓RS,RG,qA,qM,qL,ty8,zch,za5,zaa,zci,za6,zaf,e1,zbx,zcv,zd8,zd9,k5]
  refine zat (.ref 5 (tk2+1) 4) rfl rfl rfl (fun S' hS=>?_) ?_
  ·skip
   have k5:=(hS 5 (by decide)).trans (show _=some _ from rfl)
   simp(disch:=omega)only[↓RU,RV,RH,↓reduceIte,qE,reduceCtorEq,if_pos,w64,↓RS,RG,qA,qM,qL,ty8,zch,za5,zaa,zci,za6,zaf,e1,zbx,zcv,zd8,zd9,k5]
  refine zat (.int .i64 k) rfl rfl rfl (fun S' hS=>?_) ?_
  ·skip
   have k5:=(hS 5 (by decide)).trans (show _=some _ from rfl)
   simp(disch:=omega)only[↓RU,RV,RH,↓reduceIte,qE,reduceCtorEq,if_pos,w64,↓RS,RG,qA,qM,qL,ty8,zch,za5,zaa,zci,za6,zaf,e1,zbx,zcv,zd8,zd9,k5]
  refine za1 rfl ?_
  simp(disch:=omega)only[↓RU,RV,RH,↓reduceIte,qE,reduceCtorEq,if_pos,w64,↓RS,RG,qA,qM,qL,ty8,zch,za5,zaa,zci,za6,zaf,e1,zam,zar]
  refine za1 rfl ?_
  simp(disch:=omega)only[↓RU,RV,RH,↓reduceIte,qE,reduceCtorEq,if_pos,w64,↓RS,RG,qA,qM,qL,ty8,zch,za5,zaa,zci,za6,zaf,e1,zam,zar]
  refine za1 rfl ?_
  simp(disch:=omega)only[↓RU,RV,RH,↓reduceIte,qE,reduceCtorEq,if_pos,w64,↓RS,RG,qA,qM,qL,ty8,zch,za5,zaa,zci,za6,zaf,e1,zam,zar]
  refine za1 rfl ?_
  simp(disch:=omega)only[↓RU,RV,RH,↓reduceIte,qE,reduceCtorEq,if_pos,w64,↓RS,RG,qA,qM,qL,ty8,zch,za5,zaa,zci,za6,zaf,e1,zam,zar]
  refine zf5 ?_
  simp(disch:=omega)only[↓RU,RV,RH,↓reduceIte,qE,reduceCtorEq,if_pos,w64,↓RS,RG,qA,qM,qL,ty8,zch,za5,zaa,zci,za6,zaf,e1]
  apply hK;clear hK K
  refine W.r fun K hK=>?_
  cases hth:thU (zak p) t k
  ·skip
   simp(disch:=omega)only[↓RU,RV,RH,↓reduceIte,qE,reduceCtorEq,if_pos,qN,↓RS,RG,qA,qM,qL,ty8,zah,zch,zh0,za5,zaa,zci,zh1,za6,zaf,hgu,hth]
   refine zac.pc (ze5 hgw (rP p) ht (level:=false) (line:=t.c+k) (by omega) (by simp; omega)) rfl (.inl rfl) ?_
   simp(disch:=omega)only[↓RU,RV,RH,↓reduceIte,qE,reduceCtorEq,if_pos,qN,↓RS,RG,qA,qM,qL,ty8,zah,zch,zh0,za5,zaa,zci,zh1,za6,zaf,hgu,hth]
   apply hK;clear hK K
   refine W.cond rfl (fun h1=>?_) (fun h1=>?_)
   ·try simp only[RL]at h1
    exact absurd h1 (by simp)
   try simp only[RL]at h1
   refine W.skip ?_
   refine XbN ?_
   refine xn ?_
   refine W.k fun K hK=>?_
   simp(disch:=omega)only[↓RU,RV,RH,↓reduceIte,qE,reduceCtorEq,if_pos,w64,↓RS,RG,qA,qM,qL,zaa,zaf]
   apply hK;clear hK K
   refine xn ?_
   refine ⟨t.w - (k+1),by omega,4,k+1,_,rfl,by omega,by omega,fun j j1 j2=>?_,?_,?_,rfl⟩
   ·rcases Nat.lt_succ_iff_lt_or_eq.1 j2 with h | rfl
    ·exact hall j j1 h
    exact hth
   ·exact Nat.le_trans htk (Nat.le_add_right _ 2)
   simp [Env.put,Env.of]; omega
  skip
  have hq:zd2 (zak p) t=some (false,k):=by unfold zd2; rw [zfb.2 ⟨hk1,by omega,hth,hall⟩]
  simp(disch:=omega)only[↓RU,RV,RH,↓reduceIte,qE,reduceCtorEq,if_pos,qN,↓RS,RG,qA,qM,qL,ty8,zah,zch,zh0,za5,zaa,zci,zh1,za6,zaf,hgu,hth]
  refine zac.pc (ze5 hgw (rP p) ht (level:=false) (line:=t.c+k) (by omega) (by simp; omega)) rfl (.inl rfl) ?_
  simp(disch:=omega)only[↓RU,RV,RH,↓reduceIte,qE,reduceCtorEq,if_pos,qN,↓RS,RG,qA,qM,qL,ty8,zah,zch,zh0,za5,zaa,zci,zh1,za6,zaf,hgu,hth]
  refine zyz.ey (hy _ hq _ _ _ (Nat.le_trans htk (Nat.le_add_right _ 2))) ?_
  rintro _ _ ⟨rfl,tk3,rfl⟩
  simp(disch:=omega)only[↓RU,RV,RH,↓reduceIte,qE,reduceCtorEq,if_pos,qN,↓RS,RG,qA,qM,qL,ty8,zah,zch,zh0,za5,zaa,zci,zh1,za6,zaf,hgu,hth]
  apply hK;clear hK K
  refine W.cond rfl (fun h1=>?_) (fun h1=>?_)
  ·try simp only[RL]at h1
   refine W.ret ?_
   refine XBlock.ret ?_
   refine XThen.ret ?_
   refine XThen.ret ?_
   refine XBlock.ret ?_
   refine XThen.ret ?_
   refine Br rfl ?_
   exact ⟨4,.inr ⟨_,_,hq,rfl⟩⟩
  try simp only[RL]at h1
  exact absurd h1 (by simp)
 try simp only[RL]at h
 obtain rfl:k=t.w:=by omega
 refine W.exit ?_
 refine xe ?_
 refine xe ?_
 refine XBlock.hit ?_
 refine xn ?_
 refine W.r fun K hK=>?_
 simp(disch:=omega)only[↓RU,RV,RH,↓reduceIte,qE,reduceCtorEq,if_pos,w64,↓RS,RG,qA,qM,qL,ty8,zch,za5,zaa,zci,za6,zaf]
 apply hK;clear hK K
 refine W.block ?_
 refine W.loop [0,1,6] (fun n vs S=>∃ k tk2:Nat,n=t.h - k∧1≤k∧k≤t.h∧(∀ j,1≤j→j<k→thL (zak p) t j=false)∧tk≤tk2∧vs=[.yl l,.ip [zaz (gP p) (rP p),.int .i64 t.r,.int .i64 t.c,.int .i64 t.h,.int .i64 t.w] 0,.int .i64 ((t.r+k:Nat):Int)]∧S=⟨[a,b,c,d],tk2⟩) (t.h - 1) ?_ ?_
 ·refine ⟨4,1,_,rfl,by omega,by omega,fun j _ _=>by omega,htk,?_,rfl⟩
  simp [Env.put,Env.of,zae]
 rintro n vs S - ⟨k,tk2,rfl,hk1,h_k,hall2,htk,rfl,rfl⟩
 refine W.seq ?_
 refine W.r fun K hK=>?_
 simp(disch:=omega)only[↓RU,RV,RH,↓reduceIte,qE,reduceCtorEq,if_pos,w64,↓RS,RG,qA,qM,qL,ty8,zch,za5,zaa,zci,za6,zaf]
 apply hK;clear hK K
 refine W.cond rfl (fun h=>?_) (fun h=>?_)
 ·try simp only[RL]at h
  have hgu:=yhw hp ht hk1 (show k<t.h by omega)
  have e1:((t.h:Nat):Int) - ((k:Nat):Int)=((t.h - k:Nat):Int):=by omega
  refine W.skip ?_
  refine xn ?_
  refine W.seq ?_
  refine W.block ?_
  refine W.seq (W.draw_two (r1:=[_,_,_,_,_,_]) (r2:=[_,_,_,_,_,_]) [0,1,2,3,4,5] [0,1,3,2,4,5] [0,1] 2 3 1 rfl (by kernel_rfl) (by kernel_rfl) rfl rfl (fun K hK=>?_) (fun K hK=>?_))
  ·simp(disch:=omega)only[↓RU,RV,RH,↓reduceIte,qE,reduceCtorEq,if_pos,↓RS,RG,qA,qM,qL,ty8,zch,za5,zaa,zci,za6,zaf]
   apply hK;clear hK K
   refine xn ?_
   refine W.r fun K hK=>?_
   simp(disch:=omega)only[↓RU,RV,RH,↓reduceIte,qE,reduceCtorEq,if_pos,w64,↓RS,RG,qA,qM,qL,ty8,zch,za5,zaa,zci,za6,zaf]
   apply hK;clear hK K
   refine W.seq_pk 11 [some 81,some 82,some 83,some 84,some 85,some 86] [4] (by decide) (by kernel_rfl) fun K hK=>?_
   simp only[List.take_succ_cons,List.take_zero,List.drop_succ_cons,List.drop_zero]
   refine za1 rfl ?_
   simp(disch:=omega)only[↓RU,RV,RH,↓reduceIte,qE,reduceCtorEq,if_pos,w64,↓RS,RG,qA,qM,qL,ty8,zch,za5,zaa,zci,za6,zaf,e1,zam,zar]
   refine zat (.ip [zaz (gP p) (rP p),.int .i64 t.r,.int .i64 t.c,.int .i64 t.h,.int .i64 t.w] 1) rfl rfl rfl (fun S' hS=>?_) ?_
   ·skip
    have k4:=(hS 4 (by decide)).trans (show _=some _ from rfl)
    simp(disch:=omega)only[↓RU,RV,RH,↓reduceIte,qE,reduceCtorEq,if_pos,w64,↓RS,RG,qA,qM,qL,ty8,zch,za5,zaa,zci,za6,zaf,e1,zbx,zcv,zd8,zd9,k4]
   refine zat (.ip [zaz (gP p) (rP p),.int .i64 t.r,.int .i64 t.c,.int .i64 t.h,.int .i64 t.w] 3) rfl rfl rfl (fun S' hS=>?_) ?_
   ·skip
    have k4:=(hS 4 (by decide)).trans (show _=some _ from rfl)
    simp(disch:=omega)only[↓RU,RV,RH,↓reduceIte,qE,reduceCtorEq,if_pos,w64,↓RS,RG,qA,qM,qL,ty8,zch,za5,zaa,zci,za6,zaf,e1,zbx,zcv,zd8,zd9,k4]
   refine zat (.int .i64 t.h) rfl rfl rfl (fun S' hS=>?_) ?_
   ·skip
    have k4:=(hS 4 (by decide)).trans (show _=some _ from rfl)
    simp(disch:=omega)only[↓RU,RV,RH,↓reduceIte,qE,reduceCtorEq,if_pos,w64,↓RS,RG,qA,qM,qL,ty8,zch,za5,zaa,zci,za6,zaf,e1,zbx,zcv,zd8,zd9,k4]
   refine zat (.ref 4 tk2 1) rfl rfl rfl (fun S' hS=>?_) ?_
   ·skip
    have k4:=(hS 4 (by decide)).trans (show _=some _ from rfl)
    simp(disch:=omega)only[↓RU,RV,RH,↓reduceIte,qE,reduceCtorEq,if_pos,w64,↓RS,RG,qA,qM,qL,ty8,zch,za5,zaa,zci,za6,zaf,e1,zbx,zcv,zd8,zd9,k4]
   refine zat (.ref 4 tk2 3) rfl rfl rfl (fun S' hS=>?_) ?_
   ·skip
    have k4:=(hS 4 (by decide)).trans (show _=some _ from rfl)
    simp(disch:=omega)only[↓RU,RV,RH,↓reduceIte,qE,reduceCtorEq,if_pos,w64,↓RS,RG,qA,qM,qL,ty8,zch,za5,zaa,zci,za6,zaf,e1,zbx,zcv,zd8,zd9,k4]
   refine zat (.int .i64 k) rfl rfl rfl (fun S' hS=>?_) ?_
   ·skip
    have k4:=(hS 4 (by decide)).trans (show _=some _ from rfl)
    simp(disch:=omega)only[↓RU,RV,RH,↓reduceIte,qE,reduceCtorEq,if_pos,w64,↓RS,RG,qA,qM,qL,ty8,zch,za5,zaa,zci,za6,zaf,e1,zbx,zcv,zd8,zd9,k4]
   refine za1 rfl ?_
   simp(disch:=omega)only[↓RU,RV,RH,↓reduceIte,qE,reduceCtorEq,if_pos,w64,↓RS,RG,qA,qM,qL,ty8,zch,za5,zaa,zci,za6,zaf,e1,zam,zar]
   refine za1 rfl ?_
   simp(disch:=omega)only[↓RU,RV,RH,↓reduceIte,qE,reduceCtorEq,if_pos,w64,↓RS,RG,qA,qM,qL,ty8,zch,za5,zaa,zci,za6,zaf,e1,zam,zar]
   refine za1 rfl ?_
   simp(disch:=omega)only[↓RU,RV,RH,↓reduceIte,qE,reduceCtorEq,if_pos,w64,↓RS,RG,qA,qM,qL,ty8,zch,za5,zaa,zci,za6,zaf,e1,zam,zar]
   refine za1 rfl ?_
   simp(disch:=omega)only[↓RU,RV,RH,↓reduceIte,qE,reduceCtorEq,if_pos,w64,↓RS,RG,qA,qM,qL,ty8,zch,za5,zaa,zci,za6,zaf,e1,zam,zar]
   refine zf5 ?_
   simp(disch:=omega)only[↓RU,RV,RH,↓reduceIte,qE,reduceCtorEq,if_pos,w64,↓RS,RG,qA,qM,qL,ty8,zch,za5,zaa,zci,za6,zaf,e1]
   apply hK;clear hK K
   refine W.r fun K hK=>?_
   cases hth:thL (zak p) t k
   ·skip
    simp(disch:=omega)only[↓RU,RV,RH,↓reduceIte,qE,reduceCtorEq,if_pos,qN,↓RS,RG,qA,qM,qL,ty8,zah,zch,zh0,za5,zaa,zci,zh1,za6,zaf,hgu,hth]
    refine zac.pc (ze5 hgw (rP p) ht (level:=true) (line:=t.r+k) (by omega) (by simp; omega)) rfl (.inl rfl) ?_
    simp(disch:=omega)only[↓RU,RV,RH,↓reduceIte,qE,reduceCtorEq,if_pos,qN,↓RS,RG,qA,qM,qL,ty8,zah,zch,zh0,za5,zaa,zci,zh1,za6,zaf,hgu,hth]
    apply hK;clear hK K
    refine W.cond rfl (fun h1=>?_) (fun h1=>?_)
    ·try simp only[RL]at h1
     exact absurd h1 (by simp)
    try simp only[RL]at h1
    refine W.skip ?_
    refine XbN ?_
    refine xn ?_
    refine W.k fun K hK=>?_
    simp(disch:=omega)only[↓RU,RV,RH,↓reduceIte,qE,reduceCtorEq,if_pos,w64,↓RS,RG,qA,qM,qL,zaa,zaf]
    apply hK;clear hK K
    refine xn ?_
    refine ⟨t.h - (k+1),by omega,4,k+1,_,rfl,by omega,by omega,fun j j1 j2=>?_,?_,?_,rfl⟩
    ·rcases Nat.lt_succ_iff_lt_or_eq.1 j2 with h | rfl
     ·exact hall2 j j1 h
     exact hth
    ·exact Nat.le_trans htk (Nat.le_add_right _ 2)
    simp [Env.put,Env.of]; omega
   skip
   have hq:zd2 (zak p) t=some (true,k):=by unfold zd2; rw [zh9.2 hall,zfb.2 ⟨hk1,by omega,hth,hall2⟩]
   simp(disch:=omega)only[↓RU,RV,RH,↓reduceIte,qE,reduceCtorEq,if_pos,qN,↓RS,RG,qA,qM,qL,ty8,zah,zch,zh0,za5,zaa,zci,zh1,za6,zaf,hgu,hth]
   refine zac.pc (ze5 hgw (rP p) ht (level:=true) (line:=t.r+k) (by omega) (by simp; omega)) rfl (.inl rfl) ?_
   simp(disch:=omega)only[↓RU,RV,RH,↓reduceIte,qE,reduceCtorEq,if_pos,qN,↓RS,RG,qA,qM,qL,ty8,zah,zch,zh0,za5,zaa,zci,zh1,za6,zaf,hgu,hth]
   refine zyz.ey (hy _ hq _ _ _ (Nat.le_trans htk (Nat.le_add_right _ 2))) ?_
   rintro _ _ ⟨rfl,tk3,rfl⟩
   simp(disch:=omega)only[↓RU,RV,RH,↓reduceIte,qE,reduceCtorEq,if_pos,qN,↓RS,RG,qA,qM,qL,ty8,zah,zch,zh0,za5,zaa,zci,zh1,za6,zaf,hgu,hth]
   apply hK;clear hK K
   refine W.cond rfl (fun h1=>?_) (fun h1=>?_)
   ·try simp only[RL]at h1
    refine W.ret ?_
    refine XBlock.ret ?_
    refine XThen.ret ?_
    refine XThen.ret ?_
    refine XBlock.ret ?_
    refine Br rfl ?_
    exact ⟨4,.inr ⟨_,_,hq,rfl⟩⟩
   try simp only[RL]at h1
   exact absurd h1 (by simp)
  simp(disch:=omega)only[↓RU,RV,RH,↓reduceIte,qE,reduceCtorEq,if_pos,↓RS,RG,qA,qM,qL,ty8,zch,za5,zaa,zci,za6,zaf]
  apply hK;clear hK K
  refine xn ?_
  refine W.r fun K hK=>?_
  simp(disch:=omega)only[↓RU,RV,RH,↓reduceIte,qE,reduceCtorEq,if_pos,w64,↓RS,RG,qA,qM,qL,ty8,zch,za5,zaa,zci,za6,zaf]
  apply hK;clear hK K
  refine W.seq_pk 11 [some 81,some 82,some 83,some 84,some 85,some 86] [5] (by decide) (by kernel_rfl) fun K hK=>?_
  simp only[List.take_succ_cons,List.take_zero,List.drop_succ_cons,List.drop_zero]
  refine za1 rfl ?_
  simp(disch:=omega)only[↓RU,RV,RH,↓reduceIte,qE,reduceCtorEq,if_pos,w64,↓RS,RG,qA,qM,qL,ty8,zch,za5,zaa,zci,za6,zaf,e1,zam,zar]
  refine zat (.ip [zaz (gP p) (rP p),.int .i64 t.r,.int .i64 t.c,.int .i64 t.h,.int .i64 t.w] 1) rfl rfl rfl (fun S' hS=>?_) ?_
  ·skip
   have k5:=(hS 5 (by decide)).trans (show _=some _ from rfl)
   simp(disch:=omega)only[↓RU,RV,RH,↓reduceIte,qE,reduceCtorEq,if_pos,w64,↓RS,RG,qA,qM,qL,ty8,zch,za5,zaa,zci,za6,zaf,e1,zbx,zcv,zd8,zd9,k5]
  refine zat (.ip [zaz (gP p) (rP p),.int .i64 t.r,.int .i64 t.c,.int .i64 t.h,.int .i64 t.w] 3) rfl rfl rfl (fun S' hS=>?_) ?_
  ·skip
   have k5:=(hS 5 (by decide)).trans (show _=some _ from rfl)
   simp(disch:=omega)only[↓RU,RV,RH,↓reduceIte,qE,reduceCtorEq,if_pos,w64,↓RS,RG,qA,qM,qL,ty8,zch,za5,zaa,zci,za6,zaf,e1,zbx,zcv,zd8,zd9,k5]
  refine zat (.int .i64 t.h) rfl rfl rfl (fun S' hS=>?_) ?_
  ·skip
   have k5:=(hS 5 (by decide)).trans (show _=some _ from rfl)
   simp(disch:=omega)only[↓RU,RV,RH,↓reduceIte,qE,reduceCtorEq,if_pos,w64,↓RS,RG,qA,qM,qL,ty8,zch,za5,zaa,zci,za6,zaf,e1,zbx,zcv,zd8,zd9,k5]
  refine zat (.ref 5 (tk2+1) 1) rfl rfl rfl (fun S' hS=>?_) ?_
  ·skip
   have k5:=(hS 5 (by decide)).trans (show _=some _ from rfl)
   simp(disch:=omega)only[↓RU,RV,RH,↓reduceIte,qE,reduceCtorEq,if_pos,w64,↓RS,RG,qA,qM,qL,ty8,zch,za5,zaa,zci,za6,zaf,e1,zbx,zcv,zd8,zd9,k5]
  refine zat (.ref 5 (tk2+1) 3) rfl rfl rfl (fun S' hS=>?_) ?_
  ·skip
   have k5:=(hS 5 (by decide)).trans (show _=some _ from rfl)
   simp(disch:=omega)only[↓RU,RV,RH,↓reduceIte,qE,reduceCtorEq,if_pos,w64,↓RS,RG,qA,qM,qL,ty8,zch,za5,zaa,zci,za6,zaf,e1,zbx,zcv,zd8,zd9,k5]
  refine zat (.int .i64 k) rfl rfl rfl (fun S' hS=>?_) ?_
  ·skip
   have k5:=(hS 5 (by decide)).trans (show _=some _ from rfl)
   simp(disch:=omega)only[↓RU,RV,RH,↓reduceIte,qE,reduceCtorEq,if_pos,w64,↓RS,RG,qA,qM,qL,ty8,zch,za5,zaa,zci,za6,zaf,e1,zbx,zcv,zd8,zd9,k5]
  refine za1 rfl ?_
  simp(disch:=omega)only[↓RU,RV,RH,↓reduceIte,qE,reduceCtorEq,if_pos,w64,↓RS,RG,qA,qM,qL,ty8,zch,za5,zaa,zci,za6,zaf,e1,zam,zar]
  refine za1 rfl ?_
  simp(disch:=omega)only[↓RU,RV,RH,↓reduceIte,qE,reduceCtorEq,if_pos,w64,↓RS,RG,qA,qM,qL,ty8,zch,za5,zaa,zci,za6,zaf,e1,zam,zar]
  refine za1 rfl ?_
  simp(disch:=omega)only[↓RU,RV,RH,↓reduceIte,qE,reduceCtorEq,if_pos,w64,↓RS,RG,qA,qM,qL,ty8,zch,za5,zaa,zci,za6,zaf,e1,zam,zar]
  refine za1 rfl ?_
  simp(disch:=omega)only[↓RU,RV,RH,↓reduceIte,qE,reduceCtorEq,if_pos,w64,↓RS,RG,qA,qM,qL,ty8,zch,za5,zaa,zci,za6,zaf,e1,zam,zar]
  refine zf5 ?_
  simp(disch:=omega)only[↓RU,RV,RH,↓reduceIte,qE,reduceCtorEq,if_pos,w64,↓RS,RG,qA,qM,qL,ty8,zch,za5,zaa,zci,za6,zaf,e1]
  apply hK;clear hK K
  refine W.r fun K hK=>?_
  cases hth:thL (zak p) t k
  ·skip
   simp(disch:=omega)only[↓RU,RV,RH,↓reduceIte,qE,reduceCtorEq,if_pos,qN,↓RS,RG,qA,qM,qL,ty8,zah,zch,zh0,za5,zaa,zci,zh1,za6,zaf,hgu,hth]
   refine zac.pc (ze5 hgw (rP p) ht (level:=true) (line:=t.r+k) (by omega) (by simp; omega)) rfl (.inl rfl) ?_
   simp(disch:=omega)only[↓RU,RV,RH,↓reduceIte,qE,reduceCtorEq,if_pos,qN,↓RS,RG,qA,qM,qL,ty8,zah,zch,zh0,za5,zaa,zci,zh1,za6,zaf,hgu,hth]
   apply hK;clear hK K
   refine W.cond rfl (fun h1=>?_) (fun h1=>?_)
   ·try simp only[RL]at h1
    exact absurd h1 (by simp)
   try simp only[RL]at h1
   refine W.skip ?_
   refine XbN ?_
   refine xn ?_
   refine W.k fun K hK=>?_
   simp(disch:=omega)only[↓RU,RV,RH,↓reduceIte,qE,reduceCtorEq,if_pos,w64,↓RS,RG,qA,qM,qL,zaa,zaf]
   apply hK;clear hK K
   refine xn ?_
   refine ⟨t.h - (k+1),by omega,4,k+1,_,rfl,by omega,by omega,fun j j1 j2=>?_,?_,?_,rfl⟩
   ·rcases Nat.lt_succ_iff_lt_or_eq.1 j2 with h | rfl
    ·exact hall2 j j1 h
    exact hth
   ·exact Nat.le_trans htk (Nat.le_add_right _ 2)
   simp [Env.put,Env.of]; omega
  skip
  have hq:zd2 (zak p) t=some (true,k):=by unfold zd2; rw [zh9.2 hall,zfb.2 ⟨hk1,by omega,hth,hall2⟩]
  simp(disch:=omega)only[↓RU,RV,RH,↓reduceIte,qE,reduceCtorEq,if_pos,qN,↓RS,RG,qA,qM,qL,ty8,zah,zch,zh0,za5,zaa,zci,zh1,za6,zaf,hgu,hth]
  refine zac.pc (ze5 hgw (rP p) ht (level:=true) (line:=t.r+k) (by omega) (by simp; omega)) rfl (.inl rfl) ?_
  simp(disch:=omega)only[↓RU,RV,RH,↓reduceIte,qE,reduceCtorEq,if_pos,qN,↓RS,RG,qA,qM,qL,ty8,zah,zch,zh0,za5,zaa,zci,zh1,za6,zaf,hgu,hth]
  refine zyz.ey (hy _ hq _ _ _ (Nat.le_trans htk (Nat.le_add_right _ 2))) ?_
  rintro _ _ ⟨rfl,tk3,rfl⟩
  simp(disch:=omega)only[↓RU,RV,RH,↓reduceIte,qE,reduceCtorEq,if_pos,qN,↓RS,RG,qA,qM,qL,ty8,zah,zch,zh0,za5,zaa,zci,zh1,za6,zaf,hgu,hth]
  apply hK;clear hK K
  refine W.cond rfl (fun h1=>?_) (fun h1=>?_)
  ·try simp only[RL]at h1
   refine W.ret ?_
   refine XBlock.ret ?_
   refine XThen.ret ?_
   refine XThen.ret ?_
   refine XBlock.ret ?_
   refine Br rfl ?_
   exact ⟨4,.inr ⟨_,_,hq,rfl⟩⟩
  try simp only[RL]at h1
  exact absurd h1 (by simp)
 try simp only[RL]at h
 obtain rfl:k=t.h:=by omega
 refine W.exit ?_
 refine xe ?_
 refine xe ?_
 refine XBlock.hit ?_
 refine zfk.norm rfl ?_
 exact ⟨4,.inl ⟨_,z3g.2 ⟨hall,hall2⟩,rfl⟩⟩
def yd7:PV := .agg [.bool false,.nilp,.int .i64 0,.int .i64 0,.int .i64 0,.int .i64 0,.nilp,.int .i64 0,.int .i64 0,.int .i64 0,.int .i64 0]
def zwk (p:List Txt) (t:Pt):PV:=match zd2 (zak p) t with | some q => .tup [z07 (gP p) (rP p) t q,.bool true] | none => .tup [yd7,.bool false]
theorem z1g {p:List Txt} (hp:zbs p=true) {t:Pt} (ht:t.In p.length (zao p).length):PC Tryz.prog 92 [zje (gP p) (rP p) t.rect] (zwk p t) false:=by
 simp only[zje,Pt.rect,Rect.cells]
 refine PC.ofV ⟨Tryz.func92,by kernel_rfl,rfl,by kernel_rfl⟩ zap mixed (by show 1≤Tryz.f92.ntmps; decide) ?_
 refine V.seq_region fun K hK=>?_
 simp(disch:=omega)only[↓RU,RV,RH,↓reduceIte,qE,reduceCtorEq,if_pos,↓RS,RG,qA,qM,qL,ty8,zah,zch,zh0,za5,zaa,zci,zh1,za6]
 apply hK;clear hK K
 refine V.seq ?_
 refine V.seq_region fun K hK=>?_
 simp(disch:=omega)only[↓RU,RV,RH,↓reduceIte,qE,reduceCtorEq,if_pos,qN,↓RS,RG,qA,qM,qL,ty8,zch,za5,zaa,zci,za6]
 refine zac.pc (ydc (gP p) (rP p) t.rect) rfl (.inr rfl) ?_
 simp(disch:=omega)only[↓RU,RV,RH,↓reduceIte,qE,reduceCtorEq,if_pos,qN,↓RS,RG,qA,qM,qL,ty8,zch,za5,zaa,zci,za6]
 apply hK;clear hK K
 refine V.block ?_
 refine V.rangeFunc [2,3] rfl fun l r hr hst hpd=>?_
 refine ⟨_,z94 hp ht l _ _ _ _ _ (fun q => .arr 1 88 11 [.bool q.1,zaz (gP p) (rP p),.int .i64 (t.one q).r,.int .i64 (t.one q).c,.int .i64 (t.one q).h,.int .i64 (t.one q).w,zaz (gP p) (rP p),.int .i64 (t.two q).r,.int .i64 (t.two q).c,.int .i64 (t.two q).h,.int .i64 (t.two q).w]) (fun _ => .arr 2 4 1 [.bool true]) (fun _ => .lp 3 l ({ r with state := .done,pending:=some .ret },[2,3]) [.ref 1 1 0,.ref 2 2 0]) (fun q hq x y tk2 htk=>?_),?_⟩
 ·refine Ey.of (o:=3) zap mixed rfl hr hst rfl ?_
  change W _ _ _ _ (Env.put (Env.of [2,3] [.ref 1 1 0,.ref 2 2 0]) (some 7) (.agg [.bool q.1,zaz (gP p) (rP p),.int .i64 (t.one q).r,.int .i64 (t.one q).c,.int .i64 (t.one q).h,.int .i64 (t.one q).w,zaz (gP p) (rP p),.int .i64 (t.two q).r,.int .i64 (t.two q).c,.int .i64 (t.two q).h,.int .i64 (t.two q).w])) _
  refine W.k fun K hK=>?_
  simp(disch:=omega)only[↓RU,RV,RH,↓reduceIte,qE,reduceCtorEq,if_pos,↓RS,RG,qA,qM,qL,ty8,zah,zch,zh0,za5,zaa,zci,zh1,za6]
  apply hK;clear hK K
  refine xn ⟨_,_,_,_,rfl,hst,?_⟩
  simp only[List.set_cons_succ,List.set_cons_zero]
  refine W.block ?_
  refine W.r fun K hK=>?_
  simp(disch:=omega)only[↓RU,RV,RH,↓reduceIte,qE,reduceCtorEq,if_pos,↓RS,RG,qA,qM,qL,ty8,zah,zch,zh0,za5,zaa,zci,zh1,za6]
  apply hK;clear hK K
  refine W.ret ?_
  refine XBlock.ret ?_
  exact ⟨_,_,_,_,6,rfl,rfl,_,rfl⟩
 rintro v S2 (⟨tk2,hq,rfl⟩ | ⟨q,tk2,hq,rfl⟩)
 ·skip
  refine ⟨_,_,_,_,.normal,rfl,by rw [hst]; simp,by rw [hpd]; rfl,?_⟩
  change XBlock _ _ _ _ ⟨[_,_,_],_⟩
  refine XbN ?_
  refine xn ?_
  refine W.v ?_
  refine W.r fun K hK=>?_
  simp(disch:=omega)only[↓RU,RV,RH,↓reduceIte,qE,reduceCtorEq,if_pos,↓RS,RG,qA,qM,qL,ty8,zah,zch,zh0,za5,zaa,zci,zh1,za6]
  apply hK;clear hK K
  refine W.ret ?_
  refine Br rfl ?_
  simp only[zwk,hq]
  rfl
 skip
 refine ⟨_,_,_,_,.ret,rfl,by simp,rfl,?_⟩
 change XBlock _ _ _ _ ⟨[_,_,_],_⟩
 refine XBlock.ret ?_
 refine XThen.ret ?_
 refine Br rfl ?_
 simp only[zwk,hq]
 rfl
def zoy {α:Type} (enc:α→PV) (zero:PV) (room:Int→α) (cut:Bool→α→α→α):Option CT→PV
 | some x => .tup [enc (x.fold room cut),.bool true]
 | none => .tup [zero,.bool false]
theorem z58 {α:Type} {enc:α→PV} {zero:PV} {room:Int→α} {cut:Bool→α→α→α} (o:Option CT):∃ v b,zoy enc zero room cut o = .tup [v,.bool b]:=by
 cases o with
 | none=>exact ⟨_,_,rfl⟩
 | some x=>exact ⟨_,_,rfl⟩
theorem z44 (a b:Option CT):a=none∨(∃ x,a=some x∧b=none)∨∃ x y,a=some x∧b=some y:=by
 cases a <;> cases b <;> simp
theorem ztl {p:List Txt} (hp:zbs p=true):(rP p).length≤9∧∀ b∈rP p,b.Fit:=by
 have hN:=zcx hp
 have h1:=hN.rooms
 have h2:zcg p≤9:=by unfold zbs at hp; simp only[qB,decide_eq_true_eq]at hp; exact hp.1.2
 have hsm:=zbl hN.hg
 obtain ⟨row0,hr0,hm0⟩:=zag hsm.1
 have hh:=zcu hr0
 have hw6:=hsm.2.2 row0 hm0
 have hw1:=zfg hN.hg hr0
 rw [← hh]at hw6 hw1
 have hok:=(zgb (g:=zb6 p) hw6 hw1 p.length hsm.2.1).1
 rw [← z76]at hok
 exact ⟨by omega,hok.2⟩
theorem z2a {p:List Txt} (hp:zbs p=true) {t:Pt} (h:t.In p.length (zao p).length):t.rect.Fit:=by
 have hg:=zzv hp
 obtain ⟨g1,g2,g3,g4⟩:=hg.2.2
 unfold Pt.In at h
 simp only[Rect.Fit,Pt.rect]
 omega
theorem yc0 {x:Int} (h1:0≤x) (h2:x<1000):IntKind.i32.wrap x=x:=by
 simp [IntKind.wrap,IntKind.bits,IntKind.signed]; omega
theorem zir {p:List Txt} (hp:zbs p=true) {t:Pt} (hw:Whole (zak p) p.length (zao p).length t) {x:CT} (hx:zdq (zak p) t=some x):(∀ a∈x.leaves,0≤a∧a<(rP p).length)∧x.leaves.length≤9:=by
 obtain ⟨h1,h2,h3⟩:=zds (zfx hp) _ hw (qR _) hx
 have hin:=hw.inn
 unfold Pt.In at hin
 have hb:∀ a∈x.leaves,0≤a∧a<(rP p).length:=by
  intro a ha
  obtain ⟨i,j,e1,e2,e3,e4,e5⟩:=(h2 a).1 ha
  have:=zei hp (i:=i) (j:=j) (by omega) (by omega)
  omega
 have:=zuk h1 hb
 have:=(ztl hp).1
 exact ⟨hb,by omega⟩
theorem zyt {p:List Txt} (hp:zbs p=true):PC Tryz.prog 45 [zaz (gP p) (rP p)] (zje (gP p) (rP p) (zk2 p).rect) false:=by
 have hg:=zzv hp
 obtain ⟨row,h1,h2,-⟩:=hg.at_ (i:=0) (j:=0) (by have:=hg.2.2; omega) (by have:=hg.2.2; omega)
 have h:=ybo h1 (rP p)
 rw [hg.1,h2]at h
 exact h
section
def zi2 (row:Txt) (l:Nat) (c:UInt8) (k:Nat):Txt:=(List.range row.length).map fun x=>if l≤x∧x<k then c else row.getD x 0
theorem zkg {row:Txt} {l k:Nat} {c:UInt8}:(zi2 row l c k).length=row.length:=by simp [zi2]
theorem zz4 {row:Txt} {l:Nat} {c:UInt8}:zi2 row l c l=row:=by
 apply List.ext_getElem?
 intro j
 unfold zi2
 rw [List.getElem?_map]
 by_cases hj:j<row.length
 ·rw [List.getElem?_range hj,qO,if_neg (by omega),List.getD_eq_getElem?_getD,List.getElem?_eq_getElem hj]; rfl
 rw [List.getElem?_eq_none (by simpa using hj),List.getElem?_eq_none (by omega)]; rfl
theorem zz3 {row:Txt} {l k:Nat} {c:UInt8} (h1:l≤k) (h2:k<row.length):(zi2 row l c k).set k c=zi2 row l c (k+1):=by
 apply List.ext_getElem?
 intro j
 rw [List.getElem?_set,zkg]
 unfold zi2
 rw [List.getElem?_map,List.getElem?_map]
 by_cases hj:j<row.length
 ·rw [List.getElem?_range hj,qO,qO]
  by_cases e:k=j
  ·subst e; rw [if_pos rfl,if_pos h2,if_pos (by omega)]
  rw [if_neg e]
  by_cases q:l≤j∧j<k
  ·rw [if_pos q,if_pos (by omega)]
  rw [if_neg q,if_neg (by omega)]
 rw [if_neg (by omega),List.getElem?_eq_none (by simpa using hj)]; rfl
def zjo (p:List Txt) (t l w:Nat) (c:UInt8) (i:Nat):List Txt:=(List.range p.length).map fun j=>if t≤j∧j<i then zi2 (p.getD j []) l c (l+w) else p.getD j []
theorem zhg {p:List Txt} {t l w i:Nat} {c:UInt8}:(zjo p t l w c i).length=p.length:=by simp [zjo]
theorem yax {p:List Txt} {t l w i:Nat} {c:UInt8} {row:Txt} (h:p[i]?=some row):(zjo p t l w c i)[i]?=some row:=by
 have hi:=zbp h
 unfold zjo
 rw [List.getElem?_map,List.getElem?_range hi,qO,if_neg (by omega),List.getD_eq_getElem?_getD,h]; rfl
theorem z4d {p:List Txt} {t l w:Nat} {c:UInt8}:zjo p t l w c t=p:=by
 apply List.ext_getElem?
 intro j
 unfold zjo
 rw [List.getElem?_map]
 by_cases hj:j<p.length
 ·rw [List.getElem?_range hj,qO,if_neg (by omega),List.getD_eq_getElem?_getD,List.getElem?_eq_getElem hj]; rfl
 rw [List.getElem?_eq_none (by simpa using hj),List.getElem?_eq_none (by omega)]; rfl
theorem z4c {p:List Txt} {t l w i:Nat} {c:UInt8} {row:Txt} (h1:t≤i) (h:p[i]?=some row):(zjo p t l w c i).set i (zi2 row l c (l+w))=zjo p t l w c (i+1):=by
 have hi:=zbp h
 apply List.ext_getElem?
 intro j
 rw [List.getElem?_set,zhg]
 unfold zjo
 rw [List.getElem?_map,List.getElem?_map]
 by_cases hj:j<p.length
 ·rw [List.getElem?_range hj,qO,qO]
  by_cases e:i=j
  ·subst e; rw [if_pos rfl,if_pos hi,if_pos (by omega),List.getD_eq_getElem?_getD,h]; rfl
  rw [if_neg e]
  by_cases q:t≤j∧j<i
  ·rw [if_pos q,if_pos (by omega)]
  rw [if_neg q,if_neg (by omega)]
 rw [if_neg (by omega),List.getElem?_eq_none (by simpa using hj)]; rfl
theorem zus {p:List Txt} (hs:Sm p) {t l w i:Nat} {c:UInt8}:Sm (zjo p t l w c i):=by
 refine ⟨by rw [zhg]; exact hs.1,fun r hr=>?_⟩
 obtain ⟨j,hj,rfl⟩:=List.mem_map.1 hr
 have hjl:j<p.length:=by simpa using hj
 have hm:p.getD j []∈p:=by
  rw [List.getD_eq_getElem?_getD,List.getElem?_eq_getElem hjl]; exact List.getElem_mem hjl
 have:=hs.2 _ hm
 split
 ·rw [zkg]; exact this
 exact this
def zi4 (p:List Txt):List Txt × Bool:=if zcw p && zbs (names p) then (names p,true) else ([],false)
theorem z66 {p:List Txt} (hg:zcw p=true):(names p).length=p.length:=by
 rw [znp hg]
 have hr:(gP p).length=p.length:=by rw [z3q]; exact zc0 _
 unfold zfz
 rw [List.length_map,hr]
theorem z04 {p:List Txt} (h:(zi4 p).2=true):zbs (zi4 p).1=true∧(zi4 p).1.length=p.length:=by
 unfold zi4 at h ⊢
 split at h
 ·rename_i hq
  rw [if_pos hq]
  simp only[qB]at hq
  exact ⟨hq.2,z66 hq.1⟩
 cases h
def zfn (p:List Txt) (room:Int) (s:Txt) (k:Int):List Txt × Bool :=
 if zbs p && (decide (0≤room) && decide (room≤zcg p - 1)) then
  if (s == [104]) && (decide (1≤k) && decide (k≤zd3 p room - 1)) then zi4 (zjo p ((zg8 p room).top+k).toNat (zg8 p room).left.toNat (zdy p room).toNat 122 ((zg8 p room).top+k+(zd3 p room - k)).toNat)
  else if (s == [118]) && (decide (1≤k) && decide (k≤zdy p room - 1)) then zi4 (zjo p (zg8 p room).top.toNat ((zg8 p room).left+k).toNat (zdy p room - k).toNat 122 ((zg8 p room).top+zd3 p room).toNat)
  else ([],false)
 else ([],false)
theorem zyg {p:List Txt} {room k:Int} {s:Txt} (h:(zfn p room s k).2=true):zbs (zfn p room s k).1=true∧(zfn p room s k).1.length=p.length:=by
 unfold zfn at h ⊢
 by_cases h1:(zbs p && (decide (0≤room) && decide (room≤zcg p - 1)))=true
 ·rw [if_pos h1]at h ⊢
  by_cases h2:((s == [104]) && (decide (1≤k) && decide (k≤zd3 p room - 1)))=true
  ·rw [if_pos h2]at h ⊢
   have:=z04 h
   rw [zhg]at this
   exact this
  rw [if_neg h2]at h ⊢
  by_cases h3:((s == [118]) && (decide (1≤k) && decide (k≤zdy p room - 1)))=true
  ·rw [if_pos h3]at h ⊢
   have:=z04 h
   rw [zhg]at this
   exact this
  rw [if_neg h3]at h; cases h
 rw [if_neg h1]at h; cases h
section
variable {p:List Txt} {room:Int} {s:Txt} {t l h w k:Nat}
theorem zhx {k:Int} (hgv:(zbs p && (decide (0≤room) && decide (room≤zcg p - 1)))=false):zfn p room s k=([],false):=by
 unfold zfn; rw [hgv]; rfl
theorem zgc {k:Int} (h1:((s == [104]) && (decide (1≤k) && decide (k≤zd3 p room - 1)))=false) (h2:((s == [118]) && (decide (1≤k) && decide (k≤zdy p room - 1)))=false):zfn p room s k=([],false):=by
 unfold zfn; rw [h1,h2]; split <;> rfl
theorem zhy (hgv:(zbs p && (decide (0≤room) && decide (room≤zcg p - 1)))=true) (e1:(zg8 p room).top=t) (e2:(zg8 p room).left=l) (e3:zd3 p room=h) (e4:zdy p room=w)
  (hb:((s == [104]) && (decide (1≤(k:Int)) && decide ((k:Int)≤zd3 p room - 1)))=true):zfn p room s k=zi4 (zjo p (t+k) l w 122 (t+k+(h - k))):=by
 have hk:(k:Int)≤h - 1:=by simp only[qB,decide_eq_true_eq,e3]at hb; exact hb.2.2
 unfold zfn
 rw [if_pos hgv,if_pos hb,e1,e2,e3,e4]
 have a1:((t:Int)+(k:Int)).toNat=t+k:=by omega
 have a2:((t:Int)+(k:Int)+((h:Int) - (k:Int))).toNat=t+k+(h - k):=by omega
 rw [a1,a2,Int.toNat_natCast,Int.toNat_natCast]
theorem zhz (hgv:(zbs p && (decide (0≤room) && decide (room≤zcg p - 1)))=true) (e1:(zg8 p room).top=t) (e2:(zg8 p room).left=l) (e3:zd3 p room=h) (e4:zdy p room=w)
  (ha:((s == [104]) && (decide (1≤(k:Int)) && decide ((k:Int)≤zd3 p room - 1)))=false) (hb:((s == [118]) && (decide (1≤(k:Int)) && decide ((k:Int)≤zdy p room - 1)))=true):zfn p room s k=zi4 (zjo p t (l+k) (w - k) 122 (t+h)):=by
 have hk:(k:Int)≤w - 1:=by simp only[qB,decide_eq_true_eq,e4]at hb; exact hb.2.2
 unfold zfn
 rw [if_pos hgv,ha,if_neg Bool.false_ne_true,if_pos hb,e1,e2,e3,e4]
 have a1:((l:Int)+(k:Int)).toNat=l+k:=by omega
 have a2:((t:Int)+(h:Int)).toNat=t+h:=by omega
 have a3:((w:Int) - (k:Int)).toNat=w - k:=by omega
 rw [a1,a2,a3,Int.toNat_natCast]
end
theorem yat {p:List Txt} (hp:zbs p=true) {room:Int} (h0:0≤room) (h1:room≤zcg p - 1):∃ t l h w:Nat,(zg8 p room).top=t∧(zg8 p room).left=l∧zd3 p room=h∧zdy p room=w∧1≤h∧1≤w∧t+h≤p.length∧l+w≤(zao p).length:=by
 have hN:=zcx hp
 have hr:=hN.rooms
 obtain ⟨m,rfl⟩:∃ m:Nat,room=m:=⟨room.toNat,by omega⟩
 have hm:m<(rP p).length:=by omega
 obtain ⟨b,hb,-⟩:=zag hm
 have hi:=zgx p
 obtain ⟨v,hv,-⟩:=zag (show m<(keys p).length by rw [← hi.len]; exact hm)
 obtain ⟨e1,e2,e3,e4⟩:=hN.box hb
 obtain ⟨t,l,h,w,q1,q2,q3,q4,q5,q6,q7,q8,-⟩:=Hull.nat (hi.hull m v b hv hb)
 exact ⟨t,l,h,w,by omega,by omega,by omega,by omega,q5,q6,q7,q8⟩
theorem z8o {p:List Txt} (hp:zbs p=true) {i:Nat} {row:Txt} (h:p[i]?=some row):row.length=(zao p).length:=zdt (zd7 hp) h
theorem znt {p:List Txt} (hp:zbs p=true):p.length≤6∧1≤p.length∧∀ row∈p,1≤row.length∧row.length≤6:=by
 have hg:=zd7 hp
 have h:=zbl hg
 refine ⟨h.2.1,h.1,fun row hr=>⟨?_,h.2.2 row hr⟩⟩
 obtain ⟨i,hi,rfl⟩:=List.getElem_of_mem hr
 exact zfg hg (List.getElem?_eq_getElem hi)
end
theorem ygp {l:Txt} {a:Nat} {c:UInt8}:(l.map eB).set a (.int .u8 (c.toNat:Int))=(l.set a c).map eB:=by rw [List.map_set]
theorem zsf (l:Txt):zgg (l.map eB)=some l:=zk6 l
theorem zf7  : PC Tryz.prog 28 [] (.tup [zay [],.bool false]) true:=by
 refine PC.of ⟨Tryz.func28,by kernel_rfl,rfl,by kernel_rfl⟩ zap mixed (by show 0≤Tryz.f28.ntmps; decide) ?_
 refine W.r fun K hK=>?_
 simp(disch:=omega)only[↓RU,RV,RH,↓reduceIte,qE,reduceCtorEq,if_pos,↓RS,RG,qA,qM,qL]
 apply hK;clear hK K
 refine W.r fun K hK=>?_
 simp(disch:=omega)only[↓RU,RV,RH,↓reduceIte,qE,reduceCtorEq,if_pos,↓RS,RG,qA,qM,qL,ty6,zab]
 apply hK;clear hK K
 refine W.ret ?_
 refine Br rfl ?_
 exact zke (k:=9) (zcl (k:=8) (n:=0) rfl rfl rfl) rfl
theorem zug {p:List Txt} (hs:Sm p) {tp lf hg wd:Nat} {c:UInt8} (h1:tp+hg≤p.length) (h2:∀ row∈p,lf+wd≤row.length):PC Tryz.prog 188 [zay p,.int .i64 tp,.int .i64 lf,.int .i64 hg,.int .i64 wd,eB c] (zay (zjo p tp lf wd c (tp+hg))) true:=by
 obtain ⟨hs1,hs2⟩:=hs
 refine PC.of ⟨Tryz.func188,by kernel_rfl,rfl,by kernel_rfl⟩ zap mixed (by show 6≤Tryz.f188.ntmps; decide) ?_
 refine W.r fun K hK=>?_
 simp(disch:=omega)only[↓RU,RV,RH,↓reduceIte,qE,reduceCtorEq,if_pos,↓RS,RG,qA,qM,qL]
 apply hK;clear hK K
 refine W.r fun K hK=>?_
 simp(disch:=omega)only[↓RU,RV,RH,↓reduceIte,qE,reduceCtorEq,if_pos,↓RS,RG,qA,qM,qL,ty6,zab]
 apply hK;clear hK K
 refine W.seq ?_
 refine W.r fun K hK=>?_
 simp(disch:=omega)only[↓RU,RV,RH,↓reduceIte,qE,reduceCtorEq,if_pos,↓RS,RG,qA,qM,qL]
 apply hK;clear hK K
 refine W.block ?_
 refine W.loop [0,1,2,3,4,5,13,14] (fun n vs S=>∃ j t v:Nat,n=hg - j∧j≤hg∧vs=[zay p,.int .i64 tp,.int .i64 lf,.int .i64 hg,.int .i64 wd,eB c,.loc 0 v 0 p.length,.int .i64 ((tp+j:Nat):Int)]∧S=⟨[.arr v 9 1 ((zjo p tp lf wd c (tp+j)).map .str)],t⟩) hg ?_ ?_
 ·refine ⟨1,0,2,1,rfl,by omega,?_,?_⟩
  ·simp [Env.put,Env.of,zae]
  simp [zck,z4d]
 rintro n vs S - ⟨j,t,v,rfl,h_j,rfl,rfl⟩
 refine W.seq ?_
 refine W.r fun K hK=>?_
 simp(disch:=omega)only[↓RU,RV,RH,↓reduceIte,qE,reduceCtorEq,if_pos,w64,↓RS,RG,qA,qM,qL,zaa]
 apply hK;clear hK K
 refine W.cond rfl (fun h=>?_) (fun h=>?_)
 ·try simp only[RL]at h
  obtain ⟨i,hi⟩:∃ i,tp+j=i:=⟨_,rfl⟩
  simp only[hi]
  obtain ⟨row,hrow0,hrm⟩:=zag (show i<p.length by omega)
  have hrow:=yax (t:=tp) (l:=lf) (w:=wd) (c:=c) hrow0
  have hlen:=zhg (p:=p) (t:=tp) (l:=lf) (w:=wd) (c:=c) (i:=i)
  have hr1:=hs2 row hrm
  have hr2:=h2 row hrm
  refine W.skip ?_
  refine xn ?_
  refine W.seq ?_
  refine W.block ?_
  refine W.seq_thaw (l1:=[_,_,_,_]) (o:=_) (l2:=[_]) rfl fun K hK=>?_
  simp(disch:=omega)only[↓RU,RV,RH,↓reduceIte,qE,reduceCtorEq,if_pos,w64,↓RS,RG,qA,qM,qL,ty6,ty7,zab,zce,hrow,hlen]
  refine ⟨_,_,_,_,_,rfl,rfl,rfl,rfl,rfl,rfl,by omega,?_⟩
  simp(disch:=omega)only[↓RU,RV,RH,↓reduceIte,qE,reduceCtorEq,if_pos,w64,↓RS,RG,qA,qM,qL,ty6,ty7,zab,zce,hrow,hlen]
  apply hK;clear hK K
  refine W.seq ?_
  refine W.r fun K hK=>?_
  simp(disch:=omega)only[↓RU,RV,RH,↓reduceIte,qE,reduceCtorEq,if_pos,↓RS,RG,qA,qM,qL]
  apply hK;clear hK K
  refine W.block ?_
  refine W.loop [0,1,2,3,4,5,13,14,15,16] (fun n vs S=>∃ k t2:Nat,n=wd - k∧k≤wd∧vs=[zay p,.int .i64 tp,.int .i64 lf,.int .i64 hg,.int .i64 wd,eB c,.loc 0 v 0 p.length,.int .i64 (i:Int),.loc 1 t 0 row.length,.int .i64 ((lf+k:Nat):Int)]∧S=⟨[.arr v 9 1 ((zjo p tp lf wd c i).map .str),.arr t 5 1 ((zi2 row lf c (lf+k)).map eB)],t2⟩) wd ?_ ?_
  ·refine ⟨2,0,t+1,rfl,by omega,?_,?_⟩
   ·simp [Env.put,Env.of]
   simp [zck,zz4]
  rintro n vs S - ⟨k,t2,rfl,h_k,rfl,rfl⟩
  refine W.seq ?_
  refine W.r fun K hK=>?_
  simp(disch:=omega)only[↓RU,RV,RH,↓reduceIte,qE,reduceCtorEq,if_pos,w64,↓RS,RG,qA,qM,qL,zaa]
  apply hK;clear hK K
  refine W.cond rfl (fun h3=>?_) (fun h3=>?_)
  ·try simp only[RL]at h3
   have hrl:=zkg (row:=row) (l:=lf) (k:=lf+k) (c:=c)
   refine W.skip ?_
   refine xn ?_
   refine W.seq ?_
   refine W.block ?_
   refine W.k fun K hK=>?_
   simp(disch:=omega)only[↓RU,RV,RH,↓reduceIte,qE,reduceCtorEq,if_pos,↓RS,RG,qA,qM,qL,ty7,zce,hrl,zcb,ygp]
   apply hK;clear hK K
   refine XbN ?_
   refine xn ?_
   refine W.k fun K hK=>?_
   simp(disch:=omega)only[↓RU,RV,RH,↓reduceIte,qE,reduceCtorEq,if_pos,w64,↓RS,RG,qA,qM,qL,zaa]
   apply hK;clear hK K
   refine xn ?_
   refine ⟨wd - (k+1),by omega,2,k+1,t2,rfl,by omega,?_,?_⟩
   ·simp [Env.put,Env.of]; omega
   simp only[zck]; rw [zz3 (by omega) (by omega)]; rfl
  try simp only[RL]at h3
  obtain rfl:k=wd:=by omega
  have hrl:=zkg (row:=row) (l:=lf) (k:=lf+k) (c:=c)
  have htk:((zi2 row lf c (lf+k)).map eB).take row.length=(zi2 row lf c (lf+k)).map eB:=qT (by simp [hrl])
  refine W.exit ?_
  refine xe ?_
  refine xe ?_
  refine XBlock.hit ?_
  refine xn ?_
  refine W.k fun K hK=>?_
  simp(disch:=omega)only[↓RU,RV,RH,↓reduceIte,qE,reduceCtorEq,if_pos,w64,↓RS,RG,qA,qM,qL,ty6,ty7,zab,zce,hrl,htk,zsf,hlen,zcb,zrq,zjb,List.length_cons,List.length_nil,qO]
  apply hK;clear hK K
  refine XbN ?_
  refine xn ?_
  refine W.k fun K hK=>?_
  simp(disch:=omega)only[↓RU,RV,RH,↓reduceIte,qE,reduceCtorEq,if_pos,w64,↓RS,RG,qA,qM,qL,zaa]
  apply hK;clear hK K
  refine xn ?_
  refine ⟨hg - (j+1),by omega,1,j+1,t2,v,rfl,by omega,?_,?_⟩
  ·subst hi; simp [Env.put,Env.of]; omega
  subst hi; simp only[zck,List.take_succ_cons,List.take_zero]; rw [z4c (by omega) hrow0]; rfl
 try simp only[RL]at h
 refine W.exit ?_
 refine xe ?_
 refine xe ?_
 refine XBlock.hit ?_
 refine xn ?_
 refine W.r fun K hK=>?_
 simp(disch:=omega)only[↓RU,RV,RH,↓reduceIte,qE,reduceCtorEq,if_pos,↓RS,RG,qA,qM,qL]
 apply hK;clear hK K
 refine W.ret ?_
 refine Br rfl ?_
 obtain rfl:j=hg:=by omega
 exact (zcl (k:=9) rfl (by simp [zhg]) (zhw _)).trans (by simp [zhg])
theorem zqo {p:List Txt} (hs:Sm p):PC Tryz.prog 67 [zay p] (.tup [zay (zi4 p).1,.bool (zi4 p).2]) false:=by
 refine PC.of ⟨Tryz.func67,by kernel_rfl,rfl,by kernel_rfl⟩ zap mixed (by show 1≤Tryz.f67.ntmps; decide) ?_
 refine W.r fun K hK=>?_
 simp(disch:=omega)only[↓RU,RV,RH,↓reduceIte,qE,reduceCtorEq,if_pos,↓RS,RG,qA,qM,qL]
 apply hK;clear hK K
 refine W.seq ?_
 refine W.r fun K hK=>?_
 rcases hgg:(zcw p,zbs (names p)) with ⟨_ | _,_ | _⟩
 ·skip
  simp only[Prod.mk.injEq]at hgg
  obtain ⟨hg1,hg2⟩:=hgg
  simp(disch:=omega)only[↓RU,RV,RH,↓reduceIte,qE,reduceCtorEq,if_pos,qN,↓RS,RG,qA,qM,qL,hg1,hg2]
  refine zac.pc (zf6 hs) rfl (.inl rfl) ?_
  simp(disch:=omega)only[↓RU,RV,RH,↓reduceIte,qE,reduceCtorEq,if_pos,qN,↓RS,RG,qA,qM,qL,hg1,hg2]
  apply hK;clear hK K
  refine W.cond rfl (fun h=>?_) (fun h=>?_)
  ·try simp only[RL]at h
   refine W.r fun K hK=>?_
   simp(disch:=omega)only[↓RU,RV,RH,↓reduceIte,qE,reduceCtorEq,if_pos,qN,↓RS,RG,qA,qM,qL]
   refine zac.pc (zf7) rfl (.inl rfl) ?_
   simp(disch:=omega)only[↓RU,RV,RH,↓reduceIte,qE,reduceCtorEq,if_pos,qN,↓RS,RG,qA,qM,qL]
   apply hK;clear hK K
   refine W.ret ?_
   refine XThen.ret ?_
   refine Br rfl ?_
   rw [show zi4 p=([],false) by unfold zi4; rw [hg1]; rfl]
   rfl
  try simp only[RL]at h
  exact absurd h (by simp)
 ·skip
  simp only[Prod.mk.injEq]at hgg
  obtain ⟨hg1,hg2⟩:=hgg
  simp(disch:=omega)only[↓RU,RV,RH,↓reduceIte,qE,reduceCtorEq,if_pos,qN,↓RS,RG,qA,qM,qL,hg1,hg2]
  refine zac.pc (zf6 hs) rfl (.inl rfl) ?_
  simp(disch:=omega)only[↓RU,RV,RH,↓reduceIte,qE,reduceCtorEq,if_pos,qN,↓RS,RG,qA,qM,qL,hg1,hg2]
  apply hK;clear hK K
  refine W.cond rfl (fun h=>?_) (fun h=>?_)
  ·try simp only[RL]at h
   refine W.r fun K hK=>?_
   simp(disch:=omega)only[↓RU,RV,RH,↓reduceIte,qE,reduceCtorEq,if_pos,qN,↓RS,RG,qA,qM,qL]
   refine zac.pc (zf7) rfl (.inl rfl) ?_
   simp(disch:=omega)only[↓RU,RV,RH,↓reduceIte,qE,reduceCtorEq,if_pos,qN,↓RS,RG,qA,qM,qL]
   apply hK;clear hK K
   refine W.ret ?_
   refine XThen.ret ?_
   refine Br rfl ?_
   rw [show zi4 p=([],false) by unfold zi4; rw [hg1]; rfl]
   rfl
  try simp only[RL]at h
  exact absurd h (by simp)
 ·skip
  simp only[Prod.mk.injEq]at hgg
  obtain ⟨hg1,hg2⟩:=hgg
  simp(disch:=omega)only[↓RU,RV,RH,↓reduceIte,qE,reduceCtorEq,if_pos,qN,↓RS,RG,qA,qM,qL,hg1,hg2]
  refine zac.pc (zf6 hs) rfl (.inl rfl) ?_
  simp(disch:=omega)only[↓RU,RV,RH,↓reduceIte,qE,reduceCtorEq,if_pos,qN,↓RS,RG,qA,qM,qL,hg1,hg2]
  refine zac.pc (zid hs) rfl (.inl rfl) ?_
  simp(disch:=omega)only[↓RU,RV,RH,↓reduceIte,qE,reduceCtorEq,if_pos,qN,↓RS,RG,qA,qM,qL,hg1,hg2]
  refine zac.pc (zfy hs.names) rfl (.inl rfl) ?_
  simp(disch:=omega)only[↓RU,RV,RH,↓reduceIte,qE,reduceCtorEq,if_pos,qN,↓RS,RG,qA,qM,qL,hg1,hg2]
  apply hK;clear hK K
  refine W.cond rfl (fun h=>?_) (fun h=>?_)
  ·try simp only[RL]at h
   refine W.r fun K hK=>?_
   simp(disch:=omega)only[↓RU,RV,RH,↓reduceIte,qE,reduceCtorEq,if_pos,qN,↓RS,RG,qA,qM,qL]
   refine zac.pc (zf7) rfl (.inl rfl) ?_
   simp(disch:=omega)only[↓RU,RV,RH,↓reduceIte,qE,reduceCtorEq,if_pos,qN,↓RS,RG,qA,qM,qL]
   apply hK;clear hK K
   refine W.ret ?_
   refine XThen.ret ?_
   refine Br rfl ?_
   rw [show zi4 p=([],false) by unfold zi4; rw [hg1,hg2]; rfl]
   rfl
  try simp only[RL]at h
  exact absurd h (by simp)
 skip
 simp only[Prod.mk.injEq]at hgg
 obtain ⟨hg1,hg2⟩:=hgg
 simp(disch:=omega)only[↓RU,RV,RH,↓reduceIte,qE,reduceCtorEq,if_pos,qN,↓RS,RG,qA,qM,qL,hg1,hg2]
 refine zac.pc (zf6 hs) rfl (.inl rfl) ?_
 simp(disch:=omega)only[↓RU,RV,RH,↓reduceIte,qE,reduceCtorEq,if_pos,qN,↓RS,RG,qA,qM,qL,hg1,hg2]
 refine zac.pc (zid hs) rfl (.inl rfl) ?_
 simp(disch:=omega)only[↓RU,RV,RH,↓reduceIte,qE,reduceCtorEq,if_pos,qN,↓RS,RG,qA,qM,qL,hg1,hg2]
 refine zac.pc (zfy hs.names) rfl (.inl rfl) ?_
 simp(disch:=omega)only[↓RU,RV,RH,↓reduceIte,qE,reduceCtorEq,if_pos,qN,↓RS,RG,qA,qM,qL,hg1,hg2]
 apply hK;clear hK K
 refine W.cond rfl (fun h=>?_) (fun h=>?_)
 ·try simp only[RL]at h
  exact absurd h (by simp)
 try simp only[RL]at h
 refine W.skip ?_
 refine xn ?_
 refine W.r fun K hK=>?_
 simp(disch:=omega)only[↓RU,RV,RH,↓reduceIte,qE,reduceCtorEq,if_pos,qN,↓RS,RG,qA,qM,qL]
 refine zac.pc (zid hs) rfl (.inl rfl) ?_
 simp(disch:=omega)only[↓RU,RV,RH,↓reduceIte,qE,reduceCtorEq,if_pos,qN,↓RS,RG,qA,qM,qL]
 apply hK;clear hK K
 refine W.ret ?_
 refine Br rfl ?_
 rw [show zi4 p=(names p,true) by unfold zi4; rw [hg1,hg2]; rfl]
 rfl
theorem zop {p:List Txt} (hs:Sm p) (room:Int) {s:Txt} (hsl:s.length≤1048576) (k:Int):PC Tryz.prog 170 [zay p,.int .i64 room,.str s,.int .i64 k] (.tup [zay (zfn p room s k).1,.bool (zfn p room s k).2]) false:=by
 have hrb:=zep p
 refine PC.of ⟨Tryz.func170,by kernel_rfl,rfl,by kernel_rfl⟩ zap mixed (by show 4≤Tryz.f170.ntmps; decide) ?_
 refine W.r fun K hK=>?_
 simp(disch:=omega)only[↓RU,RV,RH,↓reduceIte,qE,reduceCtorEq,if_pos,↓RS,RG,qA,qM,qL]
 apply hK;clear hK K
 refine W.seq ?_
 refine W.r fun K hK=>?_
 simp(disch:=omega)only[↓RU,RV,RH,↓reduceIte,qE,reduceCtorEq,if_pos,qN,↓RS,RG,qA,qM,qL]
 refine zac.pc (z3x hs room) rfl (.inl rfl) ?_
 simp(disch:=omega)only[↓RU,RV,RH,↓reduceIte,qE,reduceCtorEq,if_pos,qN,↓RS,RG,qA,qM,qL]
 apply hK;clear hK K
 refine W.cond rfl (fun h0=>?_) (fun h0=>?_)
 ·try simp only[RL]at h0
  have hgv:(zbs p && (decide (0≤room) && decide (room≤zcg p - 1)))=false:=by simpa using h0
  refine W.r fun K hK=>?_
  simp(disch:=omega)only[↓RU,RV,RH,↓reduceIte,qE,reduceCtorEq,if_pos,qN,↓RS,RG,qA,qM,qL]
  refine zac.pc (zf7) rfl (.inl rfl) ?_
  simp(disch:=omega)only[↓RU,RV,RH,↓reduceIte,qE,reduceCtorEq,if_pos,qN,↓RS,RG,qA,qM,qL]
  apply hK;clear hK K
  refine W.ret ?_
  refine XThen.ret ?_
  refine Br rfl ?_
  first | (rw [zhx hgv]; rfl) | (rw [zhy hgv e1 e2 e3 e4 hB1]; rfl) | (rw [zhz hgv e1 e2 e3 e4 hB1 hB2]; rfl) | (rw [zgc hB1 hB2]; rfl)
 try simp only[RL]at h0
 have hgv:(zbs p && (decide (0≤room) && decide (room≤zcg p - 1)))=true:=by simpa using h0
 have hgv2:=hgv
 simp only[qB,decide_eq_true_eq]at hgv2
 obtain ⟨hp,hr0,hr1⟩:=hgv2
 obtain ⟨t,l,h,w,e1,e2,e3,e4,q1,q2,q3,q4⟩:=yat hp hr0 hr1
 obtain ⟨ps1,ps2,ps3⟩:=znt hp
 have hrw:∀ row∈p,row.length=(zao p).length:=fun row hr=>by obtain ⟨i,hi,rfl⟩:=List.getElem_of_mem hr; exact z8o hp (List.getElem?_eq_getElem hi)
 have hw6:(zao p).length≤6:=by obtain ⟨row,hrow,hrm⟩:=zag ps2; rw [← hrw row hrm]; exact (ps3 row hrm).2
 refine W.skip ?_
 refine xn ?_
 refine W.r fun K hK=>?_
 simp(disch:=omega)only[↓RU,RV,RH,↓reduceIte,qE,reduceCtorEq,if_pos,qN,↓RS,RG,qA,qM,qL,e1,e2,e3,e4]
 refine zac.pc (zwr hs (by omega) room) rfl (.inl rfl) ?_
 simp(disch:=omega)only[↓RU,RV,RH,↓reduceIte,qE,reduceCtorEq,if_pos,qN,↓RS,RG,qA,qM,qL,e1,e2,e3,e4]
 apply hK;clear hK K
 refine W.seq ?_
 refine W.block ?_
 refine W.r fun K hK=>?_
 cases hb1:(s == ([104]:Txt))
 ·skip
  have hB1:((s == [104]) && (decide (1≤k) && decide (k≤zd3 p room - 1)))=false:=by rw [hb1]; rfl
  simp(disch:=omega)only[↓RU,RV,RH,↓reduceIte,qE,reduceCtorEq,if_pos,w64,qN,↓RS,RG,qA,qM,qL,zaa,zab,hb1,zq8]
  apply hK;clear hK K
  refine W.cond rfl (fun h1=>?_) (fun h1=>?_)
  ·try simp only[RL]at h1
   exact absurd h1 (by simp)
  try simp only[RL]at h1
  refine W.r fun K hK=>?_
  cases hb2:(s == ([118]:Txt))
  ·skip
   have hB2:((s == [118]) && (decide (1≤k) && decide (k≤zdy p room - 1)))=false:=by rw [hb2]; rfl
   simp(disch:=omega)only[↓RU,RV,RH,↓reduceIte,qE,reduceCtorEq,if_pos,w64,qN,↓RS,RG,qA,qM,qL,zaa,zab,hb2,zq8]
   apply hK;clear hK K
   refine W.cond rfl (fun h2=>?_) (fun h2=>?_)
   ·try simp only[RL]at h2
    exact absurd h2 (by simp)
   try simp only[RL]at h2
   refine W.skip ?_
   refine XbN ?_
   refine xn ?_
   refine W.r fun K hK=>?_
   simp(disch:=omega)only[↓RU,RV,RH,↓reduceIte,qE,reduceCtorEq,if_pos,qN,↓RS,RG,qA,qM,qL]
   refine zac.pc (zf7) rfl (.inl rfl) ?_
   simp(disch:=omega)only[↓RU,RV,RH,↓reduceIte,qE,reduceCtorEq,if_pos,qN,↓RS,RG,qA,qM,qL]
   apply hK;clear hK K
   refine W.ret ?_
   refine Br rfl ?_
   first | (rw [zhx hgv]; rfl) | (rw [zhy hgv e1 e2 e3 e4 hB1]; rfl) | (rw [zhz hgv e1 e2 e3 e4 hB1 hB2]; rfl) | (rw [zgc hB1 hB2]; rfl)
  skip
  simp(disch:=omega)only[↓RU,RV,RH,↓reduceIte,qE,reduceCtorEq,if_pos,w64,qN,↓RS,RG,qA,qM,qL,zaa,zab,hb2,zq8]
  refine zac.pc (znn _ _ _) rfl (.inl rfl) ?_
  simp(disch:=omega)only[↓RU,RV,RH,↓reduceIte,qE,reduceCtorEq,if_pos,w64,qN,↓RS,RG,qA,qM,qL,zaa,zab,hb2,zq8]
  apply hK;clear hK K
  refine W.cond rfl (fun h2=>?_) (fun h2=>?_)
  ·try simp only[RL]at h2
   have hB2:((s == [118]) && (decide (1≤k) && decide (k≤zdy p room - 1)))=true:=by rw [hb2,e4]; exact h2
   have hk:=h2
   simp only[qB,decide_eq_true_eq]at hk
   obtain ⟨kn,rfl⟩:∃ kn:Nat,k=kn:=⟨k.toNat,by omega⟩
   refine W.r fun K hK=>?_
   simp(disch:=omega)only[↓RU,RV,RH,↓reduceIte,qE,reduceCtorEq,if_pos,w64,qN,↓RS,RG,qA,qM,qL,zaa,show ((l:Int)+(kn:Int))=((l+kn:Nat):Int) from by omega,show ((w:Int) - (kn:Int))=((w - kn:Nat):Int) from by omega]
   refine zac.pc (zug hs (tp:=t) (lf:=l+kn) (hg:=h) (wd:=w - kn) (c:=122) (by omega) (fun row hr=>by rw [hrw row hr]; omega)) rfl (.inl rfl) ?_
   simp(disch:=omega)only[↓RU,RV,RH,↓reduceIte,qE,reduceCtorEq,if_pos,w64,qN,↓RS,RG,qA,qM,qL,zaa,show ((l:Int)+(kn:Int))=((l+kn:Nat):Int) from by omega,show ((w:Int) - (kn:Int))=((w - kn:Nat):Int) from by omega]
   refine zac.pc (zqo (zus hs)) rfl (.inr rfl) ?_
   simp(disch:=omega)only[↓RU,RV,RH,↓reduceIte,qE,reduceCtorEq,if_pos,w64,qN,↓RS,RG,qA,qM,qL,zaa,show ((l:Int)+(kn:Int))=((l+kn:Nat):Int) from by omega,show ((w:Int) - (kn:Int))=((w - kn:Nat):Int) from by omega]
   apply hK;clear hK K
   refine W.ret ?_
   refine XBlock.ret ?_
   refine XThen.ret ?_
   refine Br rfl ?_
   first | (rw [zhx hgv]; rfl) | (rw [zhy hgv e1 e2 e3 e4 hB1]; rfl) | (rw [zhz hgv e1 e2 e3 e4 hB1 hB2]; rfl) | (rw [zgc hB1 hB2]; rfl)
  try simp only[RL]at h2
  have hB2:((s == [118]) && (decide (1≤k) && decide (k≤zdy p room - 1)))=false:=by rw [hb2,e4]; exact h2
  refine W.skip ?_
  refine XbN ?_
  refine xn ?_
  refine W.r fun K hK=>?_
  simp(disch:=omega)only[↓RU,RV,RH,↓reduceIte,qE,reduceCtorEq,if_pos,qN,↓RS,RG,qA,qM,qL]
  refine zac.pc (zf7) rfl (.inl rfl) ?_
  simp(disch:=omega)only[↓RU,RV,RH,↓reduceIte,qE,reduceCtorEq,if_pos,qN,↓RS,RG,qA,qM,qL]
  apply hK;clear hK K
  refine W.ret ?_
  refine Br rfl ?_
  first | (rw [zhx hgv]; rfl) | (rw [zhy hgv e1 e2 e3 e4 hB1]; rfl) | (rw [zhz hgv e1 e2 e3 e4 hB1 hB2]; rfl) | (rw [zgc hB1 hB2]; rfl)
 skip
 simp(disch:=omega)only[↓RU,RV,RH,↓reduceIte,qE,reduceCtorEq,if_pos,w64,qN,↓RS,RG,qA,qM,qL,zaa,zab,hb1,zq8]
 refine zac.pc (znn _ _ _) rfl (.inl rfl) ?_
 simp(disch:=omega)only[↓RU,RV,RH,↓reduceIte,qE,reduceCtorEq,if_pos,w64,qN,↓RS,RG,qA,qM,qL,zaa,zab,hb1,zq8]
 apply hK;clear hK K
 refine W.cond rfl (fun h1=>?_) (fun h1=>?_)
 ·try simp only[RL]at h1
  have hB1:((s == [104]) && (decide (1≤k) && decide (k≤zd3 p room - 1)))=true:=by rw [hb1,e3]; exact h1
  have hk:=h1
  simp only[qB,decide_eq_true_eq]at hk
  obtain ⟨kn,rfl⟩:∃ kn:Nat,k=kn:=⟨k.toNat,by omega⟩
  refine W.r fun K hK=>?_
  simp(disch:=omega)only[↓RU,RV,RH,↓reduceIte,qE,reduceCtorEq,if_pos,w64,qN,↓RS,RG,qA,qM,qL,zaa,show ((t:Int)+(kn:Int))=((t+kn:Nat):Int) from by omega,show ((h:Int) - (kn:Int))=((h - kn:Nat):Int) from by omega]
  refine zac.pc (zug hs (tp:=t+kn) (lf:=l) (hg:=h - kn) (wd:=w) (c:=122) (by omega) (fun row hr=>by rw [hrw row hr]; omega)) rfl (.inl rfl) ?_
  simp(disch:=omega)only[↓RU,RV,RH,↓reduceIte,qE,reduceCtorEq,if_pos,w64,qN,↓RS,RG,qA,qM,qL,zaa,show ((t:Int)+(kn:Int))=((t+kn:Nat):Int) from by omega,show ((h:Int) - (kn:Int))=((h - kn:Nat):Int) from by omega]
  refine zac.pc (zqo (zus hs)) rfl (.inr rfl) ?_
  simp(disch:=omega)only[↓RU,RV,RH,↓reduceIte,qE,reduceCtorEq,if_pos,w64,qN,↓RS,RG,qA,qM,qL,zaa,show ((t:Int)+(kn:Int))=((t+kn:Nat):Int) from by omega,show ((h:Int) - (kn:Int))=((h - kn:Nat):Int) from by omega]
  apply hK;clear hK K
  refine W.ret ?_
  refine XBlock.ret ?_
  refine XThen.ret ?_
  refine Br rfl ?_
  first | (rw [zhx hgv]; rfl) | (rw [zhy hgv e1 e2 e3 e4 hB1]; rfl) | (rw [zhz hgv e1 e2 e3 e4 hB1 hB2]; rfl) | (rw [zgc hB1 hB2]; rfl)
 try simp only[RL]at h1
 have hB1:((s == [104]) && (decide (1≤k) && decide (k≤zd3 p room - 1)))=false:=by rw [hb1,e3]; exact h1
 refine W.r fun K hK=>?_
 cases hb2:(s == ([118]:Txt))
 ·skip
  have hB2:((s == [118]) && (decide (1≤k) && decide (k≤zdy p room - 1)))=false:=by rw [hb2]; rfl
  simp(disch:=omega)only[↓RU,RV,RH,↓reduceIte,qE,reduceCtorEq,if_pos,w64,qN,↓RS,RG,qA,qM,qL,zaa,zab,hb2,zq8]
  apply hK;clear hK K
  refine W.cond rfl (fun h2=>?_) (fun h2=>?_)
  ·try simp only[RL]at h2
   exact absurd h2 (by simp)
  try simp only[RL]at h2
  refine W.skip ?_
  refine XbN ?_
  refine xn ?_
  refine W.r fun K hK=>?_
  simp(disch:=omega)only[↓RU,RV,RH,↓reduceIte,qE,reduceCtorEq,if_pos,qN,↓RS,RG,qA,qM,qL]
  refine zac.pc (zf7) rfl (.inl rfl) ?_
  simp(disch:=omega)only[↓RU,RV,RH,↓reduceIte,qE,reduceCtorEq,if_pos,qN,↓RS,RG,qA,qM,qL]
  apply hK;clear hK K
  refine W.ret ?_
  refine Br rfl ?_
  first | (rw [zhx hgv]; rfl) | (rw [zhy hgv e1 e2 e3 e4 hB1]; rfl) | (rw [zhz hgv e1 e2 e3 e4 hB1 hB2]; rfl) | (rw [zgc hB1 hB2]; rfl)
 skip
 simp(disch:=omega)only[↓RU,RV,RH,↓reduceIte,qE,reduceCtorEq,if_pos,w64,qN,↓RS,RG,qA,qM,qL,zaa,zab,hb2,zq8]
 refine zac.pc (znn _ _ _) rfl (.inl rfl) ?_
 simp(disch:=omega)only[↓RU,RV,RH,↓reduceIte,qE,reduceCtorEq,if_pos,w64,qN,↓RS,RG,qA,qM,qL,zaa,zab,hb2,zq8]
 apply hK;clear hK K
 refine W.cond rfl (fun h2=>?_) (fun h2=>?_)
 ·try simp only[RL]at h2
  have hB2:((s == [118]) && (decide (1≤k) && decide (k≤zdy p room - 1)))=true:=by rw [hb2,e4]; exact h2
  have hk:=h2
  simp only[qB,decide_eq_true_eq]at hk
  obtain ⟨kn,rfl⟩:∃ kn:Nat,k=kn:=⟨k.toNat,by omega⟩
  refine W.r fun K hK=>?_
  simp(disch:=omega)only[↓RU,RV,RH,↓reduceIte,qE,reduceCtorEq,if_pos,w64,qN,↓RS,RG,qA,qM,qL,zaa,show ((l:Int)+(kn:Int))=((l+kn:Nat):Int) from by omega,show ((w:Int) - (kn:Int))=((w - kn:Nat):Int) from by omega]
  refine zac.pc (zug hs (tp:=t) (lf:=l+kn) (hg:=h) (wd:=w - kn) (c:=122) (by omega) (fun row hr=>by rw [hrw row hr]; omega)) rfl (.inl rfl) ?_
  simp(disch:=omega)only[↓RU,RV,RH,↓reduceIte,qE,reduceCtorEq,if_pos,w64,qN,↓RS,RG,qA,qM,qL,zaa,show ((l:Int)+(kn:Int))=((l+kn:Nat):Int) from by omega,show ((w:Int) - (kn:Int))=((w - kn:Nat):Int) from by omega]
  refine zac.pc (zqo (zus hs)) rfl (.inr rfl) ?_
  simp(disch:=omega)only[↓RU,RV,RH,↓reduceIte,qE,reduceCtorEq,if_pos,w64,qN,↓RS,RG,qA,qM,qL,zaa,show ((l:Int)+(kn:Int))=((l+kn:Nat):Int) from by omega,show ((w:Int) - (kn:Int))=((w - kn:Nat):Int) from by omega]
  apply hK;clear hK K
  refine W.ret ?_
  refine XBlock.ret ?_
  refine XThen.ret ?_
  refine Br rfl ?_
  first | (rw [zhx hgv]; rfl) | (rw [zhy hgv e1 e2 e3 e4 hB1]; rfl) | (rw [zhz hgv e1 e2 e3 e4 hB1 hB2]; rfl) | (rw [zgc hB1 hB2]; rfl)
 try simp only[RL]at h2
 have hB2:((s == [118]) && (decide (1≤k) && decide (k≤zdy p room - 1)))=false:=by rw [hb2,e4]; exact h2
 refine W.skip ?_
 refine XbN ?_
 refine xn ?_
 refine W.r fun K hK=>?_
 simp(disch:=omega)only[↓RU,RV,RH,↓reduceIte,qE,reduceCtorEq,if_pos,qN,↓RS,RG,qA,qM,qL]
 refine zac.pc (zf7) rfl (.inl rfl) ?_
 simp(disch:=omega)only[↓RU,RV,RH,↓reduceIte,qE,reduceCtorEq,if_pos,qN,↓RS,RG,qA,qM,qL]
 apply hK;clear hK K
 refine W.ret ?_
 refine Br rfl ?_
 first | (rw [zhx hgv]; rfl) | (rw [zhy hgv e1 e2 e3 e4 hB1]; rfl) | (rw [zhz hgv e1 e2 e3 e4 hB1 hB2]; rfl) | (rw [zgc hB1 hB2]; rfl)
theorem zfw {code:Txt} {q vr t:Nat} {R:List Ob} (hc:code.length≤1048576) (hq:q≤1000000) (n:Int) (hn:n≤1000000) (hn0 : -1000000≤n) :
  Ev Tryz.prog 99 [.ref 0 vr 0,.int .i64 n] ⟨.arr vr 131 2 [eBy code,.int .i64 (q:Int)]::R,t⟩ fun v S=>∃ k:Nat,v = .int .i64 (k:Int)∧(n<1→k=0)∧(1≤n→(k:Int)<n)∧S=⟨.arr vr 131 2 [eBy code,.int .i64 ((q+1:Nat):Int)]::R,t⟩ :=
 yas hc hq n hn hn0
theorem ygh {code:Txt} {q vr t v1:Nat} {R:List Ob} {l:List Txt} (hc:code.length≤1048576) (hq:q≤1000000) (hl:1≤l.length) (hl2:l.length≤1000):Ev Tryz.prog 100 [.ref 0 vr 0,.loc 1 v1 0 l.length] ⟨.arr vr 131 2 [eBy code,.int .i64 (q:Int)] :: .arr v1 9 1 (l.map .str)::R,t⟩ fun v S=>∃ s,s∈l∧v = .str s∧S=⟨.arr vr 131 2 [eBy code,.int .i64 ((q+1:Nat):Int)] :: .arr v1 9 1 (l.map .str)::R,t⟩:=by
 refine Ev.of ⟨Tryz.func100,by kernel_rfl,rfl,by kernel_rfl⟩ zap mixed (by show 2≤Tryz.f100.ntmps; decide) ?_
 refine W.r fun K hK=>?_
 simp(disch:=omega)only[↓RU,RV,RH,↓reduceIte,qE,reduceCtorEq,if_pos,↓RS,RG,qA,qM,qL]
 apply hK;clear hK K
 refine W.r fun K hK=>?_
 simp(disch:=omega)only[↓RU,RV,RH,↓reduceIte,qE,reduceCtorEq,if_pos,qN,↓RS,RG,qA,qM,qL,ty6,zab]
 refine zac.ev (zfw hc hq (l.length:Int) (by omega) (by omega)) ?_
 rintro _ _ ⟨k,rfl,-,hk,rfl⟩
 have hk2:=hk (by omega)
 obtain ⟨s,hsk,hsm⟩:=zag (show k<l.length by omega)
 simp(disch:=omega)only[↓RU,RV,RH,↓reduceIte,qE,reduceCtorEq,if_pos,qN,↓RS,RG,qA,qM,qL,ty6,zab,hsk]
 apply hK;clear hK K
 refine W.ret ?_
 refine Br rfl ?_
 exact ⟨_,s,hsm,rfl,zal⟩
theorem zzl {nh nw:Nat} (hn:nh≤100) (hm:nw≤100):PC Tryz.prog 151 [.int .i64 nh,.int .i64 nw] (zay (List.replicate nh (List.replicate nw (97:UInt8)))) true:=by
 refine PC.of ⟨Tryz.func151,by kernel_rfl,rfl,by kernel_rfl⟩ zap mixed (by show 2≤Tryz.f151.ntmps; decide) ?_
 refine W.r fun K hK=>?_
 simp(disch:=omega)only[↓RU,RV,RH,↓reduceIte,qE,reduceCtorEq,if_pos,↓RS,RG,qA,qM,qL]
 apply hK;clear hK K
 refine W.r fun K hK=>?_
 simp(disch:=omega)only[↓RU,RV,RH,↓reduceIte,qE,reduceCtorEq,if_pos,↓RS,RG,qA,qM,qL,ty6,zab]
 apply hK;clear hK K
 refine W.seq ?_
 refine W.r fun K hK=>?_
 simp(disch:=omega)only[↓RU,RV,RH,↓reduceIte,qE,reduceCtorEq,if_pos,↓RS,RG,qA,qM,qL]
 apply hK;clear hK K
 refine W.block ?_
 refine W.loop [0,1,5,6] (fun n vs S=>∃ i v0 tk:Nat,n=nh - i∧i≤nh∧vs=[.int .i64 nh,.int .i64 nw,.loc 0 v0 0 i,.int .i64 i]∧S=⟨[.arr v0 9 1 ((List.replicate i (List.replicate nw (97:UInt8))).map .str)],tk⟩) (nh) ?_ ?_
 ·refine ⟨1,0,0,1,rfl,Nat.zero_le _,?_,rfl⟩
  simp [Env.put,Env.of,zae]
 rintro n vs S - ⟨i,v0,tk,rfl,h_i,rfl,rfl⟩
 refine W.seq ?_
 refine W.r fun K hK=>?_
 simp(disch:=omega)only[↓RU,RV,RH,↓reduceIte,qE,reduceCtorEq,if_pos,w64,↓RS,RG,qA,qM,qL,zaa]
 apply hK;clear hK K
 refine W.cond rfl (fun h=>?_) (fun h=>?_)
 ·try simp only[RL]at h
  refine W.skip ?_
  refine xn ?_
  refine W.seq ?_
  refine W.block ?_
  refine W.r fun K hK=>?_
  simp(disch:=omega)only[↓RU,RV,RH,↓reduceIte,qE,reduceCtorEq,if_pos,↓RS,RG,qA,qM,qL,ty7,zce]
  apply hK;clear hK K
  refine W.seq ?_
  refine W.r fun K hK=>?_
  simp(disch:=omega)only[↓RU,RV,RH,↓reduceIte,qE,reduceCtorEq,if_pos,↓RS,RG,qA,qM,qL]
  apply hK;clear hK K
  refine W.block ?_
  refine W.loop [0,1,5,6,7,8] (fun n vs S=>∃ k v1 tk:Nat,n=nw - k∧k≤nw∧vs=[.int .i64 nh,.int .i64 nw,.loc 0 v0 0 i,.int .i64 i,.loc 1 v1 0 k,.int .i64 k]∧S=⟨[.arr v0 9 1 ((List.replicate i (List.replicate nw (97:UInt8))).map .str),.arr v1 5 1 ((List.replicate k (97:UInt8)).map eB)],tk⟩) (nw) ?_ ?_
  ·refine ⟨2,0,tk,tk+1,rfl,Nat.zero_le _,?_,rfl⟩
   simp [Env.put,Env.of]
  rintro n vs S - ⟨k,v1,tk,rfl,h_k,rfl,rfl⟩
  refine W.seq ?_
  refine W.r fun K hK=>?_
  simp(disch:=omega)only[↓RU,RV,RH,↓reduceIte,qE,reduceCtorEq,if_pos,w64,↓RS,RG,qA,qM,qL,zaa]
  apply hK;clear hK K
  refine W.cond rfl (fun h1=>?_) (fun h1=>?_)
  ·try simp only[RL]at h1
   refine W.skip ?_
   refine xn ?_
   refine W.seq ?_
   refine W.block ?_
   refine W.k fun K hK=>?_
   simp(disch:=omega)only[↓RU,RV,RH,↓reduceIte,qE,reduceCtorEq,if_pos,↓RS,RG,qA,qM,qL,ty7,zce,List.length_replicate]
   apply hK;clear hK K
   refine XbN ?_
   refine xn ?_
   refine W.k fun K hK=>?_
   simp(disch:=omega)only[↓RU,RV,RH,↓reduceIte,qE,reduceCtorEq,if_pos,w64,↓RS,RG,qA,qM,qL,zaa]
   apply hK;clear hK K
   refine xn ?_
   refine ⟨nw - (k+1),by omega,2,k+1,tk+1,tk+2,rfl,by omega,?_,?_⟩
   all_goals simp [Env.put,Env.of,zck,zyo,List.replicate_succ',List.map_append]
  ·try simp only[RL]at h1
   obtain rfl:k=nw:=by omega
   have hbo:=zsf (List.replicate k (97:UInt8))
   have htk:((List.replicate k (97:UInt8)).map eB).take k=(List.replicate k (97:UInt8)).map eB:=qT (by simp)
   refine W.exit ?_
   refine xe ?_
   refine xe ?_
   refine XBlock.hit ?_
   refine xn ?_
   refine W.k fun K hK=>?_
   simp(disch:=omega)only[↓RU,RV,RH,↓reduceIte,qE,reduceCtorEq,if_pos,w64,↓RS,RG,qA,qM,qL,ty6,ty7,zab,zce,List.length_replicate,htk,hbo]
   apply hK;clear hK K
   refine XbN ?_
   refine xn ?_
   refine W.k fun K hK=>?_
   simp(disch:=omega)only[↓RU,RV,RH,↓reduceIte,qE,reduceCtorEq,if_pos,w64,↓RS,RG,qA,qM,qL,zaa]
   apply hK;clear hK K
   refine xn ?_
   refine ⟨nh - (i+1),by omega,1,i+1,tk+1,tk+2,rfl,by omega,?_,?_⟩
   all_goals simp [Env.put,Env.of,zck,zyo,List.replicate_succ',List.map_append]
 try simp only[RL]at h
 obtain rfl:i=nh:=by omega
 refine W.exit ?_
 refine xe ?_
 refine xe ?_
 refine XBlock.hit ?_
 refine xn ?_
 refine W.r fun K hK=>?_
 simp(disch:=omega)only[↓RU,RV,RH,↓reduceIte,qE,reduceCtorEq,if_pos,↓RS,RG,qA,qM,qL]
 apply hK;clear hK K
 refine W.ret ?_
 refine Br rfl ?_
 exact (zcl (k:=9) rfl (by simp) (zhw _)).trans (by simp)
theorem zdg {S:Store} {k ver off:Nat}:frz S 1 (k+1) (.ref 0 ver off)=some (.ref 0 ver off):=by simp [frz]
theorem zec (p:List Txt):List.take p.length (p.map PV.str)=p.map .str:=qT (by simp)
theorem zdh {S:Store} {lo k:Nat} (l:List Txt):(l.map PV.str).mapM (rfz S lo (k+1))=some (l.map PV.str):=zu1 (fun _=>rfl) l
theorem zzx {p:List Txt} (h:zbs p=true):Sm p:=by
 obtain ⟨h1,-,h3⟩:=znt h
 exact ⟨by omega,fun r hr=>by have:=(h3 r hr).2; omega⟩
theorem zrb {p:List Txt} (h:zbs p=true):zcg p≤9:=by
 unfold zbs at h; simp only[qB,decide_eq_true_eq]at h; omega
theorem yb6 {s:Txt} (h:s∈([[104],[118]]:List Txt)):s.length≤1048576:=by
 simp only[List.mem_cons,List.not_mem_nil,or_false]at h
 rcases h with rfl | rfl <;> simp
theorem z6y {code:Txt} {q vr t:Nat} {R:List Ob} (hc:code.length≤1048576) (hq:q≤900000) {p:List Txt} (hp:zbs p=true) {many:Nat} (hm:many≤1000):Ev Tryz.prog 150 [.ref 0 vr 0,zay p,.int .i64 many] ⟨.arr vr 131 2 [eBy code,.int .i64 (q:Int)]::R,t⟩ fun v S=>∃ (p2:List Txt) (q2 t2:Nat),v=zay p2∧zbs p2=true∧p2.length=p.length∧q2≤q+3*many∧S=⟨[.arr vr 131 2 [eBy code,.int .i64 (q2:Int)]],t2⟩:=by
 refine Ev.of ⟨Tryz.func150,by kernel_rfl,rfl,by kernel_rfl⟩ zap mixed (by show 3≤Tryz.f150.ntmps; decide) ?_
 refine W.r fun K hK=>?_
 simp(disch:=omega)only[↓RU,RV,RH,↓reduceIte,qE,reduceCtorEq,if_pos,↓RS,RG,qA,qM,qL]
 apply hK;clear hK K
 refine W.seq ?_
 refine W.r fun K hK=>?_
 simp(disch:=omega)only[↓RU,RV,RH,↓reduceIte,qE,reduceCtorEq,if_pos,↓RS,RG,qA,qM,qL]
 apply hK;clear hK K
 refine W.block ?_
 refine W.loopZ [0,1,2,7] (fun n vs S=>∃ (i:Nat) (p2:List Txt) (q2 tk:Nat),n=many - i∧i≤many∧zbs p2=true∧p2.length=p.length∧q2≤q+3*i∧vs=[.ref 0 vr 0,zay p2,.int .i64 many,.int .i64 i]∧S=⟨[.arr vr 131 2 [eBy code,.int .i64 (q2:Int)]],tk⟩) many ?_ ?_
 ·refine ⟨1,[.ref 0 vr 0,zay p,.int .i64 many,.int .i64 (0:Nat)],⟨[.arr vr 131 2 [eBy code,.int .i64 (q:Int)]],t⟩,?_,?_,0,p,q,t,rfl,by omega,hp,rfl,by omega,rfl,rfl⟩
  ·simp [-qU,Store.frz,zcq,zc4,za3,zb9,zbg,zb8,zc2,zbj,zbn,zbk,za2,za4,zca,zbm,zb7,zbi,Env.put,Env.of,zae,zbf,qP,qC,zdg,zec,zdh]
  simp [-qU,Store.frz,zcq,zc4,za3,zb9,zbg,zb8,zc2,zbj,zbn,zbk,za2,za4,zca,zbm,zb7,zbi,Env.put,Env.of,zae,zbf,qP,qC,zdg,zec,zdh]
 rintro n vs S - ⟨i,p2,q2,tk,rfl,h_i,hp2,hl2,hq2,rfl,rfl⟩
 refine W.seq ?_
 refine W.r fun K hK=>?_
 simp(disch:=omega)only[↓RU,RV,RH,↓reduceIte,qE,reduceCtorEq,if_pos,w64,↓RS,RG,qA,qM,qL,zaa]
 apply hK;clear hK K
 refine W.cond rfl (fun h=>?_) (fun h=>?_)
 ·try simp only[RL]at h
  have hs2:=zzx hp2
  have hr9:=zrb hp2
  have hrb:=zep p2
  refine W.skip ?_
  refine xn ?_
  refine W.seq ?_
  refine W.block ?_
  refine W.r fun K hK=>?_
  simp(disch:=omega)only[↓RU,RV,RH,↓reduceIte,qE,reduceCtorEq,if_pos,qN,↓RS,RG,qA,qM,qL]
  refine zac.pc (zfs hs2) rfl (.inl rfl) ?_
  simp(disch:=omega)only[↓RU,RV,RH,↓reduceIte,qE,reduceCtorEq,if_pos,qN,↓RS,RG,qA,qM,qL]
  refine zac.ev (zfw hc (by omega) (zcg p2) (by omega) (by omega)) ?_
  rintro _ _ ⟨k1,rfl,-,-,rfl⟩
  simp(disch:=omega)only[↓RU,RV,RH,↓reduceIte,qE,reduceCtorEq,if_pos,qN,↓RS,RG,qA,qM,qL]
  apply hK;clear hK K
  refine W.r fun K hK=>?_
  simp(disch:=omega)only[↓RU,RV,RH,↓reduceIte,qE,reduceCtorEq,if_pos,qN,w64,↓RS,RG,qA,qM,qL,ty6,zaa,zab]
  refine zac.ev (ygh (R:=[]) (l:=[[104],[118]]) hc (by omega) (by simp) (by simp)) ?_
  rintro _ _ ⟨s,hsm,rfl,rfl⟩
  have hsl:=yb6 hsm
  simp(disch:=omega)only[↓RU,RV,RH,↓reduceIte,qE,reduceCtorEq,if_pos,qN,w64,↓RS,RG,qA,qM,qL,ty6,zaa,zab]
  refine zac.ev (zfw (q:=q2+1+1) hc (by omega) 3 (by omega) (by omega)) ?_
  rintro _ _ ⟨k2,rfl,-,hk2,rfl⟩
  have hk3:=hk2 (by omega)
  simp(disch:=omega)only[↓RU,RV,RH,↓reduceIte,qE,reduceCtorEq,if_pos,qN,w64,↓RS,RG,qA,qM,qL,ty6,zaa,zab]
  refine zac.pc (zop hs2 k1 hsl (1+k2)) rfl (.inr rfl) ?_
  simp(disch:=omega)only[↓RU,RV,RH,↓reduceIte,qE,reduceCtorEq,if_pos,qN,w64,↓RS,RG,qA,qM,qL,ty6,zaa,zab]
  apply hK;clear hK K
  refine W.r fun K hK=>?_
  simp(disch:=omega)only[↓RU,RV,RH,↓reduceIte,qE,reduceCtorEq,if_pos,↓RS,RG,qA,qM,qL]
  apply hK;clear hK K
  refine W.cond rfl (fun h1=>?_) (fun h1=>?_)
  ·try simp only[RL]at h1
   obtain ⟨ho1,ho2⟩:=zyg h1
   refine W.k fun K hK=>?_
   simp(disch:=omega)only[↓RU,RV,RH,↓reduceIte,qE,reduceCtorEq,if_pos,↓RS,RG,qA,qM,qL]
   apply hK;clear hK K
   refine XbN ?_
   refine xn ?_
   refine W.k fun K hK=>?_
   simp(disch:=omega)only[↓RU,RV,RH,↓reduceIte,qE,reduceCtorEq,if_pos,w64,↓RS,RG,qA,qM,qL,zaa]
   apply hK;clear hK K
   refine xn ?_
   refine ⟨many - (i+1),by omega,1,[.ref 0 vr 0,zay (zfn p2 k1 s (1+k2)).1,.int .i64 many,.int .i64 ((i+1:Nat):Int)],⟨[.arr vr 131 2 [eBy code,.int .i64 ((q2+1+1+1:Nat):Int)]],tk+1⟩,?_,?_,i+1,(zfn p2 k1 s (1+k2)).1,q2+1+1+1,tk+1,rfl,by omega,ho1,ho2.trans hl2,by omega,rfl,rfl⟩
   ·simp [-qU,Store.frz,zcq,zc4,za3,zb9,zbg,zb8,zc2,zbj,zbn,zbk,za2,za4,zca,zbm,zb7,zbi,Env.put,Env.of,zae,zbf,qP,qC,zdg,zec,zdh]
   simp [-qU,Store.frz,zcq,zc4,za3,zb9,zbg,zb8,zc2,zbj,zbn,zbk,za2,za4,zca,zbm,zb7,zbi,Env.put,Env.of,zae,zbf,qP,qC,zdg,zec,zdh]
  try simp only[RL]at h1
  refine W.skip ?_
  refine XbN ?_
  refine xn ?_
  refine W.k fun K hK=>?_
  simp(disch:=omega)only[↓RU,RV,RH,↓reduceIte,qE,reduceCtorEq,if_pos,w64,↓RS,RG,qA,qM,qL,zaa]
  apply hK;clear hK K
  refine xn ?_
  refine ⟨many - (i+1),by omega,1,[.ref 0 vr 0,zay p2,.int .i64 many,.int .i64 ((i+1:Nat):Int)],⟨[.arr vr 131 2 [eBy code,.int .i64 ((q2+1+1+1:Nat):Int)]],tk+1⟩,?_,?_,i+1,p2,q2+1+1+1,tk+1,rfl,by omega,hp2,hl2,by omega,rfl,rfl⟩
  ·simp [-qU,Store.frz,zcq,zc4,za3,zb9,zbg,zb8,zc2,zbj,zbn,zbk,za2,za4,zca,zbm,zb7,zbi,Env.put,Env.of,zae,zbf,qP,qC,zdg,zec,zdh]
  simp [-qU,Store.frz,zcq,zc4,za3,zb9,zbg,zb8,zc2,zbj,zbn,zbk,za2,za4,zca,zbm,zb7,zbi,Env.put,Env.of,zae,zbf,qP,qC,zdg,zec,zdh]
 try simp only[RL]at h
 obtain rfl:i=many:=by omega
 refine W.exit ?_
 refine xe ?_
 refine xe ?_
 refine XBlock.hit ?_
 refine xn ?_
 refine W.r fun K hK=>?_
 simp(disch:=omega)only[↓RU,RV,RH,↓reduceIte,qE,reduceCtorEq,if_pos,↓RS,RG,qA,qM,qL]
 apply hK;clear hK K
 refine W.ret ?_
 refine Br rfl ?_
 exact ⟨_,p2,q2,tk,rfl,hp2,hl2,by omega,zal⟩
theorem zs1 {code:Txt} {q vr t v1:Nat} {R:List Ob} (hc:code.length≤1048576) (hq:q≤900000) {p:List Txt} (hp:zbs p=true) {many:Nat} (hm:many≤1000):Ev Tryz.prog 150 [.ref 0 vr 0,.loc 1 v1 0 p.length,.int .i64 many] ⟨.arr vr 131 2 [eBy code,.int .i64 (q:Int)] :: .arr v1 9 1 (p.map .str)::R,t⟩ fun v S=>∃ (p2:List Txt) (q2 t2:Nat),v=zay p2∧zbs p2=true∧p2.length=p.length∧q2≤q+3*many∧S=⟨[.arr vr 131 2 [eBy code,.int .i64 (q2:Int)]],t2⟩:=by
 refine Ev.of ⟨Tryz.func150,by kernel_rfl,rfl,by kernel_rfl⟩ zap mixed (by show 3≤Tryz.f150.ntmps; decide) ?_
 refine W.r fun K hK=>?_
 simp(disch:=omega)only[↓RU,RV,RH,↓reduceIte,qE,reduceCtorEq,if_pos,↓RS,RG,qA,qM,qL]
 apply hK;clear hK K
 refine W.seq ?_
 refine W.r fun K hK=>?_
 simp(disch:=omega)only[↓RU,RV,RH,↓reduceIte,qE,reduceCtorEq,if_pos,↓RS,RG,qA,qM,qL]
 apply hK;clear hK K
 refine W.block ?_
 refine W.loopZ [0,1,2,7] (fun n vs S=>∃ (i:Nat) (p2:List Txt) (q2 tk:Nat),n=many - i∧i≤many∧zbs p2=true∧p2.length=p.length∧q2≤q+3*i∧vs=[.ref 0 vr 0,zay p2,.int .i64 many,.int .i64 i]∧S=⟨[.arr vr 131 2 [eBy code,.int .i64 (q2:Int)]],tk⟩) many ?_ ?_
 ·refine ⟨1,[.ref 0 vr 0,zay p,.int .i64 many,.int .i64 (0:Nat)],⟨[.arr vr 131 2 [eBy code,.int .i64 (q:Int)]],t⟩,?_,?_,0,p,q,t,rfl,by omega,hp,rfl,by omega,rfl,rfl⟩
  ·simp [-qU,Store.frz,zcq,zc4,za3,zb9,zbg,zb8,zc2,zbj,zbn,zbk,za2,za4,zca,zbm,zb7,zbi,Env.put,Env.of,zae,zbf,qP,qC,zdg,zec,zdh]
  simp [-qU,Store.frz,zcq,zc4,za3,zb9,zbg,zb8,zc2,zbj,zbn,zbk,za2,za4,zca,zbm,zb7,zbi,Env.put,Env.of,zae,zbf,qP,qC,zdg,zec,zdh]
 rintro n vs S - ⟨i,p2,q2,tk,rfl,h_i,hp2,hl2,hq2,rfl,rfl⟩
 refine W.seq ?_
 refine W.r fun K hK=>?_
 simp(disch:=omega)only[↓RU,RV,RH,↓reduceIte,qE,reduceCtorEq,if_pos,w64,↓RS,RG,qA,qM,qL,zaa]
 apply hK;clear hK K
 refine W.cond rfl (fun h=>?_) (fun h=>?_)
 ·try simp only[RL]at h
  have hs2:=zzx hp2
  have hr9:=zrb hp2
  have hrb:=zep p2
  refine W.skip ?_
  refine xn ?_
  refine W.seq ?_
  refine W.block ?_
  refine W.r fun K hK=>?_
  simp(disch:=omega)only[↓RU,RV,RH,↓reduceIte,qE,reduceCtorEq,if_pos,qN,↓RS,RG,qA,qM,qL]
  refine zac.pc (zfs hs2) rfl (.inl rfl) ?_
  simp(disch:=omega)only[↓RU,RV,RH,↓reduceIte,qE,reduceCtorEq,if_pos,qN,↓RS,RG,qA,qM,qL]
  refine zac.ev (zfw hc (by omega) (zcg p2) (by omega) (by omega)) ?_
  rintro _ _ ⟨k1,rfl,-,-,rfl⟩
  simp(disch:=omega)only[↓RU,RV,RH,↓reduceIte,qE,reduceCtorEq,if_pos,qN,↓RS,RG,qA,qM,qL]
  apply hK;clear hK K
  refine W.r fun K hK=>?_
  simp(disch:=omega)only[↓RU,RV,RH,↓reduceIte,qE,reduceCtorEq,if_pos,qN,w64,↓RS,RG,qA,qM,qL,ty6,zaa,zab]
  refine zac.ev (ygh (R:=[]) (l:=[[104],[118]]) hc (by omega) (by simp) (by simp)) ?_
  rintro _ _ ⟨s,hsm,rfl,rfl⟩
  have hsl:=yb6 hsm
  simp(disch:=omega)only[↓RU,RV,RH,↓reduceIte,qE,reduceCtorEq,if_pos,qN,w64,↓RS,RG,qA,qM,qL,ty6,zaa,zab]
  refine zac.ev (zfw (q:=q2+1+1) hc (by omega) 3 (by omega) (by omega)) ?_
  rintro _ _ ⟨k2,rfl,-,hk2,rfl⟩
  have hk3:=hk2 (by omega)
  simp(disch:=omega)only[↓RU,RV,RH,↓reduceIte,qE,reduceCtorEq,if_pos,qN,w64,↓RS,RG,qA,qM,qL,ty6,zaa,zab]
  refine zac.pc (zop hs2 k1 hsl (1+k2)) rfl (.inr rfl) ?_
  simp(disch:=omega)only[↓RU,RV,RH,↓reduceIte,qE,reduceCtorEq,if_pos,qN,w64,↓RS,RG,qA,qM,qL,ty6,zaa,zab]
  apply hK;clear hK K
  refine W.r fun K hK=>?_
  simp(disch:=omega)only[↓RU,RV,RH,↓reduceIte,qE,reduceCtorEq,if_pos,↓RS,RG,qA,qM,qL]
  apply hK;clear hK K
  refine W.cond rfl (fun h1=>?_) (fun h1=>?_)
  ·try simp only[RL]at h1
   obtain ⟨ho1,ho2⟩:=zyg h1
   refine W.k fun K hK=>?_
   simp(disch:=omega)only[↓RU,RV,RH,↓reduceIte,qE,reduceCtorEq,if_pos,↓RS,RG,qA,qM,qL]
   apply hK;clear hK K
   refine XbN ?_
   refine xn ?_
   refine W.k fun K hK=>?_
   simp(disch:=omega)only[↓RU,RV,RH,↓reduceIte,qE,reduceCtorEq,if_pos,w64,↓RS,RG,qA,qM,qL,zaa]
   apply hK;clear hK K
   refine xn ?_
   refine ⟨many - (i+1),by omega,1,[.ref 0 vr 0,zay (zfn p2 k1 s (1+k2)).1,.int .i64 many,.int .i64 ((i+1:Nat):Int)],⟨[.arr vr 131 2 [eBy code,.int .i64 ((q2+1+1+1:Nat):Int)]],tk+1⟩,?_,?_,i+1,(zfn p2 k1 s (1+k2)).1,q2+1+1+1,tk+1,rfl,by omega,ho1,ho2.trans hl2,by omega,rfl,rfl⟩
   ·simp [-qU,Store.frz,zcq,zc4,za3,zb9,zbg,zb8,zc2,zbj,zbn,zbk,za2,za4,zca,zbm,zb7,zbi,Env.put,Env.of,zae,zbf,qP,qC,zdg,zec,zdh]
   simp [-qU,Store.frz,zcq,zc4,za3,zb9,zbg,zb8,zc2,zbj,zbn,zbk,za2,za4,zca,zbm,zb7,zbi,Env.put,Env.of,zae,zbf,qP,qC,zdg,zec,zdh]
  try simp only[RL]at h1
  refine W.skip ?_
  refine XbN ?_
  refine xn ?_
  refine W.k fun K hK=>?_
  simp(disch:=omega)only[↓RU,RV,RH,↓reduceIte,qE,reduceCtorEq,if_pos,w64,↓RS,RG,qA,qM,qL,zaa]
  apply hK;clear hK K
  refine xn ?_
  refine ⟨many - (i+1),by omega,1,[.ref 0 vr 0,zay p2,.int .i64 many,.int .i64 ((i+1:Nat):Int)],⟨[.arr vr 131 2 [eBy code,.int .i64 ((q2+1+1+1:Nat):Int)]],tk+1⟩,?_,?_,i+1,p2,q2+1+1+1,tk+1,rfl,by omega,hp2,hl2,by omega,rfl,rfl⟩
  ·simp [-qU,Store.frz,zcq,zc4,za3,zb9,zbg,zb8,zc2,zbj,zbn,zbk,za2,za4,zca,zbm,zb7,zbi,Env.put,Env.of,zae,zbf,qP,qC,zdg,zec,zdh]
  simp [-qU,Store.frz,zcq,zc4,za3,zb9,zbg,zb8,zc2,zbj,zbn,zbk,za2,za4,zca,zbm,zb7,zbi,Env.put,Env.of,zae,zbf,qP,qC,zdg,zec,zdh]
 try simp only[RL]at h
 obtain rfl:i=many:=by omega
 refine W.exit ?_
 refine xe ?_
 refine xe ?_
 refine XBlock.hit ?_
 refine xn ?_
 refine W.r fun K hK=>?_
 simp(disch:=omega)only[↓RU,RV,RH,↓reduceIte,qE,reduceCtorEq,if_pos,↓RS,RG,qA,qM,qL]
 apply hK;clear hK K
 refine W.ret ?_
 refine Br rfl ?_
 exact ⟨_,p2,q2,tk,rfl,hp2,hl2,by omega,zal⟩
theorem z3i {nh nw:Nat} (h1:1≤nh) (h2:nh≤6) (w1:1≤nw) (w2:nw≤6):zbs (List.replicate nh (List.replicate nw (97:UInt8)))=true:=by
 rcases (show nh=1∨nh=2∨nh=3∨nh=4∨nh=5∨nh=6 by omega) with rfl | rfl | rfl | rfl | rfl | rfl <;>
 rcases (show nw=1∨nw=2∨nw=3∨nw=4∨nw=5∨nw=6 by omega) with rfl | rfl | rfl | rfl | rfl | rfl <;> decide +kernel
def yg4:List Txt:=[[97,97,98],[99,100,98],[99,101,101]]
def yg5:List Txt:=[[97,97,97,98],[99,100,100,98],[99,100,100,98],[99,101,101,101]]
theorem z0o:zbs yg4=true:=by decide +kernel
theorem z0p:zbs yg5=true:=by decide +kernel
theorem z30 {code:Txt} {q vr t:Nat} (hc:code.length≤1048576) (hq:q≤800000) {nh nw:Nat} (h1:1≤nh) (h2:nh≤6) (w1:1≤nw) (w2:nw≤6):Ev Tryz.prog 133 [.ref 0 vr 0,.int .i64 nh,.int .i64 nw] ⟨[.arr vr 131 2 [eBy code,.int .i64 (q:Int)]],t⟩ fun v S=>∃ (p2:List Txt) (q2 t2:Nat),v=zay p2∧zbs p2=true∧p2.length=nh∧q2≤q+100∧S=⟨[.arr vr 131 2 [eBy code,.int .i64 (q2:Int)]],t2⟩:=by
 refine Ev.of ⟨Tryz.func133,by kernel_rfl,rfl,by kernel_rfl⟩ zap mixed (by show 3≤Tryz.f133.ntmps; decide) ?_
 refine W.r fun K hK=>?_
 simp(disch:=omega)only[↓RU,RV,RH,↓reduceIte,qE,reduceCtorEq,if_pos,↓RS,RG,qA,qM,qL]
 apply hK;clear hK K
 refine W.seq ?_
 refine W.join [0,1,2,17] (fun vs S=>∃ (q2:Nat) (b:Bool),q2≤q+1∧(b=true→nh=3)∧vs=[.ref 0 vr 0,.int .i64 nh,.int .i64 nw,.bool b]∧S=⟨[.arr vr 131 2 [eBy code,.int .i64 (q2:Int)]],t⟩) ?_ ?_
 ·
  refine W.k fun K hK=>?_
  rcases hd:(((nh:Int) == 3),((nw:Int) == 3)) with ⟨_ | _,_ | _⟩
  ·skip
   simp only[Prod.mk.injEq]at hd
   obtain ⟨hd1,hd2⟩:=hd
   simp(disch:=omega)only[↓RU,RV,RH,↓reduceIte,qE,reduceCtorEq,if_pos,w64,qN,↓RS,RG,qA,qM,qL,zaa,hd1,hd2]
   apply hK;clear hK K
   refine xn ?_
   refine ⟨_,q,false,by omega,fun h9=>(by cases h9),?_,zal⟩
   simp [Env.put,Env.of,zae]
  ·skip
   simp only[Prod.mk.injEq]at hd
   obtain ⟨hd1,hd2⟩:=hd
   simp(disch:=omega)only[↓RU,RV,RH,↓reduceIte,qE,reduceCtorEq,if_pos,w64,qN,↓RS,RG,qA,qM,qL,zaa,hd1,hd2]
   apply hK;clear hK K
   refine xn ?_
   refine ⟨_,q,false,by omega,fun h9=>(by cases h9),?_,zal⟩
   simp [Env.put,Env.of,zae]
  ·skip
   simp only[Prod.mk.injEq]at hd
   obtain ⟨hd1,hd2⟩:=hd
   simp(disch:=omega)only[↓RU,RV,RH,↓reduceIte,qE,reduceCtorEq,if_pos,w64,qN,↓RS,RG,qA,qM,qL,zaa,hd1,hd2]
   apply hK;clear hK K
   refine xn ?_
   refine ⟨_,q,false,by omega,fun h9=>(by cases h9),?_,zal⟩
   simp [Env.put,Env.of,zae]
  skip
  simp only[Prod.mk.injEq]at hd
  obtain ⟨hd1,hd2⟩:=hd
  simp(disch:=omega)only[↓RU,RV,RH,↓reduceIte,qE,reduceCtorEq,if_pos,w64,qN,↓RS,RG,qA,qM,qL,zaa,hd1,hd2]
  refine zac.ev (zfw (q:=q) hc (by omega) 2 (by omega) (by omega)) ?_
  rintro _ _ ⟨k1,rfl,-,hk1,rfl⟩
  have hk1b:=hk1 (by omega)
  simp(disch:=omega)only[↓RU,RV,RH,↓reduceIte,qE,reduceCtorEq,if_pos,w64,qN,↓RS,RG,qA,qM,qL,zaa,hd1,hd2]
  apply hK;clear hK K
  refine xn ?_
  refine ⟨_,q+1,((k1:Int) == 0),by omega,fun _=>(by have:=beq_iff_eq.1 hd1; omega),?_,zal⟩
  simp [Env.put,Env.of,zae]
 rintro vs S - ⟨qa,b3,hqa,hb3,rfl,rfl⟩
 refine W.cond rfl (fun h3=>?_) (fun h3=>?_)
 ·try simp only[RL]at h3
  refine W.r fun K hK=>?_
  simp(disch:=omega)only[↓RU,RV,RH,↓reduceIte,qE,reduceCtorEq,if_pos,qN,↓RS,RG,qA,qM,qL,ty6,zab]
  refine zac.ev (zfw (q:=qa) hc (by omega) 2 (by omega) (by omega)) ?_
  rintro _ _ ⟨k1,rfl,-,hk1,rfl⟩
  have hk1b:=hk1 (by omega)
  simp(disch:=omega)only[↓RU,RV,RH,↓reduceIte,qE,reduceCtorEq,if_pos,qN,↓RS,RG,qA,qM,qL,ty6,zab]
  refine zac.ev (zs1 (q:=qa+1) (R:=[]) hc (by omega) z0o (many:=k1) (by omega)) ?_
  rintro _ _ ⟨p2,q2,t2,rfl,hp2,hl2,hq2,rfl⟩
  simp(disch:=omega)only[↓RU,RV,RH,↓reduceIte,qE,reduceCtorEq,if_pos,qN,↓RS,RG,qA,qM,qL,ty6,zab]
  apply hK;clear hK K
  refine W.ret ?_
  refine XThen.ret ?_
  refine Br rfl ?_
  exact ⟨_,p2,q2,t2,rfl,hp2,hl2.trans (hb3 h3).symm,by omega,zal⟩
 try simp only[RL]at h3
 refine W.skip ?_
 refine xn ?_
 refine W.seq ?_
 refine W.join [0,1,2,33] (fun vs S=>∃ (q2:Nat) (b:Bool),q2≤q+2∧(b=true→nh=4)∧vs=[.ref 0 vr 0,.int .i64 nh,.int .i64 nw,.bool b]∧S=⟨[.arr vr 131 2 [eBy code,.int .i64 (q2:Int)]],t⟩) ?_ ?_
 ·
  refine W.k fun K hK=>?_
  rcases hd:(((nh:Int) == 4),((nw:Int) == 4)) with ⟨_ | _,_ | _⟩
  ·skip
   simp only[Prod.mk.injEq]at hd
   obtain ⟨hd1,hd2⟩:=hd
   simp(disch:=omega)only[↓RU,RV,RH,↓reduceIte,qE,reduceCtorEq,if_pos,w64,qN,↓RS,RG,qA,qM,qL,zaa,hd1,hd2]
   apply hK;clear hK K
   refine xn ?_
   refine ⟨_,qa,false,by omega,fun h9=>(by cases h9),?_,zal⟩
   simp [Env.put,Env.of,zae]
  ·skip
   simp only[Prod.mk.injEq]at hd
   obtain ⟨hd1,hd2⟩:=hd
   simp(disch:=omega)only[↓RU,RV,RH,↓reduceIte,qE,reduceCtorEq,if_pos,w64,qN,↓RS,RG,qA,qM,qL,zaa,hd1,hd2]
   apply hK;clear hK K
   refine xn ?_
   refine ⟨_,qa,false,by omega,fun h9=>(by cases h9),?_,zal⟩
   simp [Env.put,Env.of,zae]
  ·skip
   simp only[Prod.mk.injEq]at hd
   obtain ⟨hd1,hd2⟩:=hd
   simp(disch:=omega)only[↓RU,RV,RH,↓reduceIte,qE,reduceCtorEq,if_pos,w64,qN,↓RS,RG,qA,qM,qL,zaa,hd1,hd2]
   apply hK;clear hK K
   refine xn ?_
   refine ⟨_,qa,false,by omega,fun h9=>(by cases h9),?_,zal⟩
   simp [Env.put,Env.of,zae]
  skip
  simp only[Prod.mk.injEq]at hd
  obtain ⟨hd1,hd2⟩:=hd
  simp(disch:=omega)only[↓RU,RV,RH,↓reduceIte,qE,reduceCtorEq,if_pos,w64,qN,↓RS,RG,qA,qM,qL,zaa,hd1,hd2]
  refine zac.ev (zfw (q:=qa) hc (by omega) 2 (by omega) (by omega)) ?_
  rintro _ _ ⟨k1,rfl,-,hk1,rfl⟩
  have hk1b:=hk1 (by omega)
  simp(disch:=omega)only[↓RU,RV,RH,↓reduceIte,qE,reduceCtorEq,if_pos,w64,qN,↓RS,RG,qA,qM,qL,zaa,hd1,hd2]
  apply hK;clear hK K
  refine xn ?_
  refine ⟨_,qa+1,((k1:Int) == 0),by omega,fun _=>(by have:=beq_iff_eq.1 hd1; omega),?_,zal⟩
  simp [Env.put,Env.of,zae]
 rintro vs S - ⟨qb,b4,hqb,hb4,rfl,rfl⟩
 refine W.cond rfl (fun h4=>?_) (fun h4=>?_)
 ·try simp only[RL]at h4
  refine W.r fun K hK=>?_
  simp(disch:=omega)only[↓RU,RV,RH,↓reduceIte,qE,reduceCtorEq,if_pos,qN,↓RS,RG,qA,qM,qL,ty6,zab]
  refine zac.ev (zfw (q:=qb) hc (by omega) 4 (by omega) (by omega)) ?_
  rintro _ _ ⟨k2,rfl,-,hk2,rfl⟩
  have hk2b:=hk2 (by omega)
  simp(disch:=omega)only[↓RU,RV,RH,↓reduceIte,qE,reduceCtorEq,if_pos,qN,↓RS,RG,qA,qM,qL,ty6,zab]
  refine zac.ev (zs1 (q:=qb+1) (R:=[]) hc (by omega) z0p (many:=k2) (by omega)) ?_
  rintro _ _ ⟨p2,q2,t2,rfl,hp2,hl2,hq2,rfl⟩
  simp(disch:=omega)only[↓RU,RV,RH,↓reduceIte,qE,reduceCtorEq,if_pos,qN,↓RS,RG,qA,qM,qL,ty6,zab]
  apply hK;clear hK K
  refine W.ret ?_
  refine XThen.ret ?_
  refine Br rfl ?_
  exact ⟨_,p2,q2,t2,rfl,hp2,hl2.trans (hb4 h4).symm,by omega,zal⟩
 try simp only[RL]at h4
 refine W.skip ?_
 refine xn ?_
 refine W.r fun K hK=>?_
 simp(disch:=omega)only[↓RU,RV,RH,↓reduceIte,qE,reduceCtorEq,if_pos,qN,↓RS,RG,qA,qM,qL]
 refine zac.pc (zzl (nh:=nh) (nw:=nw) (by omega) (by omega)) rfl (.inl rfl) ?_
 simp(disch:=omega)only[↓RU,RV,RH,↓reduceIte,qE,reduceCtorEq,if_pos,qN,↓RS,RG,qA,qM,qL]
 refine zac.ev (zfw (q:=qb) hc (by omega) 9 (by omega) (by omega)) ?_
 rintro _ _ ⟨k3,rfl,-,hk3,rfl⟩
 have hk3b:=hk3 (by omega)
 simp(disch:=omega)only[↓RU,RV,RH,↓reduceIte,qE,reduceCtorEq,if_pos,qN,↓RS,RG,qA,qM,qL]
 refine zac.ev (z6y (q:=qb+1) (R:=[]) hc (by omega) (z3i h1 h2 w1 w2) (many:=k3) (by omega)) ?_
 rintro _ _ ⟨p2,q2,t2,rfl,hp2,hl2,hq2,rfl⟩
 simp(disch:=omega)only[↓RU,RV,RH,↓reduceIte,qE,reduceCtorEq,if_pos,qN,↓RS,RG,qA,qM,qL]
 apply hK;clear hK K
 refine W.ret ?_
 refine Br rfl ?_
 exact ⟨_,p2,q2,t2,rfl,hp2,by simpa using hl2,by omega,zal⟩
theorem yct {p:List Txt} (h:Sm p) {i:Nat} {r:Txt} (hr:r.length≤1048576):Sm (p.set i r):=by
 refine ⟨by rw [List.length_set]; exact h.1,fun x hx=>?_⟩
 rcases List.mem_or_eq_of_mem_set hx with k | rfl
 ·exact h.2 x k
 exact hr
theorem ygq {p:List Txt} {x:Txt} (h:0<p.length):PV.str x::List.drop 1 (p.map PV.str)=(p.set 0 x).map .str:=by cases p with | nil=>simp at h | cons a p=>simp
theorem z7l {k:Nat}:(1:Int)+(k:Int)=((1+k:Nat):Int):=by omega
theorem zs2 {code:Txt} {q vr t:Nat} (hc:code.length≤1048576) (hq:q≤700000) {rows cols:Nat} (h1:1≤rows) (h2:rows≤6) (w1:1≤cols) (w2:cols≤6):Ev Tryz.prog 89 [.ref 0 vr 0,.int .i64 rows,.int .i64 cols] ⟨[.arr vr 131 2 [eBy code,.int .i64 (q:Int)]],t⟩ fun v S=>∃ (p2:List Txt) (q2 t2:Nat),v=zay p2∧Sm p2∧p2.length≤6∧q2≤q+200∧S=⟨[.arr vr 131 2 [eBy code,.int .i64 (q2:Int)]],t2⟩:=by
 refine Ev.of ⟨Tryz.func89,by kernel_rfl,rfl,by kernel_rfl⟩ zap mixed (by show 3≤Tryz.f89.ntmps; decide) ?_
 refine W.r fun K hK=>?_
 simp(disch:=omega)only[↓RU,RV,RH,↓reduceIte,qE,reduceCtorEq,if_pos,↓RS,RG,qA,qM,qL]
 apply hK;clear hK K
 refine W.r fun K hK=>?_
 simp(disch:=omega)only[↓RU,RV,RH,↓reduceIte,qE,reduceCtorEq,if_pos,qN,w64,↓RS,RG,qA,qM,qL,zaa]
 refine zac.ev (zfw hc (by omega) (rows:Int) (by omega) (by omega)) ?_
 rintro _ _ ⟨k1,rfl,-,hk1,rfl⟩
 have hk1b:=hk1 (by omega)
 simp(disch:=omega)only[↓RU,RV,RH,↓reduceIte,qE,reduceCtorEq,if_pos,qN,w64,↓RS,RG,qA,qM,qL,zaa,z7l]
 apply hK;clear hK K
 refine W.r fun K hK=>?_
 simp(disch:=omega)only[↓RU,RV,RH,↓reduceIte,qE,reduceCtorEq,if_pos,qN,w64,↓RS,RG,qA,qM,qL,zaa]
 refine zac.ev (zfw hc (by omega) (cols:Int) (by omega) (by omega)) ?_
 rintro _ _ ⟨k2,rfl,-,hk2,rfl⟩
 have hk2b:=hk2 (by omega)
 simp(disch:=omega)only[↓RU,RV,RH,↓reduceIte,qE,reduceCtorEq,if_pos,qN,w64,↓RS,RG,qA,qM,qL,zaa,z7l]
 refine zac.ev (z30 (q:=q+1+1) hc (by omega) (nh:=1+k1) (nw:=1+k2) (by omega) (by omega) (by omega) (by omega)) ?_
 rintro _ _ ⟨p2,q2,t2,rfl,hp2,hl2,hq2,rfl⟩
 simp(disch:=omega)only[↓RU,RV,RH,↓reduceIte,qE,reduceCtorEq,if_pos,qN,w64,↓RS,RG,qA,qM,qL,zaa]
 apply hK;clear hK K
 obtain ⟨ps1,ps2,ps3⟩:=znt hp2
 have hsm:=zzx hp2
 obtain ⟨nh,hnh⟩:∃ nh:Nat,1+k1=nh:=⟨_,rfl⟩
 simp only[hnh]at hl2 ⊢
 refine W.joinZ [8] (fun vs S=>∃ (p3:List Txt) (q3 tk:Nat),Sm p3∧p3.length≤6∧q3≤q+200∧vs=[zay p3]∧S=⟨[.arr vr 131 2 [eBy code,.int .i64 (q3:Int)]],tk⟩) ?_ ?_
 ·
  refine W.r fun K hK=>?_
  simp(disch:=omega)only[↓RU,RV,RH,↓reduceIte,qE,reduceCtorEq,if_pos,qN,↓RS,RG,qA,qM,qL]
  refine zac.ev (zfw hc (by omega) 50 (by omega) (by omega)) ?_
  rintro _ _ ⟨k3,rfl,-,hk3,rfl⟩
  simp(disch:=omega)only[↓RU,RV,RH,↓reduceIte,qE,reduceCtorEq,if_pos,qN,↓RS,RG,qA,qM,qL]
  apply hK;clear hK K
  refine W.block ?_
  refine W.r fun K hK=>?_
  simp(disch:=omega)only[↓RU,RV,RH,↓reduceIte,qE,reduceCtorEq,if_pos,w64,↓RS,RG,qA,qM,qL,zaa]
  apply hK;clear hK K
  refine W.cond rfl (fun h0=>?_) (fun h0=>?_)
  ·try simp only[RL]at h0
   obtain ⟨row,hrow,hrm⟩:=zag (show nh - 1<p2.length by omega)
   have hr6:=(ps3 row hrm).2
   refine W.r fun K hK=>?_
   simp(disch:=omega)only[↓RU,RV,RH,↓reduceIte,qE,reduceCtorEq,if_pos,↓RS,RG,qA,qM,qL,ty6,zab]
   apply hK;clear hK K
   refine W.k fun K hK=>?_
   simp(disch:=omega)only[↓RU,RV,RH,↓reduceIte,qE,reduceCtorEq,if_pos,w64,↓RS,RG,qA,qM,qL,ty6,zaa,zab,zc3,hrow,zq8,zcb,zrq,zjb,List.length_cons,List.length_nil]
   apply hK;clear hK K
   refine XbN ?_
   refine xn ?_
   have hPs:Sm (p2.set (nh - 1) (row++[97])):=yct hsm (by simp; omega)
   have hPl:(p2.set (nh - 1) (row++[97])).length=p2.length:=by simp
   generalize p2.set (nh - 1) (row++[97])=P at hPs hPl ⊢
   have htk:(P.map PV.str).take p2.length=P.map .str:=qT (by simp [hPl])
   refine ⟨1,[zay P],⟨[.arr vr 131 2 [eBy code,.int .i64 ((q2+1:Nat):Int)]],t2+1+1⟩,?_,?_,P,q2+1,t2+1+1,hPs,by omega,by omega,rfl,rfl⟩
   ·simp [-qU,Store.frz,zcq,zc4,za3,zb9,zbg,zb8,zc2,zbj,zbn,zbk,za2,za4,zca,zbm,zb7,zbi,Env.put,Env.of,zae,zbf,qP,qC,zdg,zec,zdh,htk,hPl]
   simp [-qU,Store.frz,zcq,zc4,za3,zb9,zbg,zb8,zc2,zbj,zbn,zbk,za2,za4,zca,zbm,zb7,zbi,Env.put,Env.of,zae,zbf,qP,qC,zdg,zec,zdh]
  try simp only[RL]at h0
  refine W.r fun K hK=>?_
  simp(disch:=omega)only[↓RU,RV,RH,↓reduceIte,qE,reduceCtorEq,if_pos,w64,↓RS,RG,qA,qM,qL,zaa]
  apply hK;clear hK K
  refine W.cond rfl (fun h1=>?_) (fun h1=>?_)
  ·try simp only[RL]at h1
   obtain ⟨row,hrow,hrm⟩:=zag (show 0<p2.length by omega)
   have hr6:=ps3 row hrm
   have hdl:(row.drop 1).length≤6:=by rw [List.length_drop]; omega
   refine W.r fun K hK=>?_
   simp(disch:=omega)only[↓RU,RV,RH,↓reduceIte,qE,reduceCtorEq,if_pos,↓RS,RG,qA,qM,qL,ty6,zab]
   apply hK;clear hK K
   refine W.k fun K hK=>?_
   simp(disch:=omega)only[↓RU,RV,RH,↓reduceIte,qE,reduceCtorEq,if_pos,Option.map_none,w64,↓RS,RG,qA,qM,qL,ty6,zab,hrow,zq8,zcb,zrq,zjb,List.length_cons,List.length_nil,Int.toNat_zero,qZ,List.take_length,Nat.zero_mul,Nat.zero_add]
   apply hK;clear hK K
   rw [ygq (show 0<p2.length by omega)]
   refine XbN ?_
   refine xn ?_
   have hPs:Sm (p2.set 0 (122::row.drop 1)):=yct hsm (by simp; omega)
   have hPl:(p2.set 0 (122::row.drop 1)).length=p2.length:=by simp
   generalize p2.set 0 (122::row.drop 1)=P at hPs hPl ⊢
   have htk:(P.map PV.str).take p2.length=P.map .str:=qT (by simp [hPl])
   refine ⟨1,[zay P],⟨[.arr vr 131 2 [eBy code,.int .i64 ((q2+1:Nat):Int)]],t2+1+1⟩,?_,?_,P,q2+1,t2+1+1,hPs,by omega,by omega,rfl,rfl⟩
   ·simp [-qU,Store.frz,zcq,zc4,za3,zb9,zbg,zb8,zc2,zbj,zbn,zbk,za2,za4,zca,zbm,zb7,zbi,Env.put,Env.of,zae,zbf,qP,qC,zdg,zec,zdh,htk,hPl]
   simp [-qU,Store.frz,zcq,zc4,za3,zb9,zbg,zb8,zc2,zbj,zbn,zbk,za2,za4,zca,zbm,zb7,zbi,Env.put,Env.of,zae,zbf,qP,qC,zdg,zec,zdh]
  try simp only[RL]at h1
  refine W.skip ?_
  refine XbN ?_
  refine xn ?_
  have hPs:=hsm
  have hPl:p2.length=p2.length:=rfl
  have htk:True:=trivial
  refine ⟨1,[zay p2],⟨[.arr vr 131 2 [eBy code,.int .i64 ((q2+1:Nat):Int)]],t2⟩,?_,?_,p2,q2+1,t2,hPs,by omega,by omega,rfl,rfl⟩
  ·simp [-qU,Store.frz,zcq,zc4,za3,zb9,zbg,zb8,zc2,zbj,zbn,zbk,za2,za4,zca,zbm,zb7,zbi,Env.put,Env.of,zae,zbf,qP,qC,zdg,zec,zdh,htk,hPl]
  simp [-qU,Store.frz,zcq,zc4,za3,zb9,zbg,zb8,zc2,zbj,zbn,zbk,za2,za4,zca,zbm,zb7,zbi,Env.put,Env.of,zae,zbf,qP,qC,zdg,zec,zdh]
 rintro vs S - ⟨p3,q3,tk,hs3,hl3,hq3,rfl,rfl⟩
 refine W.r fun K hK=>?_
 simp(disch:=omega)only[↓RU,RV,RH,↓reduceIte,qE,reduceCtorEq,if_pos,↓RS,RG,qA,qM,qL]
 apply hK;clear hK K
 refine W.ret ?_
 refine Br rfl ?_
 exact ⟨_,p3,q3,tk,rfl,hs3,hl3,hq3,zal⟩
theorem zzm {code:Txt} {q vr t:Nat} (hc:code.length≤1048576) (hq:q≤600000) {rows cols:Nat} (h1:1≤rows) (h2:rows≤6) (w1:1≤cols) (w2:cols≤6):Ev Tryz.prog 42 [.ref 0 vr 0,.int .i64 rows,.int .i64 cols] ⟨[.arr vr 131 2 [eBy code,.int .i64 (q:Int)]],t⟩ fun v S=>∃ (p2:List Txt) (q2 t2:Nat),v=zay p2∧Sm p2∧p2.length≤6∧q2≤q+1000∧S=⟨[.arr vr 131 2 [eBy code,.int .i64 (q2:Int)]],t2⟩:=by
 refine Ev.of ⟨Tryz.func42,by kernel_rfl,rfl,by kernel_rfl⟩ zap mixed (by show 3≤Tryz.f42.ntmps; decide) ?_
 refine W.r fun K hK=>?_
 simp(disch:=omega)only[↓RU,RV,RH,↓reduceIte,qE,reduceCtorEq,if_pos,↓RS,RG,qA,qM,qL]
 apply hK;clear hK K
 refine W.r fun K hK=>?_
 simp(disch:=omega)only[↓RU,RV,RH,↓reduceIte,qE,reduceCtorEq,if_pos,qN,↓RS,RG,qA,qM,qL]
 refine zac.ev (zs2 (q:=q) hc (by omega) h1 h2 w1 w2) ?_
 rintro _ _ ⟨p3,q3,t3,rfl,hs3,hl3,hq3,rfl⟩
 simp(disch:=omega)only[↓RU,RV,RH,↓reduceIte,qE,reduceCtorEq,if_pos,qN,↓RS,RG,qA,qM,qL]
 apply hK;clear hK K
 refine W.seq ?_
 refine W.r fun K hK=>?_
 simp(disch:=omega)only[↓RU,RV,RH,↓reduceIte,qE,reduceCtorEq,if_pos,↓RS,RG,qA,qM,qL]
 apply hK;clear hK K
 refine W.block ?_
 refine W.loop [0,1,2,7,8] (fun n vs S=>∃ (i:Nat) (p2:List Txt) (q2 tk:Nat),n=3 - i∧i≤3∧Sm p2∧p2.length≤6∧q2≤q+200+200*i∧vs=[.ref 0 vr 0,.int .i64 rows,.int .i64 cols,zay p2,.int .i64 i]∧S=⟨[.arr vr 131 2 [eBy code,.int .i64 (q2:Int)]],tk⟩) 3 ?_ ?_
 ·refine ⟨1,0,p3,q3,t3,rfl,by omega,hs3,hl3,by omega,?_,rfl⟩
  simp [Env.put,Env.of,zae]
 rintro n vs S - ⟨i,p2,q2,tk,rfl,h_i,hs2,hl2,hq2,rfl,rfl⟩
 refine W.seq ?_
 refine W.r fun K hK=>?_
 by_cases hi3:i<3
 ·skip
  have hd:decide ((i:Int)<3)=true:=decide_eq_true (by omega)
  simp(disch:=omega)only[↓RU,RV,RH,↓reduceIte,qE,reduceCtorEq,if_pos,w64,qN,↓RS,RG,qA,qM,qL,zaa,hd]
  refine zac.pc (zmz hs2) rfl (.inl rfl) ?_
  simp(disch:=omega)only[↓RU,RV,RH,↓reduceIte,qE,reduceCtorEq,if_pos,w64,qN,↓RS,RG,qA,qM,qL,zaa,hd]
  apply hK;clear hK K
  refine W.cond rfl (fun h=>?_) (fun h=>?_)
  ·try simp only[RL]at h
   refine W.skip ?_
   refine xn ?_
   refine W.seq ?_
   refine W.block ?_
   refine W.k fun K hK=>?_
   simp(disch:=omega)only[↓RU,RV,RH,↓reduceIte,qE,reduceCtorEq,if_pos,qN,↓RS,RG,qA,qM,qL]
   refine zac.ev (zs2 (q:=q2) hc (by omega) h1 h2 w1 w2) ?_
   rintro _ _ ⟨p3,q3,t3,rfl,hs3,hl3,hq3,rfl⟩
   simp(disch:=omega)only[↓RU,RV,RH,↓reduceIte,qE,reduceCtorEq,if_pos,qN,↓RS,RG,qA,qM,qL]
   apply hK;clear hK K
   refine XbN ?_
   refine xn ?_
   refine W.k fun K hK=>?_
   simp(disch:=omega)only[↓RU,RV,RH,↓reduceIte,qE,reduceCtorEq,if_pos,w64,↓RS,RG,qA,qM,qL,zaa]
   apply hK;clear hK K
   refine xn ?_
   refine ⟨3 - (i+1),by omega,1,i+1,p3,q3,t3,rfl,by omega,hs3,hl3,by omega,?_,rfl⟩
   simp [Env.put,Env.of]
  try simp only[RL]at h
  refine W.exit ?_
  refine xe ?_
  refine xe ?_
  refine XBlock.hit ?_
  refine xn ?_
  refine W.r fun K hK=>?_
  simp(disch:=omega)only[↓RU,RV,RH,↓reduceIte,qE,reduceCtorEq,if_pos,↓RS,RG,qA,qM,qL]
  apply hK;clear hK K
  refine W.ret ?_
  refine Br rfl ?_
  exact ⟨_,p2,q2,tk,rfl,hs2,hl2,by omega,zal⟩
 skip
 have hd:decide ((i:Int)<3)=false:=decide_eq_false (by omega)
 simp(disch:=omega)only[↓RU,RV,RH,↓reduceIte,qE,reduceCtorEq,if_pos,w64,qN,↓RS,RG,qA,qM,qL,zaa,hd]
 apply hK;clear hK K
 refine W.cond rfl (fun h=>?_) (fun h=>?_)
 ·try simp only[RL]at h
  exact absurd h (by simp)
 try simp only[RL]at h
 refine W.exit ?_
 refine xe ?_
 refine xe ?_
 refine XBlock.hit ?_
 refine xn ?_
 refine W.r fun K hK=>?_
 simp(disch:=omega)only[↓RU,RV,RH,↓reduceIte,qE,reduceCtorEq,if_pos,↓RS,RG,qA,qM,qL]
 apply hK;clear hK K
 refine W.ret ?_
 refine Br rfl ?_
 exact ⟨_,p2,q2,tk,rfl,hs2,hl2,by omega,zal⟩

def eTs:Tm→PV
 | .o => .ip [.int .u8 111,.sl [] 0] 0
 | .un c t => .ip [eB c,.sl [eTs t] 1] 0
 | .bin m a b => .ip [eB m,.sl [eTs a,eTs b] 2] 0
def eTc:Tm→List PV
 | .o=>[.int .u8 111,.sl [] 0]
 | .un c t=>[eB c,.sl [eTs t] 1]
 | .bin m a b=>[eB m,.sl [eTs a,eTs b] 2]
theorem z52 (t:Tm):eTs t = .ip (eTc t) 0:=by cases t <;> rfl
theorem yb4 (t:Tm):∃ cs,eTs t = .ip cs 0:=by cases t <;> exact ⟨_,rfl⟩
theorem zze {p:List Txt} (hp:zbs p=true) {rf cf:FuncId} {rc cc:List PV} (hr9:∀ S,rc.mapM (reify S true 9)=some rc) (hr10:∀ S,rc.mapM (reify S true 10)=some rc) (hc9:∀ S,cc.mapM (reify S true 9)=some cc) (hc10:∀ S,cc.mapM (reify S true 10)=some cc)
  {room:Int→Tm} {cut:Bool→Tm→Tm→Tm} (hroom:∀ a:Int,0≤a→a<(rP p).length→PC Tryz.prog rf (.int .i64 a::rc) ((fun x:Tm=>PV.ip (eTc x) 0) (room a)) false)
  (hcut:∀ (t:Pt) q x y,Whole (zak p) p.length (zao p).length t→zd2 (zak p) t=some q→zdq (zak p) (t.one q)=some x→zdq (zak p) (t.two q)=some y→PC Tryz.prog cf (z07 (gP p) (rP p) t q::(fun x:Tm=>PV.ip (eTc x) 0) (x.fold room cut)::(fun x:Tm=>PV.ip (eTc x) 0) (y.fold room cut)::cc) ((fun x:Tm=>PV.ip (eTc x) 0) (cut q.1 (x.fold room cut) (y.fold room cut))) false) {t:Pt} (hw:Whole (zak p) p.length (zao p).length t) (ih:∀ t':Pt,Whole (zak p) p.length (zao p).length t'→t'.h*t'.w<t.h*t.w→PC Tryz.prog 44 [zje (gP p) (rP p) t'.rect,.fn rf rc,.fn cf cc] (zoy (fun x:Tm=>PV.ip (eTc x) 0) .nilp room cut (zdq (zak p) t')) false):PC Tryz.prog 44 [zje (gP p) (rP p) t.rect,.fn rf rc,.fn cf cc] (zoy (fun x:Tm=>PV.ip (eTc x) 0) .nilp room cut (zdq (zak p) t)) false:=by
 have hin:=hw.inn
 unfold Pt.In at hin
 obtain ⟨hn9,hfit⟩:=ztl hp
 have hv:0≤zak p t.r t.c∧zak p t.r t.c<(rP p).length:=zei hp (by omega) (by omega)
 change PC _ _ [.agg [zaz (gP p) (rP p),.int .i64 t.r,.int .i64 t.c,.int .i64 t.h,.int .i64 t.w],.fn rf rc,.fn cf cc] _ _
 refine PC.of ⟨Tryz.func44,by kernel_rfl,rfl,by kernel_rfl⟩ zap mixed (by show 3≤Tryz.f44.ntmps; decide) ?_
 refine W.r fun K hK=>?_
 simp(disch:=omega)only[↓RU,RV,RH,↓reduceIte,qE,reduceCtorEq,if_pos,↓RS,RG,qA,qM,qL,ty8,zch,za5,zaa,zci,za6]
 apply hK;clear hK K
 refine W.r fun K hK=>?_
 simp(disch:=omega)only[↓RU,RV,RH,↓reduceIte,qE,reduceCtorEq,if_pos,↓RS,RG,qA,qM,qL]
 apply hK;clear hK K
 refine W.seq ?_
 refine W.r fun K hK=>?_
 cases h1:zw4 (zak p) t
 ·skip
  have hmore:=ya2 hp hw h1
  have hL:=z62 (gP p) (by omega) hfit (z2a hp hw.inn)
  simp(disch:=omega)only[↓RU,RV,RH,↓reduceIte,qE,reduceCtorEq,if_pos,qN,↓RS,RG,qA,qM,qL,ty8,zch,za5,zaa,zci,za6]
  refine zac.pc (hL) rfl (.inl rfl) ?_
  simp(disch:=omega)only[↓RU,RV,RH,↓reduceIte,qE,reduceCtorEq,if_pos,qN,↓RS,RG,qA,qM,qL,ty8,zch,za5,zaa,zci,za6]
  apply hK;clear hK K
  refine W.r fun K hK=>?_
  simp(disch:=omega)only[↓RU,RV,RH,↓reduceIte,qE,reduceCtorEq,if_pos,w64,↓RS,RG,qA,qM,qL,zad,zaa]
  apply hK;clear hK K
  refine W.cond rfl (fun h0=>?_) (fun h0=>?_)
  ·try simp only[RL]at h0
   exfalso; omega
  try simp only[RL]at h0
  refine W.skip ?_
  refine xn ?_
  refine W.r fun K hK=>?_
  rcases hq:zd2 (zak p) t with _ | q
  ·skip
   have hF:PC Tryz.prog 92 [zje (gP p) (rP p) t.rect] (.tup [.agg [.bool false,.nilp,.int .i64 0,.int .i64 0,.int .i64 0,.int .i64 0,.nilp,.int .i64 0,.int .i64 0,.int .i64 0,.int .i64 0],.bool false]) false:=by have h:=z1g hp hw.inn; simp only[zwk,hq]at h; exact h
   simp(disch:=omega)only[↓RU,RV,RH,↓reduceIte,qE,reduceCtorEq,if_pos,qN,↓RS,RG,qA,qM,qL,ty8,zah,zch,zh0,za5,zaa,zci,zh1,za6]
   refine zac.pc (hF) rfl (.inr rfl) ?_
   simp(disch:=omega)only[↓RU,RV,RH,↓reduceIte,qE,reduceCtorEq,if_pos,qN,↓RS,RG,qA,qM,qL,ty8,zah,zch,zh0,za5,zaa,zci,zh1,za6]
   apply hK;clear hK K
   refine W.seq ?_
   refine W.r fun K hK=>?_
   simp(disch:=omega)only[↓RU,RV,RH,↓reduceIte,qE,reduceCtorEq,if_pos,↓RS,RG,qA,qM,qL]
   apply hK;clear hK K
   refine W.cond rfl (fun h2=>?_) (fun h2=>?_)
   ·try simp only[RL]at h2
    refine W.r fun K hK=>?_
    simp(disch:=omega)only[↓RU,RV,RH,↓reduceIte,qE,reduceCtorEq,if_pos,↓RS,RG,qA,qM,qL]
    apply hK;clear hK K
    refine W.ret ?_
    refine XThen.ret ?_
    refine Br rfl ?_
    rw [zii hw.inn h1 hq]
    rfl
   try simp only[RL]at h2
   exact absurd h2 (by simp)
  skip
  have hF:PC Tryz.prog 92 [zje (gP p) (rP p) t.rect] (.tup [.agg [.bool q.1,zaz (gP p) (rP p),.int .i64 (t.one q).r,.int .i64 (t.one q).c,.int .i64 (t.one q).h,.int .i64 (t.one q).w,zaz (gP p) (rP p),.int .i64 (t.two q).r,.int .i64 (t.two q).c,.int .i64 (t.two q).h,.int .i64 (t.two q).w],.bool true]) false:=by have h:=z1g hp hw.inn; simp only[zwk,hq]at h; exact h
  obtain ⟨i1,i2,a1,a2⟩:=hw.inn.cut hq
  obtain ⟨w1,w2⟩:=hw.cut (zfx hp) hq
  simp(disch:=omega)only[↓RU,RV,RH,↓reduceIte,qE,reduceCtorEq,if_pos,qN,↓RS,RG,qA,qM,qL,ty8,zah,zch,zh0,za5,zaa,zci,zh1,za6]
  refine zac.pc (hF) rfl (.inr rfl) ?_
  simp(disch:=omega)only[↓RU,RV,RH,↓reduceIte,qE,reduceCtorEq,if_pos,qN,↓RS,RG,qA,qM,qL,ty8,zah,zch,zh0,za5,zaa,zci,zh1,za6]
  apply hK;clear hK K
  refine W.seq ?_
  refine W.r fun K hK=>?_
  simp(disch:=omega)only[↓RU,RV,RH,↓reduceIte,qE,reduceCtorEq,if_pos,↓RS,RG,qA,qM,qL]
  apply hK;clear hK K
  refine W.cond rfl (fun h2=>?_) (fun h2=>?_)
  ·try simp only[RL]at h2
   exact absurd h2 (by simp)
  try simp only[RL]at h2
  refine W.skip ?_
  refine xn ?_
  refine W.r fun K hK=>?_
  obtain hx1 | ⟨x1,hx1,hx2⟩ | ⟨x1,x2,hx1,hx2⟩:=z44 (zdq (zak p) (t.one q)) (zdq (zak p) (t.two q))
  ·skip
   have hI1:=ih (t.one q) w1 a1
   have hI2:=ih (t.two q) w2 a2
   simp only[zoy,hx1]at hI1
   obtain ⟨v2,b2,e2⟩:=z58 (enc:=(fun x:Tm=>PV.ip (eTc x) 0)) (zero := .nilp) (room:=room) (cut:=cut) (zdq (zak p) (t.two q))
   rw [e2]at hI2
   simp(disch:=omega)only[↓RU,RV,RH,↓reduceIte,qE,reduceCtorEq,if_pos,qN,↓RS,RG,qA,qM,qL,ty8,zah,zch,zh0,za5,zaa,zci,zh1,za6]
   refine zac.pc (hI1) (zas rfl (zas (by rw [zcj,hr9]; rfl) (zas (by rw [zcj,hc9]; rfl) rfl))) (.inr (zas rfl (zas (by rw [zcj,hr9]; rfl) (zas (by rw [zcj,hc9]; rfl) rfl)))) ?_
   simp(disch:=omega)only[↓RU,RV,RH,↓reduceIte,qE,reduceCtorEq,if_pos,qN,↓RS,RG,qA,qM,qL,ty8,zah,zch,zh0,za5,zaa,zci,zh1,za6]
   apply hK;clear hK K
   refine W.r fun K hK=>?_
   simp(disch:=omega)only[↓RU,RV,RH,↓reduceIte,qE,reduceCtorEq,if_pos,qN,↓RS,RG,qA,qM,qL,ty8,zah,zch,zh0,za5,zaa,zci,zh1,za6]
   refine zac.pc (hI2) (zas rfl (zas (by rw [zcj,hr9]; rfl) (zas (by rw [zcj,hc9]; rfl) rfl))) (.inr (zas rfl (zas (by rw [zcj,hr9]; rfl) (zas (by rw [zcj,hc9]; rfl) rfl)))) ?_
   simp(disch:=omega)only[↓RU,RV,RH,↓reduceIte,qE,reduceCtorEq,if_pos,qN,↓RS,RG,qA,qM,qL,ty8,zah,zch,zh0,za5,zaa,zci,zh1,za6]
   apply hK;clear hK K
   refine W.seq ?_
   refine W.r fun K hK=>?_
   simp(disch:=omega)only[↓RU,RV,RH,↓reduceIte,qE,reduceCtorEq,if_pos,↓RS,RG,qA,qM,qL]
   apply hK;clear hK K
   refine W.cond rfl (fun h3=>?_) (fun h3=>?_)
   ·try simp only[RL]at h3
    refine W.r fun K hK=>?_
    simp(disch:=omega)only[↓RU,RV,RH,↓reduceIte,qE,reduceCtorEq,if_pos,↓RS,RG,qA,qM,qL]
    apply hK;clear hK K
    refine W.ret ?_
    refine XThen.ret ?_
    refine Br rfl ?_
    rw [zge hw.inn h1 hq,hx1]
    rfl
   try simp only[RL]at h3
   exact absurd h3 (by simp)
  ·skip
   have hI1:=ih (t.one q) w1 a1
   have hI2:=ih (t.two q) w2 a2
   simp only[zoy,hx1]at hI1
   simp only[zoy,hx2]at hI2
   simp(disch:=omega)only[↓RU,RV,RH,↓reduceIte,qE,reduceCtorEq,if_pos,qN,↓RS,RG,qA,qM,qL,ty8,zah,zch,zh0,za5,zaa,zci,zh1,za6]
   refine zac.pc (hI1) (zas rfl (zas (by rw [zcj,hr9]; rfl) (zas (by rw [zcj,hc9]; rfl) rfl))) (.inr (zas rfl (zas (by rw [zcj,hr9]; rfl) (zas (by rw [zcj,hc9]; rfl) rfl)))) ?_
   simp(disch:=omega)only[↓RU,RV,RH,↓reduceIte,qE,reduceCtorEq,if_pos,qN,↓RS,RG,qA,qM,qL,ty8,zah,zch,zh0,za5,zaa,zci,zh1,za6]
   apply hK;clear hK K
   refine W.r fun K hK=>?_
   simp(disch:=omega)only[↓RU,RV,RH,↓reduceIte,qE,reduceCtorEq,if_pos,qN,↓RS,RG,qA,qM,qL,ty8,zah,zch,zh0,za5,zaa,zci,zh1,za6]
   refine zac.pc (hI2) (zas rfl (zas (by rw [zcj,hr9]; rfl) (zas (by rw [zcj,hc9]; rfl) rfl))) (.inr (zas rfl (zas (by rw [zcj,hr9]; rfl) (zas (by rw [zcj,hc9]; rfl) rfl)))) ?_
   simp(disch:=omega)only[↓RU,RV,RH,↓reduceIte,qE,reduceCtorEq,if_pos,qN,↓RS,RG,qA,qM,qL,ty8,zah,zch,zh0,za5,zaa,zci,zh1,za6]
   apply hK;clear hK K
   refine W.seq ?_
   refine W.r fun K hK=>?_
   simp(disch:=omega)only[↓RU,RV,RH,↓reduceIte,qE,reduceCtorEq,if_pos,↓RS,RG,qA,qM,qL]
   apply hK;clear hK K
   refine W.cond rfl (fun h3=>?_) (fun h3=>?_)
   ·try simp only[RL]at h3
    refine W.r fun K hK=>?_
    simp(disch:=omega)only[↓RU,RV,RH,↓reduceIte,qE,reduceCtorEq,if_pos,↓RS,RG,qA,qM,qL]
    apply hK;clear hK K
    refine W.ret ?_
    refine XThen.ret ?_
    refine Br rfl ?_
    rw [zge hw.inn h1 hq,hx1,hx2]
    rfl
   try simp only[RL]at h3
   exact absurd h3 (by simp)
  skip
  have hI1:=ih (t.one q) w1 a1
  have hI2:=ih (t.two q) w2 a2
  simp only[zoy,hx1]at hI1
  simp only[zoy,hx2]at hI2
  simp(disch:=omega)only[↓RU,RV,RH,↓reduceIte,qE,reduceCtorEq,if_pos,qN,↓RS,RG,qA,qM,qL,ty8,zah,zch,zh0,za5,zaa,zci,zh1,za6]
  refine zac.pc (hI1) (zas rfl (zas (by rw [zcj,hr9]; rfl) (zas (by rw [zcj,hc9]; rfl) rfl))) (.inr (zas rfl (zas (by rw [zcj,hr9]; rfl) (zas (by rw [zcj,hc9]; rfl) rfl)))) ?_
  simp(disch:=omega)only[↓RU,RV,RH,↓reduceIte,qE,reduceCtorEq,if_pos,qN,↓RS,RG,qA,qM,qL,ty8,zah,zch,zh0,za5,zaa,zci,zh1,za6]
  apply hK;clear hK K
  refine W.r fun K hK=>?_
  simp(disch:=omega)only[↓RU,RV,RH,↓reduceIte,qE,reduceCtorEq,if_pos,qN,↓RS,RG,qA,qM,qL,ty8,zah,zch,zh0,za5,zaa,zci,zh1,za6]
  refine zac.pc (hI2) (zas rfl (zas (by rw [zcj,hr9]; rfl) (zas (by rw [zcj,hc9]; rfl) rfl))) (.inr (zas rfl (zas (by rw [zcj,hr9]; rfl) (zas (by rw [zcj,hc9]; rfl) rfl)))) ?_
  simp(disch:=omega)only[↓RU,RV,RH,↓reduceIte,qE,reduceCtorEq,if_pos,qN,↓RS,RG,qA,qM,qL,ty8,zah,zch,zh0,za5,zaa,zci,zh1,za6]
  apply hK;clear hK K
  refine W.seq ?_
  refine W.r fun K hK=>?_
  simp(disch:=omega)only[↓RU,RV,RH,↓reduceIte,qE,reduceCtorEq,if_pos,↓RS,RG,qA,qM,qL]
  apply hK;clear hK K
  refine W.cond rfl (fun h3=>?_) (fun h3=>?_)
  ·try simp only[RL]at h3
   exact absurd h3 (by simp)
  try simp only[RL]at h3
  refine W.skip ?_
  refine xn ?_
  refine W.r fun K hK=>?_
  simp(disch:=omega)only[↓RU,RV,RH,↓reduceIte,qE,reduceCtorEq,if_pos,qN,↓RS,RG,qA,qM,qL,ty8,zah,zch,zh0,za5,zaa,zci,zh1,za6]
  refine zac.pc (hcut t q x1 x2 hw hq hx1 hx2) (zas rfl (zas rfl (zas rfl (hc10 _)))) (.inr (zas rfl (zas rfl (zas rfl (hc10 _))))) ?_
  simp(disch:=omega)only[↓RU,RV,RH,↓reduceIte,qE,reduceCtorEq,if_pos,qN,↓RS,RG,qA,qM,qL,ty8,zah,zch,zh0,za5,zaa,zci,zh1,za6]
  apply hK;clear hK K
  refine W.ret ?_
  refine Br rfl ?_
  rw [zge hw.inn h1 hq,hx1,hx2]
  rfl
 skip
 have hL:PC Tryz.prog 91 [zje (gP p) (rP p) t.rect] (.sl [.int .i64 (zak p t.r t.c)] 1) true:=by have h:=z62 (gP p) (by omega) hfit (z2a hp hw.inn); rw [yem hp hw h1]at h; exact h
 have hv:=zei hp (i:=t.r) (j:=t.c) (by omega) (by omega)
 simp(disch:=omega)only[↓RU,RV,RH,↓reduceIte,qE,reduceCtorEq,if_pos,qN,↓RS,RG,qA,qM,qL,ty8,zch,za5,zaa,zci,za6]
 refine zac.pc (hL) rfl (.inl rfl) ?_
 simp(disch:=omega)only[↓RU,RV,RH,↓reduceIte,qE,reduceCtorEq,if_pos,qN,↓RS,RG,qA,qM,qL,ty8,zch,za5,zaa,zci,za6]
 apply hK;clear hK K
 refine W.r fun K hK=>?_
 simp(disch:=omega)only[↓RU,RV,RH,↓reduceIte,qE,reduceCtorEq,if_pos,w64,↓RS,RG,qA,qM,qL,zad,zaa]
 apply hK;clear hK K
 refine W.cond rfl (fun h0=>?_) (fun h0=>?_)
 ·try simp only[RL]at h0
  refine W.r fun K hK=>?_
  simp(disch:=omega)only[↓RU,RV,RH,↓reduceIte,qE,reduceCtorEq,if_pos,qN,↓RS,RG,qA,qM,qL,zad,zaa,Int.toNat_zero,Nat.zero_mul,qZ,List.getElem?_cons_zero]
  refine zac.pc (hroom _ hv.1 hv.2) (zas rfl (hr10 _)) (.inr (zas rfl (hr10 _))) ?_
  simp(disch:=omega)only[↓RU,RV,RH,↓reduceIte,qE,reduceCtorEq,if_pos,qN,↓RS,RG,qA,qM,qL,zad,zaa,Int.toNat_zero,Nat.zero_mul,qZ,List.getElem?_cons_zero]
  apply hK;clear hK K
  refine W.ret ?_
  refine XThen.ret ?_
  refine Br rfl ?_
  rw [zjz hw.inn h1]
  rfl
 try simp only[RL]at h0
 exact absurd h0 (by simp)
theorem zqd {p:List Txt} (hp:zbs p=true) {rf cf:FuncId} {rc cc:List PV} (hr9:∀ S,rc.mapM (reify S true 9)=some rc) (hr10:∀ S,rc.mapM (reify S true 10)=some rc) (hc9:∀ S,cc.mapM (reify S true 9)=some cc) (hc10:∀ S,cc.mapM (reify S true 10)=some cc)
  {room:Int→Tm} {cut:Bool→Tm→Tm→Tm} (hroom:∀ a:Int,0≤a→a<(rP p).length→PC Tryz.prog rf (.int .i64 a::rc) ((fun x:Tm=>PV.ip (eTc x) 0) (room a)) false)
  (hcut:∀ (t:Pt) q x y,Whole (zak p) p.length (zao p).length t→zd2 (zak p) t=some q→zdq (zak p) (t.one q)=some x→zdq (zak p) (t.two q)=some y→PC Tryz.prog cf (z07 (gP p) (rP p) t q::(fun x:Tm=>PV.ip (eTc x) 0) (x.fold room cut)::(fun x:Tm=>PV.ip (eTc x) 0) (y.fold room cut)::cc) ((fun x:Tm=>PV.ip (eTc x) 0) (cut q.1 (x.fold room cut) (y.fold room cut))) false):∀ (n:Nat) {t:Pt},t.h*t.w≤n→Whole (zak p) p.length (zao p).length t→PC Tryz.prog 44 [zje (gP p) (rP p) t.rect,.fn rf rc,.fn cf cc] (zoy (fun x:Tm=>PV.ip (eTc x) 0) .nilp room cut (zdq (zak p) t)) false
 | 0,t,hn,hw=>by have:=Nat.mul_pos hw.inn.1 hw.inn.2.1; omega
 | n+1,t,hn,hw=>zze hp hr9 hr10 hc9 hc10 hroom hcut hw fun t' hw' ha=>zqd hp hr9 hr10 hc9 hc10 hroom hcut n (by omega) hw'
theorem z4y (a:Int):PC Tryz.prog 46 [.int .i64 a] (.ip (eTc .o) 0) false:=by
 refine PC.of ⟨Tryz.func46,by kernel_rfl,rfl,by kernel_rfl⟩ zap mixed (by show 1≤Tryz.f46.ntmps; decide) ?_
 refine W.r fun K hK=>?_
 simp(disch:=omega)only[↓RU,RV,RH,↓reduceIte,qE,reduceCtorEq,if_pos,↓RS,RG,qA,qM,qL]
 apply hK;clear hK K
 refine W.r fun K hK=>?_
 simp(disch:=omega)only[↓RU,RV,RH,↓reduceIte,qE,reduceCtorEq,if_pos,↓RS,RG,qA,qM,qL,ty2,ty9,zg4,zg6,zce]
 apply hK;clear hK K
 refine W.ret ?_
 refine Br rfl ?_
 rfl
theorem z4z (g:List (List Int)) (rs:List Rect) (lv:Bool) (a b:Rect) (x y:Tm):PC Tryz.prog 47 [.agg (zzt g rs lv a b),.ip (eTc x) 0,.ip (eTc y) 0] (.ip (eTc (.bin (if lv then 45 else 124) x y)) 0) false:=by
 simp only[zzt,Rect.cells]
 have e0:∀ m:UInt8,eTc (.bin m x y)=[eB m,.sl [.ip (eTc x) 0,.ip (eTc y) 0] 2]:=fun m=>by rw [eTc,z52,z52]
 refine PC.of ⟨Tryz.func47,by kernel_rfl,rfl,by kernel_rfl⟩ zap mixed (by show 3≤Tryz.f47.ntmps; decide) ?_
 refine W.r fun K hK=>?_
 simp(disch:=omega)only[↓RU,RV,RH,↓reduceIte,qE,reduceCtorEq,if_pos,↓RS,RG,qA,qM,qL,ty8,zah,zch,zh0,za5,zaa,zci,zh1,za6,zi0,zl9,zed,ze0,ziz,zoz]
 apply hK;clear hK K
 refine W.seq ?_
 refine W.r fun K hK=>?_
 simp(disch:=omega)only[↓RU,RV,RH,↓reduceIte,qE,reduceCtorEq,if_pos,↓RS,RG,qA,qM,qL,ty8,zah,zch,zh0,za5,zaa,zci,zh1,za6,zi0,zl9,zed,ze0,ziz,zoz]
 apply hK;clear hK K
 refine W.cond rfl (fun h0=>?_) (fun h0=>?_)
 ·try simp only[RL]at h0
  refine W.r fun K hK=>?_
  simp(disch:=omega)only[↓RU,RV,RH,↓reduceIte,qE,reduceCtorEq,if_pos,↓RS,RG,qA,qM,qL,ty2,ty9,zg4,zg6,zce,zi0,zl9,zed,ze0,ziz,zoz]
  apply hK;clear hK K
  refine W.ret ?_
  refine XThen.ret ?_
  refine Br rfl ?_
  subst h0
  rw [if_pos rfl,e0]
  rfl
 try simp only[RL]at h0
 refine W.skip ?_
 refine xn ?_
 refine W.r fun K hK=>?_
 simp(disch:=omega)only[↓RU,RV,RH,↓reduceIte,qE,reduceCtorEq,if_pos,↓RS,RG,qA,qM,qL,ty2,ty9,zg4,zg6,zce,zi0,zl9,zed,ze0,ziz,zoz]
 apply hK;clear hK K
 refine W.ret ?_
 refine Br rfl ?_
 subst h0
 rw [if_neg (by decide),e0]
 rfl
theorem yf3:(Utf8.encode 111).data.toList=[111]:=by decide +kernel
theorem z3j {m:UInt8} (h:m=124∨m=45):(Utf8.encode (m.toNat:Int)).data.toList=[m]:=by rcases h with rfl | rfl <;> decide +kernel
theorem ye7  : PC Tryz.prog 48 [eT .o] (.str (txT .o)) true:=by
 simp only[eT]
 refine PC.of ⟨Tryz.func48,by kernel_rfl,rfl,by kernel_rfl⟩ zap mixed (by show 1≤Tryz.f48.ntmps; decide) ?_
 refine W.r fun K hK=>?_
 simp(disch:=omega)only[↓RU,RV,RH,↓reduceIte,qE,reduceCtorEq,if_pos,↓RS,RG,qA,qM,qL]
 apply hK;clear hK K
 refine W.seq ?_
 refine W.r fun K hK=>?_
 simp(disch:=omega)only[↓RU,RV,RH,↓reduceIte,qE,reduceCtorEq,if_pos,↓RS,RG,qA,qM,qL,ty2,ty9,zg4,zg6,zce,Int.toNat_zero,Nat.zero_mul,qZ,qM,Nat.zero_add,Nat.mul_one,List.getElem?_cons_zero,List.getElem?_cons_succ]
 apply hK;clear hK K
 refine W.block ?_
 refine W.r fun K hK=>?_
 simp(disch:=omega)only[↓RU,RV,RH,↓reduceIte,qE,reduceCtorEq,if_pos,w64,↓RS,RG,qA,qM,qL,zaa]
 apply hK;clear hK K
 refine W.cond rfl (fun h0=>?_) (fun h0=>?_)
 ·try simp only[RL]at h0
  refine W.r fun K hK=>?_
  simp(disch:=omega)only[↓RU,RV,RH,↓reduceIte,qE,reduceCtorEq,if_pos,w64,↓RS,RG,qA,qM,qL,ty2,ty9,zg4,zj0,zab,zg6,zce,Int.toNat_zero,Nat.zero_mul,qZ,qM,Nat.zero_add,Nat.mul_one,List.getElem?_cons_zero,List.getElem?_cons_succ,yc0,yf3]
  apply hK;clear hK K
  refine W.ret ?_
  refine XBlock.ret ?_
  refine XThen.ret ?_
  refine Br rfl ?_
  rfl
 try simp only[RL]at h0
 exact absurd h0 (by simp)
theorem z87 {m:UInt8} {a b:Tm} {A B:Txt} (hm:m=124∨m=45) (hA:A.length≤1000) (hB:B.length≤1000) (i1:PC Tryz.prog 48 [eT a] (.str A) true) (i2:PC Tryz.prog 48 [eT b] (.str B) true):PC Tryz.prog 48 [eT (.bin m a b)] (.str (40::(A++m::(B++[41])))) true:=by
 obtain ⟨ca,hca⟩:=zfq a
 obtain ⟨cb,hcb⟩:=zfq b
 rw [hca]at i1
 rw [hcb]at i2
 simp only[eT,hca,hcb]
 have dl0:(((2:Nat):Int) == 0)=false:=rfl
 have dl1:(((2:Nat):Int) == 1)=false:=rfl
 have hmt:=m.toNat_lt
 have l0:([40]:Txt).length=1:=rfl
 have l1:([m]:Txt).length=1:=rfl
 have l2:([41]:Txt).length=1:=rfl
 have l3:(40::A:Txt).length=A.length+1:=rfl
 have l4:(40::A++[m]:Txt).length=A.length+2:=by simp
 have l4b:(40::(A++[m]):Txt).length=A.length+2:=by simp
 have l5:(40::A++[m]++B:Txt).length=A.length+2+B.length:=by simp; omega
 have l5b:(40::(A++[m]++B):Txt).length=A.length+2+B.length:=by simp; omega
 have l5c:(40::(A++[m])++B:Txt).length=A.length+2+B.length:=by simp; omega
 refine PC.of ⟨Tryz.func48,by kernel_rfl,rfl,by kernel_rfl⟩ zap mixed (by show 1≤Tryz.f48.ntmps; decide) ?_
 refine W.r fun K hK=>?_
 simp(disch:=omega)only[↓RU,RV,RH,↓reduceIte,qE,reduceCtorEq,if_pos,↓RS,RG,qA,qM,qL]
 apply hK;clear hK K
 refine W.seq ?_
 refine W.r fun K hK=>?_
 simp(disch:=omega)only[↓RU,RV,RH,↓reduceIte,qE,reduceCtorEq,if_pos,↓RS,RG,qA,qM,qL,ty2,ty9,zg4,zg6,zce,Int.toNat_zero,Nat.zero_mul,qZ,qM,Nat.zero_add,Nat.mul_one,List.getElem?_cons_zero,List.getElem?_cons_succ]
 apply hK;clear hK K
 refine W.block ?_
 refine W.r fun K hK=>?_
 simp(disch:=omega)only[↓RU,RV,RH,↓reduceIte,qE,reduceCtorEq,if_pos,w64,↓RS,RG,qA,qM,qL,zaa,dl0]
 apply hK;clear hK K
 refine W.cond rfl (fun h0=>?_) (fun h0=>?_)
 ·try simp only[RL]at h0
  exact absurd h0 (by simp)
 try simp only[RL]at h0
 refine W.r fun K hK=>?_
 simp(disch:=omega)only[↓RU,RV,RH,↓reduceIte,qE,reduceCtorEq,if_pos,w64,↓RS,RG,qA,qM,qL,zaa,dl1]
 apply hK;clear hK K
 refine W.cond rfl (fun h1=>?_) (fun h1=>?_)
 ·try simp only[RL]at h1
  exact absurd h1 (by simp)
 try simp only[RL]at h1
 refine W.skip ?_
 refine XbN ?_
 refine xn ?_
 refine W.seq_draw (by kernel_rfl) fun K hK=>?_
 simp(disch:=omega)only[↓RU,RV,RH,↓reduceIte,qE,reduceCtorEq,if_pos,qN,w64,w64,↓RS,RG,qA,qM,qL,ty2,ty9,zg4,zj0,zab,zg6,zce,Int.toNat_zero,Nat.zero_mul,qZ,qM,Nat.zero_add,Nat.mul_one,List.getElem?_cons_zero,List.getElem?_cons_succ,yc0,z3j hm,zgm]
 refine zac.pc (i1) rfl (.inl rfl) ?_
 simp(disch:=omega)only[↓RU,RV,RH,↓reduceIte,qE,reduceCtorEq,if_pos,qN,w64,w64,↓RS,RG,qA,qM,qL,ty2,ty9,zg4,zj0,zab,zg6,zce,Int.toNat_zero,Nat.zero_mul,qZ,qM,Nat.zero_add,Nat.mul_one,List.getElem?_cons_zero,List.getElem?_cons_succ,yc0,z3j hm,zgm]
 refine zac.pc (i2) rfl (.inl rfl) ?_
 simp(disch:=omega)only[↓RU,RV,RH,↓reduceIte,qE,reduceCtorEq,if_pos,qN,w64,w64,↓RS,RG,qA,qM,qL,ty2,ty9,zg4,zj0,zab,zg6,zce,Int.toNat_zero,Nat.zero_mul,qZ,qM,Nat.zero_add,Nat.mul_one,List.getElem?_cons_zero,List.getElem?_cons_succ,yc0,z3j hm,zgm]
 apply hK;clear hK K
 refine W.ret ?_
 refine Br rfl ?_
 simp [reify,Env.put]
theorem ybc:∀ (u:Tm),u.pure→u.n≤100→PC Tryz.prog 48 [eT u] (.str (txT u)) true:=by
 intro u
 induction u with
 | o=>intro _ _; exact ye7
 | un c t _=>intro h; exact h.elim
 | bin m a b h1 h2 =>
  intro h h7
  simp only[Tm.n]at h7
  have la:=(zh6 h.2.1).1
  have lb:=(zh6 h.2.2).1
  exact z87 h.1 (by omega) (by omega) (h1 h.2.1 (by omega)) (h2 h.2.2 (by omega))
theorem ye6  : PC Tryz.prog 48 [eTs .o] (.str (txT .o)) true:=by
 simp only[eTs]
 refine PC.of ⟨Tryz.func48,by kernel_rfl,rfl,by kernel_rfl⟩ zap mixed (by show 1≤Tryz.f48.ntmps; decide) ?_
 refine W.r fun K hK=>?_
 simp(disch:=omega)only[↓RU,RV,RH,↓reduceIte,qE,reduceCtorEq,if_pos,↓RS,RG,qA,qM,qL]
 apply hK;clear hK K
 refine W.seq ?_
 refine W.r fun K hK=>?_
 simp(disch:=omega)only[↓RU,RV,RH,↓reduceIte,qE,reduceCtorEq,if_pos,↓RS,RG,qA,qM,qL,ty2,ty9,zg4,zg6,zce,Int.toNat_zero,Nat.zero_mul,qZ,qM,Nat.zero_add,Nat.mul_one,List.getElem?_cons_zero,List.getElem?_cons_succ]
 apply hK;clear hK K
 refine W.block ?_
 refine W.r fun K hK=>?_
 simp(disch:=omega)only[↓RU,RV,RH,↓reduceIte,qE,reduceCtorEq,if_pos,w64,↓RS,RG,qA,qM,qL,zaa]
 apply hK;clear hK K
 refine W.cond rfl (fun h0=>?_) (fun h0=>?_)
 ·try simp only[RL]at h0
  refine W.r fun K hK=>?_
  simp(disch:=omega)only[↓RU,RV,RH,↓reduceIte,qE,reduceCtorEq,if_pos,w64,↓RS,RG,qA,qM,qL,ty2,ty9,zg4,zj0,zab,zg6,zce,Int.toNat_zero,Nat.zero_mul,qZ,qM,Nat.zero_add,Nat.mul_one,List.getElem?_cons_zero,List.getElem?_cons_succ,yc0,yf3]
  apply hK;clear hK K
  refine W.ret ?_
  refine XBlock.ret ?_
  refine XThen.ret ?_
  refine Br rfl ?_
  rfl
 try simp only[RL]at h0
 exact absurd h0 (by simp)
theorem z86 {m:UInt8} {a b:Tm} {A B:Txt} (hm:m=124∨m=45) (hA:A.length≤1000) (hB:B.length≤1000) (i1:PC Tryz.prog 48 [eTs a] (.str A) true) (i2:PC Tryz.prog 48 [eTs b] (.str B) true):PC Tryz.prog 48 [eTs (.bin m a b)] (.str (40::(A++m::(B++[41])))) true:=by
 obtain ⟨ca,hca⟩:=yb4 a
 obtain ⟨cb,hcb⟩:=yb4 b
 rw [hca]at i1
 rw [hcb]at i2
 simp only[eTs,hca,hcb]
 have dl0:(((2:Nat):Int) == 0)=false:=rfl
 have dl1:(((2:Nat):Int) == 1)=false:=rfl
 have hmt:=m.toNat_lt
 have l0:([40]:Txt).length=1:=rfl
 have l1:([m]:Txt).length=1:=rfl
 have l2:([41]:Txt).length=1:=rfl
 have l3:(40::A:Txt).length=A.length+1:=rfl
 have l4:(40::A++[m]:Txt).length=A.length+2:=by simp
 have l4b:(40::(A++[m]):Txt).length=A.length+2:=by simp
 have l5:(40::A++[m]++B:Txt).length=A.length+2+B.length:=by simp; omega
 have l5b:(40::(A++[m]++B):Txt).length=A.length+2+B.length:=by simp; omega
 have l5c:(40::(A++[m])++B:Txt).length=A.length+2+B.length:=by simp; omega
 refine PC.of ⟨Tryz.func48,by kernel_rfl,rfl,by kernel_rfl⟩ zap mixed (by show 1≤Tryz.f48.ntmps; decide) ?_
 refine W.r fun K hK=>?_
 simp(disch:=omega)only[↓RU,RV,RH,↓reduceIte,qE,reduceCtorEq,if_pos,↓RS,RG,qA,qM,qL]
 apply hK;clear hK K
 refine W.seq ?_
 refine W.r fun K hK=>?_
 simp(disch:=omega)only[↓RU,RV,RH,↓reduceIte,qE,reduceCtorEq,if_pos,↓RS,RG,qA,qM,qL,ty2,ty9,zg4,zg6,zce,Int.toNat_zero,Nat.zero_mul,qZ,qM,Nat.zero_add,Nat.mul_one,List.getElem?_cons_zero,List.getElem?_cons_succ]
 apply hK;clear hK K
 refine W.block ?_
 refine W.r fun K hK=>?_
 simp(disch:=omega)only[↓RU,RV,RH,↓reduceIte,qE,reduceCtorEq,if_pos,w64,↓RS,RG,qA,qM,qL,zaa,dl0]
 apply hK;clear hK K
 refine W.cond rfl (fun h0=>?_) (fun h0=>?_)
 ·try simp only[RL]at h0
  exact absurd h0 (by simp)
 try simp only[RL]at h0
 refine W.r fun K hK=>?_
 simp(disch:=omega)only[↓RU,RV,RH,↓reduceIte,qE,reduceCtorEq,if_pos,w64,↓RS,RG,qA,qM,qL,zaa,dl1]
 apply hK;clear hK K
 refine W.cond rfl (fun h1=>?_) (fun h1=>?_)
 ·try simp only[RL]at h1
  exact absurd h1 (by simp)
 try simp only[RL]at h1
 refine W.skip ?_
 refine XbN ?_
 refine xn ?_
 refine W.seq_draw (by kernel_rfl) fun K hK=>?_
 simp(disch:=omega)only[↓RU,RV,RH,↓reduceIte,qE,reduceCtorEq,if_pos,qN,w64,w64,↓RS,RG,qA,qM,qL,ty2,ty9,zg4,zj0,zab,zg6,zce,Int.toNat_zero,Nat.zero_mul,qZ,qM,Nat.zero_add,Nat.mul_one,List.getElem?_cons_zero,List.getElem?_cons_succ,yc0,z3j hm,zgm]
 refine zac.pc (i1) rfl (.inl rfl) ?_
 simp(disch:=omega)only[↓RU,RV,RH,↓reduceIte,qE,reduceCtorEq,if_pos,qN,w64,w64,↓RS,RG,qA,qM,qL,ty2,ty9,zg4,zj0,zab,zg6,zce,Int.toNat_zero,Nat.zero_mul,qZ,qM,Nat.zero_add,Nat.mul_one,List.getElem?_cons_zero,List.getElem?_cons_succ,yc0,z3j hm,zgm]
 refine zac.pc (i2) rfl (.inl rfl) ?_
 simp(disch:=omega)only[↓RU,RV,RH,↓reduceIte,qE,reduceCtorEq,if_pos,qN,w64,w64,↓RS,RG,qA,qM,qL,ty2,ty9,zg4,zj0,zab,zg6,zce,Int.toNat_zero,Nat.zero_mul,qZ,qM,Nat.zero_add,Nat.mul_one,List.getElem?_cons_zero,List.getElem?_cons_succ,yc0,z3j hm,zgm]
 apply hK;clear hK K
 refine W.ret ?_
 refine Br rfl ?_
 simp [reify,Env.put]
theorem ybb:∀ (u:Tm),u.pure→u.n≤100→PC Tryz.prog 48 [eTs u] (.str (txT u)) true:=by
 intro u
 induction u with
 | o=>intro _ _; exact ye6
 | un c t _=>intro h; exact h.elim
 | bin m a b h1 h2 =>
  intro h h7
  simp only[Tm.n]at h7
  have la:=(zh6 h.2.1).1
  have lb:=(zh6 h.2.2).1
  exact z86 h.1 (by omega) (by omega) (h1 h.2.1 (by omega)) (h2 h.2.2 (by omega))
def ttV (s:Txt):Option Txt:=(ofT s).map fun t=>txT (td t)
def ppT (o:Option Txt):PV := .tup [.str (o.getD []),.bool o.isSome]
def toV (p:List Txt):Option Txt:=if zb5 p=true∧(rP p).length≤7 then (zdq (zak p) (zk2 p)).map fun x=>txT (zgt x) else none
theorem z0h (s:Txt) (hs:s.length≤1048576):PC Tryz.prog 22 [.str s] (ppT (ttV s)) true:=by
 refine PC.of ⟨Tryz.func22,by kernel_rfl,rfl,by kernel_rfl⟩ zap mixed (by show 1≤Tryz.f22.ntmps; decide) ?_
 refine W.r fun K hK=>?_
 simp(disch:=omega)only[↓RU,RV,RH,↓reduceIte,qE,reduceCtorEq,if_pos,↓RS,RG,qA,qM,qL]
 apply hK;clear hK K
 refine W.r fun K hK=>?_
 simp(disch:=omega)only[↓RU,RV,RH,↓reduceIte,qE,reduceCtorEq,if_pos,qN,↓RS,RG,qA,qM,qL]
 refine zac.pc (zyk s hs) rfl (.inr rfl) ?_
 simp(disch:=omega)only[↓RU,RV,RH,↓reduceIte,qE,reduceCtorEq,if_pos,qN,↓RS,RG,qA,qM,qL]
 apply hK;clear hK K
 refine W.seq ?_
 refine W.r fun K hK=>?_
 rcases ho:ofT s with _ | t
 ·skip
  rw [zt8]
  simp(disch:=omega)only[↓RU,RV,RH,↓reduceIte,qE,reduceCtorEq,if_pos,w64,↓RS,RG,qA,qM,qL,ty9,zjx,zjw,qO]
  apply hK;clear hK K
  refine W.cond rfl (fun h0=>?_) (fun h0=>?_)
  ·try simp only[RL]at h0
   refine W.r fun K hK=>?_
   simp(disch:=omega)only[↓RU,RV,RH,↓reduceIte,qE,reduceCtorEq,if_pos,↓RS,RG,qA,qM,qL]
   apply hK;clear hK K
   refine W.ret ?_
   refine XThen.ret ?_
   refine Br rfl ?_
   rw [show ttV s=none by unfold ttV; rw [ho]; rfl]
   rfl
  try simp only[RL]at h0
  exact absurd h0 (by simp)
 skip
 obtain ⟨cs,hcs⟩:=zfq t
 obtain ⟨ds,hds⟩:=zfq (td t)
 have hok:=yck ho
 have hpu:=zve hok.1
 have hT:=z9b hok.1
 have hP:=ybc (td t) hpu.1 (by have:=hok.2.1; omega)
 rw [zjd,hcs]
 rw [hcs,hds]at hT
 rw [hds]at hP
 simp(disch:=omega)only[↓RU,RV,RH,↓reduceIte,qE,reduceCtorEq,if_pos,w64,↓RS,RG,qA,qM,qL,ty9,zjx,zjw,qO]
 apply hK;clear hK K
 refine W.cond rfl (fun h0=>?_) (fun h0=>?_)
 ·try simp only[RL]at h0
  exact absurd h0 (by simp)
 try simp only[RL]at h0
 refine W.skip ?_
 refine xn ?_
 refine W.r fun K hK=>?_
 simp(disch:=omega)only[↓RU,RV,RH,↓reduceIte,qE,reduceCtorEq,if_pos,qN,↓RS,RG,qA,qM,qL]
 refine zac.pc (hT) rfl (.inr rfl) ?_
 simp(disch:=omega)only[↓RU,RV,RH,↓reduceIte,qE,reduceCtorEq,if_pos,qN,↓RS,RG,qA,qM,qL]
 refine zac.pc (hP) rfl (.inl rfl) ?_
 simp(disch:=omega)only[↓RU,RV,RH,↓reduceIte,qE,reduceCtorEq,if_pos,qN,↓RS,RG,qA,qM,qL]
 apply hK;clear hK K
 refine W.ret ?_
 refine Br rfl ?_
 rw [show ttV s=some (txT (td t)) by unfold ttV; rw [ho]; rfl]
 rfl
theorem z23 {p:List Txt} (h:zb5 p=false∨7<(rP p).length):toV p=none:=by
 unfold toV
 rw [if_neg]
 rintro ⟨h1,h2⟩
 rcases h with h | h
 ·rw [h1]at h; cases h
 omega
theorem z0k {p:List Txt} (h1:zb5 p=true) (h2:(rP p).length≤7):toV p=(zdq (zak p) (zk2 p)).map fun x=>txT (zgt x):=by
 unfold toV
 rw [if_pos ⟨h1,h2⟩]
theorem z40 {p:List Txt} (hs:Sm p):PC Tryz.prog 20 [zay p] (ppT (toV p)) true:=by
 obtain ⟨x,hx,hxy,hxr⟩:=zns hs
 have hI:zdj p=zb5 p:=zf9
 refine PC.of ⟨Tryz.func20,by kernel_rfl,rfl,by kernel_rfl⟩ zap mixed (by show 1≤Tryz.f20.ntmps; decide) ?_
 refine W.r fun K hK=>?_
 simp(disch:=omega)only[↓RU,RV,RH,↓reduceIte,qE,reduceCtorEq,if_pos,↓RS,RG,qA,qM,qL]
 apply hK;clear hK K
 refine W.r fun K hK=>?_
 simp(disch:=omega)only[↓RU,RV,RH,↓reduceIte,qE,reduceCtorEq,if_pos,qN,↓RS,RG,qA,qM,qL]
 refine zac.pc (hx) rfl (.inr rfl) ?_
 simp(disch:=omega)only[↓RU,RV,RH,↓reduceIte,qE,reduceCtorEq,if_pos,qN,↓RS,RG,qA,qM,qL]
 apply hK;clear hK K
 refine W.seq ?_
 refine W.r fun K hK=>?_
 rcases (show zdj p=false∨(zdj p=true∧7<(rP p).length)∨(zdj p=true∧(rP p).length≤7) by cases zdj p <;> simp; omega) with hv | ⟨hv,h7⟩ | ⟨hv,h7⟩
 ·skip
  simp(disch:=omega)only[↓RU,RV,RH,↓reduceIte,qE,reduceCtorEq,if_pos,w64,↓RS,RG,qA,qM,qL,ty1,ty4,zad,zet,zc8,za5,zaa,zeu,za6,hv]
  apply hK;clear hK K
  refine W.cond rfl (fun h0=>?_) (fun h0=>?_)
  ·try simp only[RL]at h0
   refine W.r fun K hK=>?_
   simp(disch:=omega)only[↓RU,RV,RH,↓reduceIte,qE,reduceCtorEq,if_pos,↓RS,RG,qA,qM,qL]
   apply hK;clear hK K
   refine W.ret ?_
   refine XThen.ret ?_
   refine Br rfl ?_
   rw [z23 (.inl (by rw [← hI]; exact hv))]
   rfl
  try simp only[RL]at h0
  exact absurd h0 (by simp)
 ·skip
  obtain rfl:=hxy hv
  have d7:decide (((rP p).length:Int)>7)=true:=decide_eq_true (by omega)
  simp(disch:=omega)only[↓RU,RV,RH,↓reduceIte,qE,reduceCtorEq,if_pos,w64,↓RS,RG,qA,qM,qL,ty1,ty4,zad,zet,zc8,za5,zaa,zeu,za6,hv,zbt,d7]
  apply hK;clear hK K
  refine W.cond rfl (fun h0=>?_) (fun h0=>?_)
  ·try simp only[RL]at h0
   refine W.r fun K hK=>?_
   simp(disch:=omega)only[↓RU,RV,RH,↓reduceIte,qE,reduceCtorEq,if_pos,↓RS,RG,qA,qM,qL]
   apply hK;clear hK K
   refine W.ret ?_
   refine XThen.ret ?_
   refine Br rfl ?_
   rw [z23 (.inr h7)]
   rfl
  try simp only[RL]at h0
  exact absurd h0 (by simp)
 skip
 obtain rfl:=hxy hv
 have d7:decide (((rP p).length:Int)>7)=false:=decide_eq_false (by omega)
 simp(disch:=omega)only[↓RU,RV,RH,↓reduceIte,qE,reduceCtorEq,if_pos,w64,↓RS,RG,qA,qM,qL,ty1,ty4,zad,zet,zc8,za5,zaa,zeu,za6,hv,zbt,d7]
 apply hK;clear hK K
 refine W.cond rfl (fun h0=>?_) (fun h0=>?_)
 ·try simp only[RL]at h0
  exact absurd h0 (by simp)
 try simp only[RL]at h0
 have hpl:zb5 p=true:=by rw [← hI]; exact hv
 have hp:zbs p=true:=zd6 hpl
 have hF:PC Tryz.prog 44 [zje (gP p) (rP p) (zk2 p).rect,.fn 46 [],.fn 47 []] (zoy (fun x:Tm=>PV.ip (eTc x) 0) .nilp (fun _=>Tm.o) (fun lv x y=>Tm.bin (if lv then 45 else 124) x y) (zdq (zak p) (zk2 p))) false:=by
  refine zqd hp (rf:=46) (cf:=47) (rc:=[]) (cc:=[]) (fun _=>rfl) (fun _=>rfl) (fun _=>rfl) (fun _=>rfl) (fun a h1 h2=>z4y a) (fun t q x y hw hq hx hy=>?_) _ (qR _) (zna hp)
  exact z4z (gP p) (rP p) q.1 (t.one q).rect (t.two q).rect _ _
 refine W.skip ?_
 refine xn ?_
 refine W.r fun K hK=>?_
 rcases ht:(zdq (zak p) (zk2 p)) with _ | y
 ·skip
  rw [ht]at hF
  simp only[zoy]at hF
  simp(disch:=omega)only[↓RU,RV,RH,↓reduceIte,qE,reduceCtorEq,if_pos,qN,↓RS,RG,qA,qM,qL]
  refine zac.pc (zyt hp) rfl (.inr rfl) ?_
  simp(disch:=omega)only[↓RU,RV,RH,↓reduceIte,qE,reduceCtorEq,if_pos,qN,↓RS,RG,qA,qM,qL]
  refine zac.pc (hF) rfl (.inr rfl) ?_
  simp(disch:=omega)only[↓RU,RV,RH,↓reduceIte,qE,reduceCtorEq,if_pos,qN,↓RS,RG,qA,qM,qL]
  apply hK;clear hK K
  refine W.seq ?_
  refine W.r fun K hK=>?_
  simp(disch:=omega)only[↓RU,RV,RH,↓reduceIte,qE,reduceCtorEq,if_pos,↓RS,RG,qA,qM,qL]
  apply hK;clear hK K
  refine W.cond rfl (fun h1=>?_) (fun h1=>?_)
  ·try simp only[RL]at h1
   refine W.r fun K hK=>?_
   simp(disch:=omega)only[↓RU,RV,RH,↓reduceIte,qE,reduceCtorEq,if_pos,↓RS,RG,qA,qM,qL]
   apply hK;clear hK K
   refine W.ret ?_
   refine XThen.ret ?_
   refine Br rfl ?_
   rw [z0k hpl h7,ht]
   rfl
  try simp only[RL]at h1
  exact absurd h1 (by simp)
 skip
 rw [ht]at hF
 simp only[zoy]at hF
 have hy:=zdf y
 have hyl:=(zp2 hpl ht).2
 have hX:=ybb (zgt y) hy.1 (by omega)
 rw [z52]at hX
 simp(disch:=omega)only[↓RU,RV,RH,↓reduceIte,qE,reduceCtorEq,if_pos,qN,↓RS,RG,qA,qM,qL]
 refine zac.pc (zyt hp) rfl (.inr rfl) ?_
 simp(disch:=omega)only[↓RU,RV,RH,↓reduceIte,qE,reduceCtorEq,if_pos,qN,↓RS,RG,qA,qM,qL]
 refine zac.pc (hF) rfl (.inr rfl) ?_
 simp(disch:=omega)only[↓RU,RV,RH,↓reduceIte,qE,reduceCtorEq,if_pos,qN,↓RS,RG,qA,qM,qL]
 apply hK;clear hK K
 refine W.seq ?_
 refine W.r fun K hK=>?_
 simp(disch:=omega)only[↓RU,RV,RH,↓reduceIte,qE,reduceCtorEq,if_pos,↓RS,RG,qA,qM,qL]
 apply hK;clear hK K
 refine W.cond rfl (fun h1=>?_) (fun h1=>?_)
 ·try simp only[RL]at h1
  exact absurd h1 (by simp)
 try simp only[RL]at h1
 refine W.skip ?_
 refine xn ?_
 refine W.r fun K hK=>?_
 simp(disch:=omega)only[↓RU,RV,RH,↓reduceIte,qE,reduceCtorEq,if_pos,qN,↓RS,RG,qA,qM,qL]
 refine zac.pc (hX) rfl (.inl rfl) ?_
 simp(disch:=omega)only[↓RU,RV,RH,↓reduceIte,qE,reduceCtorEq,if_pos,qN,↓RS,RG,qA,qM,qL]
 apply hK;clear hK K
 refine W.ret ?_
 refine Br rfl ?_
 rw [z0k hpl h7,ht]
 rfl
theorem z69 {lv:Bool} {a b:Option CT} {z:CT} (h:(match a,b with | some x,some y=>some (.node lv x y) | _,_=>none)=some z):∃ x y,a=some x∧b=some y∧z = .node lv x y:=by
 cases a with
 | none=>cases h
 | some x =>
  cases b with
  | none=>cases h
  | some y=>cases h; exact ⟨x,y,rfl,rfl,rfl⟩
theorem zwu (A B:Txt) (m:UInt8):([40]:Txt).length=1∧([m]:Txt).length=1∧([41]:Txt).length=1∧(40::A:Txt).length=A.length+1∧(40::A++[m]:Txt).length=A.length+2∧(40::(A++[m]):Txt).length=A.length+2∧(40::A++[m]++B:Txt).length=A.length+2+B.length∧(40::(A++[m]++B):Txt).length=A.length+2+B.length∧(40::(A++[m])++B:Txt).length=A.length+2+B.length:=by
 refine ⟨rfl,rfl,rfl,rfl,?_,?_,?_,?_,?_⟩ <;> simp <;> omega
theorem z6v {p:List Txt} (hp:zbs p=true) {t:Pt} (hw:Whole (zak p) p.length (zao p).length t) {x:CT} (hx:zdq (zak p) t=some x) (ih:∀ (t':Pt) (x':CT),Whole (zak p) p.length (zao p).length t'→t'.h*t'.w<t.h*t.w→zdq (zak p) t'=some x'→PC Tryz.prog 52 [zay (sub p t')] (.str (txT (zgt x'))) true):PC Tryz.prog 52 [zay (sub p t)] (.str (txT (zgt x))) true:=by
 have hg:=zd7 hp
 have hi:=hw.inn
 have hg2:=z21 hg hi
 have hs2:=Sm.grid hg2
 have hl2:=zln hi
 have hh2:=ztr hg hi
 have hib:=hi
 unfold Pt.In at hib
 obtain ⟨row0,hrow0,hq0,hl0,-⟩:=zju hg hi (i:=0) hi.1
 obtain ⟨c0,hc0,hlet⟩:=zj7 hg hrow0 (k:=t.c+0) (by omega)
 have hqc:=(zhn (row:=row0) (t:=t) hib.2.1).trans hc0
 have hz0:zak p t.r t.c=(c0.toNat:Int) - 97:=zcy (by simpa using hrow0) (by simpa using hc0)
 simp only[zc5,qB,decide_eq_true_eq]at hlet
 have hcq:=z03 hg hi
 refine PC.of ⟨Tryz.func52,by kernel_rfl,rfl,by kernel_rfl⟩ zap mixed (by show 1≤Tryz.f52.ntmps; decide) ?_
 refine W.r fun K hK=>?_
 simp(disch:=omega)only[↓RU,RV,RH,↓reduceIte,qE,reduceCtorEq,if_pos,↓RS,RG,qA,qM,qL,w8]
 apply hK;clear hK K
 refine W.seq ?_
 refine W.r fun K hK=>?_
 simp(disch:=omega)only[↓RU,RV,RH,↓reduceIte,qE,reduceCtorEq,if_pos,qN,↓RS,RG,qA,qM,qL,w8]
 refine zac.pc (z1o hs2 hg2) rfl (.inl rfl) ?_
 simp(disch:=omega)only[↓RU,RV,RH,↓reduceIte,qE,reduceCtorEq,if_pos,qN,↓RS,RG,qA,qM,qL,w8]
 apply hK;clear hK K
 refine W.cond rfl (fun h0=>?_) (fun h0=>?_)
 ·skip
  have h0:z9p (sub p t)=true:=h0
  rw [zpb hg hi]at h0
  refine W.r fun K hK=>?_
  simp(disch:=omega)only[↓RU,RV,RH,↓reduceIte,qE,reduceCtorEq,if_pos,↓RS,RG,qA,qM,qL,w8]
  apply hK;clear hK K
  refine W.ret ?_
  refine XThen.ret ?_
  refine Br rfl ?_
  rw [zjz hi h0]at hx
  cases hx
  rfl
 skip
 have h0:z9p (sub p t)=false:=h0
 rw [zpb hg hi]at h0
 refine W.skip ?_
 refine xn ?_
 refine W.r fun K hK=>?_
 rcases hq:zd2 (zak p) t with _ | ⟨_ | _,k⟩
 ·skip
  rw [zii hi h0 hq]at hx; cases hx
 ·skip
  rw [hq]at hcq
  simp only[qF,if_false]at hcq
  obtain ⟨i1,i2,a1,a2⟩:=hi.cut hq
  have hck:=zeo hq
  simp only[qF,if_false]at hck
  obtain ⟨w1,w2⟩:=hw.cut (zfx hp) hq
  rw [zge hi h0 hq]at hx
  obtain ⟨x1,x2,hx1,hx2,rfl⟩:=z69 hx
  have hn1:=(zir hp w1 hx1).2
  have hn2:=(zir hp w2 hx2).2
  have hA:=(zh6 (zdf x1).1).1
  have hB:=(zh6 (zdf x2).1).1
  rw [(zdf x1).2]at hA
  rw [(zdf x2).2]at hB
  simp(disch:=omega)only[↓RU,RV,RH,↓reduceIte,qE,reduceCtorEq,if_pos,qN,↓RS,RG,qA,qM,qL,w8,hcq]
  refine zac.pc (zma hs2 hg2) rfl (.inl rfl) ?_
  simp(disch:=omega)only[↓RU,RV,RH,↓reduceIte,qE,reduceCtorEq,if_pos,qN,↓RS,RG,qA,qM,qL,w8,hcq]
  apply hK;clear hK K
  refine W.r fun K hK=>?_
  have hP:=zqq hs2 hg2 (k:=k) (by rw [hh2]; omega)
  rw [zvb (q:=(false,k)) (by simp; omega),zvc (q:=(false,k)) (by simp; omega)]at hP
  simp(disch:=omega)only[↓RU,RV,RH,↓reduceIte,qE,reduceCtorEq,if_pos,qN,↓RS,RG,qA,qM,qL,w8]
  refine zac.pc (hP) rfl (.inl rfl) ?_
  simp(disch:=omega)only[↓RU,RV,RH,↓reduceIte,qE,reduceCtorEq,if_pos,qN,↓RS,RG,qA,qM,qL,w8]
  apply hK;clear hK K
  refine W.seq_draw (by kernel_rfl) fun K hK=>?_
  have i1t:=ih (t.one (false,k)) x1 w1 a1 hx1
  have i2t:=ih (t.two (false,k)) x2 w2 a2 hx2
  obtain ⟨l0,l1,l2,l3,l4,l4b,l5,l5b,l5c⟩:=zwu (txT (zgt x1)) (txT (zgt x2)) 124
  simp(disch:=omega)only[↓RU,RV,RH,↓reduceIte,qE,reduceCtorEq,if_pos,qN,w64,Option.map_none,↓RS,RG,qA,qM,qL,zaa,zab,w8,zgm,Int.reduceAdd,qZ,List.take_succ_cons,List.take_zero,List.drop_zero,List.drop_succ_cons]
  refine zac.pc (i1t) rfl (.inl rfl) ?_
  simp(disch:=omega)only[↓RU,RV,RH,↓reduceIte,qE,reduceCtorEq,if_pos,qN,w64,Option.map_none,↓RS,RG,qA,qM,qL,zaa,zab,w8,zgm,Int.reduceAdd,qZ,List.take_succ_cons,List.take_zero,List.drop_zero,List.drop_succ_cons]
  refine zac.pc (i2t) rfl (.inl rfl) ?_
  simp(disch:=omega)only[↓RU,RV,RH,↓reduceIte,qE,reduceCtorEq,if_pos,qN,w64,Option.map_none,↓RS,RG,qA,qM,qL,zaa,zab,w8,zgm,Int.reduceAdd,qZ,List.take_succ_cons,List.take_zero,List.drop_zero,List.drop_succ_cons]
  apply hK;clear hK K
  refine W.ret ?_
  refine Br rfl ?_
  rw [zj3]
  simp [reify,Env.put,txT]
 skip
 rw [hq]at hcq
 simp only[if_true]at hcq
 obtain ⟨i1,i2,a1,a2⟩:=hi.cut hq
 have hck:=zeo hq
 simp only[if_true]at hck
 obtain ⟨w1,w2⟩:=hw.cut (zfx hp) hq
 rw [zge hi h0 hq]at hx
 obtain ⟨x1,x2,hx1,hx2,rfl⟩:=z69 hx
 have hn1:=(zir hp w1 hx1).2
 have hn2:=(zir hp w2 hx2).2
 have hA:=(zh6 (zdf x1).1).1
 have hB:=(zh6 (zdf x2).1).1
 rw [(zdf x1).2]at hA
 rw [(zdf x2).2]at hB
 simp(disch:=omega)only[↓RU,RV,RH,↓reduceIte,qE,reduceCtorEq,if_pos,qN,↓RS,RG,qA,qM,qL,w8,hcq]
 refine zac.pc (zma hs2 hg2) rfl (.inl rfl) ?_
 simp(disch:=omega)only[↓RU,RV,RH,↓reduceIte,qE,reduceCtorEq,if_pos,qN,↓RS,RG,qA,qM,qL,w8,hcq]
 apply hK;clear hK K
 refine W.r fun K hK=>?_
 have hP:=zqp hs2 hg2 (k:=k) (by rw [hl2]; omega)
 rw [zvb (q:=(true,k)) (by simp; omega),zvc (q:=(true,k)) (by simp; omega)]at hP
 simp(disch:=omega)only[↓RU,RV,RH,↓reduceIte,qE,reduceCtorEq,if_pos,qN,↓RS,RG,qA,qM,qL,w8]
 refine zac.pc (hP) rfl (.inl rfl) ?_
 simp(disch:=omega)only[↓RU,RV,RH,↓reduceIte,qE,reduceCtorEq,if_pos,qN,↓RS,RG,qA,qM,qL,w8]
 apply hK;clear hK K
 refine W.seq_draw (by kernel_rfl) fun K hK=>?_
 have i1t:=ih (t.one (true,k)) x1 w1 a1 hx1
 have i2t:=ih (t.two (true,k)) x2 w2 a2 hx2
 obtain ⟨l0,l1,l2,l3,l4,l4b,l5,l5b,l5c⟩:=zwu (txT (zgt x1)) (txT (zgt x2)) 45
 simp(disch:=omega)only[↓RU,RV,RH,↓reduceIte,qE,reduceCtorEq,if_pos,qN,w64,Option.map_none,↓RS,RG,qA,qM,qL,zaa,zab,w8,zgm,Int.reduceAdd,qZ,List.take_succ_cons,List.take_zero,List.drop_zero,List.drop_succ_cons]
 refine zac.pc (i1t) rfl (.inl rfl) ?_
 simp(disch:=omega)only[↓RU,RV,RH,↓reduceIte,qE,reduceCtorEq,if_pos,qN,w64,Option.map_none,↓RS,RG,qA,qM,qL,zaa,zab,w8,zgm,Int.reduceAdd,qZ,List.take_succ_cons,List.take_zero,List.drop_zero,List.drop_succ_cons]
 refine zac.pc (i2t) rfl (.inl rfl) ?_
 simp(disch:=omega)only[↓RU,RV,RH,↓reduceIte,qE,reduceCtorEq,if_pos,qN,w64,Option.map_none,↓RS,RG,qA,qM,qL,zaa,zab,w8,zgm,Int.reduceAdd,qZ,List.take_succ_cons,List.take_zero,List.drop_zero,List.drop_succ_cons]
 apply hK;clear hK K
 refine W.ret ?_
 refine Br rfl ?_
 rw [zj3]
 simp [reify,Env.put,txT]
theorem zwq {p:List Txt} (hp:zbs p=true):∀ (n:Nat) {t:Pt} {x:CT},t.h*t.w≤n→Whole (zak p) p.length (zao p).length t→zdq (zak p) t=some x→PC Tryz.prog 52 [zay (sub p t)] (.str (txT (zgt x))) true
 | 0,t,x,hn,hw,_=>by have:=Nat.mul_pos hw.inn.1 hw.inn.2.1; omega
 | n+1,t,x,hn,hw,hx=>z6v hp hw hx fun t' x' hw' ha hx'=>zwq hp n (by omega) hw' hx'
theorem z4p {p:List Txt} (hs:Sm p):PC Tryz.prog 21 [zay p] (ppT (toV p)) true:=by
 refine PC.of ⟨Tryz.func21,by kernel_rfl,rfl,by kernel_rfl⟩ zap mixed (by show 1≤Tryz.f21.ntmps; decide) ?_
 refine W.r fun K hK=>?_
 simp(disch:=omega)only[↓RU,RV,RH,↓reduceIte,qE,reduceCtorEq,if_pos,↓RS,RG,qA,qM,qL]
 apply hK;clear hK K
 refine W.seq ?_
 refine W.r fun K hK=>?_
 rcases (show zb5 p=false∨(zb5 p=true∧z5w p=false)∨(zb5 p=true∧z5w p=true∧7<(rP p).length)∨(zb5 p=true∧z5w p=true∧(rP p).length≤7) by cases zb5 p <;> cases z5w p <;> simp; omega) with hv | ⟨hv,hc⟩ | ⟨hv,hc,h7⟩ | ⟨hv,hc,h7⟩
 ·skip
  simp(disch:=omega)only[↓RU,RV,RH,↓reduceIte,qE,reduceCtorEq,if_pos,qN,w64,↓RS,RG,qA,qM,qL,zaa,hv]
  refine zac.pc (zj8 hs) rfl (.inl rfl) ?_
  simp(disch:=omega)only[↓RU,RV,RH,↓reduceIte,qE,reduceCtorEq,if_pos,qN,w64,↓RS,RG,qA,qM,qL,zaa,hv]
  apply hK;clear hK K
  refine W.cond rfl (fun h0=>?_) (fun h0=>?_)
  ·try simp only[RL]at h0
   refine W.r fun K hK=>?_
   simp(disch:=omega)only[↓RU,RV,RH,↓reduceIte,qE,reduceCtorEq,if_pos,↓RS,RG,qA,qM,qL]
   apply hK;clear hK K
   refine W.ret ?_
   refine XThen.ret ?_
   refine Br rfl ?_
   rw [z23 (.inl hv)]
   rfl
  try simp only[RL]at h0
  exact absurd h0 (by simp)
 ·skip
  simp(disch:=omega)only[↓RU,RV,RH,↓reduceIte,qE,reduceCtorEq,if_pos,qN,w64,↓RS,RG,qA,qM,qL,zaa,hv,hc]
  refine zac.pc (zj8 hs) rfl (.inl rfl) ?_
  simp(disch:=omega)only[↓RU,RV,RH,↓reduceIte,qE,reduceCtorEq,if_pos,qN,w64,↓RS,RG,qA,qM,qL,zaa,hv,hc]
  refine zac.pc (zrn hs) rfl (.inl rfl) ?_
  simp(disch:=omega)only[↓RU,RV,RH,↓reduceIte,qE,reduceCtorEq,if_pos,qN,w64,↓RS,RG,qA,qM,qL,zaa,hv,hc]
  apply hK;clear hK K
  refine W.cond rfl (fun h0=>?_) (fun h0=>?_)
  ·try simp only[RL]at h0
   refine W.r fun K hK=>?_
   simp(disch:=omega)only[↓RU,RV,RH,↓reduceIte,qE,reduceCtorEq,if_pos,↓RS,RG,qA,qM,qL]
   apply hK;clear hK K
   refine W.ret ?_
   refine XThen.ret ?_
   refine Br rfl ?_
   rw [show toV p=none by unfold toV; unfold z5w at hc; rw [zd6 hv,Bool.true_and]at hc; split; rw [Option.isSome_eq_false_iff,Option.isNone_iff_eq_none]at hc; rw [hc]; rfl; rfl]
   rfl
  try simp only[RL]at h0
  exact absurd h0 (by simp)
 ·skip
  have hrm:=(zcx (zd6 hv)).rooms
  have d7:decide (((rP p).length:Int)>7)=true:=decide_eq_true (by omega)
  simp(disch:=omega)only[↓RU,RV,RH,↓reduceIte,qE,reduceCtorEq,if_pos,qN,w64,↓RS,RG,qA,qM,qL,zaa,hv,hc,hrm,d7]
  refine zac.pc (zj8 hs) rfl (.inl rfl) ?_
  simp(disch:=omega)only[↓RU,RV,RH,↓reduceIte,qE,reduceCtorEq,if_pos,qN,w64,↓RS,RG,qA,qM,qL,zaa,hv,hc,hrm,d7]
  refine zac.pc (zrn hs) rfl (.inl rfl) ?_
  simp(disch:=omega)only[↓RU,RV,RH,↓reduceIte,qE,reduceCtorEq,if_pos,qN,w64,↓RS,RG,qA,qM,qL,zaa,hv,hc,hrm,d7]
  refine zac.pc (zfs hs) rfl (.inl rfl) ?_
  simp(disch:=omega)only[↓RU,RV,RH,↓reduceIte,qE,reduceCtorEq,if_pos,qN,w64,↓RS,RG,qA,qM,qL,zaa,hv,hc,hrm,d7]
  apply hK;clear hK K
  refine W.cond rfl (fun h0=>?_) (fun h0=>?_)
  ·try simp only[RL]at h0
   refine W.r fun K hK=>?_
   simp(disch:=omega)only[↓RU,RV,RH,↓reduceIte,qE,reduceCtorEq,if_pos,↓RS,RG,qA,qM,qL]
   apply hK;clear hK K
   refine W.ret ?_
   refine XThen.ret ?_
   refine Br rfl ?_
   rw [z23 (.inr h7)]
   rfl
  try simp only[RL]at h0
  exact absurd h0 (by simp)
 skip
 have hrm:=(zcx (zd6 hv)).rooms
 have d7:decide (((rP p).length:Int)>7)=false:=decide_eq_false (by omega)
 simp(disch:=omega)only[↓RU,RV,RH,↓reduceIte,qE,reduceCtorEq,if_pos,qN,w64,↓RS,RG,qA,qM,qL,zaa,hv,hc,hrm,d7]
 refine zac.pc (zj8 hs) rfl (.inl rfl) ?_
 simp(disch:=omega)only[↓RU,RV,RH,↓reduceIte,qE,reduceCtorEq,if_pos,qN,w64,↓RS,RG,qA,qM,qL,zaa,hv,hc,hrm,d7]
 refine zac.pc (zrn hs) rfl (.inl rfl) ?_
 simp(disch:=omega)only[↓RU,RV,RH,↓reduceIte,qE,reduceCtorEq,if_pos,qN,w64,↓RS,RG,qA,qM,qL,zaa,hv,hc,hrm,d7]
 refine zac.pc (zfs hs) rfl (.inl rfl) ?_
 simp(disch:=omega)only[↓RU,RV,RH,↓reduceIte,qE,reduceCtorEq,if_pos,qN,w64,↓RS,RG,qA,qM,qL,zaa,hv,hc,hrm,d7]
 apply hK;clear hK K
 refine W.cond rfl (fun h0=>?_) (fun h0=>?_)
 ·try simp only[RL]at h0
  exact absurd h0 (by simp)
 try simp only[RL]at h0
 refine W.skip ?_
 refine xn ?_
 refine W.r fun K hK=>?_
 have hpl:=zd6 hv
 have hg:=zd7 hpl
 obtain ⟨y,hy⟩:∃ y,(zdq (zak p) (zk2 p))=some y:=by unfold z5w at hc; rw [hpl,Bool.true_and]at hc; exact Option.isSome_iff_exists.1 hc
 have hT:=zwq hpl _ (qR _) (zna hpl) hy
 rw [show sub p ⟨0,0,p.length,(zao p).length⟩=p from z84 hg]at hT
 simp(disch:=omega)only[↓RU,RV,RH,↓reduceIte,qE,reduceCtorEq,if_pos,qN,↓RS,RG,qA,qM,qL]
 refine zac.pc (hT) rfl (.inl rfl) ?_
 simp(disch:=omega)only[↓RU,RV,RH,↓reduceIte,qE,reduceCtorEq,if_pos,qN,↓RS,RG,qA,qM,qL]
 apply hK;clear hK K
 refine W.ret ?_
 refine Br rfl ?_
 rw [z0k hv h7,hy]
 rfl
theorem zt7 {code:Txt} (hc:code.length≤1048576):Ev Tryz.prog 19 [eBy code] ⟨[],0⟩ fun v S=>∃ (p:List Txt) (t:Nat),Sm p∧v=zay p∧S=⟨[],t⟩:=by
 refine Ev.of ⟨Tryz.func19,by kernel_rfl,rfl,by kernel_rfl⟩ zap mixed (by show 1≤Tryz.f19.ntmps; decide) ?_
 refine W.r fun K hK=>?_
 simp(disch:=omega)only[↓RU,RV,RH,↓reduceIte,qE,reduceCtorEq,if_pos,↓RS,RG,qA,qM,qL]
 apply hK;clear hK K
 refine W.r fun K hK=>?_
 simp(disch:=omega)only[↓RU,RV,RH,↓reduceIte,qE,reduceCtorEq,if_pos,qN,↓RS,RG,qA,qM,qL,rdO]
 refine zac.pn (z6x hc) rfl (.inr rfl) ?_
 simp(disch:=omega)only[↓RU,RV,RH,↓reduceIte,qE,reduceCtorEq,if_pos,qN,↓RS,RG,qA,qM,qL,rdO,rdO,RN]
 have hc2:(code.take 2000).length≤1048576:=by rw [List.length_take]; omega
 generalize code.take 2000=code2 at hc2 ⊢
 refine zac.ev (zzm (q:=0) (code:=code2) hc2 (by omega) (rows:=4) (cols:=4) (by omega) (by omega) (by omega) (by omega)) ?_
 rintro _ _ ⟨p,q,t,rfl,hs,hl,hq,rfl⟩
 simp(disch:=omega)only[↓RU,RV,RH,↓reduceIte,qE,reduceCtorEq,if_pos,qN,↓RS,RG,qA,qM,qL,rdO]
 apply hK;clear hK K
 refine W.ret ?_
 refine Br rfl ?_
 exact ⟨0,p,_,hs,rfl,rfl⟩
theorem yge {p:List Txt}:zzn (gP p) p.length (w0 (zb6 p)) (rP p).length=lfM p:=by rw [zh7]; rfl
theorem yfn {p:List Txt}:zpt (gP p) p.length (w0 (zb6 p)) (rP p).length=abM p:=by rw [zh7]; rfl
theorem ycg {p:List Txt} (h:zdj p=true):Sq (rP p).length (lfM p):=by
 obtain ⟨-,⟨_,hu⟩,-⟩:=zuq h
 rw [yge]at hu; exact hu.sq
theorem ybx {p:List Txt} (h:zdj p=true):Sq (rP p).length (abM p):=by
 obtain ⟨-,-,⟨_,hu⟩⟩:=zuq h
 rw [yfn]at hu; exact hu.sq
theorem zzq {p:List Txt} (hs:Sm p) (hv:zdj p=false):PC Tryz.prog 38 [zay p] (.tup [.agg [.sl [] 0,.sl [] 0],.bool false]) false:=by
 obtain ⟨x,hx,hxy,hxr⟩:=zns hs
 refine PC.of ⟨Tryz.func38,by kernel_rfl,rfl,by kernel_rfl⟩ zap mixed (by show 1≤Tryz.f38.ntmps; decide) ?_
 refine W.r fun K hK=>?_
 simp(disch:=omega)only[↓RU,RV,RH,↓reduceIte,qE,reduceCtorEq,if_pos,↓RS,RG,qA,qM,qL,ty0,ty3,zah,zg3,zex,zg5]
 apply hK;clear hK K
 refine W.r fun K hK=>?_
 simp(disch:=omega)only[↓RU,RV,RH,↓reduceIte,qE,reduceCtorEq,if_pos,qN,↓RS,RG,qA,qM,qL,hv]
 refine zac.pc (hx) rfl (.inr rfl) ?_
 simp(disch:=omega)only[↓RU,RV,RH,↓reduceIte,qE,reduceCtorEq,if_pos,qN,↓RS,RG,qA,qM,qL,hv]
 apply hK;clear hK K
 refine W.seq ?_
 refine W.r fun K hK=>?_
 simp(disch:=omega)only[↓RU,RV,RH,↓reduceIte,qE,reduceCtorEq,if_pos,↓RS,RG,qA,qM,qL]
 apply hK;clear hK K
 refine W.cond rfl (fun h=>?_) (fun h=>?_)
 ·try simp only[RL]at h
  refine W.r fun K hK=>?_
  simp(disch:=omega)only[↓RU,RV,RH,↓reduceIte,qE,reduceCtorEq,if_pos,↓RS,RG,qA,qM,qL,ty0,ty3,zah,zg3,zex,zg5]
  apply hK;clear hK K
  refine W.ret ?_
  refine XThen.ret ?_
  refine Br rfl ?_
  rfl
 try simp only[RL]at h
 exact absurd h (by simp)
theorem zw8 {p:List Txt} (hs:Sm p) (hv:zdj p=true):PC Tryz.prog 38 [zay p] (.tup [(.agg [zhs (lfM p),zhs (abM p)]),.bool true]) false:=by
 obtain ⟨x,hx,hxy,hxr⟩:=zns hs
 obtain rfl:=hxy hv
 obtain ⟨hrm,-,-⟩:=zuq hv
 have hok:=(zra hv).1
 have hg:=z1u hok
 have hn9:=zqy hok
 have hn1:=znq hok
 refine PC.of ⟨Tryz.func38,by kernel_rfl,rfl,by kernel_rfl⟩ zap mixed (by show 1≤Tryz.f38.ntmps; decide) ?_
 refine W.r fun K hK=>?_
 simp(disch:=omega)only[↓RU,RV,RH,↓reduceIte,qE,reduceCtorEq,if_pos,↓RS,RG,qA,qM,qL,ty0,ty3,zah,zg3,zex,zg5]
 apply hK;clear hK K
 refine W.r fun K hK=>?_
 simp(disch:=omega)only[↓RU,RV,RH,↓reduceIte,qE,reduceCtorEq,if_pos,qN,↓RS,RG,qA,qM,qL,hv]
 refine zac.pc (hx) rfl (.inr rfl) ?_
 simp(disch:=omega)only[↓RU,RV,RH,↓reduceIte,qE,reduceCtorEq,if_pos,qN,↓RS,RG,qA,qM,qL,hv]
 apply hK;clear hK K
 refine W.seq ?_
 refine W.r fun K hK=>?_
 simp(disch:=omega)only[↓RU,RV,RH,↓reduceIte,qE,reduceCtorEq,if_pos,↓RS,RG,qA,qM,qL]
 apply hK;clear hK K
 refine W.cond rfl (fun h=>?_) (fun h=>?_)
 ·try simp only[RL]at h
  exact absurd h (by simp)
 try simp only[RL]at h
 refine W.skip ?_
 refine xn ?_
 refine W.r fun K hK=>?_
 simp(disch:=omega)only[↓RU,RV,RH,↓reduceIte,qE,reduceCtorEq,if_pos,qN,↓RS,RG,qA,qM,qL,ty0,ty3,zah,zg3,zex,zg5]
 refine zac.pc (z7n hg rfl hn9 hrm) rfl (.inl rfl) ?_
 simp(disch:=omega)only[↓RU,RV,RH,↓reduceIte,qE,reduceCtorEq,if_pos,qN,↓RS,RG,qA,qM,qL,ty0,ty3,zah,zg3,zex,zg5]
 apply hK;clear hK K
 refine W.ret ?_
 refine Br rfl ?_
 rw [yge,yfn]
 rfl
theorem z3t {F R:List Ob} {ver t:Nat} {l:List Int} {f:FuncId} {cs:List PV} {cm:Int→Int→Int} {g:Int→Int} (hf:∀ x y,x∈l→y∈l→PC Tryz.prog f [.int .i64 x,.int .i64 y,.ip cs 0] (.int .i64 (cm x y)) true) (hg:∀ x y,x∈l→y∈l→(cm x y<0↔g x<g y)) (hl:l.length<2147483648) (h1:1≤l.length):Ev Tryz.prog 160 [.loc F.length ver 0 l.length,.int .i64 0,.int .i64 l.length,.fn f [.ip cs 0]] ⟨F ++ .arr ver 3 1 (l.map (.int .i64))::R,t⟩ fun v S=>v = .tup []∧∃ z:List Int,z.Perm l∧(z.map g).Pairwise (· ≤ ·)∧S=⟨F ++ .arr ver 3 1 (z.map (.int .i64))::R,t⟩:=by
 refine Ev.of ⟨Tryz.func160,by kernel_rfl,rfl,by kernel_rfl⟩ zap mixed (by show 4≤Tryz.f160.ntmps; decide) ?_
 refine W.r fun K hK=>?_
 simp(disch:=omega)only[↓RU,RV,RH,↓reduceIte,qE,reduceCtorEq,if_pos,w64,↓RS,RG,qA,qM,qL,zaa,gF,zdz]
 apply hK;clear hK K
 refine W.block ?_
 refine W.loop [0,1,2,3,8] (fun n vs S=>∃ (i:Nat) (c:List Int),n=l.length - i∧1≤i∧i≤l.length∧c.Perm l∧Ord (c.map g) i∧vs=[.loc F.length ver 0 l.length,.int .i64 0,.int .i64 l.length,.fn f [.ip cs 0],.int .i64 i]∧S=⟨F ++ .arr ver 3 1 (c.map (.int .i64))::R,t⟩) (l.length - 1) ?_ ?_
 ·refine ⟨_,1,l,rfl,qR _,h1,List.Perm.refl _,Ord.one _,?_,zal⟩
  simp [Env.put,Env.of,zae]
 rintro n vs S - ⟨i,c,rfl,hi1,h_i,hp,ho,rfl,rfl⟩
 refine W.seq ?_
 refine W.r fun K hK=>?_
 simp(disch:=omega)only[↓RU,RV,RH,↓reduceIte,qE,reduceCtorEq,if_pos,w64,↓RS,RG,qA,qM,qL,zaa,gF,zdz]
 apply hK;clear hK K
 refine W.cond rfl (fun h=>?_) (fun h=>?_)
 ·try simp only[RL]at h
  refine W.skip ?_
  refine xn ?_
  refine W.seq ?_
  refine W.block ?_
  refine W.r fun K hK=>?_
  simp(disch:=omega)only[↓RU,RV,RH,↓reduceIte,qE,reduceCtorEq,if_pos,↓RS,RG,qA,qM,qL,gF,zdz]
  apply hK;clear hK K
  refine W.block ?_
  refine W.loop [0,1,2,3,8,9] (fun n vs S=>∃ (j:Nat) (d:List Int),n=j+1∧j≤i∧d.Perm l∧z9n (d.map g) j i∧vs=[.loc F.length ver 0 l.length,.int .i64 0,.int .i64 l.length,.fn f [.ip cs 0],.int .i64 i,.int .i64 j]∧S=⟨F ++ .arr ver 3 1 (d.map (.int .i64))::R,t⟩) (i+1) ?_ ?_
  ·refine ⟨_,i,c,rfl,qR _,hp,ho.ins,?_,zal⟩
   simp [Env.put,Env.of]
  rintro n vs S - ⟨j,d,rfl,h_j,hq,hO,rfl,rfl⟩
  refine W.seq ?_
  refine W.seq_draw (by kernel_rfl) fun K hK=>?_
  cases hd:decide ((j:Int)>0)
  ·skip
   obtain rfl:j=0:=by simpa using hd
   simp(disch:=omega)only[↓RU,RV,RH,↓reduceIte,qE,reduceCtorEq,if_pos,w64,qN,↓RS,RG,qA,qM,qL,zad,zaa,gF,zdz,hd]
   apply hK;clear hK K
   refine W.cond rfl (fun h2=>?_) (fun h2=>?_)
   ·try simp only[RL]at h2
    exact absurd h2 (by simp)
   try simp only[RL]at h2
   have hO2:Ord (d.map g) (i+1):=hO.zero
   refine W.exit ?_
   refine xe ?_
   refine xe ?_
   refine XBlock.hit ?_
   refine XbN ?_
   refine xn ?_
   refine W.k fun K hK=>?_
   simp(disch:=omega)only[↓RU,RV,RH,↓reduceIte,qE,reduceCtorEq,if_pos,w64,↓RS,RG,qA,qM,qL,zaa,gF,zdz]
   apply hK;clear hK K
   refine xn ?_
   refine ⟨l.length - (i+1),by omega,_,i+1,d,rfl,by omega,by omega,hq,hO2,?_,zal⟩
   simp [Env.put,Env.of]
  ·skip
   have hj0:j≠0:=by have:=of_decide_eq_true hd; omega
   have hdl:=hq.length_eq
   obtain ⟨x,hx,hxm⟩:=zag (show j<d.length by omega)
   obtain ⟨y,hy,hym⟩:=zag (show j - 1<d.length by omega)
   have hxl:=hq.mem_iff.1 hxm
   have hyl:=hq.mem_iff.1 hym
   have hxg:(d.map g)[j]?=some (g x):=by rw [List.getElem?_map,hx]; rfl
   have hyg:(d.map g)[j - 1]?=some (g y):=by rw [List.getElem?_map,hy]; rfl
   simp(disch:=omega)only[↓RU,RV,RH,↓reduceIte,qE,reduceCtorEq,if_pos,w64,qN,↓RS,RG,qA,qM,qL,zad,zaa,gF,zdz,hd,hx,hy,zc3]
   refine zac.pc (hf x y hxl hyl) rfl (.inl rfl) ?_
   simp(disch:=omega)only[↓RU,RV,RH,↓reduceIte,qE,reduceCtorEq,if_pos,w64,qN,↓RS,RG,qA,qM,qL,zad,zaa,gF,zdz,hd,hx,hy,zc3]
   apply hK;clear hK K
   refine W.cond rfl (fun h2=>?_) (fun h2=>?_)
   ·try simp only[RL]at h2
    have hjl:=zbp hx
    have hsl:(d.set j y).length=d.length:=by simp
    refine W.skip ?_
    refine xn ?_
    refine W.seq ?_
    refine W.block ?_
    refine W.draw_k (by kernel_rfl) fun K hK=>?_
    simp(disch:=omega)only[↓RU,RV,RH,↓reduceIte,qE,reduceCtorEq,if_pos,w64,↓RS,RG,qA,qM,qL,zad,zaa,gF,zdz,hx,hy,zc3,zcb,zeb,List.length_set]
    apply hK;clear hK K
    refine XbN ?_
    refine xn ?_
    refine W.k fun K hK=>?_
    simp(disch:=omega)only[↓RU,RV,RH,↓reduceIte,qE,reduceCtorEq,if_pos,w64,↓RS,RG,qA,qM,qL,zaa,gF,zdz]
    apply hK;clear hK K
    refine xn ?_
    refine ⟨j - 1+1,by omega,_,j - 1,(d.set j y).set (j - 1) x,rfl,by omega,zyj hq hx hy,by rw [List.map_set,List.map_set]; exact hO.swap hj0 h_j hxg hyg ((hg x y hxl hyl).1 h2),?_,zal⟩
    simp [Env.put,Env.of]; omega
   try simp only[RL]at h2
   have hO2:Ord (d.map g) (i+1):=hO.stop hxg hyg (fun q=>h2 ((hg x y hxl hyl).2 q))
   refine W.exit ?_
   refine xe ?_
   refine xe ?_
   refine XBlock.hit ?_
   refine XbN ?_
   refine xn ?_
   refine W.k fun K hK=>?_
   simp(disch:=omega)only[↓RU,RV,RH,↓reduceIte,qE,reduceCtorEq,if_pos,w64,↓RS,RG,qA,qM,qL,zaa,gF,zdz]
   apply hK;clear hK K
   refine xn ?_
   refine ⟨l.length - (i+1),by omega,_,i+1,d,rfl,by omega,by omega,hq,hO2,?_,zal⟩
   simp [Env.put,Env.of]
 try simp only[RL]at h
 obtain rfl:l.length=i:=by omega
 refine W.exit ?_
 refine xe ?_
 refine xe ?_
 refine XBlock.hit ?_
 refine zfk.norm rfl ?_
 exact ⟨_,rfl,c,hp,(by rw [← hp.length_eq]at ho; exact Ord.pair (by rw [List.length_map]; exact ho)),zal⟩
theorem ydw  : PC Tryz.prog 169 [.int .u64 1] (.int .i64 1) true:=by
 refine PC.of ⟨Tryz.func169,by kernel_rfl,rfl,by kernel_rfl⟩ zap mixed (by show 1≤Tryz.f169.ntmps; decide) ?_
 refine W.r fun K hK=>?_
 simp(disch:=omega)only[↓RU,RV,RH,↓reduceIte,qE,reduceCtorEq,if_pos]
 apply hK;clear hK K
 refine W.seq ?_
 refine W.r fun K hK=>?_
 simp(disch:=omega)only[↓RU,RV,RH,↓reduceIte,qE,reduceCtorEq,if_pos,w64,zij]
 apply hK;clear hK K
 refine W.cond rfl (fun h=>?_) (fun h=>?_)
 ·try simp only[RL]at h
  exact absurd h (by decide)
 try simp only[RL]at h
 refine W.skip ?_
 refine xn ?_
 refine W.seq ?_
 refine W.r fun K hK=>?_
 simp(disch:=omega)only[↓RU,RV,RH,↓reduceIte,qE,reduceCtorEq,if_pos,w64,zij]
 apply hK;clear hK K
 refine W.cond rfl (fun h1=>?_) (fun h1=>?_)
 ·try simp only[RL]at h1
  exact absurd h1 (by decide)
 try simp only[RL]at h1
 refine W.skip ?_
 refine xn ?_
 refine W.seq ?_
 refine W.r fun K hK=>?_
 simp(disch:=omega)only[↓RU,RV,RH,↓reduceIte,qE,reduceCtorEq,if_pos,w64,zij]
 apply hK;clear hK K
 refine W.cond rfl (fun h2=>?_) (fun h2=>?_)
 ·try simp only[RL]at h2
  exact absurd h2 (by decide)
 try simp only[RL]at h2
 refine W.skip ?_
 refine xn ?_
 refine W.r fun K hK=>?_
 simp(disch:=omega)only[↓RU,RV,RH,↓reduceIte,qE,reduceCtorEq,if_pos,w64,w64,zaa,zab,zij,zce]
 apply hK;clear hK K
 refine W.ret ?_
 refine Br rfl ?_
 rfl
theorem yhj  : PC Tryz.prog 149 [.int .u64 1] (.int .i64 1) true:=by
 refine PC.of ⟨Tryz.func149,by kernel_rfl,rfl,by kernel_rfl⟩ zap mixed (by show 1≤Tryz.f149.ntmps; decide) ?_
 refine W.r fun K hK=>?_
 simp(disch:=omega)only[↓RU,RV,RH,↓reduceIte,qE,reduceCtorEq,if_pos]
 apply hK;clear hK K
 refine W.seq ?_
 refine W.cond rfl (fun h=>?_) (fun h=>?_)
 ·try simp only[RL]at h
  exact absurd h (by decide)
 try simp only[RL]at h
 refine W.skip ?_
 refine xn ?_
 refine W.r fun K hK=>?_
 simp(disch:=omega)only[↓RU,RV,RH,↓reduceIte,qE,reduceCtorEq,if_pos,qN]
 refine zac.pc (ydw) rfl (.inl rfl) ?_
 simp(disch:=omega)only[↓RU,RV,RH,↓reduceIte,qE,reduceCtorEq,if_pos,qN]
 apply hK;clear hK K
 refine W.ret ?_
 refine Br rfl ?_
 rfl
theorem ydx  : PC Tryz.prog 169 [.int .u64 2] (.int .i64 2) true:=by
 refine PC.of ⟨Tryz.func169,by kernel_rfl,rfl,by kernel_rfl⟩ zap mixed (by show 1≤Tryz.f169.ntmps; decide) ?_
 refine W.r fun K hK=>?_
 simp(disch:=omega)only[↓RU,RV,RH,↓reduceIte,qE,reduceCtorEq,if_pos]
 apply hK;clear hK K
 refine W.seq ?_
 refine W.r fun K hK=>?_
 simp(disch:=omega)only[↓RU,RV,RH,↓reduceIte,qE,reduceCtorEq,if_pos,w64,zij]
 apply hK;clear hK K
 refine W.cond rfl (fun h=>?_) (fun h=>?_)
 ·try simp only[RL]at h
  exact absurd h (by decide)
 try simp only[RL]at h
 refine W.skip ?_
 refine xn ?_
 refine W.seq ?_
 refine W.r fun K hK=>?_
 simp(disch:=omega)only[↓RU,RV,RH,↓reduceIte,qE,reduceCtorEq,if_pos,w64,zij]
 apply hK;clear hK K
 refine W.cond rfl (fun h1=>?_) (fun h1=>?_)
 ·try simp only[RL]at h1
  exact absurd h1 (by decide)
 try simp only[RL]at h1
 refine W.skip ?_
 refine xn ?_
 refine W.seq ?_
 refine W.r fun K hK=>?_
 simp(disch:=omega)only[↓RU,RV,RH,↓reduceIte,qE,reduceCtorEq,if_pos,w64,zij]
 apply hK;clear hK K
 refine W.cond rfl (fun h2=>?_) (fun h2=>?_)
 ·try simp only[RL]at h2
  exact absurd h2 (by decide)
 try simp only[RL]at h2
 refine W.skip ?_
 refine xn ?_
 refine W.r fun K hK=>?_
 simp(disch:=omega)only[↓RU,RV,RH,↓reduceIte,qE,reduceCtorEq,if_pos,w64,w64,zaa,zab,zij,zce]
 apply hK;clear hK K
 refine W.ret ?_
 refine Br rfl ?_
 rfl
theorem yhk  : PC Tryz.prog 149 [.int .u64 2] (.int .i64 2) true:=by
 refine PC.of ⟨Tryz.func149,by kernel_rfl,rfl,by kernel_rfl⟩ zap mixed (by show 1≤Tryz.f149.ntmps; decide) ?_
 refine W.r fun K hK=>?_
 simp(disch:=omega)only[↓RU,RV,RH,↓reduceIte,qE,reduceCtorEq,if_pos]
 apply hK;clear hK K
 refine W.seq ?_
 refine W.cond rfl (fun h=>?_) (fun h=>?_)
 ·try simp only[RL]at h
  exact absurd h (by decide)
 try simp only[RL]at h
 refine W.skip ?_
 refine xn ?_
 refine W.r fun K hK=>?_
 simp(disch:=omega)only[↓RU,RV,RH,↓reduceIte,qE,reduceCtorEq,if_pos,qN]
 refine zac.pc (ydx) rfl (.inl rfl) ?_
 simp(disch:=omega)only[↓RU,RV,RH,↓reduceIte,qE,reduceCtorEq,if_pos,qN]
 apply hK;clear hK K
 refine W.ret ?_
 refine Br rfl ?_
 rfl
theorem ydy  : PC Tryz.prog 169 [.int .u64 3] (.int .i64 2) true:=by
 refine PC.of ⟨Tryz.func169,by kernel_rfl,rfl,by kernel_rfl⟩ zap mixed (by show 1≤Tryz.f169.ntmps; decide) ?_
 refine W.r fun K hK=>?_
 simp(disch:=omega)only[↓RU,RV,RH,↓reduceIte,qE,reduceCtorEq,if_pos]
 apply hK;clear hK K
 refine W.seq ?_
 refine W.r fun K hK=>?_
 simp(disch:=omega)only[↓RU,RV,RH,↓reduceIte,qE,reduceCtorEq,if_pos,w64,zij]
 apply hK;clear hK K
 refine W.cond rfl (fun h=>?_) (fun h=>?_)
 ·try simp only[RL]at h
  exact absurd h (by decide)
 try simp only[RL]at h
 refine W.skip ?_
 refine xn ?_
 refine W.seq ?_
 refine W.r fun K hK=>?_
 simp(disch:=omega)only[↓RU,RV,RH,↓reduceIte,qE,reduceCtorEq,if_pos,w64,zij]
 apply hK;clear hK K
 refine W.cond rfl (fun h1=>?_) (fun h1=>?_)
 ·try simp only[RL]at h1
  exact absurd h1 (by decide)
 try simp only[RL]at h1
 refine W.skip ?_
 refine xn ?_
 refine W.seq ?_
 refine W.r fun K hK=>?_
 simp(disch:=omega)only[↓RU,RV,RH,↓reduceIte,qE,reduceCtorEq,if_pos,w64,zij]
 apply hK;clear hK K
 refine W.cond rfl (fun h2=>?_) (fun h2=>?_)
 ·try simp only[RL]at h2
  exact absurd h2 (by decide)
 try simp only[RL]at h2
 refine W.skip ?_
 refine xn ?_
 refine W.r fun K hK=>?_
 simp(disch:=omega)only[↓RU,RV,RH,↓reduceIte,qE,reduceCtorEq,if_pos,w64,w64,zaa,zab,zij,zce]
 apply hK;clear hK K
 refine W.ret ?_
 refine Br rfl ?_
 rfl
theorem yhl  : PC Tryz.prog 149 [.int .u64 3] (.int .i64 2) true:=by
 refine PC.of ⟨Tryz.func149,by kernel_rfl,rfl,by kernel_rfl⟩ zap mixed (by show 1≤Tryz.f149.ntmps; decide) ?_
 refine W.r fun K hK=>?_
 simp(disch:=omega)only[↓RU,RV,RH,↓reduceIte,qE,reduceCtorEq,if_pos]
 apply hK;clear hK K
 refine W.seq ?_
 refine W.cond rfl (fun h=>?_) (fun h=>?_)
 ·try simp only[RL]at h
  exact absurd h (by decide)
 try simp only[RL]at h
 refine W.skip ?_
 refine xn ?_
 refine W.r fun K hK=>?_
 simp(disch:=omega)only[↓RU,RV,RH,↓reduceIte,qE,reduceCtorEq,if_pos,qN]
 refine zac.pc (ydy) rfl (.inl rfl) ?_
 simp(disch:=omega)only[↓RU,RV,RH,↓reduceIte,qE,reduceCtorEq,if_pos,qN]
 apply hK;clear hK K
 refine W.ret ?_
 refine Br rfl ?_
 rfl
theorem ydz  : PC Tryz.prog 169 [.int .u64 4] (.int .i64 3) true:=by
 refine PC.of ⟨Tryz.func169,by kernel_rfl,rfl,by kernel_rfl⟩ zap mixed (by show 1≤Tryz.f169.ntmps; decide) ?_
 refine W.r fun K hK=>?_
 simp(disch:=omega)only[↓RU,RV,RH,↓reduceIte,qE,reduceCtorEq,if_pos]
 apply hK;clear hK K
 refine W.seq ?_
 refine W.r fun K hK=>?_
 simp(disch:=omega)only[↓RU,RV,RH,↓reduceIte,qE,reduceCtorEq,if_pos,w64,zij]
 apply hK;clear hK K
 refine W.cond rfl (fun h=>?_) (fun h=>?_)
 ·try simp only[RL]at h
  exact absurd h (by decide)
 try simp only[RL]at h
 refine W.skip ?_
 refine xn ?_
 refine W.seq ?_
 refine W.r fun K hK=>?_
 simp(disch:=omega)only[↓RU,RV,RH,↓reduceIte,qE,reduceCtorEq,if_pos,w64,zij]
 apply hK;clear hK K
 refine W.cond rfl (fun h1=>?_) (fun h1=>?_)
 ·try simp only[RL]at h1
  exact absurd h1 (by decide)
 try simp only[RL]at h1
 refine W.skip ?_
 refine xn ?_
 refine W.seq ?_
 refine W.r fun K hK=>?_
 simp(disch:=omega)only[↓RU,RV,RH,↓reduceIte,qE,reduceCtorEq,if_pos,w64,zij]
 apply hK;clear hK K
 refine W.cond rfl (fun h2=>?_) (fun h2=>?_)
 ·try simp only[RL]at h2
  exact absurd h2 (by decide)
 try simp only[RL]at h2
 refine W.skip ?_
 refine xn ?_
 refine W.r fun K hK=>?_
 simp(disch:=omega)only[↓RU,RV,RH,↓reduceIte,qE,reduceCtorEq,if_pos,w64,w64,zaa,zab,zij,zce]
 apply hK;clear hK K
 refine W.ret ?_
 refine Br rfl ?_
 rfl
theorem yhm  : PC Tryz.prog 149 [.int .u64 4] (.int .i64 3) true:=by
 refine PC.of ⟨Tryz.func149,by kernel_rfl,rfl,by kernel_rfl⟩ zap mixed (by show 1≤Tryz.f149.ntmps; decide) ?_
 refine W.r fun K hK=>?_
 simp(disch:=omega)only[↓RU,RV,RH,↓reduceIte,qE,reduceCtorEq,if_pos]
 apply hK;clear hK K
 refine W.seq ?_
 refine W.cond rfl (fun h=>?_) (fun h=>?_)
 ·try simp only[RL]at h
  exact absurd h (by decide)
 try simp only[RL]at h
 refine W.skip ?_
 refine xn ?_
 refine W.r fun K hK=>?_
 simp(disch:=omega)only[↓RU,RV,RH,↓reduceIte,qE,reduceCtorEq,if_pos,qN]
 refine zac.pc (ydz) rfl (.inl rfl) ?_
 simp(disch:=omega)only[↓RU,RV,RH,↓reduceIte,qE,reduceCtorEq,if_pos,qN]
 apply hK;clear hK K
 refine W.ret ?_
 refine Br rfl ?_
 rfl
theorem yd0  : PC Tryz.prog 169 [.int .u64 5] (.int .i64 3) true:=by
 refine PC.of ⟨Tryz.func169,by kernel_rfl,rfl,by kernel_rfl⟩ zap mixed (by show 1≤Tryz.f169.ntmps; decide) ?_
 refine W.r fun K hK=>?_
 simp(disch:=omega)only[↓RU,RV,RH,↓reduceIte,qE,reduceCtorEq,if_pos]
 apply hK;clear hK K
 refine W.seq ?_
 refine W.r fun K hK=>?_
 simp(disch:=omega)only[↓RU,RV,RH,↓reduceIte,qE,reduceCtorEq,if_pos,w64,zij]
 apply hK;clear hK K
 refine W.cond rfl (fun h=>?_) (fun h=>?_)
 ·try simp only[RL]at h
  exact absurd h (by decide)
 try simp only[RL]at h
 refine W.skip ?_
 refine xn ?_
 refine W.seq ?_
 refine W.r fun K hK=>?_
 simp(disch:=omega)only[↓RU,RV,RH,↓reduceIte,qE,reduceCtorEq,if_pos,w64,zij]
 apply hK;clear hK K
 refine W.cond rfl (fun h1=>?_) (fun h1=>?_)
 ·try simp only[RL]at h1
  exact absurd h1 (by decide)
 try simp only[RL]at h1
 refine W.skip ?_
 refine xn ?_
 refine W.seq ?_
 refine W.r fun K hK=>?_
 simp(disch:=omega)only[↓RU,RV,RH,↓reduceIte,qE,reduceCtorEq,if_pos,w64,zij]
 apply hK;clear hK K
 refine W.cond rfl (fun h2=>?_) (fun h2=>?_)
 ·try simp only[RL]at h2
  exact absurd h2 (by decide)
 try simp only[RL]at h2
 refine W.skip ?_
 refine xn ?_
 refine W.r fun K hK=>?_
 simp(disch:=omega)only[↓RU,RV,RH,↓reduceIte,qE,reduceCtorEq,if_pos,w64,w64,zaa,zab,zij,zce]
 apply hK;clear hK K
 refine W.ret ?_
 refine Br rfl ?_
 rfl
theorem yhn  : PC Tryz.prog 149 [.int .u64 5] (.int .i64 3) true:=by
 refine PC.of ⟨Tryz.func149,by kernel_rfl,rfl,by kernel_rfl⟩ zap mixed (by show 1≤Tryz.f149.ntmps; decide) ?_
 refine W.r fun K hK=>?_
 simp(disch:=omega)only[↓RU,RV,RH,↓reduceIte,qE,reduceCtorEq,if_pos]
 apply hK;clear hK K
 refine W.seq ?_
 refine W.cond rfl (fun h=>?_) (fun h=>?_)
 ·try simp only[RL]at h
  exact absurd h (by decide)
 try simp only[RL]at h
 refine W.skip ?_
 refine xn ?_
 refine W.r fun K hK=>?_
 simp(disch:=omega)only[↓RU,RV,RH,↓reduceIte,qE,reduceCtorEq,if_pos,qN]
 refine zac.pc (yd0) rfl (.inl rfl) ?_
 simp(disch:=omega)only[↓RU,RV,RH,↓reduceIte,qE,reduceCtorEq,if_pos,qN]
 apply hK;clear hK K
 refine W.ret ?_
 refine Br rfl ?_
 rfl
theorem yd1  : PC Tryz.prog 169 [.int .u64 6] (.int .i64 3) true:=by
 refine PC.of ⟨Tryz.func169,by kernel_rfl,rfl,by kernel_rfl⟩ zap mixed (by show 1≤Tryz.f169.ntmps; decide) ?_
 refine W.r fun K hK=>?_
 simp(disch:=omega)only[↓RU,RV,RH,↓reduceIte,qE,reduceCtorEq,if_pos]
 apply hK;clear hK K
 refine W.seq ?_
 refine W.r fun K hK=>?_
 simp(disch:=omega)only[↓RU,RV,RH,↓reduceIte,qE,reduceCtorEq,if_pos,w64,zij]
 apply hK;clear hK K
 refine W.cond rfl (fun h=>?_) (fun h=>?_)
 ·try simp only[RL]at h
  exact absurd h (by decide)
 try simp only[RL]at h
 refine W.skip ?_
 refine xn ?_
 refine W.seq ?_
 refine W.r fun K hK=>?_
 simp(disch:=omega)only[↓RU,RV,RH,↓reduceIte,qE,reduceCtorEq,if_pos,w64,zij]
 apply hK;clear hK K
 refine W.cond rfl (fun h1=>?_) (fun h1=>?_)
 ·try simp only[RL]at h1
  exact absurd h1 (by decide)
 try simp only[RL]at h1
 refine W.skip ?_
 refine xn ?_
 refine W.seq ?_
 refine W.r fun K hK=>?_
 simp(disch:=omega)only[↓RU,RV,RH,↓reduceIte,qE,reduceCtorEq,if_pos,w64,zij]
 apply hK;clear hK K
 refine W.cond rfl (fun h2=>?_) (fun h2=>?_)
 ·try simp only[RL]at h2
  exact absurd h2 (by decide)
 try simp only[RL]at h2
 refine W.skip ?_
 refine xn ?_
 refine W.r fun K hK=>?_
 simp(disch:=omega)only[↓RU,RV,RH,↓reduceIte,qE,reduceCtorEq,if_pos,w64,w64,zaa,zab,zij,zce]
 apply hK;clear hK K
 refine W.ret ?_
 refine Br rfl ?_
 rfl
theorem yho  : PC Tryz.prog 149 [.int .u64 6] (.int .i64 3) true:=by
 refine PC.of ⟨Tryz.func149,by kernel_rfl,rfl,by kernel_rfl⟩ zap mixed (by show 1≤Tryz.f149.ntmps; decide) ?_
 refine W.r fun K hK=>?_
 simp(disch:=omega)only[↓RU,RV,RH,↓reduceIte,qE,reduceCtorEq,if_pos]
 apply hK;clear hK K
 refine W.seq ?_
 refine W.cond rfl (fun h=>?_) (fun h=>?_)
 ·try simp only[RL]at h
  exact absurd h (by decide)
 try simp only[RL]at h
 refine W.skip ?_
 refine xn ?_
 refine W.r fun K hK=>?_
 simp(disch:=omega)only[↓RU,RV,RH,↓reduceIte,qE,reduceCtorEq,if_pos,qN]
 refine zac.pc (yd1) rfl (.inl rfl) ?_
 simp(disch:=omega)only[↓RU,RV,RH,↓reduceIte,qE,reduceCtorEq,if_pos,qN]
 apply hK;clear hK K
 refine W.ret ?_
 refine Br rfl ?_
 rfl
theorem yd2  : PC Tryz.prog 169 [.int .u64 7] (.int .i64 3) true:=by
 refine PC.of ⟨Tryz.func169,by kernel_rfl,rfl,by kernel_rfl⟩ zap mixed (by show 1≤Tryz.f169.ntmps; decide) ?_
 refine W.r fun K hK=>?_
 simp(disch:=omega)only[↓RU,RV,RH,↓reduceIte,qE,reduceCtorEq,if_pos]
 apply hK;clear hK K
 refine W.seq ?_
 refine W.r fun K hK=>?_
 simp(disch:=omega)only[↓RU,RV,RH,↓reduceIte,qE,reduceCtorEq,if_pos,w64,zij]
 apply hK;clear hK K
 refine W.cond rfl (fun h=>?_) (fun h=>?_)
 ·try simp only[RL]at h
  exact absurd h (by decide)
 try simp only[RL]at h
 refine W.skip ?_
 refine xn ?_
 refine W.seq ?_
 refine W.r fun K hK=>?_
 simp(disch:=omega)only[↓RU,RV,RH,↓reduceIte,qE,reduceCtorEq,if_pos,w64,zij]
 apply hK;clear hK K
 refine W.cond rfl (fun h1=>?_) (fun h1=>?_)
 ·try simp only[RL]at h1
  exact absurd h1 (by decide)
 try simp only[RL]at h1
 refine W.skip ?_
 refine xn ?_
 refine W.seq ?_
 refine W.r fun K hK=>?_
 simp(disch:=omega)only[↓RU,RV,RH,↓reduceIte,qE,reduceCtorEq,if_pos,w64,zij]
 apply hK;clear hK K
 refine W.cond rfl (fun h2=>?_) (fun h2=>?_)
 ·try simp only[RL]at h2
  exact absurd h2 (by decide)
 try simp only[RL]at h2
 refine W.skip ?_
 refine xn ?_
 refine W.r fun K hK=>?_
 simp(disch:=omega)only[↓RU,RV,RH,↓reduceIte,qE,reduceCtorEq,if_pos,w64,w64,zaa,zab,zij,zce]
 apply hK;clear hK K
 refine W.ret ?_
 refine Br rfl ?_
 rfl
theorem yhp  : PC Tryz.prog 149 [.int .u64 7] (.int .i64 3) true:=by
 refine PC.of ⟨Tryz.func149,by kernel_rfl,rfl,by kernel_rfl⟩ zap mixed (by show 1≤Tryz.f149.ntmps; decide) ?_
 refine W.r fun K hK=>?_
 simp(disch:=omega)only[↓RU,RV,RH,↓reduceIte,qE,reduceCtorEq,if_pos]
 apply hK;clear hK K
 refine W.seq ?_
 refine W.cond rfl (fun h=>?_) (fun h=>?_)
 ·try simp only[RL]at h
  exact absurd h (by decide)
 try simp only[RL]at h
 refine W.skip ?_
 refine xn ?_
 refine W.r fun K hK=>?_
 simp(disch:=omega)only[↓RU,RV,RH,↓reduceIte,qE,reduceCtorEq,if_pos,qN]
 refine zac.pc (yd2) rfl (.inl rfl) ?_
 simp(disch:=omega)only[↓RU,RV,RH,↓reduceIte,qE,reduceCtorEq,if_pos,qN]
 apply hK;clear hK K
 refine W.ret ?_
 refine Br rfl ?_
 rfl
theorem yd3  : PC Tryz.prog 169 [.int .u64 8] (.int .i64 4) true:=by
 refine PC.of ⟨Tryz.func169,by kernel_rfl,rfl,by kernel_rfl⟩ zap mixed (by show 1≤Tryz.f169.ntmps; decide) ?_
 refine W.r fun K hK=>?_
 simp(disch:=omega)only[↓RU,RV,RH,↓reduceIte,qE,reduceCtorEq,if_pos]
 apply hK;clear hK K
 refine W.seq ?_
 refine W.r fun K hK=>?_
 simp(disch:=omega)only[↓RU,RV,RH,↓reduceIte,qE,reduceCtorEq,if_pos,w64,zij]
 apply hK;clear hK K
 refine W.cond rfl (fun h=>?_) (fun h=>?_)
 ·try simp only[RL]at h
  exact absurd h (by decide)
 try simp only[RL]at h
 refine W.skip ?_
 refine xn ?_
 refine W.seq ?_
 refine W.r fun K hK=>?_
 simp(disch:=omega)only[↓RU,RV,RH,↓reduceIte,qE,reduceCtorEq,if_pos,w64,zij]
 apply hK;clear hK K
 refine W.cond rfl (fun h1=>?_) (fun h1=>?_)
 ·try simp only[RL]at h1
  exact absurd h1 (by decide)
 try simp only[RL]at h1
 refine W.skip ?_
 refine xn ?_
 refine W.seq ?_
 refine W.r fun K hK=>?_
 simp(disch:=omega)only[↓RU,RV,RH,↓reduceIte,qE,reduceCtorEq,if_pos,w64,zij]
 apply hK;clear hK K
 refine W.cond rfl (fun h2=>?_) (fun h2=>?_)
 ·try simp only[RL]at h2
  exact absurd h2 (by decide)
 try simp only[RL]at h2
 refine W.skip ?_
 refine xn ?_
 refine W.r fun K hK=>?_
 simp(disch:=omega)only[↓RU,RV,RH,↓reduceIte,qE,reduceCtorEq,if_pos,w64,w64,zaa,zab,zij,zce]
 apply hK;clear hK K
 refine W.ret ?_
 refine Br rfl ?_
 rfl
theorem yhq  : PC Tryz.prog 149 [.int .u64 8] (.int .i64 4) true:=by
 refine PC.of ⟨Tryz.func149,by kernel_rfl,rfl,by kernel_rfl⟩ zap mixed (by show 1≤Tryz.f149.ntmps; decide) ?_
 refine W.r fun K hK=>?_
 simp(disch:=omega)only[↓RU,RV,RH,↓reduceIte,qE,reduceCtorEq,if_pos]
 apply hK;clear hK K
 refine W.seq ?_
 refine W.cond rfl (fun h=>?_) (fun h=>?_)
 ·try simp only[RL]at h
  exact absurd h (by decide)
 try simp only[RL]at h
 refine W.skip ?_
 refine xn ?_
 refine W.r fun K hK=>?_
 simp(disch:=omega)only[↓RU,RV,RH,↓reduceIte,qE,reduceCtorEq,if_pos,qN]
 refine zac.pc (yd3) rfl (.inl rfl) ?_
 simp(disch:=omega)only[↓RU,RV,RH,↓reduceIte,qE,reduceCtorEq,if_pos,qN]
 apply hK;clear hK K
 refine W.ret ?_
 refine Br rfl ?_
 rfl
theorem yd4  : PC Tryz.prog 169 [.int .u64 9] (.int .i64 4) true:=by
 refine PC.of ⟨Tryz.func169,by kernel_rfl,rfl,by kernel_rfl⟩ zap mixed (by show 1≤Tryz.f169.ntmps; decide) ?_
 refine W.r fun K hK=>?_
 simp(disch:=omega)only[↓RU,RV,RH,↓reduceIte,qE,reduceCtorEq,if_pos]
 apply hK;clear hK K
 refine W.seq ?_
 refine W.r fun K hK=>?_
 simp(disch:=omega)only[↓RU,RV,RH,↓reduceIte,qE,reduceCtorEq,if_pos,w64,zij]
 apply hK;clear hK K
 refine W.cond rfl (fun h=>?_) (fun h=>?_)
 ·try simp only[RL]at h
  exact absurd h (by decide)
 try simp only[RL]at h
 refine W.skip ?_
 refine xn ?_
 refine W.seq ?_
 refine W.r fun K hK=>?_
 simp(disch:=omega)only[↓RU,RV,RH,↓reduceIte,qE,reduceCtorEq,if_pos,w64,zij]
 apply hK;clear hK K
 refine W.cond rfl (fun h1=>?_) (fun h1=>?_)
 ·try simp only[RL]at h1
  exact absurd h1 (by decide)
 try simp only[RL]at h1
 refine W.skip ?_
 refine xn ?_
 refine W.seq ?_
 refine W.r fun K hK=>?_
 simp(disch:=omega)only[↓RU,RV,RH,↓reduceIte,qE,reduceCtorEq,if_pos,w64,zij]
 apply hK;clear hK K
 refine W.cond rfl (fun h2=>?_) (fun h2=>?_)
 ·try simp only[RL]at h2
  exact absurd h2 (by decide)
 try simp only[RL]at h2
 refine W.skip ?_
 refine xn ?_
 refine W.r fun K hK=>?_
 simp(disch:=omega)only[↓RU,RV,RH,↓reduceIte,qE,reduceCtorEq,if_pos,w64,w64,zaa,zab,zij,zce]
 apply hK;clear hK K
 refine W.ret ?_
 refine Br rfl ?_
 rfl
theorem yhr  : PC Tryz.prog 149 [.int .u64 9] (.int .i64 4) true:=by
 refine PC.of ⟨Tryz.func149,by kernel_rfl,rfl,by kernel_rfl⟩ zap mixed (by show 1≤Tryz.f149.ntmps; decide) ?_
 refine W.r fun K hK=>?_
 simp(disch:=omega)only[↓RU,RV,RH,↓reduceIte,qE,reduceCtorEq,if_pos]
 apply hK;clear hK K
 refine W.seq ?_
 refine W.cond rfl (fun h=>?_) (fun h=>?_)
 ·try simp only[RL]at h
  exact absurd h (by decide)
 try simp only[RL]at h
 refine W.skip ?_
 refine xn ?_
 refine W.r fun K hK=>?_
 simp(disch:=omega)only[↓RU,RV,RH,↓reduceIte,qE,reduceCtorEq,if_pos,qN]
 refine zac.pc (yd4) rfl (.inl rfl) ?_
 simp(disch:=omega)only[↓RU,RV,RH,↓reduceIte,qE,reduceCtorEq,if_pos,qN]
 apply hK;clear hK K
 refine W.ret ?_
 refine Br rfl ?_
 rfl
theorem zit {F R:List Ob} {ver t:Nat} {l:List Int} {f:FuncId} {cs:List PV} {cm:Int→Int→Int} {g:Int→Int} (hf:∀ x y,x∈l→y∈l→PC Tryz.prog f [.int .i64 x,.int .i64 y,.ip cs 0] (.int .i64 (cm x y)) true) (hg:∀ x y,x∈l→y∈l→(cm x y<0↔g x<g y)) (hl:l.length≤12) (h1:1≤l.length) (lim:Int):Ev Tryz.prog 148 [.loc F.length ver 0 l.length,.int .i64 0,.int .i64 l.length,.int .i64 lim,.fn f [.ip cs 0]] ⟨F ++ .arr ver 3 1 (l.map (.int .i64))::R,t⟩ fun v S=>v = .tup []∧∃ z:List Int,z.Perm l∧(z.map g).Pairwise (· ≤ ·)∧S=⟨F ++ .arr ver 3 1 (z.map (.int .i64))::R,t⟩:=by
 refine Ev.of ⟨Tryz.func148,by kernel_rfl,rfl,by kernel_rfl⟩ zap mixed (by show 5≤Tryz.f148.ntmps; decide) ?_
 refine W.r fun K hK=>?_
 simp(disch:=omega)only[↓RU,RV,RH,↓reduceIte,qE,reduceCtorEq,if_pos,↓RS,RG,qA,qM,qL,gF,zdz]
 apply hK;clear hK K
 refine W.r fun K hK=>?_
 simp(disch:=omega)only[↓RU,RV,RH,↓reduceIte,qE,reduceCtorEq,if_pos,↓RS,RG,qA,qM,qL,gF,zdz]
 apply hK;clear hK K
 refine W.block ?_
 refine W.loop [0,1,2,4] (fun n vs S=>vs=[.loc F.length ver 0 l.length,.int .i64 0,.int .i64 l.length,.fn f [.ip cs 0]]∧S=⟨F ++ .arr ver 3 1 (l.map (.int .i64))::R,t⟩) 0 ?_ ?_
 ·refine ⟨_,?_,zal⟩
  simp [Env.put,Env.of,zae]
 rintro n vs S - ⟨rfl,rfl⟩
 refine W.block ?_
 refine W.r fun K hK=>?_
 simp(disch:=omega)only[↓RU,RV,RH,↓reduceIte,qE,reduceCtorEq,if_pos,w64,↓RS,RG,qA,qM,qL,zaa,gF,zdz]
 apply hK;clear hK K
 refine W.seq ?_
 refine W.r fun K hK=>?_
 simp(disch:=omega)only[↓RU,RV,RH,↓reduceIte,qE,reduceCtorEq,if_pos,w64,↓RS,RG,qA,qM,qL,zaa,gF,zdz]
 apply hK;clear hK K
 refine W.cond rfl (fun h=>?_) (fun h=>?_)
 ·try simp only[RL]at h
  refine W.r fun K hK=>?_
  simp(disch:=omega)only[↓RU,RV,RH,↓reduceIte,qE,reduceCtorEq,if_pos,qN,↓RS,RG,qA,qM,qL,gF,zdz]
  refine zac.ev (z3t hf hg (by omega) h1) ?_
  rintro _ _ ⟨rfl,z,hz1,hz2,rfl⟩
  simp(disch:=omega)only[↓RU,RV,RH,↓reduceIte,qE,reduceCtorEq,if_pos,qN,↓RS,RG,qA,qM,qL,gF,zdz]
  apply hK;clear hK K
  refine W.ret ?_
  refine XThen.ret ?_
  refine XBlock.ret ?_
  refine XThen.ret ?_
  refine XBlock.ret ?_
  refine Br rfl ?_
  exact ⟨_,rfl,z,hz1,hz2,zal⟩
 try simp only[RL]at h
 exact absurd (show (l.length:Int)≤12 by omega) h
theorem ya9 {F R:List Ob} {ver t:Nat} {l:List Int} {f:FuncId} {cs:List PV} {cm:Int→Int→Int} {g:Int→Int} (hf:∀ x y,x∈l→y∈l→PC Tryz.prog f [.int .i64 x,.int .i64 y,.ip cs 0] (.int .i64 (cm x y)) true) (hg:∀ x y,x∈l→y∈l→(cm x y<0↔g x<g y)) (h9:l.length≤9) (h1:1≤l.length):Ev Tryz.prog 130 [.loc F.length ver 0 l.length,.fn f [.ip cs 0]] ⟨F ++ .arr ver 3 1 (l.map (.int .i64))::R,t⟩ fun v S=>v = .tup []∧∃ z:List Int,z.Perm l∧(z.map g).Pairwise (· ≤ ·)∧S=⟨F ++ .arr ver 3 1 (z.map (.int .i64))::R,t⟩:=by
 refine Ev.of ⟨Tryz.func130,by kernel_rfl,rfl,by kernel_rfl⟩ zap mixed (by show 2≤Tryz.f130.ntmps; decide) ?_
 refine W.r fun K hK=>?_
 simp(disch:=omega)only[↓RU,RV,RH,↓reduceIte,qE,reduceCtorEq,if_pos,↓RS,RG,qA,qM,qL,zad,zaa,gF,zdz]
 apply hK;clear hK K
 refine W.k fun K hK=>?_
 obtain hk | hk | hk | hk | hk | hk | hk | hk | hk:l.length=1∨l.length=2∨l.length=3∨l.length=4∨l.length=5∨l.length=6∨l.length=7∨l.length=8∨l.length=9:=by omega
 ·skip
  have hw:IntKind.u64.wrap ((l.length:Nat):Int)=1:=by rw [hk]; rfl
  simp(disch:=omega)only[↓RU,RV,RH,↓reduceIte,qE,reduceCtorEq,if_pos,w64,qN,↓RS,RG,qA,qM,qL,zaa,zdk,gF,zdz,hw]
  refine zac.pc (yhj) rfl (.inl rfl) ?_
  simp(disch:=omega)only[↓RU,RV,RH,↓reduceIte,qE,reduceCtorEq,if_pos,w64,qN,↓RS,RG,qA,qM,qL,zaa,zdk,gF,zdz,hw]
  refine zac.ev (zit hf hg (by omega) (by omega) 1) ?_
  rintro _ _ ⟨rfl,z,hz1,hz2,rfl⟩
  simp(disch:=omega)only[↓RU,RV,RH,↓reduceIte,qE,reduceCtorEq,if_pos,w64,qN,↓RS,RG,qA,qM,qL,zaa,zdk,gF,zdz,hw]
  apply hK;clear hK K
  refine zfk.norm rfl ?_
  exact ⟨_,rfl,z,hz1,hz2,zal⟩
 ·skip
  have hw:IntKind.u64.wrap ((l.length:Nat):Int)=2:=by rw [hk]; rfl
  simp(disch:=omega)only[↓RU,RV,RH,↓reduceIte,qE,reduceCtorEq,if_pos,w64,qN,↓RS,RG,qA,qM,qL,zaa,zdk,gF,zdz,hw]
  refine zac.pc (yhk) rfl (.inl rfl) ?_
  simp(disch:=omega)only[↓RU,RV,RH,↓reduceIte,qE,reduceCtorEq,if_pos,w64,qN,↓RS,RG,qA,qM,qL,zaa,zdk,gF,zdz,hw]
  refine zac.ev (zit hf hg (by omega) (by omega) 2) ?_
  rintro _ _ ⟨rfl,z,hz1,hz2,rfl⟩
  simp(disch:=omega)only[↓RU,RV,RH,↓reduceIte,qE,reduceCtorEq,if_pos,w64,qN,↓RS,RG,qA,qM,qL,zaa,zdk,gF,zdz,hw]
  apply hK;clear hK K
  refine zfk.norm rfl ?_
  exact ⟨_,rfl,z,hz1,hz2,zal⟩
 ·skip
  have hw:IntKind.u64.wrap ((l.length:Nat):Int)=3:=by rw [hk]; rfl
  simp(disch:=omega)only[↓RU,RV,RH,↓reduceIte,qE,reduceCtorEq,if_pos,w64,qN,↓RS,RG,qA,qM,qL,zaa,zdk,gF,zdz,hw]
  refine zac.pc (yhl) rfl (.inl rfl) ?_
  simp(disch:=omega)only[↓RU,RV,RH,↓reduceIte,qE,reduceCtorEq,if_pos,w64,qN,↓RS,RG,qA,qM,qL,zaa,zdk,gF,zdz,hw]
  refine zac.ev (zit hf hg (by omega) (by omega) 2) ?_
  rintro _ _ ⟨rfl,z,hz1,hz2,rfl⟩
  simp(disch:=omega)only[↓RU,RV,RH,↓reduceIte,qE,reduceCtorEq,if_pos,w64,qN,↓RS,RG,qA,qM,qL,zaa,zdk,gF,zdz,hw]
  apply hK;clear hK K
  refine zfk.norm rfl ?_
  exact ⟨_,rfl,z,hz1,hz2,zal⟩
 ·skip
  have hw:IntKind.u64.wrap ((l.length:Nat):Int)=4:=by rw [hk]; rfl
  simp(disch:=omega)only[↓RU,RV,RH,↓reduceIte,qE,reduceCtorEq,if_pos,w64,qN,↓RS,RG,qA,qM,qL,zaa,zdk,gF,zdz,hw]
  refine zac.pc (yhm) rfl (.inl rfl) ?_
  simp(disch:=omega)only[↓RU,RV,RH,↓reduceIte,qE,reduceCtorEq,if_pos,w64,qN,↓RS,RG,qA,qM,qL,zaa,zdk,gF,zdz,hw]
  refine zac.ev (zit hf hg (by omega) (by omega) 3) ?_
  rintro _ _ ⟨rfl,z,hz1,hz2,rfl⟩
  simp(disch:=omega)only[↓RU,RV,RH,↓reduceIte,qE,reduceCtorEq,if_pos,w64,qN,↓RS,RG,qA,qM,qL,zaa,zdk,gF,zdz,hw]
  apply hK;clear hK K
  refine zfk.norm rfl ?_
  exact ⟨_,rfl,z,hz1,hz2,zal⟩
 ·skip
  have hw:IntKind.u64.wrap ((l.length:Nat):Int)=5:=by rw [hk]; rfl
  simp(disch:=omega)only[↓RU,RV,RH,↓reduceIte,qE,reduceCtorEq,if_pos,w64,qN,↓RS,RG,qA,qM,qL,zaa,zdk,gF,zdz,hw]
  refine zac.pc (yhn) rfl (.inl rfl) ?_
  simp(disch:=omega)only[↓RU,RV,RH,↓reduceIte,qE,reduceCtorEq,if_pos,w64,qN,↓RS,RG,qA,qM,qL,zaa,zdk,gF,zdz,hw]
  refine zac.ev (zit hf hg (by omega) (by omega) 3) ?_
  rintro _ _ ⟨rfl,z,hz1,hz2,rfl⟩
  simp(disch:=omega)only[↓RU,RV,RH,↓reduceIte,qE,reduceCtorEq,if_pos,w64,qN,↓RS,RG,qA,qM,qL,zaa,zdk,gF,zdz,hw]
  apply hK;clear hK K
  refine zfk.norm rfl ?_
  exact ⟨_,rfl,z,hz1,hz2,zal⟩
 ·skip
  have hw:IntKind.u64.wrap ((l.length:Nat):Int)=6:=by rw [hk]; rfl
  simp(disch:=omega)only[↓RU,RV,RH,↓reduceIte,qE,reduceCtorEq,if_pos,w64,qN,↓RS,RG,qA,qM,qL,zaa,zdk,gF,zdz,hw]
  refine zac.pc (yho) rfl (.inl rfl) ?_
  simp(disch:=omega)only[↓RU,RV,RH,↓reduceIte,qE,reduceCtorEq,if_pos,w64,qN,↓RS,RG,qA,qM,qL,zaa,zdk,gF,zdz,hw]
  refine zac.ev (zit hf hg (by omega) (by omega) 3) ?_
  rintro _ _ ⟨rfl,z,hz1,hz2,rfl⟩
  simp(disch:=omega)only[↓RU,RV,RH,↓reduceIte,qE,reduceCtorEq,if_pos,w64,qN,↓RS,RG,qA,qM,qL,zaa,zdk,gF,zdz,hw]
  apply hK;clear hK K
  refine zfk.norm rfl ?_
  exact ⟨_,rfl,z,hz1,hz2,zal⟩
 ·skip
  have hw:IntKind.u64.wrap ((l.length:Nat):Int)=7:=by rw [hk]; rfl
  simp(disch:=omega)only[↓RU,RV,RH,↓reduceIte,qE,reduceCtorEq,if_pos,w64,qN,↓RS,RG,qA,qM,qL,zaa,zdk,gF,zdz,hw]
  refine zac.pc (yhp) rfl (.inl rfl) ?_
  simp(disch:=omega)only[↓RU,RV,RH,↓reduceIte,qE,reduceCtorEq,if_pos,w64,qN,↓RS,RG,qA,qM,qL,zaa,zdk,gF,zdz,hw]
  refine zac.ev (zit hf hg (by omega) (by omega) 3) ?_
  rintro _ _ ⟨rfl,z,hz1,hz2,rfl⟩
  simp(disch:=omega)only[↓RU,RV,RH,↓reduceIte,qE,reduceCtorEq,if_pos,w64,qN,↓RS,RG,qA,qM,qL,zaa,zdk,gF,zdz,hw]
  apply hK;clear hK K
  refine zfk.norm rfl ?_
  exact ⟨_,rfl,z,hz1,hz2,zal⟩
 ·skip
  have hw:IntKind.u64.wrap ((l.length:Nat):Int)=8:=by rw [hk]; rfl
  simp(disch:=omega)only[↓RU,RV,RH,↓reduceIte,qE,reduceCtorEq,if_pos,w64,qN,↓RS,RG,qA,qM,qL,zaa,zdk,gF,zdz,hw]
  refine zac.pc (yhq) rfl (.inl rfl) ?_
  simp(disch:=omega)only[↓RU,RV,RH,↓reduceIte,qE,reduceCtorEq,if_pos,w64,qN,↓RS,RG,qA,qM,qL,zaa,zdk,gF,zdz,hw]
  refine zac.ev (zit hf hg (by omega) (by omega) 4) ?_
  rintro _ _ ⟨rfl,z,hz1,hz2,rfl⟩
  simp(disch:=omega)only[↓RU,RV,RH,↓reduceIte,qE,reduceCtorEq,if_pos,w64,qN,↓RS,RG,qA,qM,qL,zaa,zdk,gF,zdz,hw]
  apply hK;clear hK K
  refine zfk.norm rfl ?_
  exact ⟨_,rfl,z,hz1,hz2,zal⟩
 skip
 have hw:IntKind.u64.wrap ((l.length:Nat):Int)=9:=by rw [hk]; rfl
 simp(disch:=omega)only[↓RU,RV,RH,↓reduceIte,qE,reduceCtorEq,if_pos,w64,qN,↓RS,RG,qA,qM,qL,zaa,zdk,gF,zdz,hw]
 refine zac.pc (yhr) rfl (.inl rfl) ?_
 simp(disch:=omega)only[↓RU,RV,RH,↓reduceIte,qE,reduceCtorEq,if_pos,w64,qN,↓RS,RG,qA,qM,qL,zaa,zdk,gF,zdz,hw]
 refine zac.ev (zit hf hg (by omega) (by omega) 4) ?_
 rintro _ _ ⟨rfl,z,hz1,hz2,rfl⟩
 simp(disch:=omega)only[↓RU,RV,RH,↓reduceIte,qE,reduceCtorEq,if_pos,w64,qN,↓RS,RG,qA,qM,qL,zaa,zdk,gF,zdz,hw]
 apply hK;clear hK K
 refine zfk.norm rfl ?_
 exact ⟨_,rfl,z,hz1,hz2,zal⟩





section
section
variable {n:Nat} {M X:List (List Bool)}
def rvB (M:List (List Bool)) (a:Nat) (X:List (List Bool)) (b:Nat):List (List Bool):=z4q X b a (zc7 M a b)
def rvA (n:Nat) (M:List (List Bool)) (X:List (List Bool)) (a:Nat):List (List Bool):=(List.range n).foldl (rvB M a) X
def rv (n:Nat) (M:List (List Bool)):List (List Bool):=(List.range n).foldl (rvA n M) (zcc n)
end
end
theorem z8i {S:Store} {k f n:Nat} {sel:List Nat}:(List.replicate n (PV.int .i64 0)).mapM (rn S k sel (f+1))=some (List.replicate n (PV.int .i64 0)):=zu3 (by simp [List.all_replicate,scal])
section
theorem z5f {L A:List (List Bool)} {n a b:Nat} (hL:Sq n L) (hA:Sq n A) (ha:a<n) (hb:b<n):PC Tryz.prog 83 [(.agg [zhs L,zhs A]),.int .i64 a,.int .i64 b] (.bool (zc7 L a b || zc7 A a b)) true:=by
 have hL1:=hL.1
 have hA1:=hA.1
 obtain ⟨row,hrow,hrl,hrb⟩:=hL.at_ ha hb
 obtain ⟨sow,hsow,hsl,hsb⟩:=hA.at_ ha hb
 refine PC.of ⟨Tryz.func83,by kernel_rfl,rfl,by kernel_rfl⟩ zap mixed (by show 3≤Tryz.f83.ntmps; decide) ?_
 refine W.r fun K hK=>?_
 simp(disch:=omega)only[↓RU,RV,RH,↓reduceIte,qE,reduceCtorEq,if_pos,↓RS,RG,qA,qM,qL,ty0,ty3,zah,zg3,zex,zg5]
 apply hK;clear hK K
 refine W.r fun K hK=>?_
 cases hc:zc7 L a b
 ·skip
  rw [hc]at hrb
  simp(disch:=omega)only[↓RU,RV,RH,↓reduceIte,qE,reduceCtorEq,if_pos,↓RS,RG,qA,qM,qL,ty0,ty3,zah,zg3,zex,zg5,hrow,hrl,hrb,hsow,hsl,hsb,hL1,hA1]
  apply hK;clear hK K
  refine W.ret ?_
  refine Br rfl ?_
  rw [hc]
  rfl
 skip
 rw [hc]at hrb
 simp(disch:=omega)only[↓RU,RV,RH,↓reduceIte,qE,reduceCtorEq,if_pos,↓RS,RG,qA,qM,qL,ty0,ty3,zah,zg3,zex,zg5,hrow,hrl,hrb,hsow,hsl,hsb,hL1,hA1]
 apply hK;clear hK K
 refine W.ret ?_
 refine Br rfl ?_
 rw [hc]
 rfl
theorem zpy {L A:List (List Bool)} {n a b:Nat} (hL:Sq n L) (hA:Sq n A) (ha:a<n) (hb:b<n):PC Tryz.prog 84 [(.agg [zhs L,zhs A]),.int .i64 a,.int .i64 b] (.bool (zc7 L a b || zc7 A b a)) true:=by
 have hL1:=hL.1
 have hA1:=hA.1
 obtain ⟨row,hrow,hrl,hrb⟩:=hL.at_ ha hb
 obtain ⟨sow,hsow,hsl,hsb⟩:=hA.at_ hb ha
 refine PC.of ⟨Tryz.func84,by kernel_rfl,rfl,by kernel_rfl⟩ zap mixed (by show 3≤Tryz.f84.ntmps; decide) ?_
 refine W.r fun K hK=>?_
 simp(disch:=omega)only[↓RU,RV,RH,↓reduceIte,qE,reduceCtorEq,if_pos,↓RS,RG,qA,qM,qL,ty0,ty3,zah,zg3,zex,zg5]
 apply hK;clear hK K
 refine W.r fun K hK=>?_
 cases hc:zc7 L a b
 ·skip
  rw [hc]at hrb
  simp(disch:=omega)only[↓RU,RV,RH,↓reduceIte,qE,reduceCtorEq,if_pos,↓RS,RG,qA,qM,qL,ty0,ty3,zah,zg3,zex,zg5,hrow,hrl,hrb,hsow,hsl,hsb,hL1,hA1]
  apply hK;clear hK K
  refine W.ret ?_
  refine Br rfl ?_
  rw [hc]
  rfl
 skip
 rw [hc]at hrb
 simp(disch:=omega)only[↓RU,RV,RH,↓reduceIte,qE,reduceCtorEq,if_pos,↓RS,RG,qA,qM,qL,ty0,ty3,zah,zg3,zex,zg5,hrow,hrl,hrb,hsow,hsl,hsb,hL1,hA1]
 apply hK;clear hK K
 refine W.ret ?_
 refine Br rfl ?_
 rw [hc]
 rfl
def cmV (b1 b2:Bool):Int:=if b1 then -1 else if b2 then 1 else 0
theorem yfx {b1 b2:Bool}:cmV b1 b2<0↔b1=true:=by cases b1 <;> cases b2 <;> simp [cmV]
theorem z4s {q:FuncId} {L A:List (List Bool)} {x y:Int} {b1 b2:Bool} (h1:PC Tryz.prog q [(.agg [zhs L,zhs A]),.int .i64 x,.int .i64 y] (.bool b1) true) (h2:PC Tryz.prog q [(.agg [zhs L,zhs A]),.int .i64 y,.int .i64 x] (.bool b2) true):PC Tryz.prog 131 [.int .i64 x,.int .i64 y,.ip [.bm q (.agg [zhs L,zhs A])] 0] (.int .i64 (cmV b1 b2)) true:=by
 refine PC.of ⟨Tryz.func131,by kernel_rfl,rfl,by kernel_rfl⟩ zap mixed (by show 3≤Tryz.f131.ntmps; decide) ?_
 refine W.r fun K hK=>?_
 simp(disch:=omega)only[↓RU,RV,RH,↓reduceIte,qE,reduceCtorEq,if_pos,↓RS,RG,qA,qM,qL]
 apply hK;clear hK K
 refine W.seq ?_
 refine W.block ?_
 refine W.r fun K hK=>?_
 simp(disch:=omega)only[↓RU,RV,RH,↓reduceIte,qE,reduceCtorEq,if_pos,qN,↓RS,RG,qA,qM,qL,ygy]
 refine zac.pc (h1) rfl (.inl rfl) ?_
 simp(disch:=omega)only[↓RU,RV,RH,↓reduceIte,qE,reduceCtorEq,if_pos,qN,↓RS,RG,qA,qM,qL,ygy]
 apply hK;clear hK K
 refine W.cond rfl (fun k1=>?_) (fun k1=>?_)
 ·try simp only[RL]at k1
  refine W.r fun K hK=>?_
  simp(disch:=omega)only[↓RU,RV,RH,↓reduceIte,qE,reduceCtorEq,if_pos,↓RS,RG,qA,qM,qL]
  apply hK;clear hK K
  refine W.ret ?_
  refine XBlock.ret ?_
  refine XThen.ret ?_
  refine Br rfl ?_
  subst k1
  rfl
 try simp only[RL]at k1
 refine W.r fun K hK=>?_
 simp(disch:=omega)only[↓RU,RV,RH,↓reduceIte,qE,reduceCtorEq,if_pos,qN,↓RS,RG,qA,qM,qL,ygy]
 refine zac.pc (h2) rfl (.inl rfl) ?_
 simp(disch:=omega)only[↓RU,RV,RH,↓reduceIte,qE,reduceCtorEq,if_pos,qN,↓RS,RG,qA,qM,qL,ygy]
 apply hK;clear hK K
 refine W.cond rfl (fun k2=>?_) (fun k2=>?_)
 ·try simp only[RL]at k2
  refine W.r fun K hK=>?_
  simp(disch:=omega)only[↓RU,RV,RH,↓reduceIte,qE,reduceCtorEq,if_pos,↓RS,RG,qA,qM,qL]
  apply hK;clear hK K
  refine W.ret ?_
  refine XBlock.ret ?_
  refine XThen.ret ?_
  refine Br rfl ?_
  have k1:b1=false:=by simpa using k1
  subst k1
  subst k2
  rfl
 try simp only[RL]at k2
 refine W.skip ?_
 refine XbN ?_
 refine xn ?_
 refine W.r fun K hK=>?_
 simp(disch:=omega)only[↓RU,RV,RH,↓reduceIte,qE,reduceCtorEq,if_pos,↓RS,RG,qA,qM,qL]
 apply hK;clear hK K
 refine W.ret ?_
 refine Br rfl ?_
 have k1:b1=false:=by simpa using k1
 have k2:b2=false:=by simpa using k2
 subst k1
 subst k2
 rfl
theorem zur {L A:List (List Bool)}:zmn 10 (.agg [zhs L,zhs A])=true:=rfl
section
variable {S:Store} {fr:Nat→Bool} {f:Nat}
theorem yel {o ver off:Nat}:rfq S fr (f+1) (.ref o ver off)=if fr o=true then (S.cellsOf o ver).bind fun cells=>(cells.mapM (rfq S fr f)).map (.ip · off) else none:=rfl
theorem ygn {g:FuncId} {b:PV}:rfq S fr (f+1) (.bm g b)=some (.bm g b):=rfl
theorem z90 {g:FuncId} {b:PV}:(PV.bm g b).cells=[.bm g b]:=rfl
theorem yhe {g:FuncId} {b:PV}:(PV.bm g b).isCell=true:=rfl
end
theorem zyf {q:FuncId} {L A:List (List Bool)} {n:Nat} (hL:Sq n L) (h1:1≤n) (h9:n≤9) {bf:Nat→Nat→Bool} {f:Nat→Nat} (hq:∀ a b:Nat,a<n→b<n→PC Tryz.prog q [(.agg [zhs L,zhs A]),.int .i64 a,.int .i64 b] (.bool (bf a b)) true) (hf:∀ a b,a<n→b<n→(bf a b=true↔f a<f b)) {Z:List Int} (hZ:∀ z:List Int,z.Perm (rooms n)→(z.map fun x=>((f x.toNat:Nat):Int)).Pairwise (· ≤ ·)→z=Z):PN Tryz.prog 82 [(.agg [zhs L,zhs A]),.bm q (.agg [zhs L,zhs A])] (.loc 0 0 0 n) [.arr 0 3 1 (Z.map (.int .i64))] false:=by
 have hL1:=hL.1
 obtain ⟨l,hl,hln⟩:∃ l,l=rooms n∧l.length=n:=⟨_,rfl,zrk⟩
 subst hln
 have hmem:∀ x,x∈l→∃ a:Nat,x=a∧a<l.length:=fun x hx=>by rw [hl,zqs]at hx; exact ⟨x.toNat,by omega,by omega⟩
 have hcm:∀ x y,x∈l→y∈l→PC Tryz.prog 131 [.int .i64 x,.int .i64 y,.ip [.bm q (.agg [zhs L,zhs A])] 0] (.int .i64 (cmV (bf x.toNat y.toNat) (bf y.toNat x.toNat))) true:=fun x y hx hy=>by
  obtain ⟨a,rfl,ha⟩:=hmem x hx
  obtain ⟨b,rfl,hb⟩:=hmem y hy
  exact z4s (hq a b ha hb) (hq b a hb ha)
 have hlt:∀ x y,x∈l→y∈l→(cmV (bf x.toNat y.toNat) (bf y.toNat x.toNat)<0↔(fun x:Int=>((f x.toNat:Nat):Int)) x<(fun x:Int=>((f x.toNat:Nat):Int)) y):=fun x y hx hy=>by
  obtain ⟨a,rfl,ha⟩:=hmem x hx
  obtain ⟨b,rfl,hb⟩:=hmem y hy
  rw [yfx,hf _ _ (by simpa using ha) (by simpa using hb)]
  simp only; omega
 refine PN.of ⟨Tryz.func82,by kernel_rfl,rfl,by kernel_rfl⟩ zap mixed (by show 2≤Tryz.f82.ntmps; decide) ?_
 refine W.r fun K hK=>?_
 simp(disch:=omega)only[↓RU,RV,RH,↓reduceIte,qE,reduceCtorEq,if_pos,↓RS,RG,qA,qM,qL,ty0,ty3,zah,ygy,zg3,zex,zg5,z90,yhe]
 apply hK;clear hK K
 refine W.joinS [3,5] (fun vs S=>∃ t tk:Nat,vs=[.ip [.bm q (.agg [zhs L,zhs A])] 0,.loc 0 t 0 l.length]∧S=⟨[.arr t 3 1 ((List.replicate l.length 0).map (.int .i64))],tk⟩) ?_ ?_
 ·
  refine W.k fun K hK=>?_
  simp(disch:=omega)only[↓RU,RV,RH,↓reduceIte,qE,reduceCtorEq,if_pos,↓RS,RG,qA,qM,qL,ty0,ty3,zad,zah,zg3,zex,zaa,zg5,hL1,zf1,zgw]
  apply hK;clear hK K
  refine xn ?_
  refine ⟨0,[2],[.ip [.bm q (.agg [zhs L,zhs A])] 0,.loc 0 3 0 l.length],⟨[.arr 3 3 1 ((List.replicate l.length 0).map (.int .i64))],4⟩,?_,?_,3,4,rfl,rfl⟩
  ·simp [-qU,Env.put,Env.of,zae,zbv,zaj,zan,zau,zaw,zb1,zb2,zdc,zb0,zbb,zb3,zdb,zdd,zbd,zbc,zax,zbz,zb4,zda,za9,za8,zav,zba,zby,ze8,qS,qP,qC,yel,ygn,Store.cellsOf]
  simp [-qU,Env.put,Env.of,zae,zbv,zaj,zan,zau,zaw,zb1,zb2,zdc,zb0,zbb,zb3,zdb,zdd,zbd,zbc,zax,zbz,zb4,zda,za9,za8,zav,zba,zby,ze8,qS,qP,qC,z8i]
 rintro vs S - ⟨t0,tk0,rfl,rfl⟩
 refine W.seq ?_
 refine W.r fun K hK=>?_
 simp(disch:=omega)only[↓RU,RV,RH,↓reduceIte,qE,reduceCtorEq,if_pos,↓RS,RG,qA,qM,qL,zad,zaa]
 apply hK;clear hK K
 refine W.block ?_
 refine W.loop [3,5,12,13] (fun n vs S=>∃ i t tk:Nat,n=l.length - i∧i≤l.length∧vs=[.ip [.bm q (.agg [zhs L,zhs A])] 0,.loc 0 t 0 l.length,.int .i64 l.length,.int .i64 i]∧S=⟨[.arr t 3 1 ((l.take i++List.replicate (l.length - i) 0).map (.int .i64))],tk⟩) l.length ?_ ?_
 ·refine ⟨1,0,t0,tk0,rfl,by omega,?_,by simp [Store.take]⟩
  simp [Env.put,Env.of,zae]
 rintro n vs S - ⟨i,t,tk,rfl,h_i,rfl,rfl⟩
 refine W.r fun K hK=>?_
 simp(disch:=omega)only[↓RU,RV,RH,↓reduceIte,qE,reduceCtorEq,if_pos,w64,↓RS,RG,qA,qM,qL,zaa]
 apply hK;clear hK K
 refine W.seq ?_
 refine W.cond rfl (fun h=>?_) (fun h=>?_)
 ·try simp only[RL]at h
  have hix:l[i]?=some (i:Int):=by rw [hl]; exact zu5 (by omega)
  have hol:(l.take i++List.replicate (l.length - i) 0).length=l.length:=by simp; omega
  refine W.skip ?_
  refine xn ?_
  refine W.seq ?_
  refine W.block ?_
  refine W.r fun K hK=>?_
  simp(disch:=omega)only[↓RU,RV,RH,↓reduceIte,qE,reduceCtorEq,if_pos,↓RS,RG,qA,qM,qL]
  apply hK;clear hK K
  refine W.k fun K hK=>?_
  simp(disch:=omega)only[↓RU,RV,RH,↓reduceIte,qE,reduceCtorEq,if_pos,↓RS,RG,qA,qM,qL,zad,zaa,zcb,zeb,hol]
  apply hK;clear hK K
  refine XbN ?_
  refine xn ?_
  refine W.k fun K hK=>?_
  simp(disch:=omega)only[↓RU,RV,RH,↓reduceIte,qE,reduceCtorEq,if_pos,w64,↓RS,RG,qA,qM,qL,zaa]
  apply hK;clear hK K
  refine xn ?_
  refine ⟨l.length - (i+1),by omega,1,i+1,t,tk,rfl,by omega,?_,?_⟩
  ·simp [Env.put,Env.of]
  simp only[zck,zv2 hix]; rfl
 try simp only[RL]at h
 obtain rfl:l.length=i:=by omega
 rw [List.take_length,Nat.sub_self]
 simp only[List.replicate_zero,qN]
 refine W.exit ?_
 refine xe ?_
 refine xe ?_
 refine XBlock.hit ?_
 refine xn ?_
 refine W.r fun K hK=>?_
 simp(disch:=omega)only[↓RU,RV,RH,↓reduceIte,qE,reduceCtorEq,if_pos,qN,↓RS,RG,qA,qM,qL]
 refine zac.ev (ya9 (F:=[]) (R:=[]) hcm hlt h9 h1) ?_
 rintro _ _ ⟨rfl,z,hz1,hz2,rfl⟩
 simp(disch:=omega)only[↓RU,RV,RH,↓reduceIte,qE,reduceCtorEq,if_pos,qN,↓RS,RG,qA,qM,qL]
 apply hK;clear hK K
 refine W.r fun K hK=>?_
 simp(disch:=omega)only[↓RU,RV,RH,↓reduceIte,qE,reduceCtorEq,if_pos,↓RS,RG,qA,qM,qL]
 apply hK;clear hK K
 refine W.ret ?_
 refine Br rfl ?_
 have e:=hZ z (by rw [← hl]; exact hz1) hz2
 subst e
 exact z8w rfl (z0b _)
end



theorem zxe {S:Store} {a b:Bool}:pEq tab S 4 (.bool a) (.bool b)=some (a == b):=rfl

theorem zz5 {p q:List Int} (hp:p.length<2147483648) (hq:q.length<2147483648):PC Tryz.prog 16 [eInts p,eInts q] (.bool (decide (p=q))) true:=by
 refine PC.of ⟨Tryz.func16,by kernel_rfl,rfl,by kernel_rfl⟩ zap mixed (by show 2≤Tryz.f16.ntmps; decide) ?_
 refine W.r fun K hK=>?_
 simp(disch:=omega)only[↓RU,RV,RH,↓reduceIte,qE,reduceCtorEq,if_pos]
 apply hK;clear hK K
 refine W.seq ?_
 refine W.r fun K hK=>?_
 simp(disch:=omega)only[↓RU,RV,RH,↓reduceIte,qE,reduceCtorEq,if_pos,w64,zad,zaa]
 apply hK;clear hK K
 refine W.cond rfl (fun h=>?_) (fun h=>?_)
 ·try simp only[RL]at h
  refine W.r fun K hK=>?_
  simp(disch:=omega)only[↓RU,RV,RH,↓reduceIte,qE,reduceCtorEq,if_pos]
  apply hK;clear hK K
  refine W.ret ?_
  refine XThen.ret ?_
  refine Br rfl ?_
  rw [show decide (p=q)=false by simp; rintro rfl; exact h rfl]
  rfl
 try simp only[RL]at h
 refine W.skip ?_
 refine xn ?_
 refine W.seq ?_
 refine W.r fun K hK=>?_
 simp(disch:=omega)only[↓RU,RV,RH,↓reduceIte,qE,reduceCtorEq,if_pos]
 apply hK;clear hK K
 refine W.block ?_
 refine W.loop [0,1,5] (fun n vs S=>∃ i:Nat,n=p.length - i∧i≤p.length∧(p.take i=q.take i)∧vs=[eInts p,eInts q,.int .i64 i]∧S=⟨[],0⟩) (p.length) ?_ ?_
 ·refine ⟨0,0,rfl,Nat.zero_le _,rfl,?_,rfl⟩
  simp [Env.put,Env.of,zae]
 rintro n vs S - ⟨i,rfl,h_i,htk,rfl,rfl⟩
 refine W.seq ?_
 refine W.r fun K hK=>?_
 simp(disch:=omega)only[↓RU,RV,RH,↓reduceIte,qE,reduceCtorEq,if_pos,w64,zad,zaa]
 apply hK;clear hK K
 refine W.cond rfl (fun h1=>?_) (fun h1=>?_)
 ·try simp only[RL]at h1
  obtain ⟨x,hx,-⟩:=zag (show i<p.length by omega)
  obtain ⟨y,hy,-⟩:=zag (show i<q.length by omega)
  refine W.skip ?_
  refine xn ?_
  refine W.seq ?_
  refine W.block ?_
  refine W.seq_draw (by kernel_rfl) fun K hK=>?_
  simp(disch:=omega)only[↓RU,RV,RH,↓reduceIte,qE,reduceCtorEq,if_pos,w64,zad,zaa,hx,hy]
  apply hK;clear hK K
  refine W.cond rfl (fun h2=>?_) (fun h2=>?_)
  ·try simp only[RL]at h2
   refine W.r fun K hK=>?_
   simp(disch:=omega)only[↓RU,RV,RH,↓reduceIte,qE,reduceCtorEq,if_pos]
   apply hK;clear hK K
   refine W.ret ?_
   refine XBlock.ret ?_
   refine XThen.ret ?_
   refine XThen.ret ?_
   refine XBlock.ret ?_
   refine XThen.ret ?_
   refine Br rfl ?_
   rw [show decide (p=q)=false by simp; rintro rfl; rw [hx]at hy; simp_all]
   rfl
  try simp only[RL]at h2
  have h2:x=y:=by simpa using h2
  refine W.skip ?_
  refine XbN ?_
  refine xn ?_
  refine W.k fun K hK=>?_
  simp(disch:=omega)only[↓RU,RV,RH,↓reduceIte,qE,reduceCtorEq,if_pos,w64,zaa]
  apply hK;clear hK K
  refine xn ?_
  refine ⟨p.length - (i+1),by omega,0,i+1,rfl,by omega,zou htk hx hy h2,?_,rfl⟩
  simp [Env.put,Env.of]
 try simp only[RL]at h1
 refine W.exit ?_
 refine xe ?_
 refine xe ?_
 refine XBlock.hit ?_
 refine xn ?_
 refine W.r fun K hK=>?_
 simp(disch:=omega)only[↓RU,RV,RH,↓reduceIte,qE,reduceCtorEq,if_pos]
 apply hK;clear hK K
 refine W.ret ?_
 refine Br rfl ?_
 have h1:p.take i=p:=qT (by omega)
 have h2:q.take i=q:=qT (by omega)
 rw [show decide (p=q)=true by simp; rw [← h1,← h2]; exact htk]
 rfl
theorem PN.ints0 {P:Program} {f:FuncId} {args:List PV} {l:List Int} {n:Nat} {im:Bool} (h:PN P f args (.loc 0 0 0 n) [.arr 0 3 1 (l.map (.int .i64))] im) (h1:args.mapM (reify ⟨[],0⟩ true 10)=some args) (hl:l.length=n):PC P f args (eInts l) true:=by
 refine PN.pc h h1 ?_
 subst hl
 simp only[z28,List.map_cons,List.map_nil,zm8,z0m,Nat.add_zero]
 exact zcl (k:=9) rfl (by simp) (zmc _)
theorem z4t {p:List Txt} (hv:zdj p=true):PC Tryz.prog 82 [(.agg [zhs (lfM p),zhs (abM p)]),.bm 83 (.agg [zhs (lfM p),zhs (abM p)])] (eInts (srt p false)) true∧PC Tryz.prog 82 [(.agg [zhs (lfM p),zhs (abM p)]),.bm 84 (.agg [zhs (lfM p),zhs (abM p)])] (eInts (srt p true)) true:=by
 have hok:=(zra hv).1
 have hn9:=zqy hok
 have hn1:=znq hok
 have hlq:=ycg hv
 have haq:=ybx hv
 have hp:zb5 p=true:=by rw [← zf9]; exact hv
 obtain ⟨f,hf,hi⟩:=znd hp false
 obtain ⟨g,hg,hj⟩:=znd hp true
 exact ⟨PN.ints0 (zyf (bf:=bfK p false) hlq hn1 hn9 (fun a b ha hb=>z5f hlq haq ha hb) hf (fun z h1 h2=>z82 hf hi h1 h2)) rfl zn0,
  PN.ints0 (zyf (bf:=bfK p true) hlq hn1 hn9 (fun a b ha hb=>zpy hlq haq ha hb) hg (fun z h1 h2=>z82 hg hj h1 h2)) rfl zn0⟩
theorem z3s {l:List Int} (hl:l.length<2147483648) {x:Int} {i:Nat} (hx:l[i]?=some x) (hi:∀ (j:Nat),j<i→l[j]?≠some x):PC Tryz.prog 85 [eInts l,.int .i64 x] (.int .i64 i) true:=by
 refine PC.of ⟨Tryz.func85,by kernel_rfl,rfl,by kernel_rfl⟩ zap mixed (by show 2≤Tryz.f85.ntmps; decide) ?_
 refine W.r fun K hK=>?_
 simp(disch:=omega)only[↓RU,RV,RH,↓reduceIte,qE,reduceCtorEq,if_pos]
 apply hK;clear hK K
 refine W.seq ?_
 refine W.r fun K hK=>?_
 simp(disch:=omega)only[↓RU,RV,RH,↓reduceIte,qE,reduceCtorEq,if_pos,zad,zaa]
 apply hK;clear hK K
 refine W.block ?_
 refine W.loop [0,1,7,8] (fun n vs S=>∃ j:Nat,n=l.length - j∧j≤l.length∧(j≤i)∧vs=[eInts l,.int .i64 x,.int .i64 l.length,.int .i64 j]∧S=⟨[],0⟩) (l.length) ?_ ?_
 ·refine ⟨0,0,rfl,Nat.zero_le _,Nat.zero_le _,?_,rfl⟩
  simp [Env.put,Env.of,zae]
 rintro n vs S - ⟨j,rfl,h_j,hji,rfl,rfl⟩
 refine W.r fun K hK=>?_
 simp(disch:=omega)only[↓RU,RV,RH,↓reduceIte,qE,reduceCtorEq,if_pos,w64,zaa]
 apply hK;clear hK K
 refine W.seq ?_
 refine W.cond rfl (fun h=>?_) (fun h=>?_)
 ·try simp only[RL]at h
  obtain ⟨y,hy,-⟩:=zag (show j<l.length by omega)
  refine W.skip ?_
  refine xn ?_
  refine W.seq ?_
  refine W.block ?_
  refine W.r fun K hK=>?_
  simp(disch:=omega)only[↓RU,RV,RH,↓reduceIte,qE,reduceCtorEq,if_pos]
  apply hK;clear hK K
  refine W.r fun K hK=>?_
  simp(disch:=omega)only[↓RU,RV,RH,↓reduceIte,qE,reduceCtorEq,if_pos,w64,zad,zaa,hy]
  apply hK;clear hK K
  refine W.cond rfl (fun h1=>?_) (fun h1=>?_)
  ·try simp only[RL]at h1
   have e:x=y:=by simpa using h1
   have hij:j=i:=by
    refine Classical.byContradiction fun k=>hi j (by omega) (by rw [hy,e])
   subst hij
   refine W.r fun K hK=>?_
   simp(disch:=omega)only[↓RU,RV,RH,↓reduceIte,qE,reduceCtorEq,if_pos]
   apply hK;clear hK K
   refine W.ret ?_
   refine XBlock.ret ?_
   refine XThen.ret ?_
   refine XThen.ret ?_
   refine XBlock.ret ?_
   refine XThen.ret ?_
   refine Br rfl ?_
   rfl
  try simp only[RL]at h1
  have hne:j≠i:=by rintro rfl; rw [hx]at hy; cases hy; simp at h1
  refine W.skip ?_
  refine XbN ?_
  refine xn ?_
  refine W.k fun K hK=>?_
  simp(disch:=omega)only[↓RU,RV,RH,↓reduceIte,qE,reduceCtorEq,if_pos,w64,zaa]
  apply hK;clear hK K
  refine xn ?_
  refine ⟨l.length - (j+1),by omega,0,j+1,rfl,by omega,by have:=hne; omega,?_,rfl⟩
  simp [Env.put,Env.of]
 try simp only[RL]at h
 exact absurd (zbp hx) (by omega)
theorem yee {p:List Txt} (hv:zdj p=true):PN Tryz.prog 39 [(.agg [zhs (lfM p),zhs (abM p)])] (.loc 0 0 0 (rP p).length) [.arr 0 3 1 ((zif p).map (.int .i64))] false:=by
 have hok:=(zra hv).1
 have hn9:=zqy hok
 have hn1:=znq hok
 have hlq:=ycg hv
 have haq:=ybx hv
 have hp:zb5 p=true:=by rw [← zf9]; exact hv
 obtain ⟨hs1,hs2⟩:=z4t hv
 have hl1:=zn0 (p:=p) (below:=false)
 have hl2:=zn0 (p:=p) (below:=true)
 have hpl:=zej (p:=p)
 refine PN.of ⟨Tryz.func39,by kernel_rfl,rfl,by kernel_rfl⟩ zap mixed (by show 1≤Tryz.f39.ntmps; decide) ?_
 refine W.r fun K hK=>?_
 simp(disch:=omega)only[↓RU,RV,RH,↓reduceIte,qE,reduceCtorEq,if_pos,↓RS,RG,qA,qM,qL,ty0,ty3,zah,zg3,zex,zg5]
 apply hK;clear hK K
 refine W.r fun K hK=>?_
 simp(disch:=omega)only[↓RU,RV,RH,↓reduceIte,qE,reduceCtorEq,if_pos,qN,↓RS,RG,qA,qM,qL,ty0,ty3,zah,zg3,zex,zg5,zur,List.isEmpty_nil,Bool.and_self]
 refine zac.pc (hs1) rfl (.inl rfl) ?_
 simp(disch:=omega)only[↓RU,RV,RH,↓reduceIte,qE,reduceCtorEq,if_pos,qN,↓RS,RG,qA,qM,qL,ty0,ty3,zah,zg3,zex,zg5,zur,List.isEmpty_nil,Bool.and_self]
 apply hK;clear hK K
 refine W.r fun K hK=>?_
 simp(disch:=omega)only[↓RU,RV,RH,↓reduceIte,qE,reduceCtorEq,if_pos,qN,↓RS,RG,qA,qM,qL,ty0,ty3,zah,zg3,zex,zg5,zur,List.isEmpty_nil,Bool.and_self]
 refine zac.pc (hs2) rfl (.inl rfl) ?_
 simp(disch:=omega)only[↓RU,RV,RH,↓reduceIte,qE,reduceCtorEq,if_pos,qN,↓RS,RG,qA,qM,qL,ty0,ty3,zah,zg3,zex,zg5,zur,List.isEmpty_nil,Bool.and_self]
 apply hK;clear hK K
 refine W.joinS [3,4,5] (fun vs S=>∃ t tk:Nat,vs=[eInts (srt p false),eInts (srt p true),.loc 0 t 0 (rP p).length]∧S=⟨[.arr t 3 1 ((List.replicate (rP p).length 0).map (.int .i64))],tk⟩) ?_ ?_
 ·
  refine W.k fun K hK=>?_
  simp(disch:=omega)only[↓RU,RV,RH,↓reduceIte,qE,reduceCtorEq,if_pos,↓RS,RG,qA,qM,qL,zad,zaa,hl2,zf1,zgw]
  apply hK;clear hK K
  refine xn ?_
  refine ⟨0,[1],[eInts (srt p false),eInts (srt p true),.loc 0 2 0 (rP p).length],⟨[.arr 2 3 1 ((List.replicate (rP p).length 0).map (.int .i64))],3⟩,?_,?_,2,3,rfl,rfl⟩
  ·simp [-qU,Env.put,Env.of,zae,zbv,zaj,zan,zau,zaw,zb1,zb2,zdc,zb0,zbb,zb3,zdb,zdd,zbd,zbc,zax,zbz,zb4,zda,za9,za8,zav,zba,zby,ze8,qS,qP,qC,Store.cellsOf]
  simp [-qU,Env.put,Env.of,zae,zbv,zaj,zan,zau,zaw,zb1,zb2,zdc,zb0,zbb,zb3,zdb,zdd,zbd,zbc,zax,zbz,zb4,zda,za9,za8,zav,zba,zby,ze8,qS,qP,qC,z8i]
 rintro vs S - ⟨t0,tk0,rfl,rfl⟩
 refine W.seq ?_
 refine W.r fun K hK=>?_
 simp(disch:=omega)only[↓RU,RV,RH,↓reduceIte,qE,reduceCtorEq,if_pos,↓RS,RG,qA,qM,qL,zad,zaa]
 apply hK;clear hK K
 refine W.block ?_
 refine W.loop [3,5,19,20,21] (fun n vs S=>∃ i t tk:Nat,n=(rP p).length - i∧i≤(rP p).length∧vs=[eInts (srt p false),.loc 0 t 0 (rP p).length,eInts (srt p true),.int .i64 (rP p).length,.int .i64 i]∧S=⟨[.arr t 3 1 (((zif p).take i++List.replicate ((rP p).length - i) 0).map (.int .i64))],tk⟩) (rP p).length ?_ ?_
 ·refine ⟨1,0,t0,tk0,rfl,by omega,?_,by simp [Store.take]⟩
  simp [Env.put,Env.of,zae,hl2]
 rintro n vs S - ⟨i,t,tk,rfl,h_i,rfl,rfl⟩
 refine W.r fun K hK=>?_
 simp(disch:=omega)only[↓RU,RV,RH,↓reduceIte,qE,reduceCtorEq,if_pos,w64,↓RS,RG,qA,qM,qL,zaa]
 apply hK;clear hK K
 refine W.seq ?_
 refine W.cond rfl (fun h=>?_) (fun h=>?_)
 ·try simp only[RL]at h
  obtain ⟨a,ha,ha2,hsa⟩:=z81 (below:=true) hp (show i<(rP p).length by omega)
  have hpa:=z2c hp hsa
  have hix:=z80 (below:=false) hp ha
  have hin:∀ j,j<ahK p false a→(srt p false)[j]?≠some (a:Int):=fun j hj k=>by
   have k1:=zbp hix
   have k2:=zbp k
   rw [List.getElem?_eq_getElem k1]at hix
   rw [List.getElem?_eq_getElem k2]at k
   have:=zqv (zyh hp) k1 k2 ((Option.some.inj hix).trans (Option.some.inj k).symm)
   omega
  have hol:((zif p).take i++List.replicate ((rP p).length - i) 0).length=(rP p).length:=by simp [hpl]; omega
  refine W.skip ?_
  refine xn ?_
  refine W.seq ?_
  refine W.block ?_
  refine W.r fun K hK=>?_
  simp(disch:=omega)only[↓RU,RV,RH,↓reduceIte,qE,reduceCtorEq,if_pos,↓RS,RG,qA,qM,qL,zad,zaa,hsa]
  apply hK;clear hK K
  refine W.k fun K hK=>?_
  simp(disch:=omega)only[↓RU,RV,RH,↓reduceIte,qE,reduceCtorEq,if_pos,qN,↓RS,RG,qA,qM,qL,zad,zaa,zcb,zeb,hol]
  refine zac.pc (z3s (by omega) hix hin) rfl (.inl rfl) ?_
  simp(disch:=omega)only[↓RU,RV,RH,↓reduceIte,qE,reduceCtorEq,if_pos,qN,↓RS,RG,qA,qM,qL,zad,zaa,zcb,zeb,hol]
  apply hK;clear hK K
  refine XbN ?_
  refine xn ?_
  refine W.k fun K hK=>?_
  simp(disch:=omega)only[↓RU,RV,RH,↓reduceIte,qE,reduceCtorEq,if_pos,w64,↓RS,RG,qA,qM,qL,zaa]
  apply hK;clear hK K
  refine xn ?_
  refine ⟨(rP p).length - (i+1),by omega,1,i+1,t,tk,rfl,by omega,?_,?_⟩
  ·simp [Env.put,Env.of]
  rw [← hpl]; simp only[zck,zv2 hpa]; rfl
 try simp only[RL]at h
 obtain rfl:i=(rP p).length:=by omega
 rw [qT (by omega),Nat.sub_self]
 simp only[List.replicate_zero,qN]
 refine W.exit ?_
 refine xe ?_
 refine xe ?_
 refine XBlock.hit ?_
 refine xn ?_
 refine W.r fun K hK=>?_
 simp(disch:=omega)only[↓RU,RV,RH,↓reduceIte,qE,reduceCtorEq,if_pos,↓RS,RG,qA,qM,qL]
 apply hK;clear hK K
 refine W.ret ?_
 refine Br rfl ?_
 exact z8w rfl (z0b _)
theorem yed {p:List Txt} (hv:zdj p=true):PC Tryz.prog 39 [.agg [zhs (lfM p),zhs (abM p)]] (eInts (zif p)) true:=PN.ints0 (yee hv) rfl zej
def ifL (b:Bool) (l:List Int):List Int:=if b then l else []
theorem zw6 {p:List Txt} (hs:Sm p) (hv:zdj p=false):PC Tryz.prog 17 [zay p] (.tup [eInts [],.bool false]) false:=by
 refine PC.of ⟨Tryz.func17,by kernel_rfl,rfl,by kernel_rfl⟩ zap mixed (by show 1≤Tryz.f17.ntmps; decide) ?_
 refine W.r fun K hK=>?_
 simp(disch:=omega)only[↓RU,RV,RH,↓reduceIte,qE,reduceCtorEq,if_pos,↓RS,RG,qA,qM,qL]
 apply hK;clear hK K
 refine W.r fun K hK=>?_
 simp(disch:=omega)only[↓RU,RV,RH,↓reduceIte,qE,reduceCtorEq,if_pos,qN,↓RS,RG,qA,qM,qL,ty0,ty3,zah,zg3,zex,zg5]
 refine zac.pc (zzq hs hv) rfl (.inr rfl) ?_
 simp(disch:=omega)only[↓RU,RV,RH,↓reduceIte,qE,reduceCtorEq,if_pos,qN,↓RS,RG,qA,qM,qL,ty0,ty3,zah,zg3,zex,zg5]
 apply hK;clear hK K
 refine W.seq ?_
 refine W.r fun K hK=>?_
 simp(disch:=omega)only[↓RU,RV,RH,↓reduceIte,qE,reduceCtorEq,if_pos,↓RS,RG,qA,qM,qL]
 apply hK;clear hK K
 refine W.cond rfl (fun h=>?_) (fun h=>?_)
 ·try simp only[RL]at h
  refine W.r fun K hK=>?_
  simp(disch:=omega)only[↓RU,RV,RH,↓reduceIte,qE,reduceCtorEq,if_pos,↓RS,RG,qA,qM,qL]
  apply hK;clear hK K
  refine W.ret ?_
  refine XThen.ret ?_
  refine Br rfl ?_
  rfl
 try simp only[RL]at h
 exact absurd h (by simp)
theorem zup {p:List Txt} (hs:Sm p) (hv:zdj p=true):PC Tryz.prog 17 [zay p] (.tup [eInts (zif p),.bool true]) false:=by
 refine PC.of ⟨Tryz.func17,by kernel_rfl,rfl,by kernel_rfl⟩ zap mixed (by show 1≤Tryz.f17.ntmps; decide) ?_
 refine W.r fun K hK=>?_
 simp(disch:=omega)only[↓RU,RV,RH,↓reduceIte,qE,reduceCtorEq,if_pos,↓RS,RG,qA,qM,qL]
 apply hK;clear hK K
 refine W.r fun K hK=>?_
 simp(disch:=omega)only[↓RU,RV,RH,↓reduceIte,qE,reduceCtorEq,if_pos,qN,↓RS,RG,qA,qM,qL,ty0,ty3,zah,zg3,zex,zg5]
 refine zac.pc (zw8 hs hv) rfl (.inr rfl) ?_
 simp(disch:=omega)only[↓RU,RV,RH,↓reduceIte,qE,reduceCtorEq,if_pos,qN,↓RS,RG,qA,qM,qL,ty0,ty3,zah,zg3,zex,zg5]
 apply hK;clear hK K
 refine W.seq ?_
 refine W.r fun K hK=>?_
 simp(disch:=omega)only[↓RU,RV,RH,↓reduceIte,qE,reduceCtorEq,if_pos,↓RS,RG,qA,qM,qL]
 apply hK;clear hK K
 refine W.cond rfl (fun h=>?_) (fun h=>?_)
 ·try simp only[RL]at h
  exact absurd h (by simp)
 try simp only[RL]at h
 refine W.skip ?_
 refine xn ?_
 refine W.r fun K hK=>?_
 simp(disch:=omega)only[↓RU,RV,RH,↓reduceIte,qE,reduceCtorEq,if_pos,qN,↓RS,RG,qA,qM,qL,ty0,ty3,zah,zg3,zex,zg5]
 refine zac.pc (yed hv) rfl (.inl rfl) ?_
 simp(disch:=omega)only[↓RU,RV,RH,↓reduceIte,qE,reduceCtorEq,if_pos,qN,↓RS,RG,qA,qM,qL,ty0,ty3,zah,zg3,zex,zg5]
 apply hK;clear hK K
 refine W.ret ?_
 refine Br rfl ?_
 rfl
theorem zw7 {p:List Txt} (hs:Sm p):PC Tryz.prog 17 [zay p] (.tup [eInts (ifL (zdj p) (zif p)),.bool (zdj p)]) false:=by
 cases hv:zdj p with
 | false=>exact zw6 hs hv
 | true=>exact zup hs hv
theorem yf8 {l:List Int}:ifL true l=l:=rfl
theorem z7t {a:Txt}:zq8 .neq a a=some (.bool false):=by simp [zq8]
theorem zzs {a:Txt}:zq8 .eql a a=some (.bool true):=by simp [zq8]
theorem ygx {p:List Txt} {s:Txt} (h:toV p=some s):∃ u:Tm,u.pure∧u.n≤7∧1≤u.n∧s=txT u∧s.length≤60∧zb5 p=true∧zif p=pm u∧tqV s=some (pm u)∧ttV s=some s:=by
 unfold toV at h
 split at h
 ·rename_i hc
  rw [qI]at h
  obtain ⟨y,hy,rfl⟩:=h
  obtain ⟨k1,k2⟩:=zp2 hc.1 hy
  have hp:=zdf y
  have hl:=(zh6 hp.1).1
  have h7:(zgt y).n≤7:=by rw [hp.2,k2]; exact hc.2
  have hr:=yd8 hp.1 h7
  have hd:=yhv hp.1
  exact ⟨zgt y,hp.1,h7,(zgt y).pos,rfl,by omega,hc.1,k1,by rw [tqV,hr,qO,hd],by rw [ttV,hr,qO,hd]⟩
 cases h
theorem z41 {code:Txt} (hcode:code.length≤9223372036854775807):PC Tryz.prog 5 [eBy code] (.bool true) true:=by
 refine PC.of ⟨Tryz.func5,by kernel_rfl,rfl,by kernel_rfl⟩ zap mixed (by show 1≤Tryz.f5.ntmps; decide) ?_
 refine W.r fun K hK=>?_
 simp(disch:=omega)only[↓RU,RV,RH,↓reduceIte,qE,reduceCtorEq,if_pos,↓RS,RG,qA,qM,qL]
 apply hK;clear hK K
 refine W.seq ?_
 refine W.r fun K hK=>?_
 simp(disch:=omega)only[↓RU,RV,RH,↓reduceIte,qE,reduceCtorEq,if_pos,w64,↓RS,RG,qA,qM,qL,ty7,zaa,zce]
 apply hK;clear hK K
 refine W.cond rfl (fun h0=>?_) (fun h0=>?_)
 ·try simp only[RL]at h0
  refine W.r fun K hK=>?_
  simp(disch:=omega)only[↓RU,RV,RH,↓reduceIte,qE,reduceCtorEq,if_pos,↓RS,RG,qA,qM,qL]
  apply hK;clear hK K
  refine W.ret ?_
  refine XThen.ret ?_
  refine Br rfl ?_
  rfl
 try simp only[RL]at h0
 have hcl:code.length≤1048576:=by omega
 refine W.skip ?_
 refine xn ?_
 refine W.r fun K hK=>?_
 simp(disch:=omega)only[↓RU,RV,RH,↓reduceIte,qE,reduceCtorEq,if_pos,qN,↓RS,RG,qA,qM,qL]
 refine zac.ev (zt7 hcl) ?_
 rintro _ _ ⟨p,t,hs,rfl,rfl⟩
 simp(disch:=omega)only[↓RU,RV,RH,↓reduceIte,qE,reduceCtorEq,if_pos,qN,↓RS,RG,qA,qM,qL]
 apply hK;clear hK K
 refine W.r fun K hK=>?_
 simp(disch:=omega)only[↓RU,RV,RH,↓reduceIte,qE,reduceCtorEq,if_pos,qN,↓RS,RG,qA,qM,qL,ppT]
 refine zac.pc (z40 hs) rfl (.inl rfl) ?_
 simp(disch:=omega)only[↓RU,RV,RH,↓reduceIte,qE,reduceCtorEq,if_pos,qN,↓RS,RG,qA,qM,qL,ppT]
 apply hK;clear hK K
 refine W.r fun K hK=>?_
 simp(disch:=omega)only[↓RU,RV,RH,↓reduceIte,qE,reduceCtorEq,if_pos,qN,↓RS,RG,qA,qM,qL,ppT]
 refine zac.pc (z4p hs) rfl (.inl rfl) ?_
 simp(disch:=omega)only[↓RU,RV,RH,↓reduceIte,qE,reduceCtorEq,if_pos,qN,↓RS,RG,qA,qM,qL,ppT]
 apply hK;clear hK K
 refine W.seq ?_
 refine W.r fun K hK=>?_
 rcases hv:toV p with _ | s
 ·skip
  simp(disch:=omega)only[↓RU,RV,RH,↓reduceIte,qE,reduceCtorEq,if_pos,w64,↓RS,RG,qA,qM,qL,zah,zab,zxe,qO,bne_self_eq_false,beq_self_eq_true,Bool.not_true,Bool.not_false,decide_true,z7t,Option.isSome_none,Option.getD_none]
  apply hK;clear hK K
  refine W.cond rfl (fun h1=>?_) (fun h1=>?_)
  ·try simp only[RL]at h1
   refine W.r fun K hK=>?_
   simp(disch:=omega)only[↓RU,RV,RH,↓reduceIte,qE,reduceCtorEq,if_pos,w64,↓RS,RG,qA,qM,qL,zah,zab,zxe,qO,bne_self_eq_false,beq_self_eq_true,Bool.not_true,Bool.not_false,decide_true,zzs]
   apply hK;clear hK K
   refine W.ret ?_
   refine XThen.ret ?_
   refine Br rfl ?_
   rfl
  try simp only[RL]at h1
  exact absurd h1 (by simp)
 skip
 obtain ⟨u,hu,hu7,hu1,-,hsl,hpl,hpm,htq,htt⟩:=ygx hv
 have hpi:zdj p=true:=by rw [zf9]; exact hpl
 have hul:=zmm u
 simp(disch:=omega)only[↓RU,RV,RH,↓reduceIte,qE,reduceCtorEq,if_pos,w64,↓RS,RG,qA,qM,qL,zah,zab,zxe,qO,bne_self_eq_false,beq_self_eq_true,Bool.not_true,Bool.not_false,decide_true,z7t,Option.isSome_some,Option.getD_some]
 apply hK;clear hK K
 refine W.cond rfl (fun h1=>?_) (fun h1=>?_)
 ·try simp only[RL]at h1
  exact absurd h1 (by simp)
 try simp only[RL]at h1
 refine W.skip ?_
 refine xn ?_
 refine W.r fun K hK=>?_
 simp(disch:=omega)only[↓RU,RV,RH,↓reduceIte,qE,reduceCtorEq,if_pos,qN,↓RS,RG,qA,qM,qL,ppQ,htq,z2e,Option.isSome_some]
 refine zac.pc (zyl s (by omega)) rfl (.inr rfl) ?_
 simp(disch:=omega)only[↓RU,RV,RH,↓reduceIte,qE,reduceCtorEq,if_pos,qN,↓RS,RG,qA,qM,qL,ppQ,htq,z2e,Option.isSome_some]
 apply hK;clear hK K
 refine W.r fun K hK=>?_
 simp(disch:=omega)only[↓RU,RV,RH,↓reduceIte,qE,reduceCtorEq,if_pos,qN,↓RS,RG,qA,qM,qL,hpi,yf8,hpm]
 refine zac.pc (zw7 hs) rfl (.inr rfl) ?_
 simp(disch:=omega)only[↓RU,RV,RH,↓reduceIte,qE,reduceCtorEq,if_pos,qN,↓RS,RG,qA,qM,qL,hpi,yf8,hpm]
 apply hK;clear hK K
 refine W.r fun K hK=>?_
 simp(disch:=omega)only[↓RU,RV,RH,↓reduceIte,qE,reduceCtorEq,if_pos,qN,↓RS,RG,qA,qM,qL,ppT,htt,Option.isSome_some,Option.getD_some]
 refine zac.pc (z0h s (by omega)) rfl (.inl rfl) ?_
 simp(disch:=omega)only[↓RU,RV,RH,↓reduceIte,qE,reduceCtorEq,if_pos,qN,↓RS,RG,qA,qM,qL,ppT,htt,Option.isSome_some,Option.getD_some]
 apply hK;clear hK K
 refine W.r fun K hK=>?_
 simp(disch:=omega)only[↓RU,RV,RH,↓reduceIte,qE,reduceCtorEq,if_pos,qN,w64,↓RS,RG,qA,qM,qL,zab,zxe,qO,bne_self_eq_false,beq_self_eq_true,Bool.not_true,Bool.not_false,decide_true,zzs]
 refine zac.pc (zz5 (p:=pm u) (q:=pm u) (by omega) (by omega)) rfl (.inl rfl) ?_
 simp(disch:=omega)only[↓RU,RV,RH,↓reduceIte,qE,reduceCtorEq,if_pos,qN,w64,↓RS,RG,qA,qM,qL,zab,zxe,qO,bne_self_eq_false,beq_self_eq_true,Bool.not_true,Bool.not_false,decide_true,zzs]
 apply hK;clear hK K
 refine W.ret ?_
 refine Br rfl ?_
 rfl
end Fw
end Go.Proofs.YtcfgpmeebpinaaaGreat
namespace Go.Proofs.YtcfgpmeebpinaaaGreat
open Go Go.ChangeShapes Go.WideShapes Go.ChangeAt Go.RowKit Fw
theorem Tryz.ownRoc:ownKnob Tryz.prog.godebug=none:=by kernel_rfl
theorem Tryz.laidOutRoc:laidOutB Tryz.prog=true:=by kernel_rfl
set_option maxRecDepth 100000 in
theorem roc_lifted (os:Os) (started:os.Started) (H:Type) (enc:TypeId × Value→H) :
  ReturnsInHanded {} Tryz.checked os 5 .any (Rows.fnTermOfSpec.pre6 enc Tryz.prog Tryz.f5 Rows.fnTermOfRow.domain false) (Rows.fnTermOfSpec.post enc Tryz.prog Tryz.f5 false true false false):=by
 refine returnsInHanded_of_change (C:=Tryz.checked) Tryz.ownRoc started (by kernel_rfl) Tryz.func5
  (ChangeSpec.witness6 (enc:=enc) (C:=Tryz.checked) false ⟨#[],#[.slice none 0 0],[]⟩ 8 (by kernel_rfl) (by kernel_rfl) (by kernel_rfl) (by kernel_rfl)) ?_
 intro W base args ds gs before hval0 hW hcnd _
 have hval:∀ (j:Nat) t v,Tryz.f5.params[j]?=some t→args[j]?=some v→Value.okWide Tryz.prog W .any base t v:=hval0
 have hW':=hW
 obtain ⟨p,q,hA0,hV,rfl,hfz,hnd⟩:=hW
 have hA:DataW.TrodAll enc Tryz.prog W 0 (fun _=>true) true Tryz.f5.params.toList args.toList ds p:=hA0
 rw [Tryz.params5]at hA hval
 obtain ⟨v0,d0,rfl,rfl,h0⟩:=trodAll_one hA
 obtain ⟨rfl,rfl⟩:=trodVars_none hV
 obtain ⟨l0,i0,b0⟩:=ybj (hval 0 _ v0 rfl rfl) h0
 have hlt:∀ x∈p,x.block<W.heap.size:=fun x hx=>hW'.lt x (by simp [hx])
 refine ((z41 b0).run (fun b=>b<W.heap.size) W #[v0] (fun _ h=>h) rfl ?_).mono ?_
 ·rintro (_ | i) p c hp hc
  ·cases hp; cases hc; exact i0
  simp at hp
 rintro e W' ⟨cv,rfl,⟨hB,_⟩,hr⟩
 have hcv:cv = .bool true:=by cases hr; rfl
 subst hcv
 have t0:=Below.trod Tryz.laidOutRoc (by kernel_rfl) (of_decide_eq_true (by kernel_rfl)) h0 hB fun x hx=>hlt x (by simp [hx])
 refine ⟨_,rfl,_,_,_,[],p,[],hW',?_,?_,?_,hB.frame _,fun h=>by cases h⟩
 ·exact trodAll_mk1 (shut_bool Tryz.underlying4 true)
 ·rw [Tryz.params5]; exact trodAll_mk1 t0
 trivial
theorem roc_holds:Rows.FnTermOfSaid :=
 OpenClaim.holds_of_wide 5 Tryz.f5 rfl rfl rfl rfl rfl rfl rfl ⟨rfl,rfl,rfl,rfl,rfl⟩ rfl rfl rfl rfl rfl (by kernel_rfl) Tryz.func5 (by kernel_rfl)
  (of_decide_eq_true (by kernel_rfl)) (by unfold Func.isWrapper; first | (rw [if_pos (by decide +kernel)]; kernel_rfl) | (rw [if_neg (by decide +kernel)]; exact ⟨rfl,rfl⟩))
  (fun os started H enc _=>roc_lifted os started H enc)
end Go.Proofs.YtcfgpmeebpinaaaGreat
