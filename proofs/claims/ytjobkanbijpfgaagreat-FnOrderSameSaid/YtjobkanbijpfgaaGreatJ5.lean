/- Plans of the same permutations are turned, wider and cut alike: the law FnOrderSame answers true for all codes. No condition. -/
import Derived.Test.YtjobkanbijpfgaaGreatJ4
import Derived.Test.YtjobkanbijpfgaaGreatJ3
import Derived.Test.YtjobkanbijpfgaaGreatJ2
set_option linter.all false
namespace Go.Proofs.YtjobkanbijpfgaaGreat
namespace Fw
open Go
open Nat renaming reduceEqDiff → qE, reduceLeDiff → qL, reduceAdd → qA, reduceMul → qM, le_refl → qR
open List renaming append_nil → qN, mapM_append → qP, mapM_cons → qC, mapM_map → qU, range_succ → qS, take_of_length_le → qT
open Bool renaming and_eq_true → qB, false_eq_true → qF
open Option renaming map_some → qO, map_eq_some_iff → qI
open Int renaming reduceToNat → qZ
theorem zaf {a b:Nat}:((a+b:Nat):Int) - (a:Int)=(b:Int):=by omega
theorem zq6 {p:List Txt} (hp:zbq p=true):GW (gP p) p.length (zam p).length:=by
 rw [← zel]at hp
 simp only[zfu,qB]at hp
 have:=zxg hp.1
 rwa [zf5]at this
theorem z99 {p:List Txt} (hp:zbq p=true) {t:Pt} (ht:t.In p.length (zam p).length) (l:Nat) (a b c d:Ob) (tk:Nat) (B C D:Bool × Nat→Ob)
  (hy:∀ q,zec (zal p) t=some q→∀ (x y:Ob) (tk2:Nat),tk≤tk2→Ey Tryz.prog l [z1d (gP p) (rP p) t q] ⟨[a,b,c,d,x,y],tk2⟩ fun v S=>v = .bool false∧∃ tk3,S=⟨[a,B q,C q,D q,x,y],tk3⟩):Ev Tryz.prog 140 [.yl l,.ip (zax (gP p) (rP p)::t.rect.cells) 0] ⟨[a,b,c,d],tk⟩ fun v S=>(∃ tk2,zec (zal p) t=none∧S=⟨[a,b,c,d],tk2⟩)∨∃ q tk2,zec (zal p) t=some q∧S=⟨[a,B q,C q,D q],tk2⟩:=by
 have hsm:=zcj (zeu hp)
 obtain ⟨t1,t2,t3,t4⟩:=id ht
 have hgw:=zq6 hp
 obtain ⟨g1,g2,g3,g4⟩:=hgw.2.2
 simp only[Pt.rect,Rect.cells]
 refine Ev.of ⟨Tryz.func140,by kernel_rfl,rfl,by kernel_rfl⟩ zar mixed (by show 2≤Tryz.f140.ntmps; decide) ?_
 refine W.seq ?_
 refine W.r fun K hK=>?_
 simp(disch:=omega)only[↓RU,RV,RH,↓reduceIte,qE,reduceCtorEq,if_pos,w64,↓RS,RG,qA,qM,qL,ty7,zcm,zbb,zaa,zcn,zbc,zaf]
 apply hK;clear hK K
 refine W.block ?_
 refine W.loop [0,1,3] (fun n vs S=>∃ k tk2:Nat,n=t.w - k∧1≤k∧k≤t.w∧(∀ j,1≤j→j<k→thU (zal p) t j=false)∧tk≤tk2∧vs=[.yl l,.ip [zax (gP p) (rP p),.int .i64 t.r,.int .i64 t.c,.int .i64 t.h,.int .i64 t.w] 0,.int .i64 ((t.c+k:Nat):Int)]∧S=⟨[a,b,c,d],tk2⟩) (t.w - 1) ?_ ?_
 ·refine ⟨4,1,_,rfl,by omega,by omega,fun j _ _=>by omega,qR _,?_,rfl⟩
  simp [Env.put,Env.of,zae]
 rintro n vs S - ⟨k,tk2,rfl,hk1,h_k,hall,htk,rfl,rfl⟩
 refine W.seq ?_
 refine W.r fun K hK=>?_
 simp(disch:=omega)only[↓RU,RV,RH,↓reduceIte,qE,reduceCtorEq,if_pos,w64,↓RS,RG,qA,qM,qL,ty7,zcm,zbb,zaa,zcn,zbc,zaf]
 apply hK;clear hK K
 refine W.cond rfl (fun h=>?_) (fun h=>?_)
 ·try simp only[RL]at h
  have hgu:=yhh hp ht hk1 (show k<t.w by omega)
  have e1:((t.w:Nat):Int) - ((k:Nat):Int)=((t.w - k:Nat):Int):=by omega
  refine W.skip ?_
  refine xn ?_
  refine W.seq ?_
  refine W.block ?_
  refine W.seq (W.draw_two (r1:=[_,_,_,_,_,_]) (r2:=[_,_,_,_,_,_]) [0,1,2,3,4,5] [0,1,3,2,4,5] [0,1] 2 3 1 rfl (by kernel_rfl) (by kernel_rfl) rfl rfl (fun K hK=>?_) (fun K hK=>?_))
  ·simp(disch:=omega)only[↓RU,RV,RH,↓reduceIte,qE,reduceCtorEq,if_pos,↓RS,RG,qA,qM,qL,ty7,zcm,zbb,zaa,zcn,zbc,zaf]
   apply hK;clear hK K
   refine xn ?_
   refine W.r fun K hK=>?_
   simp(disch:=omega)only[↓RU,RV,RH,↓reduceIte,qE,reduceCtorEq,if_pos,w64,↓RS,RG,qA,qM,qL,ty7,zcm,zbb,zaa,zcn,zbc,zaf]
   apply hK;clear hK K
   refine W.seq_pk 11 [some 34,some 35,some 36,some 37,some 38,some 39] [4] (by decide) (by kernel_rfl) fun K hK=>?_
   simp only[List.take_succ_cons,List.take_zero,List.drop_succ_cons,List.drop_zero]
   refine zba rfl ?_
   simp(disch:=omega)only[↓RU,RV,RH,↓reduceIte,qE,reduceCtorEq,if_pos,w64,↓RS,RG,qA,qM,qL,ty7,zcm,zbb,zaa,zcn,zbc,zaf,e1,zan,zas]
   refine zat (.ip [zax (gP p) (rP p),.int .i64 t.r,.int .i64 t.c,.int .i64 t.h,.int .i64 t.w] 1) rfl rfl rfl (fun S' hS=>?_) ?_
   ·skip
    have k4:=(hS 4 (by decide)).trans (show _=some _ from rfl)
    simp(disch:=omega)only[↓RU,RV,RH,↓reduceIte,qE,reduceCtorEq,if_pos,w64,↓RS,RG,qA,qM,qL,ty7,zcm,zbb,zaa,zcn,zbc,zaf,e1,zb3,zc0,zed,zee,k4]
   refine zat (.ip [zax (gP p) (rP p),.int .i64 t.r,.int .i64 t.c,.int .i64 t.h,.int .i64 t.w] 4) rfl rfl rfl (fun S' hS=>?_) ?_
   ·skip
    have k4:=(hS 4 (by decide)).trans (show _=some _ from rfl)
    simp(disch:=omega)only[↓RU,RV,RH,↓reduceIte,qE,reduceCtorEq,if_pos,w64,↓RS,RG,qA,qM,qL,ty7,zcm,zbb,zaa,zcn,zbc,zaf,e1,zb3,zc0,zed,zee,k4]
   refine zat (.int .i64 t.w) rfl rfl rfl (fun S' hS=>?_) ?_
   ·skip
    have k4:=(hS 4 (by decide)).trans (show _=some _ from rfl)
    simp(disch:=omega)only[↓RU,RV,RH,↓reduceIte,qE,reduceCtorEq,if_pos,w64,↓RS,RG,qA,qM,qL,ty7,zcm,zbb,zaa,zcn,zbc,zaf,e1,zb3,zc0,zed,zee,k4]
   refine zat (.ref 4 tk2 1) rfl rfl rfl (fun S' hS=>?_) ?_
   ·skip
    have k4:=(hS 4 (by decide)).trans (show _=some _ from rfl)
    simp(disch:=omega)only[↓RU,RV,RH,↓reduceIte,qE,reduceCtorEq,if_pos,w64,↓RS,RG,qA,qM,qL,ty7,zcm,zbb,zaa,zcn,zbc,zaf,e1,zb3,zc0,zed,zee,k4]
   refine zat (.ref 4 tk2 4) rfl rfl rfl (fun S' hS=>?_) ?_
   ·skip
    have k4:=(hS 4 (by decide)).trans (show _=some _ from rfl)
    simp(disch:=omega)only[↓RU,RV,RH,↓reduceIte,qE,reduceCtorEq,if_pos,w64,↓RS,RG,qA,qM,qL,ty7,zcm,zbb,zaa,zcn,zbc,zaf,e1,zb3,zc0,zed,zee,k4]
   refine zat (.int .i64 k) rfl rfl rfl (fun S' hS=>?_) ?_
   ·skip
    have k4:=(hS 4 (by decide)).trans (show _=some _ from rfl)
    simp(disch:=omega)only[↓RU,RV,RH,↓reduceIte,qE,reduceCtorEq,if_pos,w64,↓RS,RG,qA,qM,qL,ty7,zcm,zbb,zaa,zcn,zbc,zaf,e1,zb3,zc0,zed,zee,k4]
   refine zba rfl ?_
   simp(disch:=omega)only[↓RU,RV,RH,↓reduceIte,qE,reduceCtorEq,if_pos,w64,↓RS,RG,qA,qM,qL,ty7,zcm,zbb,zaa,zcn,zbc,zaf,e1,zan,zas]
   refine zba rfl ?_
   simp(disch:=omega)only[↓RU,RV,RH,↓reduceIte,qE,reduceCtorEq,if_pos,w64,↓RS,RG,qA,qM,qL,ty7,zcm,zbb,zaa,zcn,zbc,zaf,e1,zan,zas]
   refine zba rfl ?_
   simp(disch:=omega)only[↓RU,RV,RH,↓reduceIte,qE,reduceCtorEq,if_pos,w64,↓RS,RG,qA,qM,qL,ty7,zcm,zbb,zaa,zcn,zbc,zaf,e1,zan,zas]
   refine zba rfl ?_
   simp(disch:=omega)only[↓RU,RV,RH,↓reduceIte,qE,reduceCtorEq,if_pos,w64,↓RS,RG,qA,qM,qL,ty7,zcm,zbb,zaa,zcn,zbc,zaf,e1,zan,zas]
   refine zga ?_
   simp(disch:=omega)only[↓RU,RV,RH,↓reduceIte,qE,reduceCtorEq,if_pos,w64,↓RS,RG,qA,qM,qL,ty7,zcm,zbb,zaa,zcn,zbc,zaf,e1]
   apply hK;clear hK K
   refine W.r fun K hK=>?_
   cases hth:thU (zal p) t k
   ·skip
    simp(disch:=omega)only[↓RU,RV,RH,↓reduceIte,qE,reduceCtorEq,if_pos,qN,↓RS,RG,qA,qM,qL,ty7,zah,zcm,zhi,zbb,zaa,zcn,zhj,zbc,zaf,hgu,hth]
    refine zad.pc (zfd hgw (rP p) ht (level:=false) (line:=t.c+k) (by omega) (by simp; omega)) rfl (.inl rfl) ?_
    simp(disch:=omega)only[↓RU,RV,RH,↓reduceIte,qE,reduceCtorEq,if_pos,qN,↓RS,RG,qA,qM,qL,ty7,zah,zcm,zhi,zbb,zaa,zcn,zhj,zbc,zaf,hgu,hth]
    apply hK;clear hK K
    refine W.cond rfl (fun h1=>?_) (fun h1=>?_)
    ·try simp only[RL]at h1
     exact absurd h1 (by simp)
    try simp only[RL]at h1
    refine W.skip ?_
    refine XbN ?_
    refine xn ?_
    refine W.k fun K hK=>?_
    simp(disch:=omega)only[↓RU,RV,RH,↓reduceIte,qE,reduceCtorEq,if_pos,w64,↓RS,RG,qA,qM,qL,zaa,zaf]
    apply hK;clear hK K
    refine xn ?_
    refine ⟨t.w - (k+1),by omega,4,k+1,_,rfl,by omega,by omega,fun j j1 j2=>?_,?_,?_,rfl⟩
    ·rcases Nat.lt_succ_iff_lt_or_eq.1 j2 with h | rfl
     ·exact hall j j1 h
     exact hth
    ·exact Nat.le_trans htk (Nat.le_add_right _ 2)
    simp [Env.put,Env.of]; omega
   skip
   have hq:zec (zal p) t=some (false,k):=by unfold zec; rw [zfi.2 ⟨hk1,by omega,hth,hall⟩]
   simp(disch:=omega)only[↓RU,RV,RH,↓reduceIte,qE,reduceCtorEq,if_pos,qN,↓RS,RG,qA,qM,qL,ty7,zah,zcm,zhi,zbb,zaa,zcn,zhj,zbc,zaf,hgu,hth]
   refine zad.pc (zfd hgw (rP p) ht (level:=false) (line:=t.c+k) (by omega) (by simp; omega)) rfl (.inl rfl) ?_
   simp(disch:=omega)only[↓RU,RV,RH,↓reduceIte,qE,reduceCtorEq,if_pos,qN,↓RS,RG,qA,qM,qL,ty7,zah,zcm,zhi,zbb,zaa,zcn,zhj,zbc,zaf,hgu,hth]
   refine zy9.ey (hy _ hq _ _ _ (Nat.le_trans htk (Nat.le_add_right _ 2))) ?_
   rintro _ _ ⟨rfl,tk3,rfl⟩
   simp(disch:=omega)only[↓RU,RV,RH,↓reduceIte,qE,reduceCtorEq,if_pos,qN,↓RS,RG,qA,qM,qL,ty7,zah,zcm,zhi,zbb,zaa,zcn,zhj,zbc,zaf,hgu,hth]
   apply hK;clear hK K
   refine W.cond rfl (fun h1=>?_) (fun h1=>?_)
   ·try simp only[RL]at h1
    refine W.ret ?_
    refine XBlock.ret ?_
    refine XThen.ret ?_
    refine XThen.ret ?_
    refine XBlock.ret ?_
    refine XThen.ret ?_
    refine Br rfl ?_
    exact ⟨4,.inr ⟨_,_,hq,rfl⟩⟩
   try simp only[RL]at h1
   exact absurd h1 (by simp)
  simp(disch:=omega)only[↓RU,RV,RH,↓reduceIte,qE,reduceCtorEq,if_pos,↓RS,RG,qA,qM,qL,ty7,zcm,zbb,zaa,zcn,zbc,zaf]
  apply hK;clear hK K
  refine xn ?_
  refine W.r fun K hK=>?_
  simp(disch:=omega)only[↓RU,RV,RH,↓reduceIte,qE,reduceCtorEq,if_pos,w64,↓RS,RG,qA,qM,qL,ty7,zcm,zbb,zaa,zcn,zbc,zaf]
  apply hK;clear hK K
  refine W.seq_pk 11 [some 34,some 35,some 36,some 37,some 38,some 39] [5] (by decide) (by kernel_rfl) fun K hK=>?_
  simp only[List.take_succ_cons,List.take_zero,List.drop_succ_cons,List.drop_zero]
  refine zba rfl ?_
  simp(disch:=omega)only[↓RU,RV,RH,↓reduceIte,qE,reduceCtorEq,if_pos,w64,↓RS,RG,qA,qM,qL,ty7,zcm,zbb,zaa,zcn,zbc,zaf,e1,zan,zas]
  refine zat (.ip [zax (gP p) (rP p),.int .i64 t.r,.int .i64 t.c,.int .i64 t.h,.int .i64 t.w] 1) rfl rfl rfl (fun S' hS=>?_) ?_
  ·skip
   have k5:=(hS 5 (by decide)).trans (show _=some _ from rfl)
   simp(disch:=omega)only[↓RU,RV,RH,↓reduceIte,qE,reduceCtorEq,if_pos,w64,↓RS,RG,qA,qM,qL,ty7,zcm,zbb,zaa,zcn,zbc,zaf,e1,zb3,zc0,zed,zee,k5]
  refine zat (.ip [zax (gP p) (rP p),.int .i64 t.r,.int .i64 t.c,.int .i64 t.h,.int .i64 t.w] 4) rfl rfl rfl (fun S' hS=>?_) ?_
  ·skip
   have k5:=(hS 5 (by decide)).trans (show _=some _ from rfl)
   simp(disch:=omega)only[↓RU,RV,RH,↓reduceIte,qE,reduceCtorEq,if_pos,w64,↓RS,RG,qA,qM,qL,ty7,zcm,zbb,zaa,zcn,zbc,zaf,e1,zb3,zc0,zed,zee,k5]
  refine zat (.int .i64 t.w) rfl rfl rfl (fun S' hS=>?_) ?_
  ·skip
   have k5:=(hS 5 (by decide)).trans (show _=some _ from rfl)
   simp(disch:=omega)only[↓RU,RV,RH,↓reduceIte,qE,reduceCtorEq,if_pos,w64,↓RS,RG,qA,qM,qL,ty7,zcm,zbb,zaa,zcn,zbc,zaf,e1,zb3,zc0,zed,zee,k5]
  refine zat (.ref 5 (tk2+1) 1) rfl rfl rfl (fun S' hS=>?_) ?_
  ·skip
   have k5:=(hS 5 (by decide)).trans (show _=some _ from rfl)
   simp(disch:=omega)only[↓RU,RV,RH,↓reduceIte,qE,reduceCtorEq,if_pos,w64,↓RS,RG,qA,qM,qL,ty7,zcm,zbb,zaa,zcn,zbc,zaf,e1,zb3,zc0,zed,zee,k5]
  refine zat (.ref 5 (tk2+1) 4) rfl rfl rfl (fun S' hS=>?_) ?_
  ·skip
   have k5:=(hS 5 (by decide)).trans (show _=some _ from rfl)
   simp(disch:=omega)only[↓RU,RV,RH,↓reduceIte,qE,reduceCtorEq,if_pos,w64,↓RS,RG,qA,qM,qL,ty7,zcm,zbb,zaa,zcn,zbc,zaf,e1,zb3,zc0,zed,zee,k5]
  refine zat (.int .i64 k) rfl rfl rfl (fun S' hS=>?_) ?_
  ·skip
   have k5:=(hS 5 (by decide)).trans (show _=some _ from rfl)
   simp(disch:=omega)only[↓RU,RV,RH,↓reduceIte,qE,reduceCtorEq,if_pos,w64,↓RS,RG,qA,qM,qL,ty7,zcm,zbb,zaa,zcn,zbc,zaf,e1,zb3,zc0,zed,zee,k5]
  refine zba rfl ?_
  simp(disch:=omega)only[↓RU,RV,RH,↓reduceIte,qE,reduceCtorEq,if_pos,w64,↓RS,RG,qA,qM,qL,ty7,zcm,zbb,zaa,zcn,zbc,zaf,e1,zan,zas]
  refine zba rfl ?_
  simp(disch:=omega)only[↓RU,RV,RH,↓reduceIte,qE,reduceCtorEq,if_pos,w64,↓RS,RG,qA,qM,qL,ty7,zcm,zbb,zaa,zcn,zbc,zaf,e1,zan,zas]
  refine zba rfl ?_
  simp(disch:=omega)only[↓RU,RV,RH,↓reduceIte,qE,reduceCtorEq,if_pos,w64,↓RS,RG,qA,qM,qL,ty7,zcm,zbb,zaa,zcn,zbc,zaf,e1,zan,zas]
  refine zba rfl ?_
  simp(disch:=omega)only[↓RU,RV,RH,↓reduceIte,qE,reduceCtorEq,if_pos,w64,↓RS,RG,qA,qM,qL,ty7,zcm,zbb,zaa,zcn,zbc,zaf,e1,zan,zas]
  refine zga ?_
  simp(disch:=omega)only[↓RU,RV,RH,↓reduceIte,qE,reduceCtorEq,if_pos,w64,↓RS,RG,qA,qM,qL,ty7,zcm,zbb,zaa,zcn,zbc,zaf,e1]
  apply hK;clear hK K
  refine W.r fun K hK=>?_
  cases hth:thU (zal p) t k
  ·skip
   simp(disch:=omega)only[↓RU,RV,RH,↓reduceIte,qE,reduceCtorEq,if_pos,qN,↓RS,RG,qA,qM,qL,ty7,zah,zcm,zhi,zbb,zaa,zcn,zhj,zbc,zaf,hgu,hth]
   refine zad.pc (zfd hgw (rP p) ht (level:=false) (line:=t.c+k) (by omega) (by simp; omega)) rfl (.inl rfl) ?_
   simp(disch:=omega)only[↓RU,RV,RH,↓reduceIte,qE,reduceCtorEq,if_pos,qN,↓RS,RG,qA,qM,qL,ty7,zah,zcm,zhi,zbb,zaa,zcn,zhj,zbc,zaf,hgu,hth]
   apply hK;clear hK K
   refine W.cond rfl (fun h1=>?_) (fun h1=>?_)
   ·try simp only[RL]at h1
    exact absurd h1 (by simp)
   try simp only[RL]at h1
   refine W.skip ?_
   refine XbN ?_
   refine xn ?_
   refine W.k fun K hK=>?_
   simp(disch:=omega)only[↓RU,RV,RH,↓reduceIte,qE,reduceCtorEq,if_pos,w64,↓RS,RG,qA,qM,qL,zaa,zaf]
   apply hK;clear hK K
   refine xn ?_
   refine ⟨t.w - (k+1),by omega,4,k+1,_,rfl,by omega,by omega,fun j j1 j2=>?_,?_,?_,rfl⟩
   ·rcases Nat.lt_succ_iff_lt_or_eq.1 j2 with h | rfl
    ·exact hall j j1 h
    exact hth
   ·exact Nat.le_trans htk (Nat.le_add_right _ 2)
   simp [Env.put,Env.of]; omega
  skip
  have hq:zec (zal p) t=some (false,k):=by unfold zec; rw [zfi.2 ⟨hk1,by omega,hth,hall⟩]
  simp(disch:=omega)only[↓RU,RV,RH,↓reduceIte,qE,reduceCtorEq,if_pos,qN,↓RS,RG,qA,qM,qL,ty7,zah,zcm,zhi,zbb,zaa,zcn,zhj,zbc,zaf,hgu,hth]
  refine zad.pc (zfd hgw (rP p) ht (level:=false) (line:=t.c+k) (by omega) (by simp; omega)) rfl (.inl rfl) ?_
  simp(disch:=omega)only[↓RU,RV,RH,↓reduceIte,qE,reduceCtorEq,if_pos,qN,↓RS,RG,qA,qM,qL,ty7,zah,zcm,zhi,zbb,zaa,zcn,zhj,zbc,zaf,hgu,hth]
  refine zy9.ey (hy _ hq _ _ _ (Nat.le_trans htk (Nat.le_add_right _ 2))) ?_
  rintro _ _ ⟨rfl,tk3,rfl⟩
  simp(disch:=omega)only[↓RU,RV,RH,↓reduceIte,qE,reduceCtorEq,if_pos,qN,↓RS,RG,qA,qM,qL,ty7,zah,zcm,zhi,zbb,zaa,zcn,zhj,zbc,zaf,hgu,hth]
  apply hK;clear hK K
  refine W.cond rfl (fun h1=>?_) (fun h1=>?_)
  ·try simp only[RL]at h1
   refine W.ret ?_
   refine XBlock.ret ?_
   refine XThen.ret ?_
   refine XThen.ret ?_
   refine XBlock.ret ?_
   refine XThen.ret ?_
   refine Br rfl ?_
   exact ⟨4,.inr ⟨_,_,hq,rfl⟩⟩
  try simp only[RL]at h1
  exact absurd h1 (by simp)
 try simp only[RL]at h
 obtain rfl:k=t.w:=by omega
 refine W.exit ?_
 refine xe ?_
 refine xe ?_
 refine XBlock.hit ?_
 refine xn ?_
 refine W.r fun K hK=>?_
 simp(disch:=omega)only[↓RU,RV,RH,↓reduceIte,qE,reduceCtorEq,if_pos,w64,↓RS,RG,qA,qM,qL,ty7,zcm,zbb,zaa,zcn,zbc,zaf]
 apply hK;clear hK K
 refine W.block ?_
 refine W.loop [0,1,6] (fun n vs S=>∃ k tk2:Nat,n=t.h - k∧1≤k∧k≤t.h∧(∀ j,1≤j→j<k→thL (zal p) t j=false)∧tk≤tk2∧vs=[.yl l,.ip [zax (gP p) (rP p),.int .i64 t.r,.int .i64 t.c,.int .i64 t.h,.int .i64 t.w] 0,.int .i64 ((t.r+k:Nat):Int)]∧S=⟨[a,b,c,d],tk2⟩) (t.h - 1) ?_ ?_
 ·refine ⟨4,1,_,rfl,by omega,by omega,fun j _ _=>by omega,htk,?_,rfl⟩
  simp [Env.put,Env.of,zae]
 rintro n vs S - ⟨k,tk2,rfl,hk1,h_k,hall2,htk,rfl,rfl⟩
 refine W.seq ?_
 refine W.r fun K hK=>?_
 simp(disch:=omega)only[↓RU,RV,RH,↓reduceIte,qE,reduceCtorEq,if_pos,w64,↓RS,RG,qA,qM,qL,ty7,zcm,zbb,zaa,zcn,zbc,zaf]
 apply hK;clear hK K
 refine W.cond rfl (fun h=>?_) (fun h=>?_)
 ·try simp only[RL]at h
  have hgu:=yhg hp ht hk1 (show k<t.h by omega)
  have e1:((t.h:Nat):Int) - ((k:Nat):Int)=((t.h - k:Nat):Int):=by omega
  refine W.skip ?_
  refine xn ?_
  refine W.seq ?_
  refine W.block ?_
  refine W.seq (W.draw_two (r1:=[_,_,_,_,_,_]) (r2:=[_,_,_,_,_,_]) [0,1,2,3,4,5] [0,1,3,2,4,5] [0,1] 2 3 1 rfl (by kernel_rfl) (by kernel_rfl) rfl rfl (fun K hK=>?_) (fun K hK=>?_))
  ·simp(disch:=omega)only[↓RU,RV,RH,↓reduceIte,qE,reduceCtorEq,if_pos,↓RS,RG,qA,qM,qL,ty7,zcm,zbb,zaa,zcn,zbc,zaf]
   apply hK;clear hK K
   refine xn ?_
   refine W.r fun K hK=>?_
   simp(disch:=omega)only[↓RU,RV,RH,↓reduceIte,qE,reduceCtorEq,if_pos,w64,↓RS,RG,qA,qM,qL,ty7,zcm,zbb,zaa,zcn,zbc,zaf]
   apply hK;clear hK K
   refine W.seq_pk 11 [some 81,some 82,some 83,some 84,some 85,some 86] [4] (by decide) (by kernel_rfl) fun K hK=>?_
   simp only[List.take_succ_cons,List.take_zero,List.drop_succ_cons,List.drop_zero]
   refine zba rfl ?_
   simp(disch:=omega)only[↓RU,RV,RH,↓reduceIte,qE,reduceCtorEq,if_pos,w64,↓RS,RG,qA,qM,qL,ty7,zcm,zbb,zaa,zcn,zbc,zaf,e1,zan,zas]
   refine zat (.ip [zax (gP p) (rP p),.int .i64 t.r,.int .i64 t.c,.int .i64 t.h,.int .i64 t.w] 1) rfl rfl rfl (fun S' hS=>?_) ?_
   ·skip
    have k4:=(hS 4 (by decide)).trans (show _=some _ from rfl)
    simp(disch:=omega)only[↓RU,RV,RH,↓reduceIte,qE,reduceCtorEq,if_pos,w64,↓RS,RG,qA,qM,qL,ty7,zcm,zbb,zaa,zcn,zbc,zaf,e1,zb3,zc0,zed,zee,k4]
   refine zat (.ip [zax (gP p) (rP p),.int .i64 t.r,.int .i64 t.c,.int .i64 t.h,.int .i64 t.w] 3) rfl rfl rfl (fun S' hS=>?_) ?_
   ·skip
    have k4:=(hS 4 (by decide)).trans (show _=some _ from rfl)
    simp(disch:=omega)only[↓RU,RV,RH,↓reduceIte,qE,reduceCtorEq,if_pos,w64,↓RS,RG,qA,qM,qL,ty7,zcm,zbb,zaa,zcn,zbc,zaf,e1,zb3,zc0,zed,zee,k4]
   refine zat (.int .i64 t.h) rfl rfl rfl (fun S' hS=>?_) ?_
   ·skip
    have k4:=(hS 4 (by decide)).trans (show _=some _ from rfl)
    simp(disch:=omega)only[↓RU,RV,RH,↓reduceIte,qE,reduceCtorEq,if_pos,w64,↓RS,RG,qA,qM,qL,ty7,zcm,zbb,zaa,zcn,zbc,zaf,e1,zb3,zc0,zed,zee,k4]
   refine zat (.ref 4 tk2 1) rfl rfl rfl (fun S' hS=>?_) ?_
   ·skip
    have k4:=(hS 4 (by decide)).trans (show _=some _ from rfl)
    simp(disch:=omega)only[↓RU,RV,RH,↓reduceIte,qE,reduceCtorEq,if_pos,w64,↓RS,RG,qA,qM,qL,ty7,zcm,zbb,zaa,zcn,zbc,zaf,e1,zb3,zc0,zed,zee,k4]
   refine zat (.ref 4 tk2 3) rfl rfl rfl (fun S' hS=>?_) ?_
   ·skip
    have k4:=(hS 4 (by decide)).trans (show _=some _ from rfl)
    simp(disch:=omega)only[↓RU,RV,RH,↓reduceIte,qE,reduceCtorEq,if_pos,w64,↓RS,RG,qA,qM,qL,ty7,zcm,zbb,zaa,zcn,zbc,zaf,e1,zb3,zc0,zed,zee,k4]
   refine zat (.int .i64 k) rfl rfl rfl (fun S' hS=>?_) ?_
   ·skip
    have k4:=(hS 4 (by decide)).trans (show _=some _ from rfl)
    simp(disch:=omega)only[↓RU,RV,RH,↓reduceIte,qE,reduceCtorEq,if_pos,w64,↓RS,RG,qA,qM,qL,ty7,zcm,zbb,zaa,zcn,zbc,zaf,e1,zb3,zc0,zed,zee,k4]
   refine zba rfl ?_
   simp(disch:=omega)only[↓RU,RV,RH,↓reduceIte,qE,reduceCtorEq,if_pos,w64,↓RS,RG,qA,qM,qL,ty7,zcm,zbb,zaa,zcn,zbc,zaf,e1,zan,zas]
   refine zba rfl ?_
   simp(disch:=omega)only[↓RU,RV,RH,↓reduceIte,qE,reduceCtorEq,if_pos,w64,↓RS,RG,qA,qM,qL,ty7,zcm,zbb,zaa,zcn,zbc,zaf,e1,zan,zas]
   refine zba rfl ?_
   simp(disch:=omega)only[↓RU,RV,RH,↓reduceIte,qE,reduceCtorEq,if_pos,w64,↓RS,RG,qA,qM,qL,ty7,zcm,zbb,zaa,zcn,zbc,zaf,e1,zan,zas]
   refine zba rfl ?_
   simp(disch:=omega)only[↓RU,RV,RH,↓reduceIte,qE,reduceCtorEq,if_pos,w64,↓RS,RG,qA,qM,qL,ty7,zcm,zbb,zaa,zcn,zbc,zaf,e1,zan,zas]
   refine zga ?_
   simp(disch:=omega)only[↓RU,RV,RH,↓reduceIte,qE,reduceCtorEq,if_pos,w64,↓RS,RG,qA,qM,qL,ty7,zcm,zbb,zaa,zcn,zbc,zaf,e1]
   apply hK;clear hK K
   refine W.r fun K hK=>?_
   cases hth:thL (zal p) t k
   ·skip
    simp(disch:=omega)only[↓RU,RV,RH,↓reduceIte,qE,reduceCtorEq,if_pos,qN,↓RS,RG,qA,qM,qL,ty7,zah,zcm,zhi,zbb,zaa,zcn,zhj,zbc,zaf,hgu,hth]
    refine zad.pc (zfd hgw (rP p) ht (level:=true) (line:=t.r+k) (by omega) (by simp; omega)) rfl (.inl rfl) ?_
    simp(disch:=omega)only[↓RU,RV,RH,↓reduceIte,qE,reduceCtorEq,if_pos,qN,↓RS,RG,qA,qM,qL,ty7,zah,zcm,zhi,zbb,zaa,zcn,zhj,zbc,zaf,hgu,hth]
    apply hK;clear hK K
    refine W.cond rfl (fun h1=>?_) (fun h1=>?_)
    ·try simp only[RL]at h1
     exact absurd h1 (by simp)
    try simp only[RL]at h1
    refine W.skip ?_
    refine XbN ?_
    refine xn ?_
    refine W.k fun K hK=>?_
    simp(disch:=omega)only[↓RU,RV,RH,↓reduceIte,qE,reduceCtorEq,if_pos,w64,↓RS,RG,qA,qM,qL,zaa,zaf]
    apply hK;clear hK K
    refine xn ?_
    refine ⟨t.h - (k+1),by omega,4,k+1,_,rfl,by omega,by omega,fun j j1 j2=>?_,?_,?_,rfl⟩
    ·rcases Nat.lt_succ_iff_lt_or_eq.1 j2 with h | rfl
     ·exact hall2 j j1 h
     exact hth
    ·exact Nat.le_trans htk (Nat.le_add_right _ 2)
    simp [Env.put,Env.of]; omega
   skip
   have hq:zec (zal p) t=some (true,k):=by unfold zec; rw [zh6.2 hall,zfi.2 ⟨hk1,by omega,hth,hall2⟩]
   simp(disch:=omega)only[↓RU,RV,RH,↓reduceIte,qE,reduceCtorEq,if_pos,qN,↓RS,RG,qA,qM,qL,ty7,zah,zcm,zhi,zbb,zaa,zcn,zhj,zbc,zaf,hgu,hth]
   refine zad.pc (zfd hgw (rP p) ht (level:=true) (line:=t.r+k) (by omega) (by simp; omega)) rfl (.inl rfl) ?_
   simp(disch:=omega)only[↓RU,RV,RH,↓reduceIte,qE,reduceCtorEq,if_pos,qN,↓RS,RG,qA,qM,qL,ty7,zah,zcm,zhi,zbb,zaa,zcn,zhj,zbc,zaf,hgu,hth]
   refine zy9.ey (hy _ hq _ _ _ (Nat.le_trans htk (Nat.le_add_right _ 2))) ?_
   rintro _ _ ⟨rfl,tk3,rfl⟩
   simp(disch:=omega)only[↓RU,RV,RH,↓reduceIte,qE,reduceCtorEq,if_pos,qN,↓RS,RG,qA,qM,qL,ty7,zah,zcm,zhi,zbb,zaa,zcn,zhj,zbc,zaf,hgu,hth]
   apply hK;clear hK K
   refine W.cond rfl (fun h1=>?_) (fun h1=>?_)
   ·try simp only[RL]at h1
    refine W.ret ?_
    refine XBlock.ret ?_
    refine XThen.ret ?_
    refine XThen.ret ?_
    refine XBlock.ret ?_
    refine Br rfl ?_
    exact ⟨4,.inr ⟨_,_,hq,rfl⟩⟩
   try simp only[RL]at h1
   exact absurd h1 (by simp)
  simp(disch:=omega)only[↓RU,RV,RH,↓reduceIte,qE,reduceCtorEq,if_pos,↓RS,RG,qA,qM,qL,ty7,zcm,zbb,zaa,zcn,zbc,zaf]
  apply hK;clear hK K
  refine xn ?_
  refine W.r fun K hK=>?_
  simp(disch:=omega)only[↓RU,RV,RH,↓reduceIte,qE,reduceCtorEq,if_pos,w64,↓RS,RG,qA,qM,qL,ty7,zcm,zbb,zaa,zcn,zbc,zaf]
  apply hK;clear hK K
  refine W.seq_pk 11 [some 81,some 82,some 83,some 84,some 85,some 86] [5] (by decide) (by kernel_rfl) fun K hK=>?_
  simp only[List.take_succ_cons,List.take_zero,List.drop_succ_cons,List.drop_zero]
  refine zba rfl ?_
  simp(disch:=omega)only[↓RU,RV,RH,↓reduceIte,qE,reduceCtorEq,if_pos,w64,↓RS,RG,qA,qM,qL,ty7,zcm,zbb,zaa,zcn,zbc,zaf,e1,zan,zas]
  refine zat (.ip [zax (gP p) (rP p),.int .i64 t.r,.int .i64 t.c,.int .i64 t.h,.int .i64 t.w] 1) rfl rfl rfl (fun S' hS=>?_) ?_
  ·skip
   have k5:=(hS 5 (by decide)).trans (show _=some _ from rfl)
   simp(disch:=omega)only[↓RU,RV,RH,↓reduceIte,qE,reduceCtorEq,if_pos,w64,↓RS,RG,qA,qM,qL,ty7,zcm,zbb,zaa,zcn,zbc,zaf,e1,zb3,zc0,zed,zee,k5]
  refine zat (.ip [zax (gP p) (rP p),.int .i64 t.r,.int .i64 t.c,.int .i64 t.h,.int .i64 t.w] 3) rfl rfl rfl (fun S' hS=>?_) ?_
  ·skip
   have k5:=(hS 5 (by decide)).trans (show _=some _ from rfl)
   simp(disch:=omega)only[↓RU,RV,RH,↓reduceIte,qE,reduceCtorEq,if_pos,w64,↓RS,RG,qA,qM,qL,ty7,zcm,zbb,zaa,zcn,zbc,zaf,e1,zb3,zc0,zed,zee,k5]
  refine zat (.int .i64 t.h) rfl rfl rfl (fun S' hS=>?_) ?_
  ·skip
   have k5:=(hS 5 (by decide)).trans (show _=some _ from rfl)
   simp(disch:=omega)only[↓RU,RV,RH,↓reduceIte,qE,reduceCtorEq,if_pos,w64,↓RS,RG,qA,qM,qL,ty7,zcm,zbb,zaa,zcn,zbc,zaf,e1,zb3,zc0,zed,zee,k5]
  refine zat (.ref 5 (tk2+1) 1) rfl rfl rfl (fun S' hS=>?_) ?_
  ·skip
   have k5:=(hS 5 (by decide)).trans (show _=some _ from rfl)
   simp(disch:=omega)only[↓RU,RV,RH,↓reduceIte,qE,reduceCtorEq,if_pos,w64,↓RS,RG,qA,qM,qL,ty7,zcm,zbb,zaa,zcn,zbc,zaf,e1,zb3,zc0,zed,zee,k5]
  refine zat (.ref 5 (tk2+1) 3) rfl rfl rfl (fun S' hS=>?_) ?_
  ·skip
   have k5:=(hS 5 (by decide)).trans (show _=some _ from rfl)
   simp(disch:=omega)only[↓RU,RV,RH,↓reduceIte,qE,reduceCtorEq,if_pos,w64,↓RS,RG,qA,qM,qL,ty7,zcm,zbb,zaa,zcn,zbc,zaf,e1,zb3,zc0,zed,zee,k5]
  refine zat (.int .i64 k) rfl rfl rfl (fun S' hS=>?_) ?_
  ·skip
   have k5:=(hS 5 (by decide)).trans (show _=some _ from rfl)
   simp(disch:=omega)only[↓RU,RV,RH,↓reduceIte,qE,reduceCtorEq,if_pos,w64,↓RS,RG,qA,qM,qL,ty7,zcm,zbb,zaa,zcn,zbc,zaf,e1,zb3,zc0,zed,zee,k5]
  refine zba rfl ?_
  simp(disch:=omega)only[↓RU,RV,RH,↓reduceIte,qE,reduceCtorEq,if_pos,w64,↓RS,RG,qA,qM,qL,ty7,zcm,zbb,zaa,zcn,zbc,zaf,e1,zan,zas]
  refine zba rfl ?_
  simp(disch:=omega)only[↓RU,RV,RH,↓reduceIte,qE,reduceCtorEq,if_pos,w64,↓RS,RG,qA,qM,qL,ty7,zcm,zbb,zaa,zcn,zbc,zaf,e1,zan,zas]
  refine zba rfl ?_
  simp(disch:=omega)only[↓RU,RV,RH,↓reduceIte,qE,reduceCtorEq,if_pos,w64,↓RS,RG,qA,qM,qL,ty7,zcm,zbb,zaa,zcn,zbc,zaf,e1,zan,zas]
  refine zba rfl ?_
  simp(disch:=omega)only[↓RU,RV,RH,↓reduceIte,qE,reduceCtorEq,if_pos,w64,↓RS,RG,qA,qM,qL,ty7,zcm,zbb,zaa,zcn,zbc,zaf,e1,zan,zas]
  refine zga ?_
  simp(disch:=omega)only[↓RU,RV,RH,↓reduceIte,qE,reduceCtorEq,if_pos,w64,↓RS,RG,qA,qM,qL,ty7,zcm,zbb,zaa,zcn,zbc,zaf,e1]
  apply hK;clear hK K
  refine W.r fun K hK=>?_
  cases hth:thL (zal p) t k
  ·skip
   simp(disch:=omega)only[↓RU,RV,RH,↓reduceIte,qE,reduceCtorEq,if_pos,qN,↓RS,RG,qA,qM,qL,ty7,zah,zcm,zhi,zbb,zaa,zcn,zhj,zbc,zaf,hgu,hth]
   refine zad.pc (zfd hgw (rP p) ht (level:=true) (line:=t.r+k) (by omega) (by simp; omega)) rfl (.inl rfl) ?_
   simp(disch:=omega)only[↓RU,RV,RH,↓reduceIte,qE,reduceCtorEq,if_pos,qN,↓RS,RG,qA,qM,qL,ty7,zah,zcm,zhi,zbb,zaa,zcn,zhj,zbc,zaf,hgu,hth]
   apply hK;clear hK K
   refine W.cond rfl (fun h1=>?_) (fun h1=>?_)
   ·try simp only[RL]at h1
    exact absurd h1 (by simp)
   try simp only[RL]at h1
   refine W.skip ?_
   refine XbN ?_
   refine xn ?_
   refine W.k fun K hK=>?_
   simp(disch:=omega)only[↓RU,RV,RH,↓reduceIte,qE,reduceCtorEq,if_pos,w64,↓RS,RG,qA,qM,qL,zaa,zaf]
   apply hK;clear hK K
   refine xn ?_
   refine ⟨t.h - (k+1),by omega,4,k+1,_,rfl,by omega,by omega,fun j j1 j2=>?_,?_,?_,rfl⟩
   ·rcases Nat.lt_succ_iff_lt_or_eq.1 j2 with h | rfl
    ·exact hall2 j j1 h
    exact hth
   ·exact Nat.le_trans htk (Nat.le_add_right _ 2)
   simp [Env.put,Env.of]; omega
  skip
  have hq:zec (zal p) t=some (true,k):=by unfold zec; rw [zh6.2 hall,zfi.2 ⟨hk1,by omega,hth,hall2⟩]
  simp(disch:=omega)only[↓RU,RV,RH,↓reduceIte,qE,reduceCtorEq,if_pos,qN,↓RS,RG,qA,qM,qL,ty7,zah,zcm,zhi,zbb,zaa,zcn,zhj,zbc,zaf,hgu,hth]
  refine zad.pc (zfd hgw (rP p) ht (level:=true) (line:=t.r+k) (by omega) (by simp; omega)) rfl (.inl rfl) ?_
  simp(disch:=omega)only[↓RU,RV,RH,↓reduceIte,qE,reduceCtorEq,if_pos,qN,↓RS,RG,qA,qM,qL,ty7,zah,zcm,zhi,zbb,zaa,zcn,zhj,zbc,zaf,hgu,hth]
  refine zy9.ey (hy _ hq _ _ _ (Nat.le_trans htk (Nat.le_add_right _ 2))) ?_
  rintro _ _ ⟨rfl,tk3,rfl⟩
  simp(disch:=omega)only[↓RU,RV,RH,↓reduceIte,qE,reduceCtorEq,if_pos,qN,↓RS,RG,qA,qM,qL,ty7,zah,zcm,zhi,zbb,zaa,zcn,zhj,zbc,zaf,hgu,hth]
  apply hK;clear hK K
  refine W.cond rfl (fun h1=>?_) (fun h1=>?_)
  ·try simp only[RL]at h1
   refine W.ret ?_
   refine XBlock.ret ?_
   refine XThen.ret ?_
   refine XThen.ret ?_
   refine XBlock.ret ?_
   refine Br rfl ?_
   exact ⟨4,.inr ⟨_,_,hq,rfl⟩⟩
  try simp only[RL]at h1
  exact absurd h1 (by simp)
 try simp only[RL]at h
 obtain rfl:k=t.h:=by omega
 refine W.exit ?_
 refine xe ?_
 refine xe ?_
 refine XBlock.hit ?_
 refine zfs.norm rfl ?_
 exact ⟨4,.inl ⟨_,zsf.2 ⟨hall,hall2⟩,rfl⟩⟩
def yd9:PV := .agg [.bool false,.nilp,.int .i64 0,.int .i64 0,.int .i64 0,.int .i64 0,.nilp,.int .i64 0,.int .i64 0,.int .i64 0,.int .i64 0]
def zwu (p:List Txt) (t:Pt):PV:=match zec (zal p) t with | some q => .tup [z1d (gP p) (rP p) t q,.bool true] | none => .tup [yd9,.bool false]
theorem z1m {p:List Txt} (hp:zbq p=true) {t:Pt} (ht:t.In p.length (zam p).length):PC Tryz.prog 73 [zik (gP p) (rP p) t.rect] (zwu p t) false:=by
 simp only[zik,Pt.rect,Rect.cells]
 refine PC.ofV ⟨Tryz.func73,by kernel_rfl,rfl,by kernel_rfl⟩ zar mixed (by show 1≤Tryz.f73.ntmps; decide) ?_
 refine V.seq_region fun K hK=>?_
 simp(disch:=omega)only[↓RU,RV,RH,↓reduceIte,qE,reduceCtorEq,if_pos,↓RS,RG,qA,qM,qL,ty7,zah,zcm,zhi,zbb,zaa,zcn,zhj,zbc]
 apply hK;clear hK K
 refine V.seq ?_
 refine V.seq_region fun K hK=>?_
 simp(disch:=omega)only[↓RU,RV,RH,↓reduceIte,qE,reduceCtorEq,if_pos,qN,↓RS,RG,qA,qM,qL,ty7,zcm,zbb,zaa,zcn,zbc]
 refine zad.pc (yde (gP p) (rP p) t.rect) rfl (.inr rfl) ?_
 simp(disch:=omega)only[↓RU,RV,RH,↓reduceIte,qE,reduceCtorEq,if_pos,qN,↓RS,RG,qA,qM,qL,ty7,zcm,zbb,zaa,zcn,zbc]
 apply hK;clear hK K
 refine V.block ?_
 refine V.rangeFunc [2,3] rfl fun l r hr hst hpd=>?_
 refine ⟨_,z99 hp ht l _ _ _ _ _ (fun q => .arr 1 60 11 [.bool q.1,zax (gP p) (rP p),.int .i64 (t.one q).r,.int .i64 (t.one q).c,.int .i64 (t.one q).h,.int .i64 (t.one q).w,zax (gP p) (rP p),.int .i64 (t.two q).r,.int .i64 (t.two q).c,.int .i64 (t.two q).h,.int .i64 (t.two q).w]) (fun _ => .arr 2 4 1 [.bool true]) (fun _ => .lp 3 l ({ r with state := .done,pending:=some .ret },[2,3]) [.ref 1 1 0,.ref 2 2 0]) (fun q hq x y tk2 htk=>?_),?_⟩
 ·refine Ey.of (o:=3) zar mixed rfl hr hst rfl ?_
  change W _ _ _ _ (Env.put (Env.of [2,3] [.ref 1 1 0,.ref 2 2 0]) (some 7) (.agg [.bool q.1,zax (gP p) (rP p),.int .i64 (t.one q).r,.int .i64 (t.one q).c,.int .i64 (t.one q).h,.int .i64 (t.one q).w,zax (gP p) (rP p),.int .i64 (t.two q).r,.int .i64 (t.two q).c,.int .i64 (t.two q).h,.int .i64 (t.two q).w])) _
  refine W.k fun K hK=>?_
  simp(disch:=omega)only[↓RU,RV,RH,↓reduceIte,qE,reduceCtorEq,if_pos,↓RS,RG,qA,qM,qL,ty7,zah,zcm,zhi,zbb,zaa,zcn,zhj,zbc]
  apply hK;clear hK K
  refine xn ⟨_,_,_,_,rfl,hst,?_⟩
  simp only[List.set_cons_succ,List.set_cons_zero]
  refine W.block ?_
  refine W.r fun K hK=>?_
  simp(disch:=omega)only[↓RU,RV,RH,↓reduceIte,qE,reduceCtorEq,if_pos,↓RS,RG,qA,qM,qL,ty7,zah,zcm,zhi,zbb,zaa,zcn,zhj,zbc]
  apply hK;clear hK K
  refine W.ret ?_
  refine XBlock.ret ?_
  exact ⟨_,_,_,_,6,rfl,rfl,_,rfl⟩
 rintro v S2 (⟨tk2,hq,rfl⟩ | ⟨q,tk2,hq,rfl⟩)
 ·skip
  refine ⟨_,_,_,_,.normal,rfl,by rw [hst]; simp,by rw [hpd]; rfl,?_⟩
  change XBlock _ _ _ _ ⟨[_,_,_],_⟩
  refine XbN ?_
  refine xn ?_
  refine W.v ?_
  refine W.r fun K hK=>?_
  simp(disch:=omega)only[↓RU,RV,RH,↓reduceIte,qE,reduceCtorEq,if_pos,↓RS,RG,qA,qM,qL,ty7,zah,zcm,zhi,zbb,zaa,zcn,zhj,zbc]
  apply hK;clear hK K
  refine W.ret ?_
  refine Br rfl ?_
  simp only[zwu,hq]
  rfl
 skip
 refine ⟨_,_,_,_,.ret,rfl,by simp,rfl,?_⟩
 change XBlock _ _ _ _ ⟨[_,_,_],_⟩
 refine XBlock.ret ?_
 refine XThen.ret ?_
 refine Br rfl ?_
 simp only[zwu,hq]
 rfl
def zl9 (p:List Txt) (k:Nat):List Txt:=p.flatMap fun r=>List.replicate k r
theorem zur {k:Nat}:∀ (p:List Txt),(zl9 p k).length=p.length*k
 | []=>by simp [zl9]
 | r::p=>by
  have:=zur (k:=k) p
  unfold zl9 at this ⊢
  rw [List.flatMap_cons,List.length_append,this,List.length_replicate,List.length_cons,Nat.add_mul]
  omega
theorem yaq {p:List Txt} {k i:Nat} {row:Txt} (h:p[i]?=some row):zl9 (p.take (i+1)) k=zl9 (p.take i) k++List.replicate k row:=by
 rw [tk h]; simp [zl9]
theorem z7f {p:List Txt} {k:Nat} {r:Txt} (h:r∈zl9 p k):r∈p:=by
 unfold zl9 at h
 obtain ⟨x,hx,hr⟩:=List.mem_flatMap.1 h
 rw [(List.mem_replicate.1 hr).2]; exact hx
theorem zql {p:List Txt} (hs:Sm p) (hne:0<p.length) (hpl:p.length≤100) {w:Nat} (hw:∀ r∈p,r.length=w) (hw6:w≤100):PC Tryz.prog 92 [zaq p] (zaq (zci p)) true:=by
 have hp:=hs.rows
 obtain ⟨row0,hrow0,hrm0⟩:=zag hne
 have hhd:=zcz hrow0
 have hw0:=hw row0 hrm0
 refine PC.of ⟨Tryz.func92,by kernel_rfl,rfl,by kernel_rfl⟩ zar mixed (by show 1≤Tryz.f92.ntmps; decide) ?_
 refine W.r fun K hK=>?_
 simp(disch:=omega)only[↓RU,RV,RH,↓reduceIte,qE,reduceCtorEq,if_pos,↓RS,RG,qA,qM,qL]
 apply hK;clear hK K
 refine W.r fun K hK=>?_
 simp(disch:=omega)only[↓RU,RV,RH,↓reduceIte,qE,reduceCtorEq,if_pos,↓RS,RG,qA,qM,qL,ty5,zac]
 apply hK;clear hK K
 refine W.seq ?_
 refine W.r fun K hK=>?_
 simp(disch:=omega)only[↓RU,RV,RH,↓reduceIte,qE,reduceCtorEq,if_pos,↓RS,RG,qA,qM,qL]
 apply hK;clear hK K
 refine W.block ?_
 refine W.loop [0,3,4] (fun n vs S=>∃ k v0 tk:Nat,n=row0.length - k∧k≤row0.length∧vs=[zaq p,.loc 0 v0 0 k,.int .i64 k]∧S=⟨[.arr v0 9 1 ((zh5 p k).map .str)],tk⟩) (row0.length) ?_ ?_
 ·refine ⟨1,0,0,1,rfl,Nat.zero_le _,?_,rfl⟩
  simp [Env.put,Env.of,zae]
 rintro n vs S - ⟨k,v0,tk,rfl,h_k,rfl,rfl⟩
 refine W.seq ?_
 refine W.r fun K hK=>?_
 simp(disch:=omega)only[↓RU,RV,RH,↓reduceIte,qE,reduceCtorEq,if_pos,w64,↓RS,RG,qA,qM,qL,ty5,zaa,zac,hrow0,Int.toNat_zero,Nat.zero_mul,qZ]
 apply hK;clear hK K
 refine W.cond rfl (fun h=>?_) (fun h=>?_)
 ·try simp only[RL]at h
  have hcl0:=zfx (p:=p) (k:=k)
  refine W.skip ?_
  refine xn ?_
  refine W.seq ?_
  refine W.block ?_
  refine W.r fun K hK=>?_
  simp(disch:=omega)only[↓RU,RV,RH,↓reduceIte,qE,reduceCtorEq,if_pos,↓RS,RG,qA,qM,qL,ty6,zei]
  apply hK;clear hK K
  refine W.seq ?_
  refine W.r fun K hK=>?_
  simp(disch:=omega)only[↓RU,RV,RH,↓reduceIte,qE,reduceCtorEq,if_pos,↓RS,RG,qA,qM,qL]
  apply hK;clear hK K
  refine W.block ?_
  refine W.loop [0,3,4,5,6] (fun n vs S=>∃ i v1 tk:Nat,n=p.length - i∧i≤p.length∧vs=[zaq p,.loc 0 v0 0 k,.int .i64 k,.loc 1 v1 0 i,.int .i64 i]∧S=⟨[.arr v0 9 1 ((zh5 p k).map .str),.arr v1 5 1 ((znc p k i).map eB)],tk⟩) (p.length) ?_ ?_
  ·refine ⟨2,0,tk,tk+1,rfl,Nat.zero_le _,?_,rfl⟩
   simp [Env.put,Env.of,zae]
  rintro n vs S - ⟨i,v1,tk,rfl,h_i,rfl,rfl⟩
  refine W.seq ?_
  refine W.r fun K hK=>?_
  simp(disch:=omega)only[↓RU,RV,RH,↓reduceIte,qE,reduceCtorEq,if_pos,w64,↓RS,RG,qA,qM,qL,ty5,zaa,zac]
  apply hK;clear hK K
  refine W.cond rfl (fun h1=>?_) (fun h1=>?_)
  ·try simp only[RL]at h1
   obtain ⟨row,hrow,hrm⟩:=zag (show i<p.length by omega)
   have hrl:row.length=row0.length:=(hw row hrm).trans hw0.symm
   obtain ⟨c,hc,-⟩:=zag (show k<row.length by omega)
   have hctl:=zfh (p:=p) (k:=k) h_i
   refine W.skip ?_
   refine xn ?_
   refine W.seq ?_
   refine W.block ?_
   refine W.k fun K hK=>?_
   simp(disch:=omega)only[↓RU,RV,RH,↓reduceIte,qE,reduceCtorEq,if_pos,↓RS,RG,qA,qM,qL,ty5,ty6,zac,zei,hrow,hc]
   apply hK;clear hK K
   refine XbN ?_
   refine xn ?_
   refine W.k fun K hK=>?_
   simp(disch:=omega)only[↓RU,RV,RH,↓reduceIte,qE,reduceCtorEq,if_pos,w64,↓RS,RG,qA,qM,qL,zaa]
   apply hK;clear hK K
   refine xn ?_
   refine ⟨p.length - (i+1),by omega,2,i+1,tk+1,tk+2,rfl,by omega,?_,?_⟩
   all_goals simp [Env.put,Env.of,za3,zse hrow hc,hcl0,hctl,zki]
  ·try simp only[RL]at h1
   have hip:i=p.length:=by omega
   subst hip
   have hctl:=zfh (p:=p) (k:=k) (qR _)
   refine W.exit ?_
   refine xe ?_
   refine xe ?_
   refine XBlock.hit ?_
   refine xn ?_
   refine W.k fun K hK=>?_
   simp(disch:=omega)only[↓RU,RV,RH,↓reduceIte,qE,reduceCtorEq,if_pos,w64,↓RS,RG,qA,qM,qL,ty5,ty6,zac,zei]
   apply hK;clear hK K
   refine XbN ?_
   refine xn ?_
   refine W.k fun K hK=>?_
   simp(disch:=omega)only[↓RU,RV,RH,↓reduceIte,qE,reduceCtorEq,if_pos,w64,↓RS,RG,qA,qM,qL,zaa]
   apply hK;clear hK K
   refine xn ?_
   refine ⟨row0.length - (k+1),by omega,1,k+1,tk+1,tk+2,rfl,by omega,?_,?_⟩
   all_goals simp [Env.put,Env.of,za3,zpy,hctl,zki,hcl0]
 try simp only[RL]at h
 refine W.exit ?_
 refine xe ?_
 refine xe ?_
 refine XBlock.hit ?_
 refine xn ?_
 refine W.r fun K hK=>?_
 simp(disch:=omega)only[↓RU,RV,RH,↓reduceIte,qE,reduceCtorEq,if_pos,↓RS,RG,qA,qM,qL]
 apply hK;clear hK K
 refine W.ret ?_
 refine Br rfl ?_
 have hkp:k=row0.length:=by omega
 subst hkp
 rw [zci,hhd]
 exact zcl (k:=9) rfl (by simp [zfx]) (zj1 _) |>.trans (by simp [zfx])
theorem zsw {p:List Txt} (hpl:p.length≤100) {k:Nat} (hk:k≤3):PC Tryz.prog 93 [zaq p,.int .i64 k] (zaq (zl9 p k)) true:=by
 refine PC.of ⟨Tryz.func93,by kernel_rfl,rfl,by kernel_rfl⟩ zar mixed (by show 2≤Tryz.f93.ntmps; decide) ?_
 refine W.r fun K hK=>?_
 simp(disch:=omega)only[↓RU,RV,RH,↓reduceIte,qE,reduceCtorEq,if_pos,↓RS,RG,qA,qM,qL]
 apply hK;clear hK K
 refine W.r fun K hK=>?_
 simp(disch:=omega)only[↓RU,RV,RH,↓reduceIte,qE,reduceCtorEq,if_pos,↓RS,RG,qA,qM,qL,ty5,zac]
 apply hK;clear hK K
 refine W.seq ?_
 refine W.r fun K hK=>?_
 simp(disch:=omega)only[↓RU,RV,RH,↓reduceIte,qE,reduceCtorEq,if_pos,↓RS,RG,qA,qM,qL]
 apply hK;clear hK K
 refine W.block ?_
 refine W.loop [0,1,5,6] (fun n vs S=>∃ i v0 tk:Nat,n=p.length - i∧i≤p.length∧vs=[zaq p,.int .i64 k,.loc 0 v0 0 (zl9 (p.take i) k).length,.int .i64 i]∧S=⟨[.arr v0 9 1 ((zl9 (p.take i) k).map .str)],tk⟩) (p.length) ?_ ?_
 ·refine ⟨1,0,0,1,rfl,Nat.zero_le _,?_,rfl⟩
  simp [Env.put,Env.of,zae,zl9]
 rintro n vs S - ⟨i,v0,tk,rfl,h_i,rfl,rfl⟩
 refine W.seq ?_
 refine W.r fun K hK=>?_
 simp(disch:=omega)only[↓RU,RV,RH,↓reduceIte,qE,reduceCtorEq,if_pos,w64,↓RS,RG,qA,qM,qL,ty5,zaa,zac]
 apply hK;clear hK K
 refine W.cond rfl (fun h=>?_) (fun h=>?_)
 ·try simp only[RL]at h
  obtain ⟨row,hrow,hrm⟩:=zag (show i<p.length by omega)
  have hol:=zur (k:=k) (p.take i)
  have htl:=List.length_take_le i p
  have hib:(p.take i).length*k≤100*3:=Nat.mul_le_mul (by omega) hk
  generalize hO:zl9 (p.take i) k=O at hol
  refine W.skip ?_
  refine xn ?_
  refine W.seq ?_
  refine W.block ?_
  refine W.r fun K hK=>?_
  simp(disch:=omega)only[↓RU,RV,RH,↓reduceIte,qE,reduceCtorEq,if_pos,↓RS,RG,qA,qM,qL]
  apply hK;clear hK K
  refine W.block ?_
  refine W.loop [0,1,5,6,7] (fun n vs S=>∃ j v1 t1:Nat,n=k - j∧j≤k∧vs=[zaq p,.int .i64 k,.loc 0 v1 0 (O++List.replicate j row).length,.int .i64 i,.int .i64 j]∧S=⟨[.arr v1 9 1 ((O++List.replicate j row).map .str)],t1⟩) (k) ?_ ?_
  ·refine ⟨1,0,v0,tk,rfl,Nat.zero_le _,?_,by simp [za3]⟩
   simp [Env.put,Env.of]
  rintro n vs S - ⟨j,v1,t1,rfl,h_j,rfl,rfl⟩
  refine W.seq ?_
  refine W.r fun K hK=>?_
  simp(disch:=omega)only[↓RU,RV,RH,↓reduceIte,qE,reduceCtorEq,if_pos,w64,↓RS,RG,qA,qM,qL,zaa]
  apply hK;clear hK K
  refine W.cond rfl (fun h1=>?_) (fun h1=>?_)
  ·try simp only[RL]at h1
   have hrpl:(O++List.replicate j row).length=O.length+j:=by simp
   generalize hR:O++List.replicate j row=R at hrpl
   refine W.skip ?_
   refine xn ?_
   refine W.seq ?_
   refine W.block ?_
   refine W.k fun K hK=>?_
   simp(disch:=omega)only[↓RU,RV,RH,↓reduceIte,qE,reduceCtorEq,if_pos,↓RS,RG,qA,qM,qL,ty5,zac,hrow]
   apply hK;clear hK K
   refine XbN ?_
   refine xn ?_
   refine W.k fun K hK=>?_
   simp(disch:=omega)only[↓RU,RV,RH,↓reduceIte,qE,reduceCtorEq,if_pos,w64,↓RS,RG,qA,qM,qL,zaa]
   apply hK;clear hK K
   refine xn ?_
   refine ⟨k - (j+1),by omega,1,j+1,(t1+1),(t1+2),rfl,by omega,?_,?_⟩
   all_goals simp [Env.put,Env.of,za3,← hR,List.replicate_succ',← List.append_assoc]
  ·try simp only[RL]at h1
   obtain rfl:j=k:=by omega
   refine W.exit ?_
   refine xe ?_
   refine xe ?_
   refine XBlock.hit ?_
   refine XbN ?_
   refine xn ?_
   refine W.k fun K hK=>?_
   simp(disch:=omega)only[↓RU,RV,RH,↓reduceIte,qE,reduceCtorEq,if_pos,w64,↓RS,RG,qA,qM,qL,zaa]
   apply hK;clear hK K
   refine xn ?_
   refine ⟨p.length - (i+1),by omega,1,i+1,v1,t1,rfl,by omega,?_,?_⟩
   all_goals rw [yaq hrow,hO]
   all_goals simp [Env.put,Env.of,za3]
 try simp only[RL]at h
 obtain rfl:i=p.length:=by omega
 rw [List.take_length]
 refine W.exit ?_
 refine xe ?_
 refine xe ?_
 refine XBlock.hit ?_
 refine xn ?_
 refine W.r fun K hK=>?_
 simp(disch:=omega)only[↓RU,RV,RH,↓reduceIte,qE,reduceCtorEq,if_pos,↓RS,RG,qA,qM,qL]
 apply hK;clear hK K
 refine W.ret ?_
 refine Br rfl ?_
 exact zcl (k:=9) rfl (by simp) (zj1 _)
theorem zke {p:List Txt} {w:Nat} (hne:0<p.length) (hw:∀ r∈p,r.length=w):(zci p).length=w∧∀ r∈zci p,r.length=p.length:=by
 obtain ⟨row0,h0,hm0⟩:=zag hne
 refine ⟨by rw [zjq,zcz h0,hw _ hm0],fun r hr=>?_⟩
 simp only[zci,zh5,List.mem_map,List.mem_range]at hr
 obtain ⟨j,_,rfl⟩:=hr
 exact zfh (qR _)
theorem ybf {p:List Txt} {w:Nat} (h1:p.length≤100) (hw:∀ r∈p,r.length=w) (h2:w≤100):Sm p:=⟨by omega,fun r hr=>by have:=hw r hr; omega⟩
def zvt (p:List Txt) (k:Nat):List Txt × Bool:=if zbq p then zhl (zci (zl9 (zci (zl9 p k)) k)) else ([],false)
theorem ztw {p:List Txt} (hp:zbq p=true) {k:Nat} (h1:1≤k) (h2:k≤3):((zl9 p k).length=p.length*k∧0<(zl9 p k).length∧(zl9 p k).length≤18∧∀ r∈zl9 p k,r.length=(zam p).length)∧(zam p).length≤6∧1≤(zam p).length ∧
  ((zl9 (zci (zl9 p k)) k).length≤18∧0<(zl9 (zci (zl9 p k)) k).length∧∀ r∈zl9 (zci (zl9 p k)) k,r.length=p.length*k)∧p.length*k≤18:=by
 have hg:=zq6 hp
 obtain ⟨g1,g2,g3,g4⟩:=hg.2.2
 have e1:=zur (k:=k) p
 have b1:p.length*k≤6*3:=Nat.mul_le_mul g2 h2
 have b2:1*1≤p.length*k:=Nat.mul_le_mul g1 h1
 have hr:∀ r∈zl9 p k,r.length=(zam p).length:=fun r hr=>zl4 (zeu hp) r (z7f hr)
 obtain ⟨t1,t2⟩:=zke (by omega) hr
 have e2:=zur (k:=k) (zci (zl9 p k))
 rw [t1]at e2
 have b3:(zam p).length*k≤6*3:=Nat.mul_le_mul g4 h2
 have b4:1*1≤(zam p).length*k:=Nat.mul_le_mul g3 h1
 exact ⟨⟨e1,by omega,by omega,hr⟩,g4,g3,⟨by omega,by omega,fun r hr=>by rw [t2 r (z7f hr),e1]⟩,by omega⟩
theorem ydj {p:List Txt} (hs:Sm p):Sm (zhl p).1:=by
 unfold zhl
 split
 ·exact hs.names
 exact ⟨by simp,by simp⟩
theorem ye6 {p:List Txt} {k:Nat} (h1:1≤k) (h2:k≤3):Sm (zvt p k).1:=by
 unfold zvt
 split
 ·rename_i hp
  obtain ⟨⟨e1,e2,e3,e4⟩,w1,w2,⟨f1,f2,f3⟩,e5⟩:=ztw hp h1 h2
  obtain ⟨t1,t2⟩:=zke f2 f3
  exact ydj (ybf (by omega) t2 (by omega))
 exact ⟨by simp,by simp⟩
theorem zyn {p:List Txt} (hs:Sm p) {k:Nat} (h1:1≤k) (h2:k≤3):PC Tryz.prog 45 [zaq p,.int .i64 k] (.tup [zaq (zvt p k).1,.bool (zvt p k).2]) false:=by
 refine PC.of ⟨Tryz.func45,by kernel_rfl,rfl,by kernel_rfl⟩ zar mixed (by show 2≤Tryz.f45.ntmps; decide) ?_
 refine W.r fun K hK=>?_
 simp(disch:=omega)only[↓RU,RV,RH,↓reduceIte,qE,reduceCtorEq,if_pos,↓RS,RG,qA,qM,qL]
 apply hK;clear hK K
 refine W.seq ?_
 refine W.r fun K hK=>?_
 cases hp:zbq p
 ·skip
  simp(disch:=omega)only[↓RU,RV,RH,↓reduceIte,qE,reduceCtorEq,if_pos,qN,↓RS,RG,qA,qM,qL,hp]
  refine zad.pc (zfc hs) rfl (.inl rfl) ?_
  simp(disch:=omega)only[↓RU,RV,RH,↓reduceIte,qE,reduceCtorEq,if_pos,qN,↓RS,RG,qA,qM,qL,hp]
  apply hK;clear hK K
  refine W.cond rfl (fun h0=>?_) (fun h0=>?_)
  ·try simp only[RL]at h0
   refine W.r fun K hK=>?_
   simp(disch:=omega)only[↓RU,RV,RH,↓reduceIte,qE,reduceCtorEq,if_pos,qN,↓RS,RG,qA,qM,qL]
   refine zad.pc (zfk) rfl (.inl rfl) ?_
   simp(disch:=omega)only[↓RU,RV,RH,↓reduceIte,qE,reduceCtorEq,if_pos,qN,↓RS,RG,qA,qM,qL]
   apply hK;clear hK K
   refine W.ret ?_
   refine XThen.ret ?_
   refine Br rfl ?_
   rw [show zvt p k=([],false) by unfold zvt; rw [hp]; rfl]
   rfl
  try simp only[RL]at h0
  exact absurd h0 (by simp)
 skip
 have hd1:(decide ((1:Int)≤(k:Int)) && decide ((k:Int)≤3))=true:=by simp; omega
 simp(disch:=omega)only[↓RU,RV,RH,↓reduceIte,qE,reduceCtorEq,if_pos,qN,↓RS,RG,qA,qM,qL,hp,hd1]
 refine zad.pc (zfc hs) rfl (.inl rfl) ?_
 simp(disch:=omega)only[↓RU,RV,RH,↓reduceIte,qE,reduceCtorEq,if_pos,qN,↓RS,RG,qA,qM,qL,hp,hd1]
 refine zad.pc (zk7 _ _ _) rfl (.inl rfl) ?_
 simp(disch:=omega)only[↓RU,RV,RH,↓reduceIte,qE,reduceCtorEq,if_pos,qN,↓RS,RG,qA,qM,qL,hp,hd1]
 apply hK;clear hK K
 refine W.cond rfl (fun h0=>?_) (fun h0=>?_)
 ·try simp only[RL]at h0
  exact absurd h0 (by simp)
 try simp only[RL]at h0
 obtain ⟨⟨e1,e2,e3,e4⟩,w1,w2,⟨f1,f2,f3⟩,e5⟩:=ztw hp h1 h2
 obtain ⟨t1,t2⟩:=zke e2 e4
 obtain ⟨u1,u2⟩:=zke f2 f3
 refine W.skip ?_
 refine xn ?_
 refine W.r fun K hK=>?_
 simp(disch:=omega)only[↓RU,RV,RH,↓reduceIte,qE,reduceCtorEq,if_pos,qN,↓RS,RG,qA,qM,qL]
 refine zad.pc (zsw (by have:=(zq6 hp).2.2; omega) h2) rfl (.inl rfl) ?_
 simp(disch:=omega)only[↓RU,RV,RH,↓reduceIte,qE,reduceCtorEq,if_pos,qN,↓RS,RG,qA,qM,qL]
 refine zad.pc (zql (ybf (by omega) e4 (by omega)) e2 (by omega) e4 (by omega)) rfl (.inl rfl) ?_
 simp(disch:=omega)only[↓RU,RV,RH,↓reduceIte,qE,reduceCtorEq,if_pos,qN,↓RS,RG,qA,qM,qL]
 refine zad.pc (zsw (by omega) h2) rfl (.inl rfl) ?_
 simp(disch:=omega)only[↓RU,RV,RH,↓reduceIte,qE,reduceCtorEq,if_pos,qN,↓RS,RG,qA,qM,qL]
 refine zad.pc (zql (ybf (by omega) f3 (by omega)) f2 (by omega) f3 (by omega)) rfl (.inl rfl) ?_
 simp(disch:=omega)only[↓RU,RV,RH,↓reduceIte,qE,reduceCtorEq,if_pos,qN,↓RS,RG,qA,qM,qL]
 refine zad.pc (zl5 (ybf (by omega) u2 (by omega))) rfl (.inr rfl) ?_
 simp(disch:=omega)only[↓RU,RV,RH,↓reduceIte,qE,reduceCtorEq,if_pos,qN,↓RS,RG,qA,qM,qL]
 apply hK;clear hK K
 refine W.ret ?_
 refine Br rfl ?_
 rw [show zvt p k=zhl (zci (zl9 (zci (zl9 p k)) k)) by unfold zvt; rw [hp]; rfl]
 rfl
def zoy {α:Type} (enc:α→PV) (zero:PV) (room:Int→α) (cut:Bool→α→α→α):Option CT→PV
 | some x => .tup [enc (x.fold room cut),.bool true]
 | none => .tup [zero,.bool false]
theorem zl1 {α:Type} {enc:α→PV} {zero:PV} {room:Int→α} {cut:Bool→α→α→α} (o:Option CT):∃ v b,zoy enc zero room cut o = .tup [v,.bool b]:=by
 cases o with
 | none=>exact ⟨_,_,rfl⟩
 | some x=>exact ⟨_,_,rfl⟩
theorem z40 (a b:Option CT):a=none∨(∃ x,a=some x∧b=none)∨∃ x y,a=some x∧b=some y:=by
 cases a <;> cases b <;> simp
theorem zj8 {p:List Txt} (hp:zbq p=true):(rP p).length≤9∧∀ b∈rP p,b.Fit:=by
 have hN:=zc7 hp
 have h1:=hN.rooms
 have h2:za2 p≤9:=by unfold zbq at hp; simp only[qB,decide_eq_true_eq]at hp; exact hp.1.2
 have hsm:=zcj hN.hg
 obtain ⟨row0,hr0,hm0⟩:=zag hsm.1
 have hh:=zcz hr0
 have hw6:=hsm.2.2 row0 hm0
 have hw1:=zf2 hN.hg hr0
 rw [← hh]at hw6 hw1
 have hok:=(zge (g:=zb5 p) hw6 hw1 p.length hsm.2.1).1
 rw [← z71]at hok
 exact ⟨by omega,hok.2⟩
theorem z2g {p:List Txt} (hp:zbq p=true) {t:Pt} (h:t.In p.length (zam p).length):t.rect.Fit:=by
 have hg:=zq6 hp
 obtain ⟨g1,g2,g3,g4⟩:=hg.2.2
 unfold Pt.In at h
 simp only[Rect.Fit,Pt.rect]
 omega
def z90 (a:Int):Txt:=(Utf8.encode (65+a)).data.toList
theorem ydb {a:Int} (h0:0≤a) (h1:a<9):(z90 a).length≤4:=by
 obtain ⟨n,rfl⟩:=Int.eq_ofNat_of_zero_le h0
 have:n=0∨n=1∨n=2∨n=3∨n=4∨n=5∨n=6∨n=7∨n=8:=by omega
 rcases this with rfl | rfl | rfl | rfl | rfl | rfl | rfl | rfl | rfl <;> decide +kernel
theorem z60 (lv:Bool):(if lv then [(104:UInt8)] else [118]).length=1:=by cases lv <;> rfl
def z91 (lv:Bool) (x y:Txt):Txt:=(if lv then [104] else [118])++x++y
theorem z00 {x:CT} (h:∀ a∈x.leaves,0≤a∧a<9):(x.fold z90 z91).length+1≤5*x.leaves.length:=by
 induction x with
 | leaf a=>have:=h a (by simp [CT.leaves]); have:=ydb this.1 this.2; simp only[CT.fold,CT.leaves,List.length_singleton]; omega
 | node lv x y h1 h2 =>
  have k1:=h1 fun a ha=>h a (by simp [CT.leaves,ha])
  have k2:=h2 fun a ha=>h a (by simp [CT.leaves,ha])
  have p1:=x.pos
  have p2:=y.pos
  have e:(if lv then [(104:UInt8)] else [118]).length=1:=z60 lv
  simp only[CT.fold,CT.leaves,z91,List.length_append,e] at *
  omega
theorem w32r {x:Int} (h1:0≤x) (h2:x<1000):IntKind.i32.wrap x=x:=by
 simp [IntKind.wrap,IntKind.bits,IntKind.signed]; omega
theorem zqn {p:List Txt} (hp:zbq p=true) {t:Pt} (hw:Whole (zal p) p.length (zam p).length t) {x:CT} (hx:zdl (zal p) t=some x):(∀ a∈x.leaves,0≤a∧a<(rP p).length)∧x.leaves.length≤9:=by
 obtain ⟨h1,h2,h3⟩:=zf4 (zh3 hp) _ hw (qR _) hx
 have hin:=hw.inn
 unfold Pt.In at hin
 have hb:∀ a∈x.leaves,0≤a∧a<(rP p).length:=by
  intro a ha
  obtain ⟨i,j,e1,e2,e3,e4,e5⟩:=(h2 a).1 ha
  have:=zek hp (i:=i) (j:=j) (by omega) (by omega)
  omega
 have:=zup h1 hb
 have:=(zj8 hp).1
 exact ⟨hb,by omega⟩
theorem zwv {p:List Txt} (hp:zbq p=true) {rf cf:FuncId} {rc cc:List PV} (hr9:∀ S,rc.mapM (reify S true 9)=some rc) (hr10:∀ S,rc.mapM (reify S true 10)=some rc) (hc9:∀ S,cc.mapM (reify S true 9)=some cc) (hc10:∀ S,cc.mapM (reify S true 10)=some cc)
  {room:Int→Txt} {cut:Bool→Txt→Txt→Txt} (hroom:∀ a:Int,0≤a→a<(rP p).length→PC Tryz.prog rf (.int .i64 a::rc) ((fun x:Txt=>PV.str x) (room a)) true)
  (hcut:∀ (t:Pt) q x y,Whole (zal p) p.length (zam p).length t→zec (zal p) t=some q→zdl (zal p) (t.one q)=some x→zdl (zal p) (t.two q)=some y→PC Tryz.prog cf (z1d (gP p) (rP p) t q::(fun x:Txt=>PV.str x) (x.fold room cut)::(fun x:Txt=>PV.str x) (y.fold room cut)::cc) ((fun x:Txt=>PV.str x) (cut q.1 (x.fold room cut) (y.fold room cut))) true) {t:Pt} (hw:Whole (zal p) p.length (zam p).length t) (ih:∀ t':Pt,Whole (zal p) p.length (zam p).length t'→t'.h*t'.w<t.h*t.w→PC Tryz.prog 133 [zik (gP p) (rP p) t'.rect,.fn rf rc,.fn cf cc] (zoy (fun x:Txt=>PV.str x) (.str []) room cut (zdl (zal p) t')) true):PC Tryz.prog 133 [zik (gP p) (rP p) t.rect,.fn rf rc,.fn cf cc] (zoy (fun x:Txt=>PV.str x) (.str []) room cut (zdl (zal p) t)) true:=by
 have hin:=hw.inn
 unfold Pt.In at hin
 obtain ⟨hn9,hfit⟩:=zj8 hp
 have hv:0≤zal p t.r t.c∧zal p t.r t.c<(rP p).length:=zek hp (by omega) (by omega)
 change PC _ _ [.agg [zax (gP p) (rP p),.int .i64 t.r,.int .i64 t.c,.int .i64 t.h,.int .i64 t.w],.fn rf rc,.fn cf cc] _ _
 refine PC.of ⟨Tryz.func133,by kernel_rfl,rfl,by kernel_rfl⟩ zar mixed (by show 3≤Tryz.f133.ntmps; decide) ?_
 refine W.r fun K hK=>?_
 simp(disch:=omega)only[↓RU,RV,RH,↓reduceIte,qE,reduceCtorEq,if_pos,↓RS,RG,qA,qM,qL,ty7,zcm,zbb,zaa,zcn,zbc]
 apply hK;clear hK K
 refine W.r fun K hK=>?_
 simp(disch:=omega)only[↓RU,RV,RH,↓reduceIte,qE,reduceCtorEq,if_pos,↓RS,RG,qA,qM,qL]
 apply hK;clear hK K
 refine W.seq ?_
 refine W.r fun K hK=>?_
 cases h1:zxh (zal p) t
 ·skip
  have hmore:=ya7 hp hw h1
  have hL:=z6z (gP p) (by omega) hfit (z2g hp hw.inn)
  simp(disch:=omega)only[↓RU,RV,RH,↓reduceIte,qE,reduceCtorEq,if_pos,qN,↓RS,RG,qA,qM,qL,ty7,zcm,zbb,zaa,zcn,zbc]
  refine zad.pc (hL) rfl (.inl rfl) ?_
  simp(disch:=omega)only[↓RU,RV,RH,↓reduceIte,qE,reduceCtorEq,if_pos,qN,↓RS,RG,qA,qM,qL,ty7,zcm,zbb,zaa,zcn,zbc]
  apply hK;clear hK K
  refine W.r fun K hK=>?_
  simp(disch:=omega)only[↓RU,RV,RH,↓reduceIte,qE,reduceCtorEq,if_pos,w64,↓RS,RG,qA,qM,qL,zab,zaa]
  apply hK;clear hK K
  refine W.cond rfl (fun h0=>?_) (fun h0=>?_)
  ·try simp only[RL]at h0
   exfalso; omega
  try simp only[RL]at h0
  refine W.skip ?_
  refine xn ?_
  refine W.r fun K hK=>?_
  rcases hq:zec (zal p) t with _ | q
  ·skip
   have hF:PC Tryz.prog 73 [zik (gP p) (rP p) t.rect] (.tup [.agg [.bool false,.nilp,.int .i64 0,.int .i64 0,.int .i64 0,.int .i64 0,.nilp,.int .i64 0,.int .i64 0,.int .i64 0,.int .i64 0],.bool false]) false:=by have h:=z1m hp hw.inn; simp only[zwu,hq]at h; exact h
   simp(disch:=omega)only[↓RU,RV,RH,↓reduceIte,qE,reduceCtorEq,if_pos,qN,↓RS,RG,qA,qM,qL,ty7,zah,zcm,zhi,zbb,zaa,zcn,zhj,zbc]
   refine zad.pc (hF) rfl (.inr rfl) ?_
   simp(disch:=omega)only[↓RU,RV,RH,↓reduceIte,qE,reduceCtorEq,if_pos,qN,↓RS,RG,qA,qM,qL,ty7,zah,zcm,zhi,zbb,zaa,zcn,zhj,zbc]
   apply hK;clear hK K
   refine W.seq ?_
   refine W.r fun K hK=>?_
   simp(disch:=omega)only[↓RU,RV,RH,↓reduceIte,qE,reduceCtorEq,if_pos,↓RS,RG,qA,qM,qL]
   apply hK;clear hK K
   refine W.cond rfl (fun h2=>?_) (fun h2=>?_)
   ·try simp only[RL]at h2
    refine W.r fun K hK=>?_
    simp(disch:=omega)only[↓RU,RV,RH,↓reduceIte,qE,reduceCtorEq,if_pos,↓RS,RG,qA,qM,qL]
    apply hK;clear hK K
    refine W.ret ?_
    refine XThen.ret ?_
    refine Br rfl ?_
    rw [zkf hw.inn h1 hq]
    rfl
   try simp only[RL]at h2
   exact absurd h2 (by simp)
  skip
  have hF:PC Tryz.prog 73 [zik (gP p) (rP p) t.rect] (.tup [.agg [.bool q.1,zax (gP p) (rP p),.int .i64 (t.one q).r,.int .i64 (t.one q).c,.int .i64 (t.one q).h,.int .i64 (t.one q).w,zax (gP p) (rP p),.int .i64 (t.two q).r,.int .i64 (t.two q).c,.int .i64 (t.two q).h,.int .i64 (t.two q).w],.bool true]) false:=by have h:=z1m hp hw.inn; simp only[zwu,hq]at h; exact h
  obtain ⟨i1,i2,a1,a2⟩:=hw.inn.cut hq
  obtain ⟨w1,w2⟩:=hw.cut (zh3 hp) hq
  simp(disch:=omega)only[↓RU,RV,RH,↓reduceIte,qE,reduceCtorEq,if_pos,qN,↓RS,RG,qA,qM,qL,ty7,zah,zcm,zhi,zbb,zaa,zcn,zhj,zbc]
  refine zad.pc (hF) rfl (.inr rfl) ?_
  simp(disch:=omega)only[↓RU,RV,RH,↓reduceIte,qE,reduceCtorEq,if_pos,qN,↓RS,RG,qA,qM,qL,ty7,zah,zcm,zhi,zbb,zaa,zcn,zhj,zbc]
  apply hK;clear hK K
  refine W.seq ?_
  refine W.r fun K hK=>?_
  simp(disch:=omega)only[↓RU,RV,RH,↓reduceIte,qE,reduceCtorEq,if_pos,↓RS,RG,qA,qM,qL]
  apply hK;clear hK K
  refine W.cond rfl (fun h2=>?_) (fun h2=>?_)
  ·try simp only[RL]at h2
   exact absurd h2 (by simp)
  try simp only[RL]at h2
  refine W.skip ?_
  refine xn ?_
  refine W.r fun K hK=>?_
  obtain hx1 | ⟨x1,hx1,hx2⟩ | ⟨x1,x2,hx1,hx2⟩:=z40 (zdl (zal p) (t.one q)) (zdl (zal p) (t.two q))
  ·skip
   have hI1:=ih (t.one q) w1 a1
   have hI2:=ih (t.two q) w2 a2
   simp only[zoy,hx1]at hI1
   obtain ⟨v2,b2,e2⟩:=zl1 (enc:=(fun x:Txt=>PV.str x)) (zero:=(.str [])) (room:=room) (cut:=cut) (zdl (zal p) (t.two q))
   rw [e2]at hI2
   simp(disch:=omega)only[↓RU,RV,RH,↓reduceIte,qE,reduceCtorEq,if_pos,qN,↓RS,RG,qA,qM,qL,ty7,zah,zcm,zhi,zbb,zaa,zcn,zhj,zbc]
   refine zad.pc (hI1) (zbz rfl (zbz (by rw [zev,hr9]; rfl) (zbz (by rw [zev,hc9]; rfl) rfl))) (.inl rfl) ?_
   simp(disch:=omega)only[↓RU,RV,RH,↓reduceIte,qE,reduceCtorEq,if_pos,qN,↓RS,RG,qA,qM,qL,ty7,zah,zcm,zhi,zbb,zaa,zcn,zhj,zbc]
   apply hK;clear hK K
   refine W.r fun K hK=>?_
   simp(disch:=omega)only[↓RU,RV,RH,↓reduceIte,qE,reduceCtorEq,if_pos,qN,↓RS,RG,qA,qM,qL,ty7,zah,zcm,zhi,zbb,zaa,zcn,zhj,zbc]
   refine zad.pc (hI2) (zbz rfl (zbz (by rw [zev,hr9]; rfl) (zbz (by rw [zev,hc9]; rfl) rfl))) (.inl rfl) ?_
   simp(disch:=omega)only[↓RU,RV,RH,↓reduceIte,qE,reduceCtorEq,if_pos,qN,↓RS,RG,qA,qM,qL,ty7,zah,zcm,zhi,zbb,zaa,zcn,zhj,zbc]
   apply hK;clear hK K
   refine W.seq ?_
   refine W.r fun K hK=>?_
   simp(disch:=omega)only[↓RU,RV,RH,↓reduceIte,qE,reduceCtorEq,if_pos,↓RS,RG,qA,qM,qL]
   apply hK;clear hK K
   refine W.cond rfl (fun h3=>?_) (fun h3=>?_)
   ·try simp only[RL]at h3
    refine W.r fun K hK=>?_
    simp(disch:=omega)only[↓RU,RV,RH,↓reduceIte,qE,reduceCtorEq,if_pos,↓RS,RG,qA,qM,qL]
    apply hK;clear hK K
    refine W.ret ?_
    refine XThen.ret ?_
    refine Br rfl ?_
    rw [zhh hw.inn h1 hq,hx1]
    rfl
   try simp only[RL]at h3
   exact absurd h3 (by simp)
  ·skip
   have hI1:=ih (t.one q) w1 a1
   have hI2:=ih (t.two q) w2 a2
   simp only[zoy,hx1]at hI1
   simp only[zoy,hx2]at hI2
   simp(disch:=omega)only[↓RU,RV,RH,↓reduceIte,qE,reduceCtorEq,if_pos,qN,↓RS,RG,qA,qM,qL,ty7,zah,zcm,zhi,zbb,zaa,zcn,zhj,zbc]
   refine zad.pc (hI1) (zbz rfl (zbz (by rw [zev,hr9]; rfl) (zbz (by rw [zev,hc9]; rfl) rfl))) (.inl rfl) ?_
   simp(disch:=omega)only[↓RU,RV,RH,↓reduceIte,qE,reduceCtorEq,if_pos,qN,↓RS,RG,qA,qM,qL,ty7,zah,zcm,zhi,zbb,zaa,zcn,zhj,zbc]
   apply hK;clear hK K
   refine W.r fun K hK=>?_
   simp(disch:=omega)only[↓RU,RV,RH,↓reduceIte,qE,reduceCtorEq,if_pos,qN,↓RS,RG,qA,qM,qL,ty7,zah,zcm,zhi,zbb,zaa,zcn,zhj,zbc]
   refine zad.pc (hI2) (zbz rfl (zbz (by rw [zev,hr9]; rfl) (zbz (by rw [zev,hc9]; rfl) rfl))) (.inl rfl) ?_
   simp(disch:=omega)only[↓RU,RV,RH,↓reduceIte,qE,reduceCtorEq,if_pos,qN,↓RS,RG,qA,qM,qL,ty7,zah,zcm,zhi,zbb,zaa,zcn,zhj,zbc]
   apply hK;clear hK K
   refine W.seq ?_
   refine W.r fun K hK=>?_
   simp(disch:=omega)only[↓RU,RV,RH,↓reduceIte,qE,reduceCtorEq,if_pos,↓RS,RG,qA,qM,qL]
   apply hK;clear hK K
   refine W.cond rfl (fun h3=>?_) (fun h3=>?_)
   ·try simp only[RL]at h3
    refine W.r fun K hK=>?_
    simp(disch:=omega)only[↓RU,RV,RH,↓reduceIte,qE,reduceCtorEq,if_pos,↓RS,RG,qA,qM,qL]
    apply hK;clear hK K
    refine W.ret ?_
    refine XThen.ret ?_
    refine Br rfl ?_
    rw [zhh hw.inn h1 hq,hx1,hx2]
    rfl
   try simp only[RL]at h3
   exact absurd h3 (by simp)
  skip
  have hI1:=ih (t.one q) w1 a1
  have hI2:=ih (t.two q) w2 a2
  simp only[zoy,hx1]at hI1
  simp only[zoy,hx2]at hI2
  simp(disch:=omega)only[↓RU,RV,RH,↓reduceIte,qE,reduceCtorEq,if_pos,qN,↓RS,RG,qA,qM,qL,ty7,zah,zcm,zhi,zbb,zaa,zcn,zhj,zbc]
  refine zad.pc (hI1) (zbz rfl (zbz (by rw [zev,hr9]; rfl) (zbz (by rw [zev,hc9]; rfl) rfl))) (.inl rfl) ?_
  simp(disch:=omega)only[↓RU,RV,RH,↓reduceIte,qE,reduceCtorEq,if_pos,qN,↓RS,RG,qA,qM,qL,ty7,zah,zcm,zhi,zbb,zaa,zcn,zhj,zbc]
  apply hK;clear hK K
  refine W.r fun K hK=>?_
  simp(disch:=omega)only[↓RU,RV,RH,↓reduceIte,qE,reduceCtorEq,if_pos,qN,↓RS,RG,qA,qM,qL,ty7,zah,zcm,zhi,zbb,zaa,zcn,zhj,zbc]
  refine zad.pc (hI2) (zbz rfl (zbz (by rw [zev,hr9]; rfl) (zbz (by rw [zev,hc9]; rfl) rfl))) (.inl rfl) ?_
  simp(disch:=omega)only[↓RU,RV,RH,↓reduceIte,qE,reduceCtorEq,if_pos,qN,↓RS,RG,qA,qM,qL,ty7,zah,zcm,zhi,zbb,zaa,zcn,zhj,zbc]
  apply hK;clear hK K
  refine W.seq ?_
  refine W.r fun K hK=>?_
  simp(disch:=omega)only[↓RU,RV,RH,↓reduceIte,qE,reduceCtorEq,if_pos,↓RS,RG,qA,qM,qL]
  apply hK;clear hK K
  refine W.cond rfl (fun h3=>?_) (fun h3=>?_)
  ·try simp only[RL]at h3
   exact absurd h3 (by simp)
  try simp only[RL]at h3
  refine W.skip ?_
  refine xn ?_
  refine W.r fun K hK=>?_
  simp(disch:=omega)only[↓RU,RV,RH,↓reduceIte,qE,reduceCtorEq,if_pos,qN,↓RS,RG,qA,qM,qL,ty7,zah,zcm,zhi,zbb,zaa,zcn,zhj,zbc]
  refine zad.pc (hcut t q x1 x2 hw hq hx1 hx2) (zbz rfl (zbz rfl (zbz rfl (hc10 _)))) (.inl rfl) ?_
  simp(disch:=omega)only[↓RU,RV,RH,↓reduceIte,qE,reduceCtorEq,if_pos,qN,↓RS,RG,qA,qM,qL,ty7,zah,zcm,zhi,zbb,zaa,zcn,zhj,zbc]
  apply hK;clear hK K
  refine W.ret ?_
  refine Br rfl ?_
  rw [zhh hw.inn h1 hq,hx1,hx2]
  rfl
 skip
 have hL:PC Tryz.prog 72 [zik (gP p) (rP p) t.rect] (.sl [.int .i64 (zal p t.r t.c)] 1) true:=by have h:=z6z (gP p) (by omega) hfit (z2g hp hw.inn); rw [yej hp hw h1]at h; exact h
 have hv:=zek hp (i:=t.r) (j:=t.c) (by omega) (by omega)
 simp(disch:=omega)only[↓RU,RV,RH,↓reduceIte,qE,reduceCtorEq,if_pos,qN,↓RS,RG,qA,qM,qL,ty7,zcm,zbb,zaa,zcn,zbc]
 refine zad.pc (hL) rfl (.inl rfl) ?_
 simp(disch:=omega)only[↓RU,RV,RH,↓reduceIte,qE,reduceCtorEq,if_pos,qN,↓RS,RG,qA,qM,qL,ty7,zcm,zbb,zaa,zcn,zbc]
 apply hK;clear hK K
 refine W.r fun K hK=>?_
 simp(disch:=omega)only[↓RU,RV,RH,↓reduceIte,qE,reduceCtorEq,if_pos,w64,↓RS,RG,qA,qM,qL,zab,zaa]
 apply hK;clear hK K
 refine W.cond rfl (fun h0=>?_) (fun h0=>?_)
 ·try simp only[RL]at h0
  refine W.r fun K hK=>?_
  simp(disch:=omega)only[↓RU,RV,RH,↓reduceIte,qE,reduceCtorEq,if_pos,qN,↓RS,RG,qA,qM,qL,zab,zaa,Int.toNat_zero,Nat.zero_mul,qZ,List.getElem?_cons_zero]
  refine zad.pc (hroom _ hv.1 hv.2) (zbz rfl (hr10 _)) (.inl rfl) ?_
  simp(disch:=omega)only[↓RU,RV,RH,↓reduceIte,qE,reduceCtorEq,if_pos,qN,↓RS,RG,qA,qM,qL,zab,zaa,Int.toNat_zero,Nat.zero_mul,qZ,List.getElem?_cons_zero]
  apply hK;clear hK K
  refine W.ret ?_
  refine XThen.ret ?_
  refine Br rfl ?_
  rw [zjr hw.inn h1]
  rfl
 try simp only[RL]at h0
 exact absurd h0 (by simp)
theorem zoe {p:List Txt} (hp:zbq p=true) {rf cf:FuncId} {rc cc:List PV} (hr9:∀ S,rc.mapM (reify S true 9)=some rc) (hr10:∀ S,rc.mapM (reify S true 10)=some rc) (hc9:∀ S,cc.mapM (reify S true 9)=some cc) (hc10:∀ S,cc.mapM (reify S true 10)=some cc)
  {room:Int→Txt} {cut:Bool→Txt→Txt→Txt} (hroom:∀ a:Int,0≤a→a<(rP p).length→PC Tryz.prog rf (.int .i64 a::rc) ((fun x:Txt=>PV.str x) (room a)) true)
  (hcut:∀ (t:Pt) q x y,Whole (zal p) p.length (zam p).length t→zec (zal p) t=some q→zdl (zal p) (t.one q)=some x→zdl (zal p) (t.two q)=some y→PC Tryz.prog cf (z1d (gP p) (rP p) t q::(fun x:Txt=>PV.str x) (x.fold room cut)::(fun x:Txt=>PV.str x) (y.fold room cut)::cc) ((fun x:Txt=>PV.str x) (cut q.1 (x.fold room cut) (y.fold room cut))) true):∀ (n:Nat) {t:Pt},t.h*t.w≤n→Whole (zal p) p.length (zam p).length t→PC Tryz.prog 133 [zik (gP p) (rP p) t.rect,.fn rf rc,.fn cf cc] (zoy (fun x:Txt=>PV.str x) (.str []) room cut (zdl (zal p) t)) true
 | 0,t,hn,hw=>by have:=Nat.mul_pos hw.inn.1 hw.inn.2.1; omega
 | n+1,t,hn,hw=>zwv hp hr9 hr10 hc9 hc10 hroom hcut hw fun t' hw' ha=>zoe hp hr9 hr10 hc9 hc10 hroom hcut n (by omega) hw'
theorem ybi {a:Int} (h0:0≤a) (h1:a<9):PC Tryz.prog 132 [.int .i64 a] (.str (z90 a)) true:=by
 refine PC.of ⟨Tryz.func132,by kernel_rfl,rfl,by kernel_rfl⟩ zar mixed (by show 1≤Tryz.f132.ntmps; decide) ?_
 refine W.r fun K hK=>?_
 simp(disch:=omega)only[↓RU,RV,RH,↓reduceIte,qE,reduceCtorEq,if_pos,w32r]
 apply hK;clear hK K
 refine W.r fun K hK=>?_
 simp(disch:=omega)only[↓RU,RV,RH,↓reduceIte,qE,reduceCtorEq,if_pos,w64,w64,zaa,ye1,zac,w32r]
 apply hK;clear hK K
 refine W.ret ?_
 refine Br rfl ?_
 rfl
theorem z6x (g:List (List Int)) (rs:List Rect) (lv:Bool) (a b:Rect):PC Tryz.prog 135 [.agg (zq4 g rs lv a b)] (.str (if lv then [104] else [118])) true:=by
 simp only[zq4,Rect.cells]
 refine PC.of ⟨Tryz.func135,by kernel_rfl,rfl,by kernel_rfl⟩ zar mixed (by show 1≤Tryz.f135.ntmps; decide) ?_
 refine W.r fun K hK=>?_
 simp(disch:=omega)only[↓RU,RV,RH,↓reduceIte,qE,reduceCtorEq,if_pos,↓RS,RG,qA,qM,qL,ty7,zah,zcm,zhi,zbb,zaa,zcn,zhj,zbc]
 apply hK;clear hK K
 refine W.seq ?_
 refine W.r fun K hK=>?_
 simp(disch:=omega)only[↓RU,RV,RH,↓reduceIte,qE,reduceCtorEq,if_pos,↓RS,RG,qA,qM,qL,ty7,zah,zcm,zhi,zbb,zaa,zcn,zhj,zbc]
 apply hK;clear hK K
 refine W.cond rfl (fun h0=>?_) (fun h0=>?_)
 ·try simp only[RL]at h0
  refine W.r fun K hK=>?_
  simp(disch:=omega)only[↓RU,RV,RH,↓reduceIte,qE,reduceCtorEq,if_pos,↓RS,RG,qA,qM,qL]
  apply hK;clear hK K
  refine W.ret ?_
  refine XThen.ret ?_
  refine Br rfl ?_
  subst h0
  rfl
 try simp only[RL]at h0
 refine W.skip ?_
 refine xn ?_
 refine W.r fun K hK=>?_
 simp(disch:=omega)only[↓RU,RV,RH,↓reduceIte,qE,reduceCtorEq,if_pos,↓RS,RG,qA,qM,qL]
 apply hK;clear hK K
 refine W.ret ?_
 refine Br rfl ?_
 subst h0
 rfl
theorem z26 {lv:Bool} {b:List UInt8} (h:b.length+1≤9223372036854775807):zvy .add (if lv then [104] else [118]) b=some (.str ((if lv then [104] else [118])++b)):=if_pos (by rw [z60]; omega)
theorem z27 {lv:Bool} {b d:List UInt8} (h:b.length+1+d.length≤9223372036854775807):zvy .add ((if lv then [104] else [118])++b) d=some (.str ((if lv then [104] else [118])++b++d)):=if_pos (by rw [List.length_append,z60]; omega)
theorem ybj (g:List (List Int)) (rs:List Rect) (lv:Bool) (a b:Rect) {x y:Txt} (hx:x.length≤10000) (hy:y.length≤10000):PC Tryz.prog 134 [.agg (zq4 g rs lv a b),.str x,.str y] (.str (z91 lv x y)) true:=by
 have hL:=z6x g rs lv a b
 simp only[zq4,Rect.cells]at hL ⊢
 skip
 refine PC.of ⟨Tryz.func134,by kernel_rfl,rfl,by kernel_rfl⟩ zar mixed (by show 3≤Tryz.f134.ntmps; decide) ?_
 refine W.r fun K hK=>?_
 simp(disch:=omega)only[↓RU,RV,RH,↓reduceIte,qE,reduceCtorEq,if_pos,↓RS,RG,qA,qM,qL,ty7,zah,zcm,zhi,zbb,zaa,zcn,zhj,zbc]
 apply hK;clear hK K
 refine W.r fun K hK=>?_
 simp(disch:=omega)only[↓RU,RV,RH,↓reduceIte,qE,reduceCtorEq,if_pos,qN,w64,↓RS,RG,qA,qM,qL,ty7,zah,zcm,zhi,zbb,zaa,zac,zcn,zhj,zbc,z26,z27]
 refine zad.pc (hL) rfl (.inl rfl) ?_
 simp(disch:=omega)only[↓RU,RV,RH,↓reduceIte,qE,reduceCtorEq,if_pos,qN,w64,↓RS,RG,qA,qM,qL,ty7,zah,zcm,zhi,zbb,zaa,zac,zcn,zhj,zbc,z26,z27]
 apply hK;clear hK K
 refine W.ret ?_
 refine Br rfl ?_
 rfl
theorem zzj {p:List Txt} (hp:zbq p=true):PC Tryz.prog 101 [zik (gP p) (rP p) (zm8 p).rect] (zoy (fun x:Txt=>PV.str x) (.str []) z90 z91 (zdl (zal p) (zm8 p))) true:=by
 have hT:PC Tryz.prog 133 [zik (gP p) (rP p) (zm8 p).rect,.fn 132 [],.fn 134 []] (zoy (fun x:Txt=>PV.str x) (.str []) z90 z91 (zdl (zal p) (zm8 p))) true:=by
  refine zoe hp (rf:=132) (cf:=134) (rc:=[]) (cc:=[]) (fun _=>rfl) (fun _=>rfl) (fun _=>rfl) (fun _=>rfl) (fun a h1 h2=>ybi h1 (by have:=(zj8 hp).1; omega)) (fun t q x y hw hq hx hy=>?_) _ (qR _) (zrv hp)
  obtain ⟨w1,w2⟩:=hw.cut (zh3 hp) hq
  have b1:=zqn hp w1 hx
  have b2:=zqn hp w2 hy
  have n9:=(zj8 hp).1
  have c1:=z00 (x:=x) fun a ha=>by have:=b1.1 a ha; omega
  have c2:=z00 (x:=y) fun a ha=>by have:=b2.1 a ha; omega
  exact ybj (gP p) (rP p) q.1 (t.one q).rect (t.two q).rect (by omega) (by omega)
 obtain ⟨v2,b2,e2⟩:=zl1 (enc:=fun x:Txt=>PV.str x) (zero := .str []) (room:=z90) (cut:=z91) (zdl (zal p) (zm8 p))
 have hs:∃ s:Txt,v2 = .str s:=by cases h:(zdl (zal p) (zm8 p)) <;> rw [h]at e2 <;> cases e2 <;> exact ⟨_,rfl⟩
 obtain ⟨s,rfl⟩:=hs
 rw [e2]at hT ⊢
 simp only[zik,Pt.rect,Rect.cells]at hT ⊢
 refine PC.of ⟨Tryz.func101,by kernel_rfl,rfl,by kernel_rfl⟩ zar mixed (by show 1≤Tryz.f101.ntmps; decide) ?_
 refine W.r fun K hK=>?_
 simp(disch:=omega)only[↓RU,RV,RH,↓reduceIte,qE,reduceCtorEq,if_pos,↓RS,RG,qA,qM,qL,ty7,zcm,zbb,zaa,zcn,zbc]
 apply hK;clear hK K
 refine W.r fun K hK=>?_
 simp(disch:=omega)only[↓RU,RV,RH,↓reduceIte,qE,reduceCtorEq,if_pos,↓RS,RG,qA,qM,qL]
 apply hK;clear hK K
 refine W.r fun K hK=>?_
 simp(disch:=omega)only[↓RU,RV,RH,↓reduceIte,qE,reduceCtorEq,if_pos,qN,↓RS,RG,qA,qM,qL,ty7,zcm,zbb,zaa,zcn,zbc]
 refine zad.pc (hT) rfl (.inl rfl) ?_
 simp(disch:=omega)only[↓RU,RV,RH,↓reduceIte,qE,reduceCtorEq,if_pos,qN,↓RS,RG,qA,qM,qL,ty7,zcm,zbb,zaa,zcn,zbc]
 apply hK;clear hK K
 refine W.ret ?_
 refine Br rfl ?_
 rfl
theorem z9j {p:List Txt} (hp:zbq p=true):PC Tryz.prog 35 [zax (gP p) (rP p)] (zik (gP p) (rP p) (zm8 p).rect) false:=by
 have hg:=zq6 hp
 obtain ⟨row,h1,h2,-⟩:=hg.at_ (i:=0) (j:=0) (by have:=hg.2.2; omega) (by have:=hg.2.2; omega)
 have h:=ybv h1 (rP p)
 rw [hg.1,h2]at h
 exact h
theorem z3i {p:List Txt} (hs:Sm p):PC Tryz.prog 54 [zaq p] (zoy (fun x:Txt=>PV.str x) (.str []) z90 z91 (if zbq p then (zdl (zal p) (zm8 p)) else none)) true:=by
 obtain ⟨x,hx,hxy,hxr⟩:=znh hs
 rw [zel]at hx hxy
 refine PC.of ⟨Tryz.func54,by kernel_rfl,rfl,by kernel_rfl⟩ zar mixed (by show 1≤Tryz.f54.ntmps; decide) ?_
 refine W.r fun K hK=>?_
 simp(disch:=omega)only[↓RU,RV,RH,↓reduceIte,qE,reduceCtorEq,if_pos,↓RS,RG,qA,qM,qL]
 apply hK;clear hK K
 refine W.r fun K hK=>?_
 simp(disch:=omega)only[↓RU,RV,RH,↓reduceIte,qE,reduceCtorEq,if_pos,qN,↓RS,RG,qA,qM,qL]
 refine zad.pc (hx) rfl (.inr rfl) ?_
 simp(disch:=omega)only[↓RU,RV,RH,↓reduceIte,qE,reduceCtorEq,if_pos,qN,↓RS,RG,qA,qM,qL]
 apply hK;clear hK K
 refine W.seq ?_
 refine W.r fun K hK=>?_
 simp(disch:=omega)only[↓RU,RV,RH,↓reduceIte,qE,reduceCtorEq,if_pos,↓RS,RG,qA,qM,qL]
 apply hK;clear hK K
 refine W.cond rfl (fun h0=>?_) (fun h0=>?_)
 ·skip
  have hp:zbq p=false:=by simpa using h0
  refine W.r fun K hK=>?_
  simp(disch:=omega)only[↓RU,RV,RH,↓reduceIte,qE,reduceCtorEq,if_pos,↓RS,RG,qA,qM,qL]
  apply hK;clear hK K
  refine W.ret ?_
  refine XThen.ret ?_
  refine Br rfl ?_
  rw [hp]
  rfl
 skip
 have hp:zbq p=true:=by simpa using h0
 obtain rfl:=hxy hp
 have hT:=zzj hp
 obtain ⟨v2,b2,e2⟩:=zl1 (enc:=fun x:Txt=>PV.str x) (zero := .str []) (room:=z90) (cut:=z91) (zdl (zal p) (zm8 p))
 have hs2:∃ s:Txt,v2 = .str s:=by cases h:(zdl (zal p) (zm8 p)) <;> rw [h]at e2 <;> cases e2 <;> exact ⟨_,rfl⟩
 obtain ⟨s,rfl⟩:=hs2
 rw [e2]at hT
 refine W.skip ?_
 refine xn ?_
 refine W.r fun K hK=>?_
 simp(disch:=omega)only[↓RU,RV,RH,↓reduceIte,qE,reduceCtorEq,if_pos,qN,↓RS,RG,qA,qM,qL]
 refine zad.pc (z9j hp) rfl (.inr rfl) ?_
 simp(disch:=omega)only[↓RU,RV,RH,↓reduceIte,qE,reduceCtorEq,if_pos,qN,↓RS,RG,qA,qM,qL]
 refine zad.pc (hT) rfl (.inl rfl) ?_
 simp(disch:=omega)only[↓RU,RV,RH,↓reduceIte,qE,reduceCtorEq,if_pos,qN,↓RS,RG,qA,qM,qL]
 apply hK;clear hK K
 refine W.ret ?_
 refine Br rfl ?_
 rw [hp,if_pos rfl,e2]
 rfl
theorem z08 {p:List Txt} (hs:Sm p):PC Tryz.prog 15 [zaq p] (.bool (z96 p)) true:=by
 have hT:=z3i hs
 obtain ⟨v2,b2,e2⟩:=zl1 (enc:=fun x:Txt=>PV.str x) (zero := .str []) (room:=z90) (cut:=z91) (if zbq p then (zdl (zal p) (zm8 p)) else none)
 have hb:b2=z96 p:=by
  unfold z96
  cases hp:zbq p with
  | false=>rw [hp]at e2; cases e2; rfl
  | true=>rw [hp]at e2; cases h:(zdl (zal p) (zm8 p)) <;> simp only[if_true,h]at e2 <;> cases e2 <;> rfl
 rw [e2]at hT
 refine PC.of ⟨Tryz.func15,by kernel_rfl,rfl,by kernel_rfl⟩ zar mixed (by show 1≤Tryz.f15.ntmps; decide) ?_
 refine W.r fun K hK=>?_
 simp(disch:=omega)only[↓RU,RV,RH,↓reduceIte,qE,reduceCtorEq,if_pos]
 apply hK;clear hK K
 refine W.r fun K hK=>?_
 simp(disch:=omega)only[↓RU,RV,RH,↓reduceIte,qE,reduceCtorEq,if_pos,qN]
 refine zad.pc (hT) rfl (.inl rfl) ?_
 simp(disch:=omega)only[↓RU,RV,RH,↓reduceIte,qE,reduceCtorEq,if_pos,qN]
 apply hK;clear hK K
 refine W.r fun K hK=>?_
 simp(disch:=omega)only[↓RU,RV,RH,↓reduceIte,qE,reduceCtorEq,if_pos]
 apply hK;clear hK K
 refine W.ret ?_
 refine Br rfl ?_
 rw [← hb]
 rfl
theorem yf3 {p:List Txt}:zw6 (gP p) p.length (w0 (zb5 p)) (rP p).length=lfM p:=by rw [zf5]; rfl
theorem yfe {p:List Txt}:zn0 (gP p) p.length (w0 (zb5 p)) (rP p).length=abM p:=by rw [zf5]; rfl
theorem ycm {p:List Txt} (h:zdi p=true):Sq (rP p).length (lfM p):=by
 obtain ⟨-,⟨_,hu⟩,-⟩:=zuy h
 rw [yf3]at hu; exact hu.sq
theorem yb4 {p:List Txt} (h:zdi p=true):Sq (rP p).length (abM p):=by
 obtain ⟨-,-,⟨_,hu⟩⟩:=zuy h
 rw [yfe]at hu; exact hu.sq
theorem zz1 {p:List Txt} (hs:Sm p) (hv:zdi p=false):PC Tryz.prog 94 [zaq p] (.tup [.agg [.sl [] 0,.sl [] 0],.bool false]) false:=by
 obtain ⟨x,hx,hxy,hxr⟩:=ztb hs
 refine PC.of ⟨Tryz.func94,by kernel_rfl,rfl,by kernel_rfl⟩ zar mixed (by show 1≤Tryz.f94.ntmps; decide) ?_
 refine W.r fun K hK=>?_
 simp(disch:=omega)only[↓RU,RV,RH,↓reduceIte,qE,reduceCtorEq,if_pos,↓RS,RG,qA,qM,qL,ty0,ty2,zah,zgy,ze2,zgz]
 apply hK;clear hK K
 refine W.r fun K hK=>?_
 simp(disch:=omega)only[↓RU,RV,RH,↓reduceIte,qE,reduceCtorEq,if_pos,qN,↓RS,RG,qA,qM,qL,hv]
 refine zad.pc (hx) rfl (.inr rfl) ?_
 simp(disch:=omega)only[↓RU,RV,RH,↓reduceIte,qE,reduceCtorEq,if_pos,qN,↓RS,RG,qA,qM,qL,hv]
 apply hK;clear hK K
 refine W.seq ?_
 refine W.r fun K hK=>?_
 simp(disch:=omega)only[↓RU,RV,RH,↓reduceIte,qE,reduceCtorEq,if_pos,↓RS,RG,qA,qM,qL]
 apply hK;clear hK K
 refine W.cond rfl (fun h=>?_) (fun h=>?_)
 ·try simp only[RL]at h
  refine W.r fun K hK=>?_
  simp(disch:=omega)only[↓RU,RV,RH,↓reduceIte,qE,reduceCtorEq,if_pos,↓RS,RG,qA,qM,qL,ty0,ty2,zah,zgy,ze2,zgz]
  apply hK;clear hK K
  refine W.ret ?_
  refine XThen.ret ?_
  refine Br rfl ?_
  rfl
 try simp only[RL]at h
 exact absurd h (by simp)
theorem zxk {p:List Txt} (hs:Sm p) (hv:zdi p=true):PC Tryz.prog 94 [zaq p] (.tup [(.agg [zhp (lfM p),zhp (abM p)]),.bool true]) false:=by
 obtain ⟨x,hx,hxy,hxr⟩:=ztb hs
 obtain rfl:=hxy hv
 obtain ⟨hrm,-,-⟩:=zuy hv
 have hok:=(zmi hv).1
 have hg:=zxg hok
 have hn9:=zjg hok
 have hn1:=zj2 hok
 refine PC.of ⟨Tryz.func94,by kernel_rfl,rfl,by kernel_rfl⟩ zar mixed (by show 1≤Tryz.f94.ntmps; decide) ?_
 refine W.r fun K hK=>?_
 simp(disch:=omega)only[↓RU,RV,RH,↓reduceIte,qE,reduceCtorEq,if_pos,↓RS,RG,qA,qM,qL,ty0,ty2,zah,zgy,ze2,zgz]
 apply hK;clear hK K
 refine W.r fun K hK=>?_
 simp(disch:=omega)only[↓RU,RV,RH,↓reduceIte,qE,reduceCtorEq,if_pos,qN,↓RS,RG,qA,qM,qL,hv]
 refine zad.pc (hx) rfl (.inr rfl) ?_
 simp(disch:=omega)only[↓RU,RV,RH,↓reduceIte,qE,reduceCtorEq,if_pos,qN,↓RS,RG,qA,qM,qL,hv]
 apply hK;clear hK K
 refine W.seq ?_
 refine W.r fun K hK=>?_
 simp(disch:=omega)only[↓RU,RV,RH,↓reduceIte,qE,reduceCtorEq,if_pos,↓RS,RG,qA,qM,qL]
 apply hK;clear hK K
 refine W.cond rfl (fun h=>?_) (fun h=>?_)
 ·try simp only[RL]at h
  exact absurd h (by simp)
 try simp only[RL]at h
 refine W.skip ?_
 refine xn ?_
 refine W.r fun K hK=>?_
 simp(disch:=omega)only[↓RU,RV,RH,↓reduceIte,qE,reduceCtorEq,if_pos,qN,↓RS,RG,qA,qM,qL,ty0,ty2,zah,zgy,ze2,zgz]
 refine zad.pc (z7l hg rfl hn9 hrm) rfl (.inl rfl) ?_
 simp(disch:=omega)only[↓RU,RV,RH,↓reduceIte,qE,reduceCtorEq,if_pos,qN,↓RS,RG,qA,qM,qL,ty0,ty2,zah,zgy,ze2,zgz]
 apply hK;clear hK K
 refine W.ret ?_
 refine Br rfl ?_
 rw [yf3,yfe]
 rfl
theorem z3r {F R:List Ob} {ver t:Nat} {l:List Int} {f:FuncId} {cs:List PV} {cm:Int→Int→Int} {g:Int→Int} (hf:∀ x y,x∈l→y∈l→PC Tryz.prog f [.int .i64 x,.int .i64 y,.ip cs 0] (.int .i64 (cm x y)) true) (hg:∀ x y,x∈l→y∈l→(cm x y<0↔g x<g y)) (hl:l.length<2147483648) (h1:1≤l.length):Ev Tryz.prog 180 [.loc F.length ver 0 l.length,.int .i64 0,.int .i64 l.length,.fn f [.ip cs 0]] ⟨F ++ .arr ver 3 1 (l.map (.int .i64))::R,t⟩ fun v S=>v = .tup []∧∃ z:List Int,z.Perm l∧(z.map g).Pairwise (· ≤ ·)∧S=⟨F ++ .arr ver 3 1 (z.map (.int .i64))::R,t⟩:=by
 refine Ev.of ⟨Tryz.func180,by kernel_rfl,rfl,by kernel_rfl⟩ zar mixed (by show 4≤Tryz.f180.ntmps; decide) ?_
 refine W.r fun K hK=>?_
 simp(disch:=omega)only[↓RU,RV,RH,↓reduceIte,qE,reduceCtorEq,if_pos,w64,↓RS,RG,qA,qM,qL,zaa,gF,zd4]
 apply hK;clear hK K
 refine W.block ?_
 refine W.loop [0,1,2,3,8] (fun n vs S=>∃ (i:Nat) (c:List Int),n=l.length - i∧1≤i∧i≤l.length∧c.Perm l∧Ord (c.map g) i∧vs=[.loc F.length ver 0 l.length,.int .i64 0,.int .i64 l.length,.fn f [.ip cs 0],.int .i64 i]∧S=⟨F ++ .arr ver 3 1 (c.map (.int .i64))::R,t⟩) (l.length - 1) ?_ ?_
 ·refine ⟨_,1,l,rfl,qR _,h1,List.Perm.refl _,Ord.one _,?_,zak⟩
  simp [Env.put,Env.of,zae]
 rintro n vs S - ⟨i,c,rfl,hi1,h_i,hp,ho,rfl,rfl⟩
 refine W.seq ?_
 refine W.r fun K hK=>?_
 simp(disch:=omega)only[↓RU,RV,RH,↓reduceIte,qE,reduceCtorEq,if_pos,w64,↓RS,RG,qA,qM,qL,zaa,gF,zd4]
 apply hK;clear hK K
 refine W.cond rfl (fun h=>?_) (fun h=>?_)
 ·try simp only[RL]at h
  refine W.skip ?_
  refine xn ?_
  refine W.seq ?_
  refine W.block ?_
  refine W.r fun K hK=>?_
  simp(disch:=omega)only[↓RU,RV,RH,↓reduceIte,qE,reduceCtorEq,if_pos,↓RS,RG,qA,qM,qL,gF,zd4]
  apply hK;clear hK K
  refine W.block ?_
  refine W.loop [0,1,2,3,8,9] (fun n vs S=>∃ (j:Nat) (d:List Int),n=j+1∧j≤i∧d.Perm l∧z9m (d.map g) j i∧vs=[.loc F.length ver 0 l.length,.int .i64 0,.int .i64 l.length,.fn f [.ip cs 0],.int .i64 i,.int .i64 j]∧S=⟨F ++ .arr ver 3 1 (d.map (.int .i64))::R,t⟩) (i+1) ?_ ?_
  ·refine ⟨_,i,c,rfl,qR _,hp,ho.ins,?_,zak⟩
   simp [Env.put,Env.of]
  rintro n vs S - ⟨j,d,rfl,h_j,hq,hO,rfl,rfl⟩
  refine W.seq ?_
  refine W.seq_draw (by kernel_rfl) fun K hK=>?_
  cases hd:decide ((j:Int)>0)
  ·skip
   obtain rfl:j=0:=by simpa using hd
   simp(disch:=omega)only[↓RU,RV,RH,↓reduceIte,qE,reduceCtorEq,if_pos,w64,qN,↓RS,RG,qA,qM,qL,zab,zaa,gF,zd4,hd]
   apply hK;clear hK K
   refine W.cond rfl (fun h2=>?_) (fun h2=>?_)
   ·try simp only[RL]at h2
    exact absurd h2 (by simp)
   try simp only[RL]at h2
   have hO2:Ord (d.map g) (i+1):=hO.zero
   refine W.exit ?_
   refine xe ?_
   refine xe ?_
   refine XBlock.hit ?_
   refine XbN ?_
   refine xn ?_
   refine W.k fun K hK=>?_
   simp(disch:=omega)only[↓RU,RV,RH,↓reduceIte,qE,reduceCtorEq,if_pos,w64,↓RS,RG,qA,qM,qL,zaa,gF,zd4]
   apply hK;clear hK K
   refine xn ?_
   refine ⟨l.length - (i+1),by omega,_,i+1,d,rfl,by omega,by omega,hq,hO2,?_,zak⟩
   simp [Env.put,Env.of]
  ·skip
   have hj0:j≠0:=by have:=of_decide_eq_true hd; omega
   have hdl:=hq.length_eq
   obtain ⟨x,hx,hxm⟩:=zag (show j<d.length by omega)
   obtain ⟨y,hy,hym⟩:=zag (show j - 1<d.length by omega)
   have hxl:=hq.mem_iff.1 hxm
   have hyl:=hq.mem_iff.1 hym
   have hxg:(d.map g)[j]?=some (g x):=by rw [List.getElem?_map,hx]; rfl
   have hyg:(d.map g)[j - 1]?=some (g y):=by rw [List.getElem?_map,hy]; rfl
   simp(disch:=omega)only[↓RU,RV,RH,↓reduceIte,qE,reduceCtorEq,if_pos,w64,qN,↓RS,RG,qA,qM,qL,zab,zaa,gF,zd4,hd,hx,hy,zbl]
   refine zad.pc (hf x y hxl hyl) rfl (.inl rfl) ?_
   simp(disch:=omega)only[↓RU,RV,RH,↓reduceIte,qE,reduceCtorEq,if_pos,w64,qN,↓RS,RG,qA,qM,qL,zab,zaa,gF,zd4,hd,hx,hy,zbl]
   apply hK;clear hK K
   refine W.cond rfl (fun h2=>?_) (fun h2=>?_)
   ·try simp only[RL]at h2
    have hjl:=zb7 hx
    have hsl:(d.set j y).length=d.length:=by simp
    refine W.skip ?_
    refine xn ?_
    refine W.seq ?_
    refine W.block ?_
    refine W.draw_k (by kernel_rfl) fun K hK=>?_
    simp(disch:=omega)only[↓RU,RV,RH,↓reduceIte,qE,reduceCtorEq,if_pos,w64,↓RS,RG,qA,qM,qL,zab,zaa,gF,zd4,hx,hy,zbl,zb0,zdt,List.length_set]
    apply hK;clear hK K
    refine XbN ?_
    refine xn ?_
    refine W.k fun K hK=>?_
    simp(disch:=omega)only[↓RU,RV,RH,↓reduceIte,qE,reduceCtorEq,if_pos,w64,↓RS,RG,qA,qM,qL,zaa,gF,zd4]
    apply hK;clear hK K
    refine xn ?_
    refine ⟨j - 1+1,by omega,_,j - 1,(d.set j y).set (j - 1) x,rfl,by omega,zyw hq hx hy,by rw [List.map_set,List.map_set]; exact hO.swap hj0 h_j hxg hyg ((hg x y hxl hyl).1 h2),?_,zak⟩
    simp [Env.put,Env.of]; omega
   try simp only[RL]at h2
   have hO2:Ord (d.map g) (i+1):=hO.stop hxg hyg (fun q=>h2 ((hg x y hxl hyl).2 q))
   refine W.exit ?_
   refine xe ?_
   refine xe ?_
   refine XBlock.hit ?_
   refine XbN ?_
   refine xn ?_
   refine W.k fun K hK=>?_
   simp(disch:=omega)only[↓RU,RV,RH,↓reduceIte,qE,reduceCtorEq,if_pos,w64,↓RS,RG,qA,qM,qL,zaa,gF,zd4]
   apply hK;clear hK K
   refine xn ?_
   refine ⟨l.length - (i+1),by omega,_,i+1,d,rfl,by omega,by omega,hq,hO2,?_,zak⟩
   simp [Env.put,Env.of]
 try simp only[RL]at h
 obtain rfl:l.length=i:=by omega
 refine W.exit ?_
 refine xe ?_
 refine xe ?_
 refine XBlock.hit ?_
 refine zfs.norm rfl ?_
 exact ⟨_,rfl,c,hp,(by rw [← hp.length_eq]at ho; exact Ord.pair (by rw [List.length_map]; exact ho)),zak⟩
theorem ydx  : PC Tryz.prog 163 [.int .u64 1] (.int .i64 1) true:=by
 refine PC.of ⟨Tryz.func163,by kernel_rfl,rfl,by kernel_rfl⟩ zar mixed (by show 1≤Tryz.f163.ntmps; decide) ?_
 refine W.r fun K hK=>?_
 simp(disch:=omega)only[↓RU,RV,RH,↓reduceIte,qE,reduceCtorEq,if_pos]
 apply hK;clear hK K
 refine W.seq ?_
 refine W.r fun K hK=>?_
 simp(disch:=omega)only[↓RU,RV,RH,↓reduceIte,qE,reduceCtorEq,if_pos,w64,zif]
 apply hK;clear hK K
 refine W.cond rfl (fun h=>?_) (fun h=>?_)
 ·try simp only[RL]at h
  exact absurd h (by decide)
 try simp only[RL]at h
 refine W.skip ?_
 refine xn ?_
 refine W.seq ?_
 refine W.r fun K hK=>?_
 simp(disch:=omega)only[↓RU,RV,RH,↓reduceIte,qE,reduceCtorEq,if_pos,w64,zif]
 apply hK;clear hK K
 refine W.cond rfl (fun h1=>?_) (fun h1=>?_)
 ·try simp only[RL]at h1
  exact absurd h1 (by decide)
 try simp only[RL]at h1
 refine W.skip ?_
 refine xn ?_
 refine W.seq ?_
 refine W.r fun K hK=>?_
 simp(disch:=omega)only[↓RU,RV,RH,↓reduceIte,qE,reduceCtorEq,if_pos,w64,zif]
 apply hK;clear hK K
 refine W.cond rfl (fun h2=>?_) (fun h2=>?_)
 ·try simp only[RL]at h2
  exact absurd h2 (by decide)
 try simp only[RL]at h2
 refine W.skip ?_
 refine xn ?_
 refine W.r fun K hK=>?_
 simp(disch:=omega)only[↓RU,RV,RH,↓reduceIte,qE,reduceCtorEq,if_pos,w64,w64,zaa,zac,zif,zei]
 apply hK;clear hK K
 refine W.ret ?_
 refine Br rfl ?_
 rfl
theorem yg5  : PC Tryz.prog 137 [.int .u64 1] (.int .i64 1) true:=by
 refine PC.of ⟨Tryz.func137,by kernel_rfl,rfl,by kernel_rfl⟩ zar mixed (by show 1≤Tryz.f137.ntmps; decide) ?_
 refine W.r fun K hK=>?_
 simp(disch:=omega)only[↓RU,RV,RH,↓reduceIte,qE,reduceCtorEq,if_pos]
 apply hK;clear hK K
 refine W.seq ?_
 refine W.cond rfl (fun h=>?_) (fun h=>?_)
 ·try simp only[RL]at h
  exact absurd h (by decide)
 try simp only[RL]at h
 refine W.skip ?_
 refine xn ?_
 refine W.r fun K hK=>?_
 simp(disch:=omega)only[↓RU,RV,RH,↓reduceIte,qE,reduceCtorEq,if_pos,qN]
 refine zad.pc (ydx) rfl (.inl rfl) ?_
 simp(disch:=omega)only[↓RU,RV,RH,↓reduceIte,qE,reduceCtorEq,if_pos,qN]
 apply hK;clear hK K
 refine W.ret ?_
 refine Br rfl ?_
 rfl
theorem ydy  : PC Tryz.prog 163 [.int .u64 2] (.int .i64 2) true:=by
 refine PC.of ⟨Tryz.func163,by kernel_rfl,rfl,by kernel_rfl⟩ zar mixed (by show 1≤Tryz.f163.ntmps; decide) ?_
 refine W.r fun K hK=>?_
 simp(disch:=omega)only[↓RU,RV,RH,↓reduceIte,qE,reduceCtorEq,if_pos]
 apply hK;clear hK K
 refine W.seq ?_
 refine W.r fun K hK=>?_
 simp(disch:=omega)only[↓RU,RV,RH,↓reduceIte,qE,reduceCtorEq,if_pos,w64,zif]
 apply hK;clear hK K
 refine W.cond rfl (fun h=>?_) (fun h=>?_)
 ·try simp only[RL]at h
  exact absurd h (by decide)
 try simp only[RL]at h
 refine W.skip ?_
 refine xn ?_
 refine W.seq ?_
 refine W.r fun K hK=>?_
 simp(disch:=omega)only[↓RU,RV,RH,↓reduceIte,qE,reduceCtorEq,if_pos,w64,zif]
 apply hK;clear hK K
 refine W.cond rfl (fun h1=>?_) (fun h1=>?_)
 ·try simp only[RL]at h1
  exact absurd h1 (by decide)
 try simp only[RL]at h1
 refine W.skip ?_
 refine xn ?_
 refine W.seq ?_
 refine W.r fun K hK=>?_
 simp(disch:=omega)only[↓RU,RV,RH,↓reduceIte,qE,reduceCtorEq,if_pos,w64,zif]
 apply hK;clear hK K
 refine W.cond rfl (fun h2=>?_) (fun h2=>?_)
 ·try simp only[RL]at h2
  exact absurd h2 (by decide)
 try simp only[RL]at h2
 refine W.skip ?_
 refine xn ?_
 refine W.r fun K hK=>?_
 simp(disch:=omega)only[↓RU,RV,RH,↓reduceIte,qE,reduceCtorEq,if_pos,w64,w64,zaa,zac,zif,zei]
 apply hK;clear hK K
 refine W.ret ?_
 refine Br rfl ?_
 rfl
theorem yg6  : PC Tryz.prog 137 [.int .u64 2] (.int .i64 2) true:=by
 refine PC.of ⟨Tryz.func137,by kernel_rfl,rfl,by kernel_rfl⟩ zar mixed (by show 1≤Tryz.f137.ntmps; decide) ?_
 refine W.r fun K hK=>?_
 simp(disch:=omega)only[↓RU,RV,RH,↓reduceIte,qE,reduceCtorEq,if_pos]
 apply hK;clear hK K
 refine W.seq ?_
 refine W.cond rfl (fun h=>?_) (fun h=>?_)
 ·try simp only[RL]at h
  exact absurd h (by decide)
 try simp only[RL]at h
 refine W.skip ?_
 refine xn ?_
 refine W.r fun K hK=>?_
 simp(disch:=omega)only[↓RU,RV,RH,↓reduceIte,qE,reduceCtorEq,if_pos,qN]
 refine zad.pc (ydy) rfl (.inl rfl) ?_
 simp(disch:=omega)only[↓RU,RV,RH,↓reduceIte,qE,reduceCtorEq,if_pos,qN]
 apply hK;clear hK K
 refine W.ret ?_
 refine Br rfl ?_
 rfl
theorem ydz  : PC Tryz.prog 163 [.int .u64 3] (.int .i64 2) true:=by
 refine PC.of ⟨Tryz.func163,by kernel_rfl,rfl,by kernel_rfl⟩ zar mixed (by show 1≤Tryz.f163.ntmps; decide) ?_
 refine W.r fun K hK=>?_
 simp(disch:=omega)only[↓RU,RV,RH,↓reduceIte,qE,reduceCtorEq,if_pos]
 apply hK;clear hK K
 refine W.seq ?_
 refine W.r fun K hK=>?_
 simp(disch:=omega)only[↓RU,RV,RH,↓reduceIte,qE,reduceCtorEq,if_pos,w64,zif]
 apply hK;clear hK K
 refine W.cond rfl (fun h=>?_) (fun h=>?_)
 ·try simp only[RL]at h
  exact absurd h (by decide)
 try simp only[RL]at h
 refine W.skip ?_
 refine xn ?_
 refine W.seq ?_
 refine W.r fun K hK=>?_
 simp(disch:=omega)only[↓RU,RV,RH,↓reduceIte,qE,reduceCtorEq,if_pos,w64,zif]
 apply hK;clear hK K
 refine W.cond rfl (fun h1=>?_) (fun h1=>?_)
 ·try simp only[RL]at h1
  exact absurd h1 (by decide)
 try simp only[RL]at h1
 refine W.skip ?_
 refine xn ?_
 refine W.seq ?_
 refine W.r fun K hK=>?_
 simp(disch:=omega)only[↓RU,RV,RH,↓reduceIte,qE,reduceCtorEq,if_pos,w64,zif]
 apply hK;clear hK K
 refine W.cond rfl (fun h2=>?_) (fun h2=>?_)
 ·try simp only[RL]at h2
  exact absurd h2 (by decide)
 try simp only[RL]at h2
 refine W.skip ?_
 refine xn ?_
 refine W.r fun K hK=>?_
 simp(disch:=omega)only[↓RU,RV,RH,↓reduceIte,qE,reduceCtorEq,if_pos,w64,w64,zaa,zac,zif,zei]
 apply hK;clear hK K
 refine W.ret ?_
 refine Br rfl ?_
 rfl
theorem yg7  : PC Tryz.prog 137 [.int .u64 3] (.int .i64 2) true:=by
 refine PC.of ⟨Tryz.func137,by kernel_rfl,rfl,by kernel_rfl⟩ zar mixed (by show 1≤Tryz.f137.ntmps; decide) ?_
 refine W.r fun K hK=>?_
 simp(disch:=omega)only[↓RU,RV,RH,↓reduceIte,qE,reduceCtorEq,if_pos]
 apply hK;clear hK K
 refine W.seq ?_
 refine W.cond rfl (fun h=>?_) (fun h=>?_)
 ·try simp only[RL]at h
  exact absurd h (by decide)
 try simp only[RL]at h
 refine W.skip ?_
 refine xn ?_
 refine W.r fun K hK=>?_
 simp(disch:=omega)only[↓RU,RV,RH,↓reduceIte,qE,reduceCtorEq,if_pos,qN]
 refine zad.pc (ydz) rfl (.inl rfl) ?_
 simp(disch:=omega)only[↓RU,RV,RH,↓reduceIte,qE,reduceCtorEq,if_pos,qN]
 apply hK;clear hK K
 refine W.ret ?_
 refine Br rfl ?_
 rfl
theorem yd0  : PC Tryz.prog 163 [.int .u64 4] (.int .i64 3) true:=by
 refine PC.of ⟨Tryz.func163,by kernel_rfl,rfl,by kernel_rfl⟩ zar mixed (by show 1≤Tryz.f163.ntmps; decide) ?_
 refine W.r fun K hK=>?_
 simp(disch:=omega)only[↓RU,RV,RH,↓reduceIte,qE,reduceCtorEq,if_pos]
 apply hK;clear hK K
 refine W.seq ?_
 refine W.r fun K hK=>?_
 simp(disch:=omega)only[↓RU,RV,RH,↓reduceIte,qE,reduceCtorEq,if_pos,w64,zif]
 apply hK;clear hK K
 refine W.cond rfl (fun h=>?_) (fun h=>?_)
 ·try simp only[RL]at h
  exact absurd h (by decide)
 try simp only[RL]at h
 refine W.skip ?_
 refine xn ?_
 refine W.seq ?_
 refine W.r fun K hK=>?_
 simp(disch:=omega)only[↓RU,RV,RH,↓reduceIte,qE,reduceCtorEq,if_pos,w64,zif]
 apply hK;clear hK K
 refine W.cond rfl (fun h1=>?_) (fun h1=>?_)
 ·try simp only[RL]at h1
  exact absurd h1 (by decide)
 try simp only[RL]at h1
 refine W.skip ?_
 refine xn ?_
 refine W.seq ?_
 refine W.r fun K hK=>?_
 simp(disch:=omega)only[↓RU,RV,RH,↓reduceIte,qE,reduceCtorEq,if_pos,w64,zif]
 apply hK;clear hK K
 refine W.cond rfl (fun h2=>?_) (fun h2=>?_)
 ·try simp only[RL]at h2
  exact absurd h2 (by decide)
 try simp only[RL]at h2
 refine W.skip ?_
 refine xn ?_
 refine W.r fun K hK=>?_
 simp(disch:=omega)only[↓RU,RV,RH,↓reduceIte,qE,reduceCtorEq,if_pos,w64,w64,zaa,zac,zif,zei]
 apply hK;clear hK K
 refine W.ret ?_
 refine Br rfl ?_
 rfl
theorem yg8  : PC Tryz.prog 137 [.int .u64 4] (.int .i64 3) true:=by
 refine PC.of ⟨Tryz.func137,by kernel_rfl,rfl,by kernel_rfl⟩ zar mixed (by show 1≤Tryz.f137.ntmps; decide) ?_
 refine W.r fun K hK=>?_
 simp(disch:=omega)only[↓RU,RV,RH,↓reduceIte,qE,reduceCtorEq,if_pos]
 apply hK;clear hK K
 refine W.seq ?_
 refine W.cond rfl (fun h=>?_) (fun h=>?_)
 ·try simp only[RL]at h
  exact absurd h (by decide)
 try simp only[RL]at h
 refine W.skip ?_
 refine xn ?_
 refine W.r fun K hK=>?_
 simp(disch:=omega)only[↓RU,RV,RH,↓reduceIte,qE,reduceCtorEq,if_pos,qN]
 refine zad.pc (yd0) rfl (.inl rfl) ?_
 simp(disch:=omega)only[↓RU,RV,RH,↓reduceIte,qE,reduceCtorEq,if_pos,qN]
 apply hK;clear hK K
 refine W.ret ?_
 refine Br rfl ?_
 rfl
theorem yd1  : PC Tryz.prog 163 [.int .u64 5] (.int .i64 3) true:=by
 refine PC.of ⟨Tryz.func163,by kernel_rfl,rfl,by kernel_rfl⟩ zar mixed (by show 1≤Tryz.f163.ntmps; decide) ?_
 refine W.r fun K hK=>?_
 simp(disch:=omega)only[↓RU,RV,RH,↓reduceIte,qE,reduceCtorEq,if_pos]
 apply hK;clear hK K
 refine W.seq ?_
 refine W.r fun K hK=>?_
 simp(disch:=omega)only[↓RU,RV,RH,↓reduceIte,qE,reduceCtorEq,if_pos,w64,zif]
 apply hK;clear hK K
 refine W.cond rfl (fun h=>?_) (fun h=>?_)
 ·try simp only[RL]at h
  exact absurd h (by decide)
 try simp only[RL]at h
 refine W.skip ?_
 refine xn ?_
 refine W.seq ?_
 refine W.r fun K hK=>?_
 simp(disch:=omega)only[↓RU,RV,RH,↓reduceIte,qE,reduceCtorEq,if_pos,w64,zif]
 apply hK;clear hK K
 refine W.cond rfl (fun h1=>?_) (fun h1=>?_)
 ·try simp only[RL]at h1
  exact absurd h1 (by decide)
 try simp only[RL]at h1
 refine W.skip ?_
 refine xn ?_
 refine W.seq ?_
 refine W.r fun K hK=>?_
 simp(disch:=omega)only[↓RU,RV,RH,↓reduceIte,qE,reduceCtorEq,if_pos,w64,zif]
 apply hK;clear hK K
 refine W.cond rfl (fun h2=>?_) (fun h2=>?_)
 ·try simp only[RL]at h2
  exact absurd h2 (by decide)
 try simp only[RL]at h2
 refine W.skip ?_
 refine xn ?_
 refine W.r fun K hK=>?_
 simp(disch:=omega)only[↓RU,RV,RH,↓reduceIte,qE,reduceCtorEq,if_pos,w64,w64,zaa,zac,zif,zei]
 apply hK;clear hK K
 refine W.ret ?_
 refine Br rfl ?_
 rfl
theorem yg9  : PC Tryz.prog 137 [.int .u64 5] (.int .i64 3) true:=by
 refine PC.of ⟨Tryz.func137,by kernel_rfl,rfl,by kernel_rfl⟩ zar mixed (by show 1≤Tryz.f137.ntmps; decide) ?_
 refine W.r fun K hK=>?_
 simp(disch:=omega)only[↓RU,RV,RH,↓reduceIte,qE,reduceCtorEq,if_pos]
 apply hK;clear hK K
 refine W.seq ?_
 refine W.cond rfl (fun h=>?_) (fun h=>?_)
 ·try simp only[RL]at h
  exact absurd h (by decide)
 try simp only[RL]at h
 refine W.skip ?_
 refine xn ?_
 refine W.r fun K hK=>?_
 simp(disch:=omega)only[↓RU,RV,RH,↓reduceIte,qE,reduceCtorEq,if_pos,qN]
 refine zad.pc (yd1) rfl (.inl rfl) ?_
 simp(disch:=omega)only[↓RU,RV,RH,↓reduceIte,qE,reduceCtorEq,if_pos,qN]
 apply hK;clear hK K
 refine W.ret ?_
 refine Br rfl ?_
 rfl
theorem yd2  : PC Tryz.prog 163 [.int .u64 6] (.int .i64 3) true:=by
 refine PC.of ⟨Tryz.func163,by kernel_rfl,rfl,by kernel_rfl⟩ zar mixed (by show 1≤Tryz.f163.ntmps; decide) ?_
 refine W.r fun K hK=>?_
 simp(disch:=omega)only[↓RU,RV,RH,↓reduceIte,qE,reduceCtorEq,if_pos]
 apply hK;clear hK K
 refine W.seq ?_
 refine W.r fun K hK=>?_
 simp(disch:=omega)only[↓RU,RV,RH,↓reduceIte,qE,reduceCtorEq,if_pos,w64,zif]
 apply hK;clear hK K
 refine W.cond rfl (fun h=>?_) (fun h=>?_)
 ·try simp only[RL]at h
  exact absurd h (by decide)
 try simp only[RL]at h
 refine W.skip ?_
 refine xn ?_
 refine W.seq ?_
 refine W.r fun K hK=>?_
 simp(disch:=omega)only[↓RU,RV,RH,↓reduceIte,qE,reduceCtorEq,if_pos,w64,zif]
 apply hK;clear hK K
 refine W.cond rfl (fun h1=>?_) (fun h1=>?_)
 ·try simp only[RL]at h1
  exact absurd h1 (by decide)
 try simp only[RL]at h1
 refine W.skip ?_
 refine xn ?_
 refine W.seq ?_
 refine W.r fun K hK=>?_
 simp(disch:=omega)only[↓RU,RV,RH,↓reduceIte,qE,reduceCtorEq,if_pos,w64,zif]
 apply hK;clear hK K
 refine W.cond rfl (fun h2=>?_) (fun h2=>?_)
 ·try simp only[RL]at h2
  exact absurd h2 (by decide)
 try simp only[RL]at h2
 refine W.skip ?_
 refine xn ?_
 refine W.r fun K hK=>?_
 simp(disch:=omega)only[↓RU,RV,RH,↓reduceIte,qE,reduceCtorEq,if_pos,w64,w64,zaa,zac,zif,zei]
 apply hK;clear hK K
 refine W.ret ?_
 refine Br rfl ?_
 rfl
theorem yha  : PC Tryz.prog 137 [.int .u64 6] (.int .i64 3) true:=by
 refine PC.of ⟨Tryz.func137,by kernel_rfl,rfl,by kernel_rfl⟩ zar mixed (by show 1≤Tryz.f137.ntmps; decide) ?_
 refine W.r fun K hK=>?_
 simp(disch:=omega)only[↓RU,RV,RH,↓reduceIte,qE,reduceCtorEq,if_pos]
 apply hK;clear hK K
 refine W.seq ?_
 refine W.cond rfl (fun h=>?_) (fun h=>?_)
 ·try simp only[RL]at h
  exact absurd h (by decide)
 try simp only[RL]at h
 refine W.skip ?_
 refine xn ?_
 refine W.r fun K hK=>?_
 simp(disch:=omega)only[↓RU,RV,RH,↓reduceIte,qE,reduceCtorEq,if_pos,qN]
 refine zad.pc (yd2) rfl (.inl rfl) ?_
 simp(disch:=omega)only[↓RU,RV,RH,↓reduceIte,qE,reduceCtorEq,if_pos,qN]
 apply hK;clear hK K
 refine W.ret ?_
 refine Br rfl ?_
 rfl
theorem yd3  : PC Tryz.prog 163 [.int .u64 7] (.int .i64 3) true:=by
 refine PC.of ⟨Tryz.func163,by kernel_rfl,rfl,by kernel_rfl⟩ zar mixed (by show 1≤Tryz.f163.ntmps; decide) ?_
 refine W.r fun K hK=>?_
 simp(disch:=omega)only[↓RU,RV,RH,↓reduceIte,qE,reduceCtorEq,if_pos]
 apply hK;clear hK K
 refine W.seq ?_
 refine W.r fun K hK=>?_
 simp(disch:=omega)only[↓RU,RV,RH,↓reduceIte,qE,reduceCtorEq,if_pos,w64,zif]
 apply hK;clear hK K
 refine W.cond rfl (fun h=>?_) (fun h=>?_)
 ·try simp only[RL]at h
  exact absurd h (by decide)
 try simp only[RL]at h
 refine W.skip ?_
 refine xn ?_
 refine W.seq ?_
 refine W.r fun K hK=>?_
 simp(disch:=omega)only[↓RU,RV,RH,↓reduceIte,qE,reduceCtorEq,if_pos,w64,zif]
 apply hK;clear hK K
 refine W.cond rfl (fun h1=>?_) (fun h1=>?_)
 ·try simp only[RL]at h1
  exact absurd h1 (by decide)
 try simp only[RL]at h1
 refine W.skip ?_
 refine xn ?_
 refine W.seq ?_
 refine W.r fun K hK=>?_
 simp(disch:=omega)only[↓RU,RV,RH,↓reduceIte,qE,reduceCtorEq,if_pos,w64,zif]
 apply hK;clear hK K
 refine W.cond rfl (fun h2=>?_) (fun h2=>?_)
 ·try simp only[RL]at h2
  exact absurd h2 (by decide)
 try simp only[RL]at h2
 refine W.skip ?_
 refine xn ?_
 refine W.r fun K hK=>?_
 simp(disch:=omega)only[↓RU,RV,RH,↓reduceIte,qE,reduceCtorEq,if_pos,w64,w64,zaa,zac,zif,zei]
 apply hK;clear hK K
 refine W.ret ?_
 refine Br rfl ?_
 rfl
theorem yhb  : PC Tryz.prog 137 [.int .u64 7] (.int .i64 3) true:=by
 refine PC.of ⟨Tryz.func137,by kernel_rfl,rfl,by kernel_rfl⟩ zar mixed (by show 1≤Tryz.f137.ntmps; decide) ?_
 refine W.r fun K hK=>?_
 simp(disch:=omega)only[↓RU,RV,RH,↓reduceIte,qE,reduceCtorEq,if_pos]
 apply hK;clear hK K
 refine W.seq ?_
 refine W.cond rfl (fun h=>?_) (fun h=>?_)
 ·try simp only[RL]at h
  exact absurd h (by decide)
 try simp only[RL]at h
 refine W.skip ?_
 refine xn ?_
 refine W.r fun K hK=>?_
 simp(disch:=omega)only[↓RU,RV,RH,↓reduceIte,qE,reduceCtorEq,if_pos,qN]
 refine zad.pc (yd3) rfl (.inl rfl) ?_
 simp(disch:=omega)only[↓RU,RV,RH,↓reduceIte,qE,reduceCtorEq,if_pos,qN]
 apply hK;clear hK K
 refine W.ret ?_
 refine Br rfl ?_
 rfl
theorem yd4  : PC Tryz.prog 163 [.int .u64 8] (.int .i64 4) true:=by
 refine PC.of ⟨Tryz.func163,by kernel_rfl,rfl,by kernel_rfl⟩ zar mixed (by show 1≤Tryz.f163.ntmps; decide) ?_
 refine W.r fun K hK=>?_
 simp(disch:=omega)only[↓RU,RV,RH,↓reduceIte,qE,reduceCtorEq,if_pos]
 apply hK;clear hK K
 refine W.seq ?_
 refine W.r fun K hK=>?_
 simp(disch:=omega)only[↓RU,RV,RH,↓reduceIte,qE,reduceCtorEq,if_pos,w64,zif]
 apply hK;clear hK K
 refine W.cond rfl (fun h=>?_) (fun h=>?_)
 ·try simp only[RL]at h
  exact absurd h (by decide)
 try simp only[RL]at h
 refine W.skip ?_
 refine xn ?_
 refine W.seq ?_
 refine W.r fun K hK=>?_
 simp(disch:=omega)only[↓RU,RV,RH,↓reduceIte,qE,reduceCtorEq,if_pos,w64,zif]
 apply hK;clear hK K
 refine W.cond rfl (fun h1=>?_) (fun h1=>?_)
 ·try simp only[RL]at h1
  exact absurd h1 (by decide)
 try simp only[RL]at h1
 refine W.skip ?_
 refine xn ?_
 refine W.seq ?_
 refine W.r fun K hK=>?_
 simp(disch:=omega)only[↓RU,RV,RH,↓reduceIte,qE,reduceCtorEq,if_pos,w64,zif]
 apply hK;clear hK K
 refine W.cond rfl (fun h2=>?_) (fun h2=>?_)
 ·try simp only[RL]at h2
  exact absurd h2 (by decide)
 try simp only[RL]at h2
 refine W.skip ?_
 refine xn ?_
 refine W.r fun K hK=>?_
 simp(disch:=omega)only[↓RU,RV,RH,↓reduceIte,qE,reduceCtorEq,if_pos,w64,w64,zaa,zac,zif,zei]
 apply hK;clear hK K
 refine W.ret ?_
 refine Br rfl ?_
 rfl
theorem yhc  : PC Tryz.prog 137 [.int .u64 8] (.int .i64 4) true:=by
 refine PC.of ⟨Tryz.func137,by kernel_rfl,rfl,by kernel_rfl⟩ zar mixed (by show 1≤Tryz.f137.ntmps; decide) ?_
 refine W.r fun K hK=>?_
 simp(disch:=omega)only[↓RU,RV,RH,↓reduceIte,qE,reduceCtorEq,if_pos]
 apply hK;clear hK K
 refine W.seq ?_
 refine W.cond rfl (fun h=>?_) (fun h=>?_)
 ·try simp only[RL]at h
  exact absurd h (by decide)
 try simp only[RL]at h
 refine W.skip ?_
 refine xn ?_
 refine W.r fun K hK=>?_
 simp(disch:=omega)only[↓RU,RV,RH,↓reduceIte,qE,reduceCtorEq,if_pos,qN]
 refine zad.pc (yd4) rfl (.inl rfl) ?_
 simp(disch:=omega)only[↓RU,RV,RH,↓reduceIte,qE,reduceCtorEq,if_pos,qN]
 apply hK;clear hK K
 refine W.ret ?_
 refine Br rfl ?_
 rfl
theorem yd5  : PC Tryz.prog 163 [.int .u64 9] (.int .i64 4) true:=by
 refine PC.of ⟨Tryz.func163,by kernel_rfl,rfl,by kernel_rfl⟩ zar mixed (by show 1≤Tryz.f163.ntmps; decide) ?_
 refine W.r fun K hK=>?_
 simp(disch:=omega)only[↓RU,RV,RH,↓reduceIte,qE,reduceCtorEq,if_pos]
 apply hK;clear hK K
 refine W.seq ?_
 refine W.r fun K hK=>?_
 simp(disch:=omega)only[↓RU,RV,RH,↓reduceIte,qE,reduceCtorEq,if_pos,w64,zif]
 apply hK;clear hK K
 refine W.cond rfl (fun h=>?_) (fun h=>?_)
 ·try simp only[RL]at h
  exact absurd h (by decide)
 try simp only[RL]at h
 refine W.skip ?_
 refine xn ?_
 refine W.seq ?_
 refine W.r fun K hK=>?_
 simp(disch:=omega)only[↓RU,RV,RH,↓reduceIte,qE,reduceCtorEq,if_pos,w64,zif]
 apply hK;clear hK K
 refine W.cond rfl (fun h1=>?_) (fun h1=>?_)
 ·try simp only[RL]at h1
  exact absurd h1 (by decide)
 try simp only[RL]at h1
 refine W.skip ?_
 refine xn ?_
 refine W.seq ?_
 refine W.r fun K hK=>?_
 simp(disch:=omega)only[↓RU,RV,RH,↓reduceIte,qE,reduceCtorEq,if_pos,w64,zif]
 apply hK;clear hK K
 refine W.cond rfl (fun h2=>?_) (fun h2=>?_)
 ·try simp only[RL]at h2
  exact absurd h2 (by decide)
 try simp only[RL]at h2
 refine W.skip ?_
 refine xn ?_
 refine W.r fun K hK=>?_
 simp(disch:=omega)only[↓RU,RV,RH,↓reduceIte,qE,reduceCtorEq,if_pos,w64,w64,zaa,zac,zif,zei]
 apply hK;clear hK K
 refine W.ret ?_
 refine Br rfl ?_
 rfl
theorem yhd  : PC Tryz.prog 137 [.int .u64 9] (.int .i64 4) true:=by
 refine PC.of ⟨Tryz.func137,by kernel_rfl,rfl,by kernel_rfl⟩ zar mixed (by show 1≤Tryz.f137.ntmps; decide) ?_
 refine W.r fun K hK=>?_
 simp(disch:=omega)only[↓RU,RV,RH,↓reduceIte,qE,reduceCtorEq,if_pos]
 apply hK;clear hK K
 refine W.seq ?_
 refine W.cond rfl (fun h=>?_) (fun h=>?_)
 ·try simp only[RL]at h
  exact absurd h (by decide)
 try simp only[RL]at h
 refine W.skip ?_
 refine xn ?_
 refine W.r fun K hK=>?_
 simp(disch:=omega)only[↓RU,RV,RH,↓reduceIte,qE,reduceCtorEq,if_pos,qN]
 refine zad.pc (yd5) rfl (.inl rfl) ?_
 simp(disch:=omega)only[↓RU,RV,RH,↓reduceIte,qE,reduceCtorEq,if_pos,qN]
 apply hK;clear hK K
 refine W.ret ?_
 refine Br rfl ?_
 rfl
theorem zio {F R:List Ob} {ver t:Nat} {l:List Int} {f:FuncId} {cs:List PV} {cm:Int→Int→Int} {g:Int→Int} (hf:∀ x y,x∈l→y∈l→PC Tryz.prog f [.int .i64 x,.int .i64 y,.ip cs 0] (.int .i64 (cm x y)) true) (hg:∀ x y,x∈l→y∈l→(cm x y<0↔g x<g y)) (hl:l.length≤12) (h1:1≤l.length) (lim:Int):Ev Tryz.prog 167 [.loc F.length ver 0 l.length,.int .i64 0,.int .i64 l.length,.int .i64 lim,.fn f [.ip cs 0]] ⟨F ++ .arr ver 3 1 (l.map (.int .i64))::R,t⟩ fun v S=>v = .tup []∧∃ z:List Int,z.Perm l∧(z.map g).Pairwise (· ≤ ·)∧S=⟨F ++ .arr ver 3 1 (z.map (.int .i64))::R,t⟩:=by
 refine Ev.of ⟨Tryz.func167,by kernel_rfl,rfl,by kernel_rfl⟩ zar mixed (by show 5≤Tryz.f167.ntmps; decide) ?_
 refine W.r fun K hK=>?_
 simp(disch:=omega)only[↓RU,RV,RH,↓reduceIte,qE,reduceCtorEq,if_pos,↓RS,RG,qA,qM,qL,gF,zd4]
 apply hK;clear hK K
 refine W.r fun K hK=>?_
 simp(disch:=omega)only[↓RU,RV,RH,↓reduceIte,qE,reduceCtorEq,if_pos,↓RS,RG,qA,qM,qL,gF,zd4]
 apply hK;clear hK K
 refine W.block ?_
 refine W.loop [0,1,2,4] (fun n vs S=>vs=[.loc F.length ver 0 l.length,.int .i64 0,.int .i64 l.length,.fn f [.ip cs 0]]∧S=⟨F ++ .arr ver 3 1 (l.map (.int .i64))::R,t⟩) 0 ?_ ?_
 ·refine ⟨_,?_,zak⟩
  simp [Env.put,Env.of,zae]
 rintro n vs S - ⟨rfl,rfl⟩
 refine W.block ?_
 refine W.r fun K hK=>?_
 simp(disch:=omega)only[↓RU,RV,RH,↓reduceIte,qE,reduceCtorEq,if_pos,w64,↓RS,RG,qA,qM,qL,zaa,gF,zd4]
 apply hK;clear hK K
 refine W.seq ?_
 refine W.r fun K hK=>?_
 simp(disch:=omega)only[↓RU,RV,RH,↓reduceIte,qE,reduceCtorEq,if_pos,w64,↓RS,RG,qA,qM,qL,zaa,gF,zd4]
 apply hK;clear hK K
 refine W.cond rfl (fun h=>?_) (fun h=>?_)
 ·try simp only[RL]at h
  refine W.r fun K hK=>?_
  simp(disch:=omega)only[↓RU,RV,RH,↓reduceIte,qE,reduceCtorEq,if_pos,qN,↓RS,RG,qA,qM,qL,gF,zd4]
  refine zad.ev (z3r hf hg (by omega) h1) ?_
  rintro _ _ ⟨rfl,z,hz1,hz2,rfl⟩
  simp(disch:=omega)only[↓RU,RV,RH,↓reduceIte,qE,reduceCtorEq,if_pos,qN,↓RS,RG,qA,qM,qL,gF,zd4]
  apply hK;clear hK K
  refine W.ret ?_
  refine XThen.ret ?_
  refine XBlock.ret ?_
  refine XThen.ret ?_
  refine XBlock.ret ?_
  refine Br rfl ?_
  exact ⟨_,rfl,z,hz1,hz2,zak⟩
 try simp only[RL]at h
 exact absurd (show (l.length:Int)≤12 by omega) h
theorem ybg {F R:List Ob} {ver t:Nat} {l:List Int} {f:FuncId} {cs:List PV} {cm:Int→Int→Int} {g:Int→Int} (hf:∀ x y,x∈l→y∈l→PC Tryz.prog f [.int .i64 x,.int .i64 y,.ip cs 0] (.int .i64 (cm x y)) true) (hg:∀ x y,x∈l→y∈l→(cm x y<0↔g x<g y)) (h9:l.length≤9) (h1:1≤l.length):Ev Tryz.prog 145 [.loc F.length ver 0 l.length,.fn f [.ip cs 0]] ⟨F ++ .arr ver 3 1 (l.map (.int .i64))::R,t⟩ fun v S=>v = .tup []∧∃ z:List Int,z.Perm l∧(z.map g).Pairwise (· ≤ ·)∧S=⟨F ++ .arr ver 3 1 (z.map (.int .i64))::R,t⟩:=by
 refine Ev.of ⟨Tryz.func145,by kernel_rfl,rfl,by kernel_rfl⟩ zar mixed (by show 2≤Tryz.f145.ntmps; decide) ?_
 refine W.r fun K hK=>?_
 simp(disch:=omega)only[↓RU,RV,RH,↓reduceIte,qE,reduceCtorEq,if_pos,↓RS,RG,qA,qM,qL,zab,zaa,gF,zd4]
 apply hK;clear hK K
 refine W.k fun K hK=>?_
 obtain hk | hk | hk | hk | hk | hk | hk | hk | hk:l.length=1∨l.length=2∨l.length=3∨l.length=4∨l.length=5∨l.length=6∨l.length=7∨l.length=8∨l.length=9:=by omega
 ·skip
  have hw:IntKind.u64.wrap ((l.length:Nat):Int)=1:=by rw [hk]; rfl
  simp(disch:=omega)only[↓RU,RV,RH,↓reduceIte,qE,reduceCtorEq,if_pos,w64,qN,↓RS,RG,qA,qM,qL,zaa,zdj,gF,zd4,hw]
  refine zad.pc (yg5) rfl (.inl rfl) ?_
  simp(disch:=omega)only[↓RU,RV,RH,↓reduceIte,qE,reduceCtorEq,if_pos,w64,qN,↓RS,RG,qA,qM,qL,zaa,zdj,gF,zd4,hw]
  refine zad.ev (zio hf hg (by omega) (by omega) 1) ?_
  rintro _ _ ⟨rfl,z,hz1,hz2,rfl⟩
  simp(disch:=omega)only[↓RU,RV,RH,↓reduceIte,qE,reduceCtorEq,if_pos,w64,qN,↓RS,RG,qA,qM,qL,zaa,zdj,gF,zd4,hw]
  apply hK;clear hK K
  refine zfs.norm rfl ?_
  exact ⟨_,rfl,z,hz1,hz2,zak⟩
 ·skip
  have hw:IntKind.u64.wrap ((l.length:Nat):Int)=2:=by rw [hk]; rfl
  simp(disch:=omega)only[↓RU,RV,RH,↓reduceIte,qE,reduceCtorEq,if_pos,w64,qN,↓RS,RG,qA,qM,qL,zaa,zdj,gF,zd4,hw]
  refine zad.pc (yg6) rfl (.inl rfl) ?_
  simp(disch:=omega)only[↓RU,RV,RH,↓reduceIte,qE,reduceCtorEq,if_pos,w64,qN,↓RS,RG,qA,qM,qL,zaa,zdj,gF,zd4,hw]
  refine zad.ev (zio hf hg (by omega) (by omega) 2) ?_
  rintro _ _ ⟨rfl,z,hz1,hz2,rfl⟩
  simp(disch:=omega)only[↓RU,RV,RH,↓reduceIte,qE,reduceCtorEq,if_pos,w64,qN,↓RS,RG,qA,qM,qL,zaa,zdj,gF,zd4,hw]
  apply hK;clear hK K
  refine zfs.norm rfl ?_
  exact ⟨_,rfl,z,hz1,hz2,zak⟩
 ·skip
  have hw:IntKind.u64.wrap ((l.length:Nat):Int)=3:=by rw [hk]; rfl
  simp(disch:=omega)only[↓RU,RV,RH,↓reduceIte,qE,reduceCtorEq,if_pos,w64,qN,↓RS,RG,qA,qM,qL,zaa,zdj,gF,zd4,hw]
  refine zad.pc (yg7) rfl (.inl rfl) ?_
  simp(disch:=omega)only[↓RU,RV,RH,↓reduceIte,qE,reduceCtorEq,if_pos,w64,qN,↓RS,RG,qA,qM,qL,zaa,zdj,gF,zd4,hw]
  refine zad.ev (zio hf hg (by omega) (by omega) 2) ?_
  rintro _ _ ⟨rfl,z,hz1,hz2,rfl⟩
  simp(disch:=omega)only[↓RU,RV,RH,↓reduceIte,qE,reduceCtorEq,if_pos,w64,qN,↓RS,RG,qA,qM,qL,zaa,zdj,gF,zd4,hw]
  apply hK;clear hK K
  refine zfs.norm rfl ?_
  exact ⟨_,rfl,z,hz1,hz2,zak⟩
 ·skip
  have hw:IntKind.u64.wrap ((l.length:Nat):Int)=4:=by rw [hk]; rfl
  simp(disch:=omega)only[↓RU,RV,RH,↓reduceIte,qE,reduceCtorEq,if_pos,w64,qN,↓RS,RG,qA,qM,qL,zaa,zdj,gF,zd4,hw]
  refine zad.pc (yg8) rfl (.inl rfl) ?_
  simp(disch:=omega)only[↓RU,RV,RH,↓reduceIte,qE,reduceCtorEq,if_pos,w64,qN,↓RS,RG,qA,qM,qL,zaa,zdj,gF,zd4,hw]
  refine zad.ev (zio hf hg (by omega) (by omega) 3) ?_
  rintro _ _ ⟨rfl,z,hz1,hz2,rfl⟩
  simp(disch:=omega)only[↓RU,RV,RH,↓reduceIte,qE,reduceCtorEq,if_pos,w64,qN,↓RS,RG,qA,qM,qL,zaa,zdj,gF,zd4,hw]
  apply hK;clear hK K
  refine zfs.norm rfl ?_
  exact ⟨_,rfl,z,hz1,hz2,zak⟩
 ·skip
  have hw:IntKind.u64.wrap ((l.length:Nat):Int)=5:=by rw [hk]; rfl
  simp(disch:=omega)only[↓RU,RV,RH,↓reduceIte,qE,reduceCtorEq,if_pos,w64,qN,↓RS,RG,qA,qM,qL,zaa,zdj,gF,zd4,hw]
  refine zad.pc (yg9) rfl (.inl rfl) ?_
  simp(disch:=omega)only[↓RU,RV,RH,↓reduceIte,qE,reduceCtorEq,if_pos,w64,qN,↓RS,RG,qA,qM,qL,zaa,zdj,gF,zd4,hw]
  refine zad.ev (zio hf hg (by omega) (by omega) 3) ?_
  rintro _ _ ⟨rfl,z,hz1,hz2,rfl⟩
  simp(disch:=omega)only[↓RU,RV,RH,↓reduceIte,qE,reduceCtorEq,if_pos,w64,qN,↓RS,RG,qA,qM,qL,zaa,zdj,gF,zd4,hw]
  apply hK;clear hK K
  refine zfs.norm rfl ?_
  exact ⟨_,rfl,z,hz1,hz2,zak⟩
 ·skip
  have hw:IntKind.u64.wrap ((l.length:Nat):Int)=6:=by rw [hk]; rfl
  simp(disch:=omega)only[↓RU,RV,RH,↓reduceIte,qE,reduceCtorEq,if_pos,w64,qN,↓RS,RG,qA,qM,qL,zaa,zdj,gF,zd4,hw]
  refine zad.pc (yha) rfl (.inl rfl) ?_
  simp(disch:=omega)only[↓RU,RV,RH,↓reduceIte,qE,reduceCtorEq,if_pos,w64,qN,↓RS,RG,qA,qM,qL,zaa,zdj,gF,zd4,hw]
  refine zad.ev (zio hf hg (by omega) (by omega) 3) ?_
  rintro _ _ ⟨rfl,z,hz1,hz2,rfl⟩
  simp(disch:=omega)only[↓RU,RV,RH,↓reduceIte,qE,reduceCtorEq,if_pos,w64,qN,↓RS,RG,qA,qM,qL,zaa,zdj,gF,zd4,hw]
  apply hK;clear hK K
  refine zfs.norm rfl ?_
  exact ⟨_,rfl,z,hz1,hz2,zak⟩
 ·skip
  have hw:IntKind.u64.wrap ((l.length:Nat):Int)=7:=by rw [hk]; rfl
  simp(disch:=omega)only[↓RU,RV,RH,↓reduceIte,qE,reduceCtorEq,if_pos,w64,qN,↓RS,RG,qA,qM,qL,zaa,zdj,gF,zd4,hw]
  refine zad.pc (yhb) rfl (.inl rfl) ?_
  simp(disch:=omega)only[↓RU,RV,RH,↓reduceIte,qE,reduceCtorEq,if_pos,w64,qN,↓RS,RG,qA,qM,qL,zaa,zdj,gF,zd4,hw]
  refine zad.ev (zio hf hg (by omega) (by omega) 3) ?_
  rintro _ _ ⟨rfl,z,hz1,hz2,rfl⟩
  simp(disch:=omega)only[↓RU,RV,RH,↓reduceIte,qE,reduceCtorEq,if_pos,w64,qN,↓RS,RG,qA,qM,qL,zaa,zdj,gF,zd4,hw]
  apply hK;clear hK K
  refine zfs.norm rfl ?_
  exact ⟨_,rfl,z,hz1,hz2,zak⟩
 ·skip
  have hw:IntKind.u64.wrap ((l.length:Nat):Int)=8:=by rw [hk]; rfl
  simp(disch:=omega)only[↓RU,RV,RH,↓reduceIte,qE,reduceCtorEq,if_pos,w64,qN,↓RS,RG,qA,qM,qL,zaa,zdj,gF,zd4,hw]
  refine zad.pc (yhc) rfl (.inl rfl) ?_
  simp(disch:=omega)only[↓RU,RV,RH,↓reduceIte,qE,reduceCtorEq,if_pos,w64,qN,↓RS,RG,qA,qM,qL,zaa,zdj,gF,zd4,hw]
  refine zad.ev (zio hf hg (by omega) (by omega) 4) ?_
  rintro _ _ ⟨rfl,z,hz1,hz2,rfl⟩
  simp(disch:=omega)only[↓RU,RV,RH,↓reduceIte,qE,reduceCtorEq,if_pos,w64,qN,↓RS,RG,qA,qM,qL,zaa,zdj,gF,zd4,hw]
  apply hK;clear hK K
  refine zfs.norm rfl ?_
  exact ⟨_,rfl,z,hz1,hz2,zak⟩
 skip
 have hw:IntKind.u64.wrap ((l.length:Nat):Int)=9:=by rw [hk]; rfl
 simp(disch:=omega)only[↓RU,RV,RH,↓reduceIte,qE,reduceCtorEq,if_pos,w64,qN,↓RS,RG,qA,qM,qL,zaa,zdj,gF,zd4,hw]
 refine zad.pc (yhd) rfl (.inl rfl) ?_
 simp(disch:=omega)only[↓RU,RV,RH,↓reduceIte,qE,reduceCtorEq,if_pos,w64,qN,↓RS,RG,qA,qM,qL,zaa,zdj,gF,zd4,hw]
 refine zad.ev (zio hf hg (by omega) (by omega) 4) ?_
 rintro _ _ ⟨rfl,z,hz1,hz2,rfl⟩
 simp(disch:=omega)only[↓RU,RV,RH,↓reduceIte,qE,reduceCtorEq,if_pos,w64,qN,↓RS,RG,qA,qM,qL,zaa,zdj,gF,zd4,hw]
 apply hK;clear hK K
 refine zfs.norm rfl ?_
 exact ⟨_,rfl,z,hz1,hz2,zak⟩





section
section
variable {n:Nat} {M X:List (List Bool)}
def rvB (M:List (List Bool)) (a:Nat) (X:List (List Bool)) (b:Nat):List (List Bool):=z4q X b a (zc2 M a b)
def rvA (n:Nat) (M:List (List Bool)) (X:List (List Bool)) (a:Nat):List (List Bool):=(List.range n).foldl (rvB M a) X
def rv (n:Nat) (M:List (List Bool)):List (List Bool):=(List.range n).foldl (rvA n M) (zch n)
end
end
theorem z8f {S:Store} {k f n:Nat} {sel:List Nat}:(List.replicate n (PV.int .i64 0)).mapM (rn S k sel (f+1))=some (List.replicate n (PV.int .i64 0)):=zvb (by simp [List.all_replicate,scal])
section
theorem z5j {L A:List (List Bool)} {n a b:Nat} (hL:Sq n L) (hA:Sq n A) (ha:a<n) (hb:b<n):PC Tryz.prog 124 [(.agg [zhp L,zhp A]),.int .i64 a,.int .i64 b] (.bool (zc2 L a b || zc2 A a b)) true:=by
 have hL1:=hL.1
 have hA1:=hA.1
 obtain ⟨row,hrow,hrl,hrb⟩:=hL.at_ ha hb
 obtain ⟨sow,hsow,hsl,hsb⟩:=hA.at_ ha hb
 refine PC.of ⟨Tryz.func124,by kernel_rfl,rfl,by kernel_rfl⟩ zar mixed (by show 3≤Tryz.f124.ntmps; decide) ?_
 refine W.r fun K hK=>?_
 simp(disch:=omega)only[↓RU,RV,RH,↓reduceIte,qE,reduceCtorEq,if_pos,↓RS,RG,qA,qM,qL,ty0,ty2,zah,zgy,ze2,zgz]
 apply hK;clear hK K
 refine W.r fun K hK=>?_
 cases hc:zc2 L a b
 ·skip
  rw [hc]at hrb
  simp(disch:=omega)only[↓RU,RV,RH,↓reduceIte,qE,reduceCtorEq,if_pos,↓RS,RG,qA,qM,qL,ty0,ty2,zah,zgy,ze2,zgz,hrow,hrl,hrb,hsow,hsl,hsb,hL1,hA1]
  apply hK;clear hK K
  refine W.ret ?_
  refine Br rfl ?_
  rw [hc]
  rfl
 skip
 rw [hc]at hrb
 simp(disch:=omega)only[↓RU,RV,RH,↓reduceIte,qE,reduceCtorEq,if_pos,↓RS,RG,qA,qM,qL,ty0,ty2,zah,zgy,ze2,zgz,hrow,hrl,hrb,hsow,hsl,hsb,hL1,hA1]
 apply hK;clear hK K
 refine W.ret ?_
 refine Br rfl ?_
 rw [hc]
 rfl
theorem zpu {L A:List (List Bool)} {n a b:Nat} (hL:Sq n L) (hA:Sq n A) (ha:a<n) (hb:b<n):PC Tryz.prog 125 [(.agg [zhp L,zhp A]),.int .i64 a,.int .i64 b] (.bool (zc2 L a b || zc2 A b a)) true:=by
 have hL1:=hL.1
 have hA1:=hA.1
 obtain ⟨row,hrow,hrl,hrb⟩:=hL.at_ ha hb
 obtain ⟨sow,hsow,hsl,hsb⟩:=hA.at_ hb ha
 refine PC.of ⟨Tryz.func125,by kernel_rfl,rfl,by kernel_rfl⟩ zar mixed (by show 3≤Tryz.f125.ntmps; decide) ?_
 refine W.r fun K hK=>?_
 simp(disch:=omega)only[↓RU,RV,RH,↓reduceIte,qE,reduceCtorEq,if_pos,↓RS,RG,qA,qM,qL,ty0,ty2,zah,zgy,ze2,zgz]
 apply hK;clear hK K
 refine W.r fun K hK=>?_
 cases hc:zc2 L a b
 ·skip
  rw [hc]at hrb
  simp(disch:=omega)only[↓RU,RV,RH,↓reduceIte,qE,reduceCtorEq,if_pos,↓RS,RG,qA,qM,qL,ty0,ty2,zah,zgy,ze2,zgz,hrow,hrl,hrb,hsow,hsl,hsb,hL1,hA1]
  apply hK;clear hK K
  refine W.ret ?_
  refine Br rfl ?_
  rw [hc]
  rfl
 skip
 rw [hc]at hrb
 simp(disch:=omega)only[↓RU,RV,RH,↓reduceIte,qE,reduceCtorEq,if_pos,↓RS,RG,qA,qM,qL,ty0,ty2,zah,zgy,ze2,zgz,hrow,hrl,hrb,hsow,hsl,hsb,hL1,hA1]
 apply hK;clear hK K
 refine W.ret ?_
 refine Br rfl ?_
 rw [hc]
 rfl
def cmV (b1 b2:Bool):Int:=if b1 then -1 else if b2 then 1 else 0
theorem yfp {b1 b2:Bool}:cmV b1 b2<0↔b1=true:=by cases b1 <;> cases b2 <;> simp [cmV]
theorem z4t {q:FuncId} {L A:List (List Bool)} {x y:Int} {b1 b2:Bool} (h1:PC Tryz.prog q [(.agg [zhp L,zhp A]),.int .i64 x,.int .i64 y] (.bool b1) true) (h2:PC Tryz.prog q [(.agg [zhp L,zhp A]),.int .i64 y,.int .i64 x] (.bool b2) true):PC Tryz.prog 146 [.int .i64 x,.int .i64 y,.ip [.bm q (.agg [zhp L,zhp A])] 0] (.int .i64 (cmV b1 b2)) true:=by
 refine PC.of ⟨Tryz.func146,by kernel_rfl,rfl,by kernel_rfl⟩ zar mixed (by show 3≤Tryz.f146.ntmps; decide) ?_
 refine W.r fun K hK=>?_
 simp(disch:=omega)only[↓RU,RV,RH,↓reduceIte,qE,reduceCtorEq,if_pos,↓RS,RG,qA,qM,qL]
 apply hK;clear hK K
 refine W.seq ?_
 refine W.block ?_
 refine W.r fun K hK=>?_
 simp(disch:=omega)only[↓RU,RV,RH,↓reduceIte,qE,reduceCtorEq,if_pos,qN,↓RS,RG,qA,qM,qL,ty9]
 refine zad.pc (h1) rfl (.inl rfl) ?_
 simp(disch:=omega)only[↓RU,RV,RH,↓reduceIte,qE,reduceCtorEq,if_pos,qN,↓RS,RG,qA,qM,qL,ty9]
 apply hK;clear hK K
 refine W.cond rfl (fun k1=>?_) (fun k1=>?_)
 ·try simp only[RL]at k1
  refine W.r fun K hK=>?_
  simp(disch:=omega)only[↓RU,RV,RH,↓reduceIte,qE,reduceCtorEq,if_pos,↓RS,RG,qA,qM,qL]
  apply hK;clear hK K
  refine W.ret ?_
  refine XBlock.ret ?_
  refine XThen.ret ?_
  refine Br rfl ?_
  subst k1
  rfl
 try simp only[RL]at k1
 refine W.r fun K hK=>?_
 simp(disch:=omega)only[↓RU,RV,RH,↓reduceIte,qE,reduceCtorEq,if_pos,qN,↓RS,RG,qA,qM,qL,ty9]
 refine zad.pc (h2) rfl (.inl rfl) ?_
 simp(disch:=omega)only[↓RU,RV,RH,↓reduceIte,qE,reduceCtorEq,if_pos,qN,↓RS,RG,qA,qM,qL,ty9]
 apply hK;clear hK K
 refine W.cond rfl (fun k2=>?_) (fun k2=>?_)
 ·try simp only[RL]at k2
  refine W.r fun K hK=>?_
  simp(disch:=omega)only[↓RU,RV,RH,↓reduceIte,qE,reduceCtorEq,if_pos,↓RS,RG,qA,qM,qL]
  apply hK;clear hK K
  refine W.ret ?_
  refine XBlock.ret ?_
  refine XThen.ret ?_
  refine Br rfl ?_
  have k1:b1=false:=by simpa using k1
  subst k1
  subst k2
  rfl
 try simp only[RL]at k2
 refine W.skip ?_
 refine XbN ?_
 refine xn ?_
 refine W.r fun K hK=>?_
 simp(disch:=omega)only[↓RU,RV,RH,↓reduceIte,qE,reduceCtorEq,if_pos,↓RS,RG,qA,qM,qL]
 apply hK;clear hK K
 refine W.ret ?_
 refine Br rfl ?_
 have k1:b1=false:=by simpa using k1
 have k2:b2=false:=by simpa using k2
 subst k1
 subst k2
 rfl
theorem zu0 {L A:List (List Bool)}:zmj 10 (.agg [zhp L,zhp A])=true:=rfl
section
variable {S:Store} {fr:Nat→Bool} {f:Nat}
theorem yei {o ver off:Nat}:rfq S fr (f+1) (.ref o ver off)=if fr o=true then (S.cellsOf o ver).bind fun cells=>(cells.mapM (rfq S fr f)).map (.ip · off) else none:=rfl
theorem yga {g:FuncId} {b:PV}:rfq S fr (f+1) (.bm g b)=some (.bm g b):=rfl
theorem z92 {g:FuncId} {b:PV}:(PV.bm g b).cells=[.bm g b]:=rfl
theorem yg1 {g:FuncId} {b:PV}:(PV.bm g b).isCell=true:=rfl
end
theorem zys {q:FuncId} {L A:List (List Bool)} {n:Nat} (hL:Sq n L) (h1:1≤n) (h9:n≤9) {bf:Nat→Nat→Bool} {f:Nat→Nat} (hq:∀ a b:Nat,a<n→b<n→PC Tryz.prog q [(.agg [zhp L,zhp A]),.int .i64 a,.int .i64 b] (.bool (bf a b)) true) (hf:∀ a b,a<n→b<n→(bf a b=true↔f a<f b)) {Z:List Int} (hZ:∀ z:List Int,z.Perm (rooms n)→(z.map fun x=>((f x.toNat:Nat):Int)).Pairwise (· ≤ ·)→z=Z):PN Tryz.prog 123 [(.agg [zhp L,zhp A]),.bm q (.agg [zhp L,zhp A])] (.loc 0 0 0 n) [.arr 0 3 1 (Z.map (.int .i64))] false:=by
 have hL1:=hL.1
 obtain ⟨l,hl,hln⟩:∃ l,l=rooms n∧l.length=n:=⟨_,rfl,zrf⟩
 subst hln
 have hmem:∀ x,x∈l→∃ a:Nat,x=a∧a<l.length:=fun x hx=>by rw [hl,zqp]at hx; exact ⟨x.toNat,by omega,by omega⟩
 have hcm:∀ x y,x∈l→y∈l→PC Tryz.prog 146 [.int .i64 x,.int .i64 y,.ip [.bm q (.agg [zhp L,zhp A])] 0] (.int .i64 (cmV (bf x.toNat y.toNat) (bf y.toNat x.toNat))) true:=fun x y hx hy=>by
  obtain ⟨a,rfl,ha⟩:=hmem x hx
  obtain ⟨b,rfl,hb⟩:=hmem y hy
  exact z4t (hq a b ha hb) (hq b a hb ha)
 have hlt:∀ x y,x∈l→y∈l→(cmV (bf x.toNat y.toNat) (bf y.toNat x.toNat)<0↔(fun x:Int=>((f x.toNat:Nat):Int)) x<(fun x:Int=>((f x.toNat:Nat):Int)) y):=fun x y hx hy=>by
  obtain ⟨a,rfl,ha⟩:=hmem x hx
  obtain ⟨b,rfl,hb⟩:=hmem y hy
  rw [yfp,hf _ _ (by simpa using ha) (by simpa using hb)]
  simp only; omega
 refine PN.of ⟨Tryz.func123,by kernel_rfl,rfl,by kernel_rfl⟩ zar mixed (by show 2≤Tryz.f123.ntmps; decide) ?_
 refine W.r fun K hK=>?_
 simp(disch:=omega)only[↓RU,RV,RH,↓reduceIte,qE,reduceCtorEq,if_pos,↓RS,RG,qA,qM,qL,ty0,ty2,zah,ty9,zgy,ze2,zgz,z92,yg1]
 apply hK;clear hK K
 refine W.joinS [3,5] (fun vs S=>∃ t tk:Nat,vs=[.ip [.bm q (.agg [zhp L,zhp A])] 0,.loc 0 t 0 l.length]∧S=⟨[.arr t 3 1 ((List.replicate l.length 0).map (.int .i64))],tk⟩) ?_ ?_
 ·
  refine W.k fun K hK=>?_
  simp(disch:=omega)only[↓RU,RV,RH,↓reduceIte,qE,reduceCtorEq,if_pos,↓RS,RG,qA,qM,qL,ty0,ty2,zab,zah,zgy,ze2,zaa,zgz,hL1,zew,zd6]
  apply hK;clear hK K
  refine xn ?_
  refine ⟨0,[2],[.ip [.bm q (.agg [zhp L,zhp A])] 0,.loc 0 3 0 l.length],⟨[.arr 3 3 1 ((List.replicate l.length 0).map (.int .i64))],4⟩,?_,?_,3,4,rfl,rfl⟩
  ·simp [-qU,Env.put,Env.of,zae,zb1,zaj,zao,zay,za0,zcc,zcd,zdc,zcb,zbi,zce,zdb,zdd,zbk,zbj,za1,zca,zcf,zda,zbg,zbf,zaz,zbh,zb9,zfe,qS,qP,qC,yei,yga,Store.cellsOf]
  simp [-qU,Env.put,Env.of,zae,zb1,zaj,zao,zay,za0,zcc,zcd,zdc,zcb,zbi,zce,zdb,zdd,zbk,zbj,za1,zca,zcf,zda,zbg,zbf,zaz,zbh,zb9,zfe,qS,qP,qC,z8f]
 rintro vs S - ⟨t0,tk0,rfl,rfl⟩
 refine W.seq ?_
 refine W.r fun K hK=>?_
 simp(disch:=omega)only[↓RU,RV,RH,↓reduceIte,qE,reduceCtorEq,if_pos,↓RS,RG,qA,qM,qL,zab,zaa]
 apply hK;clear hK K
 refine W.block ?_
 refine W.loop [3,5,12,13] (fun n vs S=>∃ i t tk:Nat,n=l.length - i∧i≤l.length∧vs=[.ip [.bm q (.agg [zhp L,zhp A])] 0,.loc 0 t 0 l.length,.int .i64 l.length,.int .i64 i]∧S=⟨[.arr t 3 1 ((l.take i++List.replicate (l.length - i) 0).map (.int .i64))],tk⟩) l.length ?_ ?_
 ·refine ⟨1,0,t0,tk0,rfl,by omega,?_,by simp [Store.take]⟩
  simp [Env.put,Env.of,zae]
 rintro n vs S - ⟨i,t,tk,rfl,h_i,rfl,rfl⟩
 refine W.r fun K hK=>?_
 simp(disch:=omega)only[↓RU,RV,RH,↓reduceIte,qE,reduceCtorEq,if_pos,w64,↓RS,RG,qA,qM,qL,zaa]
 apply hK;clear hK K
 refine W.seq ?_
 refine W.cond rfl (fun h=>?_) (fun h=>?_)
 ·try simp only[RL]at h
  have hix:l[i]?=some (i:Int):=by rw [hl]; exact zvd (by omega)
  have hol:(l.take i++List.replicate (l.length - i) 0).length=l.length:=by simp; omega
  refine W.skip ?_
  refine xn ?_
  refine W.seq ?_
  refine W.block ?_
  refine W.r fun K hK=>?_
  simp(disch:=omega)only[↓RU,RV,RH,↓reduceIte,qE,reduceCtorEq,if_pos,↓RS,RG,qA,qM,qL]
  apply hK;clear hK K
  refine W.k fun K hK=>?_
  simp(disch:=omega)only[↓RU,RV,RH,↓reduceIte,qE,reduceCtorEq,if_pos,↓RS,RG,qA,qM,qL,zab,zaa,zb0,zdt,hol]
  apply hK;clear hK K
  refine XbN ?_
  refine xn ?_
  refine W.k fun K hK=>?_
  simp(disch:=omega)only[↓RU,RV,RH,↓reduceIte,qE,reduceCtorEq,if_pos,w64,↓RS,RG,qA,qM,qL,zaa]
  apply hK;clear hK K
  refine xn ?_
  refine ⟨l.length - (i+1),by omega,1,i+1,t,tk,rfl,by omega,?_,?_⟩
  ·simp [Env.put,Env.of]
  simp only[za3,zwc hix]; rfl
 try simp only[RL]at h
 obtain rfl:l.length=i:=by omega
 rw [List.take_length,Nat.sub_self]
 simp only[List.replicate_zero,qN]
 refine W.exit ?_
 refine xe ?_
 refine xe ?_
 refine XBlock.hit ?_
 refine xn ?_
 refine W.r fun K hK=>?_
 simp(disch:=omega)only[↓RU,RV,RH,↓reduceIte,qE,reduceCtorEq,if_pos,qN,↓RS,RG,qA,qM,qL]
 refine zad.ev (ybg (F:=[]) (R:=[]) hcm hlt h9 h1) ?_
 rintro _ _ ⟨rfl,z,hz1,hz2,rfl⟩
 simp(disch:=omega)only[↓RU,RV,RH,↓reduceIte,qE,reduceCtorEq,if_pos,qN,↓RS,RG,qA,qM,qL]
 apply hK;clear hK K
 refine W.r fun K hK=>?_
 simp(disch:=omega)only[↓RU,RV,RH,↓reduceIte,qE,reduceCtorEq,if_pos,↓RS,RG,qA,qM,qL]
 apply hK;clear hK K
 refine W.ret ?_
 refine Br rfl ?_
 have e:=hZ z (by rw [← hl]; exact hz1) hz2
 subst e
 exact z2z rfl (z0f _)
end

theorem zp0 {f:Nat→Bool} {b:Nat}:(List.range (b+1)).countP f=(List.range b).countP f+(if f b then 1 else 0):=by
 rw [qS,List.countP_append]; simp
theorem znp {p:List Txt} (hp:zbe p=true):zc5 p=true∧za2 p=(rP p).length∧(rP p).length≤9∧1≤(rP p).length∧(∀ a b,a<(rP p).length→b<(rP p).length→zpv (zv2 p 0) a b=zc2 (lfM p) a b)∧∀ a b,a<(rP p).length→b<(rP p).length→zpv (zv2 p 1) a b=zc2 (abM p) a b:=by
 have hpl:=zeb hp
 have hN:=zc7 hpl
 have hr:=hN.rooms
 have h1:=hp
 rw [← zdq]at h1
 have hok:okB p=true:=by
  have h9:=h1
  unfold zdi zfu at h9
  simp only[qB]at h9
  exact h9.1.1
 obtain ⟨s0,s1⟩:=yba hN.hg (n:=(rP p).length) (by omega) (fun i j hi hj=>hN.cell hi hj) zfy
 exact ⟨hN.hg,hr,zjg hok,zj2 hok,fun a b ha hb=>(s0.2.2 a b ha hb).symm,fun a b ha hb=>(s1.2.2 a b ha hb).symm⟩
theorem zzy {p:List Txt} (hs:Sm p) (hp:zbe p=true) (below:Bool):PN Tryz.prog 96 [zaq p,.bool below] (.loc 0 0 0 (rP p).length) [.arr 0 3 1 ((srt p below).map (.int .i64))] false:=by
 obtain ⟨hg,hr,hn9,hn1,e0,e1⟩:=znp hp
 have h9:za2 p≤9:=by omega
 have hm0:=zt4 hg h9 0
 have hm1:=zt4 hg h9 1
 obtain ⟨f,hf,hi⟩:=zkw hp below
 have hahl:∀ a,a<(rP p).length→ahK p below a<(rP p).length:=fun a ha=>by rw [zpp hf ha]; exact zza ha
 obtain ⟨nr,hnr⟩:∃ nr:Nat,(rP p).length=nr:=⟨_,rfl⟩
 unfold srt
 rw [hnr]at hr hn9 hn1 e0 e1 hahl ⊢
 rw [show (za2 p).toNat=nr by omega]at hm0 hm1
 have hml:=hm0.1
 have hml1:=hm1.1
 refine PN.of ⟨Tryz.func96,by kernel_rfl,rfl,by kernel_rfl⟩ zar mixed (by show 2≤Tryz.f96.ntmps; decide) ?_
 refine W.r fun K hK=>?_
 simp(disch:=omega)only[↓RU,RV,RH,↓reduceIte,qE,reduceCtorEq,if_pos,↓RS,RG,qA,qM,qL]
 apply hK;clear hK K
 refine W.r fun K hK=>?_
 simp(disch:=omega)only[↓RU,RV,RH,↓reduceIte,qE,reduceCtorEq,if_pos,qN,↓RS,RG,qA,qM,qL]
 refine zad.pc (z1u hs hg h9 0) rfl (.inl rfl) ?_
 simp(disch:=omega)only[↓RU,RV,RH,↓reduceIte,qE,reduceCtorEq,if_pos,qN,↓RS,RG,qA,qM,qL]
 apply hK;clear hK K
 refine W.r fun K hK=>?_
 simp(disch:=omega)only[↓RU,RV,RH,↓reduceIte,qE,reduceCtorEq,if_pos,qN,↓RS,RG,qA,qM,qL]
 refine zad.pc (z1u hs hg h9 1) rfl (.inl rfl) ?_
 simp(disch:=omega)only[↓RU,RV,RH,↓reduceIte,qE,reduceCtorEq,if_pos,qN,↓RS,RG,qA,qM,qL]
 apply hK;clear hK K
 refine W.r fun K hK=>?_
 simp(disch:=omega)only[↓RU,RV,RH,↓reduceIte,qE,reduceCtorEq,if_pos,↓RS,RG,qA,qM,qL,zab,zaa,hml]
 apply hK;clear hK K
 refine W.r fun K hK=>?_
 simp(disch:=omega)only[↓RU,RV,RH,↓reduceIte,qE,reduceCtorEq,if_pos,↓RS,RG,qA,qM,qL,zab,zaa,zew,zd6]
 apply hK;clear hK K
 refine W.seq ?_
 refine W.r fun K hK=>?_
 simp(disch:=omega)only[↓RU,RV,RH,↓reduceIte,qE,reduceCtorEq,if_pos,↓RS,RG,qA,qM,qL]
 apply hK;clear hK K
 refine W.block ?_
 refine W.loop [0,1,5,6,7,8,9] (fun n vs S=>∃ a:Nat,n=nr - a∧a≤nr∧vs=[zaq p,.bool below,zzl (zv2 p 0),zzl (zv2 p 1),.int .i64 nr,.loc 0 0 0 nr,.int .i64 a]∧S=⟨[.arr 0 3 1 ((zgq (ahK p below) nr a).map (.int .i64))],1⟩) (nr) ?_ ?_
 ·refine ⟨1,0,rfl,Nat.zero_le _,?_,by simp [za3,zgq]⟩
  simp [Env.put,Env.of,zae]
 rintro n vs S - ⟨a,rfl,h_a,rfl,rfl⟩
 refine W.seq ?_
 refine W.r fun K hK=>?_
 simp(disch:=omega)only[↓RU,RV,RH,↓reduceIte,qE,reduceCtorEq,if_pos,w64,↓RS,RG,qA,qM,qL,zaa]
 apply hK;clear hK K
 refine W.cond rfl (fun h=>?_) (fun h=>?_)
 ·try simp only[RL]at h
  have hal:=zic (ah:=ahK p below) (n:=nr) a
  have hah:=hahl a (by omega)
  refine W.skip ?_
  refine xn ?_
  refine W.seq ?_
  refine W.block ?_
  refine W.r fun K hK=>?_
  simp(disch:=omega)only[↓RU,RV,RH,↓reduceIte,qE,reduceCtorEq,if_pos,↓RS,RG,qA,qM,qL]
  apply hK;clear hK K
  refine W.seq ?_
  refine W.r fun K hK=>?_
  simp(disch:=omega)only[↓RU,RV,RH,↓reduceIte,qE,reduceCtorEq,if_pos,↓RS,RG,qA,qM,qL]
  apply hK;clear hK K
  refine W.block ?_
  refine W.loop [0,1,5,6,7,8,9,10,11] (fun n vs S=>∃ b:Nat,n=nr - b∧b≤nr∧vs=[zaq p,.bool below,zzl (zv2 p 0),zzl (zv2 p 1),.int .i64 nr,.loc 0 0 0 nr,.int .i64 a,.int .i64 (((List.range b).countP fun c=>bfK p below c a):Nat),.int .i64 b]∧S=⟨[.arr 0 3 1 ((zgq (ahK p below) nr a).map (.int .i64))],1⟩) nr ?_ ?_
  ·refine ⟨1,0,rfl,Nat.zero_le _,?_,rfl⟩
   simp [Env.put,Env.of]
  rintro n vs S - ⟨b,rfl,h_b,rfl,rfl⟩
  refine W.seq ?_
  refine W.r fun K hK=>?_
  simp(disch:=omega)only[↓RU,RV,RH,↓reduceIte,qE,reduceCtorEq,if_pos,w64,↓RS,RG,qA,qM,qL,zaa]
  apply hK;clear hK K
  refine W.cond rfl (fun h1=>?_) (fun h1=>?_)
  ·try simp only[RL]at h1
   have hcl:((List.range b).countP fun c=>bfK p below c a)≤b:=by have:=List.countP_le_length (p:=fun c=>bfK p below c a) (l:=List.range b); simpa using this
   obtain ⟨m,hm,hm5⟩:=hm0.at_ (show b<nr by omega)
   obtain ⟨k,hk,hk5⟩:=hm1.at_ (show a<nr by omega)
   obtain ⟨o,ho,ho5⟩:=hm1.at_ (show b<nr by omega)
   have e0m:=e0 b a (by omega) (by omega)
   have e1k:=e1 a b (by omega) (by omega)
   have e1o:=e1 b a (by omega) (by omega)
   rw [zig hm]at e0m
   rw [zig hk]at e1k
   rw [zig ho]at e1o
   refine W.skip ?_
   refine xn ?_
   refine W.seq ?_
   refine W.block ?_
   refine W.r fun K hK=>?_
   simp(disch:=omega)only[↓RU,RV,RH,↓reduceIte,qE,reduceCtorEq,if_pos,w64,↓RS,RG,qA,qM,qL,zab,zaa,hm,hml,yfa,z44]
   apply hK;clear hK K
   refine W.join [0,1,5,6,7,8,9,10,11,12] (fun vs S=>vs=[zaq p,.bool below,zzl (zv2 p 0),zzl (zv2 p 1),.int .i64 nr,.loc 0 0 0 nr,.int .i64 a,.int .i64 (((List.range b).countP fun c=>bfK p below c a):Nat),.int .i64 b,.bool (bfK p below b a)]∧S=⟨[.arr 0 3 1 ((zgq (ahK p below) nr a).map (.int .i64))],1⟩) ?_ ?_
   ·
    refine W.r fun K hK=>?_
    simp(disch:=omega)only[↓RU,RV,RH,↓reduceIte,qE,reduceCtorEq,if_pos,↓RS,RG,qA,qM,qL]
    apply hK;clear hK K
    refine W.cond rfl (fun h2=>?_) (fun h2=>?_)
    ·try simp only[RL]at h2
     refine W.k fun K hK=>?_
     cases hx:m.testBit a
     ·skip
      simp(disch:=omega)only[↓RU,RV,RH,↓reduceIte,qE,reduceCtorEq,if_pos,w64,↓RS,RG,qA,qM,qL,zab,zaa,hk,hml1,yfa,z44]
      apply hK;clear hK K
      refine xn ?_
      refine ⟨1,?_,?_⟩
      ·simp [Env.put,Env.of,bfK,bf2,h2,← e0m,← e1k,hx]
      rfl
     skip
     simp(disch:=omega)only[↓RU,RV,RH,↓reduceIte,qE,reduceCtorEq,if_pos,w64,↓RS,RG,qA,qM,qL,zab,zaa,hk,hml1,yfa,z44]
     apply hK;clear hK K
     refine xn ?_
     refine ⟨1,?_,?_⟩
     ·simp [Env.put,Env.of,bfK,bf2,h2,← e0m,hx]
     rfl
    try simp only[RL]at h2
    refine W.k fun K hK=>?_
    cases hx:m.testBit a
    ·skip
     simp(disch:=omega)only[↓RU,RV,RH,↓reduceIte,qE,reduceCtorEq,if_pos,w64,↓RS,RG,qA,qM,qL,zab,zaa,ho,hml1,yfa,z44]
     apply hK;clear hK K
     refine xn ?_
     refine ⟨1,?_,?_⟩
     ·simp [Env.put,Env.of,bfK,bf1,h2,← e0m,← e1o,hx]
     rfl
    skip
    simp(disch:=omega)only[↓RU,RV,RH,↓reduceIte,qE,reduceCtorEq,if_pos,w64,↓RS,RG,qA,qM,qL,zab,zaa,ho,hml1,yfa,z44]
    apply hK;clear hK K
    refine xn ?_
    refine ⟨1,?_,?_⟩
    ·simp [Env.put,Env.of,bfK,bf1,h2,← e0m,hx]
    rfl
   rintro vs S - ⟨rfl,rfl⟩
   refine W.r fun K hK=>?_
   simp(disch:=omega)only[↓RU,RV,RH,↓reduceIte,qE,reduceCtorEq,if_pos,↓RS,RG,qA,qM,qL]
   apply hK;clear hK K
   refine W.cond rfl (fun h3=>?_) (fun h3=>?_)
   ·try simp only[RL]at h3
    refine W.k fun K hK=>?_
    simp(disch:=omega)only[↓RU,RV,RH,↓reduceIte,qE,reduceCtorEq,if_pos,w64,↓RS,RG,qA,qM,qL,zaa]
    apply hK;clear hK K
    refine XbN ?_
    refine xn ?_
    refine W.k fun K hK=>?_
    simp(disch:=omega)only[↓RU,RV,RH,↓reduceIte,qE,reduceCtorEq,if_pos,w64,↓RS,RG,qA,qM,qL,zaa]
    apply hK;clear hK K
    refine xn ?_
    refine ⟨nr - (b+1),by omega,1,b+1,rfl,by omega,?_,rfl⟩
    simp only[zp0,h3]
    simp [Env.put,Env.of]
   try simp only[RL]at h3
   refine W.skip ?_
   refine XbN ?_
   refine xn ?_
   refine W.k fun K hK=>?_
   simp(disch:=omega)only[↓RU,RV,RH,↓reduceIte,qE,reduceCtorEq,if_pos,w64,↓RS,RG,qA,qM,qL,zaa]
   apply hK;clear hK K
   refine xn ?_
   refine ⟨nr - (b+1),by omega,1,b+1,rfl,by omega,?_,rfl⟩
   simp only[zp0,h3]
   simp [Env.put,Env.of]
  try simp only[RL]at h1
  obtain rfl:nr=b:=by omega
  have hcq:((List.range nr).countP fun c=>bfK p below c a)=ahK p below a:=by unfold ahK; rw [hnr]
  refine W.exit ?_
  refine xe ?_
  refine xe ?_
  refine XBlock.hit ?_
  refine xn ?_
  refine W.k fun K hK=>?_
  rw [hcq]
  simp(disch:=omega)only[↓RU,RV,RH,↓reduceIte,qE,reduceCtorEq,if_pos,↓RS,RG,qA,qM,qL,zab,zaa,hal,zb0,zdt]
  apply hK;clear hK K
  refine XbN ?_
  refine xn ?_
  refine W.k fun K hK=>?_
  simp(disch:=omega)only[↓RU,RV,RH,↓reduceIte,qE,reduceCtorEq,if_pos,w64,↓RS,RG,qA,qM,qL,zaa]
  apply hK;clear hK K
  refine xn ?_
  refine ⟨nr - (a+1),by omega,1,a+1,rfl,by omega,?_,?_⟩
  ·simp [Env.put,Env.of]
  simp only[za3,zgq]; rfl
 try simp only[RL]at h
 obtain rfl:nr=a:=by omega
 refine W.exit ?_
 refine xe ?_
 refine xe ?_
 refine XBlock.hit ?_
 refine xn ?_
 refine W.r fun K hK=>?_
 simp(disch:=omega)only[↓RU,RV,RH,↓reduceIte,qE,reduceCtorEq,if_pos,↓RS,RG,qA,qM,qL]
 apply hK;clear hK K
 refine W.ret ?_
 refine Br rfl ?_
 rw [← hnr]
 exact z2z rfl (z0f _)

theorem zok {S:Store} {a b:Bool}:pEq tab S 4 (.bool a) (.bool b)=some (a == b):=rfl


theorem PN.ints0 {P:Program} {f:FuncId} {args:List PV} {l:List Int} {n:Nat} {im:Bool} (h:PN P f args (.loc 0 0 0 n) [.arr 0 3 1 (l.map (.int .i64))] im) (h1:args.mapM (reify ⟨[],0⟩ true 10)=some args) (hl:l.length=n):PC P f args (eInts l) true:=by
 refine PN.pc h h1 ?_
 subst hl
 simp only[z3d,List.map_cons,List.map_nil,zm5,z0o,Nat.add_zero]
 exact zcl (k:=9) rfl (by simp) (zjz _)
theorem z4u {p:List Txt} (hv:zdi p=true):PC Tryz.prog 123 [(.agg [zhp (lfM p),zhp (abM p)]),.bm 124 (.agg [zhp (lfM p),zhp (abM p)])] (eInts (srt p false)) true∧PC Tryz.prog 123 [(.agg [zhp (lfM p),zhp (abM p)]),.bm 125 (.agg [zhp (lfM p),zhp (abM p)])] (eInts (srt p true)) true:=by
 have hok:=(zmi hv).1
 have hn9:=zjg hok
 have hn1:=zj2 hok
 have hlq:=ycm hv
 have haq:=yb4 hv
 have hp:zbe p=true:=by rw [← zdq]; exact hv
 obtain ⟨f,hf,hi⟩:=zkw hp false
 obtain ⟨g,hg,hj⟩:=zkw hp true
 exact ⟨PN.ints0 (zys (bf:=bfK p false) hlq hn1 hn9 (fun a b ha hb=>z5j hlq haq ha hb) hf (fun z h1 h2=>z8y hf hi h1 h2)) rfl zis,
  PN.ints0 (zys (bf:=bfK p true) hlq hn1 hn9 (fun a b ha hb=>zpu hlq haq ha hb) hg (fun z h1 h2=>z8y hg hj h1 h2)) rfl zis⟩
theorem z3q {l:List Int} (hl:l.length<2147483648) {x:Int} {i:Nat} (hx:l[i]?=some x) (hi:∀ (j:Nat),j<i→l[j]?≠some x):PC Tryz.prog 126 [eInts l,.int .i64 x] (.int .i64 i) true:=by
 refine PC.of ⟨Tryz.func126,by kernel_rfl,rfl,by kernel_rfl⟩ zar mixed (by show 2≤Tryz.f126.ntmps; decide) ?_
 refine W.r fun K hK=>?_
 simp(disch:=omega)only[↓RU,RV,RH,↓reduceIte,qE,reduceCtorEq,if_pos]
 apply hK;clear hK K
 refine W.seq ?_
 refine W.r fun K hK=>?_
 simp(disch:=omega)only[↓RU,RV,RH,↓reduceIte,qE,reduceCtorEq,if_pos,zab,zaa]
 apply hK;clear hK K
 refine W.block ?_
 refine W.loop [0,1,7,8] (fun n vs S=>∃ j:Nat,n=l.length - j∧j≤l.length∧(j≤i)∧vs=[eInts l,.int .i64 x,.int .i64 l.length,.int .i64 j]∧S=⟨[],0⟩) (l.length) ?_ ?_
 ·refine ⟨0,0,rfl,Nat.zero_le _,Nat.zero_le _,?_,rfl⟩
  simp [Env.put,Env.of,zae]
 rintro n vs S - ⟨j,rfl,h_j,hji,rfl,rfl⟩
 refine W.r fun K hK=>?_
 simp(disch:=omega)only[↓RU,RV,RH,↓reduceIte,qE,reduceCtorEq,if_pos,w64,zaa]
 apply hK;clear hK K
 refine W.seq ?_
 refine W.cond rfl (fun h=>?_) (fun h=>?_)
 ·try simp only[RL]at h
  obtain ⟨y,hy,-⟩:=zag (show j<l.length by omega)
  refine W.skip ?_
  refine xn ?_
  refine W.seq ?_
  refine W.block ?_
  refine W.r fun K hK=>?_
  simp(disch:=omega)only[↓RU,RV,RH,↓reduceIte,qE,reduceCtorEq,if_pos]
  apply hK;clear hK K
  refine W.r fun K hK=>?_
  simp(disch:=omega)only[↓RU,RV,RH,↓reduceIte,qE,reduceCtorEq,if_pos,w64,zab,zaa,hy]
  apply hK;clear hK K
  refine W.cond rfl (fun h1=>?_) (fun h1=>?_)
  ·try simp only[RL]at h1
   have e:x=y:=by simpa using h1
   have hij:j=i:=by
    refine Classical.byContradiction fun k=>hi j (by omega) (by rw [hy,e])
   subst hij
   refine W.r fun K hK=>?_
   simp(disch:=omega)only[↓RU,RV,RH,↓reduceIte,qE,reduceCtorEq,if_pos]
   apply hK;clear hK K
   refine W.ret ?_
   refine XBlock.ret ?_
   refine XThen.ret ?_
   refine XThen.ret ?_
   refine XBlock.ret ?_
   refine XThen.ret ?_
   refine Br rfl ?_
   rfl
  try simp only[RL]at h1
  have hne:j≠i:=by rintro rfl; rw [hx]at hy; cases hy; simp at h1
  refine W.skip ?_
  refine XbN ?_
  refine xn ?_
  refine W.k fun K hK=>?_
  simp(disch:=omega)only[↓RU,RV,RH,↓reduceIte,qE,reduceCtorEq,if_pos,w64,zaa]
  apply hK;clear hK K
  refine xn ?_
  refine ⟨l.length - (j+1),by omega,0,j+1,rfl,by omega,by have:=hne; omega,?_,rfl⟩
  simp [Env.put,Env.of]
 try simp only[RL]at h
 exact absurd (zb7 hx) (by omega)
theorem yec {p:List Txt} (hv:zdi p=true):PN Tryz.prog 95 [(.agg [zhp (lfM p),zhp (abM p)])] (.loc 0 0 0 (rP p).length) [.arr 0 3 1 ((zdu p).map (.int .i64))] false:=by
 have hok:=(zmi hv).1
 have hn9:=zjg hok
 have hn1:=zj2 hok
 have hlq:=ycm hv
 have haq:=yb4 hv
 have hp:zbe p=true:=by rw [← zdq]; exact hv
 obtain ⟨hs1,hs2⟩:=z4u hv
 have hl1:=zis (p:=p) (below:=false)
 have hl2:=zis (p:=p) (below:=true)
 have hpl:=zfn (p:=p)
 refine PN.of ⟨Tryz.func95,by kernel_rfl,rfl,by kernel_rfl⟩ zar mixed (by show 1≤Tryz.f95.ntmps; decide) ?_
 refine W.r fun K hK=>?_
 simp(disch:=omega)only[↓RU,RV,RH,↓reduceIte,qE,reduceCtorEq,if_pos,↓RS,RG,qA,qM,qL,ty0,ty2,zah,zgy,ze2,zgz]
 apply hK;clear hK K
 refine W.r fun K hK=>?_
 simp(disch:=omega)only[↓RU,RV,RH,↓reduceIte,qE,reduceCtorEq,if_pos,qN,↓RS,RG,qA,qM,qL,ty0,ty2,zah,zgy,ze2,zgz,zu0,List.isEmpty_nil,Bool.and_self]
 refine zad.pc (hs1) rfl (.inl rfl) ?_
 simp(disch:=omega)only[↓RU,RV,RH,↓reduceIte,qE,reduceCtorEq,if_pos,qN,↓RS,RG,qA,qM,qL,ty0,ty2,zah,zgy,ze2,zgz,zu0,List.isEmpty_nil,Bool.and_self]
 apply hK;clear hK K
 refine W.r fun K hK=>?_
 simp(disch:=omega)only[↓RU,RV,RH,↓reduceIte,qE,reduceCtorEq,if_pos,qN,↓RS,RG,qA,qM,qL,ty0,ty2,zah,zgy,ze2,zgz,zu0,List.isEmpty_nil,Bool.and_self]
 refine zad.pc (hs2) rfl (.inl rfl) ?_
 simp(disch:=omega)only[↓RU,RV,RH,↓reduceIte,qE,reduceCtorEq,if_pos,qN,↓RS,RG,qA,qM,qL,ty0,ty2,zah,zgy,ze2,zgz,zu0,List.isEmpty_nil,Bool.and_self]
 apply hK;clear hK K
 refine W.joinS [3,4,5] (fun vs S=>∃ t tk:Nat,vs=[eInts (srt p false),eInts (srt p true),.loc 0 t 0 (rP p).length]∧S=⟨[.arr t 3 1 ((List.replicate (rP p).length 0).map (.int .i64))],tk⟩) ?_ ?_
 ·
  refine W.k fun K hK=>?_
  simp(disch:=omega)only[↓RU,RV,RH,↓reduceIte,qE,reduceCtorEq,if_pos,↓RS,RG,qA,qM,qL,zab,zaa,hl2,zew,zd6]
  apply hK;clear hK K
  refine xn ?_
  refine ⟨0,[1],[eInts (srt p false),eInts (srt p true),.loc 0 2 0 (rP p).length],⟨[.arr 2 3 1 ((List.replicate (rP p).length 0).map (.int .i64))],3⟩,?_,?_,2,3,rfl,rfl⟩
  ·simp [-qU,Env.put,Env.of,zae,zb1,zaj,zao,zay,za0,zcc,zcd,zdc,zcb,zbi,zce,zdb,zdd,zbk,zbj,za1,zca,zcf,zda,zbg,zbf,zaz,zbh,zb9,zfe,qS,qP,qC,Store.cellsOf]
  simp [-qU,Env.put,Env.of,zae,zb1,zaj,zao,zay,za0,zcc,zcd,zdc,zcb,zbi,zce,zdb,zdd,zbk,zbj,za1,zca,zcf,zda,zbg,zbf,zaz,zbh,zb9,zfe,qS,qP,qC,z8f]
 rintro vs S - ⟨t0,tk0,rfl,rfl⟩
 refine W.seq ?_
 refine W.r fun K hK=>?_
 simp(disch:=omega)only[↓RU,RV,RH,↓reduceIte,qE,reduceCtorEq,if_pos,↓RS,RG,qA,qM,qL,zab,zaa]
 apply hK;clear hK K
 refine W.block ?_
 refine W.loop [3,5,19,20,21] (fun n vs S=>∃ i t tk:Nat,n=(rP p).length - i∧i≤(rP p).length∧vs=[eInts (srt p false),.loc 0 t 0 (rP p).length,eInts (srt p true),.int .i64 (rP p).length,.int .i64 i]∧S=⟨[.arr t 3 1 (((zdu p).take i++List.replicate ((rP p).length - i) 0).map (.int .i64))],tk⟩) (rP p).length ?_ ?_
 ·refine ⟨1,0,t0,tk0,rfl,by omega,?_,by simp [Store.take]⟩
  simp [Env.put,Env.of,zae,hl2]
 rintro n vs S - ⟨i,t,tk,rfl,h_i,rfl,rfl⟩
 refine W.r fun K hK=>?_
 simp(disch:=omega)only[↓RU,RV,RH,↓reduceIte,qE,reduceCtorEq,if_pos,w64,↓RS,RG,qA,qM,qL,zaa]
 apply hK;clear hK K
 refine W.seq ?_
 refine W.cond rfl (fun h=>?_) (fun h=>?_)
 ·try simp only[RL]at h
  obtain ⟨a,ha,ha2,hsa⟩:=zll (below:=true) hp (show i<(rP p).length by omega)
  have hpa:=zpe hp hsa
  have hix:=z24 (below:=false) hp ha
  have hin:∀ j,j<ahK p false a→(srt p false)[j]?≠some (a:Int):=fun j hj k=>by
   have k1:=zb7 hix
   have k2:=zb7 k
   rw [List.getElem?_eq_getElem k1]at hix
   rw [List.getElem?_eq_getElem k2]at k
   have:=zqr (zyu hp) k1 k2 ((Option.some.inj hix).trans (Option.some.inj k).symm)
   omega
  have hol:((zdu p).take i++List.replicate ((rP p).length - i) 0).length=(rP p).length:=by simp [hpl]; omega
  refine W.skip ?_
  refine xn ?_
  refine W.seq ?_
  refine W.block ?_
  refine W.r fun K hK=>?_
  simp(disch:=omega)only[↓RU,RV,RH,↓reduceIte,qE,reduceCtorEq,if_pos,↓RS,RG,qA,qM,qL,zab,zaa,hsa]
  apply hK;clear hK K
  refine W.k fun K hK=>?_
  simp(disch:=omega)only[↓RU,RV,RH,↓reduceIte,qE,reduceCtorEq,if_pos,qN,↓RS,RG,qA,qM,qL,zab,zaa,zb0,zdt,hol]
  refine zad.pc (z3q (by omega) hix hin) rfl (.inl rfl) ?_
  simp(disch:=omega)only[↓RU,RV,RH,↓reduceIte,qE,reduceCtorEq,if_pos,qN,↓RS,RG,qA,qM,qL,zab,zaa,zb0,zdt,hol]
  apply hK;clear hK K
  refine XbN ?_
  refine xn ?_
  refine W.k fun K hK=>?_
  simp(disch:=omega)only[↓RU,RV,RH,↓reduceIte,qE,reduceCtorEq,if_pos,w64,↓RS,RG,qA,qM,qL,zaa]
  apply hK;clear hK K
  refine xn ?_
  refine ⟨(rP p).length - (i+1),by omega,1,i+1,t,tk,rfl,by omega,?_,?_⟩
  ·simp [Env.put,Env.of]
  rw [← hpl]; simp only[za3,zwc hpa]; rfl
 try simp only[RL]at h
 obtain rfl:i=(rP p).length:=by omega
 rw [qT (by omega),Nat.sub_self]
 simp only[List.replicate_zero,qN]
 refine W.exit ?_
 refine xe ?_
 refine xe ?_
 refine XBlock.hit ?_
 refine xn ?_
 refine W.r fun K hK=>?_
 simp(disch:=omega)only[↓RU,RV,RH,↓reduceIte,qE,reduceCtorEq,if_pos,↓RS,RG,qA,qM,qL]
 apply hK;clear hK K
 refine W.ret ?_
 refine Br rfl ?_
 exact z2z rfl (z0f _)
theorem yeb {p:List Txt} (hv:zdi p=true):PC Tryz.prog 95 [.agg [zhp (lfM p),zhp (abM p)]] (eInts (zdu p)) true:=PN.ints0 (yec hv) rfl zfn
def ifL (b:Bool) (l:List Int):List Int:=if b then l else []
theorem zx1 {p:List Txt} {b:Bool} (h:zdi p=b):zbe p=b:=by rw [← zdq]; exact h
theorem zqm {p:List Txt} (hs:Sm p) (hp:zbe p=true) (below:Bool):PC Tryz.prog 96 [zaq p,.bool below] (eInts (srt p below)) true:=PN.ints0 (zzy hs hp below) rfl zis
theorem zxj {p:List Txt} (hs:Sm p) (hv:zdi p=false):PC Tryz.prog 47 [zaq p] (.tup [eInts [],.bool false]) false:=by
 refine PC.of ⟨Tryz.func47,by kernel_rfl,rfl,by kernel_rfl⟩ zar mixed (by show 1≤Tryz.f47.ntmps; decide) ?_
 refine W.r fun K hK=>?_
 simp(disch:=omega)only[↓RU,RV,RH,↓reduceIte,qE,reduceCtorEq,if_pos,↓RS,RG,qA,qM,qL]
 apply hK;clear hK K
 refine W.r fun K hK=>?_
 simp(disch:=omega)only[↓RU,RV,RH,↓reduceIte,qE,reduceCtorEq,if_pos,qN,↓RS,RG,qA,qM,qL,ty0,ty2,zah,zgy,ze2,zgz]
 refine zad.pc (zz1 hs hv) rfl (.inr rfl) ?_
 simp(disch:=omega)only[↓RU,RV,RH,↓reduceIte,qE,reduceCtorEq,if_pos,qN,↓RS,RG,qA,qM,qL,ty0,ty2,zah,zgy,ze2,zgz]
 apply hK;clear hK K
 refine W.seq ?_
 refine W.r fun K hK=>?_
 simp(disch:=omega)only[↓RU,RV,RH,↓reduceIte,qE,reduceCtorEq,if_pos,↓RS,RG,qA,qM,qL]
 apply hK;clear hK K
 refine W.cond rfl (fun h=>?_) (fun h=>?_)
 ·try simp only[RL]at h
  refine W.r fun K hK=>?_
  simp(disch:=omega)only[↓RU,RV,RH,↓reduceIte,qE,reduceCtorEq,if_pos,↓RS,RG,qA,qM,qL]
  apply hK;clear hK K
  refine W.ret ?_
  refine XThen.ret ?_
  refine Br rfl ?_
  rfl
 try simp only[RL]at h
 exact absurd h (by simp)
theorem zuu {p:List Txt} (hs:Sm p) (hv:zdi p=true):PC Tryz.prog 47 [zaq p] (.tup [eInts (zdu p),.bool true]) false:=by
 refine PC.of ⟨Tryz.func47,by kernel_rfl,rfl,by kernel_rfl⟩ zar mixed (by show 1≤Tryz.f47.ntmps; decide) ?_
 refine W.r fun K hK=>?_
 simp(disch:=omega)only[↓RU,RV,RH,↓reduceIte,qE,reduceCtorEq,if_pos,↓RS,RG,qA,qM,qL]
 apply hK;clear hK K
 refine W.r fun K hK=>?_
 simp(disch:=omega)only[↓RU,RV,RH,↓reduceIte,qE,reduceCtorEq,if_pos,qN,↓RS,RG,qA,qM,qL,ty0,ty2,zah,zgy,ze2,zgz]
 refine zad.pc (zxk hs hv) rfl (.inr rfl) ?_
 simp(disch:=omega)only[↓RU,RV,RH,↓reduceIte,qE,reduceCtorEq,if_pos,qN,↓RS,RG,qA,qM,qL,ty0,ty2,zah,zgy,ze2,zgz]
 apply hK;clear hK K
 refine W.seq ?_
 refine W.r fun K hK=>?_
 simp(disch:=omega)only[↓RU,RV,RH,↓reduceIte,qE,reduceCtorEq,if_pos,↓RS,RG,qA,qM,qL]
 apply hK;clear hK K
 refine W.cond rfl (fun h=>?_) (fun h=>?_)
 ·try simp only[RL]at h
  exact absurd h (by simp)
 try simp only[RL]at h
 refine W.skip ?_
 refine xn ?_
 refine W.r fun K hK=>?_
 simp(disch:=omega)only[↓RU,RV,RH,↓reduceIte,qE,reduceCtorEq,if_pos,qN,↓RS,RG,qA,qM,qL,ty0,ty2,zah,zgy,ze2,zgz]
 refine zad.pc (yeb hv) rfl (.inl rfl) ?_
 simp(disch:=omega)only[↓RU,RV,RH,↓reduceIte,qE,reduceCtorEq,if_pos,qN,↓RS,RG,qA,qM,qL,ty0,ty2,zah,zgy,ze2,zgz]
 apply hK;clear hK K
 refine W.ret ?_
 refine Br rfl ?_
 rfl
theorem zoj {p:List Txt} (hs:Sm p):PC Tryz.prog 47 [zaq p] (.tup [eInts (ifL (zdi p) (zdu p)),.bool (zdi p)]) false:=by
 cases hv:zdi p with
 | false=>exact zxj hs hv
 | true=>exact zuu hs hv
theorem zw5 {p:List Txt} (hs:Sm p) (hp:zbe p=true):PC Tryz.prog 51 [zaq p] (eInts (zdu p)) true:=by
 obtain ⟨hg,hr,hn9,hn1,-,-⟩:=znp hp
 have hl1:=zis (p:=p) (below:=false)
 have hl2:=zis (p:=p) (below:=true)
 have hpl:=zfn (p:=p)
 refine PC.of ⟨Tryz.func51,by kernel_rfl,rfl,by kernel_rfl⟩ zar mixed (by show 1≤Tryz.f51.ntmps; decide) ?_
 refine W.r fun K hK=>?_
 simp(disch:=omega)only[↓RU,RV,RH,↓reduceIte,qE,reduceCtorEq,if_pos,↓RS,RG,qA,qM,qL]
 apply hK;clear hK K
 refine W.r fun K hK=>?_
 simp(disch:=omega)only[↓RU,RV,RH,↓reduceIte,qE,reduceCtorEq,if_pos,qN,↓RS,RG,qA,qM,qL]
 refine zad.pc (zqm hs hp false) rfl (.inl rfl) ?_
 simp(disch:=omega)only[↓RU,RV,RH,↓reduceIte,qE,reduceCtorEq,if_pos,qN,↓RS,RG,qA,qM,qL]
 apply hK;clear hK K
 refine W.r fun K hK=>?_
 simp(disch:=omega)only[↓RU,RV,RH,↓reduceIte,qE,reduceCtorEq,if_pos,qN,↓RS,RG,qA,qM,qL]
 refine zad.pc (zqm hs hp true) rfl (.inl rfl) ?_
 simp(disch:=omega)only[↓RU,RV,RH,↓reduceIte,qE,reduceCtorEq,if_pos,qN,↓RS,RG,qA,qM,qL]
 apply hK;clear hK K
 refine W.r fun K hK=>?_
 simp(disch:=omega)only[↓RU,RV,RH,↓reduceIte,qE,reduceCtorEq,if_pos,↓RS,RG,qA,qM,qL,zab,zaa,hl1,zew,zd6]
 apply hK;clear hK K
 refine W.seq ?_
 refine W.r fun K hK=>?_
 simp(disch:=omega)only[↓RU,RV,RH,↓reduceIte,qE,reduceCtorEq,if_pos,↓RS,RG,qA,qM,qL]
 apply hK;clear hK K
 refine W.block ?_
 refine W.loop [3,4,5,6] (fun n vs S=>∃ i t tv:Nat,n=(rP p).length - i∧i≤(rP p).length∧vs=[eInts (srt p false),eInts (srt p true),.loc 0 t 0 (rP p).length,.int .i64 i]∧S=⟨[.arr t 3 1 ((ya0 p i).map (.int .i64))],tv⟩) (rP p).length ?_ ?_
 ·refine ⟨1,0,0,1,rfl,by omega,?_,rfl⟩
  simp [Env.put,Env.of,zae]
 rintro n vs S - ⟨i,t,tv,rfl,h_i,rfl,rfl⟩
 refine W.seq ?_
 refine W.r fun K hK=>?_
 simp(disch:=omega)only[↓RU,RV,RH,↓reduceIte,qE,reduceCtorEq,if_pos,w64,↓RS,RG,qA,qM,qL,zab,zaa]
 apply hK;clear hK K
 refine W.cond rfl (fun h=>?_) (fun h=>?_)
 ·try simp only[RL]at h
  obtain ⟨a,ha,ha2,hsa⟩:=zll (below:=false) hp (show i<(rP p).length by omega)
  have hpl2:=zpg (p:=p) i
  refine W.skip ?_
  refine xn ?_
  refine W.seq ?_
  refine W.block ?_
  refine W.k fun K hK=>?_
  simp(disch:=omega)only[↓RU,RV,RH,↓reduceIte,qE,reduceCtorEq,if_pos,↓RS,RG,qA,qM,qL,zab,zaa,hsa,hpl2,zb0,zdt,Int.toNat_natCast]
  apply hK;clear hK K
  refine XbN ?_
  refine xn ?_
  refine W.k fun K hK=>?_
  simp(disch:=omega)only[↓RU,RV,RH,↓reduceIte,qE,reduceCtorEq,if_pos,w64,↓RS,RG,qA,qM,qL,zaa]
  apply hK;clear hK K
  refine xn ?_
  refine ⟨(rP p).length - (i+1),by omega,1,i+1,t,tv,rfl,by omega,?_,?_⟩
  ·simp [Env.put,Env.of]
  simp only[za3,ya0,zzs hsa,Int.toNat_natCast]; rfl
 try simp only[RL]at h
 obtain rfl:i=(rP p).length:=by omega
 have hpl2:=zpg (p:=p) (rP p).length
 refine W.exit ?_
 refine xe ?_
 refine xe ?_
 refine XBlock.hit ?_
 refine xn ?_
 refine W.r fun K hK=>?_
 simp(disch:=omega)only[↓RU,RV,RH,↓reduceIte,qE,reduceCtorEq,if_pos,↓RS,RG,qA,qM,qL,zab,zaa]
 apply hK;clear hK K
 refine W.seq ?_
 refine W.r fun K hK=>?_
 simp(disch:=omega)only[↓RU,RV,RH,↓reduceIte,qE,reduceCtorEq,if_pos,↓RS,RG,qA,qM,qL]
 apply hK;clear hK K
 refine W.block ?_
 refine W.loop [4,5,7,8] (fun n vs S=>∃ k vo tk2:Nat,n=(rP p).length - k∧k≤(rP p).length∧vs=[eInts (srt p true),.loc 0 t 0 (rP p).length,.loc 1 vo 0 k,.int .i64 k]∧S=⟨[.arr t 3 1 ((ya0 p (rP p).length).map (.int .i64)),.arr vo 3 1 (((zdu p).take k).map (.int .i64))],tk2⟩) (rP p).length ?_ ?_
 ·refine ⟨2,0,tv,tv+1,rfl,by omega,?_,by simp [za3]⟩
  simp [Env.put,Env.of]
 rintro n vs S - ⟨k,vo,tk2,rfl,h_k,rfl,rfl⟩
 refine W.seq ?_
 refine W.r fun K hK=>?_
 simp(disch:=omega)only[↓RU,RV,RH,↓reduceIte,qE,reduceCtorEq,if_pos,w64,↓RS,RG,qA,qM,qL,zab,zaa]
 apply hK;clear hK K
 refine W.cond rfl (fun h1=>?_) (fun h1=>?_)
 ·try simp only[RL]at h1
  obtain ⟨b,hb,hb2,hsb⟩:=zll (below:=true) hp (show k<(rP p).length by omega)
  have hpa:=zpe hp hsb
  have hpc:=z7t hp (rP p).length (qR _) b hb (zhn hp hb)
  have hol:(((zdu p).take k)).length=k:=by rw [List.length_take]; omega
  refine W.skip ?_
  refine xn ?_
  refine W.seq ?_
  refine W.block ?_
  refine W.k fun K hK=>?_
  simp(disch:=omega)only[↓RU,RV,RH,↓reduceIte,qE,reduceCtorEq,if_pos,↓RS,RG,qA,qM,qL,zab,zaa,hsb,hpc,hpl2,tk_i hol,Int.toNat_natCast]
  apply hK;clear hK K
  refine XbN ?_
  refine xn ?_
  refine W.k fun K hK=>?_
  simp(disch:=omega)only[↓RU,RV,RH,↓reduceIte,qE,reduceCtorEq,if_pos,w64,↓RS,RG,qA,qM,qL,zaa]
  apply hK;clear hK K
  refine xn ?_
  refine ⟨(rP p).length - (k+1),by omega,2,k+1,tk2+1,tk2+2,rfl,by omega,?_,?_⟩
  ·simp [Env.put,Env.of,zki]
  simp only[za3,tk hpa,List.map_append,← List.map_take]; simp [zki]
 try simp only[RL]at h1
 obtain rfl:k=(rP p).length:=by omega
 refine W.exit ?_
 refine xe ?_
 refine xe ?_
 refine XBlock.hit ?_
 refine xn ?_
 refine W.r fun K hK=>?_
 simp(disch:=omega)only[↓RU,RV,RH,↓reduceIte,qE,reduceCtorEq,if_pos,↓RS,RG,qA,qM,qL]
 apply hK;clear hK K
 refine W.ret ?_
 refine Br rfl ?_
 rw [qT (by omega)]
 exact ((zcl (k:=9) rfl (by simp [hpl]) (zjz _)).trans (by rw [← hpl]))
theorem z30 {p q:List Int} (hp:p.length<2147483648) (hq:q.length<2147483648):PC Tryz.prog 50 [eInts p,eInts q] (.bool (decide (p=q))) true:=by
 refine PC.of ⟨Tryz.func50,by kernel_rfl,rfl,by kernel_rfl⟩ zar mixed (by show 2≤Tryz.f50.ntmps; decide) ?_
 refine W.r fun K hK=>?_
 simp(disch:=omega)only[↓RU,RV,RH,↓reduceIte,qE,reduceCtorEq,if_pos]
 apply hK;clear hK K
 refine W.seq ?_
 refine W.r fun K hK=>?_
 simp(disch:=omega)only[↓RU,RV,RH,↓reduceIte,qE,reduceCtorEq,if_pos,w64,zab,zaa]
 apply hK;clear hK K
 refine W.cond rfl (fun h=>?_) (fun h=>?_)
 ·try simp only[RL]at h
  refine W.r fun K hK=>?_
  simp(disch:=omega)only[↓RU,RV,RH,↓reduceIte,qE,reduceCtorEq,if_pos]
  apply hK;clear hK K
  refine W.ret ?_
  refine XThen.ret ?_
  refine Br rfl ?_
  rw [show decide (p=q)=false by simp; rintro rfl; exact h rfl]
  rfl
 try simp only[RL]at h
 refine W.skip ?_
 refine xn ?_
 refine W.seq ?_
 refine W.r fun K hK=>?_
 simp(disch:=omega)only[↓RU,RV,RH,↓reduceIte,qE,reduceCtorEq,if_pos]
 apply hK;clear hK K
 refine W.block ?_
 refine W.loop [0,1,5] (fun n vs S=>∃ i:Nat,n=p.length - i∧i≤p.length∧(p.take i=q.take i)∧vs=[eInts p,eInts q,.int .i64 i]∧S=⟨[],0⟩) (p.length) ?_ ?_
 ·refine ⟨0,0,rfl,Nat.zero_le _,rfl,?_,rfl⟩
  simp [Env.put,Env.of,zae]
 rintro n vs S - ⟨i,rfl,h_i,htk,rfl,rfl⟩
 refine W.seq ?_
 refine W.r fun K hK=>?_
 simp(disch:=omega)only[↓RU,RV,RH,↓reduceIte,qE,reduceCtorEq,if_pos,w64,zab,zaa]
 apply hK;clear hK K
 refine W.cond rfl (fun h1=>?_) (fun h1=>?_)
 ·try simp only[RL]at h1
  obtain ⟨x,hx,-⟩:=zag (show i<p.length by omega)
  obtain ⟨y,hy,-⟩:=zag (show i<q.length by omega)
  refine W.skip ?_
  refine xn ?_
  refine W.seq ?_
  refine W.block ?_
  refine W.seq_draw (by kernel_rfl) fun K hK=>?_
  simp(disch:=omega)only[↓RU,RV,RH,↓reduceIte,qE,reduceCtorEq,if_pos,w64,zab,zaa,hx,hy]
  apply hK;clear hK K
  refine W.cond rfl (fun h2=>?_) (fun h2=>?_)
  ·try simp only[RL]at h2
   refine W.r fun K hK=>?_
   simp(disch:=omega)only[↓RU,RV,RH,↓reduceIte,qE,reduceCtorEq,if_pos]
   apply hK;clear hK K
   refine W.ret ?_
   refine XBlock.ret ?_
   refine XThen.ret ?_
   refine XThen.ret ?_
   refine XBlock.ret ?_
   refine XThen.ret ?_
   refine Br rfl ?_
   rw [show decide (p=q)=false by simp; rintro rfl; rw [hx]at hy; simp_all]
   rfl
  try simp only[RL]at h2
  have h2:x=y:=by simpa using h2
  refine W.skip ?_
  refine XbN ?_
  refine xn ?_
  refine W.k fun K hK=>?_
  simp(disch:=omega)only[↓RU,RV,RH,↓reduceIte,qE,reduceCtorEq,if_pos,w64,zaa]
  apply hK;clear hK K
  refine xn ?_
  refine ⟨p.length - (i+1),by omega,0,i+1,rfl,by omega,zjp htk hx hy h2,?_,rfl⟩
  simp [Env.put,Env.of]
 try simp only[RL]at h1
 refine W.exit ?_
 refine xe ?_
 refine xe ?_
 refine XBlock.hit ?_
 refine xn ?_
 refine W.r fun K hK=>?_
 simp(disch:=omega)only[↓RU,RV,RH,↓reduceIte,qE,reduceCtorEq,if_pos]
 apply hK;clear hK K
 refine W.ret ?_
 refine Br rfl ?_
 have h1:p.take i=p:=qT (by omega)
 have h2:q.take i=q:=qT (by omega)
 rw [show decide (p=q)=true by simp; rw [← h1,← h2]; exact htk]
 rfl
theorem zwq {p q:List Int} (hp:p.length<2147483648) (hq:q.length<2147483648):PC Tryz.prog 48 [eInts p,eInts q] (.bool (decide (p=q))) true:=by
 refine PC.of ⟨Tryz.func48,by kernel_rfl,rfl,by kernel_rfl⟩ zar mixed (by show 2≤Tryz.f48.ntmps; decide) ?_
 refine W.r fun K hK=>?_
 simp(disch:=omega)only[↓RU,RV,RH,↓reduceIte,qE,reduceCtorEq,if_pos]
 apply hK;clear hK K
 refine W.seq ?_
 refine W.r fun K hK=>?_
 simp(disch:=omega)only[↓RU,RV,RH,↓reduceIte,qE,reduceCtorEq,if_pos,w64,zab,zaa]
 apply hK;clear hK K
 refine W.cond rfl (fun h=>?_) (fun h=>?_)
 ·try simp only[RL]at h
  refine W.r fun K hK=>?_
  simp(disch:=omega)only[↓RU,RV,RH,↓reduceIte,qE,reduceCtorEq,if_pos]
  apply hK;clear hK K
  refine W.ret ?_
  refine XThen.ret ?_
  refine Br rfl ?_
  rw [show decide (p=q)=false by simp; rintro rfl; exact h rfl]
  rfl
 try simp only[RL]at h
 refine W.skip ?_
 refine xn ?_
 refine W.seq ?_
 refine W.r fun K hK=>?_
 simp(disch:=omega)only[↓RU,RV,RH,↓reduceIte,qE,reduceCtorEq,if_pos,zab,zaa]
 apply hK;clear hK K
 refine W.block ?_
 refine W.loop [0,1,11,12,13] (fun n vs S=>∃ i:Nat,n=p.length - i∧i≤p.length∧(p.take i=q.take i)∧vs=[eInts p,eInts q,eInts p,.int .i64 p.length,.int .i64 i]∧S=⟨[],0⟩) (p.length) ?_ ?_
 ·refine ⟨0,0,rfl,Nat.zero_le _,rfl,?_,rfl⟩
  simp [Env.put,Env.of,zae]
 rintro n vs S - ⟨i,rfl,h_i,htk,rfl,rfl⟩
 refine W.r fun K hK=>?_
 simp(disch:=omega)only[↓RU,RV,RH,↓reduceIte,qE,reduceCtorEq,if_pos,w64,zaa]
 apply hK;clear hK K
 refine W.seq ?_
 refine W.cond rfl (fun h1=>?_) (fun h1=>?_)
 ·try simp only[RL]at h1
  obtain ⟨x,hx,-⟩:=zag (show i<p.length by omega)
  obtain ⟨y,hy,-⟩:=zag (show i<q.length by omega)
  refine W.skip ?_
  refine xn ?_
  refine W.seq ?_
  refine W.block ?_
  refine W.r fun K hK=>?_
  simp(disch:=omega)only[↓RU,RV,RH,↓reduceIte,qE,reduceCtorEq,if_pos]
  apply hK;clear hK K
  refine W.seq_draw (by kernel_rfl) fun K hK=>?_
  simp(disch:=omega)only[↓RU,RV,RH,↓reduceIte,qE,reduceCtorEq,if_pos,w64,zab,zaa,hx,hy]
  apply hK;clear hK K
  refine W.cond rfl (fun h2=>?_) (fun h2=>?_)
  ·try simp only[RL]at h2
   refine W.r fun K hK=>?_
   simp(disch:=omega)only[↓RU,RV,RH,↓reduceIte,qE,reduceCtorEq,if_pos]
   apply hK;clear hK K
   refine W.ret ?_
   refine XBlock.ret ?_
   refine XThen.ret ?_
   refine XThen.ret ?_
   refine XBlock.ret ?_
   refine XThen.ret ?_
   refine Br rfl ?_
   rw [show decide (p=q)=false by simp; rintro rfl; rw [hx]at hy; simp_all]
   rfl
  try simp only[RL]at h2
  have h2:x=y:=by simpa using h2
  refine W.skip ?_
  refine XbN ?_
  refine xn ?_
  refine W.k fun K hK=>?_
  simp(disch:=omega)only[↓RU,RV,RH,↓reduceIte,qE,reduceCtorEq,if_pos,w64,zaa]
  apply hK;clear hK K
  refine xn ?_
  refine ⟨p.length - (i+1),by omega,0,i+1,rfl,by omega,zjp htk hx hy h2,?_,rfl⟩
  simp [Env.put,Env.of]
 try simp only[RL]at h1
 refine W.exit ?_
 refine xe ?_
 refine xe ?_
 refine XBlock.hit ?_
 refine xn ?_
 refine W.r fun K hK=>?_
 simp(disch:=omega)only[↓RU,RV,RH,↓reduceIte,qE,reduceCtorEq,if_pos]
 apply hK;clear hK K
 refine W.ret ?_
 refine Br rfl ?_
 have h1:p.take i=p:=qT (by omega)
 have h2:q.take i=q:=qT (by omega)
 rw [show decide (p=q)=true by simp; rw [← h1,← h2]; exact htk]
 rfl
def zjn (p q:List Txt):Bool:=zbe p && zbe q && decide (zdu p=zdu q)
theorem zux {p:List Txt} (hp:zbe p=true):(zdu p).length≤9:=by rw [zfn]; exact (znp hp).2.2.1
theorem z6n {l:List Int}:ifL true l=l:=rfl
theorem z6m {l:List Int}:ifL false l=[]:=rfl
theorem zjh {p q:List Txt} (hs:Sm p) (ht:Sm q):PC Tryz.prog 12 [zaq p,zaq q] (.bool (zjn p q)) true:=by
 have hpp:=zdq (p:=p)
 have hqq:=zdq (p:=q)
 refine PC.of ⟨Tryz.func12,by kernel_rfl,rfl,by kernel_rfl⟩ zar mixed (by show 2≤Tryz.f12.ntmps; decide) ?_
 refine W.r fun K hK=>?_
 simp(disch:=omega)only[↓RU,RV,RH,↓reduceIte,qE,reduceCtorEq,if_pos,↓RS,RG,qA,qM,qL]
 apply hK;clear hK K
 refine W.r fun K hK=>?_
 simp(disch:=omega)only[↓RU,RV,RH,↓reduceIte,qE,reduceCtorEq,if_pos,qN,↓RS,RG,qA,qM,qL]
 refine zad.pc (zoj hs) rfl (.inr rfl) ?_
 simp(disch:=omega)only[↓RU,RV,RH,↓reduceIte,qE,reduceCtorEq,if_pos,qN,↓RS,RG,qA,qM,qL]
 apply hK;clear hK K
 refine W.r fun K hK=>?_
 simp(disch:=omega)only[↓RU,RV,RH,↓reduceIte,qE,reduceCtorEq,if_pos,qN,↓RS,RG,qA,qM,qL]
 refine zad.pc (zoj ht) rfl (.inr rfl) ?_
 simp(disch:=omega)only[↓RU,RV,RH,↓reduceIte,qE,reduceCtorEq,if_pos,qN,↓RS,RG,qA,qM,qL]
 apply hK;clear hK K
 refine W.r fun K hK=>?_
 rcases hv:(zdi p,zdi q) with ⟨_ | _,_ | _⟩
 ·skip
  simp only[Prod.mk.injEq]at hv
  obtain ⟨hp,hq⟩:=hv
  simp(disch:=omega)only[↓RU,RV,RH,↓reduceIte,qE,reduceCtorEq,if_pos,qN,↓RS,RG,qA,qM,qL,hp,hq,z6n,z6m]
  apply hK;clear hK K
  refine W.ret ?_
  refine Br rfl ?_
  unfold zjn
  rw [← hpp,← hqq,hp,hq]
  rfl
 ·skip
  simp only[Prod.mk.injEq]at hv
  obtain ⟨hp,hq⟩:=hv
  simp(disch:=omega)only[↓RU,RV,RH,↓reduceIte,qE,reduceCtorEq,if_pos,qN,↓RS,RG,qA,qM,qL,hp,hq,z6n,z6m]
  apply hK;clear hK K
  refine W.ret ?_
  refine Br rfl ?_
  unfold zjn
  rw [← hpp,← hqq,hp,hq]
  rfl
 ·skip
  simp only[Prod.mk.injEq]at hv
  obtain ⟨hp,hq⟩:=hv
  simp(disch:=omega)only[↓RU,RV,RH,↓reduceIte,qE,reduceCtorEq,if_pos,qN,↓RS,RG,qA,qM,qL,hp,hq,z6n,z6m]
  apply hK;clear hK K
  refine W.ret ?_
  refine Br rfl ?_
  unfold zjn
  rw [← hpp,← hqq,hp,hq]
  rfl
 skip
 simp only[Prod.mk.injEq]at hv
 obtain ⟨hp,hq⟩:=hv
 have hp1:=zx1 hp
 have hq1:=zx1 hq
 have h91:=zux hp1
 have h92:=zux hq1
 simp(disch:=omega)only[↓RU,RV,RH,↓reduceIte,qE,reduceCtorEq,if_pos,qN,↓RS,RG,qA,qM,qL,hp,hq,z6n,z6m]
 refine zad.pc (zwq (p:=zdu p) (q:=zdu q) (by omega) (by omega)) rfl (.inl rfl) ?_
 simp(disch:=omega)only[↓RU,RV,RH,↓reduceIte,qE,reduceCtorEq,if_pos,qN,↓RS,RG,qA,qM,qL,hp,hq,z6n,z6m]
 apply hK;clear hK K
 refine W.ret ?_
 refine Br rfl ?_
 unfold zjn
 rw [← hpp,← hqq,hp,hq]
 rfl
theorem zvg {p q:List Txt} (hs:Sm p) (ht:Sm q):PC Tryz.prog 13 [zaq p,zaq q] (.bool (zjn p q)) true:=by
 refine PC.of ⟨Tryz.func13,by kernel_rfl,rfl,by kernel_rfl⟩ zar mixed (by show 2≤Tryz.f13.ntmps; decide) ?_
 refine W.r fun K hK=>?_
 simp(disch:=omega)only[↓RU,RV,RH,↓reduceIte,qE,reduceCtorEq,if_pos,↓RS,RG,qA,qM,qL]
 apply hK;clear hK K
 refine W.r fun K hK=>?_
 rcases hv:(zbe p,zbe q) with ⟨_ | _,_ | _⟩
 ·skip
  simp only[Prod.mk.injEq]at hv
  obtain ⟨hp,hq⟩:=hv
  simp(disch:=omega)only[↓RU,RV,RH,↓reduceIte,qE,reduceCtorEq,if_pos,qN,↓RS,RG,qA,qM,qL,hp,hq]
  refine zad.pc (zg2 hs) rfl (.inl rfl) ?_
  simp(disch:=omega)only[↓RU,RV,RH,↓reduceIte,qE,reduceCtorEq,if_pos,qN,↓RS,RG,qA,qM,qL,hp,hq]
  apply hK;clear hK K
  refine W.ret ?_
  refine Br rfl ?_
  unfold zjn
  rw [hp,hq]
  rfl
 ·skip
  simp only[Prod.mk.injEq]at hv
  obtain ⟨hp,hq⟩:=hv
  simp(disch:=omega)only[↓RU,RV,RH,↓reduceIte,qE,reduceCtorEq,if_pos,qN,↓RS,RG,qA,qM,qL,hp,hq]
  refine zad.pc (zg2 hs) rfl (.inl rfl) ?_
  simp(disch:=omega)only[↓RU,RV,RH,↓reduceIte,qE,reduceCtorEq,if_pos,qN,↓RS,RG,qA,qM,qL,hp,hq]
  apply hK;clear hK K
  refine W.ret ?_
  refine Br rfl ?_
  unfold zjn
  rw [hp,hq]
  rfl
 ·skip
  simp only[Prod.mk.injEq]at hv
  obtain ⟨hp,hq⟩:=hv
  simp(disch:=omega)only[↓RU,RV,RH,↓reduceIte,qE,reduceCtorEq,if_pos,qN,↓RS,RG,qA,qM,qL,hp,hq]
  refine zad.pc (zg2 hs) rfl (.inl rfl) ?_
  simp(disch:=omega)only[↓RU,RV,RH,↓reduceIte,qE,reduceCtorEq,if_pos,qN,↓RS,RG,qA,qM,qL,hp,hq]
  refine zad.pc (zg2 ht) rfl (.inl rfl) ?_
  simp(disch:=omega)only[↓RU,RV,RH,↓reduceIte,qE,reduceCtorEq,if_pos,qN,↓RS,RG,qA,qM,qL,hp,hq]
  apply hK;clear hK K
  refine W.ret ?_
  refine Br rfl ?_
  unfold zjn
  rw [hp,hq]
  rfl
 skip
 simp only[Prod.mk.injEq]at hv
 obtain ⟨hp,hq⟩:=hv
 have h91:=zux hp
 have h92:=zux hq
 simp(disch:=omega)only[↓RU,RV,RH,↓reduceIte,qE,reduceCtorEq,if_pos,qN,↓RS,RG,qA,qM,qL,hp,hq]
 refine zad.pc (zg2 hs) rfl (.inl rfl) ?_
 simp(disch:=omega)only[↓RU,RV,RH,↓reduceIte,qE,reduceCtorEq,if_pos,qN,↓RS,RG,qA,qM,qL,hp,hq]
 refine zad.pc (zg2 ht) rfl (.inl rfl) ?_
 simp(disch:=omega)only[↓RU,RV,RH,↓reduceIte,qE,reduceCtorEq,if_pos,qN,↓RS,RG,qA,qM,qL,hp,hq]
 refine zad.pc (zw5 hs hp) rfl (.inl rfl) ?_
 simp(disch:=omega)only[↓RU,RV,RH,↓reduceIte,qE,reduceCtorEq,if_pos,qN,↓RS,RG,qA,qM,qL,hp,hq]
 refine zad.pc (zw5 ht hq) rfl (.inl rfl) ?_
 simp(disch:=omega)only[↓RU,RV,RH,↓reduceIte,qE,reduceCtorEq,if_pos,qN,↓RS,RG,qA,qM,qL,hp,hq]
 refine zad.pc (z30 (p:=zdu p) (q:=zdu q) (by omega) (by omega)) rfl (.inl rfl) ?_
 simp(disch:=omega)only[↓RU,RV,RH,↓reduceIte,qE,reduceCtorEq,if_pos,qN,↓RS,RG,qA,qM,qL,hp,hq]
 apply hK;clear hK K
 refine W.ret ?_
 refine Br rfl ?_
 unfold zjn
 rw [hp,hq]
 rfl
theorem zzp {S:Store} {lo k:Nat} {g:FuncId} {cap:List PV} (h:cap.mapM (frz S lo k)=some cap):frz S lo (k+1) (.fn g cap)=some (.fn g cap):=by
 show (cap.mapM (frz S lo k)).map (PV.fn g)=_
 rw [h]; rfl
def bgT (c:Nat→Nat→Int) (nw i:Nat):List (List Int):=(List.range i).map fun r=>(List.range nw).map (c r)
theorem zze {c:Nat→Nat→Int} {nw i:Nat}:(bgT c nw i).length=i:=by simp [bgT]
theorem z9u {c:Nat→Nat→Int} {nw i:Nat}:bgT c nw (i+1)=bgT c nw i++[(List.range nw).map (c i)]:=by simp [bgT,qS]
theorem yew {f:Nat→Int} {n:Nat}:stp f n n=(List.range n).map f:=by
 unfold stp
 refine List.map_congr_left fun k hk=>?_
 rw [if_pos (List.mem_range.1 hk)]
theorem ydn {S:Store} {lo f:Nat} {d:List (List Int)} {cur cur2:PV} {m:Nat} (h:frz S lo (f+1) cur=some cur2):(gcs d cur m).mapM (frz S lo (f+1))=some (gcs d cur2 m):=by
 unfold gcs
 rw [qP,zb8 (l:=d.map eInts) (fun x hx=>by obtain ⟨a,_,rfl⟩:=List.mem_map.1 hx; rfl),qC,h,zb8 (l:=List.replicate m PV.nils) (fun x hx=>by obtain rfl:=List.eq_of_mem_replicate hx; rfl)]
 rfl
theorem zqa {S:Store} {lo k m:Nat}:(List.replicate m PV.nils).mapM (frz S lo (k+1))=some (List.replicate m PV.nils):=zb8 fun x hx=>by obtain rfl:=List.eq_of_mem_replicate hx; rfl
theorem yad {v0 tk tk2 m et n:Nat} {d:List (List Int)} {l:List Int} (hn:l.length=n):Store.frz ⟨[.arr v0 et 1 (gcs d (.loc 1 tk 0 n) m),.arr tk 3 1 (l.map (.int .i64))],tk2⟩ 1=some ⟨[.arr v0 et 1 (gc0 (d++[l]) m)],tk2⟩:=by
 subst hn
 have h:frz ⟨[.arr v0 et 1 (gcs d (.loc 1 tk 0 l.length) m),.arr tk 3 1 (l.map (.int .i64))],tk2⟩ 1 10 (.loc 1 tk 0 l.length)=some (eInts l):=by
  have ht:(l.map (PV.int .i64)).take l.length=l.map (PV.int .i64):=qT (by simp)
  simp [-qU,-List.map_take,zbn,zbp,ht,za4]
 simp [Store.frz,zb6,zcu,ydn h,z6b]
theorem z9x {c:Nat→Nat→Int} {nh nw:Nat} (hh:nh≤100) (hw:nw≤100) {g:FuncId} {cap:List PV} (hc:∀ (S:Store) (k:Nat),cap.mapM (reify S true (k+1))=some cap) (hz:∀ (S:Store) (lo k:Nat),cap.mapM (frz S lo (k+1))=some cap) (hcell:∀ r w:Nat,r<nh→w<nw→PC Tryz.prog g (.int .i64 r :: .int .i64 w::cap) (.int .i64 (c r w)) true):PC Tryz.prog 99 [.int .i64 nh,.int .i64 nw,.fn g cap] (zer (bgT c nw nh)) false:=by
 refine PC.of ⟨Tryz.func99,by kernel_rfl,rfl,by kernel_rfl⟩ zar mixed (by show 3≤Tryz.f99.ntmps; decide) ?_
 refine W.r fun K hK=>?_
 simp(disch:=omega)only[↓RU,RV,RH,↓reduceIte,qE,reduceCtorEq,if_pos,↓RS,RG,qA,qM,qL]
 apply hK;clear hK K
 refine W.r fun K hK=>?_
 simp(disch:=omega)only[↓RU,RV,RH,↓reduceIte,qE,reduceCtorEq,if_pos,↓RS,RG,qA,qM,qL,ty1,zab,zc3,zaa,zmq,zd6]
 apply hK;clear hK K
 refine W.seq ?_
 refine W.r fun K hK=>?_
 simp(disch:=omega)only[↓RU,RV,RH,↓reduceIte,qE,reduceCtorEq,if_pos,↓RS,RG,qA,qM,qL,ty1,zab,zc3,zaa]
 apply hK;clear hK K
 refine W.block ?_
 refine W.loopZ [1,2,7,13,14] (fun n vs S=>∃ i v0 tk:Nat,n=nh - i∧i≤nh∧vs=[.int .i64 nw,.fn g cap,.loc 0 v0 0 nh,.int .i64 nh,.int .i64 i]∧S=⟨[.arr v0 24 1 (gc0 (bgT c nw i) (nh - i))],tk⟩) (nh) ?_ ?_
 ·refine ⟨1,[.int .i64 nw,.fn g cap,.loc 0 0 0 nh,.int .i64 nh,.int .i64 0],⟨[.arr 0 24 1 (gc0 (bgT c nw 0) (nh - 0))],1⟩,?_,?_,0,0,1,rfl,by omega,rfl,rfl⟩
  ·simp [-qU,Store.frz,zb6,zcu,zav,zbn,zbp,zbr,zcq,za6,za4,za7,zau,zaw,zbu,za8,zbs,za5,Env.put,Env.of,zae,zbt,qP,qC,zuf,zzp (hz _ _ _),bgT,zqa]
  simp [-qU,Store.frz,zb6,zcu,zav,zbn,zbp,zbr,zcq,za6,za4,za7,zau,zaw,zbu,za8,zbs,za5,Env.put,Env.of,zae,zbt,qP,qC,zuf,zzp (hz _ _ _),bgT,zqa]
 rintro n vs S - ⟨i,v0,tk,rfl,h_i,rfl,rfl⟩
 refine W.r fun K hK=>?_
 simp(disch:=omega)only[↓RU,RV,RH,↓reduceIte,qE,reduceCtorEq,if_pos,w64,↓RS,RG,qA,qM,qL,zaa]
 apply hK;clear hK K
 refine W.seq ?_
 refine W.cond rfl (fun h=>?_) (fun h=>?_)
 ·try simp only[RL]at h
  have hil:i<nh:=by omega
  have hbl:=zze (c:=c) (nw:=nw) (i:=i)
  refine W.skip ?_
  refine xn ?_
  refine W.seq ?_
  refine W.block ?_
  refine W.r fun K hK=>?_
  simp(disch:=omega)only[↓RU,RV,RH,↓reduceIte,qE,reduceCtorEq,if_pos,↓RS,RG,qA,qM,qL]
  apply hK;clear hK K
  refine W.r fun K hK=>?_
  simp(disch:=omega)only[↓RU,RV,RH,↓reduceIte,qE,reduceCtorEq,if_pos,↓RS,RG,qA,qM,qL,ty1,zab,zc3,zaa,zew,zd6,zzq,hbl,zzr]
  apply hK;clear hK K
  refine W.r fun K hK=>?_
  simp(disch:=omega)only[↓RU,RV,RH,↓reduceIte,qE,reduceCtorEq,if_pos,↓RS,RG,qA,qM,qL,ty1,zab,zc3,zaa,ze7,ze8,hbl]
  apply hK;clear hK K
  refine W.block ?_
  refine W.loop [1,2,7,8,13,14,26,27] (fun n vs S=>∃ (j tk2:Nat),n=nw - j∧j≤nw∧vs=[.int .i64 nw,.fn g cap,.loc 0 v0 0 nh,.int .i64 i,.int .i64 nh,.int .i64 i,.int .i64 nw,.int .i64 j]∧S=⟨[.arr v0 24 1 (gcs (bgT c nw i) (.loc 1 tk 0 nw) (nh - i - 1)),.arr tk 3 1 ((stp (c i) j nw).map (.int .i64))],tk2⟩) nw ?_ ?_
  ·refine ⟨2,0,tk+1,rfl,Nat.zero_le _,?_,?_⟩
   ·simp [Env.put,Env.of]
   simp [za3,ybh]
  rintro n vs S - ⟨j,tk2,rfl,h_j,rfl,rfl⟩
  refine W.r fun K hK=>?_
  simp(disch:=omega)only[↓RU,RV,RH,↓reduceIte,qE,reduceCtorEq,if_pos,w64,↓RS,RG,qA,qM,qL,zaa]
  apply hK;clear hK K
  refine W.seq ?_
  refine W.cond rfl (fun h1=>?_) (fun h1=>?_)
  ·try simp only[RL]at h1
   have hjw:j<nw:=by omega
   have hsl:=z8z (f:=c i) (i:=j) (n:=nw)
   refine W.skip ?_
   refine xn ?_
   refine W.seq ?_
   refine W.block ?_
   refine W.r fun K hK=>?_
   simp(disch:=omega)only[↓RU,RV,RH,↓reduceIte,qE,reduceCtorEq,if_pos,↓RS,RG,qA,qM,qL]
   apply hK;clear hK K
   refine W.draw_k (by kernel_rfl) fun K hK=>?_
   simp(disch:=omega)only[↓RU,RV,RH,↓reduceIte,qE,reduceCtorEq,if_pos,qN,↓RS,RG,qA,qM,qL,ty1,zab,zc3,zaa,ze7,ze8,hbl,hsl,zb0,zdt]
   refine zad.pc (hcell i j hil hjw) (zbz rfl (zbz rfl (hc _ 9))) (.inl rfl) ?_
   simp(disch:=omega)only[↓RU,RV,RH,↓reduceIte,qE,reduceCtorEq,if_pos,qN,↓RS,RG,qA,qM,qL,ty1,zab,zc3,zaa,ze7,ze8,hbl,hsl,zb0,zdt]
   apply hK;clear hK K
   refine XbN ?_
   refine xn ?_
   refine W.k fun K hK=>?_
   simp(disch:=omega)only[↓RU,RV,RH,↓reduceIte,qE,reduceCtorEq,if_pos,w64,↓RS,RG,qA,qM,qL,zaa]
   apply hK;clear hK K
   refine xn ?_
   refine ⟨nw - (j+1),by omega,2,j+1,tk2,rfl,by omega,?_,?_⟩
   ·simp [Env.put,Env.of]
   simp only[za3,← yex (i:=j)]; rfl
  try simp only[RL]at h1
  obtain rfl:nw=j:=by omega
  refine W.exit ?_
  refine xe ?_
  refine xe ?_
  refine XBlock.hit ?_
  refine XbN ?_
  refine xn ?_
  refine W.k fun K hK=>?_
  simp(disch:=omega)only[↓RU,RV,RH,↓reduceIte,qE,reduceCtorEq,if_pos,w64,↓RS,RG,qA,qM,qL,zaa]
  apply hK;clear hK K
  refine xn ?_
  refine ⟨nh - (i+1),by omega,1,[.int .i64 nw,.fn g cap,.loc 0 v0 0 nh,.int .i64 nh,.int .i64 (i+1)],⟨[.arr v0 24 1 (gc0 (bgT c nw (i+1)) (nh - (i+1)))],tk2⟩,?_,?_,(i+1),v0,tk2,rfl,by omega,rfl,rfl⟩
  ·simp [-qU,Store.frz,zb6,zcu,zav,zbn,zbp,zbr,zcq,za6,za4,za7,zau,zaw,zbu,za8,zbs,za5,Env.put,Env.of,zae,zbt,qP,qC,zuf,zzp (hz _ _ _),bgT,zqa]
  rw [yew,yad (by simp),z9u]; rfl
 try simp only[RL]at h
 obtain rfl:nh=i:=by omega
 refine W.exit ?_
 refine xe ?_
 refine xe ?_
 refine XBlock.hit ?_
 refine xn ?_
 refine W.r fun K hK=>?_
 simp(disch:=omega)only[↓RU,RV,RH,↓reduceIte,qE,reduceCtorEq,if_pos,↓RS,RG,qA,qM,qL]
 apply hK;clear hK K
 refine W.ret ?_
 refine Br rfl ?_
 rw [Nat.sub_self,z6a]
 have hbl:=zze (c:=c) (nw:=nw) (i:=nh)
 exact (zcl (k:=9) (n:=nh) (cells:=(bgT c nw nh).map eInts) rfl (by simp [hbl]) (zj0 _)).trans (by show _=some (PV.sl _ (bgT c nw nh).length); rw [hbl])
theorem z41 {g:List (List Int)} {nh nw:Nat} (hg:GW g nh nw) (rs:List Rect) {r c:Nat} (hr:r<nw) (hc:c<nh):PC Tryz.prog 100 [.int .i64 r,.int .i64 c,.ip [zax g rs] 0] (.int .i64 (gz g (nh - 1 - c) r)) true:=by
 obtain ⟨row,hrow,hrl,hx⟩:=hg.at_ (i:=nh - 1 - c) (j:=r) (by omega) (by omega)
 obtain ⟨q1,q2,q3,q4,-⟩:=hg
 have hgl:=q1
 have hcz:((nh:Int) - 1 - (c:Int)).toNat=nh - 1 - c:=by omega
 refine PC.of ⟨Tryz.func100,by kernel_rfl,rfl,by kernel_rfl⟩ zar mixed (by show 3≤Tryz.f100.ntmps; decide) ?_
 refine W.r fun K hK=>?_
 simp(disch:=omega)only[↓RU,RV,RH,↓reduceIte,qE,reduceCtorEq,if_pos]
 apply hK;clear hK K
 refine W.seq_draw (by kernel_rfl) fun K hK=>?_
 simp(disch:=omega)only[↓RU,RV,RH,↓reduceIte,qE,reduceCtorEq,if_pos,qN,w64,↓RS,RG,qA,qM,qL,ty1,ty3,zab,ty7,ze1,zc3,zbb,zaa,ze3,zbc,hrow,hx,hcz,hgl]
 refine zad.pc (zk5 g rs) rfl (.inl rfl) ?_
 simp(disch:=omega)only[↓RU,RV,RH,↓reduceIte,qE,reduceCtorEq,if_pos,qN,w64,↓RS,RG,qA,qM,qL,ty1,ty3,zab,ty7,ze1,zc3,zbb,zaa,ze3,zbc,hrow,hx,hcz,hgl]
 apply hK;clear hK K
 refine W.ret ?_
 refine Br rfl ?_
 rfl
theorem z88 {g:List (List Int)} {nh nw:Nat} (hg:GW g nh nw) (rs:List Rect):PC Tryz.prog 53 [zax g rs] (zer (bgT (fun r w=>gz g (nh - 1 - w) r) nh nw)) false:=by
 obtain ⟨q1,q2,q3,q4,q5,q6⟩:=hg
 have hg:GW g nh nw:=⟨q1,q2,q3,q4,q5,q6⟩
 have hgl:=q1
 obtain ⟨row0,hrow0,hrl0,-⟩:=hg.at_ (i:=0) (j:=0) (by omega) (by omega)
 refine PC.of ⟨Tryz.func53,by kernel_rfl,rfl,by kernel_rfl⟩ zar mixed (by show 1≤Tryz.f53.ntmps; decide) ?_
 refine W.joinZ [1] (fun vs S=>∃ tk:Nat,vs=[.ip [zax g rs] 0]∧S=⟨[],tk⟩) ?_ ?_
 ·
  refine W.k fun K hK=>?_
  simp(disch:=omega)only[↓RU,RV,RH,↓reduceIte,qE,reduceCtorEq,if_pos,↓RS,RG,qA,qM,qL,ty7]
  apply hK;clear hK K
  refine xn ?_
  refine ⟨0,[.ip [zax g rs] 0],⟨[],1⟩,?_,?_,1,rfl,rfl⟩
  ·rfl
  rfl
 rintro vs S - ⟨tk,rfl,rfl⟩
 refine W.seq_draw (by kernel_rfl) fun K hK=>?_
 simp(disch:=omega)only[↓RU,RV,RH,↓reduceIte,qE,reduceCtorEq,if_pos,qN,↓RS,RG,qA,qM,qL,ty7,hgl,hrl0]
 refine zad.pc (zrw hrow0 rs) rfl (.inl rfl) ?_
 simp(disch:=omega)only[↓RU,RV,RH,↓reduceIte,qE,reduceCtorEq,if_pos,qN,↓RS,RG,qA,qM,qL,ty7,hgl,hrl0]
 refine zad.pc (zk5 g rs) rfl (.inl rfl) ?_
 simp(disch:=omega)only[↓RU,RV,RH,↓reduceIte,qE,reduceCtorEq,if_pos,qN,↓RS,RG,qA,qM,qL,ty7,hgl,hrl0]
 refine zad.pc (z9x (c:=fun r w=>gz g (nh - 1 - w) r) (nh:=nw) (nw:=nh) (by omega) (by omega) (fun _ _=>rfl) (fun _ _ _=>rfl) (fun r w h1 h2=>z41 hg rs h1 h2)) rfl (.inr rfl) ?_
 simp(disch:=omega)only[↓RU,RV,RH,↓reduceIte,qE,reduceCtorEq,if_pos,qN,↓RS,RG,qA,qM,qL,ty7,hgl,hrl0]
 apply hK;clear hK K
 refine W.ret ?_
 refine Br rfl ?_
 rfl
theorem yag {g:List (List Int)} {nh nw:Nat} (hg:GW g nh nw) (hok:okS g=true) (hf:zh7 g=true):PC Tryz.prog 98 [zer g] (.tup [zaq (nm g),.bool true]) false:=by
 have hgl:g.length<2147483648:=by have:=hg.1; have:=hg.2.2.2.1; omega
 have hgr:∀ r∈g,r.length<2147483648:=fun r hr=>by have:=hg.2.1 r hr; have:=hg.2.2.2.2.2; omega
 have hz:=zy5 hg
 have hb:∀ r∈zG g,∀ z∈r,0≤z∧z≤100:=by rw [hg.zG.1]; exact ziv hg.2.2.2.2.2 hg.2.2.2.2.1 nh hg.2.2.2.1
 refine PC.of ⟨Tryz.func98,by kernel_rfl,rfl,by kernel_rfl⟩ zar mixed (by show 1≤Tryz.f98.ntmps; decide) ?_
 refine W.r fun K hK=>?_
 simp(disch:=omega)only[↓RU,RV,RH,↓reduceIte,qE,reduceCtorEq,if_pos,↓RS,RG,qA,qM,qL]
 apply hK;clear hK K
 refine W.r fun K hK=>?_
 simp(disch:=omega)only[↓RU,RV,RH,↓reduceIte,qE,reduceCtorEq,if_pos,qN,↓RS,RG,qA,qM,qL,hf]
 refine zad.pc (zrn hgl hgr hok) rfl (.inr rfl) ?_
 simp(disch:=omega)only[↓RU,RV,RH,↓reduceIte,qE,reduceCtorEq,if_pos,qN,↓RS,RG,qA,qM,qL,hf]
 apply hK;clear hK K
 refine W.seq ?_
 refine W.r fun K hK=>?_
 simp(disch:=omega)only[↓RU,RV,RH,↓reduceIte,qE,reduceCtorEq,if_pos,↓RS,RG,qA,qM,qL]
 apply hK;clear hK K
 refine W.cond rfl (fun h=>?_) (fun h=>?_)
 ·try simp only[RL]at h
  exact absurd h (by simp)
 try simp only[RL]at h
 refine W.skip ?_
 refine xn ?_
 refine W.r fun K hK=>?_
 simp(disch:=omega)only[↓RU,RV,RH,↓reduceIte,qE,reduceCtorEq,if_pos,qN,↓RS,RG,qA,qM,qL]
 refine zad.pc (z86 hz (stG g).2 hb) rfl (.inl rfl) ?_
 simp(disch:=omega)only[↓RU,RV,RH,↓reduceIte,qE,reduceCtorEq,if_pos,qN,↓RS,RG,qA,qM,qL]
 apply hK;clear hK K
 refine W.ret ?_
 refine Br rfl ?_
 rfl
theorem z8a {p:List Txt} (hs:Sm p) (hv:zfu p=true) {f:FuncId} {cap:List PV} (hc:∀ (S:Store) (k:Nat),cap.mapM (reify S true (k+1))=some cap) {g:List (List Int)} {nh nw:Nat} (hg:GW g nh nw) (hok:okS g=true) (hf:zh7 g=true) (hF:PC Tryz.prog f (zax (gP p) (rP p)::cap) (zer g) false):PC Tryz.prog 52 [zaq p,.fn f cap] (.tup [zaq (nm g),.bool true]) false:=by
 obtain ⟨x,hx,hxy,hxr⟩:=znh hs
 obtain rfl:=hxy hv
 refine PC.of ⟨Tryz.func52,by kernel_rfl,rfl,by kernel_rfl⟩ zar mixed (by show 2≤Tryz.f52.ntmps; decide) ?_
 refine W.r fun K hK=>?_
 simp(disch:=omega)only[↓RU,RV,RH,↓reduceIte,qE,reduceCtorEq,if_pos,↓RS,RG,qA,qM,qL]
 apply hK;clear hK K
 refine W.r fun K hK=>?_
 simp(disch:=omega)only[↓RU,RV,RH,↓reduceIte,qE,reduceCtorEq,if_pos,qN,↓RS,RG,qA,qM,qL,hv]
 refine zad.pc (hx) rfl (.inr rfl) ?_
 simp(disch:=omega)only[↓RU,RV,RH,↓reduceIte,qE,reduceCtorEq,if_pos,qN,↓RS,RG,qA,qM,qL,hv]
 apply hK;clear hK K
 refine W.seq ?_
 refine W.r fun K hK=>?_
 simp(disch:=omega)only[↓RU,RV,RH,↓reduceIte,qE,reduceCtorEq,if_pos,↓RS,RG,qA,qM,qL]
 apply hK;clear hK K
 refine W.cond rfl (fun h=>?_) (fun h=>?_)
 ·try simp only[RL]at h
  exact absurd h (by simp)
 try simp only[RL]at h
 refine W.skip ?_
 refine xn ?_
 refine W.r fun K hK=>?_
 simp(disch:=omega)only[↓RU,RV,RH,↓reduceIte,qE,reduceCtorEq,if_pos,qN,↓RS,RG,qA,qM,qL]
 refine zad.pc (hF) (zbz rfl (hc _ 9)) (.inr (zbz rfl (hc _ 9))) ?_
 simp(disch:=omega)only[↓RU,RV,RH,↓reduceIte,qE,reduceCtorEq,if_pos,qN,↓RS,RG,qA,qM,qL]
 refine zad.pc (yag hg hok hf) rfl (.inr rfl) ?_
 simp(disch:=omega)only[↓RU,RV,RH,↓reduceIte,qE,reduceCtorEq,if_pos,qN,↓RS,RG,qA,qM,qL]
 apply hK;clear hK K
 refine W.ret ?_
 refine Br rfl ?_
 rfl
theorem yfn {c:Nat→Nat→Int} {nw n i j:Nat} (hi:i<n) (hj:j<nw):gz (bgT c nw n) i j=c i j:=by
 simp [gz,bgT,hi,hj]
theorem z9v {c:Nat→Nat→Int} {c0:Nat→Nat→Nat} {H W:Nat} (h1:1≤H) (h2:H≤6) (h3:1≤W) (h4:W≤6) (h:∀ i j,i<H→j<W→c i j=((c0 i j:Nat):Int)):Cells c0 (bgT c W H) H W:=by
 refine ⟨⟨zze,fun r hr=>?_,h1,h2,h3,h4⟩,fun i j hi hj=>by rw [yfn hi hj,h i j hi hj]⟩
 obtain ⟨a,-,rfl⟩:=List.mem_map.1 hr
 simp
structure Made (c:Nat→Nat→Nat) (H W:Nat) (g:List (List Int)):Prop where
 gw:GW g H W
 ok:okS g=true
 full:zh7 g=true
 plan:zbq (nm g)=true
 ren:Ren c H W (nm g)
theorem yd7 {c0:Nat→Nat→Nat} {g:List (List Int)} {H W n:Nat} (hc:Cells c0 g H W) (hn:∀ i j,i<H→j<W→c0 i j<n) (h9:n≤9) (hPl:Pl c0 H W):Made c0 H W g:=by
 have hle:=z8i hc hn
 obtain ⟨h1,h2⟩:=z67 hc (by omega) hPl.rect
 obtain ⟨h3,h4⟩:=z33 hc (by omega) hPl.rect
 exact ⟨hc.gw,h3,h4,h1,h2⟩
theorem ztc {p:List Txt} (hp:zbe p=true):1≤p.length∧p.length≤6∧1≤(zam p).length∧(zam p).length≤6∧GW (gP p) p.length (zam p).length∧zfu p=true∧(rP p).length≤9∧∀ i j,i<p.length→j<(zam p).length→gz (gP p) i j=((cn (gP p) i j:Nat):Int):=by
 have hv:zdi p=true:=by rw [zdq]; exact hp
 have hok:=(zmi hv).1
 have hg:=zxg hok
 rw [zf5]at hg
 have hg2:=hg
 obtain ⟨-,-,q3,q4,q5,q6⟩:=hg2
 refine ⟨q3,q4,q5,q6,hg,by rw [zel]; exact zeb hp,zjg hok,fun i j hi hj=>?_⟩
 have:=zfy (p:=p) i j hi hj
 unfold cn; omega
theorem Made.sm {c:Nat→Nat→Nat} {H W:Nat} {g:List (List Int)} (h:Made c H W g):Sm (nm g):=Sm.grid (zeu h.plan)
def ybk (p:List Txt):List (List Int):=bgT (fun r w=>gz (gP p) (p.length - 1 - w) r) p.length (zam p).length
theorem zjs {p:List Txt} (hp:zbe p=true):Made (tr (fl (cn (gP p)) p.length)) (zam p).length p.length (ybk p):=by
 obtain ⟨q1,q2,q3,q4,-,-,q7,q8⟩:=ztc hp
 exact yd7 (z9v q3 q4 q1 q2 fun i j hi hj=>q8 (p.length - 1 - j) i (by omega) hi) (fun i j hi hj=>zt8 zfy (by omega) hi) q7 (zlc hp).dn.ex
theorem zq5 {p:List Txt} (hs:Sm p) (hp:zbe p=true):PC Tryz.prog 14 [zaq p] (.tup [zaq (nm (ybk p)),.bool true]) false:=by
 obtain ⟨-,-,-,-,hg,hf,-,-⟩:=ztc hp
 have hm:=zjs hp
 refine PC.of ⟨Tryz.func14,by kernel_rfl,rfl,by kernel_rfl⟩ zar mixed (by show 1≤Tryz.f14.ntmps; decide) ?_
 refine W.r fun K hK=>?_
 simp(disch:=omega)only[↓RU,RV,RH,↓reduceIte,qE,reduceCtorEq,if_pos,↓RS,RG,qA,qM,qL]
 apply hK;clear hK K
 refine W.r fun K hK=>?_
 simp(disch:=omega)only[↓RU,RV,RH,↓reduceIte,qE,reduceCtorEq,if_pos,qN,↓RS,RG,qA,qM,qL]
 refine zad.pc (z8a (cap:=[]) hs hf (fun _ _=>rfl) hm.gw hm.ok hm.full (z88 hg (rP p))) rfl (.inr rfl) ?_
 simp(disch:=omega)only[↓RU,RV,RH,↓reduceIte,qE,reduceCtorEq,if_pos,qN,↓RS,RG,qA,qM,qL]
 apply hK;clear hK K
 refine W.ret ?_
 refine Br rfl ?_
 rfl
theorem z98 {p q:List Txt} (hp:zbe p=true) (hq:zbe q=true) (e:zdu p=zdu q):z96 p=z96 q:=by
 have key:∀ {p:List Txt},zbe p=true→(z96 p=true↔Sp (PL (zdu p)) (PU (zdu p)) (· < (zdu p).length)):=by
  intro p hp
  rw [← z97 hp]
  simp only[z96,zeb hp,Bool.true_and,Option.isSome_iff_exists]
  rfl
 apply Bool.eq_iff_iff.2
 rw [key hp,key hq,e]
theorem z8p {p q:List Txt} (h:zjn p q=true):zbe p=true∧zbe q=true∧zdu p=zdu q∧zjn q p=true∧zjn (nm (ybk p)) (nm (ybk q))=true∧z96 p=z96 q:=by
 unfold zjn at h
 simp only[qB,decide_eq_true_eq]at h
 obtain ⟨⟨h1,h2⟩,h3⟩:=h
 have m1:=zjs h1
 have m2:=zjs h2
 obtain ⟨s,-,i1⟩:=z1t h1 m1.plan m1.ren
 obtain ⟨u,-,i2⟩:=z1t h2 m2.plan m2.ren
 have e:=z87 i1 i2 h1 h2 h3
 refine ⟨h1,h2,h3,?_,?_,z98 h1 h2 h3⟩
 ·unfold zjn; rw [h1,h2,h3]; simp
 unfold zjn; rw [i1.pl,i2.pl,e]; simp
theorem zox {code:Txt} (hc:code.length≤1048576):Ev Tryz.prog 11 [eBy code] ⟨[],0⟩ fun v S=>∃ (p q:List Txt) (t:Nat),Sm p∧Sm q∧v = .tup [zaq p,zaq q]∧S=⟨[],t⟩:=by
 refine Ev.of ⟨Tryz.func11,by kernel_rfl,rfl,by kernel_rfl⟩ zar mixed (by show 1≤Tryz.f11.ntmps; decide) ?_
 refine W.r fun K hK=>?_
 simp(disch:=omega)only[↓RU,RV,RH,↓reduceIte,qE,reduceCtorEq,if_pos,↓RS,RG,qA,qM,qL]
 apply hK;clear hK K
 refine W.r fun K hK=>?_
 simp(disch:=omega)only[↓RU,RV,RH,↓reduceIte,qE,reduceCtorEq,if_pos,qN,↓RS,RG,qA,qM,qL,rdO]
 refine zad.pn (z6r hc) rfl (.inr rfl) ?_
 simp(disch:=omega)only[↓RU,RV,RH,↓reduceIte,qE,reduceCtorEq,if_pos,qN,↓RS,RG,qA,qM,qL,rdO,rdO,RN]
 apply hK;clear hK K
 refine W.r fun K hK=>?_
 have hc2:(code.take 2000).length≤1048576:=by rw [List.length_take]; omega
 generalize code.take 2000=code2 at hc2 ⊢
 simp(disch:=omega)only[↓RU,RV,RH,↓reduceIte,qE,reduceCtorEq,if_pos,qN,↓RS,RG,qA,qM,qL]
 refine zad.ev (zk8 (q:=0) (code:=code2) hc2 (by omega) (rows:=3) (cols:=3) (by omega) (by omega) (by omega) (by omega)) ?_
 rintro _ _ ⟨p,q,t,rfl,hs,hl,hq,rfl⟩
 simp(disch:=omega)only[↓RU,RV,RH,↓reduceIte,qE,reduceCtorEq,if_pos,qN,↓RS,RG,qA,qM,qL]
 apply hK;clear hK K
 refine W.r fun K hK=>?_
 simp(disch:=omega)only[↓RU,RV,RH,↓reduceIte,qE,reduceCtorEq,if_pos,qN,w64,↓RS,RG,qA,qM,qL,zaa]
 refine zad.ev (zfa (q:=q) hc2 (by omega) 2 (by omega) (by omega)) ?_
 rintro _ _ ⟨k,rfl,hkz,hk,rfl⟩
 simp(disch:=omega)only[↓RU,RV,RH,↓reduceIte,qE,reduceCtorEq,if_pos,qN,w64,↓RS,RG,qA,qM,qL,zaa]
 have hk2:=hk (by omega)
 rw [show (1:Int)+(k:Int)=((1+k:Nat):Int) by omega]
 refine zad.pc (zyn hs (k:=1+k) (by omega) (by omega)) rfl (.inr rfl) ?_
 simp(disch:=omega)only[↓RU,RV,RH,↓reduceIte,qE,reduceCtorEq,if_pos,qN,w64,↓RS,RG,qA,qM,qL,zaa]
 apply hK;clear hK K
 have hws:=ye6 (p:=p) (k:=1+k) (by omega) (by omega)
 refine W.seq ?_
 refine W.r fun K hK=>?_
 cases hv:(zvt p (1+k)).2
 ·skip
  simp(disch:=omega)only[↓RU,RV,RH,↓reduceIte,qE,reduceCtorEq,if_pos,qN,w64,↓RS,RG,qA,qM,qL,zaa,hv]
  apply hK;clear hK K
  refine W.cond rfl (fun h0=>?_) (fun h0=>?_)
  ·try simp only[RL]at h0
   exact absurd h0 (by simp)
  try simp only[RL]at h0
  refine W.skip ?_
  refine xn ?_
  refine W.r fun K hK=>?_
  simp(disch:=omega)only[↓RU,RV,RH,↓reduceIte,qE,reduceCtorEq,if_pos,qN,↓RS,RG,qA,qM,qL]
  refine zad.ev (zk8 (q:=q+1) (code:=code2) hc2 (by omega) (rows:=3) (cols:=3) (by omega) (by omega) (by omega) (by omega)) ?_
  rintro _ _ ⟨p3,q3,t3,rfl,hs3,hl3,hq3,rfl⟩
  simp(disch:=omega)only[↓RU,RV,RH,↓reduceIte,qE,reduceCtorEq,if_pos,qN,↓RS,RG,qA,qM,qL]
  apply hK;clear hK K
  refine W.ret ?_
  refine Br rfl ?_
  exact ⟨0,p,p3,_,hs,hs3,rfl,rfl⟩
 skip
 simp(disch:=omega)only[↓RU,RV,RH,↓reduceIte,qE,reduceCtorEq,if_pos,qN,w64,↓RS,RG,qA,qM,qL,zaa,hv]
 refine zad.ev (zfa (q:=q+1) hc2 (by omega) 2 (by omega) (by omega)) ?_
 rintro _ _ ⟨k2,rfl,hk2z,hk2,rfl⟩
 simp(disch:=omega)only[↓RU,RV,RH,↓reduceIte,qE,reduceCtorEq,if_pos,qN,w64,↓RS,RG,qA,qM,qL,zaa,hv]
 apply hK;clear hK K
 refine W.cond rfl (fun h0=>?_) (fun h0=>?_)
 ·try simp only[RL]at h0
  refine W.r fun K hK=>?_
  simp(disch:=omega)only[↓RU,RV,RH,↓reduceIte,qE,reduceCtorEq,if_pos,↓RS,RG,qA,qM,qL]
  apply hK;clear hK K
  refine W.ret ?_
  refine XThen.ret ?_
  refine Br rfl ?_
  exact ⟨0,p,_,_,hs,hws,rfl,rfl⟩
 try simp only[RL]at h0
 refine W.skip ?_
 refine xn ?_
 refine W.r fun K hK=>?_
 simp(disch:=omega)only[↓RU,RV,RH,↓reduceIte,qE,reduceCtorEq,if_pos,qN,↓RS,RG,qA,qM,qL]
 refine zad.ev (zk8 (q:=q+1+1) (code:=code2) hc2 (by omega) (rows:=3) (cols:=3) (by omega) (by omega) (by omega) (by omega)) ?_
 rintro _ _ ⟨p3,q3,t3,rfl,hs3,hl3,hq3,rfl⟩
 simp(disch:=omega)only[↓RU,RV,RH,↓reduceIte,qE,reduceCtorEq,if_pos,qN,↓RS,RG,qA,qM,qL]
 apply hK;clear hK K
 refine W.ret ?_
 refine Br rfl ?_
 exact ⟨0,p,p3,_,hs,hs3,rfl,rfl⟩
theorem zuv {code:Txt} (hcode:code.length≤9223372036854775807):PC Tryz.prog 4 [eBy code] (.bool true) true:=by
 refine PC.of ⟨Tryz.func4,by kernel_rfl,rfl,by kernel_rfl⟩ zar mixed (by show 1≤Tryz.f4.ntmps; decide) ?_
 refine W.r fun K hK=>?_
 simp(disch:=omega)only[↓RU,RV,RH,↓reduceIte,qE,reduceCtorEq,if_pos,↓RS,RG,qA,qM,qL]
 apply hK;clear hK K
 refine W.seq ?_
 refine W.r fun K hK=>?_
 simp(disch:=omega)only[↓RU,RV,RH,↓reduceIte,qE,reduceCtorEq,if_pos,w64,↓RS,RG,qA,qM,qL,ty6,zaa,zei]
 apply hK;clear hK K
 refine W.cond rfl (fun h0=>?_) (fun h0=>?_)
 ·try simp only[RL]at h0
  refine W.r fun K hK=>?_
  simp(disch:=omega)only[↓RU,RV,RH,↓reduceIte,qE,reduceCtorEq,if_pos,↓RS,RG,qA,qM,qL]
  apply hK;clear hK K
  refine W.ret ?_
  refine XThen.ret ?_
  refine Br rfl ?_
  rfl
 try simp only[RL]at h0
 have hcl:code.length≤1048576:=by omega
 refine W.skip ?_
 refine xn ?_
 refine W.r fun K hK=>?_
 simp(disch:=omega)only[↓RU,RV,RH,↓reduceIte,qE,reduceCtorEq,if_pos,qN,↓RS,RG,qA,qM,qL]
 refine zad.ev (zox hcl) ?_
 rintro _ _ ⟨p,q,t,hs,ht,rfl,rfl⟩
 simp(disch:=omega)only[↓RU,RV,RH,↓reduceIte,qE,reduceCtorEq,if_pos,qN,↓RS,RG,qA,qM,qL]
 apply hK;clear hK K
 refine W.r fun K hK=>?_
 simp(disch:=omega)only[↓RU,RV,RH,↓reduceIte,qE,reduceCtorEq,if_pos,qN,↓RS,RG,qA,qM,qL]
 refine zad.pc (zjh hs ht) rfl (.inl rfl) ?_
 simp(disch:=omega)only[↓RU,RV,RH,↓reduceIte,qE,reduceCtorEq,if_pos,qN,↓RS,RG,qA,qM,qL]
 apply hK;clear hK K
 refine W.r fun K hK=>?_
 simp(disch:=omega)only[↓RU,RV,RH,↓reduceIte,qE,reduceCtorEq,if_pos,qN,↓RS,RG,qA,qM,qL]
 refine zad.pc (zvg hs ht) rfl (.inl rfl) ?_
 simp(disch:=omega)only[↓RU,RV,RH,↓reduceIte,qE,reduceCtorEq,if_pos,qN,↓RS,RG,qA,qM,qL]
 apply hK;clear hK K
 refine W.seq ?_
 refine W.r fun K hK=>?_
 cases hv:zjn p q
 ·skip
  simp(disch:=omega)only[↓RU,RV,RH,↓reduceIte,qE,reduceCtorEq,if_pos,w64,↓RS,RG,qA,qM,qL,zah,zok,qO,bne_self_eq_false,beq_self_eq_true,Bool.not_true,Bool.not_false,decide_true,hv]
  apply hK;clear hK K
  refine W.cond rfl (fun h1=>?_) (fun h1=>?_)
  ·try simp only[RL]at h1
   refine W.r fun K hK=>?_
   simp(disch:=omega)only[↓RU,RV,RH,↓reduceIte,qE,reduceCtorEq,if_pos,w64,↓RS,RG,qA,qM,qL,zah,zok,qO,bne_self_eq_false,beq_self_eq_true,Bool.not_true,Bool.not_false,decide_true]
   apply hK;clear hK K
   refine W.ret ?_
   refine XThen.ret ?_
   refine Br rfl ?_
   rfl
  try simp only[RL]at h1
  exact absurd h1 (by simp)
 skip
 simp(disch:=omega)only[↓RU,RV,RH,↓reduceIte,qE,reduceCtorEq,if_pos,w64,↓RS,RG,qA,qM,qL,zah,zok,qO,bne_self_eq_false,beq_self_eq_true,Bool.not_true,Bool.not_false,decide_true,hv]
 apply hK;clear hK K
 refine W.cond rfl (fun h1=>?_) (fun h1=>?_)
 ·try simp only[RL]at h1
  exact absurd h1 (by simp)
 try simp only[RL]at h1
 obtain ⟨hp,hq,he,h2,h3,h4⟩:=z8p hv
 have m1:=(zjs hp).sm
 have m2:=(zjs hq).sm
 refine W.skip ?_
 refine xn ?_
 refine W.r fun K hK=>?_
 simp(disch:=omega)only[↓RU,RV,RH,↓reduceIte,qE,reduceCtorEq,if_pos,qN,↓RS,RG,qA,qM,qL]
 refine zad.pc (zq5 hs hp) rfl (.inr rfl) ?_
 simp(disch:=omega)only[↓RU,RV,RH,↓reduceIte,qE,reduceCtorEq,if_pos,qN,↓RS,RG,qA,qM,qL]
 apply hK;clear hK K
 refine W.r fun K hK=>?_
 simp(disch:=omega)only[↓RU,RV,RH,↓reduceIte,qE,reduceCtorEq,if_pos,qN,↓RS,RG,qA,qM,qL]
 refine zad.pc (zq5 ht hq) rfl (.inr rfl) ?_
 simp(disch:=omega)only[↓RU,RV,RH,↓reduceIte,qE,reduceCtorEq,if_pos,qN,↓RS,RG,qA,qM,qL]
 apply hK;clear hK K
 refine W.r fun K hK=>?_
 simp(disch:=omega)only[↓RU,RV,RH,↓reduceIte,qE,reduceCtorEq,if_pos,qN,w64,↓RS,RG,qA,qM,qL,zah,zok,qO,bne_self_eq_false,beq_self_eq_true,Bool.not_true,Bool.not_false,decide_true,h2,h3,h4,beq_self_eq_true]
 refine zad.pc (zjh ht hs) rfl (.inl rfl) ?_
 simp(disch:=omega)only[↓RU,RV,RH,↓reduceIte,qE,reduceCtorEq,if_pos,qN,w64,↓RS,RG,qA,qM,qL,zah,zok,qO,bne_self_eq_false,beq_self_eq_true,Bool.not_true,Bool.not_false,decide_true,h2,h3,h4,beq_self_eq_true]
 refine zad.pc (zjh m1 m2) rfl (.inl rfl) ?_
 simp(disch:=omega)only[↓RU,RV,RH,↓reduceIte,qE,reduceCtorEq,if_pos,qN,w64,↓RS,RG,qA,qM,qL,zah,zok,qO,bne_self_eq_false,beq_self_eq_true,Bool.not_true,Bool.not_false,decide_true,h2,h3,h4,beq_self_eq_true]
 refine zad.pc (z08 hs) rfl (.inl rfl) ?_
 simp(disch:=omega)only[↓RU,RV,RH,↓reduceIte,qE,reduceCtorEq,if_pos,qN,w64,↓RS,RG,qA,qM,qL,zah,zok,qO,bne_self_eq_false,beq_self_eq_true,Bool.not_true,Bool.not_false,decide_true,h2,h3,h4,beq_self_eq_true]
 refine zad.pc (z08 ht) rfl (.inl rfl) ?_
 simp(disch:=omega)only[↓RU,RV,RH,↓reduceIte,qE,reduceCtorEq,if_pos,qN,w64,↓RS,RG,qA,qM,qL,zah,zok,qO,bne_self_eq_false,beq_self_eq_true,Bool.not_true,Bool.not_false,decide_true,h2,h3,h4,beq_self_eq_true]
 apply hK;clear hK K
 refine W.ret ?_
 refine Br rfl ?_
 rfl
end Fw
end Go.Proofs.YtjobkanbijpfgaaGreat
namespace Go.Proofs.YtjobkanbijpfgaaGreat
open Go Go.ChangeShapes Go.WideShapes Go.ChangeAt Go.RowKit Fw
theorem Tryz.ownRnb:ownKnob Tryz.prog.godebug=none:=by kernel_rfl
theorem Tryz.laidOutRnb:laidOutB Tryz.prog=true:=by kernel_rfl
set_option maxRecDepth 100000 in
theorem rnb_lifted (os:Os) (started:os.Started) (H:Type) (enc:TypeId × Value→H) :
  ReturnsInHanded {} Tryz.checked os 4 .any (Rows.fnOrderSameSpec.pre6 enc Tryz.prog Tryz.f4 Rows.fnOrderSameRow.domain false) (Rows.fnOrderSameSpec.post enc Tryz.prog Tryz.f4 false true false false):=by
 refine returnsInHanded_of_change (C:=Tryz.checked) Tryz.ownRnb started (by kernel_rfl) Tryz.func4
  (ChangeSpec.witness6 (enc:=enc) (C:=Tryz.checked) false ⟨#[],#[.slice none 0 0],[]⟩ 8 (by kernel_rfl) (by kernel_rfl) (by kernel_rfl) (by kernel_rfl)) ?_
 intro W base args ds gs before hval0 hW hcnd _
 have hval:∀ (j:Nat) t v,Tryz.f4.params[j]?=some t→args[j]?=some v→Value.okWide Tryz.prog W .any base t v:=hval0
 have hW':=hW
 obtain ⟨p,q,hA0,hV,rfl,hfz,hnd⟩:=hW
 have hA:DataW.TrodAll enc Tryz.prog W 0 (fun _=>true) true Tryz.f4.params.toList args.toList ds p:=hA0
 rw [Tryz.params4]at hA hval
 obtain ⟨v0,d0,rfl,rfl,h0⟩:=trodAll_one hA
 obtain ⟨rfl,rfl⟩:=trodVars_none hV
 obtain ⟨l0,i0,b0⟩:=ybq (hval 0 _ v0 rfl rfl) h0
 have hlt:∀ x∈p,x.block<W.heap.size:=fun x hx=>hW'.lt x (by simp [hx])
 refine ((zuv b0).run (fun b=>b<W.heap.size) W #[v0] (fun _ h=>h) rfl ?_).mono ?_
 ·rintro (_ | i) p c hp hc
  ·cases hp; cases hc; exact i0
  simp at hp
 rintro e W' ⟨cv,rfl,⟨hB,_⟩,hr⟩
 have hcv:cv = .bool true:=by cases hr; rfl
 subst hcv
 have t0:=Below.trod Tryz.laidOutRnb (by kernel_rfl) (of_decide_eq_true (by kernel_rfl)) h0 hB fun x hx=>hlt x (by simp [hx])
 refine ⟨_,rfl,_,_,_,[],p,[],hW',?_,?_,?_,hB.frame _,fun h=>by cases h⟩
 ·exact trodAll_mk1 (shut_bool Tryz.underlying4 true)
 ·rw [Tryz.params4]; exact trodAll_mk1 t0
 trivial
theorem rnb_holds:Rows.FnOrderSameSaid :=
 OpenClaim.holds_of_wide 4 Tryz.f4 rfl rfl rfl rfl rfl rfl rfl ⟨rfl,rfl,rfl,rfl,rfl⟩ rfl rfl rfl rfl rfl (by kernel_rfl) Tryz.func4 (by kernel_rfl)
  (of_decide_eq_true (by kernel_rfl)) (by unfold Func.isWrapper; first | (rw [if_pos (by decide +kernel)]; kernel_rfl) | (rw [if_neg (by decide +kernel)]; exact ⟨rfl,rfl⟩))
  (fun os started H enc _=>rnb_lifted os started H enc)
end Go.Proofs.YtjobkanbijpfgaaGreat
