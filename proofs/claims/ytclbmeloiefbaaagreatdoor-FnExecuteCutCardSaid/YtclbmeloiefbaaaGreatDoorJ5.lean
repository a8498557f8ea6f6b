/- Parts of the framework and of the proof: Drawing plans, gone through; Drawing plans, gone through, continued; Drawing needs, gone through; Sizes by the program, gone through; Sizes, gone through; the small functions of the statements; Heaviest sums, gone through; Areas, gone through; The law of areas, gone through; Marks, gone through; Places and slack by the specification, gone through; A relation the other way round, place by place; Places and slack by the program, gone through; The laws of left and above, gone through; The law of places, gone through; The law of scripts that cut plans, gone through. -/
import Derived.Test.YtclbmeloiefbaaaGreatDoorJ4
import Derived.Test.YtclbmeloiefbaaaGreatDoorJ2
import Derived.Test.YtclbmeloiefbaaaGreatDoorJ3
set_option linter.all false
namespace Go.Proofs.YtclbmeloiefbaaaGreatDoor
namespace Fw
open Go
open Nat renaming reduceEqDiff → qE, reduceLeDiff → qL, reduceAdd → qA, reduceMul → qM, le_refl → qR
open List renaming append_nil → qN, mapM_append → qP, mapM_cons → qC, mapM_map → qU, range_succ → qS, take_of_length_le → qT
open Bool renaming and_eq_true → qB, false_eq_true → qF
open Option renaming map_some → qO, map_eq_some_iff → qI
open Int renaming reduceToNat → qZ
theorem zes {code:Txt} {q vr t:Nat} {R:List Ob} (hc:code.length≤1048576) (hq:q≤1000000) (n:Int) (hn:n≤1000000) (hn0 : -1000000≤n) :
  Ev Tryz.prog 129 [.ref 0 vr 0,.int .i64 n] ⟨.arr vr 135 2 [eBy code,.int .i64 (q:Int)]::R,t⟩ fun v S=>∃ k:Nat,v = .int .i64 (k:Int)∧(n<1→k=0)∧(1≤n→(k:Int)<n)∧S=⟨.arr vr 135 2 [eBy code,.int .i64 ((q+1:Nat):Int)]::R,t⟩ :=
 z8s hc hq n hn hn0
theorem ydi {code:Txt} {q vr t v1:Nat} {R:List Ob} {l:List Txt} (hc:code.length≤1048576) (hq:q≤1000000) (hl:1≤l.length) (hl2:l.length≤1000):Ev Tryz.prog 278 [.ref 0 vr 0,.loc 1 v1 0 l.length] ⟨.arr vr 135 2 [eBy code,.int .i64 (q:Int)] :: .arr v1 9 1 (l.map .str)::R,t⟩ fun v S=>∃ s,s∈l∧v = .str s∧S=⟨.arr vr 135 2 [eBy code,.int .i64 ((q+1:Nat):Int)] :: .arr v1 9 1 (l.map .str)::R,t⟩:=by
 refine Ev.of ⟨Tryz.func278,by kernel_rfl,rfl,by kernel_rfl⟩ zao mixed (by show 2≤Tryz.f278.ntmps; decide) ?_
 refine W.r fun K hK=>?_
 simp(disch:=omega)only[↓RU,RV,RH,↓reduceIte,qE,reduceCtorEq,if_pos,↓RS,RG,qA,qM,qL]
 apply hK;clear hK K
 refine W.r fun K hK=>?_
 simp(disch:=omega)only[↓RU,RV,RH,↓reduceIte,qE,reduceCtorEq,if_pos,qN,↓RS,RG,qA,qM,qL,ty4,zab]
 refine zac.ev (zes hc hq (l.length:Int) (by omega) (by omega)) ?_
 rintro _ _ ⟨k,rfl,-,hk,rfl⟩
 have hk2:=hk (by omega)
 obtain ⟨s,hsk,hsm⟩:=zaf (show k<l.length by omega)
 simp(disch:=omega)only[↓RU,RV,RH,↓reduceIte,qE,reduceCtorEq,if_pos,qN,↓RS,RG,qA,qM,qL,ty4,zab,hsk]
 apply hK;clear hK K
 refine W.ret ?_
 refine Br rfl ?_
 exact ⟨_,s,hsm,rfl,zaq⟩
theorem zyo {nh nw:Nat} (hn:nh≤100) (hm:nw≤100):PC Tryz.prog 226 [.int .i64 nh,.int .i64 nw] (zai (List.replicate nh (List.replicate nw (97:UInt8)))) true:=by
 refine PC.of ⟨Tryz.func226,by kernel_rfl,rfl,by kernel_rfl⟩ zao mixed (by show 2≤Tryz.f226.ntmps; decide) ?_
 refine W.r fun K hK=>?_
 simp(disch:=omega)only[↓RU,RV,RH,↓reduceIte,qE,reduceCtorEq,if_pos,↓RS,RG,qA,qM,qL]
 apply hK;clear hK K
 refine W.r fun K hK=>?_
 simp(disch:=omega)only[↓RU,RV,RH,↓reduceIte,qE,reduceCtorEq,if_pos,↓RS,RG,qA,qM,qL,ty4,zab]
 apply hK;clear hK K
 refine W.seq ?_
 refine W.r fun K hK=>?_
 simp(disch:=omega)only[↓RU,RV,RH,↓reduceIte,qE,reduceCtorEq,if_pos,↓RS,RG,qA,qM,qL]
 apply hK;clear hK K
 refine W.block ?_
 refine W.loop [0,1,5,6] (fun n vs S=>∃ i v0 tk:Nat,n=nh - i∧i≤nh∧vs=[.int .i64 nh,.int .i64 nw,.loc 0 v0 0 i,.int .i64 i]∧S=⟨[.arr v0 9 1 ((List.replicate i (List.replicate nw (97:UInt8))).map .str)],tk⟩) (nh) ?_ ?_
 ·refine ⟨1,0,0,1,rfl,Nat.zero_le _,?_,rfl⟩
  simp [Env.put,Env.of,zag]
 rintro n vs S - ⟨i,v0,tk,rfl,h_i,rfl,rfl⟩
 refine W.seq ?_
 refine W.r fun K hK=>?_
 simp(disch:=omega)only[↓RU,RV,RH,↓reduceIte,qE,reduceCtorEq,if_pos,w64,↓RS,RG,qA,qM,qL,zaa]
 apply hK;clear hK K
 refine W.cond rfl (fun h=>?_) (fun h=>?_)
 ·try simp only[RL]at h
  refine W.skip ?_
  refine xn ?_
  refine W.seq ?_
  refine W.block ?_
  refine W.r fun K hK=>?_
  simp(disch:=omega)only[↓RU,RV,RH,↓reduceIte,qE,reduceCtorEq,if_pos,↓RS,RG,qA,qM,qL,ty5,zd3]
  apply hK;clear hK K
  refine W.seq ?_
  refine W.r fun K hK=>?_
  simp(disch:=omega)only[↓RU,RV,RH,↓reduceIte,qE,reduceCtorEq,if_pos,↓RS,RG,qA,qM,qL]
  apply hK;clear hK K
  refine W.block ?_
  refine W.loop [0,1,5,6,7,8] (fun n vs S=>∃ k v1 tk:Nat,n=nw - k∧k≤nw∧vs=[.int .i64 nh,.int .i64 nw,.loc 0 v0 0 i,.int .i64 i,.loc 1 v1 0 k,.int .i64 k]∧S=⟨[.arr v0 9 1 ((List.replicate i (List.replicate nw (97:UInt8))).map .str),.arr v1 5 1 ((List.replicate k (97:UInt8)).map eB)],tk⟩) (nw) ?_ ?_
  ·refine ⟨2,0,tk,tk+1,rfl,Nat.zero_le _,?_,rfl⟩
   simp [Env.put,Env.of]
  rintro n vs S - ⟨k,v1,tk,rfl,h_k,rfl,rfl⟩
  refine W.seq ?_
  refine W.r fun K hK=>?_
  simp(disch:=omega)only[↓RU,RV,RH,↓reduceIte,qE,reduceCtorEq,if_pos,w64,↓RS,RG,qA,qM,qL,zaa]
  apply hK;clear hK K
  refine W.cond rfl (fun h1=>?_) (fun h1=>?_)
  ·try simp only[RL]at h1
   refine W.skip ?_
   refine xn ?_
   refine W.seq ?_
   refine W.block ?_
   refine W.k fun K hK=>?_
   simp(disch:=omega)only[↓RU,RV,RH,↓reduceIte,qE,reduceCtorEq,if_pos,↓RS,RG,qA,qM,qL,ty5,zd3,List.length_replicate]
   apply hK;clear hK K
   refine XbN ?_
   refine xn ?_
   refine W.k fun K hK=>?_
   simp(disch:=omega)only[↓RU,RV,RH,↓reduceIte,qE,reduceCtorEq,if_pos,w64,↓RS,RG,qA,qM,qL,zaa]
   apply hK;clear hK K
   refine xn ?_
   refine ⟨nw - (k+1),by omega,2,k+1,tk+1,tk+2,rfl,by omega,?_,?_⟩
   all_goals simp [Env.put,Env.of,zby,z28,List.replicate_succ',List.map_append]
  ·try simp only[RL]at h1
   obtain rfl:k=nw:=by omega
   have hbo:=zr8 (List.replicate k (97:UInt8))
   have htk:((List.replicate k (97:UInt8)).map eB).take k=(List.replicate k (97:UInt8)).map eB:=qT (by simp)
   refine W.exit ?_
   refine xe ?_
   refine xe ?_
   refine XBlock.hit ?_
   refine xn ?_
   refine W.k fun K hK=>?_
   simp(disch:=omega)only[↓RU,RV,RH,↓reduceIte,qE,reduceCtorEq,if_pos,w64,↓RS,RG,qA,qM,qL,ty4,ty5,zab,zd3,List.length_replicate,htk,hbo]
   apply hK;clear hK K
   refine XbN ?_
   refine xn ?_
   refine W.k fun K hK=>?_
   simp(disch:=omega)only[↓RU,RV,RH,↓reduceIte,qE,reduceCtorEq,if_pos,w64,↓RS,RG,qA,qM,qL,zaa]
   apply hK;clear hK K
   refine xn ?_
   refine ⟨nh - (i+1),by omega,1,i+1,tk+1,tk+2,rfl,by omega,?_,?_⟩
   all_goals simp [Env.put,Env.of,zby,z28,List.replicate_succ',List.map_append]
 try simp only[RL]at h
 obtain rfl:i=nh:=by omega
 refine W.exit ?_
 refine xe ?_
 refine xe ?_
 refine XBlock.hit ?_
 refine xn ?_
 refine W.r fun K hK=>?_
 simp(disch:=omega)only[↓RU,RV,RH,↓reduceIte,qE,reduceCtorEq,if_pos,↓RS,RG,qA,qM,qL]
 apply hK;clear hK K
 refine W.ret ?_
 refine Br rfl ?_
 exact (zcl (k:=9) rfl (by simp) (zgd _)).trans (by simp)
theorem zcn {S:Store} {k ver off:Nat}:frz S 1 (k+1) (.ref 0 ver off)=some (.ref 0 ver off):=by simp [frz]
theorem zdj (p:List Txt):List.take p.length (p.map PV.str)=p.map .str:=qT (by simp)
theorem zco {S:Store} {lo k:Nat} (l:List Txt):(l.map PV.str).mapM (rfz S lo (k+1))=some (l.map PV.str):=zqs (fun _=>rfl) l
theorem zyw {p:List Txt} (h:zbc p=true):Sm p:=by
 obtain ⟨h1,-,h3⟩:=zmy h
 exact ⟨by omega,fun r hr=>by have:=(h3 r hr).2; omega⟩
theorem zqq {p:List Txt} (h:zbc p=true):zbt p≤9:=by
 unfold zbc at h; simp only[qB,decide_eq_true_eq]at h; omega
theorem z9z {s:Txt} (h:s∈([[104],[118]]:List Txt)):s.length≤1048576:=by
 simp only[List.mem_cons,List.not_mem_nil,or_false]at h
 rcases h with rfl | rfl <;> simp
theorem z42 {code:Txt} {q vr t:Nat} {R:List Ob} (hc:code.length≤1048576) (hq:q≤900000) {p:List Txt} (hp:zbc p=true) {many:Nat} (hm:many≤1000):Ev Tryz.prog 225 [.ref 0 vr 0,zai p,.int .i64 many] ⟨.arr vr 135 2 [eBy code,.int .i64 (q:Int)]::R,t⟩ fun v S=>∃ (p2:List Txt) (q2 t2:Nat),v=zai p2∧zbc p2=true∧p2.length=p.length∧q2≤q+3*many∧S=⟨[.arr vr 135 2 [eBy code,.int .i64 (q2:Int)]],t2⟩:=by
 refine Ev.of ⟨Tryz.func225,by kernel_rfl,rfl,by kernel_rfl⟩ zao mixed (by show 3≤Tryz.f225.ntmps; decide) ?_
 refine W.r fun K hK=>?_
 simp(disch:=omega)only[↓RU,RV,RH,↓reduceIte,qE,reduceCtorEq,if_pos,↓RS,RG,qA,qM,qL]
 apply hK;clear hK K
 refine W.seq ?_
 refine W.r fun K hK=>?_
 simp(disch:=omega)only[↓RU,RV,RH,↓reduceIte,qE,reduceCtorEq,if_pos,↓RS,RG,qA,qM,qL]
 apply hK;clear hK K
 refine W.block ?_
 refine W.loopZ [0,1,2,7] (fun n vs S=>∃ (i:Nat) (p2:List Txt) (q2 tk:Nat),n=many - i∧i≤many∧zbc p2=true∧p2.length=p.length∧q2≤q+3*i∧vs=[.ref 0 vr 0,zai p2,.int .i64 many,.int .i64 i]∧S=⟨[.arr vr 135 2 [eBy code,.int .i64 (q2:Int)]],tk⟩) many ?_ ?_
 ·refine ⟨1,[.ref 0 vr 0,zai p,.int .i64 many,.int .i64 (0:Nat)],⟨[.arr vr 135 2 [eBy code,.int .i64 (q:Int)]],t⟩,?_,?_,0,p,q,t,rfl,by omega,hp,rfl,by omega,rfl,rfl⟩
  ·simp [-qU,Store.frz,zbz,zci,zas,zbk,zbl,zbm,zcd,za1,za5,za2,zar,zat,zbp,za4,zbn,za0,Env.put,Env.of,zag,zbo,qP,qC,zcn,zdj,zco]
  simp [-qU,Store.frz,zbz,zci,zas,zbk,zbl,zbm,zcd,za1,za5,za2,zar,zat,zbp,za4,zbn,za0,Env.put,Env.of,zag,zbo,qP,qC,zcn,zdj,zco]
 rintro n vs S - ⟨i,p2,q2,tk,rfl,h_i,hp2,hl2,hq2,rfl,rfl⟩
 refine W.seq ?_
 refine W.r fun K hK=>?_
 simp(disch:=omega)only[↓RU,RV,RH,↓reduceIte,qE,reduceCtorEq,if_pos,w64,↓RS,RG,qA,qM,qL,zaa]
 apply hK;clear hK K
 refine W.cond rfl (fun h=>?_) (fun h=>?_)
 ·try simp only[RL]at h
  have hs2:=zyw hp2
  have hr9:=zqq hp2
  have hrb:=zdp p2
  refine W.skip ?_
  refine xn ?_
  refine W.seq ?_
  refine W.block ?_
  refine W.r fun K hK=>?_
  simp(disch:=omega)only[↓RU,RV,RH,↓reduceIte,qE,reduceCtorEq,if_pos,qN,↓RS,RG,qA,qM,qL]
  refine zac.pc (zid hs2) rfl (.inl rfl) ?_
  simp(disch:=omega)only[↓RU,RV,RH,↓reduceIte,qE,reduceCtorEq,if_pos,qN,↓RS,RG,qA,qM,qL]
  refine zac.ev (zes hc (by omega) (zbt p2) (by omega) (by omega)) ?_
  rintro _ _ ⟨k1,rfl,-,-,rfl⟩
  simp(disch:=omega)only[↓RU,RV,RH,↓reduceIte,qE,reduceCtorEq,if_pos,qN,↓RS,RG,qA,qM,qL]
  apply hK;clear hK K
  refine W.r fun K hK=>?_
  simp(disch:=omega)only[↓RU,RV,RH,↓reduceIte,qE,reduceCtorEq,if_pos,qN,w64,↓RS,RG,qA,qM,qL,ty4,zaa,zab]
  refine zac.ev (ydi (R:=[]) (l:=[[104],[118]]) hc (by omega) (by simp) (by simp)) ?_
  rintro _ _ ⟨s,hsm,rfl,rfl⟩
  have hsl:=z9z hsm
  simp(disch:=omega)only[↓RU,RV,RH,↓reduceIte,qE,reduceCtorEq,if_pos,qN,w64,↓RS,RG,qA,qM,qL,ty4,zaa,zab]
  refine zac.ev (zes (q:=q2+1+1) hc (by omega) 3 (by omega) (by omega)) ?_
  rintro _ _ ⟨k2,rfl,-,hk2,rfl⟩
  have hk3:=hk2 (by omega)
  simp(disch:=omega)only[↓RU,RV,RH,↓reduceIte,qE,reduceCtorEq,if_pos,qN,w64,↓RS,RG,qA,qM,qL,ty4,zaa,zab]
  refine zac.pc (znw hs2 k1 hsl (1+k2)) rfl (.inr rfl) ?_
  simp(disch:=omega)only[↓RU,RV,RH,↓reduceIte,qE,reduceCtorEq,if_pos,qN,w64,↓RS,RG,qA,qM,qL,ty4,zaa,zab]
  apply hK;clear hK K
  refine W.r fun K hK=>?_
  simp(disch:=omega)only[↓RU,RV,RH,↓reduceIte,qE,reduceCtorEq,if_pos,↓RS,RG,qA,qM,qL]
  apply hK;clear hK K
  refine W.cond rfl (fun h1=>?_) (fun h1=>?_)
  ·try simp only[RL]at h1
   obtain ⟨ho1,ho2⟩:=zxk h1
   refine W.k fun K hK=>?_
   simp(disch:=omega)only[↓RU,RV,RH,↓reduceIte,qE,reduceCtorEq,if_pos,↓RS,RG,qA,qM,qL]
   apply hK;clear hK K
   refine XbN ?_
   refine xn ?_
   refine W.k fun K hK=>?_
   simp(disch:=omega)only[↓RU,RV,RH,↓reduceIte,qE,reduceCtorEq,if_pos,w64,↓RS,RG,qA,qM,qL,zaa]
   apply hK;clear hK K
   refine xn ?_
   refine ⟨many - (i+1),by omega,1,[.ref 0 vr 0,zai (zem p2 k1 s (1+k2)).1,.int .i64 many,.int .i64 ((i+1:Nat):Int)],⟨[.arr vr 135 2 [eBy code,.int .i64 ((q2+1+1+1:Nat):Int)]],tk+1⟩,?_,?_,i+1,(zem p2 k1 s (1+k2)).1,q2+1+1+1,tk+1,rfl,by omega,ho1,ho2.trans hl2,by omega,rfl,rfl⟩
   ·simp [-qU,Store.frz,zbz,zci,zas,zbk,zbl,zbm,zcd,za1,za5,za2,zar,zat,zbp,za4,zbn,za0,Env.put,Env.of,zag,zbo,qP,qC,zcn,zdj,zco]
   simp [-qU,Store.frz,zbz,zci,zas,zbk,zbl,zbm,zcd,za1,za5,za2,zar,zat,zbp,za4,zbn,za0,Env.put,Env.of,zag,zbo,qP,qC,zcn,zdj,zco]
  try simp only[RL]at h1
  refine W.skip ?_
  refine XbN ?_
  refine xn ?_
  refine W.k fun K hK=>?_
  simp(disch:=omega)only[↓RU,RV,RH,↓reduceIte,qE,reduceCtorEq,if_pos,w64,↓RS,RG,qA,qM,qL,zaa]
  apply hK;clear hK K
  refine xn ?_
  refine ⟨many - (i+1),by omega,1,[.ref 0 vr 0,zai p2,.int .i64 many,.int .i64 ((i+1:Nat):Int)],⟨[.arr vr 135 2 [eBy code,.int .i64 ((q2+1+1+1:Nat):Int)]],tk+1⟩,?_,?_,i+1,p2,q2+1+1+1,tk+1,rfl,by omega,hp2,hl2,by omega,rfl,rfl⟩
  ·simp [-qU,Store.frz,zbz,zci,zas,zbk,zbl,zbm,zcd,za1,za5,za2,zar,zat,zbp,za4,zbn,za0,Env.put,Env.of,zag,zbo,qP,qC,zcn,zdj,zco]
  simp [-qU,Store.frz,zbz,zci,zas,zbk,zbl,zbm,zcd,za1,za5,za2,zar,zat,zbp,za4,zbn,za0,Env.put,Env.of,zag,zbo,qP,qC,zcn,zdj,zco]
 try simp only[RL]at h
 obtain rfl:i=many:=by omega
 refine W.exit ?_
 refine xe ?_
 refine xe ?_
 refine XBlock.hit ?_
 refine xn ?_
 refine W.r fun K hK=>?_
 simp(disch:=omega)only[↓RU,RV,RH,↓reduceIte,qE,reduceCtorEq,if_pos,↓RS,RG,qA,qM,qL]
 apply hK;clear hK K
 refine W.ret ?_
 refine Br rfl ?_
 exact ⟨_,p2,q2,tk,rfl,hp2,hl2,by omega,zaq⟩
theorem zsv {code:Txt} {q vr t v1:Nat} {R:List Ob} (hc:code.length≤1048576) (hq:q≤900000) {p:List Txt} (hp:zbc p=true) {many:Nat} (hm:many≤1000):Ev Tryz.prog 225 [.ref 0 vr 0,.loc 1 v1 0 p.length,.int .i64 many] ⟨.arr vr 135 2 [eBy code,.int .i64 (q:Int)] :: .arr v1 9 1 (p.map .str)::R,t⟩ fun v S=>∃ (p2:List Txt) (q2 t2:Nat),v=zai p2∧zbc p2=true∧p2.length=p.length∧q2≤q+3*many∧S=⟨[.arr vr 135 2 [eBy code,.int .i64 (q2:Int)]],t2⟩:=by
 refine Ev.of ⟨Tryz.func225,by kernel_rfl,rfl,by kernel_rfl⟩ zao mixed (by show 3≤Tryz.f225.ntmps; decide) ?_
 refine W.r fun K hK=>?_
 simp(disch:=omega)only[↓RU,RV,RH,↓reduceIte,qE,reduceCtorEq,if_pos,↓RS,RG,qA,qM,qL]
 apply hK;clear hK K
 refine W.seq ?_
 refine W.r fun K hK=>?_
 simp(disch:=omega)only[↓RU,RV,RH,↓reduceIte,qE,reduceCtorEq,if_pos,↓RS,RG,qA,qM,qL]
 apply hK;clear hK K
 refine W.block ?_
 refine W.loopZ [0,1,2,7] (fun n vs S=>∃ (i:Nat) (p2:List Txt) (q2 tk:Nat),n=many - i∧i≤many∧zbc p2=true∧p2.length=p.length∧q2≤q+3*i∧vs=[.ref 0 vr 0,zai p2,.int .i64 many,.int .i64 i]∧S=⟨[.arr vr 135 2 [eBy code,.int .i64 (q2:Int)]],tk⟩) many ?_ ?_
 ·refine ⟨1,[.ref 0 vr 0,zai p,.int .i64 many,.int .i64 (0:Nat)],⟨[.arr vr 135 2 [eBy code,.int .i64 (q:Int)]],t⟩,?_,?_,0,p,q,t,rfl,by omega,hp,rfl,by omega,rfl,rfl⟩
  ·simp [-qU,Store.frz,zbz,zci,zas,zbk,zbl,zbm,zcd,za1,za5,za2,zar,zat,zbp,za4,zbn,za0,Env.put,Env.of,zag,zbo,qP,qC,zcn,zdj,zco]
  simp [-qU,Store.frz,zbz,zci,zas,zbk,zbl,zbm,zcd,za1,za5,za2,zar,zat,zbp,za4,zbn,za0,Env.put,Env.of,zag,zbo,qP,qC,zcn,zdj,zco]
 rintro n vs S - ⟨i,p2,q2,tk,rfl,h_i,hp2,hl2,hq2,rfl,rfl⟩
 refine W.seq ?_
 refine W.r fun K hK=>?_
 simp(disch:=omega)only[↓RU,RV,RH,↓reduceIte,qE,reduceCtorEq,if_pos,w64,↓RS,RG,qA,qM,qL,zaa]
 apply hK;clear hK K
 refine W.cond rfl (fun h=>?_) (fun h=>?_)
 ·try simp only[RL]at h
  have hs2:=zyw hp2
  have hr9:=zqq hp2
  have hrb:=zdp p2
  refine W.skip ?_
  refine xn ?_
  refine W.seq ?_
  refine W.block ?_
  refine W.r fun K hK=>?_
  simp(disch:=omega)only[↓RU,RV,RH,↓reduceIte,qE,reduceCtorEq,if_pos,qN,↓RS,RG,qA,qM,qL]
  refine zac.pc (zid hs2) rfl (.inl rfl) ?_
  simp(disch:=omega)only[↓RU,RV,RH,↓reduceIte,qE,reduceCtorEq,if_pos,qN,↓RS,RG,qA,qM,qL]
  refine zac.ev (zes hc (by omega) (zbt p2) (by omega) (by omega)) ?_
  rintro _ _ ⟨k1,rfl,-,-,rfl⟩
  simp(disch:=omega)only[↓RU,RV,RH,↓reduceIte,qE,reduceCtorEq,if_pos,qN,↓RS,RG,qA,qM,qL]
  apply hK;clear hK K
  refine W.r fun K hK=>?_
  simp(disch:=omega)only[↓RU,RV,RH,↓reduceIte,qE,reduceCtorEq,if_pos,qN,w64,↓RS,RG,qA,qM,qL,ty4,zaa,zab]
  refine zac.ev (ydi (R:=[]) (l:=[[104],[118]]) hc (by omega) (by simp) (by simp)) ?_
  rintro _ _ ⟨s,hsm,rfl,rfl⟩
  have hsl:=z9z hsm
  simp(disch:=omega)only[↓RU,RV,RH,↓reduceIte,qE,reduceCtorEq,if_pos,qN,w64,↓RS,RG,qA,qM,qL,ty4,zaa,zab]
  refine zac.ev (zes (q:=q2+1+1) hc (by omega) 3 (by omega) (by omega)) ?_
  rintro _ _ ⟨k2,rfl,-,hk2,rfl⟩
  have hk3:=hk2 (by omega)
  simp(disch:=omega)only[↓RU,RV,RH,↓reduceIte,qE,reduceCtorEq,if_pos,qN,w64,↓RS,RG,qA,qM,qL,ty4,zaa,zab]
  refine zac.pc (znw hs2 k1 hsl (1+k2)) rfl (.inr rfl) ?_
  simp(disch:=omega)only[↓RU,RV,RH,↓reduceIte,qE,reduceCtorEq,if_pos,qN,w64,↓RS,RG,qA,qM,qL,ty4,zaa,zab]
  apply hK;clear hK K
  refine W.r fun K hK=>?_
  simp(disch:=omega)only[↓RU,RV,RH,↓reduceIte,qE,reduceCtorEq,if_pos,↓RS,RG,qA,qM,qL]
  apply hK;clear hK K
  refine W.cond rfl (fun h1=>?_) (fun h1=>?_)
  ·try simp only[RL]at h1
   obtain ⟨ho1,ho2⟩:=zxk h1
   refine W.k fun K hK=>?_
   simp(disch:=omega)only[↓RU,RV,RH,↓reduceIte,qE,reduceCtorEq,if_pos,↓RS,RG,qA,qM,qL]
   apply hK;clear hK K
   refine XbN ?_
   refine xn ?_
   refine W.k fun K hK=>?_
   simp(disch:=omega)only[↓RU,RV,RH,↓reduceIte,qE,reduceCtorEq,if_pos,w64,↓RS,RG,qA,qM,qL,zaa]
   apply hK;clear hK K
   refine xn ?_
   refine ⟨many - (i+1),by omega,1,[.ref 0 vr 0,zai (zem p2 k1 s (1+k2)).1,.int .i64 many,.int .i64 ((i+1:Nat):Int)],⟨[.arr vr 135 2 [eBy code,.int .i64 ((q2+1+1+1:Nat):Int)]],tk+1⟩,?_,?_,i+1,(zem p2 k1 s (1+k2)).1,q2+1+1+1,tk+1,rfl,by omega,ho1,ho2.trans hl2,by omega,rfl,rfl⟩
   ·simp [-qU,Store.frz,zbz,zci,zas,zbk,zbl,zbm,zcd,za1,za5,za2,zar,zat,zbp,za4,zbn,za0,Env.put,Env.of,zag,zbo,qP,qC,zcn,zdj,zco]
   simp [-qU,Store.frz,zbz,zci,zas,zbk,zbl,zbm,zcd,za1,za5,za2,zar,zat,zbp,za4,zbn,za0,Env.put,Env.of,zag,zbo,qP,qC,zcn,zdj,zco]
  try simp only[RL]at h1
  refine W.skip ?_
  refine XbN ?_
  refine xn ?_
  refine W.k fun K hK=>?_
  simp(disch:=omega)only[↓RU,RV,RH,↓reduceIte,qE,reduceCtorEq,if_pos,w64,↓RS,RG,qA,qM,qL,zaa]
  apply hK;clear hK K
  refine xn ?_
  refine ⟨many - (i+1),by omega,1,[.ref 0 vr 0,zai p2,.int .i64 many,.int .i64 ((i+1:Nat):Int)],⟨[.arr vr 135 2 [eBy code,.int .i64 ((q2+1+1+1:Nat):Int)]],tk+1⟩,?_,?_,i+1,p2,q2+1+1+1,tk+1,rfl,by omega,hp2,hl2,by omega,rfl,rfl⟩
  ·simp [-qU,Store.frz,zbz,zci,zas,zbk,zbl,zbm,zcd,za1,za5,za2,zar,zat,zbp,za4,zbn,za0,Env.put,Env.of,zag,zbo,qP,qC,zcn,zdj,zco]
  simp [-qU,Store.frz,zbz,zci,zas,zbk,zbl,zbm,zcd,za1,za5,za2,zar,zat,zbp,za4,zbn,za0,Env.put,Env.of,zag,zbo,qP,qC,zcn,zdj,zco]
 try simp only[RL]at h
 obtain rfl:i=many:=by omega
 refine W.exit ?_
 refine xe ?_
 refine xe ?_
 refine XBlock.hit ?_
 refine xn ?_
 refine W.r fun K hK=>?_
 simp(disch:=omega)only[↓RU,RV,RH,↓reduceIte,qE,reduceCtorEq,if_pos,↓RS,RG,qA,qM,qL]
 apply hK;clear hK K
 refine W.ret ?_
 refine Br rfl ?_
 exact ⟨_,p2,q2,tk,rfl,hp2,hl2,by omega,zaq⟩
theorem z15 {nh nw:Nat} (h1:1≤nh) (h2:nh≤6) (w1:1≤nw) (w2:nw≤6):zbc (List.replicate nh (List.replicate nw (97:UInt8)))=true:=by
 rcases (show nh=1∨nh=2∨nh=3∨nh=4∨nh=5∨nh=6 by omega) with rfl | rfl | rfl | rfl | rfl | rfl <;>
 rcases (show nw=1∨nw=2∨nw=3∨nw=4∨nw=5∨nw=6 by omega) with rfl | rfl | rfl | rfl | rfl | rfl <;> decide +kernel
def ydz:List Txt:=[[97,97,98],[99,100,98],[99,101,101]]
def yd0:List Txt:=[[97,97,97,98],[99,100,100,98],[99,100,100,98],[99,101,101,101]]
theorem zzl:zbc ydz=true:=by decide +kernel
theorem zzm:zbc yd0=true:=by decide +kernel
theorem z2h {code:Txt} {q vr t:Nat} (hc:code.length≤1048576) (hq:q≤800000) {nh nw:Nat} (h1:1≤nh) (h2:nh≤6) (w1:1≤nw) (w2:nw≤6):Ev Tryz.prog 130 [.ref 0 vr 0,.int .i64 nh,.int .i64 nw] ⟨[.arr vr 135 2 [eBy code,.int .i64 (q:Int)]],t⟩ fun v S=>∃ (p2:List Txt) (q2 t2:Nat),v=zai p2∧zbc p2=true∧p2.length=nh∧q2≤q+100∧S=⟨[.arr vr 135 2 [eBy code,.int .i64 (q2:Int)]],t2⟩:=by
 refine Ev.of ⟨Tryz.func130,by kernel_rfl,rfl,by kernel_rfl⟩ zao mixed (by show 3≤Tryz.f130.ntmps; decide) ?_
 refine W.r fun K hK=>?_
 simp(disch:=omega)only[↓RU,RV,RH,↓reduceIte,qE,reduceCtorEq,if_pos,↓RS,RG,qA,qM,qL]
 apply hK;clear hK K
 refine W.seq ?_
 refine W.join [0,1,2,17] (fun vs S=>∃ (q2:Nat) (b:Bool),q2≤q+1∧(b=true→nh=3)∧vs=[.ref 0 vr 0,.int .i64 nh,.int .i64 nw,.bool b]∧S=⟨[.arr vr 135 2 [eBy code,.int .i64 (q2:Int)]],t⟩) ?_ ?_
 ·
  refine W.k fun K hK=>?_
  rcases hd:(((nh:Int) == 3),((nw:Int) == 3)) with ⟨_ | _,_ | _⟩
  ·skip
   simp only[Prod.mk.injEq]at hd
   obtain ⟨hd1,hd2⟩:=hd
   simp(disch:=omega)only[↓RU,RV,RH,↓reduceIte,qE,reduceCtorEq,if_pos,w64,qN,↓RS,RG,qA,qM,qL,zaa,hd1,hd2]
   apply hK;clear hK K
   refine xn ?_
   refine ⟨_,q,false,by omega,fun h9=>(by cases h9),?_,zaq⟩
   simp [Env.put,Env.of,zag]
  ·skip
   simp only[Prod.mk.injEq]at hd
   obtain ⟨hd1,hd2⟩:=hd
   simp(disch:=omega)only[↓RU,RV,RH,↓reduceIte,qE,reduceCtorEq,if_pos,w64,qN,↓RS,RG,qA,qM,qL,zaa,hd1,hd2]
   apply hK;clear hK K
   refine xn ?_
   refine ⟨_,q,false,by omega,fun h9=>(by cases h9),?_,zaq⟩
   simp [Env.put,Env.of,zag]
  ·skip
   simp only[Prod.mk.injEq]at hd
   obtain ⟨hd1,hd2⟩:=hd
   simp(disch:=omega)only[↓RU,RV,RH,↓reduceIte,qE,reduceCtorEq,if_pos,w64,qN,↓RS,RG,qA,qM,qL,zaa,hd1,hd2]
   apply hK;clear hK K
   refine xn ?_
   refine ⟨_,q,false,by omega,fun h9=>(by cases h9),?_,zaq⟩
   simp [Env.put,Env.of,zag]
  skip
  simp only[Prod.mk.injEq]at hd
  obtain ⟨hd1,hd2⟩:=hd
  simp(disch:=omega)only[↓RU,RV,RH,↓reduceIte,qE,reduceCtorEq,if_pos,w64,qN,↓RS,RG,qA,qM,qL,zaa,hd1,hd2]
  refine zac.ev (zes (q:=q) hc (by omega) 2 (by omega) (by omega)) ?_
  rintro _ _ ⟨k1,rfl,-,hk1,rfl⟩
  have hk1b:=hk1 (by omega)
  simp(disch:=omega)only[↓RU,RV,RH,↓reduceIte,qE,reduceCtorEq,if_pos,w64,qN,↓RS,RG,qA,qM,qL,zaa,hd1,hd2]
  apply hK;clear hK K
  refine xn ?_
  refine ⟨_,q+1,((k1:Int) == 0),by omega,fun _=>(by have:=beq_iff_eq.1 hd1; omega),?_,zaq⟩
  simp [Env.put,Env.of,zag]
 rintro vs S - ⟨qa,b3,hqa,hb3,rfl,rfl⟩
 refine W.cond rfl (fun h3=>?_) (fun h3=>?_)
 ·try simp only[RL]at h3
  refine W.r fun K hK=>?_
  simp(disch:=omega)only[↓RU,RV,RH,↓reduceIte,qE,reduceCtorEq,if_pos,qN,↓RS,RG,qA,qM,qL,ty4,zab]
  refine zac.ev (zes (q:=qa) hc (by omega) 2 (by omega) (by omega)) ?_
  rintro _ _ ⟨k1,rfl,-,hk1,rfl⟩
  have hk1b:=hk1 (by omega)
  simp(disch:=omega)only[↓RU,RV,RH,↓reduceIte,qE,reduceCtorEq,if_pos,qN,↓RS,RG,qA,qM,qL,ty4,zab]
  refine zac.ev (zsv (q:=qa+1) (R:=[]) hc (by omega) zzl (many:=k1) (by omega)) ?_
  rintro _ _ ⟨p2,q2,t2,rfl,hp2,hl2,hq2,rfl⟩
  simp(disch:=omega)only[↓RU,RV,RH,↓reduceIte,qE,reduceCtorEq,if_pos,qN,↓RS,RG,qA,qM,qL,ty4,zab]
  apply hK;clear hK K
  refine W.ret ?_
  refine XThen.ret ?_
  refine Br rfl ?_
  exact ⟨_,p2,q2,t2,rfl,hp2,hl2.trans (hb3 h3).symm,by omega,zaq⟩
 try simp only[RL]at h3
 refine W.skip ?_
 refine xn ?_
 refine W.seq ?_
 refine W.join [0,1,2,33] (fun vs S=>∃ (q2:Nat) (b:Bool),q2≤q+2∧(b=true→nh=4)∧vs=[.ref 0 vr 0,.int .i64 nh,.int .i64 nw,.bool b]∧S=⟨[.arr vr 135 2 [eBy code,.int .i64 (q2:Int)]],t⟩) ?_ ?_
 ·
  refine W.k fun K hK=>?_
  rcases hd:(((nh:Int) == 4),((nw:Int) == 4)) with ⟨_ | _,_ | _⟩
  ·skip
   simp only[Prod.mk.injEq]at hd
   obtain ⟨hd1,hd2⟩:=hd
   simp(disch:=omega)only[↓RU,RV,RH,↓reduceIte,qE,reduceCtorEq,if_pos,w64,qN,↓RS,RG,qA,qM,qL,zaa,hd1,hd2]
   apply hK;clear hK K
   refine xn ?_
   refine ⟨_,qa,false,by omega,fun h9=>(by cases h9),?_,zaq⟩
   simp [Env.put,Env.of,zag]
  ·skip
   simp only[Prod.mk.injEq]at hd
   obtain ⟨hd1,hd2⟩:=hd
   simp(disch:=omega)only[↓RU,RV,RH,↓reduceIte,qE,reduceCtorEq,if_pos,w64,qN,↓RS,RG,qA,qM,qL,zaa,hd1,hd2]
   apply hK;clear hK K
   refine xn ?_
   refine ⟨_,qa,false,by omega,fun h9=>(by cases h9),?_,zaq⟩
   simp [Env.put,Env.of,zag]
  ·skip
   simp only[Prod.mk.injEq]at hd
   obtain ⟨hd1,hd2⟩:=hd
   simp(disch:=omega)only[↓RU,RV,RH,↓reduceIte,qE,reduceCtorEq,if_pos,w64,qN,↓RS,RG,qA,qM,qL,zaa,hd1,hd2]
   apply hK;clear hK K
   refine xn ?_
   refine ⟨_,qa,false,by omega,fun h9=>(by cases h9),?_,zaq⟩
   simp [Env.put,Env.of,zag]
  skip
  simp only[Prod.mk.injEq]at hd
  obtain ⟨hd1,hd2⟩:=hd
  simp(disch:=omega)only[↓RU,RV,RH,↓reduceIte,qE,reduceCtorEq,if_pos,w64,qN,↓RS,RG,qA,qM,qL,zaa,hd1,hd2]
  refine zac.ev (zes (q:=qa) hc (by omega) 2 (by omega) (by omega)) ?_
  rintro _ _ ⟨k1,rfl,-,hk1,rfl⟩
  have hk1b:=hk1 (by omega)
  simp(disch:=omega)only[↓RU,RV,RH,↓reduceIte,qE,reduceCtorEq,if_pos,w64,qN,↓RS,RG,qA,qM,qL,zaa,hd1,hd2]
  apply hK;clear hK K
  refine xn ?_
  refine ⟨_,qa+1,((k1:Int) == 0),by omega,fun _=>(by have:=beq_iff_eq.1 hd1; omega),?_,zaq⟩
  simp [Env.put,Env.of,zag]
 rintro vs S - ⟨qb,b4,hqb,hb4,rfl,rfl⟩
 refine W.cond rfl (fun h4=>?_) (fun h4=>?_)
 ·try simp only[RL]at h4
  refine W.r fun K hK=>?_
  simp(disch:=omega)only[↓RU,RV,RH,↓reduceIte,qE,reduceCtorEq,if_pos,qN,↓RS,RG,qA,qM,qL,ty4,zab]
  refine zac.ev (zes (q:=qb) hc (by omega) 4 (by omega) (by omega)) ?_
  rintro _ _ ⟨k2,rfl,-,hk2,rfl⟩
  have hk2b:=hk2 (by omega)
  simp(disch:=omega)only[↓RU,RV,RH,↓reduceIte,qE,reduceCtorEq,if_pos,qN,↓RS,RG,qA,qM,qL,ty4,zab]
  refine zac.ev (zsv (q:=qb+1) (R:=[]) hc (by omega) zzm (many:=k2) (by omega)) ?_
  rintro _ _ ⟨p2,q2,t2,rfl,hp2,hl2,hq2,rfl⟩
  simp(disch:=omega)only[↓RU,RV,RH,↓reduceIte,qE,reduceCtorEq,if_pos,qN,↓RS,RG,qA,qM,qL,ty4,zab]
  apply hK;clear hK K
  refine W.ret ?_
  refine XThen.ret ?_
  refine Br rfl ?_
  exact ⟨_,p2,q2,t2,rfl,hp2,hl2.trans (hb4 h4).symm,by omega,zaq⟩
 try simp only[RL]at h4
 refine W.skip ?_
 refine xn ?_
 refine W.r fun K hK=>?_
 simp(disch:=omega)only[↓RU,RV,RH,↓reduceIte,qE,reduceCtorEq,if_pos,qN,↓RS,RG,qA,qM,qL]
 refine zac.pc (zyo (nh:=nh) (nw:=nw) (by omega) (by omega)) rfl (.inl rfl) ?_
 simp(disch:=omega)only[↓RU,RV,RH,↓reduceIte,qE,reduceCtorEq,if_pos,qN,↓RS,RG,qA,qM,qL]
 refine zac.ev (zes (q:=qb) hc (by omega) 9 (by omega) (by omega)) ?_
 rintro _ _ ⟨k3,rfl,-,hk3,rfl⟩
 have hk3b:=hk3 (by omega)
 simp(disch:=omega)only[↓RU,RV,RH,↓reduceIte,qE,reduceCtorEq,if_pos,qN,↓RS,RG,qA,qM,qL]
 refine zac.ev (z42 (q:=qb+1) (R:=[]) hc (by omega) (z15 h1 h2 w1 w2) (many:=k3) (by omega)) ?_
 rintro _ _ ⟨p2,q2,t2,rfl,hp2,hl2,hq2,rfl⟩
 simp(disch:=omega)only[↓RU,RV,RH,↓reduceIte,qE,reduceCtorEq,if_pos,qN,↓RS,RG,qA,qM,qL]
 apply hK;clear hK K
 refine W.ret ?_
 refine Br rfl ?_
 exact ⟨_,p2,q2,t2,rfl,hp2,by simpa using hl2,by omega,zaq⟩
theorem yap {p:List Txt} (h:Sm p) {i:Nat} {r:Txt} (hr:r.length≤1048576):Sm (p.set i r):=by
 refine ⟨by rw [List.length_set]; exact h.1,fun x hx=>?_⟩
 rcases List.mem_or_eq_of_mem_set hx with k | rfl
 ·exact h.2 x k
 exact hr
theorem ydq {p:List Txt} {x:Txt} (h:0<p.length):PV.str x::List.drop 1 (p.map PV.str)=(p.set 0 x).map .str:=by cases p with | nil=>simp at h | cons a p=>simp
theorem z5n {k:Nat}:(1:Int)+(k:Int)=((1+k:Nat):Int):=by omega
theorem z2i {code:Txt} {q vr t:Nat} (hc:code.length≤1048576) (hq:q≤700000) {rows cols:Nat} (h1:1≤rows) (h2:rows≤6) (w1:1≤cols) (w2:cols≤6):Ev Tryz.prog 31 [.ref 0 vr 0,.int .i64 rows,.int .i64 cols] ⟨[.arr vr 135 2 [eBy code,.int .i64 (q:Int)]],t⟩ fun v S=>∃ (p2:List Txt) (q2 t2:Nat),v=zai p2∧Sm p2∧p2.length≤6∧q2≤q+200∧S=⟨[.arr vr 135 2 [eBy code,.int .i64 (q2:Int)]],t2⟩:=by
 refine Ev.of ⟨Tryz.func31,by kernel_rfl,rfl,by kernel_rfl⟩ zao mixed (by show 3≤Tryz.f31.ntmps; decide) ?_
 refine W.r fun K hK=>?_
 simp(disch:=omega)only[↓RU,RV,RH,↓reduceIte,qE,reduceCtorEq,if_pos,↓RS,RG,qA,qM,qL]
 apply hK;clear hK K
 refine W.r fun K hK=>?_
 simp(disch:=omega)only[↓RU,RV,RH,↓reduceIte,qE,reduceCtorEq,if_pos,qN,w64,↓RS,RG,qA,qM,qL,zaa]
 refine zac.ev (zes hc (by omega) (rows:Int) (by omega) (by omega)) ?_
 rintro _ _ ⟨k1,rfl,-,hk1,rfl⟩
 have hk1b:=hk1 (by omega)
 simp(disch:=omega)only[↓RU,RV,RH,↓reduceIte,qE,reduceCtorEq,if_pos,qN,w64,↓RS,RG,qA,qM,qL,zaa,z5n]
 apply hK;clear hK K
 refine W.r fun K hK=>?_
 simp(disch:=omega)only[↓RU,RV,RH,↓reduceIte,qE,reduceCtorEq,if_pos,qN,w64,↓RS,RG,qA,qM,qL,zaa]
 refine zac.ev (zes hc (by omega) (cols:Int) (by omega) (by omega)) ?_
 rintro _ _ ⟨k2,rfl,-,hk2,rfl⟩
 have hk2b:=hk2 (by omega)
 simp(disch:=omega)only[↓RU,RV,RH,↓reduceIte,qE,reduceCtorEq,if_pos,qN,w64,↓RS,RG,qA,qM,qL,zaa,z5n]
 refine zac.ev (z2h (q:=q+1+1) hc (by omega) (nh:=1+k1) (nw:=1+k2) (by omega) (by omega) (by omega) (by omega)) ?_
 rintro _ _ ⟨p2,q2,t2,rfl,hp2,hl2,hq2,rfl⟩
 simp(disch:=omega)only[↓RU,RV,RH,↓reduceIte,qE,reduceCtorEq,if_pos,qN,w64,↓RS,RG,qA,qM,qL,zaa]
 apply hK;clear hK K
 obtain ⟨ps1,ps2,ps3⟩:=zmy hp2
 have hsm:=zyw hp2
 obtain ⟨nh,hnh⟩:∃ nh:Nat,1+k1=nh:=⟨_,rfl⟩
 simp only[hnh]at hl2 ⊢
 refine W.joinZ [8] (fun vs S=>∃ (p3:List Txt) (q3 tk:Nat),Sm p3∧p3.length≤6∧q3≤q+200∧vs=[zai p3]∧S=⟨[.arr vr 135 2 [eBy code,.int .i64 (q3:Int)]],tk⟩) ?_ ?_
 ·
  refine W.r fun K hK=>?_
  simp(disch:=omega)only[↓RU,RV,RH,↓reduceIte,qE,reduceCtorEq,if_pos,qN,↓RS,RG,qA,qM,qL]
  refine zac.ev (zes hc (by omega) 50 (by omega) (by omega)) ?_
  rintro _ _ ⟨k3,rfl,-,hk3,rfl⟩
  simp(disch:=omega)only[↓RU,RV,RH,↓reduceIte,qE,reduceCtorEq,if_pos,qN,↓RS,RG,qA,qM,qL]
  apply hK;clear hK K
  refine W.block ?_
  refine W.r fun K hK=>?_
  simp(disch:=omega)only[↓RU,RV,RH,↓reduceIte,qE,reduceCtorEq,if_pos,w64,↓RS,RG,qA,qM,qL,zaa]
  apply hK;clear hK K
  refine W.cond rfl (fun h0=>?_) (fun h0=>?_)
  ·try simp only[RL]at h0
   obtain ⟨row,hrow,hrm⟩:=zaf (show nh - 1<p2.length by omega)
   have hr6:=(ps3 row hrm).2
   refine W.r fun K hK=>?_
   simp(disch:=omega)only[↓RU,RV,RH,↓reduceIte,qE,reduceCtorEq,if_pos,↓RS,RG,qA,qM,qL,ty4,zab]
   apply hK;clear hK K
   refine W.k fun K hK=>?_
   simp(disch:=omega)only[↓RU,RV,RH,↓reduceIte,qE,reduceCtorEq,if_pos,w64,↓RS,RG,qA,qM,qL,ty4,zaa,zab,zdg,hrow,zmf,zcm,zk7,zbj,List.length_cons,List.length_nil]
   apply hK;clear hK K
   refine XbN ?_
   refine xn ?_
   have hPs:Sm (p2.set (nh - 1) (row++[97])):=yap hsm (by simp; omega)
   have hPl:(p2.set (nh - 1) (row++[97])).length=p2.length:=by simp
   generalize p2.set (nh - 1) (row++[97])=P at hPs hPl ⊢
   have htk:(P.map PV.str).take p2.length=P.map .str:=qT (by simp [hPl])
   refine ⟨1,[zai P],⟨[.arr vr 135 2 [eBy code,.int .i64 ((q2+1:Nat):Int)]],t2+1+1⟩,?_,?_,P,q2+1,t2+1+1,hPs,by omega,by omega,rfl,rfl⟩
   ·simp [-qU,Store.frz,zbz,zci,zas,zbk,zbl,zbm,zcd,za1,za5,za2,zar,zat,zbp,za4,zbn,za0,Env.put,Env.of,zag,zbo,qP,qC,zcn,zdj,zco,htk,hPl]
   simp [-qU,Store.frz,zbz,zci,zas,zbk,zbl,zbm,zcd,za1,za5,za2,zar,zat,zbp,za4,zbn,za0,Env.put,Env.of,zag,zbo,qP,qC,zcn,zdj,zco]
  try simp only[RL]at h0
  refine W.r fun K hK=>?_
  simp(disch:=omega)only[↓RU,RV,RH,↓reduceIte,qE,reduceCtorEq,if_pos,w64,↓RS,RG,qA,qM,qL,zaa]
  apply hK;clear hK K
  refine W.cond rfl (fun h1=>?_) (fun h1=>?_)
  ·try simp only[RL]at h1
   obtain ⟨row,hrow,hrm⟩:=zaf (show 0<p2.length by omega)
   have hr6:=ps3 row hrm
   have hdl:(row.drop 1).length≤6:=by rw [List.length_drop]; omega
   refine W.r fun K hK=>?_
   simp(disch:=omega)only[↓RU,RV,RH,↓reduceIte,qE,reduceCtorEq,if_pos,↓RS,RG,qA,qM,qL,ty4,zab]
   apply hK;clear hK K
   refine W.k fun K hK=>?_
   simp(disch:=omega)only[↓RU,RV,RH,↓reduceIte,qE,reduceCtorEq,if_pos,Option.map_none,w64,↓RS,RG,qA,qM,qL,ty4,zab,hrow,zmf,zcm,zk7,zbj,List.length_cons,List.length_nil,Int.toNat_zero,qZ,List.take_length,Nat.zero_mul,Nat.zero_add]
   apply hK;clear hK K
   rw [ydq (show 0<p2.length by omega)]
   refine XbN ?_
   refine xn ?_
   have hPs:Sm (p2.set 0 (122::row.drop 1)):=yap hsm (by simp; omega)
   have hPl:(p2.set 0 (122::row.drop 1)).length=p2.length:=by simp
   generalize p2.set 0 (122::row.drop 1)=P at hPs hPl ⊢
   have htk:(P.map PV.str).take p2.length=P.map .str:=qT (by simp [hPl])
   refine ⟨1,[zai P],⟨[.arr vr 135 2 [eBy code,.int .i64 ((q2+1:Nat):Int)]],t2+1+1⟩,?_,?_,P,q2+1,t2+1+1,hPs,by omega,by omega,rfl,rfl⟩
   ·simp [-qU,Store.frz,zbz,zci,zas,zbk,zbl,zbm,zcd,za1,za5,za2,zar,zat,zbp,za4,zbn,za0,Env.put,Env.of,zag,zbo,qP,qC,zcn,zdj,zco,htk,hPl]
   simp [-qU,Store.frz,zbz,zci,zas,zbk,zbl,zbm,zcd,za1,za5,za2,zar,zat,zbp,za4,zbn,za0,Env.put,Env.of,zag,zbo,qP,qC,zcn,zdj,zco]
  try simp only[RL]at h1
  refine W.skip ?_
  refine XbN ?_
  refine xn ?_
  have hPs:=hsm
  have hPl:p2.length=p2.length:=rfl
  have htk:True:=trivial
  refine ⟨1,[zai p2],⟨[.arr vr 135 2 [eBy code,.int .i64 ((q2+1:Nat):Int)]],t2⟩,?_,?_,p2,q2+1,t2,hPs,by omega,by omega,rfl,rfl⟩
  ·simp [-qU,Store.frz,zbz,zci,zas,zbk,zbl,zbm,zcd,za1,za5,za2,zar,zat,zbp,za4,zbn,za0,Env.put,Env.of,zag,zbo,qP,qC,zcn,zdj,zco,htk,hPl]
  simp [-qU,Store.frz,zbz,zci,zas,zbk,zbl,zbm,zcd,za1,za5,za2,zar,zat,zbp,za4,zbn,za0,Env.put,Env.of,zag,zbo,qP,qC,zcn,zdj,zco]
 rintro vs S - ⟨p3,q3,tk,hs3,hl3,hq3,rfl,rfl⟩
 refine W.r fun K hK=>?_
 simp(disch:=omega)only[↓RU,RV,RH,↓reduceIte,qE,reduceCtorEq,if_pos,↓RS,RG,qA,qM,qL]
 apply hK;clear hK K
 refine W.ret ?_
 refine Br rfl ?_
 exact ⟨_,p3,q3,tk,rfl,hs3,hl3,hq3,zaq⟩





theorem z5q {S:Store} {a b:Bool}:pEq tab S 4 (.bool a) (.bool b)=some (a == b):=rfl


section
section
variable {n:Nat} {M X:List (List Bool)}
def rvB (M:List (List Bool)) (a:Nat) (X:List (List Bool)) (b:Nat):List (List Bool):=z7l X b a (zcq M a b)
def rvA (n:Nat) (M:List (List Bool)) (X:List (List Bool)) (a:Nat):List (List Bool):=(List.range n).foldl (rvB M a) X
def rv (n:Nat) (M:List (List Bool)):List (List Bool):=(List.range n).foldl (rvA n M) (zgr n)
end
end



theorem zwx {a:Txt}:zmf .neq a a=some (.bool false):=by simp [zmf]
theorem zjg {a:Txt}:zmf .eql a a=some (.bool true):=by simp [zmf]
theorem yc3 {a:Int} (h0:0≤a) (h1:a<9):z7i a=[UInt8.ofNat (a+65).toNat]:=by
 obtain ⟨n,rfl⟩:=Int.eq_ofNat_of_zero_le h0
 have:n=0∨n=1∨n=2∨n=3∨n=4∨n=5∨n=6∨n=7∨n=8:=by omega
 rcases this with rfl | rfl | rfl | rfl | rfl | rfl | rfl | rfl | rfl <;> decide +kernel
theorem zux {z:Nat→Nat→Int} {H W:Nat}:∀ (n:Nat) {t:Pt} {x:CT},t.In H W→t.h*t.w≤n→zdc z t=some x→(∀ v∈x.leaves,0≤v∧v<9)→(zpf z t).1=x.fold z7i z7j
 | 0,t,x,hi,hn,_,_=>by have:=Nat.mul_pos hi.1 hi.2.1; omega
 | n+1,t,x,hi,hn,hx,hl=>by
  cases h1:zwf z t with
  | true =>
   rw [zmc hi h1]at hx
   cases hx
   have:=hl (z t.r t.c) (by simp [CT.leaves])
   rw [zuw hi h1,CT.fold,yc3 this.1 this.2]
  | false =>
   cases hc:zdl z t with
   | none=>rw [zj9 hi h1 hc]at hx; cases hx
   | some q =>
    obtain ⟨i1,i2,a1,a2⟩:=hi.cut hc
    rw [zil hi h1 hc]at hx
    cases h2:zdc z (t.one q) with
    | none=>rw [h2]at hx; cases hx
    | some x1 =>
     cases h3:zdc z (t.two q) with
     | none=>rw [h2,h3]at hx; cases hx
     | some x2 =>
      rw [h2,h3]at hx
      cases hx
      rw [zka hi h1 hc,CT.fold,z7j,zux n i1 (by omega) h2 fun v hv=>hl v (by simp [CT.leaves,hv]),zux n i2 (by omega) h3 fun v hv=>hl v (by simp [CT.leaves,hv])]
def zi5 (p:List Txt):Txt:=if z3e p then (zpf (zaj p) (zhi p)).1 else []
theorem zvd {p:List Txt} (hs:Sm p):PC Tryz.prog 6 [zai p] (.tup [.str (zi5 p),.bool (z3e p)]) true:=by
 have h:=z14 hs
 unfold zi5 z3e
 cases hp:zbc p with
 | false=>rw [hp]at h; exact h
 | true =>
  rw [hp,if_pos rfl]at h
  simp only[Bool.true_and]
  cases hx:zdc (zaj p) (zhi p) with
  | none=>rw [hx]at h; exact h
  | some x =>
   rw [hx]at h
   have hl:=zk3 hp (zxv hp) hx
   have n9:=(zgm hp).1
   simp only[Option.isSome_some,if_true]
   rw [zux _ (zzt (zc8 hp)) (qR _) hx fun v hv=>by have:=hl.1 v hv; omega]
   exact h
structure Slashed (p:List Txt):Prop where
 m:∃ m,m+1=p.length
 n:p.length≤6
 r:∀ r∈p,r.length≤6
 s47:∀ r∈p,(47:UInt8) ∉ r
 s10:(10:UInt8) ∉ joinS p
theorem zv1 {c:UInt8}:∀ {p:List Txt},c∈joinS p→c=47∨∃ r∈p,c∈r
 | [],h=>by simp [joinS]at h
 | [a],h=>by simp [joinS]at h; exact .inr ⟨a,by simp,h⟩
 | a::b::r,h=>by
  rw [joinS,List.mem_append,List.mem_cons]at h
  rcases h with h | h | h
  ·exact .inr ⟨a,by simp,h⟩
  ·exact .inl h
  rcases zv1 h with h | ⟨x,hx,h⟩
  ·exact .inl h
  exact .inr ⟨x,by simp [List.mem_cons.1 hx],h⟩
theorem znx {p:List Txt} (hp:zbc p=true):Slashed p:=by
 have hg:=zc8 hp
 have hl:∀ r∈p,∀ c∈r,97≤c.toNat:=by
  intro r hr c hc
  unfold zb7 at hg
  simp only[qB,List.all_eq_true]at hg
  have:=hg.1.1 r hr
  simp only[zq7,qB,List.all_eq_true]at this
  have:=this.2 c hc
  simp only[zch,qB,decide_eq_true_eq]at this
  exact this.1
 obtain ⟨g1,g2,g3⟩:=za3 hg
 refine ⟨⟨p.length - 1,by omega⟩,g2,g3,fun r hr hc=>by have:=hl r hr _ hc; simp at this,fun hc=>?_⟩
 rcases zv1 hc with h | ⟨r,hr,h⟩
 ·exact absurd h (by decide)
 have:=hl r hr _ h; simp at this
theorem z16 {p:List Txt} (hs:Sm p) (hp:zbc p=true) {f:FuncId} {cmd r:Txt} {j:Nat} (hc10:(10:UInt8) ∉ cmd) (hc32:(32:UInt8) ∉ cmd) (hcl:cmd.length≤100) (hrl:r.length≤500)
  (hfind:findKey (.str cmd) tabA 0=some (some (j,.fn 166 [.ip [.fn f []] 0,.ip [.fn 76 []] 0]))) (hf:PC Tryz.prog f [zai p] (.tup [.str r,.bool true]) true) :
  PC Tryz.prog 9 [.str (zmu p++10::(cmd++[10]))] (.str ([111,107,10]++(r++[10])++([114,111,111,109,115,32]++zob (rP p).length++[10]))) true:=by
 obtain ⟨⟨m,hm⟩,h2,h3,h4,h5⟩:=znx hp
 exact zyd hm h2 h3 h4 h5 hs (by rw [zeo]; exact hp) hc10 hc32 hcl hrl hfind hf
theorem digC {k:Nat} (hk:k<10):[PV.int .u8 (IntKind.u8.wrap (48+max 0 (k:Int)))]=(zob k).map eB:=by
 have:k=0∨k=1∨k=2∨k=3∨k=4∨k=5∨k=6∨k=7∨k=8∨k=9:=by omega
 rcases this with rfl | rfl | rfl | rfl | rfl | rfl | rfl | rfl | rfl | rfl <;> rfl
theorem zy4 {p:List Txt} (hs:Sm p):PC Tryz.prog 7 [zai p] (.tup [.str (zi5 p),.bool (z3e p)]) true:=by
 refine PC.of ⟨Tryz.func7,by kernel_rfl,rfl,by kernel_rfl⟩ zao mixed (by show 1≤Tryz.f7.ntmps; decide) ?_
 refine W.r fun K hK=>?_
 simp(disch:=omega)only[↓RU,RV,RH,↓reduceIte,qE,reduceCtorEq,if_pos]
 apply hK;clear hK K
 refine W.seq ?_
 refine W.r fun K hK=>?_
 simp(disch:=omega)only[↓RU,RV,RH,↓reduceIte,qE,reduceCtorEq,if_pos,qN]
 refine zac.pc (zih hs) rfl (.inl rfl) ?_
 simp(disch:=omega)only[↓RU,RV,RH,↓reduceIte,qE,reduceCtorEq,if_pos,qN]
 apply hK;clear hK K
 refine W.cond rfl (fun h0=>?_) (fun h0=>?_)
 ·skip
  have h0:zbc p=false:=by simpa using h0
  refine W.r fun K hK=>?_
  simp(disch:=omega)only[↓RU,RV,RH,↓reduceIte,qE,reduceCtorEq,if_pos]
  apply hK;clear hK K
  refine W.ret ?_
  refine XThen.ret ?_
  refine Br rfl ?_
  rw [show z3e p=false by simp [z3e,h0],show zi5 p=[] by simp [zi5,z3e,h0]]
  rfl
 skip
 have h0:zbc p=true:=by simpa using h0
 have hg:=zc8 h0
 have hT:=zv7 hg _ (qR _) (zzt hg)
 rw [yb7 hg,(ze5 (z:=zaj p) _ (zzt hg) (qR _)).2]at hT
 have hcb:z3e p=(zdc (zaj p) (zhi p)).isSome:=by simp [z3e,h0]
 rw [← hcb]at hT
 refine W.skip ?_
 refine xn ?_
 refine W.r fun K hK=>?_
 simp(disch:=omega)only[↓RU,RV,RH,↓reduceIte,qE,reduceCtorEq,if_pos,qN]
 refine zac.pc (hT) rfl (.inl rfl) ?_
 simp(disch:=omega)only[↓RU,RV,RH,↓reduceIte,qE,reduceCtorEq,if_pos,qN]
 apply hK;clear hK K
 refine W.seq ?_
 refine W.r fun K hK=>?_
 cases hv:z3e p
 ·skip
  simp(disch:=omega)only[↓RU,RV,RH,↓reduceIte,qE,reduceCtorEq,if_pos,hv]
  apply hK;clear hK K
  refine W.cond rfl (fun h1=>?_) (fun h1=>?_)
  ·try simp only[RL]at h1
   refine W.r fun K hK=>?_
   simp(disch:=omega)only[↓RU,RV,RH,↓reduceIte,qE,reduceCtorEq,if_pos]
   apply hK;clear hK K
   refine W.ret ?_
   refine XThen.ret ?_
   refine Br rfl ?_
   rw [zi5,hv]
   rfl
  try simp only[RL]at h1
  exact absurd h1 (by simp)
 skip
 simp(disch:=omega)only[↓RU,RV,RH,↓reduceIte,qE,reduceCtorEq,if_pos,hv]
 apply hK;clear hK K
 refine W.cond rfl (fun h1=>?_) (fun h1=>?_)
 ·try simp only[RL]at h1
  exact absurd h1 (by simp)
 try simp only[RL]at h1
 refine W.skip ?_
 refine xn ?_
 refine W.r fun K hK=>?_
 simp(disch:=omega)only[↓RU,RV,RH,↓reduceIte,qE,reduceCtorEq,if_pos]
 apply hK;clear hK K
 refine W.ret ?_
 refine Br rfl ?_
 rw [zi5,hv]
 rfl
theorem z33 {k:Nat} (hk:k<10):PC Tryz.prog 11 [.int .i64 k] (.str (zob k)) true:=by
 have hc:=digC hk
 have hd1:(zob k).length=1:=rfl
 have ht1:(zob k).take 1=zob k:=rfl
 have ha1:zbe (List.map eB (zob k))=True:=eq_true (zna (fun _=>rfl) _)
 refine PC.of ⟨Tryz.func11,by kernel_rfl,rfl,by kernel_rfl⟩ zao mixed (by show 1≤Tryz.f11.ntmps; decide) ?_
 refine W.r fun K hK=>?_
 simp(disch:=omega)only[↓RU,RV,RH,↓reduceIte,qE,reduceCtorEq,if_pos,↓RS,RG,qA,qM,qL]
 apply hK;clear hK K
 refine W.seq ?_
 refine W.r fun K hK=>?_
 simp(disch:=omega)only[↓RU,RV,RH,↓reduceIte,qE,reduceCtorEq,if_pos,w64,↓RS,RG,qA,qM,qL,zaa]
 apply hK;clear hK K
 refine W.cond rfl (fun h0=>?_) (fun h0=>?_)
 ·try simp only[RL]at h0
  refine W.r fun K hK=>?_
  simp(disch:=omega)only[↓RU,RV,RH,↓reduceIte,qE,reduceCtorEq,if_pos,zmr,w64,w64,↓RS,RG,qA,qM,qL,ty5,zaa,zab,zd3,hc,hd1,ht1,ha1,qN]
  apply hK;clear hK K
  refine W.ret ?_
  refine XThen.ret ?_
  refine Br rfl ?_
  rfl
 try simp only[RL]at h0
 exfalso; omega
theorem z43 {code:Txt} (hc:code.length≤1048576):Ev Tryz.prog 15 [eBy code] ⟨[],0⟩ fun v S=>∃ (p:List Txt) (t:Nat),Sm p∧p.length≤6∧v=zai p∧S=⟨[],t⟩:=by
 refine Ev.of ⟨Tryz.func15,by kernel_rfl,rfl,by kernel_rfl⟩ zao mixed (by show 1≤Tryz.f15.ntmps; decide) ?_
 refine W.r fun K hK=>?_
 simp(disch:=omega)only[↓RU,RV,RH,↓reduceIte,qE,reduceCtorEq,if_pos,↓RS,RG,qA,qM,qL]
 apply hK;clear hK K
 refine W.r fun K hK=>?_
 simp(disch:=omega)only[↓RU,RV,RH,↓reduceIte,qE,reduceCtorEq,if_pos,qN,↓RS,RG,qA,qM,qL,rdO]
 refine zac.pn (z41 hc) rfl (.inr rfl) ?_
 simp(disch:=omega)only[↓RU,RV,RH,↓reduceIte,qE,reduceCtorEq,if_pos,qN,↓RS,RG,qA,qM,qL,rdO,rdO,RN]
 have hc2:(code.take 2000).length≤1048576:=by rw [List.length_take]; omega
 generalize code.take 2000=code2 at hc2 ⊢
 refine zac.ev (z2i (q:=0) (code:=code2) hc2 (by omega) (rows:=5) (cols:=5) (by omega) (by omega) (by omega) (by omega)) ?_
 rintro _ _ ⟨p3,q3,t3,rfl,hs3,hl3,hq3,rfl⟩
 simp(disch:=omega)only[↓RU,RV,RH,↓reduceIte,qE,reduceCtorEq,if_pos,qN,↓RS,RG,qA,qM,qL,rdO]
 apply hK;clear hK K
 refine W.ret ?_
 refine Br rfl ?_
 exact ⟨0,p3,_,hs3,hl3,rfl,rfl⟩
theorem zrc {code:Txt} (hc:code.length≤1048576):Ev Tryz.prog 5 [eBy code] ⟨[],0⟩ fun v S=>∃ (p:List Txt) (t:Nat),Sm p∧p.length≤6∧v=zai p∧S=⟨[],t⟩:=by
 refine Ev.of ⟨Tryz.func5,by kernel_rfl,rfl,by kernel_rfl⟩ zao mixed (by show 1≤Tryz.f5.ntmps; decide) ?_
 refine W.r fun K hK=>?_
 simp(disch:=omega)only[↓RU,RV,RH,↓reduceIte,qE,reduceCtorEq,if_pos,↓RS,RG,qA,qM,qL]
 apply hK;clear hK K
 refine W.r fun K hK=>?_
 simp(disch:=omega)only[↓RU,RV,RH,↓reduceIte,qE,reduceCtorEq,if_pos,qN,↓RS,RG,qA,qM,qL]
 refine zac.ev (z43 hc) ?_
 rintro _ _ ⟨p,t,hs,hl,rfl,rfl⟩
 simp(disch:=omega)only[↓RU,RV,RH,↓reduceIte,qE,reduceCtorEq,if_pos,qN,↓RS,RG,qA,qM,qL]
 apply hK;clear hK K
 refine W.ret ?_
 refine Br rfl ?_
 exact ⟨0,p,_,hs,hl,rfl,rfl⟩
theorem zre {code:Txt} (hcode:code.length≤9223372036854775807):PC Tryz.prog 3 [eBy code] (.bool true) true:=by
 refine PC.of ⟨Tryz.func3,by kernel_rfl,rfl,by kernel_rfl⟩ zao mixed (by show 1≤Tryz.f3.ntmps; decide) ?_
 refine W.r fun K hK=>?_
 simp(disch:=omega)only[↓RU,RV,RH,↓reduceIte,qE,reduceCtorEq,if_pos]
 apply hK;clear hK K
 refine W.seq ?_
 refine W.r fun K hK=>?_
 simp(disch:=omega)only[↓RU,RV,RH,↓reduceIte,qE,reduceCtorEq,if_pos,w64,ty5,zaa,zd3]
 apply hK;clear hK K
 refine W.cond rfl (fun h0=>?_) (fun h0=>?_)
 ·try simp only[RL]at h0
  refine W.r fun K hK=>?_
  simp(disch:=omega)only[↓RU,RV,RH,↓reduceIte,qE,reduceCtorEq,if_pos]
  apply hK;clear hK K
  refine W.ret ?_
  refine XThen.ret ?_
  refine Br rfl ?_
  rfl
 try simp only[RL]at h0
 have hcl:code.length≤1048576:=by omega
 refine W.skip ?_
 refine xn ?_
 refine W.r fun K hK=>?_
 simp(disch:=omega)only[↓RU,RV,RH,↓reduceIte,qE,reduceCtorEq,if_pos,qN]
 refine zac.ev (zrc hcl) ?_
 rintro _ _ ⟨p,t,hs,hl6,rfl,rfl⟩
 simp(disch:=omega)only[↓RU,RV,RH,↓reduceIte,qE,reduceCtorEq,if_pos,qN]
 apply hK;clear hK K
 refine W.r fun K hK=>?_
 simp(disch:=omega)only[↓RU,RV,RH,↓reduceIte,qE,reduceCtorEq,if_pos,qN]
 refine zac.pc (zvd hs) rfl (.inl rfl) ?_
 simp(disch:=omega)only[↓RU,RV,RH,↓reduceIte,qE,reduceCtorEq,if_pos,qN]
 apply hK;clear hK K
 refine W.r fun K hK=>?_
 simp(disch:=omega)only[↓RU,RV,RH,↓reduceIte,qE,reduceCtorEq,if_pos,qN]
 refine zac.pc (zy4 hs) rfl (.inl rfl) ?_
 simp(disch:=omega)only[↓RU,RV,RH,↓reduceIte,qE,reduceCtorEq,if_pos,qN]
 apply hK;clear hK K
 refine W.seq ?_
 refine W.r fun K hK=>?_
 cases hv:z3e p
 ·skip
  simp(disch:=omega)only[↓RU,RV,RH,↓reduceIte,qE,reduceCtorEq,if_pos,w64,za9,zab,z5q,qO,bne_self_eq_false,beq_self_eq_true,Bool.not_true,Bool.not_false,decide_true,zwx,hv]
  apply hK;clear hK K
  refine W.cond rfl (fun h1=>?_) (fun h1=>?_)
  ·try simp only[RL]at h1
   refine W.r fun K hK=>?_
   simp(disch:=omega)only[↓RU,RV,RH,↓reduceIte,qE,reduceCtorEq,if_pos,w64,za9,zab,z5q,qO,bne_self_eq_false,beq_self_eq_true,Bool.not_true,Bool.not_false,decide_true,zjg]
   apply hK;clear hK K
   refine W.ret ?_
   refine XThen.ret ?_
   refine Br rfl ?_
   rfl
  try simp only[RL]at h1
  exact absurd h1 (by simp)
 skip
 simp(disch:=omega)only[↓RU,RV,RH,↓reduceIte,qE,reduceCtorEq,if_pos,w64,za9,zab,z5q,qO,bne_self_eq_false,beq_self_eq_true,Bool.not_true,Bool.not_false,decide_true,zwx,hv]
 apply hK;clear hK K
 refine W.cond rfl (fun h1=>?_) (fun h1=>?_)
 ·try simp only[RL]at h1
  exact absurd h1 (by simp)
 try simp only[RL]at h1
 have hp:zbc p=true:=by
    have:=hv
    unfold z3e at this
    rw [qB]at this
    exact this.1
 have hvl:(zi5 p).length≤500:=by
    have h1:=(ze5 (z:=zaj p) _ (zzt (zc8 hp)) (qR _)).1
    obtain ⟨g1,g2,g3⟩:=za3 (zc8 hp)
    have h2:(zan p).length≤6:=by obtain ⟨row,hr,hm⟩:=zaf g1; rw [zb9 hr]; exact g3 row hm
    have h3:p.length*(zan p).length≤36:=Nat.mul_le_mul g2 h2
    unfold zi5
    rw [hv,if_pos rfl]
    have:(zhi p).h*(zhi p).w=p.length*(zan p).length:=rfl
    omega
 have hsl:=znx hp
 have hsj:=z25 (p:=p) (by have:=hsl.n; omega) (fun r h=>Nat.le_trans (hsl.r r h) (by omega))
 have hT:=zvd hs
 rw [hv]at hT
 have hE:=z16 hs hp (cmd:=[99,117,116]) (by decide) (by decide) (by decide) hvl z75 hT
 rw [show zmu p++10::([99,117,116]++[10])=[112,108,97,110,32]++joinS p++[10,99,117,116,10] from rfl,show ([111,107,10]++((zi5 p)++[10])++([114,111,111,109,115,32]++zob (rP p).length++[10]):Txt)=[111,107,10]++(zi5 p)++[10,114,111,111,109,115,32]++zob (rP p).length++[10] by simp [List.append_assoc]]at hE
 have n9:=(zgm hp).1
 have hjl:=zms hsl.r
 have hjm:7*p.length≤42:=by have:=hsl.n; omega
 have d1:(zob (rP p).length).length=1:=rfl
 have k1:([112,108,97,110,32]:Txt).length=5:=rfl
 have k2:([10,99,117,116,10]:Txt).length=5:=rfl
 have k3:([111,107,10]:Txt).length=3:=rfl
 have k4:([10,114,111,111,109,115,32]:Txt).length=7:=rfl
 have k5:([10]:Txt).length=1:=rfl
 have m1:([112,108,97,110,32]++joinS p).length=(joinS p).length+5:=by simp
 have m2:([111,107,10]++(zi5 p)).length=(zi5 p).length+3:=by simp
 have m3:([111,107,10]++(zi5 p)++[10,114,111,111,109,115,32]).length=(zi5 p).length+10:=by simp
 have m4:([111,107,10]++(zi5 p)++[10,114,111,111,109,115,32]++zob (rP p).length).length=(zi5 p).length+11:=by simp [zob]
 refine W.skip ?_
 refine xn ?_
 refine W.r fun K hK=>?_
 simp(disch:=omega)only[↓RU,RV,RH,↓reduceIte,qE,reduceCtorEq,if_pos,qN]
 refine zac.pc (znv hs (by rw [zeo]; exact hp)) rfl (.inl rfl) ?_
 simp(disch:=omega)only[↓RU,RV,RH,↓reduceIte,qE,reduceCtorEq,if_pos,qN]
 apply hK;clear hK K
 refine W.r fun K hK=>?_
 simp(disch:=omega)only[↓RU,RV,RH,↓reduceIte,qE,reduceCtorEq,if_pos,qN,w64,zab,zea,zjg,beq_self_eq_true,k1,k2,k3,k4,k5,m1,m2,m3,m4,d1]
 refine zac.pc (hsj) rfl (.inl rfl) ?_
 simp(disch:=omega)only[↓RU,RV,RH,↓reduceIte,qE,reduceCtorEq,if_pos,qN,w64,zab,zea,zjg,beq_self_eq_true,k1,k2,k3,k4,k5,m1,m2,m3,m4,d1]
 refine zac.pc (hE) rfl (.inl rfl) ?_
 simp(disch:=omega)only[↓RU,RV,RH,↓reduceIte,qE,reduceCtorEq,if_pos,qN,w64,zab,zea,zjg,beq_self_eq_true,k1,k2,k3,k4,k5,m1,m2,m3,m4,d1]
 refine zac.pc (z33 (by omega)) rfl (.inl rfl) ?_
 simp(disch:=omega)only[↓RU,RV,RH,↓reduceIte,qE,reduceCtorEq,if_pos,qN,w64,zab,zea,zjg,beq_self_eq_true,k1,k2,k3,k4,k5,m1,m2,m3,m4,d1]
 apply hK;clear hK K
 refine W.ret ?_
 refine Br rfl ?_
 rfl
end Fw
end Go.Proofs.YtclbmeloiefbaaaGreatDoor
