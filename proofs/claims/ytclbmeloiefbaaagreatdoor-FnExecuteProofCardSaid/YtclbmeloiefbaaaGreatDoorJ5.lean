/- Parts of the framework and of the proof: Drawing plans, gone through; Drawing plans, gone through, continued; Drawing needs, gone through; Sizes by the program, gone through; Sizes, gone through; the small functions of the statements; Heaviest sums, gone through; Areas, gone through; The law of areas, gone through; Marks, gone through; Places and slack by the specification, gone through; A relation the other way round, place by place; Places and slack by the program, gone through; The laws of left and above, gone through; The law of places, gone through; The law of scripts that cut plans, gone through; Parts that are stuck: the program, gone through; Parts that are stuck: the specification, gone through; The law of scripts that ask for proofs of plans, gone through. -/
import Derived.Test.YtclbmeloiefbaaaGreatDoorJ4
import Derived.Test.YtclbmeloiefbaaaGreatDoorJ2
import Derived.Test.YtclbmeloiefbaaaGreatDoorJ3
set_option linter.all false
namespace Go.Proofs.YtclbmeloiefbaaaGreatDoor
namespace Fw
open Go
open Nat renaming reduceEqDiff → qE, reduceLeDiff → qL, reduceAdd → qA, reduceMul → qM, le_refl → qR
open List renaming append_nil → qN, mapM_append → qP, mapM_cons → qC, mapM_map → qU, range_succ → qS, take_of_length_le → qT
open Bool renaming and_eq_true → qB, false_eq_true → qF
open Option renaming map_some → qO, map_eq_some_iff → qI
open Int renaming reduceToNat → qZ
theorem zfm {code:Txt} {q vr t:Nat} {R:List Ob} (hc:code.length≤1048576) (hq:q≤1000000) (n:Int) (hn:n≤1000000) (hn0 : -1000000≤n) :
  Ev Tryz.prog 129 [.ref 0 vr 0,.int .i64 n] ⟨.arr vr 135 2 [eBy code,.int .i64 (q:Int)]::R,t⟩ fun v S=>∃ k:Nat,v = .int .i64 (k:Int)∧(n<1→k=0)∧(1≤n→(k:Int)<n)∧S=⟨.arr vr 135 2 [eBy code,.int .i64 ((q+1:Nat):Int)]::R,t⟩ :=
 z9u hc hq n hn hn0
theorem yel {code:Txt} {q vr t v1:Nat} {R:List Ob} {l:List Txt} (hc:code.length≤1048576) (hq:q≤1000000) (hl:1≤l.length) (hl2:l.length≤1000):Ev Tryz.prog 278 [.ref 0 vr 0,.loc 1 v1 0 l.length] ⟨.arr vr 135 2 [eBy code,.int .i64 (q:Int)] :: .arr v1 9 1 (l.map .str)::R,t⟩ fun v S=>∃ s,s∈l∧v = .str s∧S=⟨.arr vr 135 2 [eBy code,.int .i64 ((q+1:Nat):Int)] :: .arr v1 9 1 (l.map .str)::R,t⟩:=by
 refine Ev.of ⟨Tryz.func278,by kernel_rfl,rfl,by kernel_rfl⟩ zao mixed (by show 2≤Tryz.f278.ntmps; decide) ?_
 refine W.r fun K hK=>?_
 simp(disch:=omega)only[↓RU,RV,RH,↓reduceIte,qE,reduceCtorEq,if_pos,↓RS,RG,qA,qM,qL]
 apply hK;clear hK K
 refine W.r fun K hK=>?_
 simp(disch:=omega)only[↓RU,RV,RH,↓reduceIte,qE,reduceCtorEq,if_pos,qN,↓RS,RG,qA,qM,qL,ty4,zab]
 refine zac.ev (zfm hc hq (l.length:Int) (by omega) (by omega)) ?_
 rintro _ _ ⟨k,rfl,-,hk,rfl⟩
 have hk2:=hk (by omega)
 obtain ⟨s,hsk,hsm⟩:=zaf (show k<l.length by omega)
 simp(disch:=omega)only[↓RU,RV,RH,↓reduceIte,qE,reduceCtorEq,if_pos,qN,↓RS,RG,qA,qM,qL,ty4,zab,hsk]
 apply hK;clear hK K
 refine W.ret ?_
 refine Br rfl ?_
 exact ⟨_,s,hsm,rfl,zat⟩
theorem zzu {nh nw:Nat} (hn:nh≤100) (hm:nw≤100):PC Tryz.prog 226 [.int .i64 nh,.int .i64 nw] (zai (List.replicate nh (List.replicate nw (97:UInt8)))) true:=by
 refine PC.of ⟨Tryz.func226,by kernel_rfl,rfl,by kernel_rfl⟩ zao mixed (by show 2≤Tryz.f226.ntmps; decide) ?_
 refine W.r fun K hK=>?_
 simp(disch:=omega)only[↓RU,RV,RH,↓reduceIte,qE,reduceCtorEq,if_pos,↓RS,RG,qA,qM,qL]
 apply hK;clear hK K
 refine W.r fun K hK=>?_
 simp(disch:=omega)only[↓RU,RV,RH,↓reduceIte,qE,reduceCtorEq,if_pos,↓RS,RG,qA,qM,qL,ty4,zab]
 apply hK;clear hK K
 refine W.seq ?_
 refine W.r fun K hK=>?_
 simp(disch:=omega)only[↓RU,RV,RH,↓reduceIte,qE,reduceCtorEq,if_pos,↓RS,RG,qA,qM,qL]
 apply hK;clear hK K
 refine W.block ?_
 refine W.loop [0,1,5,6] (fun n vs S=>∃ i v0 tk:Nat,n=nh - i∧i≤nh∧vs=[.int .i64 nh,.int .i64 nw,.loc 0 v0 0 i,.int .i64 i]∧S=⟨[.arr v0 9 1 ((List.replicate i (List.replicate nw (97:UInt8))).map .str)],tk⟩) (nh) ?_ ?_
 ·refine ⟨1,0,0,1,rfl,Nat.zero_le _,?_,rfl⟩
  simp [Env.put,Env.of,zag]
 rintro n vs S - ⟨i,v0,tk,rfl,h_i,rfl,rfl⟩
 refine W.seq ?_
 refine W.r fun K hK=>?_
 simp(disch:=omega)only[↓RU,RV,RH,↓reduceIte,qE,reduceCtorEq,if_pos,w64,↓RS,RG,qA,qM,qL,zaa]
 apply hK;clear hK K
 refine W.cond rfl (fun h=>?_) (fun h=>?_)
 ·try simp only[RL]at h
  refine W.skip ?_
  refine xn ?_
  refine W.seq ?_
  refine W.block ?_
  refine W.r fun K hK=>?_
  simp(disch:=omega)only[↓RU,RV,RH,↓reduceIte,qE,reduceCtorEq,if_pos,↓RS,RG,qA,qM,qL,ty5,zdw]
  apply hK;clear hK K
  refine W.seq ?_
  refine W.r fun K hK=>?_
  simp(disch:=omega)only[↓RU,RV,RH,↓reduceIte,qE,reduceCtorEq,if_pos,↓RS,RG,qA,qM,qL]
  apply hK;clear hK K
  refine W.block ?_
  refine W.loop [0,1,5,6,7,8] (fun n vs S=>∃ k v1 tk:Nat,n=nw - k∧k≤nw∧vs=[.int .i64 nh,.int .i64 nw,.loc 0 v0 0 i,.int .i64 i,.loc 1 v1 0 k,.int .i64 k]∧S=⟨[.arr v0 9 1 ((List.replicate i (List.replicate nw (97:UInt8))).map .str),.arr v1 5 1 ((List.replicate k (97:UInt8)).map eB)],tk⟩) (nw) ?_ ?_
  ·refine ⟨2,0,tk,tk+1,rfl,Nat.zero_le _,?_,rfl⟩
   simp [Env.put,Env.of]
  rintro n vs S - ⟨k,v1,tk,rfl,h_k,rfl,rfl⟩
  refine W.seq ?_
  refine W.r fun K hK=>?_
  simp(disch:=omega)only[↓RU,RV,RH,↓reduceIte,qE,reduceCtorEq,if_pos,w64,↓RS,RG,qA,qM,qL,zaa]
  apply hK;clear hK K
  refine W.cond rfl (fun h1=>?_) (fun h1=>?_)
  ·try simp only[RL]at h1
   refine W.skip ?_
   refine xn ?_
   refine W.seq ?_
   refine W.block ?_
   refine W.k fun K hK=>?_
   simp(disch:=omega)only[↓RU,RV,RH,↓reduceIte,qE,reduceCtorEq,if_pos,↓RS,RG,qA,qM,qL,ty5,zdw,List.length_replicate]
   apply hK;clear hK K
   refine XbN ?_
   refine xn ?_
   refine W.k fun K hK=>?_
   simp(disch:=omega)only[↓RU,RV,RH,↓reduceIte,qE,reduceCtorEq,if_pos,w64,↓RS,RG,qA,qM,qL,zaa]
   apply hK;clear hK K
   refine xn ?_
   refine ⟨nw - (k+1),by omega,2,k+1,tk+1,tk+2,rfl,by omega,?_,?_⟩
   all_goals simp [Env.put,Env.of,zbl,z4f,List.replicate_succ',List.map_append]
  ·try simp only[RL]at h1
   obtain rfl:k=nw:=by omega
   have hbo:=zs4 (List.replicate k (97:UInt8))
   have htk:((List.replicate k (97:UInt8)).map eB).take k=(List.replicate k (97:UInt8)).map eB:=qT (by simp)
   refine W.exit ?_
   refine xe ?_
   refine xe ?_
   refine XBlock.hit ?_
   refine xn ?_
   refine W.k fun K hK=>?_
   simp(disch:=omega)only[↓RU,RV,RH,↓reduceIte,qE,reduceCtorEq,if_pos,w64,↓RS,RG,qA,qM,qL,ty4,ty5,zab,zdw,List.length_replicate,htk,hbo]
   apply hK;clear hK K
   refine XbN ?_
   refine xn ?_
   refine W.k fun K hK=>?_
   simp(disch:=omega)only[↓RU,RV,RH,↓reduceIte,qE,reduceCtorEq,if_pos,w64,↓RS,RG,qA,qM,qL,zaa]
   apply hK;clear hK K
   refine xn ?_
   refine ⟨nh - (i+1),by omega,1,i+1,tk+1,tk+2,rfl,by omega,?_,?_⟩
   all_goals simp [Env.put,Env.of,zbl,z4f,List.replicate_succ',List.map_append]
 try simp only[RL]at h
 obtain rfl:i=nh:=by omega
 refine W.exit ?_
 refine xe ?_
 refine xe ?_
 refine XBlock.hit ?_
 refine xn ?_
 refine W.r fun K hK=>?_
 simp(disch:=omega)only[↓RU,RV,RH,↓reduceIte,qE,reduceCtorEq,if_pos,↓RS,RG,qA,qM,qL]
 apply hK;clear hK K
 refine W.ret ?_
 refine Br rfl ?_
 exact (zci (k:=9) rfl (by simp) (zgq _)).trans (by simp)
theorem zd2 {S:Store} {k ver off:Nat}:frz S 1 (k+1) (.ref 0 ver off)=some (.ref 0 ver off):=by simp [frz]
theorem zfp (p:List Txt):List.take p.length (p.map PV.str)=p.map .str:=qT (by simp)
theorem zd4 {S:Store} {lo k:Nat} (l:List Txt):(l.map PV.str).mapM (rfz S lo (k+1))=some (l.map PV.str):=zrl (fun _=>rfl) l
theorem zz1 {p:List Txt} (h:zaz p=true):Sm p:=by
 obtain ⟨h1,-,h3⟩:=zt6 h
 exact ⟨by omega,fun r hr=>by have:=(h3 r hr).2; omega⟩
theorem zri {p:List Txt} (h:zaz p=true):zbo p≤9:=by
 unfold zaz at h; simp only[qB,decide_eq_true_eq]at h; omega
theorem ya3 {s:Txt} (h:s∈([[104],[118]]:List Txt)):s.length≤1048576:=by
 simp only[List.mem_cons,List.not_mem_nil,or_false]at h
 rcases h with rfl | rfl <;> simp
theorem z58 {code:Txt} {q vr t:Nat} {R:List Ob} (hc:code.length≤1048576) (hq:q≤900000) {p:List Txt} (hp:zaz p=true) {many:Nat} (hm:many≤1000):Ev Tryz.prog 225 [.ref 0 vr 0,zai p,.int .i64 many] ⟨.arr vr 135 2 [eBy code,.int .i64 (q:Int)]::R,t⟩ fun v S=>∃ (p2:List Txt) (q2 t2:Nat),v=zai p2∧zaz p2=true∧p2.length=p.length∧q2≤q+3*many∧S=⟨[.arr vr 135 2 [eBy code,.int .i64 (q2:Int)]],t2⟩:=by
 refine Ev.of ⟨Tryz.func225,by kernel_rfl,rfl,by kernel_rfl⟩ zao mixed (by show 3≤Tryz.f225.ntmps; decide) ?_
 refine W.r fun K hK=>?_
 simp(disch:=omega)only[↓RU,RV,RH,↓reduceIte,qE,reduceCtorEq,if_pos,↓RS,RG,qA,qM,qL]
 apply hK;clear hK K
 refine W.seq ?_
 refine W.r fun K hK=>?_
 simp(disch:=omega)only[↓RU,RV,RH,↓reduceIte,qE,reduceCtorEq,if_pos,↓RS,RG,qA,qM,qL]
 apply hK;clear hK K
 refine W.block ?_
 refine W.loopZ [0,1,2,7] (fun n vs S=>∃ (i:Nat) (p2:List Txt) (q2 tk:Nat),n=many - i∧i≤many∧zaz p2=true∧p2.length=p.length∧q2≤q+3*i∧vs=[.ref 0 vr 0,zai p2,.int .i64 many,.int .i64 i]∧S=⟨[.arr vr 135 2 [eBy code,.int .i64 (q2:Int)]],tk⟩) many ?_ ?_
 ·refine ⟨1,[.ref 0 vr 0,zai p,.int .i64 many,.int .i64 (0:Nat)],⟨[.arr vr 135 2 [eBy code,.int .i64 (q:Int)]],t⟩,?_,?_,0,p,q,t,rfl,by omega,hp,rfl,by omega,rfl,rfl⟩
  ·simp [-qU,Store.frz,zch,zc0,za3,zbz,zb0,zb1,zc8,zbh,zbk,zbi,za2,za4,zb5,zbj,zb2,zbg,Env.put,Env.of,zag,zb4,qP,qC,zd2,zfp,zd4]
  simp [-qU,Store.frz,zch,zc0,za3,zbz,zb0,zb1,zc8,zbh,zbk,zbi,za2,za4,zb5,zbj,zb2,zbg,Env.put,Env.of,zag,zb4,qP,qC,zd2,zfp,zd4]
 rintro n vs S - ⟨i,p2,q2,tk,rfl,h_i,hp2,hl2,hq2,rfl,rfl⟩
 refine W.seq ?_
 refine W.r fun K hK=>?_
 simp(disch:=omega)only[↓RU,RV,RH,↓reduceIte,qE,reduceCtorEq,if_pos,w64,↓RS,RG,qA,qM,qL,zaa]
 apply hK;clear hK K
 refine W.cond rfl (fun h=>?_) (fun h=>?_)
 ·try simp only[RL]at h
  have hs2:=zz1 hp2
  have hr9:=zri hp2
  have hrb:=zdq p2
  refine W.skip ?_
  refine xn ?_
  refine W.seq ?_
  refine W.block ?_
  refine W.r fun K hK=>?_
  simp(disch:=omega)only[↓RU,RV,RH,↓reduceIte,qE,reduceCtorEq,if_pos,qN,↓RS,RG,qA,qM,qL]
  refine zac.pc (zgu hs2) rfl (.inl rfl) ?_
  simp(disch:=omega)only[↓RU,RV,RH,↓reduceIte,qE,reduceCtorEq,if_pos,qN,↓RS,RG,qA,qM,qL]
  refine zac.ev (zfm hc (by omega) (zbo p2) (by omega) (by omega)) ?_
  rintro _ _ ⟨k1,rfl,-,-,rfl⟩
  simp(disch:=omega)only[↓RU,RV,RH,↓reduceIte,qE,reduceCtorEq,if_pos,qN,↓RS,RG,qA,qM,qL]
  apply hK;clear hK K
  refine W.r fun K hK=>?_
  simp(disch:=omega)only[↓RU,RV,RH,↓reduceIte,qE,reduceCtorEq,if_pos,qN,w64,↓RS,RG,qA,qM,qL,ty4,zaa,zab]
  refine zac.ev (yel (R:=[]) (l:=[[104],[118]]) hc (by omega) (by simp) (by simp)) ?_
  rintro _ _ ⟨s,hsm,rfl,rfl⟩
  have hsl:=ya3 hsm
  simp(disch:=omega)only[↓RU,RV,RH,↓reduceIte,qE,reduceCtorEq,if_pos,qN,w64,↓RS,RG,qA,qM,qL,ty4,zaa,zab]
  refine zac.ev (zfm (q:=q2+1+1) hc (by omega) 3 (by omega) (by omega)) ?_
  rintro _ _ ⟨k2,rfl,-,hk2,rfl⟩
  have hk3:=hk2 (by omega)
  simp(disch:=omega)only[↓RU,RV,RH,↓reduceIte,qE,reduceCtorEq,if_pos,qN,w64,↓RS,RG,qA,qM,qL,ty4,zaa,zab]
  refine zac.pc (zob hs2 k1 hsl (1+k2)) rfl (.inr rfl) ?_
  simp(disch:=omega)only[↓RU,RV,RH,↓reduceIte,qE,reduceCtorEq,if_pos,qN,w64,↓RS,RG,qA,qM,qL,ty4,zaa,zab]
  apply hK;clear hK K
  refine W.r fun K hK=>?_
  simp(disch:=omega)only[↓RU,RV,RH,↓reduceIte,qE,reduceCtorEq,if_pos,↓RS,RG,qA,qM,qL]
  apply hK;clear hK K
  refine W.cond rfl (fun h1=>?_) (fun h1=>?_)
  ·try simp only[RL]at h1
   obtain ⟨ho1,ho2⟩:=zys h1
   refine W.k fun K hK=>?_
   simp(disch:=omega)only[↓RU,RV,RH,↓reduceIte,qE,reduceCtorEq,if_pos,↓RS,RG,qA,qM,qL]
   apply hK;clear hK K
   refine XbN ?_
   refine xn ?_
   refine W.k fun K hK=>?_
   simp(disch:=omega)only[↓RU,RV,RH,↓reduceIte,qE,reduceCtorEq,if_pos,w64,↓RS,RG,qA,qM,qL,zaa]
   apply hK;clear hK K
   refine xn ?_
   refine ⟨many - (i+1),by omega,1,[.ref 0 vr 0,zai (zez p2 k1 s (1+k2)).1,.int .i64 many,.int .i64 ((i+1:Nat):Int)],⟨[.arr vr 135 2 [eBy code,.int .i64 ((q2+1+1+1:Nat):Int)]],tk+1⟩,?_,?_,i+1,(zez p2 k1 s (1+k2)).1,q2+1+1+1,tk+1,rfl,by omega,ho1,ho2.trans hl2,by omega,rfl,rfl⟩
   ·simp [-qU,Store.frz,zch,zc0,za3,zbz,zb0,zb1,zc8,zbh,zbk,zbi,za2,za4,zb5,zbj,zb2,zbg,Env.put,Env.of,zag,zb4,qP,qC,zd2,zfp,zd4]
   simp [-qU,Store.frz,zch,zc0,za3,zbz,zb0,zb1,zc8,zbh,zbk,zbi,za2,za4,zb5,zbj,zb2,zbg,Env.put,Env.of,zag,zb4,qP,qC,zd2,zfp,zd4]
  try simp only[RL]at h1
  refine W.skip ?_
  refine XbN ?_
  refine xn ?_
  refine W.k fun K hK=>?_
  simp(disch:=omega)only[↓RU,RV,RH,↓reduceIte,qE,reduceCtorEq,if_pos,w64,↓RS,RG,qA,qM,qL,zaa]
  apply hK;clear hK K
  refine xn ?_
  refine ⟨many - (i+1),by omega,1,[.ref 0 vr 0,zai p2,.int .i64 many,.int .i64 ((i+1:Nat):Int)],⟨[.arr vr 135 2 [eBy code,.int .i64 ((q2+1+1+1:Nat):Int)]],tk+1⟩,?_,?_,i+1,p2,q2+1+1+1,tk+1,rfl,by omega,hp2,hl2,by omega,rfl,rfl⟩
  ·simp [-qU,Store.frz,zch,zc0,za3,zbz,zb0,zb1,zc8,zbh,zbk,zbi,za2,za4,zb5,zbj,zb2,zbg,Env.put,Env.of,zag,zb4,qP,qC,zd2,zfp,zd4]
  simp [-qU,Store.frz,zch,zc0,za3,zbz,zb0,zb1,zc8,zbh,zbk,zbi,za2,za4,zb5,zbj,zb2,zbg,Env.put,Env.of,zag,zb4,qP,qC,zd2,zfp,zd4]
 try simp only[RL]at h
 obtain rfl:i=many:=by omega
 refine W.exit ?_
 refine xe ?_
 refine xe ?_
 refine XBlock.hit ?_
 refine xn ?_
 refine W.r fun K hK=>?_
 simp(disch:=omega)only[↓RU,RV,RH,↓reduceIte,qE,reduceCtorEq,if_pos,↓RS,RG,qA,qM,qL]
 apply hK;clear hK K
 refine W.ret ?_
 refine Br rfl ?_
 exact ⟨_,p2,q2,tk,rfl,hp2,hl2,by omega,zat⟩
theorem ztt {code:Txt} {q vr t v1:Nat} {R:List Ob} (hc:code.length≤1048576) (hq:q≤900000) {p:List Txt} (hp:zaz p=true) {many:Nat} (hm:many≤1000):Ev Tryz.prog 225 [.ref 0 vr 0,.loc 1 v1 0 p.length,.int .i64 many] ⟨.arr vr 135 2 [eBy code,.int .i64 (q:Int)] :: .arr v1 9 1 (p.map .str)::R,t⟩ fun v S=>∃ (p2:List Txt) (q2 t2:Nat),v=zai p2∧zaz p2=true∧p2.length=p.length∧q2≤q+3*many∧S=⟨[.arr vr 135 2 [eBy code,.int .i64 (q2:Int)]],t2⟩:=by
 refine Ev.of ⟨Tryz.func225,by kernel_rfl,rfl,by kernel_rfl⟩ zao mixed (by show 3≤Tryz.f225.ntmps; decide) ?_
 refine W.r fun K hK=>?_
 simp(disch:=omega)only[↓RU,RV,RH,↓reduceIte,qE,reduceCtorEq,if_pos,↓RS,RG,qA,qM,qL]
 apply hK;clear hK K
 refine W.seq ?_
 refine W.r fun K hK=>?_
 simp(disch:=omega)only[↓RU,RV,RH,↓reduceIte,qE,reduceCtorEq,if_pos,↓RS,RG,qA,qM,qL]
 apply hK;clear hK K
 refine W.block ?_
 refine W.loopZ [0,1,2,7] (fun n vs S=>∃ (i:Nat) (p2:List Txt) (q2 tk:Nat),n=many - i∧i≤many∧zaz p2=true∧p2.length=p.length∧q2≤q+3*i∧vs=[.ref 0 vr 0,zai p2,.int .i64 many,.int .i64 i]∧S=⟨[.arr vr 135 2 [eBy code,.int .i64 (q2:Int)]],tk⟩) many ?_ ?_
 ·refine ⟨1,[.ref 0 vr 0,zai p,.int .i64 many,.int .i64 (0:Nat)],⟨[.arr vr 135 2 [eBy code,.int .i64 (q:Int)]],t⟩,?_,?_,0,p,q,t,rfl,by omega,hp,rfl,by omega,rfl,rfl⟩
  ·simp [-qU,Store.frz,zch,zc0,za3,zbz,zb0,zb1,zc8,zbh,zbk,zbi,za2,za4,zb5,zbj,zb2,zbg,Env.put,Env.of,zag,zb4,qP,qC,zd2,zfp,zd4]
  simp [-qU,Store.frz,zch,zc0,za3,zbz,zb0,zb1,zc8,zbh,zbk,zbi,za2,za4,zb5,zbj,zb2,zbg,Env.put,Env.of,zag,zb4,qP,qC,zd2,zfp,zd4]
 rintro n vs S - ⟨i,p2,q2,tk,rfl,h_i,hp2,hl2,hq2,rfl,rfl⟩
 refine W.seq ?_
 refine W.r fun K hK=>?_
 simp(disch:=omega)only[↓RU,RV,RH,↓reduceIte,qE,reduceCtorEq,if_pos,w64,↓RS,RG,qA,qM,qL,zaa]
 apply hK;clear hK K
 refine W.cond rfl (fun h=>?_) (fun h=>?_)
 ·try simp only[RL]at h
  have hs2:=zz1 hp2
  have hr9:=zri hp2
  have hrb:=zdq p2
  refine W.skip ?_
  refine xn ?_
  refine W.seq ?_
  refine W.block ?_
  refine W.r fun K hK=>?_
  simp(disch:=omega)only[↓RU,RV,RH,↓reduceIte,qE,reduceCtorEq,if_pos,qN,↓RS,RG,qA,qM,qL]
  refine zac.pc (zgu hs2) rfl (.inl rfl) ?_
  simp(disch:=omega)only[↓RU,RV,RH,↓reduceIte,qE,reduceCtorEq,if_pos,qN,↓RS,RG,qA,qM,qL]
  refine zac.ev (zfm hc (by omega) (zbo p2) (by omega) (by omega)) ?_
  rintro _ _ ⟨k1,rfl,-,-,rfl⟩
  simp(disch:=omega)only[↓RU,RV,RH,↓reduceIte,qE,reduceCtorEq,if_pos,qN,↓RS,RG,qA,qM,qL]
  apply hK;clear hK K
  refine W.r fun K hK=>?_
  simp(disch:=omega)only[↓RU,RV,RH,↓reduceIte,qE,reduceCtorEq,if_pos,qN,w64,↓RS,RG,qA,qM,qL,ty4,zaa,zab]
  refine zac.ev (yel (R:=[]) (l:=[[104],[118]]) hc (by omega) (by simp) (by simp)) ?_
  rintro _ _ ⟨s,hsm,rfl,rfl⟩
  have hsl:=ya3 hsm
  simp(disch:=omega)only[↓RU,RV,RH,↓reduceIte,qE,reduceCtorEq,if_pos,qN,w64,↓RS,RG,qA,qM,qL,ty4,zaa,zab]
  refine zac.ev (zfm (q:=q2+1+1) hc (by omega) 3 (by omega) (by omega)) ?_
  rintro _ _ ⟨k2,rfl,-,hk2,rfl⟩
  have hk3:=hk2 (by omega)
  simp(disch:=omega)only[↓RU,RV,RH,↓reduceIte,qE,reduceCtorEq,if_pos,qN,w64,↓RS,RG,qA,qM,qL,ty4,zaa,zab]
  refine zac.pc (zob hs2 k1 hsl (1+k2)) rfl (.inr rfl) ?_
  simp(disch:=omega)only[↓RU,RV,RH,↓reduceIte,qE,reduceCtorEq,if_pos,qN,w64,↓RS,RG,qA,qM,qL,ty4,zaa,zab]
  apply hK;clear hK K
  refine W.r fun K hK=>?_
  simp(disch:=omega)only[↓RU,RV,RH,↓reduceIte,qE,reduceCtorEq,if_pos,↓RS,RG,qA,qM,qL]
  apply hK;clear hK K
  refine W.cond rfl (fun h1=>?_) (fun h1=>?_)
  ·try simp only[RL]at h1
   obtain ⟨ho1,ho2⟩:=zys h1
   refine W.k fun K hK=>?_
   simp(disch:=omega)only[↓RU,RV,RH,↓reduceIte,qE,reduceCtorEq,if_pos,↓RS,RG,qA,qM,qL]
   apply hK;clear hK K
   refine XbN ?_
   refine xn ?_
   refine W.k fun K hK=>?_
   simp(disch:=omega)only[↓RU,RV,RH,↓reduceIte,qE,reduceCtorEq,if_pos,w64,↓RS,RG,qA,qM,qL,zaa]
   apply hK;clear hK K
   refine xn ?_
   refine ⟨many - (i+1),by omega,1,[.ref 0 vr 0,zai (zez p2 k1 s (1+k2)).1,.int .i64 many,.int .i64 ((i+1:Nat):Int)],⟨[.arr vr 135 2 [eBy code,.int .i64 ((q2+1+1+1:Nat):Int)]],tk+1⟩,?_,?_,i+1,(zez p2 k1 s (1+k2)).1,q2+1+1+1,tk+1,rfl,by omega,ho1,ho2.trans hl2,by omega,rfl,rfl⟩
   ·simp [-qU,Store.frz,zch,zc0,za3,zbz,zb0,zb1,zc8,zbh,zbk,zbi,za2,za4,zb5,zbj,zb2,zbg,Env.put,Env.of,zag,zb4,qP,qC,zd2,zfp,zd4]
   simp [-qU,Store.frz,zch,zc0,za3,zbz,zb0,zb1,zc8,zbh,zbk,zbi,za2,za4,zb5,zbj,zb2,zbg,Env.put,Env.of,zag,zb4,qP,qC,zd2,zfp,zd4]
  try simp only[RL]at h1
  refine W.skip ?_
  refine XbN ?_
  refine xn ?_
  refine W.k fun K hK=>?_
  simp(disch:=omega)only[↓RU,RV,RH,↓reduceIte,qE,reduceCtorEq,if_pos,w64,↓RS,RG,qA,qM,qL,zaa]
  apply hK;clear hK K
  refine xn ?_
  refine ⟨many - (i+1),by omega,1,[.ref 0 vr 0,zai p2,.int .i64 many,.int .i64 ((i+1:Nat):Int)],⟨[.arr vr 135 2 [eBy code,.int .i64 ((q2+1+1+1:Nat):Int)]],tk+1⟩,?_,?_,i+1,p2,q2+1+1+1,tk+1,rfl,by omega,hp2,hl2,by omega,rfl,rfl⟩
  ·simp [-qU,Store.frz,zch,zc0,za3,zbz,zb0,zb1,zc8,zbh,zbk,zbi,za2,za4,zb5,zbj,zb2,zbg,Env.put,Env.of,zag,zb4,qP,qC,zd2,zfp,zd4]
  simp [-qU,Store.frz,zch,zc0,za3,zbz,zb0,zb1,zc8,zbh,zbk,zbi,za2,za4,zb5,zbj,zb2,zbg,Env.put,Env.of,zag,zb4,qP,qC,zd2,zfp,zd4]
 try simp only[RL]at h
 obtain rfl:i=many:=by omega
 refine W.exit ?_
 refine xe ?_
 refine xe ?_
 refine XBlock.hit ?_
 refine xn ?_
 refine W.r fun K hK=>?_
 simp(disch:=omega)only[↓RU,RV,RH,↓reduceIte,qE,reduceCtorEq,if_pos,↓RS,RG,qA,qM,qL]
 apply hK;clear hK K
 refine W.ret ?_
 refine Br rfl ?_
 exact ⟨_,p2,q2,tk,rfl,hp2,hl2,by omega,zat⟩
theorem z3b {nh nw:Nat} (h1:1≤nh) (h2:nh≤6) (w1:1≤nw) (w2:nw≤6):zaz (List.replicate nh (List.replicate nw (97:UInt8)))=true:=by
 rcases (show nh=1∨nh=2∨nh=3∨nh=4∨nh=5∨nh=6 by omega) with rfl | rfl | rfl | rfl | rfl | rfl <;>
 rcases (show nw=1∨nw=2∨nw=3∨nw=4∨nw=5∨nw=6 by omega) with rfl | rfl | rfl | rfl | rfl | rfl <;> decide +kernel
def ye4:List Txt:=[[97,97,98],[99,100,98],[99,101,101]]
def ye5:List Txt:=[[97,97,97,98],[99,100,100,98],[99,100,100,98],[99,101,101,101]]
theorem z0t:zaz ye4=true:=by decide +kernel
theorem z0u:zaz ye5=true:=by decide +kernel
theorem z3n {code:Txt} {q vr t:Nat} (hc:code.length≤1048576) (hq:q≤800000) {nh nw:Nat} (h1:1≤nh) (h2:nh≤6) (w1:1≤nw) (w2:nw≤6):Ev Tryz.prog 130 [.ref 0 vr 0,.int .i64 nh,.int .i64 nw] ⟨[.arr vr 135 2 [eBy code,.int .i64 (q:Int)]],t⟩ fun v S=>∃ (p2:List Txt) (q2 t2:Nat),v=zai p2∧zaz p2=true∧p2.length=nh∧q2≤q+100∧S=⟨[.arr vr 135 2 [eBy code,.int .i64 (q2:Int)]],t2⟩:=by
 refine Ev.of ⟨Tryz.func130,by kernel_rfl,rfl,by kernel_rfl⟩ zao mixed (by show 3≤Tryz.f130.ntmps; decide) ?_
 refine W.r fun K hK=>?_
 simp(disch:=omega)only[↓RU,RV,RH,↓reduceIte,qE,reduceCtorEq,if_pos,↓RS,RG,qA,qM,qL]
 apply hK;clear hK K
 refine W.seq ?_
 refine W.join [0,1,2,17] (fun vs S=>∃ (q2:Nat) (b:Bool),q2≤q+1∧(b=true→nh=3)∧vs=[.ref 0 vr 0,.int .i64 nh,.int .i64 nw,.bool b]∧S=⟨[.arr vr 135 2 [eBy code,.int .i64 (q2:Int)]],t⟩) ?_ ?_
 ·
  refine W.k fun K hK=>?_
  rcases hd:(((nh:Int) == 3),((nw:Int) == 3)) with ⟨_ | _,_ | _⟩
  ·skip
   simp only[Prod.mk.injEq]at hd
   obtain ⟨hd1,hd2⟩:=hd
   simp(disch:=omega)only[↓RU,RV,RH,↓reduceIte,qE,reduceCtorEq,if_pos,w64,qN,↓RS,RG,qA,qM,qL,zaa,hd1,hd2]
   apply hK;clear hK K
   refine xn ?_
   refine ⟨_,q,false,by omega,fun h9=>(by cases h9),?_,zat⟩
   simp [Env.put,Env.of,zag]
  ·skip
   simp only[Prod.mk.injEq]at hd
   obtain ⟨hd1,hd2⟩:=hd
   simp(disch:=omega)only[↓RU,RV,RH,↓reduceIte,qE,reduceCtorEq,if_pos,w64,qN,↓RS,RG,qA,qM,qL,zaa,hd1,hd2]
   apply hK;clear hK K
   refine xn ?_
   refine ⟨_,q,false,by omega,fun h9=>(by cases h9),?_,zat⟩
   simp [Env.put,Env.of,zag]
  ·skip
   simp only[Prod.mk.injEq]at hd
   obtain ⟨hd1,hd2⟩:=hd
   simp(disch:=omega)only[↓RU,RV,RH,↓reduceIte,qE,reduceCtorEq,if_pos,w64,qN,↓RS,RG,qA,qM,qL,zaa,hd1,hd2]
   apply hK;clear hK K
   refine xn ?_
   refine ⟨_,q,false,by omega,fun h9=>(by cases h9),?_,zat⟩
   simp [Env.put,Env.of,zag]
  skip
  simp only[Prod.mk.injEq]at hd
  obtain ⟨hd1,hd2⟩:=hd
  simp(disch:=omega)only[↓RU,RV,RH,↓reduceIte,qE,reduceCtorEq,if_pos,w64,qN,↓RS,RG,qA,qM,qL,zaa,hd1,hd2]
  refine zac.ev (zfm (q:=q) hc (by omega) 2 (by omega) (by omega)) ?_
  rintro _ _ ⟨k1,rfl,-,hk1,rfl⟩
  have hk1b:=hk1 (by omega)
  simp(disch:=omega)only[↓RU,RV,RH,↓reduceIte,qE,reduceCtorEq,if_pos,w64,qN,↓RS,RG,qA,qM,qL,zaa,hd1,hd2]
  apply hK;clear hK K
  refine xn ?_
  refine ⟨_,q+1,((k1:Int) == 0),by omega,fun _=>(by have:=beq_iff_eq.1 hd1; omega),?_,zat⟩
  simp [Env.put,Env.of,zag]
 rintro vs S - ⟨qa,b3,hqa,hb3,rfl,rfl⟩
 refine W.cond rfl (fun h3=>?_) (fun h3=>?_)
 ·try simp only[RL]at h3
  refine W.r fun K hK=>?_
  simp(disch:=omega)only[↓RU,RV,RH,↓reduceIte,qE,reduceCtorEq,if_pos,qN,↓RS,RG,qA,qM,qL,ty4,zab]
  refine zac.ev (zfm (q:=qa) hc (by omega) 2 (by omega) (by omega)) ?_
  rintro _ _ ⟨k1,rfl,-,hk1,rfl⟩
  have hk1b:=hk1 (by omega)
  simp(disch:=omega)only[↓RU,RV,RH,↓reduceIte,qE,reduceCtorEq,if_pos,qN,↓RS,RG,qA,qM,qL,ty4,zab]
  refine zac.ev (ztt (q:=qa+1) (R:=[]) hc (by omega) z0t (many:=k1) (by omega)) ?_
  rintro _ _ ⟨p2,q2,t2,rfl,hp2,hl2,hq2,rfl⟩
  simp(disch:=omega)only[↓RU,RV,RH,↓reduceIte,qE,reduceCtorEq,if_pos,qN,↓RS,RG,qA,qM,qL,ty4,zab]
  apply hK;clear hK K
  refine W.ret ?_
  refine XThen.ret ?_
  refine Br rfl ?_
  exact ⟨_,p2,q2,t2,rfl,hp2,hl2.trans (hb3 h3).symm,by omega,zat⟩
 try simp only[RL]at h3
 refine W.skip ?_
 refine xn ?_
 refine W.seq ?_
 refine W.join [0,1,2,33] (fun vs S=>∃ (q2:Nat) (b:Bool),q2≤q+2∧(b=true→nh=4)∧vs=[.ref 0 vr 0,.int .i64 nh,.int .i64 nw,.bool b]∧S=⟨[.arr vr 135 2 [eBy code,.int .i64 (q2:Int)]],t⟩) ?_ ?_
 ·
  refine W.k fun K hK=>?_
  rcases hd:(((nh:Int) == 4),((nw:Int) == 4)) with ⟨_ | _,_ | _⟩
  ·skip
   simp only[Prod.mk.injEq]at hd
   obtain ⟨hd1,hd2⟩:=hd
   simp(disch:=omega)only[↓RU,RV,RH,↓reduceIte,qE,reduceCtorEq,if_pos,w64,qN,↓RS,RG,qA,qM,qL,zaa,hd1,hd2]
   apply hK;clear hK K
   refine xn ?_
   refine ⟨_,qa,false,by omega,fun h9=>(by cases h9),?_,zat⟩
   simp [Env.put,Env.of,zag]
  ·skip
   simp only[Prod.mk.injEq]at hd
   obtain ⟨hd1,hd2⟩:=hd
   simp(disch:=omega)only[↓RU,RV,RH,↓reduceIte,qE,reduceCtorEq,if_pos,w64,qN,↓RS,RG,qA,qM,qL,zaa,hd1,hd2]
   apply hK;clear hK K
   refine xn ?_
   refine ⟨_,qa,false,by omega,fun h9=>(by cases h9),?_,zat⟩
   simp [Env.put,Env.of,zag]
  ·skip
   simp only[Prod.mk.injEq]at hd
   obtain ⟨hd1,hd2⟩:=hd
   simp(disch:=omega)only[↓RU,RV,RH,↓reduceIte,qE,reduceCtorEq,if_pos,w64,qN,↓RS,RG,qA,qM,qL,zaa,hd1,hd2]
   apply hK;clear hK K
   refine xn ?_
   refine ⟨_,qa,false,by omega,fun h9=>(by cases h9),?_,zat⟩
   simp [Env.put,Env.of,zag]
  skip
  simp only[Prod.mk.injEq]at hd
  obtain ⟨hd1,hd2⟩:=hd
  simp(disch:=omega)only[↓RU,RV,RH,↓reduceIte,qE,reduceCtorEq,if_pos,w64,qN,↓RS,RG,qA,qM,qL,zaa,hd1,hd2]
  refine zac.ev (zfm (q:=qa) hc (by omega) 2 (by omega) (by omega)) ?_
  rintro _ _ ⟨k1,rfl,-,hk1,rfl⟩
  have hk1b:=hk1 (by omega)
  simp(disch:=omega)only[↓RU,RV,RH,↓reduceIte,qE,reduceCtorEq,if_pos,w64,qN,↓RS,RG,qA,qM,qL,zaa,hd1,hd2]
  apply hK;clear hK K
  refine xn ?_
  refine ⟨_,qa+1,((k1:Int) == 0),by omega,fun _=>(by have:=beq_iff_eq.1 hd1; omega),?_,zat⟩
  simp [Env.put,Env.of,zag]
 rintro vs S - ⟨qb,b4,hqb,hb4,rfl,rfl⟩
 refine W.cond rfl (fun h4=>?_) (fun h4=>?_)
 ·try simp only[RL]at h4
  refine W.r fun K hK=>?_
  simp(disch:=omega)only[↓RU,RV,RH,↓reduceIte,qE,reduceCtorEq,if_pos,qN,↓RS,RG,qA,qM,qL,ty4,zab]
  refine zac.ev (zfm (q:=qb) hc (by omega) 4 (by omega) (by omega)) ?_
  rintro _ _ ⟨k2,rfl,-,hk2,rfl⟩
  have hk2b:=hk2 (by omega)
  simp(disch:=omega)only[↓RU,RV,RH,↓reduceIte,qE,reduceCtorEq,if_pos,qN,↓RS,RG,qA,qM,qL,ty4,zab]
  refine zac.ev (ztt (q:=qb+1) (R:=[]) hc (by omega) z0u (many:=k2) (by omega)) ?_
  rintro _ _ ⟨p2,q2,t2,rfl,hp2,hl2,hq2,rfl⟩
  simp(disch:=omega)only[↓RU,RV,RH,↓reduceIte,qE,reduceCtorEq,if_pos,qN,↓RS,RG,qA,qM,qL,ty4,zab]
  apply hK;clear hK K
  refine W.ret ?_
  refine XThen.ret ?_
  refine Br rfl ?_
  exact ⟨_,p2,q2,t2,rfl,hp2,hl2.trans (hb4 h4).symm,by omega,zat⟩
 try simp only[RL]at h4
 refine W.skip ?_
 refine xn ?_
 refine W.r fun K hK=>?_
 simp(disch:=omega)only[↓RU,RV,RH,↓reduceIte,qE,reduceCtorEq,if_pos,qN,↓RS,RG,qA,qM,qL]
 refine zac.pc (zzu (nh:=nh) (nw:=nw) (by omega) (by omega)) rfl (.inl rfl) ?_
 simp(disch:=omega)only[↓RU,RV,RH,↓reduceIte,qE,reduceCtorEq,if_pos,qN,↓RS,RG,qA,qM,qL]
 refine zac.ev (zfm (q:=qb) hc (by omega) 9 (by omega) (by omega)) ?_
 rintro _ _ ⟨k3,rfl,-,hk3,rfl⟩
 have hk3b:=hk3 (by omega)
 simp(disch:=omega)only[↓RU,RV,RH,↓reduceIte,qE,reduceCtorEq,if_pos,qN,↓RS,RG,qA,qM,qL]
 refine zac.ev (z58 (q:=qb+1) (R:=[]) hc (by omega) (z3b h1 h2 w1 w2) (many:=k3) (by omega)) ?_
 rintro _ _ ⟨p2,q2,t2,rfl,hp2,hl2,hq2,rfl⟩
 simp(disch:=omega)only[↓RU,RV,RH,↓reduceIte,qE,reduceCtorEq,if_pos,qN,↓RS,RG,qA,qM,qL]
 apply hK;clear hK K
 refine W.ret ?_
 refine Br rfl ?_
 exact ⟨_,p2,q2,t2,rfl,hp2,by simpa using hl2,by omega,zat⟩






theorem z6t {S:Store} {a b:Bool}:pEq tab S 4 (.bool a) (.bool b)=some (a == b):=rfl


section
section
variable {n:Nat} {M X:List (List Bool)}
def rvB (M:List (List Bool)) (a:Nat) (X:List (List Bool)) (b:Nat):List (List Bool):=z8l X b a (zcn M a b)
def rvA (n:Nat) (M:List (List Bool)) (X:List (List Bool)) (a:Nat):List (List Bool):=(List.range n).foldl (rvB M a) X
def rv (n:Nat) (M:List (List Bool)):List (List Bool):=(List.range n).foldl (rvA n M) (zg3 n)
end
end



theorem zx2 {a:Txt}:zn9 .neq a a=some (.bool false):=by simp [zn9]
theorem zjr {a:Txt}:zn9 .eql a a=some (.bool true):=by simp [zn9]
theorem yd6 {a:Int} (h0:0≤a) (h1:a<9):yax a=[UInt8.ofNat (a+65).toNat]:=by
 obtain ⟨n,rfl⟩:=Int.eq_ofNat_of_zero_le h0
 have:n=0∨n=1∨n=2∨n=3∨n=4∨n=5∨n=6∨n=7∨n=8:=by omega
 rcases this with rfl | rfl | rfl | rfl | rfl | rfl | rfl | rfl | rfl <;> decide +kernel
theorem zv2 {z:Nat→Nat→Int} {H W:Nat}:∀ (n:Nat) {t:Pt} {x:CT},t.In H W→t.h*t.w≤n→zc7 z t=some x→(∀ v∈x.leaves,0≤v∧v<9)→(zoo z t).1=x.fold yax yay
 | 0,t,x,hi,hn,_,_=>by have:=Nat.mul_pos hi.1 hi.2.1; omega
 | n+1,t,x,hi,hn,hx,hl=>by
  cases h1:zl4 z t with
  | true =>
   rw [zj1 hi h1]at hx
   cases hx
   have:=hl (z t.r t.c) (by simp [CT.leaves])
   rw [zv1 hi h1,CT.fold,yd6 this.1 this.2]
  | false =>
   cases hc:zcv z t with
   | none=>rw [zix hi h1 hc]at hx; cases hx
   | some q =>
    obtain ⟨i1,i2,a1,a2⟩:=hi.cut hc
    rw [zhf hi h1 hc]at hx
    cases h2:zc7 z (t.one q) with
    | none=>rw [h2]at hx; cases hx
    | some x1 =>
     cases h3:zc7 z (t.two q) with
     | none=>rw [h2,h3]at hx; cases hx
     | some x2 =>
      rw [h2,h3]at hx
      cases hx
      rw [zkq hi h1 hc,CT.fold,yay,zv2 n i1 (by omega) h2 fun v hv=>hl v (by simp [CT.leaves,hv]),zv2 n i2 (by omega) h3 fun v hv=>hl v (by simp [CT.leaves,hv])]
def zoj (p:List Txt):Txt:=if zuw p then (zoo (zah p) (zej p)).1 else []
structure Slashed (p:List Txt):Prop where
 m:∃ m,m+1=p.length
 n:p.length≤6
 r:∀ r∈p,r.length≤6
 s47:∀ r∈p,(47:UInt8) ∉ r
 s10:(10:UInt8) ∉ joinS p
theorem zw8 {c:UInt8}:∀ {p:List Txt},c∈joinS p→c=47∨∃ r∈p,c∈r
 | [],h=>by simp [joinS]at h
 | [a],h=>by simp [joinS]at h; exact .inr ⟨a,by simp,h⟩
 | a::b::r,h=>by
  rw [joinS,List.mem_append,List.mem_cons]at h
  rcases h with h | h | h
  ·exact .inr ⟨a,by simp,h⟩
  ·exact .inl h
  rcases zw8 h with h | ⟨x,hx,h⟩
  ·exact .inl h
  exact .inr ⟨x,by simp [List.mem_cons.1 hx],h⟩
theorem zoc {p:List Txt} (hp:zaz p=true):Slashed p:=by
 have hg:=zb8 hp
 have hl:∀ r∈p,∀ c∈r,97≤c.toNat:=by
  intro r hr c hc
  unfold zb3 at hg
  simp only[qB,List.all_eq_true]at hg
  have:=hg.1.1 r hr
  simp only[zr5,qB,List.all_eq_true]at this
  have:=this.2 c hc
  simp only[zcb,qB,decide_eq_true_eq]at this
  exact this.1
 obtain ⟨g1,g2,g3⟩:=zay hg
 refine ⟨⟨p.length - 1,by omega⟩,g2,g3,fun r hr hc=>by have:=hl r hr _ hc; simp at this,fun hc=>?_⟩
 rcases zw8 hc with h | ⟨r,hr,h⟩
 ·exact absurd h (by decide)
 have:=hl r hr _ h; simp at this
theorem z3c {p:List Txt} (hs:Sm p) (hp:zaz p=true) {f:FuncId} {cmd r:Txt} {j:Nat} (hc10:(10:UInt8) ∉ cmd) (hc32:(32:UInt8) ∉ cmd) (hcl:cmd.length≤100) (hrl:r.length≤500)
  (hfind:findKey (.str cmd) tabA 0=some (some (j,.fn 166 [.ip [.fn f []] 0,.ip [.fn 76 []] 0]))) (hf:PC Tryz.prog f [zai p] (.tup [.str r,.bool true]) true) :
  PC Tryz.prog 9 [.str (zm7 p++10::(cmd++[10]))] (.str ([111,107,10]++(r++[10])++([114,111,111,109,115,32]++zos (rP p).length++[10]))) true:=by
 obtain ⟨⟨m,hm⟩,h2,h3,h4,h5⟩:=zoc hp
 exact zzl hm h2 h3 h4 h5 hs (by rw [zd6]; exact hp) hc10 hc32 hcl hrl hfind hf
theorem digC {k:Nat} (hk:k<10):[PV.int .u8 (IntKind.u8.wrap (48+max 0 (k:Int)))]=(zos k).map eB:=by
 have:k=0∨k=1∨k=2∨k=3∨k=4∨k=5∨k=6∨k=7∨k=8∨k=9:=by omega
 rcases this with rfl | rfl | rfl | rfl | rfl | rfl | rfl | rfl | rfl | rfl <;> rfl
theorem yc8 {p:List Txt} (hs:Sm p):PC Tryz.prog 7 [zai p] (.tup [.str (zoj p),.bool (zuw p)]) true:=by
 refine PC.of ⟨Tryz.func7,by kernel_rfl,rfl,by kernel_rfl⟩ zao mixed (by show 1≤Tryz.f7.ntmps; decide) ?_
 refine W.r fun K hK=>?_
 simp(disch:=omega)only[↓RU,RV,RH,↓reduceIte,qE,reduceCtorEq,if_pos]
 apply hK;clear hK K
 refine W.seq ?_
 refine W.r fun K hK=>?_
 simp(disch:=omega)only[↓RU,RV,RH,↓reduceIte,qE,reduceCtorEq,if_pos,qN]
 refine zac.pc (zea hs) rfl (.inl rfl) ?_
 simp(disch:=omega)only[↓RU,RV,RH,↓reduceIte,qE,reduceCtorEq,if_pos,qN]
 apply hK;clear hK K
 refine W.cond rfl (fun h0=>?_) (fun h0=>?_)
 ·skip
  have h0:zaz p=false:=by simpa using h0
  refine W.r fun K hK=>?_
  simp(disch:=omega)only[↓RU,RV,RH,↓reduceIte,qE,reduceCtorEq,if_pos]
  apply hK;clear hK K
  refine W.ret ?_
  refine XThen.ret ?_
  refine Br rfl ?_
  rw [show zuw p=false by simp [zuw,h0],show zoj p=[] by simp [zoj,zuw,h0]]
  rfl
 skip
 have h0:zaz p=true:=by simpa using h0
 have hg:=zb8 h0
 have hT:=zq2 hg _ (qR _) (znp hg)
 rw [z0m hg,(zeq (z:=zah p) _ (znp hg) (qR _)).2]at hT
 have hcb:zuw p=(zc7 (zah p) (zej p)).isSome:=by simp [zuw,h0]
 rw [← hcb]at hT
 refine W.skip ?_
 refine xn ?_
 refine W.r fun K hK=>?_
 simp(disch:=omega)only[↓RU,RV,RH,↓reduceIte,qE,reduceCtorEq,if_pos,qN]
 refine zac.pc (hT) rfl (.inl rfl) ?_
 simp(disch:=omega)only[↓RU,RV,RH,↓reduceIte,qE,reduceCtorEq,if_pos,qN]
 apply hK;clear hK K
 refine W.seq ?_
 refine W.r fun K hK=>?_
 cases hv:zuw p
 ·skip
  simp(disch:=omega)only[↓RU,RV,RH,↓reduceIte,qE,reduceCtorEq,if_pos,hv]
  apply hK;clear hK K
  refine W.cond rfl (fun h1=>?_) (fun h1=>?_)
  ·try simp only[RL]at h1
   refine W.r fun K hK=>?_
   simp(disch:=omega)only[↓RU,RV,RH,↓reduceIte,qE,reduceCtorEq,if_pos]
   apply hK;clear hK K
   refine W.ret ?_
   refine XThen.ret ?_
   refine Br rfl ?_
   rw [zoj,hv]
   rfl
  try simp only[RL]at h1
  exact absurd h1 (by simp)
 skip
 simp(disch:=omega)only[↓RU,RV,RH,↓reduceIte,qE,reduceCtorEq,if_pos,hv]
 apply hK;clear hK K
 refine W.cond rfl (fun h1=>?_) (fun h1=>?_)
 ·try simp only[RL]at h1
  exact absurd h1 (by simp)
 try simp only[RL]at h1
 refine W.skip ?_
 refine xn ?_
 refine W.r fun K hK=>?_
 simp(disch:=omega)only[↓RU,RV,RH,↓reduceIte,qE,reduceCtorEq,if_pos]
 apply hK;clear hK K
 refine W.ret ?_
 refine Br rfl ?_
 rw [zoj,hv]
 rfl
theorem z49 {k:Nat} (hk:k<10):PC Tryz.prog 11 [.int .i64 k] (.str (zos k)) true:=by
 have hc:=digC hk
 have hd1:(zos k).length=1:=rfl
 have ht1:(zos k).take 1=zos k:=rfl
 have ha1:zbf (List.map eB (zos k))=True:=eq_true (znn (fun _=>rfl) _)
 refine PC.of ⟨Tryz.func11,by kernel_rfl,rfl,by kernel_rfl⟩ zao mixed (by show 1≤Tryz.f11.ntmps; decide) ?_
 refine W.r fun K hK=>?_
 simp(disch:=omega)only[↓RU,RV,RH,↓reduceIte,qE,reduceCtorEq,if_pos,↓RS,RG,qA,qM,qL]
 apply hK;clear hK K
 refine W.seq ?_
 refine W.r fun K hK=>?_
 simp(disch:=omega)only[↓RU,RV,RH,↓reduceIte,qE,reduceCtorEq,if_pos,w64,↓RS,RG,qA,qM,qL,zaa]
 apply hK;clear hK K
 refine W.cond rfl (fun h0=>?_) (fun h0=>?_)
 ·try simp only[RL]at h0
  refine W.r fun K hK=>?_
  simp(disch:=omega)only[↓RU,RV,RH,↓reduceIte,qE,reduceCtorEq,if_pos,zm3,w64,w64,↓RS,RG,qA,qM,qL,ty5,zaa,zab,zdw,hc,hd1,ht1,ha1,qN]
  apply hK;clear hK K
  refine W.ret ?_
  refine XThen.ret ?_
  refine Br rfl ?_
  rfl
 try simp only[RL]at h0
 exfalso; omega
section
def zk6 (z:Nat→Nat→Int):Nat→Pt→Option Pt
 | 0,_=>none
 | f+1,t=>if zl4 z t then none else
  match zcv z t with
  | none=>some t
  | some q=>match zk6 z f (t.one q) with
   | some s=>some s
   | none=>zk6 z f (t.two q)
theorem zkm {z:Nat→Nat→Int} {H W:Nat}:∀ (n:Nat) {t:Pt} {f g:Nat},t.In H W→t.h*t.w≤n→t.h*t.w≤f→t.h*t.w≤g→zk6 z f t=zk6 z g t
 | 0,t,f,g,hi,hn,_,_=>by have:=Nat.mul_pos hi.1 hi.2.1; omega
 | n+1,t,f,g,hi,hn,hf,hg=>by
  have:=Nat.mul_pos hi.1 hi.2.1
  obtain ⟨f,rfl⟩:∃ f',f=f'+1:=⟨f - 1,by omega⟩
  obtain ⟨g,rfl⟩:∃ g',g=g'+1:=⟨g - 1,by omega⟩
  simp only[zk6]
  split
  ·rfl
  cases hc:zcv z t with
  | none=>rfl
  | some q =>
   obtain ⟨i1,i2,a1,a2⟩:=hi.cut hc
   simp only
   rw [zkm n i1 (f:=f) (g:=g) (by omega) (by omega) (by omega),zkm n i2 (f:=f) (g:=g) (by omega) (by omega) (by omega)]
def zc3 (z:Nat→Nat→Int) (t:Pt):Option Pt:=zk6 z (t.h*t.w) t
section
variable {z:Nat→Nat→Int} {H W:Nat} {t:Pt}
theorem ziw (h:t.In H W) (h1:zl4 z t=true):zc3 z t=none:=by
 unfold zc3; rw [zfs h,zk6,if_pos h1]
theorem zhc (h:t.In H W) (h1:zl4 z t=false) (h2:zcv z t=none):zc3 z t=some t:=by
 unfold zc3; rw [zfs h,zk6,h1,h2]; rfl
theorem zeb (h:t.In H W) (h1:zl4 z t=false) {q:Bool × Nat} (h2:zcv z t=some q):zc3 z t=match zc3 z (t.one q) with | some s=>some s | none=>zc3 z (t.two q):=by
 obtain ⟨i1,i2,a1,a2⟩:=h.cut h2
 have:=zfs h
 rw [show zc3 z t=zk6 z ((t.h*t.w - 1)+1) t by unfold zc3; rw [← this]]
 simp only[zk6,h1,h2,qF,if_false]
 unfold zc3
 rw [zkm (z:=z) _ i1 (qR _) (f:=t.h*t.w - 1) (g:=(t.one q).h*(t.one q).w) (by omega) (qR _),zkm (z:=z) _ i2 (qR _) (f:=t.h*t.w - 1) (g:=(t.two q).h*(t.two q).w) (by omega) (qR _)]
theorem znj:∀ (n:Nat) {t:Pt},t.In H W→t.h*t.w≤n→(zc3 z t).isSome=(zc7 z t).isNone
 | 0,t,hi,hn=>by have:=Nat.mul_pos hi.1 hi.2.1; omega
 | n+1,t,hi,hn=>by
  cases h1:zl4 z t with
  | true=>rw [ziw hi h1,zj1 hi h1]; rfl
  | false =>
   cases hc:zcv z t with
   | none=>rw [zhc hi h1 hc,zix hi h1 hc]; rfl
   | some q =>
    obtain ⟨i1,i2,a1,a2⟩:=hi.cut hc
    have b1:=znj n i1 (by omega)
    have b2:=znj n i2 (by omega)
    rw [zeb hi h1 hc,zhf hi h1 hc]
    cases h3:zc3 z (t.one q) with
    | some s =>
     rw [h3]at b1
     cases h4:zc7 z (t.one q) with
     | none=>rfl
     | some x=>rw [h4]at b1; cases b1
    | none =>
     rw [h3]at b1
     cases h4:zc7 z (t.one q) with
     | none=>rw [h4]at b1; cases b1
     | some x =>
      simp only
      rw [b2]
      cases zc7 z (t.two q) <;> rfl
theorem zlq (hz:z8s z H W):∀ (n:Nat) {t s:Pt},Whole z H W t→t.h*t.w≤n→zc3 z t=some s→Whole z H W s∧zl4 z s=false
 | 0,t,s,hw,hn,_=>by have:=Nat.mul_pos hw.inn.1 hw.inn.2.1; omega
 | n+1,t,s,hw,hn,hs=>by
  cases h1:zl4 z t with
  | true=>rw [ziw hw.inn h1]at hs; cases hs
  | false =>
   cases hc:zcv z t with
   | none=>rw [zhc hw.inn h1 hc]at hs; cases hs; exact ⟨hw,h1⟩
   | some q =>
    obtain ⟨i1,i2,a1,a2⟩:=hw.inn.cut hc
    obtain ⟨w1,w2⟩:=hw.cut hz hc
    rw [zeb hw.inn h1 hc]at hs
    cases h3:zc3 z (t.one q) with
    | some s'=>rw [h3]at hs; cases hs; exact zlq hz n w1 (by omega) h3
    | none=>rw [h3]at hs; exact zlq hz n w2 (by omega) hs
end
def ybv (p:List Txt):Option Pt→PV
 | some s => .tup [zd0 (gP p) (rP p) s.rect,.bool true]
 | none => .tup [.agg [.nilp,.int .i64 0,.int .i64 0,.int .i64 0,.int .i64 0],.bool false]
def ztu (l:List Int):Txt:=l.map fun k=>UInt8.ofNat (97+k.toNat)
theorem zi1 {l:List Int}:(ztu l).length=l.length:=by simp [ztu]
theorem zq3 {l:List Int} {i:Nat} {x:Int} (h:l[i]?=some x):ztu (l.take (i+1))=ztu (l.take i)++[UInt8.ofNat (97+x.toNat)]:=by rw [tk h]; simp [ztu]
theorem ye3 {x:Int} (h0:0≤x) (h1:x<100):IntKind.u8.wrap (97+x)=(((UInt8.ofNat (97+x.toNat)).toNat:Nat):Int):=by
 rw [UInt8.toNat_ofNat_of_lt' (by show 97+x.toNat<256; omega)]
 simp [IntKind.wrap,IntKind.bits,IntKind.signed]
 omega
theorem z8v {p:List Txt} (hp:zaz p=true) {t:Pt} (hw:Whole (zah p) p.length (zal p).length t):PC Tryz.prog 131 [zd0 (gP p) (rP p) t.rect] (.bool (zl4 (zah p) t)) true:=by
 obtain ⟨hn9,hfit⟩:=zcw hp
 have hL:=zu9 (gP p) (by omega) hfit (zpn hp hw.inn)
 simp only[zd0,Pt.rect,Rect.cells]at hL ⊢
 refine PC.of ⟨Tryz.func131,by kernel_rfl,rfl,by kernel_rfl⟩ zao mixed (by show 1≤Tryz.f131.ntmps; decide) ?_
 refine W.r fun K hK=>?_
 simp(disch:=omega)only[↓RU,RV,RH,↓reduceIte,qE,reduceCtorEq,if_pos,↓RS,RG,qA,qM,qL,ty6,za5,zap,zaa,za6,zaq]
 apply hK;clear hK K
 refine W.r fun K hK=>?_
 cases h1:zl4 (zah p) t
 ·skip
  have hmore:=zvp hp hw h1
  simp only[Pt.rect]at hmore
  have hd:(((rms (rP p) ⟨t.r,t.c,t.h,t.w⟩).length:Int) == 1)=false:=by rw [beq_eq_false_iff_ne]; omega
  simp(disch:=omega)only[↓RU,RV,RH,↓reduceIte,qE,reduceCtorEq,if_pos,qN,w64,↓RS,RG,qA,qM,qL,zae,ty6,za5,zap,zaa,za6,zaq,hd]
  refine zac.pc (hL) rfl (.inl rfl) ?_
  simp(disch:=omega)only[↓RU,RV,RH,↓reduceIte,qE,reduceCtorEq,if_pos,qN,w64,↓RS,RG,qA,qM,qL,zae,ty6,za5,zap,zaa,za6,zaq,hd]
  apply hK;clear hK K
  refine W.ret ?_
  refine Br rfl ?_
  rw [h1]
  rfl
 skip
 have hone:=z7j hp hw h1
 simp only[Pt.rect]at hone
 rw [hone]at hL
 have hd:((1:Int) == 1)=true:=rfl
 simp(disch:=omega)only[↓RU,RV,RH,↓reduceIte,qE,reduceCtorEq,if_pos,qN,w64,↓RS,RG,qA,qM,qL,zae,ty6,za5,zap,zaa,za6,zaq,hd]
 refine zac.pc (hL) rfl (.inl rfl) ?_
 simp(disch:=omega)only[↓RU,RV,RH,↓reduceIte,qE,reduceCtorEq,if_pos,qN,w64,↓RS,RG,qA,qM,qL,zae,ty6,za5,zap,zaa,za6,zaq,hd]
 apply hK;clear hK K
 refine W.ret ?_
 refine Br rfl ?_
 rw [h1]
 rfl
theorem yae {p:List Txt} (hp:zaz p=true) {t:Pt} (hw:Whole (zah p) p.length (zal p).length t) (ih:∀ t':Pt,Whole (zah p) p.length (zal p).length t'→t'.h*t'.w<t.h*t.w→PC Tryz.prog 27 [zd0 (gP p) (rP p) t'.rect] (ybv p (zc3 (zah p) t')) false):PC Tryz.prog 27 [zd0 (gP p) (rP p) t.rect] (ybv p (zc3 (zah p) t)) false:=by
 have hAl:=z8v hp hw
 simp only[zd0,Pt.rect,Rect.cells]at hAl
 change PC _ _ [.agg [zaw (gP p) (rP p),.int .i64 t.r,.int .i64 t.c,.int .i64 t.h,.int .i64 t.w]] _ _
 refine PC.of ⟨Tryz.func27,by kernel_rfl,rfl,by kernel_rfl⟩ zao mixed (by show 1≤Tryz.f27.ntmps; decide) ?_
 refine W.r fun K hK=>?_
 simp(disch:=omega)only[↓RU,RV,RH,↓reduceIte,qE,reduceCtorEq,if_pos,↓RS,RG,qA,qM,qL,ty6,za5,zap,zaa,za6,zaq]
 apply hK;clear hK K
 refine W.seq ?_
 refine W.r fun K hK=>?_
 cases h1:zl4 (zah p) t
 ·skip
  rw [h1]at hAl
  simp(disch:=omega)only[↓RU,RV,RH,↓reduceIte,qE,reduceCtorEq,if_pos,qN,↓RS,RG,qA,qM,qL,ty6,za5,zap,zaa,za6,zaq]
  refine zac.pc (hAl) rfl (.inl rfl) ?_
  simp(disch:=omega)only[↓RU,RV,RH,↓reduceIte,qE,reduceCtorEq,if_pos,qN,↓RS,RG,qA,qM,qL,ty6,za5,zap,zaa,za6,zaq]
  apply hK;clear hK K
  refine W.cond rfl (fun h0=>?_) (fun h0=>?_)
  ·try simp only[RL]at h0
   exact absurd h0 (by simp)
  try simp only[RL]at h0
  refine W.skip ?_
  refine xn ?_
  refine W.r fun K hK=>?_
  rcases hq:zcv (zah p) t with _ | q
  ·skip
   have hF:PC Tryz.prog 132 [.agg [zaw (gP p) (rP p),.int .i64 t.r,.int .i64 t.c,.int .i64 t.h,.int .i64 t.w]] (.tup [.agg [.bool false,.nilp,.int .i64 0,.int .i64 0,.int .i64 0,.int .i64 0,.nilp,.int .i64 0,.int .i64 0,.int .i64 0,.int .i64 0],.bool false]) false:=by have h:=zou hp hw.inn; simp only[zqm,hq]at h; exact h
   simp(disch:=omega)only[↓RU,RV,RH,↓reduceIte,qE,reduceCtorEq,if_pos,qN,↓RS,RG,qA,qM,qL,ty6,zau,za5,zer,zap,zaa,za6,zes,zaq]
   refine zac.pc (hF) rfl (.inr rfl) ?_
   simp(disch:=omega)only[↓RU,RV,RH,↓reduceIte,qE,reduceCtorEq,if_pos,qN,↓RS,RG,qA,qM,qL,ty6,zau,za5,zer,zap,zaa,za6,zes,zaq]
   apply hK;clear hK K
   refine W.seq ?_
   refine W.r fun K hK=>?_
   simp(disch:=omega)only[↓RU,RV,RH,↓reduceIte,qE,reduceCtorEq,if_pos,↓RS,RG,qA,qM,qL]
   apply hK;clear hK K
   refine W.cond rfl (fun h2=>?_) (fun h2=>?_)
   ·try simp only[RL]at h2
    refine W.r fun K hK=>?_
    simp(disch:=omega)only[↓RU,RV,RH,↓reduceIte,qE,reduceCtorEq,if_pos,↓RS,RG,qA,qM,qL,ty6,za5,zap,zaa,za6,zaq]
    apply hK;clear hK K
    refine W.ret ?_
    refine XThen.ret ?_
    refine Br rfl ?_
    rw [zhc hw.inn h1 hq]
    rfl
   try simp only[RL]at h2
   exact absurd h2 (by simp)
  skip
  have hF:PC Tryz.prog 132 [.agg [zaw (gP p) (rP p),.int .i64 t.r,.int .i64 t.c,.int .i64 t.h,.int .i64 t.w]] (.tup [.agg [.bool q.1,zaw (gP p) (rP p),.int .i64 (t.one q).r,.int .i64 (t.one q).c,.int .i64 (t.one q).h,.int .i64 (t.one q).w,zaw (gP p) (rP p),.int .i64 (t.two q).r,.int .i64 (t.two q).c,.int .i64 (t.two q).h,.int .i64 (t.two q).w],.bool true]) false:=by have h:=zou hp hw.inn; simp only[zqm,hq]at h; exact h
  obtain ⟨i1,i2,a1,a2⟩:=hw.inn.cut hq
  obtain ⟨w1,w2⟩:=hw.cut (zrj hp) hq
  have hI1:=ih (t.one q) w1 a1
  have hI2:=ih (t.two q) w2 a2
  simp only[zd0,Pt.rect,Rect.cells]at hI1 hI2
  simp(disch:=omega)only[↓RU,RV,RH,↓reduceIte,qE,reduceCtorEq,if_pos,qN,↓RS,RG,qA,qM,qL,ty6,zau,za5,zer,zap,zaa,za6,zes,zaq]
  refine zac.pc (hF) rfl (.inr rfl) ?_
  simp(disch:=omega)only[↓RU,RV,RH,↓reduceIte,qE,reduceCtorEq,if_pos,qN,↓RS,RG,qA,qM,qL,ty6,zau,za5,zer,zap,zaa,za6,zes,zaq]
  apply hK;clear hK K
  refine W.seq ?_
  refine W.r fun K hK=>?_
  simp(disch:=omega)only[↓RU,RV,RH,↓reduceIte,qE,reduceCtorEq,if_pos,↓RS,RG,qA,qM,qL]
  apply hK;clear hK K
  refine W.cond rfl (fun h2=>?_) (fun h2=>?_)
  ·try simp only[RL]at h2
   exact absurd h2 (by simp)
  try simp only[RL]at h2
  refine W.skip ?_
  refine xn ?_
  refine W.seq ?_
  refine W.r fun K hK=>?_
  rcases hs1:zc3 (zah p) (t.one q) with _ | s1
  ·skip
   rw [hs1]at hI1
   simp only[ybv]at hI1
   simp(disch:=omega)only[↓RU,RV,RH,↓reduceIte,qE,reduceCtorEq,if_pos,qN,↓RS,RG,qA,qM,qL,ty6,zau,za5,zer,zap,zaa,za6,zes,zaq]
   refine zac.pc (hI1) rfl (.inr rfl) ?_
   simp(disch:=omega)only[↓RU,RV,RH,↓reduceIte,qE,reduceCtorEq,if_pos,qN,↓RS,RG,qA,qM,qL,ty6,zau,za5,zer,zap,zaa,za6,zes,zaq]
   apply hK;clear hK K
   refine W.r fun K hK=>?_
   simp(disch:=omega)only[↓RU,RV,RH,↓reduceIte,qE,reduceCtorEq,if_pos,↓RS,RG,qA,qM,qL]
   apply hK;clear hK K
   refine W.cond rfl (fun h3=>?_) (fun h3=>?_)
   ·try simp only[RL]at h3
    exact absurd h3 (by simp)
   try simp only[RL]at h3
   refine W.skip ?_
   refine xn ?_
   refine W.r fun K hK=>?_
   rcases hs2:zc3 (zah p) (t.two q) with _ | s2
   ·skip
    rw [hs2]at hI2
    simp only[ybv]at hI2
    simp(disch:=omega)only[↓RU,RV,RH,↓reduceIte,qE,reduceCtorEq,if_pos,qN,↓RS,RG,qA,qM,qL,ty6,zau,za5,zer,zap,zaa,za6,zes,zaq]
    refine zac.pc (hI2) rfl (.inr rfl) ?_
    simp(disch:=omega)only[↓RU,RV,RH,↓reduceIte,qE,reduceCtorEq,if_pos,qN,↓RS,RG,qA,qM,qL,ty6,zau,za5,zer,zap,zaa,za6,zes,zaq]
    apply hK;clear hK K
    refine W.ret ?_
    refine Br rfl ?_
    rw [zeb hw.inn h1 hq,hs1,hs2]
    rfl
   skip
   rw [hs2]at hI2
   simp only[ybv,zd0,Pt.rect,Rect.cells]at hI2
   simp(disch:=omega)only[↓RU,RV,RH,↓reduceIte,qE,reduceCtorEq,if_pos,qN,↓RS,RG,qA,qM,qL,ty6,zau,za5,zer,zap,zaa,za6,zes,zaq]
   refine zac.pc (hI2) rfl (.inr rfl) ?_
   simp(disch:=omega)only[↓RU,RV,RH,↓reduceIte,qE,reduceCtorEq,if_pos,qN,↓RS,RG,qA,qM,qL,ty6,zau,za5,zer,zap,zaa,za6,zes,zaq]
   apply hK;clear hK K
   refine W.ret ?_
   refine Br rfl ?_
   rw [zeb hw.inn h1 hq,hs1,hs2]
   rfl
  skip
  rw [hs1]at hI1
  simp only[ybv,zd0,Pt.rect,Rect.cells]at hI1
  simp(disch:=omega)only[↓RU,RV,RH,↓reduceIte,qE,reduceCtorEq,if_pos,qN,↓RS,RG,qA,qM,qL,ty6,zau,za5,zer,zap,zaa,za6,zes,zaq]
  refine zac.pc (hI1) rfl (.inr rfl) ?_
  simp(disch:=omega)only[↓RU,RV,RH,↓reduceIte,qE,reduceCtorEq,if_pos,qN,↓RS,RG,qA,qM,qL,ty6,zau,za5,zer,zap,zaa,za6,zes,zaq]
  apply hK;clear hK K
  refine W.r fun K hK=>?_
  simp(disch:=omega)only[↓RU,RV,RH,↓reduceIte,qE,reduceCtorEq,if_pos,↓RS,RG,qA,qM,qL]
  apply hK;clear hK K
  refine W.cond rfl (fun h3=>?_) (fun h3=>?_)
  ·try simp only[RL]at h3
   refine W.r fun K hK=>?_
   simp(disch:=omega)only[↓RU,RV,RH,↓reduceIte,qE,reduceCtorEq,if_pos,↓RS,RG,qA,qM,qL,ty6,za5,zap,zaa,za6,zaq]
   apply hK;clear hK K
   refine W.ret ?_
   refine XThen.ret ?_
   refine Br rfl ?_
   rw [zeb hw.inn h1 hq,hs1]
   rfl
  try simp only[RL]at h3
  exact absurd h3 (by simp)
 skip
 rw [h1]at hAl
 simp(disch:=omega)only[↓RU,RV,RH,↓reduceIte,qE,reduceCtorEq,if_pos,qN,↓RS,RG,qA,qM,qL,ty6,za5,zap,zaa,za6,zaq]
 refine zac.pc (hAl) rfl (.inl rfl) ?_
 simp(disch:=omega)only[↓RU,RV,RH,↓reduceIte,qE,reduceCtorEq,if_pos,qN,↓RS,RG,qA,qM,qL,ty6,za5,zap,zaa,za6,zaq]
 apply hK;clear hK K
 refine W.cond rfl (fun h0=>?_) (fun h0=>?_)
 ·try simp only[RL]at h0
  refine W.r fun K hK=>?_
  simp(disch:=omega)only[↓RU,RV,RH,↓reduceIte,qE,reduceCtorEq,if_pos,↓RS,RG,qA,qM,qL,ty6,za5,zap,zaa,za6,zaq]
  apply hK;clear hK K
  refine W.ret ?_
  refine XThen.ret ?_
  refine Br rfl ?_
  rw [ziw hw.inn h1]
  rfl
 try simp only[RL]at h0
 exact absurd h0 (by simp)
theorem z2y {p:List Txt} (hp:zaz p=true):∀ (n:Nat) {t:Pt},t.h*t.w≤n→Whole (zah p) p.length (zal p).length t→PC Tryz.prog 27 [zd0 (gP p) (rP p) t.rect] (ybv p (zc3 (zah p) t)) false
 | 0,t,hn,hw=>by have:=Nat.mul_pos hw.inn.1 hw.inn.2.1; omega
 | n+1,t,hn,hw=>yae hp hw fun t' hw' ha=>z2y hp n (by omega) hw'
theorem zv8 {vb t:Nat} (x:UInt8):Ev Tryz.prog 133 [.ref 0 vb 0,eB x] ⟨[.arr vb 56 2 [.nilp,.nils]],t⟩ fun v S=>v = .undef∧∃ vq t2:Nat,S=⟨[.arr vb 56 2 [.ref 0 vb 0,.loc 1 vq 0 ([x]).length],.arr vq 5 1 (([x]).map eB)],t2⟩:=by
 refine Ev.of ⟨Tryz.func133,by kernel_rfl,rfl,by kernel_rfl⟩ zao mixed (by show 2≤Tryz.f133.ntmps; decide) ?_
 refine W.r fun K hK=>?_
 simp(disch:=omega)only[↓RU,RV,RH,↓reduceIte,qE,reduceCtorEq,if_pos,↓RS,RG,qA,qM,qL]
 apply hK;clear hK K
 refine W.r fun K hK=>?_
 simp(disch:=omega)only[↓RU,RV,RH,↓reduceIte,qE,reduceCtorEq,if_pos,qN,↓RS,RG,qA,qM,qL,List.set_cons_succ,List.set_cons_zero]
 refine zac.ev (zd7 (S:=⟨[.arr vb 56 2 [.nilp,.nils]],t⟩) (o:=0) rfl (.inl rfl)) ?_
 rintro _ _ ⟨rfl,rfl⟩
 simp(disch:=omega)only[↓RU,RV,RH,↓reduceIte,qE,reduceCtorEq,if_pos,qN,↓RS,RG,qA,qM,qL,List.set_cons_succ,List.set_cons_zero]
 apply hK;clear hK K
 refine W.joinS [] (fun vs S=>vs=[]∧∃ vq t2:Nat,S=⟨[.arr vb 56 2 [.ref 0 vb 0,.loc 1 vq 0 ([x]).length],.arr vq 5 1 (([x]).map eB)],t2⟩) ?_ ?_
 ·
  refine W.k fun K hK=>?_
  simp(disch:=omega)only[↓RU,RV,RH,↓reduceIte,qE,reduceCtorEq,if_pos,↓RS,RG,qA,qM,qL,ty5,ty7,z8m,z8n,zdw]
  apply hK;clear hK K
  refine xn ?_
  refine ⟨1,[2],[],⟨[.arr vb 56 2 [.ref 0 vb 0,.loc 1 (t+2) 0 ([x]).length],.arr (t+2) 5 1 (([x]).map eB)],(t+3)⟩,?_,?_,rfl,t+2,t+3,rfl⟩
  ·simp [-qU,Env.put,Env.of,zag,zcm,zar,zax,zba,zbb,zcr,zcs,zef,zcq,zbw,zct,zee,zeg,zby,zbx,zbc,zcp,zcu,zed,zbu,zbt,za9,zbv,zco,zih,qS,qP,qC]
  simp [-qU,Env.put,Env.of,zag,zcm,zar,zax,zba,zbb,zcr,zcs,zef,zcq,zbw,zct,zee,zeg,zby,zbx,zbc,zcp,zcu,zed,zbu,zbt,za9,zbv,zco,zih,qS,qP,qC,zz9]
 rintro vs S - ⟨rfl,vq,t2,rfl⟩
 refine W.r fun K hK=>?_
 simp(disch:=omega)only[↓RU,RV,RH,↓reduceIte,qE,reduceCtorEq,if_pos,↓RS,RG,qA,qM,qL]
 apply hK;clear hK K
 refine W.ret ?_
 refine Br rfl ?_
 exact ⟨_,rfl,vq,t2,zat⟩
theorem zv9 {vb vq t:Nat} {l:Txt} (hl:l.length<2147483647) (x:UInt8):Ev Tryz.prog 133 [.ref 0 vb 0,eB x] ⟨[.arr vb 56 2 [.ref 0 vb 0,.loc 1 vq 0 (l).length],.arr vq 5 1 ((l).map eB)],t⟩ fun v S=>v = .undef∧∃ vq t2:Nat,S=⟨[.arr vb 56 2 [.ref 0 vb 0,.loc 1 vq 0 (l++[x]).length],.arr vq 5 1 ((l++[x]).map eB)],t2⟩:=by
 refine Ev.of ⟨Tryz.func133,by kernel_rfl,rfl,by kernel_rfl⟩ zao mixed (by show 2≤Tryz.f133.ntmps; decide) ?_
 refine W.r fun K hK=>?_
 simp(disch:=omega)only[↓RU,RV,RH,↓reduceIte,qE,reduceCtorEq,if_pos,↓RS,RG,qA,qM,qL]
 apply hK;clear hK K
 refine W.r fun K hK=>?_
 simp(disch:=omega)only[↓RU,RV,RH,↓reduceIte,qE,reduceCtorEq,if_pos,qN,↓RS,RG,qA,qM,qL,List.set_cons_succ,List.set_cons_zero]
 refine zac.ev (zd7 (S:=⟨[.arr vb 56 2 [.ref 0 vb 0,.loc 1 vq 0 (l).length],.arr vq 5 1 ((l).map eB)],t⟩) (o:=0) rfl (.inr rfl)) ?_
 rintro _ _ ⟨rfl,rfl⟩
 simp(disch:=omega)only[↓RU,RV,RH,↓reduceIte,qE,reduceCtorEq,if_pos,qN,↓RS,RG,qA,qM,qL,List.set_cons_succ,List.set_cons_zero]
 apply hK;clear hK K
 refine W.r fun K hK=>?_
 simp(disch:=omega)only[↓RU,RV,RH,↓reduceIte,qE,reduceCtorEq,if_pos,↓RS,RG,qA,qM,qL,ty5,ty7,z8m,z8n,zdw]
 apply hK;clear hK K
 refine W.r fun K hK=>?_
 simp(disch:=omega)only[↓RU,RV,RH,↓reduceIte,qE,reduceCtorEq,if_pos,↓RS,RG,qA,qM,qL]
 apply hK;clear hK K
 refine W.ret ?_
 refine Br rfl ?_
 exact ⟨2,rfl,t+1,t+2,by simp [zbl]⟩
def stL (vb:Nat) (l:Txt) (vq t:Nat):Store:=match l with | []=>⟨[.arr vb 56 2 [.nilp,.nils]],t⟩ | l=>⟨[.arr vb 56 2 [.ref 0 vb 0,.loc 1 vq 0 (l).length],.arr vq 5 1 ((l).map eB)],t⟩
theorem yew {vb vq t:Nat} {l:Txt} (h:l≠[]):stL vb l vq t=⟨[.arr vb 56 2 [.ref 0 vb 0,.loc 1 vq 0 (l).length],.arr vq 5 1 ((l).map eB)],t⟩:=by cases l with | nil=>exact absurd rfl h | cons a l=>rfl
theorem zwa {vb vq t:Nat} {l:Txt} (hl:l.length<2147483647) (x:UInt8):Ev Tryz.prog 133 [.ref 0 vb 0,eB x] (stL vb l vq t) fun v S=>v = .undef∧∃ vq2 t2:Nat,S=stL vb (l++[x]) vq2 t2:=by
 cases l with
 | nil=>exact (zv8 x).imp fun v S ⟨h,vq,t2,e⟩=>⟨h,vq,t2,e⟩
 | cons a l=>exact (zv9 hl x).imp fun v S ⟨h,vq,t2,e⟩=>⟨h,vq,t2,e⟩
theorem z3o {l:List Int} (h1:1≤l.length) (h9:l.length≤1000) (hb:∀ x∈l,0≤x∧x<100):PC Tryz.prog 28 [eInts l] (.str (ztu l)) true:=by
 refine PC.of ⟨Tryz.func28,by kernel_rfl,rfl,by kernel_rfl⟩ zao mixed (by show 1≤Tryz.f28.ntmps; decide) ?_
 refine W.r fun K hK=>?_
 simp(disch:=omega)only[↓RU,RV,RH,↓reduceIte,qE,reduceCtorEq,if_pos,↓RS,RG,qA,qM,qL]
 apply hK;clear hK K
 refine W.r fun K hK=>?_
 simp(disch:=omega)only[↓RU,RV,RH,↓reduceIte,qE,reduceCtorEq,if_pos,↓RS,RG,qA,qM,qL,ty5,ty7,z8m,z8n,zdw]
 apply hK;clear hK K
 refine W.seq ?_
 refine W.r fun K hK=>?_
 simp(disch:=omega)only[↓RU,RV,RH,↓reduceIte,qE,reduceCtorEq,if_pos,↓RS,RG,qA,qM,qL,zae,zaa]
 apply hK;clear hK K
 refine W.block ?_
 refine W.loop [3,6,7,8] (fun n vs S=>∃ i vq t:Nat,n=l.length - i∧i≤l.length∧vs=[.ref 0 0 0,eInts l,.int .i64 l.length,.int .i64 i]∧S=stL 0 (ztu (l.take i)) vq t) l.length ?_ ?_
 ·refine ⟨1,0,0,1,rfl,Nat.zero_le _,?_,rfl⟩
  simp [Env.put,Env.of,zag]
 rintro n vs S - ⟨i,vq,t,rfl,h_i,rfl,rfl⟩
 refine W.r fun K hK=>?_
 simp(disch:=omega)only[↓RU,RV,RH,↓reduceIte,qE,reduceCtorEq,if_pos,w64,↓RS,RG,qA,qM,qL,zaa]
 apply hK;clear hK K
 refine W.seq ?_
 refine W.cond rfl (fun h0=>?_) (fun h0=>?_)
 ·try simp only[RL]at h0
  obtain ⟨x,hx,hxm⟩:=zaf (show i<l.length by omega)
  obtain ⟨b1,b2⟩:=hb x hxm
  have hw:=ye3 b1 b2
  have hll:(ztu (l.take i)).length<2147483647:=by rw [zi1,List.length_take]; omega
  refine W.skip ?_
  refine xn ?_
  refine W.seq ?_
  refine W.block ?_
  refine W.r fun K hK=>?_
  simp(disch:=omega)only[↓RU,RV,RH,↓reduceIte,qE,reduceCtorEq,if_pos,↓RS,RG,qA,qM,qL,zae,zaa,hx]
  apply hK;clear hK K
  refine W.k fun K hK=>?_
  simp(disch:=omega)only[↓RU,RV,RH,↓reduceIte,qE,reduceCtorEq,if_pos,w64,w64,qN,↓RS,RG,qA,qM,qL,zaa,zdw,hw]
  refine zac.ev (zwa hll (UInt8.ofNat (97+x.toNat))) ?_
  rintro _ _ ⟨rfl,vq2,t2,rfl⟩
  simp(disch:=omega)only[↓RU,RV,RH,↓reduceIte,qE,reduceCtorEq,if_pos,w64,w64,qN,↓RS,RG,qA,qM,qL,zaa,zdw,hw]
  apply hK;clear hK K
  refine XbN ?_
  refine xn ?_
  refine W.k fun K hK=>?_
  simp(disch:=omega)only[↓RU,RV,RH,↓reduceIte,qE,reduceCtorEq,if_pos,w64,↓RS,RG,qA,qM,qL,zaa]
  apply hK;clear hK K
  refine xn ?_
  refine ⟨l.length - (i+1),by omega,_,i+1,vq2,t2,rfl,by omega,?_,zr0 ?_⟩
  rotate_left
  ·rw [zq3 hx]
  simp [Env.put,Env.of]
 try simp only[RL]at h0
 obtain rfl:i=l.length:=by omega
 rw [List.take_length,yew (by intro e; have:=congrArg List.length e; rw [zi1,List.length_nil]at this; omega)]
 refine W.exit ?_
 refine xe ?_
 refine xe ?_
 refine XBlock.hit ?_
 refine xn ?_
 refine W.r fun K hK=>?_
 simp(disch:=omega)only[↓RU,RV,RH,↓reduceIte,qE,reduceCtorEq,if_pos,qN,↓RS,RG,qA,qM,qL]
 refine zac.ev (zfg (A:=[]) (l:=ztu l) (by intro e; have:=congrArg List.length e; rw [zi1,List.length_nil]at this; omega)) ?_
 rintro _ _ ⟨rfl,rfl⟩
 simp(disch:=omega)only[↓RU,RV,RH,↓reduceIte,qE,reduceCtorEq,if_pos,qN,↓RS,RG,qA,qM,qL]
 apply hK;clear hK K
 refine W.ret ?_
 refine Br rfl ?_
 rfl
def zk5 (p:List Txt):List Int:=match zc3 (zah p) (zej p) with | some s=>rms (rP p) s.rect | none=>[]
def ybj (p:List Txt):Txt:=if zuw p then [99,117,116,32]++zoj p else [115,116,117,99,107,32]++ztu (zk5 p)
theorem zzi {p:List Txt} (hp:zaz p=true):PC Tryz.prog 18 [zd0 (gP p) (rP p) (zej p).rect] (.tup [.str (zoj p),.bool (zuw p)]) true:=by
 have h:=zzh hp
 unfold zoj zuw
 simp only[hp,Bool.true_and]
 cases hx:zc7 (zah p) (zej p) with
 | none=>rw [hx]at h; exact h
 | some x =>
  rw [hx]at h
  have hl:=zll hp (zms hp) hx
  have n9:=(zcw hp).1
  simp only[Option.isSome_some,if_true]
  rw [zv2 _ (znp (zb8 hp)) (qR _) hx fun v hv=>by have:=hl.1 v hv; omega]
  exact h
theorem zp9 {p:List Txt} (hp:zaz p=true):(zoj p).length≤100:=by
 have h1:=(zeq (z:=zah p) _ (znp (zb8 hp)) (qR _)).1
 obtain ⟨g1,g2,g3⟩:=zay (zb8 hp)
 have h2:(zal p).length≤6:=by obtain ⟨row,hr,hm⟩:=zaf g1; rw [zca hr]; exact g3 row hm
 have h3:p.length*(zal p).length≤36:=Nat.mul_le_mul g2 h2
 have h4:(zej p).h*(zej p).w=p.length*(zal p).length:=rfl
 unfold zoj
 split
 ·omega
 simp
theorem zko {p:List Txt} (hp:zaz p=true) (hv:zuw p=false):∃ s,zc3 (zah p) (zej p)=some s∧Whole (zah p) p.length (zal p).length s∧zl4 (zah p) s=false∧zk5 p=rms (rP p) s.rect∧2≤(zk5 p).length∧(zk5 p).length≤9∧∀ x∈zk5 p,0≤x∧x<(rP p).length:=by
 have h1:=znj (z:=zah p) _ (znp (zb8 hp)) (qR _)
 unfold zuw at hv
 rw [hp,Bool.true_and]at hv
 cases hs:zc3 (zah p) (zej p) with
 | none =>
  rw [hs]at h1
  cases ht:zc7 (zah p) (zej p) with
  | none=>rw [ht]at h1; cases h1
  | some x=>rw [ht]at hv; cases hv
 | some s =>
  obtain ⟨w,h1⟩:=zlq (zrj hp) _ (zms hp) (qR _) hs
  have e:zk5 p=rms (rP p) s.rect:=by unfold zk5; rw [hs]
  have h2:=zvp hp w h1
  have h3:∀ x∈rms (rP p) s.rect,0≤x∧x<(rP p).length:=by
   intro x hx
   obtain ⟨a,c,e1,e2,e3,e4,e5⟩:=(zm8 hp w).1 hx
   have hin:=w.inn
   unfold Pt.In at hin
   have:=zje hp (i:=a) (j:=c) (by omega) (by omega)
   omega
  have h4:=zrm (rs:=rP p) (t:=s.rect) (k:=(rP p).length)
  have n9:=(zcw hp).1
  refine ⟨s,rfl,w,h1,e,by rw [e]; exact h2,?_,by rw [e]; exact h3⟩
  rw [e]; unfold rms; omega
theorem zz3 {p:List Txt} (hs:Sm p) (hp:zaz p=false):PC Tryz.prog 13 [zai p] (.tup [.str [],.bool false]) true:=by
 obtain ⟨x,hx,hxy,hxr⟩:=zj8 hs
 rw [zd6]at hx hxy
 refine PC.of ⟨Tryz.func13,by kernel_rfl,rfl,by kernel_rfl⟩ zao mixed (by show 1≤Tryz.f13.ntmps; decide) ?_
 refine W.r fun K hK=>?_
 simp(disch:=omega)only[↓RU,RV,RH,↓reduceIte,qE,reduceCtorEq,if_pos,↓RS,RG,qA,qM,qL]
 apply hK;clear hK K
 refine W.r fun K hK=>?_
 simp(disch:=omega)only[↓RU,RV,RH,↓reduceIte,qE,reduceCtorEq,if_pos,qN,↓RS,RG,qA,qM,qL,hp]
 refine zac.pc (hx) rfl (.inr rfl) ?_
 simp(disch:=omega)only[↓RU,RV,RH,↓reduceIte,qE,reduceCtorEq,if_pos,qN,↓RS,RG,qA,qM,qL,hp]
 apply hK;clear hK K
 refine W.seq ?_
 refine W.r fun K hK=>?_
 simp(disch:=omega)only[↓RU,RV,RH,↓reduceIte,qE,reduceCtorEq,if_pos,↓RS,RG,qA,qM,qL]
 apply hK;clear hK K
 refine W.cond rfl (fun h0=>?_) (fun h0=>?_)
 ·try simp only[RL]at h0
  refine W.r fun K hK=>?_
  simp(disch:=omega)only[↓RU,RV,RH,↓reduceIte,qE,reduceCtorEq,if_pos,↓RS,RG,qA,qM,qL]
  apply hK;clear hK K
  refine W.ret ?_
  refine XThen.ret ?_
  refine Br rfl ?_
  rfl
 try simp only[RL]at h0
 exact absurd h0 (by simp)
theorem zx4 {p:List Txt} (hs:Sm p) (hp:zaz p=true):PC Tryz.prog 13 [zai p] (.tup [.str (ybj p),.bool true]) true:=by
 obtain ⟨x,hx,hxy,hxr⟩:=zj8 hs
 rw [zd6]at hx hxy
 obtain rfl:=hxy hp
 have hT:=zzi hp
 have hl:=zp9 hp
 have n9:=(zcw hp).1
 have k1:([99,117,116,32]:Txt).length=4:=rfl
 have k2:([115,116,117,99,107,32]:Txt).length=6:=rfl
 refine PC.of ⟨Tryz.func13,by kernel_rfl,rfl,by kernel_rfl⟩ zao mixed (by show 1≤Tryz.f13.ntmps; decide) ?_
 refine W.r fun K hK=>?_
 simp(disch:=omega)only[↓RU,RV,RH,↓reduceIte,qE,reduceCtorEq,if_pos,↓RS,RG,qA,qM,qL]
 apply hK;clear hK K
 refine W.r fun K hK=>?_
 simp(disch:=omega)only[↓RU,RV,RH,↓reduceIte,qE,reduceCtorEq,if_pos,qN,↓RS,RG,qA,qM,qL,hp]
 refine zac.pc (hx) rfl (.inr rfl) ?_
 simp(disch:=omega)only[↓RU,RV,RH,↓reduceIte,qE,reduceCtorEq,if_pos,qN,↓RS,RG,qA,qM,qL,hp]
 apply hK;clear hK K
 refine W.seq ?_
 refine W.r fun K hK=>?_
 simp(disch:=omega)only[↓RU,RV,RH,↓reduceIte,qE,reduceCtorEq,if_pos,↓RS,RG,qA,qM,qL]
 apply hK;clear hK K
 refine W.cond rfl (fun h0=>?_) (fun h0=>?_)
 ·try simp only[RL]at h0
  exact absurd h0 (by simp)
 try simp only[RL]at h0
 refine W.skip ?_
 refine xn ?_
 refine W.seq ?_
 refine W.r fun K hK=>?_
 cases hv:zuw p
 ·skip
  rw [hv]at hT
  simp(disch:=omega)only[↓RU,RV,RH,↓reduceIte,qE,reduceCtorEq,if_pos,qN,↓RS,RG,qA,qM,qL]
  refine zac.pc (zr2 hp) rfl (.inr rfl) ?_
  simp(disch:=omega)only[↓RU,RV,RH,↓reduceIte,qE,reduceCtorEq,if_pos,qN,↓RS,RG,qA,qM,qL]
  refine zac.pc (hT) rfl (.inl rfl) ?_
  simp(disch:=omega)only[↓RU,RV,RH,↓reduceIte,qE,reduceCtorEq,if_pos,qN,↓RS,RG,qA,qM,qL]
  apply hK;clear hK K
  refine W.r fun K hK=>?_
  simp(disch:=omega)only[↓RU,RV,RH,↓reduceIte,qE,reduceCtorEq,if_pos,↓RS,RG,qA,qM,qL]
  apply hK;clear hK K
  refine W.cond rfl (fun h1=>?_) (fun h1=>?_)
  ·try simp only[RL]at h1
   exact absurd h1 (by simp)
  try simp only[RL]at h1
  obtain ⟨s,e1,w,e2,e3,e4,e5,e6⟩:=zko hp hv
  have hS:=z2y hp _ (t:=zej p) (qR _) (zms hp)
  rw [e1]at hS
  simp only[ybv,zd0,zej,Pt.rect,Rect.cells]at hS
  have hL:=zu9 (gP p) (by omega) (zcw hp).2 (zpn hp w.inn)
  rw [← e3]at hL
  simp only[zd0,Pt.rect,Rect.cells]at hL
  have hC:=z3o (l:=zk5 p) (by omega) (by omega) (fun x h=>by have:=e6 x h; omega)
  have hcl:=zi1 (l:=zk5 p)
  refine W.skip ?_
  refine xn ?_
  refine W.r fun K hK=>?_
  simp(disch:=omega)only[↓RU,RV,RH,↓reduceIte,qE,reduceCtorEq,if_pos,qN,↓RS,RG,qA,qM,qL,ty6,za5,zap,zaa,za6,zaq]
  refine zac.pc (zr2 hp) rfl (.inr rfl) ?_
  simp(disch:=omega)only[↓RU,RV,RH,↓reduceIte,qE,reduceCtorEq,if_pos,qN,↓RS,RG,qA,qM,qL,ty6,za5,zap,zaa,za6,zaq]
  refine zac.pc (hS) rfl (.inr rfl) ?_
  simp(disch:=omega)only[↓RU,RV,RH,↓reduceIte,qE,reduceCtorEq,if_pos,qN,↓RS,RG,qA,qM,qL,ty6,za5,zap,zaa,za6,zaq]
  apply hK;clear hK K
  refine W.r fun K hK=>?_
  simp(disch:=omega)only[↓RU,RV,RH,↓reduceIte,qE,reduceCtorEq,if_pos,qN,w64,↓RS,RG,qA,qM,qL,ty6,za5,zap,zaa,zab,za6,zaq,zdc,k2]
  refine zac.pc (hL) rfl (.inl rfl) ?_
  simp(disch:=omega)only[↓RU,RV,RH,↓reduceIte,qE,reduceCtorEq,if_pos,qN,w64,↓RS,RG,qA,qM,qL,ty6,za5,zap,zaa,zab,za6,zaq,zdc,k2]
  refine zac.pc (hC) rfl (.inl rfl) ?_
  simp(disch:=omega)only[↓RU,RV,RH,↓reduceIte,qE,reduceCtorEq,if_pos,qN,w64,↓RS,RG,qA,qM,qL,ty6,za5,zap,zaa,zab,za6,zaq,zdc,k2]
  apply hK;clear hK K
  refine W.ret ?_
  refine Br rfl ?_
  rw [ybj,hv]
  rfl
 skip
 rw [hv]at hT
 simp(disch:=omega)only[↓RU,RV,RH,↓reduceIte,qE,reduceCtorEq,if_pos,qN,↓RS,RG,qA,qM,qL]
 refine zac.pc (zr2 hp) rfl (.inr rfl) ?_
 simp(disch:=omega)only[↓RU,RV,RH,↓reduceIte,qE,reduceCtorEq,if_pos,qN,↓RS,RG,qA,qM,qL]
 refine zac.pc (hT) rfl (.inl rfl) ?_
 simp(disch:=omega)only[↓RU,RV,RH,↓reduceIte,qE,reduceCtorEq,if_pos,qN,↓RS,RG,qA,qM,qL]
 apply hK;clear hK K
 refine W.r fun K hK=>?_
 simp(disch:=omega)only[↓RU,RV,RH,↓reduceIte,qE,reduceCtorEq,if_pos,↓RS,RG,qA,qM,qL]
 apply hK;clear hK K
 refine W.cond rfl (fun h1=>?_) (fun h1=>?_)
 ·try simp only[RL]at h1
  refine W.r fun K hK=>?_
  simp(disch:=omega)only[↓RU,RV,RH,↓reduceIte,qE,reduceCtorEq,if_pos,w64,↓RS,RG,qA,qM,qL,zab,zdc,k1]
  apply hK;clear hK K
  refine W.ret ?_
  refine XThen.ret ?_
  refine Br rfl ?_
  rw [ybj,hv]
  rfl
 try simp only[RL]at h1
 exact absurd h1 (by simp)
end
def ybu (p:List Txt):Option Pt→List Txt
 | some s=>sub p s
 | none=>[]
theorem zkn {z:Nat→Nat→Int} {H W:Nat}:∀ (n:Nat) {t s:Pt},t.In H W→t.h*t.w≤n→zc3 z t=some s→s.In H W
 | 0,t,s,hi,hn,_=>by have:=Nat.mul_pos hi.1 hi.2.1; omega
 | n+1,t,s,hi,hn,hs=>by
  cases h1:zl4 z t with
  | true=>rw [ziw hi h1]at hs; cases hs
  | false =>
   cases hc:zcv z t with
   | none=>rw [zhc hi h1 hc]at hs; cases hs; exact hi
   | some q =>
    obtain ⟨i1,i2,a1,a2⟩:=hi.cut hc
    rw [zeb hi h1 hc]at hs
    cases h3:zc3 z (t.one q) with
    | some s'=>rw [h3]at hs; cases hs; exact zkn n i1 (by omega) h3
    | none=>rw [h3]at hs; exact zkn n i2 (by omega) hs
theorem z7s {n:Nat} {f:Nat→Nat}:0<sN n f↔∃ i,i<n∧0<f i:=by
 induction n with
 | zero=>simp [sN]
 | succ n ih =>
  unfold sN
  constructor
  ·intro h
   by_cases h1:0<sN n f
   ·obtain ⟨i,h2,h3⟩:=ih.1 h1; exact ⟨i,by omega,h3⟩
   exact ⟨n,by omega,by omega⟩
  rintro ⟨i,h2,h3⟩
  by_cases h1:i=n
  ·subst h1; omega
  have:=ih.2 ⟨i,by omega,h3⟩; omega
theorem z80 {p:List Txt} (hp:zaz p=true) {s:Pt} (hw:Whole (zah p) p.length (zal p).length s) {i:Nat} {b:Rect} (hb:(rP p)[i]?=some b):0<zdx (sub p s) i↔s.rect.both b=s.rect:=by
 have hg:=zb8 hp
 have hin:=hw.inn
 have hg2:=zpy hg hin
 have hl2:=zhe hin
 have hh2:=zry hg hin
 have hW:∀ row∈sub p s,row.length=s.w:=fun row hr=>by rw [zjm hg2 row hr,hh2]
 rw [ztr hW]
 have key:s.rect.both b=s.rect↔(i:Int)∈rms (rP p) s.rect:=by
  unfold rms zdm
  rw [List.mem_map]
  constructor
  ·intro h
   exact ⟨i,List.mem_filter.2 ⟨List.mem_range.2 (zc1 hb),by simp [ydr,hb,h]⟩,rfl⟩
  rintro ⟨j,hj,e⟩
  have:j=i:=by omega
  subst this
  have:=(List.mem_filter.1 hj).2
  simpa [ydr,hb] using this
 rw [key,zm8 hp hw]
 have h1:(0:Int)<((cnt (sub p s).length s.w (inZ (sub p s) i):Nat):Int)↔0<cnt (sub p s).length s.w (inZ (sub p s) i):=by omega
 rw [h1,hl2]
 unfold cnt
 rw [z7s]
 constructor
 ·rintro ⟨a,ha,h⟩
  obtain ⟨c,hc,h⟩:=z7s.1 h
  refine ⟨s.r+a,s.c+c,by omega,by omega,by omega,by omega,?_⟩
  rw [← zi3 hg hin ha hc]
  unfold inZ b1 at h
  by_cases e:zah (sub p s) a c=i
  ·exact e
  rw [decide_eq_false e]at h; simp at h
 rintro ⟨a,c,h1,h2,h3,h4,h5⟩
 refine ⟨a - s.r,by omega,z7s.2 ⟨c - s.c,by omega,?_⟩⟩
 have:=zi3 hg hin (i:=a - s.r) (j:=c - s.c) (by omega) (by omega)
 rw [show s.r+(a - s.r)=a by omega,show s.c+(c - s.c)=c by omega,h5]at this
 unfold inZ b1
 rw [decide_eq_true this]; simp
theorem z3m {p:List Txt} (hg:zb3 p=true) {t:Pt} (hi:t.In p.length (zal p).length) (ih:∀ t':Pt,t'.In p.length (zal p).length→t'.h*t'.w<t.h*t.w→PC Tryz.prog 135 [zai (sub p t')] (zai (ybu p (zc3 (zah p) t'))) false):PC Tryz.prog 135 [zai (sub p t)] (zai (ybu p (zc3 (zah p) t))) false:=by
 have hg2:=zpy hg hi
 have hs2:=Sm.grid hg2
 have hl2:=zhe hi
 have hh2:=zry hg hi
 have hib:=hi
 unfold Pt.In at hib
 obtain ⟨row0,hrow0,hq0,hl0,-⟩:=zjy hg hi (i:=0) hi.1
 obtain ⟨c0,hc0,hlet⟩:=zka hg hrow0 (k:=t.c+0) (by omega)
 have hqc:=(zhd (row:=row0) (t:=t) hib.2.1).trans hc0
 have hz0:zah p t.r t.c=(c0.toNat:Int) - 97:=zcx (by simpa using hrow0) (by simpa using hc0)
 simp only[zcb,qB,decide_eq_true_eq]at hlet
 have hcq:=z09 hg hi
 refine PC.of ⟨Tryz.func135,by kernel_rfl,rfl,by kernel_rfl⟩ zao mixed (by show 1≤Tryz.f135.ntmps; decide) ?_
 refine W.r fun K hK=>?_
 simp(disch:=omega)only[↓RU,RV,RH,↓reduceIte,qE,reduceCtorEq,if_pos,↓RS,RG,qA,qM,qL]
 apply hK;clear hK K
 refine W.seq ?_
 refine W.r fun K hK=>?_
 simp(disch:=omega)only[↓RU,RV,RH,↓reduceIte,qE,reduceCtorEq,if_pos,qN,↓RS,RG,qA,qM,qL]
 refine zac.pc (z1r hs2 hg2) rfl (.inl rfl) ?_
 simp(disch:=omega)only[↓RU,RV,RH,↓reduceIte,qE,reduceCtorEq,if_pos,qN,↓RS,RG,qA,qM,qL]
 apply hK;clear hK K
 refine W.cond rfl (fun h0=>?_) (fun h0=>?_)
 ·skip
  have h0:z8k (sub p t)=true:=h0
  rw [zpj hg hi]at h0
  refine W.r fun K hK=>?_
  simp(disch:=omega)only[↓RU,RV,RH,↓reduceIte,qE,reduceCtorEq,if_pos,↓RS,RG,qA,qM,qL,ty4,zab]
  apply hK;clear hK K
  refine W.ret ?_
  refine XThen.ret ?_
  refine Br rfl ?_
  rw [ziw hi h0]
  rfl
 skip
 have h0:z8k (sub p t)=false:=h0
 rw [zpj hg hi]at h0
 refine W.skip ?_
 refine xn ?_
 refine W.r fun K hK=>?_
 rcases hq:zcv (zah p) t with _ | ⟨_ | _,k⟩
 ·skip
  rw [hq]at hcq
  simp only at hcq
  simp(disch:=omega)only[↓RU,RV,RH,↓reduceIte,qE,reduceCtorEq,if_pos,qN,↓RS,RG,qA,qM,qL,hcq]
  refine zac.pc (zkc hs2 hg2) rfl (.inl rfl) ?_
  simp(disch:=omega)only[↓RU,RV,RH,↓reduceIte,qE,reduceCtorEq,if_pos,qN,↓RS,RG,qA,qM,qL,hcq]
  apply hK;clear hK K
  refine W.seq ?_
  refine W.r fun K hK=>?_
  simp(disch:=omega)only[↓RU,RV,RH,↓reduceIte,qE,reduceCtorEq,if_pos,w64,↓RS,RG,qA,qM,qL,zaa]
  apply hK;clear hK K
  refine W.cond rfl (fun h1=>?_) (fun h1=>?_)
  ·try simp only[RL]at h1
   refine W.r fun K hK=>?_
   simp(disch:=omega)only[↓RU,RV,RH,↓reduceIte,qE,reduceCtorEq,if_pos,↓RS,RG,qA,qM,qL]
   apply hK;clear hK K
   refine W.ret ?_
   refine XThen.ret ?_
   refine Br rfl ?_
   rw [zhc hi h0 hq]
   rfl
  try simp only[RL]at h1
  exact absurd h1 (by simp)
 ·skip
  rw [hq]at hcq
  simp only[qF,if_false]at hcq
  obtain ⟨i1,i2,a1,a2⟩:=hi.cut hq
  have hck:=zd8 hq
  simp only[qF,if_false]at hck
  simp(disch:=omega)only[↓RU,RV,RH,↓reduceIte,qE,reduceCtorEq,if_pos,qN,↓RS,RG,qA,qM,qL,hcq]
  refine zac.pc (zkc hs2 hg2) rfl (.inl rfl) ?_
  simp(disch:=omega)only[↓RU,RV,RH,↓reduceIte,qE,reduceCtorEq,if_pos,qN,↓RS,RG,qA,qM,qL,hcq]
  apply hK;clear hK K
  refine W.seq ?_
  refine W.r fun K hK=>?_
  simp(disch:=omega)only[↓RU,RV,RH,↓reduceIte,qE,reduceCtorEq,if_pos,w64,↓RS,RG,qA,qM,qL,zaa]
  apply hK;clear hK K
  refine W.cond rfl (fun h1=>?_) (fun h1=>?_)
  ·try simp only[RL]at h1
   exact absurd h1 (by simp; omega)
  try simp only[RL]at h1
  refine W.skip ?_
  refine xn ?_
  refine W.r fun K hK=>?_
  have hP:=zq1 hs2 hg2 (k:=k) (by rw [hh2]; omega)
  rw [zvz (q:=(false,k)) (by simp; omega),zv0 (q:=(false,k)) (by simp; omega)]at hP
  simp(disch:=omega)only[↓RU,RV,RH,↓reduceIte,qE,reduceCtorEq,if_pos,qN,↓RS,RG,qA,qM,qL]
  refine zac.pc (hP) rfl (.inl rfl) ?_
  simp(disch:=omega)only[↓RU,RV,RH,↓reduceIte,qE,reduceCtorEq,if_pos,qN,↓RS,RG,qA,qM,qL]
  apply hK;clear hK K
  have hI1:=ih (t.one (false,k)) i1 a1
  have hI2:=ih (t.two (false,k)) i2 a2
  have hct:=zeb hi h0 hq
  refine W.r fun K hK=>?_
  rcases hs1:zc3 (zah p) (t.one (false,k)) with _ | s1
  ·skip
   rw [hs1]at hI1 hct
   simp only[ybu]at hI1
   simp(disch:=omega)only[↓RU,RV,RH,↓reduceIte,qE,reduceCtorEq,if_pos,qN,↓RS,RG,qA,qM,qL]
   refine zac.pc (hI1) rfl (.inr rfl) ?_
   simp(disch:=omega)only[↓RU,RV,RH,↓reduceIte,qE,reduceCtorEq,if_pos,qN,↓RS,RG,qA,qM,qL]
   apply hK;clear hK K
   refine W.seq ?_
   refine W.r fun K hK=>?_
   simp(disch:=omega)only[↓RU,RV,RH,↓reduceIte,qE,reduceCtorEq,if_pos,w64,↓RS,RG,qA,qM,qL,ty4,zaa,zab]
   apply hK;clear hK K
   refine W.cond rfl (fun h3=>?_) (fun h3=>?_)
   ·try simp only[RL]at h3
    exact absurd h3 (by simp)
   try simp only[RL]at h3
   refine W.skip ?_
   refine xn ?_
   refine W.r fun K hK=>?_
   simp(disch:=omega)only[↓RU,RV,RH,↓reduceIte,qE,reduceCtorEq,if_pos,qN,↓RS,RG,qA,qM,qL]
   refine zac.pc (hI2) rfl (.inr rfl) ?_
   simp(disch:=omega)only[↓RU,RV,RH,↓reduceIte,qE,reduceCtorEq,if_pos,qN,↓RS,RG,qA,qM,qL]
   apply hK;clear hK K
   refine W.ret ?_
   refine Br rfl ?_
   rw [hct]
   rfl
  skip
  rw [hs1]at hI1 hct
  simp only[ybu]at hI1
  have hs1l:0<(sub p s1).length:=by rw [zhe (zkn _ i1 (qR _) hs1)]; exact (zkn _ i1 (qR _) hs1).1
  simp(disch:=omega)only[↓RU,RV,RH,↓reduceIte,qE,reduceCtorEq,if_pos,qN,↓RS,RG,qA,qM,qL]
  refine zac.pc (hI1) rfl (.inr rfl) ?_
  simp(disch:=omega)only[↓RU,RV,RH,↓reduceIte,qE,reduceCtorEq,if_pos,qN,↓RS,RG,qA,qM,qL]
  apply hK;clear hK K
  refine W.seq ?_
  refine W.r fun K hK=>?_
  simp(disch:=omega)only[↓RU,RV,RH,↓reduceIte,qE,reduceCtorEq,if_pos,w64,↓RS,RG,qA,qM,qL,ty4,zaa,zab]
  apply hK;clear hK K
  refine W.cond rfl (fun h3=>?_) (fun h3=>?_)
  ·try simp only[RL]at h3
   refine W.r fun K hK=>?_
   simp(disch:=omega)only[↓RU,RV,RH,↓reduceIte,qE,reduceCtorEq,if_pos,↓RS,RG,qA,qM,qL]
   apply hK;clear hK K
   refine W.ret ?_
   refine XThen.ret ?_
   refine Br rfl ?_
   rw [hct]
   rfl
  try simp only[RL]at h3
  exfalso; omega
 skip
 rw [hq]at hcq
 simp only[if_true]at hcq
 obtain ⟨i1,i2,a1,a2⟩:=hi.cut hq
 have hck:=zd8 hq
 simp only[if_true]at hck
 simp(disch:=omega)only[↓RU,RV,RH,↓reduceIte,qE,reduceCtorEq,if_pos,qN,↓RS,RG,qA,qM,qL,hcq]
 refine zac.pc (zkc hs2 hg2) rfl (.inl rfl) ?_
 simp(disch:=omega)only[↓RU,RV,RH,↓reduceIte,qE,reduceCtorEq,if_pos,qN,↓RS,RG,qA,qM,qL,hcq]
 apply hK;clear hK K
 refine W.seq ?_
 refine W.r fun K hK=>?_
 simp(disch:=omega)only[↓RU,RV,RH,↓reduceIte,qE,reduceCtorEq,if_pos,w64,↓RS,RG,qA,qM,qL,zaa]
 apply hK;clear hK K
 refine W.cond rfl (fun h1=>?_) (fun h1=>?_)
 ·try simp only[RL]at h1
  exact absurd h1 (by simp; omega)
 try simp only[RL]at h1
 refine W.skip ?_
 refine xn ?_
 refine W.r fun K hK=>?_
 have hP:=zq0 hs2 hg2 (k:=k) (by rw [hl2]; omega)
 rw [zvz (q:=(true,k)) (by simp; omega),zv0 (q:=(true,k)) (by simp; omega)]at hP
 simp(disch:=omega)only[↓RU,RV,RH,↓reduceIte,qE,reduceCtorEq,if_pos,qN,↓RS,RG,qA,qM,qL]
 refine zac.pc (hP) rfl (.inl rfl) ?_
 simp(disch:=omega)only[↓RU,RV,RH,↓reduceIte,qE,reduceCtorEq,if_pos,qN,↓RS,RG,qA,qM,qL]
 apply hK;clear hK K
 have hI1:=ih (t.one (true,k)) i1 a1
 have hI2:=ih (t.two (true,k)) i2 a2
 have hct:=zeb hi h0 hq
 refine W.r fun K hK=>?_
 rcases hs1:zc3 (zah p) (t.one (true,k)) with _ | s1
 ·skip
  rw [hs1]at hI1 hct
  simp only[ybu]at hI1
  simp(disch:=omega)only[↓RU,RV,RH,↓reduceIte,qE,reduceCtorEq,if_pos,qN,↓RS,RG,qA,qM,qL]
  refine zac.pc (hI1) rfl (.inr rfl) ?_
  simp(disch:=omega)only[↓RU,RV,RH,↓reduceIte,qE,reduceCtorEq,if_pos,qN,↓RS,RG,qA,qM,qL]
  apply hK;clear hK K
  refine W.seq ?_
  refine W.r fun K hK=>?_
  simp(disch:=omega)only[↓RU,RV,RH,↓reduceIte,qE,reduceCtorEq,if_pos,w64,↓RS,RG,qA,qM,qL,ty4,zaa,zab]
  apply hK;clear hK K
  refine W.cond rfl (fun h3=>?_) (fun h3=>?_)
  ·try simp only[RL]at h3
   exact absurd h3 (by simp)
  try simp only[RL]at h3
  refine W.skip ?_
  refine xn ?_
  refine W.r fun K hK=>?_
  simp(disch:=omega)only[↓RU,RV,RH,↓reduceIte,qE,reduceCtorEq,if_pos,qN,↓RS,RG,qA,qM,qL]
  refine zac.pc (hI2) rfl (.inr rfl) ?_
  simp(disch:=omega)only[↓RU,RV,RH,↓reduceIte,qE,reduceCtorEq,if_pos,qN,↓RS,RG,qA,qM,qL]
  apply hK;clear hK K
  refine W.ret ?_
  refine Br rfl ?_
  rw [hct]
  rfl
 skip
 rw [hs1]at hI1 hct
 simp only[ybu]at hI1
 have hs1l:0<(sub p s1).length:=by rw [zhe (zkn _ i1 (qR _) hs1)]; exact (zkn _ i1 (qR _) hs1).1
 simp(disch:=omega)only[↓RU,RV,RH,↓reduceIte,qE,reduceCtorEq,if_pos,qN,↓RS,RG,qA,qM,qL]
 refine zac.pc (hI1) rfl (.inr rfl) ?_
 simp(disch:=omega)only[↓RU,RV,RH,↓reduceIte,qE,reduceCtorEq,if_pos,qN,↓RS,RG,qA,qM,qL]
 apply hK;clear hK K
 refine W.seq ?_
 refine W.r fun K hK=>?_
 simp(disch:=omega)only[↓RU,RV,RH,↓reduceIte,qE,reduceCtorEq,if_pos,w64,↓RS,RG,qA,qM,qL,ty4,zaa,zab]
 apply hK;clear hK K
 refine W.cond rfl (fun h3=>?_) (fun h3=>?_)
 ·try simp only[RL]at h3
  refine W.r fun K hK=>?_
  simp(disch:=omega)only[↓RU,RV,RH,↓reduceIte,qE,reduceCtorEq,if_pos,↓RS,RG,qA,qM,qL]
  apply hK;clear hK K
  refine W.ret ?_
  refine XThen.ret ?_
  refine Br rfl ?_
  rw [hct]
  rfl
 try simp only[RL]at h3
 exfalso; omega
theorem zts {p:List Txt} (hg:zb3 p=true):∀ (n:Nat) {t:Pt},t.h*t.w≤n→t.In p.length (zal p).length→PC Tryz.prog 135 [zai (sub p t)] (zai (ybu p (zc3 (zah p) t))) false
 | 0,t,hn,hi=>by have:=Nat.mul_pos hi.1 hi.2.1; omega
 | n+1,t,hn,hi=>z3m hg hi fun t' hi' ha=>zts hg n (by omega) hi'
theorem z7e {S:Store} {im:Bool} {k:Nat} {a b a2 b2:PV} (h1:reify S im k a=some a2) (h2:reify S im k b=some b2):reify S im (k+1) (.tup [a,b])=some (.tup [a2,b2]):=by
 simp [reify,h1,h2]
theorem z3p {S:Store} {im:Bool} {k:Nat} (l:List Int):(l.map (PV.int .i64)).mapM (reify S im (k+1))=some (l.map (PV.int .i64)):=zb6 fun x hx=>by obtain ⟨a,_,rfl⟩:=List.mem_map.1 hx; rfl
theorem zyl {p:List Txt} (hs:Sm p) (hp:zaz p=true) (hv:zuw p=false):PC Tryz.prog 30 [zai p] (.tup [eInts (zk5 p),.bool true]) true:=by
 have hg:=zb8 hp
 obtain ⟨s,e1,w,e2,e3,e4,e5,e6⟩:=zko hp hv
 have hin:=w.inn
 have hN:=zdi hp
 have hR:=hN.rooms
 have n9:=(zcw hp).1
 have hS:=zts hg _ (t:=zej p) (qR _) (znp hg)
 rw [z0m hg,e1]at hS
 simp only[ybu]at hS
 have hg2:=zpy hg hin
 have hs2:=Sm.grid hg2
 have hl2:=zhe hin
 have hsm:=zay hg2
 have hpos:0<s.h:=hin.1
 refine PC.of ⟨Tryz.func30,by kernel_rfl,rfl,by kernel_rfl⟩ zao mixed (by show 1≤Tryz.f30.ntmps; decide) ?_
 refine W.r fun K hK=>?_
 simp(disch:=omega)only[↓RU,RV,RH,↓reduceIte,qE,reduceCtorEq,if_pos,↓RS,RG,qA,qM,qL]
 apply hK;clear hK K
 refine W.r fun K hK=>?_
 simp(disch:=omega)only[↓RU,RV,RH,↓reduceIte,qE,reduceCtorEq,if_pos,↓RS,RG,qA,qM,qL,zae,zaa]
 apply hK;clear hK K
 refine W.seq ?_
 refine W.r fun K hK=>?_
 simp(disch:=omega)only[↓RU,RV,RH,↓reduceIte,qE,reduceCtorEq,if_pos,qN,↓RS,RG,qA,qM,qL,hp]
 refine zac.pc (zea hs) rfl (.inl rfl) ?_
 simp(disch:=omega)only[↓RU,RV,RH,↓reduceIte,qE,reduceCtorEq,if_pos,qN,↓RS,RG,qA,qM,qL,hp]
 apply hK;clear hK K
 refine W.cond rfl (fun h0=>?_) (fun h0=>?_)
 ·try simp only[RL]at h0
  exact absurd h0 (by simp)
 try simp only[RL]at h0
 refine W.skip ?_
 refine xn ?_
 refine W.r fun K hK=>?_
 simp(disch:=omega)only[↓RU,RV,RH,↓reduceIte,qE,reduceCtorEq,if_pos,qN,↓RS,RG,qA,qM,qL]
 refine zac.pc (hS) rfl (.inr rfl) ?_
 simp(disch:=omega)only[↓RU,RV,RH,↓reduceIte,qE,reduceCtorEq,if_pos,qN,↓RS,RG,qA,qM,qL]
 apply hK;clear hK K
 refine W.seq ?_
 refine W.r fun K hK=>?_
 simp(disch:=omega)only[↓RU,RV,RH,↓reduceIte,qE,reduceCtorEq,if_pos,↓RS,RG,qA,qM,qL]
 apply hK;clear hK K
 refine W.block ?_
 refine W.loop [0,4,5,6] (fun n vs S=>∃ i v t:Nat,n=(rP p).length - i∧i≤(rP p).length∧vs=[zai p,.loc 0 v 0 (zdm (rP p) s.rect i).length,zai (sub p s),.int .i64 i]∧S=⟨[.arr v 3 1 ((zdm (rP p) s.rect i).map (.int .i64))],t⟩) (rP p).length ?_ ?_
 ·refine ⟨1,0,0,1,rfl,Nat.zero_le _,?_,rfl⟩
  simp [Env.put,Env.of,zag,zdm]
 rintro n vs S - ⟨i,v,t,rfl,h_i,rfl,rfl⟩
 refine W.seq ?_
 refine W.r fun K hK=>?_
 simp(disch:=omega)only[↓RU,RV,RH,↓reduceIte,qE,reduceCtorEq,if_pos,qN,w64,↓RS,RG,qA,qM,qL,zaa,hR]
 refine zac.pc (zgu hs) rfl (.inl rfl) ?_
 simp(disch:=omega)only[↓RU,RV,RH,↓reduceIte,qE,reduceCtorEq,if_pos,qN,w64,↓RS,RG,qA,qM,qL,zaa,hR]
 apply hK;clear hK K
 refine W.cond rfl (fun h1=>?_) (fun h1=>?_)
 ·try simp only[RL]at h1
  obtain ⟨b,hb,-⟩:=zaf (show i<(rP p).length by omega)
  have hci:=z80 hp w hb
  have hrl:=zrm (rs:=rP p) (t:=s.rect) (k:=i)
  have htl:((zdm (rP p) s.rect i).map (PV.int .i64)).take (zdm (rP p) s.rect i).length=(zdm (rP p) s.rect i).map (PV.int .i64):=qT (by simp)
  refine W.skip ?_
  refine xn ?_
  refine W.seq ?_
  refine W.block ?_
  refine W.r fun K hK=>?_
  by_cases hd:s.rect.both b=s.rect
  ·skip
   have h3:decide (zdx (sub p s) i>0)=true:=decide_eq_true (hci.2 hd)
   have h4c:decide ((s.h:Int)>0)=true:=decide_eq_true (by omega)
   have hnx:zdm (rP p) s.rect (i+1)=zdm (rP p) s.rect i++[(i:Int)]:=by rw [zgy hb,if_pos hd]
   simp(disch:=omega)only[↓RU,RV,RH,↓reduceIte,qE,reduceCtorEq,if_pos,w64,qN,↓RS,RG,qA,qM,qL,ty4,zaa,zab,hl2,h3,h4c]
   refine zac.pc (zm5 hs2 (by omega) (fun r hr=>by have:=hsm.2.2 r hr; omega) (i:Int)) rfl (.inl rfl) ?_
   simp(disch:=omega)only[↓RU,RV,RH,↓reduceIte,qE,reduceCtorEq,if_pos,w64,qN,↓RS,RG,qA,qM,qL,ty4,zaa,zab,hl2,h3,h4c]
   apply hK;clear hK K
   refine W.cond rfl (fun h2=>?_) (fun h2=>?_)
   ·try simp only[RL]at h2
    refine W.k fun K hK=>?_
    simp(disch:=omega)only[↓RU,RV,RH,↓reduceIte,qE,reduceCtorEq,if_pos,↓RS,RG,qA,qM,qL,zae,zaa,htl]
    apply hK;clear hK K
    refine XbN ?_
    refine xn ?_
    refine W.k fun K hK=>?_
    simp(disch:=omega)only[↓RU,RV,RH,↓reduceIte,qE,reduceCtorEq,if_pos,w64,↓RS,RG,qA,qM,qL,zaa]
    apply hK;clear hK K
    refine xn ?_
    refine ⟨(rP p).length - (i+1),by omega,1,i+1,t+1,t+2,rfl,by omega,?_,?_⟩
    ·rw [hnx]; simp [Env.put,Env.of]
    rw [hnx]; simp [zbl,htl]
   try simp only[RL]at h2
   exact absurd h2 (by simp)
  skip
  have h3:decide (zdx (sub p s) i>0)=false:=decide_eq_false fun h=>hd (hci.1 h)
  have h4c:decide ((s.h:Int)>0)=true:=decide_eq_true (by omega)
  have hnx:zdm (rP p) s.rect (i+1)=zdm (rP p) s.rect i:=by rw [zgy hb,if_neg hd]
  simp(disch:=omega)only[↓RU,RV,RH,↓reduceIte,qE,reduceCtorEq,if_pos,w64,qN,↓RS,RG,qA,qM,qL,ty4,zaa,zab,hl2,h3,h4c]
  refine zac.pc (zm5 hs2 (by omega) (fun r hr=>by have:=hsm.2.2 r hr; omega) (i:Int)) rfl (.inl rfl) ?_
  simp(disch:=omega)only[↓RU,RV,RH,↓reduceIte,qE,reduceCtorEq,if_pos,w64,qN,↓RS,RG,qA,qM,qL,ty4,zaa,zab,hl2,h3,h4c]
  apply hK;clear hK K
  refine W.cond rfl (fun h2=>?_) (fun h2=>?_)
  ·try simp only[RL]at h2
   exact absurd h2 (by simp)
  try simp only[RL]at h2
  refine W.skip ?_
  refine XbN ?_
  refine xn ?_
  refine W.k fun K hK=>?_
  simp(disch:=omega)only[↓RU,RV,RH,↓reduceIte,qE,reduceCtorEq,if_pos,w64,↓RS,RG,qA,qM,qL,zaa]
  apply hK;clear hK K
  refine xn ?_
  refine ⟨(rP p).length - (i+1),by omega,1,i+1,v,t,rfl,by omega,?_,by rw [hnx]; rfl⟩
  rw [hnx]; simp [Env.put,Env.of]
 try simp only[RL]at h1
 obtain rfl:i=(rP p).length:=by omega
 refine W.exit ?_
 refine xe ?_
 refine xe ?_
 refine XBlock.hit ?_
 refine xn ?_
 refine W.r fun K hK=>?_
 have hrr:zdm (rP p) s.rect (rP p).length=zk5 p:=e3.symm
 rw [hrr]
 have h5:decide (((zk5 p).length:Int)>0)=true:=decide_eq_true (by omega)
 simp(disch:=omega)only[↓RU,RV,RH,↓reduceIte,qE,reduceCtorEq,if_pos,w64,↓RS,RG,qA,qM,qL,zae,zaa,h5]
 apply hK;clear hK K
 refine W.ret ?_
 refine Br rfl ?_
 refine z7e (k:=9) ?_ rfl
 exact (zci (k:=8) (n:=(zk5 p).length) rfl (by simp) (z3p _)).trans (by simp [eInts])
theorem zyn {p:List Txt} (hs:Sm p) (hp:zaz p=false):PC Tryz.prog 14 [zai p] (.tup [.str [],.bool false]) true:=by
 refine PC.of ⟨Tryz.func14,by kernel_rfl,rfl,by kernel_rfl⟩ zao mixed (by show 1≤Tryz.f14.ntmps; decide) ?_
 refine W.r fun K hK=>?_
 simp(disch:=omega)only[↓RU,RV,RH,↓reduceIte,qE,reduceCtorEq,if_pos,↓RS,RG,qA,qM,qL]
 apply hK;clear hK K
 refine W.seq ?_
 refine W.r fun K hK=>?_
 simp(disch:=omega)only[↓RU,RV,RH,↓reduceIte,qE,reduceCtorEq,if_pos,qN,↓RS,RG,qA,qM,qL,hp]
 refine zac.pc (zea hs) rfl (.inl rfl) ?_
 simp(disch:=omega)only[↓RU,RV,RH,↓reduceIte,qE,reduceCtorEq,if_pos,qN,↓RS,RG,qA,qM,qL,hp]
 apply hK;clear hK K
 refine W.cond rfl (fun h0=>?_) (fun h0=>?_)
 ·try simp only[RL]at h0
  refine W.r fun K hK=>?_
  simp(disch:=omega)only[↓RU,RV,RH,↓reduceIte,qE,reduceCtorEq,if_pos,↓RS,RG,qA,qM,qL]
  apply hK;clear hK K
  refine W.ret ?_
  refine XThen.ret ?_
  refine Br rfl ?_
  rfl
 try simp only[RL]at h0
 exact absurd h0 (by simp)
theorem zvt {p:List Txt} (hs:Sm p) (hp:zaz p=true):PC Tryz.prog 14 [zai p] (.tup [.str (ybj p),.bool true]) true:=by
 have hg:=zb8 hp
 have hT:=zq2 hg _ (t:=zej p) (qR _) (znp hg)
 rw [z0m hg,(zeq (z:=zah p) _ (znp hg) (qR _)).2]at hT
 have hcb:zuw p=(zc7 (zah p) (zej p)).isSome:=by simp [zuw,hp]
 rw [← hcb]at hT
 have n9:=(zcw hp).1
 have k1:([99,117,116,32]:Txt).length=4:=rfl
 have k2:([115,116,117,99,107,32]:Txt).length=6:=rfl
 refine PC.of ⟨Tryz.func14,by kernel_rfl,rfl,by kernel_rfl⟩ zao mixed (by show 1≤Tryz.f14.ntmps; decide) ?_
 refine W.r fun K hK=>?_
 simp(disch:=omega)only[↓RU,RV,RH,↓reduceIte,qE,reduceCtorEq,if_pos,↓RS,RG,qA,qM,qL]
 apply hK;clear hK K
 refine W.seq ?_
 refine W.r fun K hK=>?_
 simp(disch:=omega)only[↓RU,RV,RH,↓reduceIte,qE,reduceCtorEq,if_pos,qN,↓RS,RG,qA,qM,qL,hp]
 refine zac.pc (zea hs) rfl (.inl rfl) ?_
 simp(disch:=omega)only[↓RU,RV,RH,↓reduceIte,qE,reduceCtorEq,if_pos,qN,↓RS,RG,qA,qM,qL,hp]
 apply hK;clear hK K
 refine W.cond rfl (fun h0=>?_) (fun h0=>?_)
 ·try simp only[RL]at h0
  exact absurd h0 (by simp)
 try simp only[RL]at h0
 refine W.skip ?_
 refine xn ?_
 refine W.r fun K hK=>?_
 cases hv:zuw p
 ·skip
  rw [hv]at hT
  simp(disch:=omega)only[↓RU,RV,RH,↓reduceIte,qE,reduceCtorEq,if_pos,qN,↓RS,RG,qA,qM,qL]
  refine zac.pc (hT) rfl (.inl rfl) ?_
  simp(disch:=omega)only[↓RU,RV,RH,↓reduceIte,qE,reduceCtorEq,if_pos,qN,↓RS,RG,qA,qM,qL]
  apply hK;clear hK K
  refine W.seq ?_
  refine W.r fun K hK=>?_
  simp(disch:=omega)only[↓RU,RV,RH,↓reduceIte,qE,reduceCtorEq,if_pos,↓RS,RG,qA,qM,qL]
  apply hK;clear hK K
  refine W.cond rfl (fun h1=>?_) (fun h1=>?_)
  ·try simp only[RL]at h1
   exact absurd h1 (by simp)
  try simp only[RL]at h1
  obtain ⟨s,e1,w,e2,e3,e4,e5,e6⟩:=zko hp hv
  have hC:=zyl hs hp hv
  refine W.skip ?_
  refine xn ?_
  refine W.r fun K hK=>?_
  simp(disch:=omega)only[↓RU,RV,RH,↓reduceIte,qE,reduceCtorEq,if_pos,qN,↓RS,RG,qA,qM,qL]
  refine zac.pc (hC) rfl (.inl rfl) ?_
  simp(disch:=omega)only[↓RU,RV,RH,↓reduceIte,qE,reduceCtorEq,if_pos,qN,↓RS,RG,qA,qM,qL]
  apply hK;clear hK K
  refine W.r fun K hK=>?_
  simp(disch:=omega)only[↓RU,RV,RH,↓reduceIte,qE,reduceCtorEq,if_pos,↓RS,RG,qA,qM,qL,ty5,zdw]
  apply hK;clear hK K
  refine W.seq ?_
  refine W.r fun K hK=>?_
  simp(disch:=omega)only[↓RU,RV,RH,↓reduceIte,qE,reduceCtorEq,if_pos,↓RS,RG,qA,qM,qL]
  apply hK;clear hK K
  refine W.block ?_
  refine W.loop [6,8,9] (fun n vs S=>∃ i v t:Nat,n=(zk5 p).length - i∧i≤(zk5 p).length∧vs=[eInts (zk5 p),.loc 0 v 0 (ztu ((zk5 p).take i)).length,.int .i64 i]∧S=⟨[.arr v 5 1 ((ztu ((zk5 p).take i)).map eB)],t⟩) (zk5 p).length ?_ ?_
  ·refine ⟨1,0,_,_,rfl,Nat.zero_le _,?_,rfl⟩
   simp [Env.put,Env.of,zag,ztu]
  rintro n vs S - ⟨i,v,t,rfl,h_i,rfl,rfl⟩
  refine W.seq ?_
  refine W.r fun K hK=>?_
  simp(disch:=omega)only[↓RU,RV,RH,↓reduceIte,qE,reduceCtorEq,if_pos,w64,↓RS,RG,qA,qM,qL,zae,zaa]
  apply hK;clear hK K
  refine W.cond rfl (fun h2=>?_) (fun h2=>?_)
  ·try simp only[RL]at h2
   obtain ⟨x,hx,hxm⟩:=zaf (show i<(zk5 p).length by omega)
   obtain ⟨b1,b2⟩:=e6 x hxm
   have hw:=ye3 b1 (by omega)
   have hll:=zi1 (l:=(zk5 p).take i)
   rw [List.length_take,Nat.min_eq_left h_i]at hll
   have htl:((ztu ((zk5 p).take i)).map eB).take (ztu ((zk5 p).take i)).length=(ztu ((zk5 p).take i)).map eB:=qT (by simp)
   have htl2:((ztu ((zk5 p).take i)).map eB).take i=(ztu ((zk5 p).take i)).map eB:=qT (by simp [hll])
   refine W.skip ?_
   refine xn ?_
   refine W.seq ?_
   refine W.block ?_
   refine W.k fun K hK=>?_
   simp(disch:=omega)only[↓RU,RV,RH,↓reduceIte,qE,reduceCtorEq,if_pos,w64,w64,↓RS,RG,qA,qM,qL,zae,ty5,zaa,zdw,hx,hw,hll,htl,htl2]
   apply hK;clear hK K
   refine XbN ?_
   refine xn ?_
   refine W.k fun K hK=>?_
   simp(disch:=omega)only[↓RU,RV,RH,↓reduceIte,qE,reduceCtorEq,if_pos,w64,↓RS,RG,qA,qM,qL,zaa]
   apply hK;clear hK K
   refine xn ?_
   refine ⟨(zk5 p).length - (i+1),by omega,1,i+1,t+1,t+2,rfl,by omega,?_,?_⟩
   ·rw [zq3 hx]; simp [Env.put,Env.of,hll]
   rw [zq3 hx]; simp [zbl,htl,eB]
  try simp only[RL]at h2
  obtain rfl:i=(zk5 p).length:=by omega
  rw [List.take_length]
  have hll:=zi1 (l:=(zk5 p))
  have htl:(ztu (zk5 p)).take (zk5 p).length=ztu (zk5 p):=qT (by omega)
  refine W.exit ?_
  refine xe ?_
  refine xe ?_
  refine XBlock.hit ?_
  refine xn ?_
  refine W.r fun K hK=>?_
  simp(disch:=omega)only[↓RU,RV,RH,↓reduceIte,qE,reduceCtorEq,if_pos,w64,w64,↓RS,RG,qA,qM,qL,ty5,zab,zdw,zdc,k2,hll,htl]
  apply hK;clear hK K
  refine W.ret ?_
  refine Br rfl ?_
  rw [ybj,hv]
  rfl
 skip
 rw [hv]at hT
 have hcv:zoj p=(zoo (zah p) (zej p)).1:=by rw [zoj,hv]; rfl
 have hl:=zp9 hp
 rw [hcv]at hl
 simp(disch:=omega)only[↓RU,RV,RH,↓reduceIte,qE,reduceCtorEq,if_pos,qN,↓RS,RG,qA,qM,qL]
 refine zac.pc (hT) rfl (.inl rfl) ?_
 simp(disch:=omega)only[↓RU,RV,RH,↓reduceIte,qE,reduceCtorEq,if_pos,qN,↓RS,RG,qA,qM,qL]
 apply hK;clear hK K
 refine W.seq ?_
 refine W.r fun K hK=>?_
 simp(disch:=omega)only[↓RU,RV,RH,↓reduceIte,qE,reduceCtorEq,if_pos,↓RS,RG,qA,qM,qL]
 apply hK;clear hK K
 refine W.cond rfl (fun h1=>?_) (fun h1=>?_)
 ·try simp only[RL]at h1
  refine W.r fun K hK=>?_
  simp(disch:=omega)only[↓RU,RV,RH,↓reduceIte,qE,reduceCtorEq,if_pos,w64,↓RS,RG,qA,qM,qL,zab,zdc,k1]
  apply hK;clear hK K
  refine W.ret ?_
  refine XThen.ret ?_
  refine Br rfl ?_
  rw [ybj,hv,hcv]
  rfl
 try simp only[RL]at h1
 exact absurd h1 (by simp)
def zz2 (p:List Txt):Txt:=if zaz p then ybj p else []
theorem ybw {k:Nat}:((k:Nat):Int).tdiv 11=((k / 11:Nat):Int):=(Int.ofNat_tdiv k 11).symm
theorem tw11:((11:Int)=0)=False:=by simp
theorem zyy {k:Nat}:(3:Int)+(k:Int)=((3+k:Nat):Int):=by omega
theorem zt7 {p:List Txt} (hs:Sm p):PC Tryz.prog 13 [zai p] (.tup [.str (zz2 p),.bool (zaz p)]) true:=by
 unfold zz2
 cases hp:zaz p with
 | false=>exact zz3 hs hp
 | true=>exact zx4 hs hp
theorem z0e {p:List Txt} (hs:Sm p):PC Tryz.prog 14 [zai p] (.tup [.str (zz2 p),.bool (zaz p)]) true:=by
 unfold zz2
 cases hp:zaz p with
 | false=>exact zyn hs hp
 | true=>exact zvt hs hp
theorem z9w {p:List Txt} (hp:zaz p=true):(zz2 p).length≤500:=by
 have h1:=zp9 hp
 unfold zz2
 rw [if_pos hp]
 unfold ybj
 cases hv:zuw p with
 | true=>simp only[if_true,List.length_append,List.length_cons,List.length_nil]; omega
 | false =>
  obtain ⟨s,e1,w,e2,e3,e4,e5,e6⟩:=zko hp hv
  simp only[qF,if_false,List.length_append,List.length_cons,List.length_nil,zi1]; omega
theorem zqb {code:Txt} (hc:code.length≤1048576):Ev Tryz.prog 26 [eBy code] ⟨[],0⟩ fun v S=>∃ (p:List Txt) (t:Nat),Sm p∧p.length≤6∧v=zai p∧S=⟨[],t⟩:=by
 refine Ev.of ⟨Tryz.func26,by kernel_rfl,rfl,by kernel_rfl⟩ zao mixed (by show 1≤Tryz.f26.ntmps; decide) ?_
 refine W.r fun K hK=>?_
 simp(disch:=omega)only[↓RU,RV,RH,↓reduceIte,qE,reduceCtorEq,if_pos,↓RS,RG,qA,qM,qL]
 apply hK;clear hK K
 refine W.r fun K hK=>?_
 simp(disch:=omega)only[↓RU,RV,RH,↓reduceIte,qE,reduceCtorEq,if_pos,qN,↓RS,RG,qA,qM,qL,rdO]
 refine zac.pn (z57 hc) rfl (.inr rfl) ?_
 simp(disch:=omega)only[↓RU,RV,RH,↓reduceIte,qE,reduceCtorEq,if_pos,qN,↓RS,RG,qA,qM,qL,rdO,rdO,RN]
 apply hK;clear hK K
 refine W.r fun K hK=>?_
 have hc2:(code.take 2000).length≤1048576:=by rw [List.length_take]; omega
 generalize code.take 2000=code2 at hc2 ⊢
 simp(disch:=omega)only[↓RU,RV,RH,↓reduceIte,qE,reduceCtorEq,if_pos,qN,w64,↓RS,RG,qA,qM,qL,zaa]
 refine zac.ev (zfm (q:=0) hc2 (by omega) 2 (by omega) (by omega)) ?_
 rintro _ _ ⟨k,rfl,hkz,hk,rfl⟩
 have hkb:=hk (by omega)
 simp(disch:=omega)only[↓RU,RV,RH,↓reduceIte,qE,reduceCtorEq,if_pos,qN,w64,↓RS,RG,qA,qM,qL,zaa,ybw,tw11,zyy]
 apply hK;clear hK K
 refine W.r fun K hK=>?_
 simp(disch:=omega)only[↓RU,RV,RH,↓reduceIte,qE,reduceCtorEq,if_pos,qN,w64,↓RS,RG,qA,qM,qL,zaa]
 refine zac.ev (zfm (q:=0+1) hc2 (by omega) 12 (by omega) (by omega)) ?_
 rintro _ _ ⟨j,rfl,hjz,hj,rfl⟩
 have hjb:=hj (by omega)
 simp(disch:=omega)only[↓RU,RV,RH,↓reduceIte,qE,reduceCtorEq,if_pos,qN,w64,↓RS,RG,qA,qM,qL,zaa,ybw,tw11,zyy]
 rw [show ((3+k:Nat):Int) - ((j / 11:Nat):Int)=((3+k - j / 11:Nat):Int) by omega]
 refine zac.ev (z3n (q:=0+1+1) (code:=code2) hc2 (by omega) (nh:=3+k) (nw:=3+k - j / 11) (by omega) (by omega) (by omega) (by omega)) ?_
 rintro _ _ ⟨p,q,t,rfl,hp,hl,hq,rfl⟩
 simp(disch:=omega)only[↓RU,RV,RH,↓reduceIte,qE,reduceCtorEq,if_pos,qN,w64,↓RS,RG,qA,qM,qL,zaa]
 apply hK;clear hK K
 refine W.ret ?_
 refine Br rfl ?_
 exact ⟨0,p,_,zz1 hp,by omega,rfl,rfl⟩
theorem zqc {code:Txt} (hc:code.length≤1048576):Ev Tryz.prog 12 [eBy code] ⟨[],0⟩ fun v S=>∃ (p:List Txt) (t:Nat),Sm p∧p.length≤6∧v=zai p∧S=⟨[],t⟩:=by
 refine Ev.of ⟨Tryz.func12,by kernel_rfl,rfl,by kernel_rfl⟩ zao mixed (by show 1≤Tryz.f12.ntmps; decide) ?_
 refine W.r fun K hK=>?_
 simp(disch:=omega)only[↓RU,RV,RH,↓reduceIte,qE,reduceCtorEq,if_pos,↓RS,RG,qA,qM,qL]
 apply hK;clear hK K
 refine W.r fun K hK=>?_
 simp(disch:=omega)only[↓RU,RV,RH,↓reduceIte,qE,reduceCtorEq,if_pos,qN,↓RS,RG,qA,qM,qL]
 refine zac.ev (zqb hc) ?_
 rintro _ _ ⟨p,t,hs,hl,rfl,rfl⟩
 simp(disch:=omega)only[↓RU,RV,RH,↓reduceIte,qE,reduceCtorEq,if_pos,qN,↓RS,RG,qA,qM,qL]
 apply hK;clear hK K
 refine W.ret ?_
 refine Br rfl ?_
 exact ⟨0,p,_,hs,hl,rfl,rfl⟩
theorem zok {code:Txt} (hcode:code.length≤9223372036854775807):PC Tryz.prog 4 [eBy code] (.bool true) true:=by
 refine PC.of ⟨Tryz.func4,by kernel_rfl,rfl,by kernel_rfl⟩ zao mixed (by show 1≤Tryz.f4.ntmps; decide) ?_
 refine W.r fun K hK=>?_
 simp(disch:=omega)only[↓RU,RV,RH,↓reduceIte,qE,reduceCtorEq,if_pos]
 apply hK;clear hK K
 refine W.seq ?_
 refine W.r fun K hK=>?_
 simp(disch:=omega)only[↓RU,RV,RH,↓reduceIte,qE,reduceCtorEq,if_pos,w64,ty5,zaa,zdw]
 apply hK;clear hK K
 refine W.cond rfl (fun h0=>?_) (fun h0=>?_)
 ·try simp only[RL]at h0
  refine W.r fun K hK=>?_
  simp(disch:=omega)only[↓RU,RV,RH,↓reduceIte,qE,reduceCtorEq,if_pos]
  apply hK;clear hK K
  refine W.ret ?_
  refine XThen.ret ?_
  refine Br rfl ?_
  rfl
 try simp only[RL]at h0
 have hcl:code.length≤1048576:=by omega
 refine W.skip ?_
 refine xn ?_
 refine W.r fun K hK=>?_
 simp(disch:=omega)only[↓RU,RV,RH,↓reduceIte,qE,reduceCtorEq,if_pos,qN]
 refine zac.ev (zqc hcl) ?_
 rintro _ _ ⟨p,t,hs,hl6,rfl,rfl⟩
 simp(disch:=omega)only[↓RU,RV,RH,↓reduceIte,qE,reduceCtorEq,if_pos,qN]
 apply hK;clear hK K
 refine W.r fun K hK=>?_
 simp(disch:=omega)only[↓RU,RV,RH,↓reduceIte,qE,reduceCtorEq,if_pos,qN]
 refine zac.pc (zt7 hs) rfl (.inl rfl) ?_
 simp(disch:=omega)only[↓RU,RV,RH,↓reduceIte,qE,reduceCtorEq,if_pos,qN]
 apply hK;clear hK K
 refine W.r fun K hK=>?_
 simp(disch:=omega)only[↓RU,RV,RH,↓reduceIte,qE,reduceCtorEq,if_pos,qN]
 refine zac.pc (z0e hs) rfl (.inl rfl) ?_
 simp(disch:=omega)only[↓RU,RV,RH,↓reduceIte,qE,reduceCtorEq,if_pos,qN]
 apply hK;clear hK K
 refine W.seq ?_
 refine W.r fun K hK=>?_
 cases hv:zaz p
 ·skip
  simp(disch:=omega)only[↓RU,RV,RH,↓reduceIte,qE,reduceCtorEq,if_pos,w64,zau,zab,z6t,qO,bne_self_eq_false,beq_self_eq_true,Bool.not_true,Bool.not_false,decide_true,zx2,hv]
  apply hK;clear hK K
  refine W.cond rfl (fun h1=>?_) (fun h1=>?_)
  ·try simp only[RL]at h1
   refine W.r fun K hK=>?_
   simp(disch:=omega)only[↓RU,RV,RH,↓reduceIte,qE,reduceCtorEq,if_pos,w64,zau,zab,z6t,qO,bne_self_eq_false,beq_self_eq_true,Bool.not_true,Bool.not_false,decide_true,zjr]
   apply hK;clear hK K
   refine W.ret ?_
   refine XThen.ret ?_
   refine Br rfl ?_
   rfl
  try simp only[RL]at h1
  exact absurd h1 (by simp)
 skip
 simp(disch:=omega)only[↓RU,RV,RH,↓reduceIte,qE,reduceCtorEq,if_pos,w64,zau,zab,z6t,qO,bne_self_eq_false,beq_self_eq_true,Bool.not_true,Bool.not_false,decide_true,zx2,hv]
 apply hK;clear hK K
 refine W.cond rfl (fun h1=>?_) (fun h1=>?_)
 ·try simp only[RL]at h1
  exact absurd h1 (by simp)
 try simp only[RL]at h1
 have hp:zaz p=true:=hv
 have hvl:(zz2 p).length≤500:=z9w hp
 have hsl:=zoc hp
 have hsj:=z4c (p:=p) (by have:=hsl.n; omega) (fun r h=>Nat.le_trans (hsl.r r h) (by omega))
 have hT:=zt7 hs
 rw [hv]at hT
 have hE:=z3c hs hp (cmd:=[112,114,111,111,102]) (by decide) (by decide) (by decide) hvl z3d hT
 rw [show zm7 p++10::([112,114,111,111,102]++[10])=[112,108,97,110,32]++joinS p++[10,112,114,111,111,102,10] from rfl,show ([111,107,10]++((zz2 p)++[10])++([114,111,111,109,115,32]++zos (rP p).length++[10]):Txt)=[111,107,10]++(zz2 p)++[10,114,111,111,109,115,32]++zos (rP p).length++[10] by simp [List.append_assoc]]at hE
 have n9:=(zcw hp).1
 have hjl:=zm4 hsl.r
 have hjm:7*p.length≤42:=by have:=hsl.n; omega
 have d1:(zos (rP p).length).length=1:=rfl
 have k1:([112,108,97,110,32]:Txt).length=5:=rfl
 have k2:([10,112,114,111,111,102,10]:Txt).length=7:=rfl
 have k3:([111,107,10]:Txt).length=3:=rfl
 have k4:([10,114,111,111,109,115,32]:Txt).length=7:=rfl
 have k5:([10]:Txt).length=1:=rfl
 have m1:([112,108,97,110,32]++joinS p).length=(joinS p).length+5:=by simp
 have m2:([111,107,10]++(zz2 p)).length=(zz2 p).length+3:=by simp
 have m3:([111,107,10]++(zz2 p)++[10,114,111,111,109,115,32]).length=(zz2 p).length+10:=by simp
 have m4:([111,107,10]++(zz2 p)++[10,114,111,111,109,115,32]++zos (rP p).length).length=(zz2 p).length+11:=by simp [zos]
 refine W.skip ?_
 refine xn ?_
 refine W.r fun K hK=>?_
 simp(disch:=omega)only[↓RU,RV,RH,↓reduceIte,qE,reduceCtorEq,if_pos,qN]
 refine zac.pc (zoa hs (by rw [zd6]; exact hp)) rfl (.inl rfl) ?_
 simp(disch:=omega)only[↓RU,RV,RH,↓reduceIte,qE,reduceCtorEq,if_pos,qN]
 apply hK;clear hK K
 refine W.r fun K hK=>?_
 simp(disch:=omega)only[↓RU,RV,RH,↓reduceIte,qE,reduceCtorEq,if_pos,qN,w64,zab,zdc,zjr,beq_self_eq_true,k1,k2,k3,k4,k5,m1,m2,m3,m4,d1]
 refine zac.pc (hsj) rfl (.inl rfl) ?_
 simp(disch:=omega)only[↓RU,RV,RH,↓reduceIte,qE,reduceCtorEq,if_pos,qN,w64,zab,zdc,zjr,beq_self_eq_true,k1,k2,k3,k4,k5,m1,m2,m3,m4,d1]
 refine zac.pc (hE) rfl (.inl rfl) ?_
 simp(disch:=omega)only[↓RU,RV,RH,↓reduceIte,qE,reduceCtorEq,if_pos,qN,w64,zab,zdc,zjr,beq_self_eq_true,k1,k2,k3,k4,k5,m1,m2,m3,m4,d1]
 refine zac.pc (z49 (by omega)) rfl (.inl rfl) ?_
 simp(disch:=omega)only[↓RU,RV,RH,↓reduceIte,qE,reduceCtorEq,if_pos,qN,w64,zab,zdc,zjr,beq_self_eq_true,k1,k2,k3,k4,k5,m1,m2,m3,m4,d1]
 apply hK;clear hK K
 refine W.ret ?_
 refine Br rfl ?_
 rfl
end Fw
end Go.Proofs.YtclbmeloiefbaaaGreatDoor
