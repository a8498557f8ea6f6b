/- Parts of the framework and of the proof: The numbering of rooms by the program, gone through; The numbering of all rooms of a grid; Grids of the program, gone through; A plan of a grid, as the program finds it; Plans of the program, gone through; Plans that are read, in plain words; Reading plans, gone through; The two closures of relations are the same; The heaviest sums and the least sizes are the same; The program's walls and orders are the specification's; The program's direct orders are the specification's; Sums and counts of cells; The least rectangle around cells, by the program; The least rectangle around a room and its cells, by the specification; Plans that are read are the specification's: grids and names; Plans that are read are the specification's: numbers of rooms and rectangles; Plans that are read are the specification's: rooms fill their rectangles; Areas by the program are the specification's; Areas by the program are the specification's, joined; Arguments of laws as plain data; Four colours do for nine rooms: rooms laid one after the other under a frontier of six columns; Cut trees: parts of plans, their first cuts, and the tree of all; Parts of plans as texts: the specification's cut and its parts; Plans in which no four rooms meet: two orders of rooms go on without end, and each two rooms are in one; The program's closures and walls in words of cells: left of is going on from just left of, above is going on from just above. -/
import Derived.Test.YtbbphnladjdllaaGreatJ2
import Derived.Test.YtbbphnladjdllaaGreatRows
import Derived.ProofKit
import Derived.SliceStrings
import Derived.Test.YtbbphnladjdllaaGreatJ1
set_option linter.all false
namespace Go.Proofs.YtbbphnladjdllaaGreat
namespace Fw
open Go
open Nat renaming reduceEqDiff → qE, reduceLeDiff → qL, reduceAdd → qA, reduceMul → qM, le_refl → qR
open List renaming append_nil → qN, mapM_append → qP, mapM_cons → qC, mapM_map → qU, range_succ → qS, take_of_length_le → qT
open Bool renaming and_eq_true → qB, false_eq_true → qF
open Option renaming map_some → qO, map_eq_some_iff → qI
open Int renaming reduceToNat → qZ
theorem zxu {z:Int}:TK.keyed tab 3 (.int .i64 z)=true:=by simp only[TK.keyed,zaa]; rfl
theorem zrz {g d:List (List Int)} {y:List Int} {row ks:List Int} {rs:List Rect} {z:Int} {r c w m xv yv vq t:Nat} (hr:r<6) (hc:c<6) (hrow:g[r]?=some row) (hz:row[c]?=some z) (hs:zso ks rs) (hk:ks.length≤64) (hin:¬ ks.idxOf z=ks.length):Ev Tryz.prog 110 [.int .i64 (r:Nat),.int .i64 (c:Nat),.ref 5 5 0,.ref 0 0 0,.ref 3 3 0] ⟨[.arr 0 39 1 [zct g],.arr 1 3 1 [.int .i64 w],.arr 2 42 2 [.nils,.loc 8 vq 0 (rs).length],.arr 3 35 1 [.ref 2 2 0],.map 4 (mE ks),.arr 5 135 1 [.mp 4 4],.arr xv 28 1 (gcs d (.loc 7 yv 0 w) m),.arr yv 3 1 (y.map (.int .i64)),.arr vq 56 4 (rcs rs)],t⟩ fun v S=>v = .int .i64 ((ks.idxOf z:Nat):Int)∧∃ vq t:Nat,S=⟨[.arr 0 39 1 [zct g],.arr 1 3 1 [.int .i64 w],.arr 2 42 2 [.nils,.loc 8 vq 0 ((zps ks rs z (zg3 r c))).length],.arr 3 35 1 [.ref 2 2 0],.map 4 (mE (zhj ks z)),.arr 5 135 1 [.mp 4 4],.arr xv 28 1 (gcs d (.loc 7 yv 0 w) m),.arr yv 3 1 (y.map (.int .i64)),.arr vq 56 4 (rcs (zps ks rs z (zg3 r c)))],t⟩:=by
 have hrl:=zb5 hrow
 have hcl:=zb5 hz
 have hgl:g.length=g.length:=rfl
 obtain ⟨hi1,hi2,b,hb,hbf⟩:=hs.in_ (z:=z) (zfo hr hc)
 have hil:=zhq (ks:=ks) (z:=z)
 have hsl:=hs.1
 have hst:=hs.step (z:=z) (zfo hr hc)
 have hfs:=zxl hin
 have hki:zhj ks z=ks:=by simp [zhj,hin]
 have hri:zi4 ks rs z (zg3 r c)=rs:=by simp [zi4,hin]
 refine Ev.of ⟨Tryz.func110,by kernel_rfl,rfl,by kernel_rfl⟩ zav mixed (by show 5≤Tryz.f110.ntmps; decide) ?_
 refine W.r fun K hK=>?_
 simp(disch:=omega)only[↓RU,RW,↓reduceIte,qE,reduceCtorEq,iP,↓RS,RG,qA,qM,qL]
 apply hK;clear hK K
 refine W.seq_draw (by kernel_rfl) fun K hK=>?_
 simp(disch:=omega)only[↓RU,RW,↓reduceIte,qE,reduceCtorEq,iP,↓RS,RG,qA,qM,qL,ty1,zab,zcl,zaa,ygl,hrow,hz,zxz,hfs]
 apply hK;clear hK K
 refine W.joinS [0,1,2,3,4,8] (fun vs S=>∃ vq t:Nat,vs=[.int .i64 (r:Nat),.int .i64 (c:Nat),.ref 5 5 0,.ref 0 0 0,.ref 3 3 0,.int .i64 ((ks.idxOf z:Nat):Int)]∧S=⟨[.arr 0 39 1 [zct g],.arr 1 3 1 [.int .i64 w],.arr 2 42 2 [.nils,.loc 8 vq 0 ((zi4 ks rs z (zg3 r c))).length],.arr 3 35 1 [.ref 2 2 0],.map 4 (mE (zhj ks z)),.arr 5 135 1 [.mp 4 4],.arr xv 28 1 (gcs d (.loc 7 yv 0 w) m),.arr yv 3 1 (y.map (.int .i64)),.arr vq 56 4 (rcs (zi4 ks rs z (zg3 r c)))],t⟩) ?_ ?_
 ·
  refine W.r fun K hK=>?_
  simp(disch:=omega)only[↓RU,RW,↓reduceIte,qE,reduceCtorEq,iP,↓RS,RG,qA,qM,qL]
  apply hK;clear hK K
  refine W.cond rfl (fun h=>?_) (fun h=>?_)
  ·try simp only[RL]at h
   exact absurd h (by simp)
  try simp only[RL]at h
  refine W.skip ?_
  refine xn ?_
  refine ⟨9,[],[.int .i64 (r:Nat),.int .i64 (c:Nat),.ref 5 5 0,.ref 0 0 0,.ref 3 3 0,.int .i64 ((ks.idxOf z:Nat):Int)],⟨[.arr 0 39 1 [zct g],.arr 1 3 1 [.int .i64 w],.arr 2 42 2 [.nils,.loc 8 vq 0 ((zi4 ks rs z (zg3 r c))).length],.arr 3 35 1 [.ref 2 2 0],.map 4 (mE (zhj ks z)),.arr 5 135 1 [.mp 4 4],.arr xv 28 1 (gcs d (.loc 7 yv 0 w) m),.arr yv 3 1 (y.map (.int .i64)),.arr vq 56 4 (rcs (zi4 ks rs z (zg3 r c)))],(t+1)⟩,?_,?_,vq,t+1,rfl,rfl⟩
  ·simp [-qU,Env.put,Env.of,zai,za9,zae,zak,zam,zao,zbd,zbe,zb2,zbc,zaz,zbf,zb1,zb3,za1,za0,zap,zbb,zbg,zb0,zax,zaw,zan,zay,zba,zdr,qS,qP,qC]
  rw [hki,hri]; simp [-qU,Env.put,Env.of,zai,za9,zae,zak,zam,zao,zbd,zbe,zb2,zbc,zaz,zbf,zb1,zb3,za1,za0,zap,zbb,zbg,zb0,zax,zaw,zan,zay,zba,zdr,qS,qP,qC,z1s,zo2,zff,zze]
 rintro vs S - ⟨vq,t,rfl,rfl⟩
 have hrs2:=z1v hb
 generalize hks1:zhj ks z=ks1 at hi1 hst
 generalize hrs1:zi4 ks rs z (zg3 r c)=rs1 at hb hi1 hi2 hrs2
 have hbl:=zb5 hb
 refine W.seq_draw (by kernel_rfl) fun K hK=>?_
 have hcell:=(zd1 (r:=r) (c:=c)).symm
 have hba:PV.agg b.cells=zsd b:=rfl
 simp(disch:=omega)only[↓RU,RW,↓reduceIte,qE,reduceCtorEq,iP,qN,↓RS,RG,qA,qM,qL,ty1,ty3,zab,ty7,zeo,zcl,za7,zaa,zep,za8,zks hb,zbw,← zd1,hcell,zbn,zbp,zj6]
 refine zac.pc (zkx (b:=b) (o:=zg3 r c) hbf.in_ (zfo hr hc).in_) rfl (.inl rfl) ?_
 simp(disch:=omega)only[↓RU,RW,↓reduceIte,qE,reduceCtorEq,iP,qN,↓RS,RG,qA,qM,qL,ty1,ty3,zab,ty7,zeo,zcl,za7,zaa,zep,za8,zks hb,zbw,← zd1,hcell,zbn,zbp,zj6]
 apply hK;clear hK K
 refine W.r fun K hK=>?_
 simp(disch:=omega)only[↓RU,RW,↓reduceIte,qE,reduceCtorEq,iP,↓RS,RG,qA,qM,qL]
 apply hK;clear hK K
 refine W.ret ?_
 refine Br rfl ?_
 refine ⟨9,rfl,vq,t,?_⟩
 rw [hrs2]
 simp [zcs]
theorem zn6 {g d:List (List Int)} {y:List Int} {row ks:List Int} {rs:List Rect} {z:Int} {r c w m xv yv vq t:Nat} (hr:r<6) (hc:c<6) (hrow:g[r]?=some row) (hz:row[c]?=some z) (hs:zso ks rs) (hk:ks.length≤64) (hn:rs=[]) (hn2:ks=[]):Ev Tryz.prog 110 [.int .i64 (r:Nat),.int .i64 (c:Nat),.ref 5 5 0,.ref 0 0 0,.ref 3 3 0] ⟨[.arr 0 39 1 [zct g],.arr 1 3 1 [.int .i64 w],.arr 2 42 2 [.nils,.nils],.arr 3 35 1 [.ref 2 2 0],.map 4 (mE ks),.arr 5 135 1 [.mp 4 4],.arr xv 28 1 (gcs d (.loc 7 yv 0 w) m),.arr yv 3 1 (y.map (.int .i64))],t⟩ fun v S=>v = .int .i64 ((ks.idxOf z:Nat):Int)∧∃ vq t:Nat,S=⟨[.arr 0 39 1 [zct g],.arr 1 3 1 [.int .i64 w],.arr 2 42 2 [.nils,.loc 8 vq 0 ((zps ks rs z (zg3 r c))).length],.arr 3 35 1 [.ref 2 2 0],.map 4 (mE (zhj ks z)),.arr 5 135 1 [.mp 4 4],.arr xv 28 1 (gcs d (.loc 7 yv 0 w) m),.arr yv 3 1 (y.map (.int .i64)),.arr vq 56 4 (rcs (zps ks rs z (zg3 r c)))],t⟩:=by
 have hin:ks.idxOf z=ks.length:=by rw [hn2]; rfl
 have hrl:=zb5 hrow
 have hcl:=zb5 hz
 have hgl:g.length=g.length:=rfl
 obtain ⟨hi1,hi2,b,hb,hbf⟩:=hs.in_ (z:=z) (zfo hr hc)
 have hil:=zhq (ks:=ks) (z:=z)
 have hsl:=hs.1
 have hst:=hs.step (z:=z) (zfo hr hc)
 have hfn:=zoo hin
 have hki:zhj ks z=ks++[z]:=by simp [zhj,hin]
 have hri:zi4 ks rs z (zg3 r c)=rs++[zg3 r c]:=by simp [zi4,hin]
 refine Ev.of ⟨Tryz.func110,by kernel_rfl,rfl,by kernel_rfl⟩ zav mixed (by show 5≤Tryz.f110.ntmps; decide) ?_
 refine W.r fun K hK=>?_
 simp(disch:=omega)only[↓RU,RW,↓reduceIte,qE,reduceCtorEq,iP,↓RS,RG,qA,qM,qL]
 apply hK;clear hK K
 refine W.seq_draw (by kernel_rfl) fun K hK=>?_
 simp(disch:=omega)only[↓RU,RW,↓reduceIte,qE,reduceCtorEq,iP,↓RS,RG,qA,qM,qL,ty1,zab,zcl,zaa,ygl,hrow,hz,zxz,hfn]
 apply hK;clear hK K
 refine W.joinS [0,1,2,3,4,8] (fun vs S=>∃ vq t:Nat,vs=[.int .i64 (r:Nat),.int .i64 (c:Nat),.ref 5 5 0,.ref 0 0 0,.ref 3 3 0,.int .i64 ((ks.idxOf z:Nat):Int)]∧S=⟨[.arr 0 39 1 [zct g],.arr 1 3 1 [.int .i64 w],.arr 2 42 2 [.nils,.loc 8 vq 0 ((zi4 ks rs z (zg3 r c))).length],.arr 3 35 1 [.ref 2 2 0],.map 4 (mE (zhj ks z)),.arr 5 135 1 [.mp 4 4],.arr xv 28 1 (gcs d (.loc 7 yv 0 w) m),.arr yv 3 1 (y.map (.int .i64)),.arr vq 56 4 (rcs (zi4 ks rs z (zg3 r c)))],t⟩) ?_ ?_
 ·
  refine W.r fun K hK=>?_
  simp(disch:=omega)only[↓RU,RW,↓reduceIte,qE,reduceCtorEq,iP,↓RS,RG,qA,qM,qL]
  apply hK;clear hK K
  refine W.cond rfl (fun h=>?_) (fun h=>?_)
  ·try simp only[RL]at h
   refine W.r fun K hK=>?_
   simp(disch:=omega)only[↓RU,RW,↓reduceIte,qE,reduceCtorEq,iP,↓RS,RG,qA,qM,qL,zaa,ygl,zxz]
   apply hK;clear hK K
   refine W.seq_draw (by kernel_rfl) fun K hK=>?_
   simp(disch:=omega)only[↓RU,RW,↓reduceIte,qE,reduceCtorEq,iP,↓RS,RG,qA,qM,qL,ty1,zab,zcl,zaa,ygl,hrow,hz,hfn,zxu]
   apply hK;clear hK K
   refine W.region_pk 10 [some 35,some 36,some 37,some 38,some 39] [2,3] (by decide) (by kernel_rfl) fun K hK=>?_
   simp only[List.take_succ_cons,List.take_zero,List.drop_succ_cons,List.drop_zero]
   refine za4 (.ref 2 2 0) rfl rfl rfl (fun S' hS=>?_) ?_
   ·skip
    have k2:=(hS 2 (by decide)).trans (show _=some _ from rfl)
    have k3:=(hS 3 (by decide)).trans (show _=some _ from rfl)
    simp(disch:=omega)only[↓RU,RW,↓reduceIte,qE,reduceCtorEq,iP,↓RS,RG,qA,qM,qL,ty1,ty3,zab,ty7,zeo,zcl,za7,zaa,zep,za8,zbw,zbn,zbp,zbz,zcr,zef,zeg,k2,k3]
   refine za4 (.ref 2 2 0) rfl rfl rfl (fun S' hS=>?_) ?_
   ·skip
    have k2:=(hS 2 (by decide)).trans (show _=some _ from rfl)
    have k3:=(hS 3 (by decide)).trans (show _=some _ from rfl)
    simp(disch:=omega)only[↓RU,RW,↓reduceIte,qE,reduceCtorEq,iP,↓RS,RG,qA,qM,qL,ty1,ty3,zab,ty7,zeo,zcl,za7,zaa,zep,za8,zbw,zbn,zbp,zbz,zcr,zef,zeg,k2,k3]
   refine za4 (.ref 2 2 0) rfl rfl rfl (fun S' hS=>?_) ?_
   ·skip
    have k2:=(hS 2 (by decide)).trans (show _=some _ from rfl)
    have k3:=(hS 3 (by decide)).trans (show _=some _ from rfl)
    simp(disch:=omega)only[↓RU,RW,↓reduceIte,qE,reduceCtorEq,iP,↓RS,RG,qA,qM,qL,ty1,ty3,zab,ty7,zeo,zcl,za7,zaa,zep,za8,zbw,zbn,zbp,zbz,zcr,zef,zeg,k2,k3]
   refine za4 (.ref 2 2 1) rfl rfl rfl (fun S' hS=>?_) ?_
   ·skip
    have k2:=(hS 2 (by decide)).trans (show _=some _ from rfl)
    have k3:=(hS 3 (by decide)).trans (show _=some _ from rfl)
    simp(disch:=omega)only[↓RU,RW,↓reduceIte,qE,reduceCtorEq,iP,↓RS,RG,qA,qM,qL,ty1,ty3,zab,ty7,zeo,zcl,za7,zaa,zep,za8,zbw,zbn,zbp,zbz,zcr,zef,zeg,k2,k3]
   refine za4 (.nils) rfl rfl rfl (fun S' hS=>?_) ?_
   ·skip
    have k2:=(hS 2 (by decide)).trans (show _=some _ from rfl)
    have k3:=(hS 3 (by decide)).trans (show _=some _ from rfl)
    simp(disch:=omega)only[↓RU,RW,↓reduceIte,qE,reduceCtorEq,iP,↓RS,RG,qA,qM,qL,ty1,ty3,zab,ty7,zeo,zcl,za7,zaa,zep,za8,zbw,zbn,zbp,zbz,zcr,zef,zeg,k2,k3]
   refine zbj rfl ?_
   simp(disch:=omega)only[↓RU,RW,↓reduceIte,qE,reduceCtorEq,iP,↓RS,RG,qA,qM,qL,ty1,ty3,zab,ty7,zeo,zcl,za7,zaa,zep,za8,zbw,zbn,zbp,zat,za3]
   refine zbj rfl ?_
   simp(disch:=omega)only[↓RU,RW,↓reduceIte,qE,reduceCtorEq,iP,↓RS,RG,qA,qM,qL,ty1,ty3,zab,ty7,zeo,zcl,za7,zaa,zep,za8,zbw,zbn,zbp,zat,za3]
   refine zbj rfl ?_
   simp(disch:=omega)only[↓RU,RW,↓reduceIte,qE,reduceCtorEq,iP,↓RS,RG,qA,qM,qL,ty1,ty3,zab,ty7,zeo,zcl,za7,zaa,zep,za8,zbw,zbn,zbp,zat,za3]
   refine zbj rfl ?_
   simp(disch:=omega)only[↓RU,RW,↓reduceIte,qE,reduceCtorEq,iP,↓RS,RG,qA,qM,qL,ty1,ty3,zab,ty7,zeo,zcl,za7,zaa,zep,za8,zbw,zbn,zbp,zat,za3]
   refine zbj rfl ?_
   simp(disch:=omega)only[↓RU,RW,↓reduceIte,qE,reduceCtorEq,iP,↓RS,RG,qA,qM,qL,ty1,ty3,zab,ty7,zeo,zcl,za7,zaa,zep,za8,zbw,zbn,zbp,zat,za3]
   refine zgh ?_
   simp(disch:=omega)only[↓RU,RW,↓reduceIte,qE,reduceCtorEq,iP,↓RS,RG,qA,qM,qL,ty1,ty3,zab,ty7,zeo,zcl,za7,zaa,zep,za8,zbw,zbn,zbp]
   apply hK;clear hK K
   refine xn ?_
   refine ⟨8,[9],[.int .i64 (r:Nat),.int .i64 (c:Nat),.ref 5 5 0,.ref 0 0 0,.ref 3 3 0,.int .i64 ((ks.idxOf z:Nat):Int)],⟨[.arr 0 39 1 [zct g],.arr 1 3 1 [.int .i64 w],.arr 2 42 2 [.nils,.loc 8 (t+2) 0 ((zi4 ks rs z (zg3 r c))).length],.arr 3 35 1 [.ref 2 2 0],.map 4 (mE (zhj ks z)),.arr 5 135 1 [.mp 4 4],.arr xv 28 1 (gcs d (.loc 7 yv 0 w) m),.arr yv 3 1 (y.map (.int .i64)),.arr (t+2) 56 4 (rcs (zi4 ks rs z (zg3 r c)))],(t+3)⟩,?_,?_,(t+2),(t+3),rfl,rfl⟩
   ·rw [hin]; simp [-qU,Env.put,Env.of,zai,za9,zae,zak,zam,zao,zbd,zbe,zb2,zbc,zaz,zbf,zb1,zb3,za1,za0,zap,zbb,zbg,zb0,zax,zaw,zan,zay,zba,zdr,qS,qP,qC]
   rw [hki,hri,hn]; simp [-qU,Env.put,Env.of,zai,za9,zae,zak,zam,zao,zbd,zbe,zb2,zbc,zaz,zbf,zb1,zb3,za1,za0,zap,zbb,zbg,zb0,zax,zaw,zan,zay,zba,zdr,qS,qP,qC,z1s,zo2,zff,zze,yf4,zvu,yam,zd1,ygb]
  try simp only[RL]at h
  exact absurd h (by simp)
 rintro vs S - ⟨vq,t,rfl,rfl⟩
 have hrs2:=z1v hb
 generalize hks1:zhj ks z=ks1 at hi1 hst
 generalize hrs1:zi4 ks rs z (zg3 r c)=rs1 at hb hi1 hi2 hrs2
 have hbl:=zb5 hb
 refine W.seq_draw (by kernel_rfl) fun K hK=>?_
 have hcell:=(zd1 (r:=r) (c:=c)).symm
 have hba:PV.agg b.cells=zsd b:=rfl
 simp(disch:=omega)only[↓RU,RW,↓reduceIte,qE,reduceCtorEq,iP,qN,↓RS,RG,qA,qM,qL,ty1,ty3,zab,ty7,zeo,zcl,za7,zaa,zep,za8,zks hb,zbw,← zd1,hcell,zbn,zbp,zj6]
 refine zac.pc (zkx (b:=b) (o:=zg3 r c) hbf.in_ (zfo hr hc).in_) rfl (.inl rfl) ?_
 simp(disch:=omega)only[↓RU,RW,↓reduceIte,qE,reduceCtorEq,iP,qN,↓RS,RG,qA,qM,qL,ty1,ty3,zab,ty7,zeo,zcl,za7,zaa,zep,za8,zks hb,zbw,← zd1,hcell,zbn,zbp,zj6]
 apply hK;clear hK K
 refine W.r fun K hK=>?_
 simp(disch:=omega)only[↓RU,RW,↓reduceIte,qE,reduceCtorEq,iP,↓RS,RG,qA,qM,qL]
 apply hK;clear hK K
 refine W.ret ?_
 refine Br rfl ?_
 refine ⟨9,rfl,vq,t,?_⟩
 rw [hrs2]
 simp [zcs]
theorem zry {g d:List (List Int)} {y:List Int} {row ks:List Int} {rs:List Rect} {z:Int} {r c w m xv yv vq t:Nat} (hr:r<6) (hc:c<6) (hrow:g[r]?=some row) (hz:row[c]?=some z) (hs:zso ks rs) (hk:ks.length≤64) (hin:ks.idxOf z=ks.length):Ev Tryz.prog 110 [.int .i64 (r:Nat),.int .i64 (c:Nat),.ref 5 5 0,.ref 0 0 0,.ref 3 3 0] ⟨[.arr 0 39 1 [zct g],.arr 1 3 1 [.int .i64 w],.arr 2 42 2 [.nils,.loc 8 vq 0 (rs).length],.arr 3 35 1 [.ref 2 2 0],.map 4 (mE ks),.arr 5 135 1 [.mp 4 4],.arr xv 28 1 (gcs d (.loc 7 yv 0 w) m),.arr yv 3 1 (y.map (.int .i64)),.arr vq 56 4 (rcs rs)],t⟩ fun v S=>v = .int .i64 ((ks.idxOf z:Nat):Int)∧∃ vq t:Nat,S=⟨[.arr 0 39 1 [zct g],.arr 1 3 1 [.int .i64 w],.arr 2 42 2 [.nils,.loc 8 vq 0 ((zps ks rs z (zg3 r c))).length],.arr 3 35 1 [.ref 2 2 0],.map 4 (mE (zhj ks z)),.arr 5 135 1 [.mp 4 4],.arr xv 28 1 (gcs d (.loc 7 yv 0 w) m),.arr yv 3 1 (y.map (.int .i64)),.arr vq 56 4 (rcs (zps ks rs z (zg3 r c)))],t⟩:=by
 have hrl:=zb5 hrow
 have hcl:=zb5 hz
 have hgl:g.length=g.length:=rfl
 obtain ⟨hi1,hi2,b,hb,hbf⟩:=hs.in_ (z:=z) (zfo hr hc)
 have hil:=zhq (ks:=ks) (z:=z)
 have hsl:=hs.1
 have hst:=hs.step (z:=z) (zfo hr hc)
 have hfn:=zoo hin
 have hki:zhj ks z=ks++[z]:=by simp [zhj,hin]
 have hri:zi4 ks rs z (zg3 r c)=rs++[zg3 r c]:=by simp [zi4,hin]
 refine Ev.of ⟨Tryz.func110,by kernel_rfl,rfl,by kernel_rfl⟩ zav mixed (by show 5≤Tryz.f110.ntmps; decide) ?_
 refine W.r fun K hK=>?_
 simp(disch:=omega)only[↓RU,RW,↓reduceIte,qE,reduceCtorEq,iP,↓RS,RG,qA,qM,qL]
 apply hK;clear hK K
 refine W.seq_draw (by kernel_rfl) fun K hK=>?_
 simp(disch:=omega)only[↓RU,RW,↓reduceIte,qE,reduceCtorEq,iP,↓RS,RG,qA,qM,qL,ty1,zab,zcl,zaa,ygl,hrow,hz,zxz,hfn]
 apply hK;clear hK K
 refine W.joinS [0,1,2,3,4,8] (fun vs S=>∃ vq t:Nat,vs=[.int .i64 (r:Nat),.int .i64 (c:Nat),.ref 5 5 0,.ref 0 0 0,.ref 3 3 0,.int .i64 ((ks.idxOf z:Nat):Int)]∧S=⟨[.arr 0 39 1 [zct g],.arr 1 3 1 [.int .i64 w],.arr 2 42 2 [.nils,.loc 8 vq 0 ((zi4 ks rs z (zg3 r c))).length],.arr 3 35 1 [.ref 2 2 0],.map 4 (mE (zhj ks z)),.arr 5 135 1 [.mp 4 4],.arr xv 28 1 (gcs d (.loc 7 yv 0 w) m),.arr yv 3 1 (y.map (.int .i64)),.arr vq 56 4 (rcs (zi4 ks rs z (zg3 r c)))],t⟩) ?_ ?_
 ·
  refine W.r fun K hK=>?_
  simp(disch:=omega)only[↓RU,RW,↓reduceIte,qE,reduceCtorEq,iP,↓RS,RG,qA,qM,qL]
  apply hK;clear hK K
  refine W.cond rfl (fun h=>?_) (fun h=>?_)
  ·try simp only[RL]at h
   refine W.r fun K hK=>?_
   simp(disch:=omega)only[↓RU,RW,↓reduceIte,qE,reduceCtorEq,iP,↓RS,RG,qA,qM,qL,zaa,ygl,zxz]
   apply hK;clear hK K
   refine W.seq_draw (by kernel_rfl) fun K hK=>?_
   simp(disch:=omega)only[↓RU,RW,↓reduceIte,qE,reduceCtorEq,iP,↓RS,RG,qA,qM,qL,ty1,zab,zcl,zaa,ygl,hrow,hz,hfn,zxu]
   apply hK;clear hK K
   refine W.region_pk 10 [some 35,some 36,some 37,some 38,some 39] [2,3] (by decide) (by kernel_rfl) fun K hK=>?_
   simp only[List.take_succ_cons,List.take_zero,List.drop_succ_cons,List.drop_zero]
   refine za4 (.ref 2 2 0) rfl rfl rfl (fun S' hS=>?_) ?_
   ·skip
    have k2:=(hS 2 (by decide)).trans (show _=some _ from rfl)
    have k3:=(hS 3 (by decide)).trans (show _=some _ from rfl)
    simp(disch:=omega)only[↓RU,RW,↓reduceIte,qE,reduceCtorEq,iP,↓RS,RG,qA,qM,qL,ty1,ty3,zab,ty7,zeo,zcl,za7,zaa,zep,za8,zbw,zbn,zbp,zbz,zcr,zef,zeg,k2,k3]
   refine za4 (.ref 2 2 0) rfl rfl rfl (fun S' hS=>?_) ?_
   ·skip
    have k2:=(hS 2 (by decide)).trans (show _=some _ from rfl)
    have k3:=(hS 3 (by decide)).trans (show _=some _ from rfl)
    simp(disch:=omega)only[↓RU,RW,↓reduceIte,qE,reduceCtorEq,iP,↓RS,RG,qA,qM,qL,ty1,ty3,zab,ty7,zeo,zcl,za7,zaa,zep,za8,zbw,zbn,zbp,zbz,zcr,zef,zeg,k2,k3]
   refine za4 (.ref 2 2 0) rfl rfl rfl (fun S' hS=>?_) ?_
   ·skip
    have k2:=(hS 2 (by decide)).trans (show _=some _ from rfl)
    have k3:=(hS 3 (by decide)).trans (show _=some _ from rfl)
    simp(disch:=omega)only[↓RU,RW,↓reduceIte,qE,reduceCtorEq,iP,↓RS,RG,qA,qM,qL,ty1,ty3,zab,ty7,zeo,zcl,za7,zaa,zep,za8,zbw,zbn,zbp,zbz,zcr,zef,zeg,k2,k3]
   refine za4 (.ref 2 2 1) rfl rfl rfl (fun S' hS=>?_) ?_
   ·skip
    have k2:=(hS 2 (by decide)).trans (show _=some _ from rfl)
    have k3:=(hS 3 (by decide)).trans (show _=some _ from rfl)
    simp(disch:=omega)only[↓RU,RW,↓reduceIte,qE,reduceCtorEq,iP,↓RS,RG,qA,qM,qL,ty1,ty3,zab,ty7,zeo,zcl,za7,zaa,zep,za8,zbw,zbn,zbp,zbz,zcr,zef,zeg,k2,k3]
   refine za4 (.loc 8 vq 0 rs.length) rfl rfl rfl (fun S' hS=>?_) ?_
   ·skip
    have k2:=(hS 2 (by decide)).trans (show _=some _ from rfl)
    have k3:=(hS 3 (by decide)).trans (show _=some _ from rfl)
    simp(disch:=omega)only[↓RU,RW,↓reduceIte,qE,reduceCtorEq,iP,↓RS,RG,qA,qM,qL,ty1,ty3,zab,ty7,zeo,zcl,za7,zaa,zep,za8,zbw,zbn,zbp,zbz,zcr,zef,zeg,k2,k3]
   refine zbj rfl ?_
   simp(disch:=omega)only[↓RU,RW,↓reduceIte,qE,reduceCtorEq,iP,↓RS,RG,qA,qM,qL,ty1,ty3,zab,ty7,zeo,zcl,za7,zaa,zep,za8,zbw,zbn,zbp,zat,za3]
   refine zbj rfl ?_
   simp(disch:=omega)only[↓RU,RW,↓reduceIte,qE,reduceCtorEq,iP,↓RS,RG,qA,qM,qL,ty1,ty3,zab,ty7,zeo,zcl,za7,zaa,zep,za8,zbw,zbn,zbp,zat,za3]
   refine zbj rfl ?_
   simp(disch:=omega)only[↓RU,RW,↓reduceIte,qE,reduceCtorEq,iP,↓RS,RG,qA,qM,qL,ty1,ty3,zab,ty7,zeo,zcl,za7,zaa,zep,za8,zbw,zbn,zbp,zat,za3]
   refine zbj rfl ?_
   simp(disch:=omega)only[↓RU,RW,↓reduceIte,qE,reduceCtorEq,iP,↓RS,RG,qA,qM,qL,ty1,ty3,zab,ty7,zeo,zcl,za7,zaa,zep,za8,zbw,zbn,zbp,zat,za3]
   refine zbj rfl ?_
   simp(disch:=omega)only[↓RU,RW,↓reduceIte,qE,reduceCtorEq,iP,↓RS,RG,qA,qM,qL,ty1,ty3,zab,ty7,zeo,zcl,za7,zaa,zep,za8,zbw,zbn,zbp,zat,za3]
   refine zgh ?_
   simp(disch:=omega)only[↓RU,RW,↓reduceIte,qE,reduceCtorEq,iP,↓RS,RG,qA,qM,qL,ty1,ty3,zab,ty7,zeo,zcl,za7,zaa,zep,za8,zbw,zbn,zbp]
   apply hK;clear hK K
   refine xn ?_
   refine ⟨9,[],[.int .i64 (r:Nat),.int .i64 (c:Nat),.ref 5 5 0,.ref 0 0 0,.ref 3 3 0,.int .i64 ((ks.idxOf z:Nat):Int)],⟨[.arr 0 39 1 [zct g],.arr 1 3 1 [.int .i64 w],.arr 2 42 2 [.nils,.loc 8 (t+1) 0 ((zi4 ks rs z (zg3 r c))).length],.arr 3 35 1 [.ref 2 2 0],.map 4 (mE (zhj ks z)),.arr 5 135 1 [.mp 4 4],.arr xv 28 1 (gcs d (.loc 7 yv 0 w) m),.arr yv 3 1 (y.map (.int .i64)),.arr (t+1) 56 4 (rcs (zi4 ks rs z (zg3 r c)))],(t+3)⟩,?_,?_,(t+1),(t+3),rfl,rfl⟩
   ·rw [hin]; simp [-qU,Env.put,Env.of,zai,za9,zae,zak,zam,zao,zbd,zbe,zb2,zbc,zaz,zbf,zb1,zb3,za1,za0,zap,zbb,zbg,zb0,zax,zaw,zan,zay,zba,zdr,qS,qP,qC]
   rw [hki,hri]; simp [-qU,Env.put,Env.of,zai,za9,zae,zak,zam,zao,zbd,zbe,zb2,zbc,zaz,zbf,zb1,zb3,za1,za0,zap,zbb,zbg,zb0,zax,zaw,zan,zay,zba,zdr,qS,qP,qC,z1s,zo2,zff,zze,yf4,zvu,yam,zd1,ygb]
  try simp only[RL]at h
  exact absurd h (by simp)
 rintro vs S - ⟨vq,t,rfl,rfl⟩
 have hrs2:=z1v hb
 generalize hks1:zhj ks z=ks1 at hi1 hst
 generalize hrs1:zi4 ks rs z (zg3 r c)=rs1 at hb hi1 hi2 hrs2
 have hbl:=zb5 hb
 refine W.seq_draw (by kernel_rfl) fun K hK=>?_
 have hcell:=(zd1 (r:=r) (c:=c)).symm
 have hba:PV.agg b.cells=zsd b:=rfl
 simp(disch:=omega)only[↓RU,RW,↓reduceIte,qE,reduceCtorEq,iP,qN,↓RS,RG,qA,qM,qL,ty1,ty3,zab,ty7,zeo,zcl,za7,zaa,zep,za8,zks hb,zbw,← zd1,hcell,zbn,zbp,zj6]
 refine zac.pc (zkx (b:=b) (o:=zg3 r c) hbf.in_ (zfo hr hc).in_) rfl (.inl rfl) ?_
 simp(disch:=omega)only[↓RU,RW,↓reduceIte,qE,reduceCtorEq,iP,qN,↓RS,RG,qA,qM,qL,ty1,ty3,zab,ty7,zeo,zcl,za7,zaa,zep,za8,zks hb,zbw,← zd1,hcell,zbn,zbp,zj6]
 apply hK;clear hK K
 refine W.r fun K hK=>?_
 simp(disch:=omega)only[↓RU,RW,↓reduceIte,qE,reduceCtorEq,iP,↓RS,RG,qA,qM,qL]
 apply hK;clear hK K
 refine W.ret ?_
 refine Br rfl ?_
 refine ⟨9,rfl,vq,t,?_⟩
 rw [hrs2]
 simp [zcs]
section
def prS (g:List (List Int)) (w:Nat) (rv:PV) (ks:List Int):List Ob:=[.arr 0 39 1 [zct g],.arr 1 3 1 [.int .i64 w],.arr 2 42 2 [.nils,rv],.arr 3 35 1 [.ref 2 2 0],.map 4 (mE ks),.arr 5 135 1 [.mp 4 4]]
def seS (g:List (List Int)) (w:Nat) (xv yv:Nat) (x y:List PV) (ks:List Int) (rs:List Rect) (vq t:Nat):Store :=
 match rs with
 | []=>⟨prS g w .nils ks++[.arr xv 28 1 x,.arr yv 3 1 y],t⟩
 | rs=>⟨prS g w (.loc 8 vq 0 rs.length) ks++[.arr xv 28 1 x,.arr yv 3 1 y,.arr vq 56 4 (rcs rs)],t⟩
theorem ybc {g:List (List Int)} {w xv yv:Nat} {x y:List PV} {ks:List Int} {vq t:Nat}:seS g w xv yv x y ks [] vq t=⟨prS g w .nils ks++[.arr xv 28 1 x,.arr yv 3 1 y],t⟩:=rfl
theorem z4n {g:List (List Int)} {w xv yv:Nat} {x y:List PV} {ks:List Int} {rs:List Rect} {vq t:Nat} (h:rs≠[]):seS g w xv yv x y ks rs vq t=⟨prS g w (.loc 8 vq 0 rs.length) ks++[.arr xv 28 1 x,.arr yv 3 1 y,.arr vq 56 4 (rcs rs)],t⟩:=by
 cases rs with
 | nil=>exact absurd rfl h
 | cons a l=>rfl
section
variable {g:List (List Int)} {w xv yv:Nat} {x y y2:List PV} {ks:List Int} {rs:List Rect} {vq t:Nat}
theorem zei:(seS g w xv yv x y ks rs vq t).obs[6]?=some (.arr xv 28 1 x):=by cases rs <;> rfl
theorem ze9:(seS g w xv yv x y ks rs vq t).obs[7]?=some (.arr yv 3 1 y):=by cases rs <;> rfl
theorem zhe:(seS g w xv yv x y ks rs vq t).set 7 (.arr yv 3 1 y2)=seS g w xv yv x y2 ks rs vq t:=by cases rs <;> rfl
end
theorem ygc {S:Store} {k f:Nat} {sel:List Nat} {n:Nat} {q:IntKind} {z:Int}:(List.replicate n (PV.int q z)).mapM (rn S k sel (f+1))=some (List.replicate n (PV.int q z)) :=
 zb7 fun x hx=>by obtain rfl:=List.eq_of_mem_replicate hx; rfl
theorem yej {S:Store} {k f:Nat} {sel:List Nat} {n:Nat}:(List.replicate n PV.nils).mapM (rn S k sel (f+1))=some (List.replicate n PV.nils) :=
 zb7 fun x hx=>by obtain rfl:=List.eq_of_mem_replicate hx; rfl
theorem yio {S:Store} {k f:Nat} {sel:List Nat} {d:List (List Int)} {cur:PV} {m:Nat}:(gcs d cur m).mapM (rn S k sel (f+1))=(rn S k sel (f+1) cur).map fun c=>gcs d c m:=by
 unfold gcs
 rw [qP,zb7 (l:=d.map eInts) (fun x hx=>by obtain ⟨a,_,rfl⟩:=List.mem_map.1 hx; rfl),qC,zb7 (l:=List.replicate m PV.nils) (fun x hx=>by obtain rfl:=List.eq_of_mem_replicate hx; rfl)]
 cases rn S k sel (f+1) cur <;> rfl
theorem yei {S:Store} {fr:Nat→Bool} {f:Nat} {q:IntKind} (l:List Int):(l.map (PV.int q)).mapM (rfq S fr (f+1))=some (l.map (PV.int q)) :=
 zb7 fun x hx=>by obtain ⟨a,_,rfl⟩:=List.mem_map.1 hx; rfl
def seO (g:List (List Int)) (w:Nat) (xv:Nat) (x:List PV) (ks:List Int) (rs:List Rect) (vq t:Nat):Store :=
 match rs with
 | []=>⟨prS g w .nils ks++[.arr xv 28 1 x],t⟩
 | rs=>⟨prS g w (.loc 7 vq 0 rs.length) ks++[.arr xv 28 1 x,.arr vq 56 4 (rcs rs)],t⟩
theorem yba {g:List (List Int)} {w xv:Nat} {x:List PV} {ks:List Int} {vq t:Nat}:seO g w xv x ks [] vq t=⟨prS g w .nils ks++[.arr xv 28 1 x],t⟩:=rfl
theorem ya9 {g:List (List Int)} {w xv:Nat} {x:List PV} {ks:List Int} {rs:List Rect} {vq t:Nat} (h:rs≠[]):seO g w xv x ks rs vq t=⟨prS g w (.loc 7 vq 0 rs.length) ks++[.arr xv 28 1 x,.arr vq 56 4 (rcs rs)],t⟩:=by
 cases rs with
 | nil=>exact absurd rfl h
 | cons a l=>rfl
def zdf (g:List (List Int)) (i:Nat) (s:List Int × List Rect):Nat→List Int × List Rect
 | 0=>s
 | j+1=>(zhj (zdf g i s j).1 (gz g i j),zps (zdf g i s j).1 (zdf g i s j).2 (gz g i j) (zg3 i j))
def zas (g:List (List Int)) (nw:Nat):Nat→List Int × List Rect
 | 0=>([],[])
 | i+1=>zdf g i (zas g nw i) nw
def zod (g:List (List Int)) (i:Nat) (s:List Int × List Rect):Nat→List Int
 | 0=>[]
 | j+1=>zod g i s j++[(((zdf g i s j).1.idxOf (gz g i j):Nat):Int)]
def ze7 (g:List (List Int)) (nw:Nat):Nat→List (List Int)
 | 0=>[]
 | i+1=>ze7 g nw i++[zod g i (zas g nw i) nw]
theorem zf0 {g:List (List Int)} {i:Nat} {s:List Int × List Rect}:∀ j,(zod g i s j).length=j
 | 0=>rfl
 | j+1=>by simp [zod,zf0 j]
theorem yfc {g:List (List Int)} {i nw j:Nat} {s:List Int × List Rect} (h:j<nw):zod g i s (j+1)++List.replicate (nw - (j+1)) 0=(zod g i s j++List.replicate (nw - j) 0).set j (((zdf g i s j).1.idxOf (gz g i j):Nat):Int):=by
 obtain ⟨m,hm⟩:∃ m,nw - j=m+1:=⟨nw - j - 1,by omega⟩
 rw [hm,show nw - (j+1)=m by omega,List.set_append_right _ _ (by rw [zf0]; exact qR _),zf0,Nat.sub_self]
 simp [zod,List.replicate_succ]
theorem zc6 {g:List (List Int)} {nw:Nat}:∀ i,(ze7 g nw i).length=i
 | 0=>rfl
 | i+1=>by simp [ze7,zc6 i]
theorem z4m {ks:List Int} {z:Int}:(zhj ks z).length≤ks.length+1∧ks.length≤(zhj ks z).length∧1≤(zhj ks z).length:=by
 have h:=zhq (ks:=ks) (z:=z)
 unfold zhj
 split
 ·simp
 refine ⟨by omega,by omega,?_⟩
 have:ks.idxOf z≠ks.length:=by assumption
 omega
theorem zm2 {g:List (List Int)} {i:Nat} (hi:i<6) {s:List Int × List Rect} (h:zso s.1 s.2):∀ j,j≤6→zso (zdf g i s j).1 (zdf g i s j).2∧(zdf g i s j).1.length≤s.1.length+j∧s.1.length≤(zdf g i s j).1.length∧(1≤j→1≤(zdf g i s j).1.length)
 | 0,_=>⟨h,by simp [zdf],by simp [zdf],by omega⟩
 | j+1,hj=>by
  obtain ⟨h1,h2,h3,h4⟩:=zm2 hi h j (by omega)
  have:=z4m (ks:=(zdf g i s j).1) (z:=gz g i j)
  exact ⟨h1.step (zfo hi (by omega)),by simp only[zdf]; omega,by simp only[zdf]; omega,fun _=>by simp only[zdf]; omega⟩
theorem zgm {g:List (List Int)} {nw:Nat} (hw:nw≤6) (hw1:1≤nw):∀ i,i≤6→zso (zas g nw i).1 (zas g nw i).2∧(zas g nw i).1.length≤6*i∧(1≤i→1≤(zas g nw i).1.length)
 | 0,_=>⟨zso.nil,by simp [zas],by omega⟩
 | i+1,hi=>by
  obtain ⟨h1,h2,h3⟩:=zgm hw hw1 i (by omega)
  obtain ⟨k1,k2,k3,k4⟩:=zm2 (g:=g) (i:=i) (by omega) h1 nw hw
  exact ⟨k1,by simp only[zas]; omega,fun _=>by simp only[zas]; exact k4 hw1⟩
theorem zso.ne {ks:List Int} {rs:List Rect} (h:zso ks rs) (h1:1≤ks.length):rs≠[]:=by
 rintro rfl
 have:=h.1
 simp at this; omega
theorem zso.nl {ks:List Int} (h:zso ks []):ks=[]:=List.eq_nil_of_length_eq_zero h.1.symm
theorem zfc {d:List (List Int)} {cur:PV} {m i:Nat} (h:d.length=i):(gcs d cur m)[i]?=some cur:=by subst h; simp [gcs]
theorem zfd {d:List (List Int)} {cur:PV} {m:Nat}:(gcs d cur m).length=d.length+1+m:=by simp [gcs]; omega
def gc0 (d:List (List Int)) (m:Nat):List PV:=d.map eInts++List.replicate m .nils
theorem z06 {d:List (List Int)} {m:Nat}:(gc0 d m).length=d.length+m:=by simp [gc0]
theorem z07 {d:List (List Int)} {m i:Nat} {c:PV} (h:d.length=i) (hm:1≤m):(gc0 d m).take i++[c]++(gc0 d m).drop (i+1)=gcs d c (m - 1):=by
 subst h
 obtain ⟨m,rfl⟩:∃ n,m=n+1:=⟨m - 1,by omega⟩
 simp only[gc0,gcs,Nat.add_sub_cancel]
 rw [show d.length=(d.map eInts).length by simp,List.take_left,List.drop_length_add_append]
 simp [List.replicate_succ]
theorem z8q {d:List (List Int)} {r:List Int} {m:Nat}:gcs d (eInts r) m=gc0 (d++[r]) m:=by simp [gcs,gc0]
theorem z8p {d:List (List Int)}:gc0 d 0=d.map eInts:=by simp [gc0]
theorem zu1 {m:Nat}:gc0 [] m=List.replicate m .nils:=rfl
end
theorem z1x {g d:List (List Int)} {y:List Int} {row ks:List Int} {rs:List Rect} {z:Int} {r c w m xv yv vq t:Nat} (hr:r<6) (hc:c<6) (hrow:g[r]?=some row) (hz:row[c]?=some z) (hs:zso ks rs) (hk:ks.length≤64) :
  Ev Tryz.prog 110 [.int .i64 (r:Nat),.int .i64 (c:Nat),.ref 5 5 0,.ref 0 0 0,.ref 3 3 0] (seS g w xv yv (gcs d (.loc 7 yv 0 w) m) (y.map (.int .i64)) ks rs vq t)
   fun v S=>v = .int .i64 ((ks.idxOf z:Nat):Int)∧∃ vq t:Nat,S=seS g w xv yv (gcs d (.loc 7 yv 0 w) m) (y.map (.int .i64)) (zhj ks z) (zps ks rs z (zg3 r c)) vq t:=by
 have hne:zps ks rs z (zg3 r c)≠[]:=(hs.step (z:=z) (zfo hr hc)).ne z4m.2.2
 simp only[z4n hne]
 by_cases h0:rs=[]
 ·subst h0
  rw [ybc]
  exact zn6 (vq:=0) hr hc hrow hz hs hk rfl hs.nl
 rw [z4n h0]
 by_cases hin:ks.idxOf z=ks.length
 ·exact zry hr hc hrow hz hs hk hin
 exact zrz hr hc hrow hz hs hk hin
theorem ycy {g:List (List Int)} {nh nw:Nat} (hg:GW g nh nw):Ev Tryz.prog 57 [.int .i64 nh,.int .i64 nw,.fn 110 [.ref 5 5 0,.ref 0 0 0,.ref 3 3 0]] ⟨prS g nw .nils [],6⟩ fun v S=>∃ xv vq t:Nat,v = .loc 6 xv 0 nh∧S=seO g nw xv ((ze7 g nw nh).map eInts) (zas g nw nh).1 (zas g nw nh).2 vq t:=by
 have hl:=hg.1
 obtain ⟨hg1,hg2,hg3,hg4⟩:=hg.2.2
 refine Ev.of ⟨Tryz.func57,by kernel_rfl,rfl,by kernel_rfl⟩ zav mixed (by show 3≤Tryz.f57.ntmps; decide) ?_
 refine W.r fun K hK=>?_
 simp(disch:=omega)only[↓RU,RW,↓reduceIte,qE,reduceCtorEq,iP,↓RS,RG,qA,qM,qL,prS]
 apply hK;clear hK K
 refine W.r fun K hK=>?_
 simp(disch:=omega)only[↓RU,RW,↓reduceIte,qE,reduceCtorEq,iP,↓RS,RG,qA,qM,qL,ty1,zab,zcl,zaa,prS,zji,ze8,zex]
 apply hK;clear hK K
 refine W.seq ?_
 refine W.r fun K hK=>?_
 simp(disch:=omega)only[↓RU,RW,↓reduceIte,qE,reduceCtorEq,iP,↓RS,RG,qA,qM,qL,ty1,zab,zcl,zaa,prS]
 apply hK;clear hK K
 refine W.block ?_
 refine W.loopS [1,2,7,13,14] (fun n vs S=>∃ (i xv vq t:Nat),n=nh - i∧i≤nh∧vs=[.int .i64 nw,.fn 110 [.ref 5 5 0,.ref 0 0 0,.ref 3 3 0],.loc 6 xv 0 nh,.int .i64 nh,.int .i64 (i:Nat)]∧S=seO g nw xv (gc0 (ze7 g nw i) (nh - i)) (zas g nw i).1 (zas g nw i).2 vq t) nh ?_ ?_
 ·refine ⟨7,[],[.int .i64 nw,.fn 110 [.ref 5 5 0,.ref 0 0 0,.ref 3 3 0],.loc 6 6 0 nh,.int .i64 nh,.int .i64 (0:Nat)],seO g nw 6 (gc0 (ze7 g nw 0) (nh - 0)) (zas g nw 0).1 (zas g nw 0).2 0 8,?_,?_,0,6,0,8,rfl,Nat.zero_le _,rfl,rfl⟩
  ·simp [-qU,Env.put,Env.of,zai,za9,zae,zak,zam,zao,zbd,zbe,zb2,zbc,zaz,zbf,zb1,zb3,za1,za0,zap,zbb,zbg,zb0,zax,zaw,zan,zay,zba,zdr,qS,qP,qC]
  simp [-qU,Env.put,Env.of,zai,za9,zae,zak,zam,zao,zbd,zbe,zb2,zbc,zaz,zbf,zb1,zb3,za1,za0,zap,zbb,zbg,zb0,zax,zaw,zan,zay,zba,zdr,qS,qP,qC,prS,yba,zas,ze7,zu1,yej,z1s]
 rintro n vs S - ⟨i,xv,vq,t,rfl,h_i,rfl,rfl⟩
 refine W.r fun K hK=>?_
 simp(disch:=omega)only[↓RU,RW,↓reduceIte,qE,reduceCtorEq,iP,w64,↓RS,RG,qA,qM,qL,zaa,prS]
 apply hK;clear hK K
 refine W.seq ?_
 refine W.cond rfl (fun h=>?_) (fun h=>?_)
 ·try simp only[RL]at h
  have hzl:=zc6 (g:=g) (nw:=nw) i
  have hiw:i<nh:=by omega
  obtain ⟨hso,hsl,hsp⟩:=zgm (g:=g) hg4 hg3 i (by omega)
  refine W.skip ?_
  refine xn ?_
  refine W.seq ?_
  refine W.block ?_
  refine W.r fun K hK=>?_
  simp(disch:=omega)only[↓RU,RW,↓reduceIte,qE,reduceCtorEq,iP,↓RS,RG,qA,qM,qL,prS]
  apply hK;clear hK K
  refine W.joinS [1,2,7,8,13,14] (fun vs S=>∃ (yv vq t:Nat),vs=[.int .i64 nw,.fn 110 [.ref 5 5 0,.ref 0 0 0,.ref 3 3 0],.loc 6 xv 0 nh,.int .i64 (i:Nat),.int .i64 nh,.int .i64 (i:Nat)]∧S=seS g nw xv yv (gcs (ze7 g nw i) (.loc 7 yv 0 nw) (nh - i - 1)) ((List.replicate nw 0).map (.int .i64)) (zas g nw i).1 (zas g nw i).2 vq t) ?_ ?_
  ·
   refine W.k fun K hK=>?_
   by_cases hi0:zas g nw i=([],[])
   ·skip
    rw [hi0,yba]
    simp(disch:=omega)only[↓RU,RW,↓reduceIte,qE,reduceCtorEq,iP,↓RS,RG,qA,qM,qL,ty1,zab,zcl,zaa,prS,ze8,zex,z06,zc6,z07]
    apply hK;clear hK K
    refine xn ?_
    refine ⟨8,[],[.int .i64 nw,.fn 110 [.ref 5 5 0,.ref 0 0 0,.ref 3 3 0],.loc 6 xv 0 nh,.int .i64 (i:Nat),.int .i64 nh,.int .i64 (i:Nat)],seS g nw xv t (gcs (ze7 g nw i) (.loc 7 t 0 nw) (nh - i - 1)) ((List.replicate nw 0).map (.int .i64)) (zas g nw i).1 (zas g nw i).2 vq (t+2),?_,?_,t,vq,t+2,rfl,rfl⟩
    ·simp [-qU,Env.put,Env.of,zai,za9,zae,zak,zam,zao,zbd,zbe,zb2,zbc,zaz,zbf,zb1,zb3,za1,za0,zap,zbb,zbg,zb0,zax,zaw,zan,zay,zba,zdr,qS,qP,qC]
    rw [hi0,ybc]; simp [-qU,Env.put,Env.of,zai,za9,zae,zak,zam,zao,zbd,zbe,zb2,zbc,zaz,zbf,zb1,zb3,za1,za0,zap,zbb,zbg,zb0,zax,zaw,zan,zay,zba,zdr,qS,qP,qC,prS,z1s,zo2,zff,zze,ygc,show List.idxOf 7 [8,7]=1 from rfl]
   skip
   have hne:(zas g nw i).2≠[]:=fun e=>hi0 (by have:=hso; rw [e]at this; rw [← Prod.eta (zas g nw i),e,this.nl])
   rw [ya9 hne]
   simp(disch:=omega)only[↓RU,RW,↓reduceIte,qE,reduceCtorEq,iP,↓RS,RG,qA,qM,qL,ty1,zab,zcl,zaa,prS,ze8,zex,z06,zc6,z07]
   apply hK;clear hK K
   refine xn ?_
   refine ⟨7,[8,7],[.int .i64 nw,.fn 110 [.ref 5 5 0,.ref 0 0 0,.ref 3 3 0],.loc 6 xv 0 nh,.int .i64 (i:Nat),.int .i64 nh,.int .i64 (i:Nat)],seS g nw xv (t+1) (gcs (ze7 g nw i) (.loc 7 (t+1) 0 nw) (nh - i - 1)) ((List.replicate nw 0).map (.int .i64)) (zas g nw i).1 (zas g nw i).2 (t+1) (t+2),?_,?_,t+1,t+1,t+2,rfl,rfl⟩
   ·simp [-qU,Env.put,Env.of,zai,za9,zae,zak,zam,zao,zbd,zbe,zb2,zbc,zaz,zbf,zb1,zb3,za1,za0,zap,zbb,zbg,zb0,zax,zaw,zan,zay,zba,zdr,qS,qP,qC]
   rw [z4n hne]; simp [-qU,Env.put,Env.of,zai,za9,zae,zak,zam,zao,zbd,zbe,zb2,zbc,zaz,zbf,zb1,zb3,za1,za0,zap,zbb,zbg,zb0,zax,zaw,zan,zay,zba,zdr,qS,qP,qC,prS,z1s,zo2,zff,zze,ygc,show List.idxOf 7 [8,7]=1 from rfl]
  rintro vs S - ⟨yv,vq,t,rfl,rfl⟩
  refine W.r fun K hK=>?_
  simp(disch:=omega)only[↓RU,RW,↓reduceIte,qE,reduceCtorEq,iP,↓RS,RG,qA,qM,qL,ty1,zab,zcl,zaa,prS,zei,ze9,zfc,zfd,hzl]
  apply hK;clear hK K
  refine W.block ?_
  refine W.loop [1,2,7,8,13,14,26,27] (fun n vs S=>∃ (j vq t:Nat),n=nw - j∧j≤nw∧vs=[.int .i64 nw,.fn 110 [.ref 5 5 0,.ref 0 0 0,.ref 3 3 0],.loc 6 xv 0 nh,.int .i64 (i:Nat),.int .i64 nh,.int .i64 (i:Nat),.int .i64 nw,.int .i64 (j:Nat)]∧S=seS g nw xv yv (gcs (ze7 g nw i) (.loc 7 yv 0 nw) (nh - i - 1)) ((zod g i (zas g nw i) j++List.replicate (nw - j) 0).map (.int .i64)) (zdf g i (zas g nw i) j).1 (zdf g i (zas g nw i) j).2 vq t) nw ?_ ?_
  ·refine ⟨_,0,vq,t,rfl,Nat.zero_le _,?_,zbh⟩
   simp [Env.put,Env.of]
  rintro n vs S - ⟨j,vq,t,rfl,h_j,rfl,rfl⟩
  refine W.r fun K hK=>?_
  simp(disch:=omega)only[↓RU,RW,↓reduceIte,qE,reduceCtorEq,iP,w64,↓RS,RG,qA,qM,qL,zaa,prS]
  apply hK;clear hK K
  refine W.seq ?_
  refine W.cond rfl (fun h1=>?_) (fun h1=>?_)
  ·try simp only[RL]at h1
   have hjw:j<nw:=by omega
   obtain ⟨row,hrow,hrl,hz⟩:=hg.at_ hiw hjw
   obtain ⟨hro,hrl2,-,-⟩:=zm2 (g:=g) (i:=i) (by omega) hso j (by omega)
   have hYl:(zod g i (zas g nw i) j++List.replicate (nw - j) 0).length=nw:=by simp only[List.length_append,List.length_replicate,zf0]; omega
   generalize hY:zod g i (zas g nw i) j++List.replicate (nw - j) 0=Y at hYl
   refine W.skip ?_
   refine xn ?_
   refine W.seq ?_
   refine W.block ?_
   refine W.r fun K hK=>?_
   simp(disch:=omega)only[↓RU,RW,↓reduceIte,qE,reduceCtorEq,iP,↓RS,RG,qA,qM,qL,prS]
   apply hK;clear hK K
   refine W.region_pk 9 [some 32,some 33] [6] (by decide) (by kernel_rfl) fun K hK=>?_
   simp only[List.take_succ_cons,List.take_zero,List.drop_succ_cons,List.drop_zero]
   refine zbj rfl ?_
   simp(disch:=omega)only[↓RU,RW,↓reduceIte,qE,reduceCtorEq,iP,qN,↓RS,RG,qA,qM,qL,ty1,zab,zcl,zaa,prS,zei,ze9,zfc,zfd,hzl,zhe,zb8,zdh,hYl,zat,za3]
   refine zbj rfl ?_
   simp(disch:=omega)only[↓RU,RW,↓reduceIte,qE,reduceCtorEq,iP,qN,↓RS,RG,qA,qM,qL,ty1,zab,zcl,zaa,prS,zei,ze9,zfc,zfd,hzl,zhe,zb8,zdh,hYl,zat,za3]
   refine za4 (.ref 6 xv i) rfl rfl rfl (fun S' hS=>?_) ?_
   ·skip
    have k6:=(hS 6 (by decide)).trans zei
    simp(disch:=omega)only[↓RU,RW,↓reduceIte,qE,reduceCtorEq,iP,qN,↓RS,RG,qA,qM,qL,ty1,zab,zcl,zaa,prS,zei,ze9,zfc,zfd,hzl,zhe,zb8,zdh,hYl,zbz,zcr,zef,zeg,k6]
   refine za4 (.loc 7 yv 0 nw) rfl rfl rfl (fun S' hS=>?_) ?_
   ·skip
    have k6:=(hS 6 (by decide)).trans zei
    simp(disch:=omega)only[↓RU,RW,↓reduceIte,qE,reduceCtorEq,iP,qN,↓RS,RG,qA,qM,qL,ty1,zab,zcl,zaa,prS,zei,ze9,zfc,zfd,hzl,zhe,zb8,zdh,hYl,zbz,zcr,zef,zeg,k6]
   refine zbj rfl ?_
   simp(disch:=omega)only[↓RU,RW,↓reduceIte,qE,reduceCtorEq,iP,qN,↓RS,RG,qA,qM,qL,ty1,zab,zcl,zaa,prS,zei,ze9,zfc,zfd,hzl,zhe,zb8,zdh,hYl,zat,za3]
   refine zbj rfl ?_
   simp(disch:=omega)only[↓RU,RW,↓reduceIte,qE,reduceCtorEq,iP,qN,↓RS,RG,qA,qM,qL,ty1,zab,zcl,zaa,prS,zei,ze9,zfc,zfd,hzl,zhe,zb8,zdh,hYl,zat,za3]
   refine zbj rfl ?_
   simp(disch:=omega)only[↓RU,RW,↓reduceIte,qE,reduceCtorEq,iP,qN,↓RS,RG,qA,qM,qL,ty1,zab,zcl,zaa,prS,zei,ze9,zfc,zfd,hzl,zhe,zb8,zdh,hYl,zat,za3]
   refine zbj rfl ?_
   simp(disch:=omega)only[↓RU,RW,↓reduceIte,qE,reduceCtorEq,iP,qN,↓RS,RG,qA,qM,qL,ty1,zab,zcl,zaa,prS,zei,ze9,zfc,zfd,hzl,zhe,zb8,zdh,hYl,zat,za3]
   refine zbj rfl ?_
   simp(disch:=omega)only[↓RU,RW,↓reduceIte,qE,reduceCtorEq,iP,qN,↓RS,RG,qA,qM,qL,ty1,zab,zcl,zaa,prS,zei,ze9,zfc,zfd,hzl,zhe,zb8,zdh,hYl,zat,za3]
   refine zac.ev (z1x (y:=Y) (by omega) (by omega) hrow hz hro (by omega)) ?_
   rintro _ _ ⟨rfl,vq2,t2,rfl⟩
   simp(disch:=omega)only[↓RU,RW,↓reduceIte,qE,reduceCtorEq,iP,qN,↓RS,RG,qA,qM,qL,ty1,zab,zcl,zaa,prS,zei,ze9,zfc,zfd,hzl,zhe,zb8,zdh,hYl,zat,za3]
   refine zgh ?_
   simp(disch:=omega)only[↓RU,RW,↓reduceIte,qE,reduceCtorEq,iP,qN,↓RS,RG,qA,qM,qL,ty1,zab,zcl,zaa,prS,zei,ze9,zfc,zfd,hzl,zhe,zb8,zdh,hYl]
   apply hK;clear hK K
   refine XbN ?_
   refine xn ?_
   refine W.k fun K hK=>?_
   simp(disch:=omega)only[↓RU,RW,↓reduceIte,qE,reduceCtorEq,iP,w64,↓RS,RG,qA,qM,qL,zaa,prS]
   apply hK;clear hK K
   refine xn ?_
   refine ⟨nw - (j+1),by omega,_,j+1,vq2,t2,rfl,by omega,?_,za2 ?_⟩
   rotate_left
   ·rw [show zod g i (zas g nw i) (j+1)++List.replicate (nw - (j+1)) 0=(zod g i (zas g nw i) j++List.replicate (nw - j) 0).set j (((zdf g i (zas g nw i) j).1.idxOf (gz g i j):Nat):Int) from yfc hjw,hY]; rfl
   simp [Env.put,Env.of]
  try simp only[RL]at h1
  obtain rfl:nw=j:=by omega
  obtain ⟨hro,hrl2,-,hro4⟩:=zm2 (g:=g) (i:=i) (by omega) hso nw hg4
  have hne:=hro.ne (hro4 hg3)
  have hY:zod g i (zas g nw i) nw++List.replicate (nw - nw) 0=zod g i (zas g nw i) nw:=by rw [Nat.sub_self]; exact qN _
  have hYl:=zf0 (g:=g) (i:=i) (s:=zas g nw i) nw
  rw [hY,z4n hne]
  generalize hYe:zod g i (zas g nw i) nw=Y at hYl
  have hYt:(Y.map (PV.int .i64)).take nw=Y.map (PV.int .i64):=qT (by rw [List.length_map]; omega)
  have hYE:eInts Y=PV.sl (Y.map (PV.int .i64)) nw:=by rw [← hYl]
  have hsr:zdf g i (zas g nw i) nw=zas g nw (i+1):=rfl
  rw [hsr]at hne ⊢
  have hzs:ze7 g nw (i+1)=ze7 g nw i++[Y]:=by rw [← hYe]; rfl
  refine W.exit ?_
  refine xe ?_
  refine xe ?_
  refine XBlock.hit ?_
  refine XbN ?_
  refine xn ?_
  refine W.k fun K hK=>?_
  simp(disch:=omega)only[↓RU,RW,↓reduceIte,qE,reduceCtorEq,iP,w64,↓RS,RG,qA,qM,qL,zaa,prS]
  apply hK;clear hK K
  refine xn ?_
  refine ⟨nh - (i+1),by omega,7,[8],[.int .i64 nw,.fn 110 [.ref 5 5 0,.ref 0 0 0,.ref 3 3 0],.loc 6 xv 0 nh,.int .i64 nh,.int .i64 ((i+1:Nat):Int)],seO g nw xv (gc0 (ze7 g nw (i+1)) (nh - (i+1))) (zas g nw (i+1)).1 (zas g nw (i+1)).2 t (t+1),?_,?_,i+1,xv,t+0,t+1,rfl,by omega,rfl,rfl⟩
  ·simp [-qU,Env.put,Env.of,zai,za9,zae,zak,zam,zao,zbd,zbe,zb2,zbc,zaz,zbf,zb1,zb3,za1,za0,zap,zbb,zbg,zb0,zax,zaw,zan,zay,zba,zdr,qS,qP,qC]
  rw [ya9 hne,hzs,← z8q]; simp [-qU,Env.put,Env.of,zai,za9,zae,zak,zam,zao,zbd,zbe,zb2,zbc,zaz,zbf,zb1,zb3,za1,za0,zap,zbb,zbg,zb0,zax,zaw,zan,zay,zba,zdr,qS,qP,qC,prS,z1s,zo2,zff,yio,hYl,hYt,hYE,yei,show nh - i - 1=nh - (i+1) by omega,show List.idxOf 8 [8]=0 from rfl]
 try simp only[RL]at h
 obtain rfl:nh=i:=by omega
 refine W.exit ?_
 refine xe ?_
 refine xe ?_
 refine XBlock.hit ?_
 refine xn ?_
 refine W.r fun K hK=>?_
 simp(disch:=omega)only[↓RU,RW,↓reduceIte,qE,reduceCtorEq,iP,↓RS,RG,qA,qM,qL,prS]
 apply hK;clear hK K
 refine W.ret ?_
 refine Br rfl ?_
 rw [Nat.sub_self,z8p]
 exact ⟨_,xv,vq,t,rfl,zbh⟩
def w0 (g:List (List Int)):Nat:=(g[0]?.getD []).length
def okG (g:List (List Int)):Bool:=decide (1≤g.length) && decide (g.length≤6) && decide (1≤w0 g) && decide (w0 g≤6) && !(g.any fun r=>decide ((r.length:Int)≠(w0 g:Nat)))
def stG (g:List (List Int)):List Int × List Rect:=zas g (w0 g) g.length
def zG (g:List (List Int)):List (List Int):=ze7 g (w0 g) g.length
def z6t (rs:List Rect):Int:=rs.foldl (fun s b=>s+b.high*b.wide) 0
def okS (g:List (List Int)):Bool:=okG g && decide ((stG g).2.length≤9)
def zh5 (g:List (List Int)):Bool:=decide (z6t (stG g).2=((g.length*w0 g:Nat):Int))
def ze0 (g:List (List Int)):PV:=if okS g then .tup [zar (zG g) (stG g).2,.bool (zh5 g)] else .tup [.nilp,.bool false]
theorem ye4 {g:List (List Int)} {row:List Int} (h:g[0]?=some row):w0 g=row.length:=by simp [w0,h]
theorem znx {g:List (List Int)}:okG g=true↔GW g g.length (w0 g):=by
 unfold okG GW
 simp only[qB,decide_eq_true_eq,Bool.not_eq_true',List.any_eq_false,decide_eq_true_eq,ne_eq,Decidable.not_not]
 constructor
 ·rintro ⟨⟨⟨⟨h1,h2⟩,h3⟩,h4⟩,h5⟩
  exact ⟨trivial,fun r hr=>by have:=h5 r hr; omega,h1,h2,h3,h4⟩
 rintro ⟨_,h5,h1,h2,h3,h4⟩
 exact ⟨⟨⟨⟨h1,h2⟩,h3⟩,h4⟩,fun r hr=>by have:=h5 r hr; omega⟩
theorem zr4 {rs:List Rect} {k:Nat} {b:Rect} (h:rs[k]?=some b):z6t (rs.take (k+1))=z6t (rs.take k)+b.high*b.wide:=by
 unfold z6t; rw [zgc h]
theorem Rect.Fit.area {b:Rect} (h:b.Fit):1≤b.high*b.wide∧b.high*b.wide≤36:=by
 unfold Rect.Fit at h
 obtain ⟨h1,h2,h3,h4,h5,h6⟩:=h
 obtain ⟨m,hm⟩:∃ m:Nat,b.high=m:=⟨b.high.toNat,by omega⟩
 obtain ⟨n,hn⟩:∃ n:Nat,b.wide=n:=⟨b.wide.toNat,by omega⟩
 rw [hm,hn]
 have h7:=Nat.mul_le_mul (show m≤6 by omega) (show n≤6 by omega)
 have h8:=Nat.mul_le_mul (show 1≤m by omega) (show 1≤n by omega)
 have:((m*n:Nat):Int)=(m:Int)*n:=by simp
 omega
theorem zua {rs:List Rect} (h:∀ b∈rs,b.Fit):∀ k,0≤z6t (rs.take k)∧z6t (rs.take k)≤36*k
 | 0=>by simp [z6t]
 | k+1=>by
  have ih:=zua h k
  by_cases hk:k<rs.length
  ·obtain ⟨b,hb,hm⟩:=zaj hk
   rw [zr4 hb]
   have:=(h b hm).area
   omega
  rw [qT (by omega)]at ih ⊢
  omega
theorem zkf {g:List (List Int)} {nw:Nat}:∀ {i k:Nat},k<i→(ze7 g nw i)[k]?=some (zod g k (zas g nw k) nw)
 | 0,k,h=>by omega
 | i+1,k,h=>by
  unfold ze7
  by_cases e:k=i
  ·subst e; rw [List.getElem?_append_right (by rw [zc6]; exact qR _),zc6]; simp
  rw [List.getElem?_append_left (by rw [zc6]; omega)]; exact zkf (by omega)
theorem yk2 {g:List (List Int)} {nh nw:Nat} (hg:GW g nh nw):GW (ze7 g nw nh) nh nw:=by
 refine ⟨zc6 _,fun r hr=>?_,hg.2.2⟩
 obtain ⟨k,hk⟩:=List.getElem?_of_mem hr
 have hkl:=zb5 hk
 rw [zc6]at hkl
 rw [zkf hkl]at hk
 cases hk
 exact zf0 _
theorem zk8 {S:Store} {xv vq nh f:Nat} {Z:List (List Int)} {rs:List Rect} (h2:S.obs[2]?=some (.arr 2 42 2 [.loc 6 xv 0 nh,.loc 7 vq 0 rs.length])) (h6:S.obs[6]?=some (.arr xv 28 1 (Z.map eInts))) (hZ:Z.length=nh)
  (h7:S.obs[7]?=some (.arr vq 56 4 (rcs rs))):reify S true (f+4) (.ref 2 2 0)=some (zar Z rs):=by
 have e1:reify S true (f+3) (.loc 6 xv 0 nh)=some (zct Z):=by
  rw [← hZ]
  exact zce (k:=f+2) h6 (by simp) (znt _)
 have e2:reify S true (f+3) (.loc 7 vq 0 rs.length)=some (zoj rs):=zce (k:=f+2) h7 (zbw _) (zn1 (z4k _))
 have hc:S.cellsOf 2 2=some [.loc 6 xv 0 nh,.loc 7 vq 0 rs.length]:=by simp [Store.cellsOf,h2]
 have e0:reify S true (f+4) (.ref 2 2 0)=(S.cellsOf 2 2).bind fun cells=>(cells.mapM (reify S true (f+3))).map (.ip · 0):=rfl
 rw [e0,hc,Option.bind_some,qC,e1,qC,e2]
 rfl
theorem zt5 {g:List (List Int)} (hsm:g.length<2147483648) (hsr:∀ r∈g,r.length<2147483648):PC Tryz.prog 83 [zct g] (ze0 g) false:=by
 refine PC.of ⟨Tryz.func83,by kernel_rfl,rfl,by kernel_rfl⟩ zav mixed (by show 1≤Tryz.f83.ntmps; decide) ?_
 refine W.r fun K hK=>?_
 simp(disch:=omega)only[↓RU,RW,↓reduceIte,qE,reduceCtorEq,iP,↓RS,RG,qA,qM,qL,ty1,zab,zcl,zaa]
 apply hK;clear hK K
 refine W.seq ?_
 refine W.r fun K hK=>?_
 have hcase:g.length<1∨6<g.length∨∃ row:List Int,g[0]?=some row∧row∈g∧(1≤g.length∧g.length≤6)∧(row.length<1∨6<row.length∨(1≤row.length∧row.length≤6)):=by
  by_cases h1:g.length<1
  ·exact .inl h1
  obtain ⟨row,h2,h3⟩:=zaj (show 0<g.length by omega)
  by_cases h4:6<g.length
  ·exact .inr (.inl h4)
  exact .inr (.inr ⟨row,h2,h3,by omega,by omega⟩)
 rcases hcase with hb | hb | ⟨row,hrow,hrm,hgl,hb | hb | hb⟩
 ·skip
  have hd:decide ((g.length:Int)<1)=true:=decide_eq_true (by omega)
  simp(disch:=omega)only[↓RU,RW,↓reduceIte,qE,reduceCtorEq,iP,w64,↓RS,RG,qA,qM,qL,ty1,zab,zcl,zaa,hd]
  apply hK;clear hK K
  refine W.cond rfl (fun h=>?_) (fun h=>?_)
  ·try simp only[RL]at h
   refine W.r fun K hK=>?_
   simp(disch:=omega)only[↓RU,RW,↓reduceIte,qE,reduceCtorEq,iP,↓RS,RG,qA,qM,qL]
   apply hK;clear hK K
   refine W.ret ?_
   refine XThen.ret ?_
   refine Br rfl ?_
   have hok:okS g=false:=by simp [okS,okG]; omega
   rw [ze0,hok]
   rfl
  try simp only[RL]at h
  exact absurd h (by simp)
 ·skip
  have hd:decide ((g.length:Int)<1)=false:=decide_eq_false (by omega)
  have hd2:decide ((g.length:Int)>6)=true:=decide_eq_true (by omega)
  simp(disch:=omega)only[↓RU,RW,↓reduceIte,qE,reduceCtorEq,iP,w64,↓RS,RG,qA,qM,qL,ty1,zab,zcl,zaa,hd,hd2]
  apply hK;clear hK K
  refine W.cond rfl (fun h=>?_) (fun h=>?_)
  ·try simp only[RL]at h
   refine W.r fun K hK=>?_
   simp(disch:=omega)only[↓RU,RW,↓reduceIte,qE,reduceCtorEq,iP,↓RS,RG,qA,qM,qL]
   apply hK;clear hK K
   refine W.ret ?_
   refine XThen.ret ?_
   refine Br rfl ?_
   have hok:okS g=false:=by simp [okS,okG]; omega
   rw [ze0,hok]
   rfl
  try simp only[RL]at h
  exact absurd h (by simp)
 ·skip
  have hrl:=hsr row hrm
  have hw0:=ye4 hrow
  have hd:decide ((g.length:Int)<1)=false:=decide_eq_false (by omega)
  have hd2:decide ((g.length:Int)>6)=false:=decide_eq_false (by omega)
  have hd3:decide ((row.length:Int)<1)=true:=decide_eq_true (by omega)
  simp(disch:=omega)only[↓RU,RW,↓reduceIte,qE,reduceCtorEq,iP,w64,↓RS,RG,qA,qM,qL,ty1,zab,zcl,zaa,hd,hd2,hd3,hrow,Int.toNat_zero,Nat.zero_mul,qZ]
  apply hK;clear hK K
  refine W.cond rfl (fun h=>?_) (fun h=>?_)
  ·try simp only[RL]at h
   refine W.r fun K hK=>?_
   simp(disch:=omega)only[↓RU,RW,↓reduceIte,qE,reduceCtorEq,iP,↓RS,RG,qA,qM,qL]
   apply hK;clear hK K
   refine W.ret ?_
   refine XThen.ret ?_
   refine Br rfl ?_
   have hok:okS g=false:=by simp [okS,okG]; omega
   rw [ze0,hok]
   rfl
  try simp only[RL]at h
  exact absurd h (by simp)
 ·skip
  have hrl:=hsr row hrm
  have hw0:=ye4 hrow
  have hd:decide ((g.length:Int)<1)=false:=decide_eq_false (by omega)
  have hd2:decide ((g.length:Int)>6)=false:=decide_eq_false (by omega)
  have hd3:decide ((row.length:Int)<1)=false:=decide_eq_false (by omega)
  have hd4:decide ((row.length:Int)>6)=true:=decide_eq_true (by omega)
  simp(disch:=omega)only[↓RU,RW,↓reduceIte,qE,reduceCtorEq,iP,w64,↓RS,RG,qA,qM,qL,ty1,zab,zcl,zaa,hd,hd2,hd3,hd4,hrow,Int.toNat_zero,Nat.zero_mul,qZ]
  apply hK;clear hK K
  refine W.cond rfl (fun h=>?_) (fun h=>?_)
  ·try simp only[RL]at h
   refine W.r fun K hK=>?_
   simp(disch:=omega)only[↓RU,RW,↓reduceIte,qE,reduceCtorEq,iP,↓RS,RG,qA,qM,qL]
   apply hK;clear hK K
   refine W.ret ?_
   refine XThen.ret ?_
   refine Br rfl ?_
   have hok:okS g=false:=by simp [okS,okG]; omega
   rw [ze0,hok]
   rfl
  try simp only[RL]at h
  exact absurd h (by simp)
 skip
 have hrl:=hsr row hrm
 have hw0:=ye4 hrow
 have hd:decide ((g.length:Int)<1)=false:=decide_eq_false (by omega)
 have hd2:decide ((g.length:Int)>6)=false:=decide_eq_false (by omega)
 have hd3:decide ((row.length:Int)<1)=false:=decide_eq_false (by omega)
 have hd4:decide ((row.length:Int)>6)=false:=decide_eq_false (by omega)
 simp(disch:=omega)only[↓RU,RW,↓reduceIte,qE,reduceCtorEq,iP,w64,↓RS,RG,qA,qM,qL,ty1,zab,zcl,zaa,hd,hd2,hd3,hd4,hrow,Int.toNat_zero,Nat.zero_mul,qZ]
 apply hK;clear hK K
 refine W.cond rfl (fun h=>?_) (fun h=>?_)
 ·try simp only[RL]at h
  exact absurd h (by simp)
 try simp only[RL]at h
 refine W.skip ?_
 refine xn ?_
 refine W.r fun K hK=>?_
 simp(disch:=omega)only[↓RU,RW,↓reduceIte,qE,reduceCtorEq,iP,↓RS,RG,qA,qM,qL,ty1,zab,zcl,zaa,hrow,Int.toNat_zero,Nat.zero_mul,qZ]
 apply hK;clear hK K
 refine W.seq ?_
 refine W.r fun K hK=>?_
 simp(disch:=omega)only[↓RU,RW,↓reduceIte,qE,reduceCtorEq,iP,qN,↓RS,RG,qA,qM,qL,ty1,zab,zcl,zaa,hrow]
 refine zac.pc (zsb (l:=g) hsm (g:=109) (cap:=[.ip [.int .i64 row.length] 0]) rfl rfl (test:=fun r=>decide ((r.length:Int)≠(row.length:Nat))) (fun r hr=>z1w r _ (hsr r hr))) rfl (.inl rfl) ?_
 simp(disch:=omega)only[↓RU,RW,↓reduceIte,qE,reduceCtorEq,iP,qN,↓RS,RG,qA,qM,qL,ty1,zab,zcl,zaa,hrow]
 apply hK;clear hK K
 refine W.cond rfl (fun h1=>?_) (fun h1=>?_)
 ·try simp only[RL]at h1
  refine W.r fun K hK=>?_
  simp(disch:=omega)only[↓RU,RW,↓reduceIte,qE,reduceCtorEq,iP,↓RS,RG,qA,qM,qL]
  apply hK;clear hK K
  refine W.ret ?_
  refine XThen.ret ?_
  refine Br rfl ?_
  have hok:okS g=false:=by unfold okS okG; rw [hw0,h1]; simp
  rw [ze0,hok]
  rfl
 try simp only[RL]at h1
 have hg:GW g g.length row.length:=by have:=znx (g:=g); rw [hw0]at this; refine this.1 ?_; unfold okG; rw [hw0,h1]; simp; omega
 obtain ⟨hso,hsl,hs1⟩:=zgm (g:=g) (nw:=row.length) (by omega) (by omega) g.length (by omega)
 have hne:=hso.ne (hs1 (by omega))
 refine W.skip ?_
 refine xn ?_
 refine W.r fun K hK=>?_
 simp(disch:=omega)only[↓RU,RW,↓reduceIte,qE,reduceCtorEq,iP,↓RS,RG,qA,qM,qL,ty1,ty3,zab,ty7,zeo,zcl,za7,zaa,zep,za8]
 apply hK;clear hK K
 refine W.r fun K hK=>?_
 simp(disch:=omega)only[↓RU,RW,↓reduceIte,qE,reduceCtorEq,iP,↓RS,RG,qA,qM,qL,zaa,ygl]
 apply hK;clear hK K
 refine W.seq_pk 6 [some 42] [3] (by decide) (by kernel_rfl) fun K hK=>?_
 simp only[List.take_succ_cons,List.take_zero,List.drop_succ_cons,List.drop_zero]
 refine za4 (.ref 2 2 0) rfl rfl rfl (fun S' hS=>?_) ?_
 ·skip
  have k3:=(hS 3 (by decide)).trans (show _=some _ from rfl)
  simp(disch:=omega)only[↓RU,RW,↓reduceIte,qE,reduceCtorEq,iP,qN,↓RS,RG,qA,qM,qL,ty1,ty3,zab,ty7,zeo,zcl,za7,zaa,zep,za8,zbz,zcr,zef,zeg,k3]
 refine zbj rfl ?_
 simp(disch:=omega)only[↓RU,RW,↓reduceIte,qE,reduceCtorEq,iP,qN,↓RS,RG,qA,qM,qL,ty1,ty3,zab,ty7,zeo,zcl,za7,zaa,zep,za8,zat,za3]
 refine zbj rfl ?_
 simp(disch:=omega)only[↓RU,RW,↓reduceIte,qE,reduceCtorEq,iP,qN,↓RS,RG,qA,qM,qL,ty1,ty3,zab,ty7,zeo,zcl,za7,zaa,zep,za8,zat,za3]
 refine zbj rfl ?_
 simp(disch:=omega)only[↓RU,RW,↓reduceIte,qE,reduceCtorEq,iP,qN,↓RS,RG,qA,qM,qL,ty1,ty3,zab,ty7,zeo,zcl,za7,zaa,zep,za8,zat,za3]
 refine zbj rfl ?_
 simp(disch:=omega)only[↓RU,RW,↓reduceIte,qE,reduceCtorEq,iP,qN,↓RS,RG,qA,qM,qL,ty1,ty3,zab,ty7,zeo,zcl,za7,zaa,zep,za8,zat,za3]
 refine zbj rfl ?_
 simp(disch:=omega)only[↓RU,RW,↓reduceIte,qE,reduceCtorEq,iP,qN,↓RS,RG,qA,qM,qL,ty1,ty3,zab,ty7,zeo,zcl,za7,zaa,zep,za8,zat,za3]
 refine zac.ev (ycy hg) ?_
 rintro _ _ ⟨xv,vq,t,rfl,rfl⟩
 rw [ya9 hne]
 simp only[prS]
 simp(disch:=omega)only[↓RU,RW,↓reduceIte,qE,reduceCtorEq,iP,qN,↓RS,RG,qA,qM,qL,ty1,ty3,zab,ty7,zeo,zcl,za7,zaa,zep,za8,zat,za3]
 refine zgh ?_
 simp(disch:=omega)only[↓RU,RW,↓reduceIte,qE,reduceCtorEq,iP,qN,↓RS,RG,qA,qM,qL,ty1,ty3,zab,ty7,zeo,zcl,za7,zaa,zep,za8]
 apply hK;clear hK K
 refine W.seq ?_
 refine W.r fun K hK=>?_
 simp(disch:=omega)only[↓RU,RW,↓reduceIte,qE,reduceCtorEq,iP,w64,↓RS,RG,qA,qM,qL,ty1,ty3,zab,ty7,zeo,zcl,za7,zaa,zep,za8]
 apply hK;clear hK K
 refine W.cond rfl (fun h2=>?_) (fun h2=>?_)
 ·try simp only[RL]at h2
  refine W.r fun K hK=>?_
  simp(disch:=omega)only[↓RU,RW,↓reduceIte,qE,reduceCtorEq,iP,↓RS,RG,qA,qM,qL]
  apply hK;clear hK K
  refine W.ret ?_
  refine XThen.ret ?_
  refine Br rfl ?_
  have hok:okS g=false:=by unfold okS stG; rw [hw0]; simp only[Bool.and_eq_false_iff]; right; exact decide_eq_false (by omega)
  rw [ze0,hok]
  rfl
 try simp only[RL]at h2
 refine W.skip ?_
 refine xn ?_
 refine W.r fun K hK=>?_
 simp(disch:=omega)only[↓RU,RW,↓reduceIte,qE,reduceCtorEq,iP,↓RS,RG,qA,qM,qL]
 apply hK;clear hK K
 refine W.seq ?_
 refine W.r fun K hK=>?_
 simp(disch:=omega)only[↓RU,RW,↓reduceIte,qE,reduceCtorEq,iP,↓RS,RG,qA,qM,qL,ty1,ty3,zab,ty7,zeo,zcl,za7,zaa,zep,za8]
 apply hK;clear hK K
 refine W.block ?_
 refine W.loop [5,7,59,60,61] (fun n vs S=>∃ k t:Nat,n=(zas g row.length g.length).2.length - k∧k≤(zas g row.length g.length).2.length∧vs=[.ref 3 3 0,.int .i64 (z6t ((zas g row.length g.length).2.take k)),.loc 7 vq 0 (zas g row.length g.length).2.length,.int .i64 (zas g row.length g.length).2.length,.int .i64 (k:Nat)]∧S=⟨[.arr 0 39 1 [zct g],.arr 1 3 1 [.int .i64 row.length],.arr 2 42 2 [.loc 6 xv 0 g.length,.loc 7 vq 0 (zas g row.length g.length).2.length],.arr 3 35 1 [.ref 2 2 0],.map 4 (mE (zas g row.length g.length).1),.arr 5 135 1 [.mp 4 4],.arr xv 28 1 ((ze7 g row.length g.length).map eInts),.arr vq 56 4 (rcs (zas g row.length g.length).2)],t⟩) (zas g row.length g.length).2.length ?_ ?_
 ·refine ⟨8,0,t,rfl,Nat.zero_le _,?_,?_⟩
  ·simp [Env.put,Env.of,zai,z6t]
  simp [zcs]
 rintro n vs S - ⟨k,t,rfl,h_k,rfl,rfl⟩
 refine W.r fun K hK=>?_
 simp(disch:=omega)only[↓RU,RW,↓reduceIte,qE,reduceCtorEq,iP,w64,↓RS,RG,qA,qM,qL,zaa]
 apply hK;clear hK K
 refine W.seq ?_
 refine W.cond rfl (fun h3=>?_) (fun h3=>?_)
 ·try simp only[RL]at h3
  obtain ⟨b,hb2,hbm⟩:=zaj (show k<(zas g row.length g.length).2.length by omega)
  have hbf:=hso.2 b hbm
  have hba:=hbf.area
  have hsb:=zua hso.2 k
  refine W.skip ?_
  refine xn ?_
  refine W.seq ?_
  refine W.block ?_
  refine W.r fun K hK=>?_
  simp(disch:=omega)only[↓RU,RW,↓reduceIte,qE,reduceCtorEq,iP,↓RS,RG,qA,qM,qL,ty3,za7,zaa,za8,zks hb2,zbw,zbn,zbp]
  apply hK;clear hK K
  refine W.k fun K hK=>?_
  simp(disch:=omega)only[↓RU,RW,↓reduceIte,qE,reduceCtorEq,iP,qN,w64,↓RS,RG,qA,qM,qL,za7,zaa,za8,zks hb2,zbn,zbw]
  refine zac.pc (ygv (r:=b) (by omega) (by omega)) rfl (.inl rfl) ?_
  simp(disch:=omega)only[↓RU,RW,↓reduceIte,qE,reduceCtorEq,iP,qN,w64,↓RS,RG,qA,qM,qL,za7,zaa,za8,zks hb2,zbn,zbw]
  apply hK;clear hK K
  refine XbN ?_
  refine xn ?_
  refine W.k fun K hK=>?_
  simp(disch:=omega)only[↓RU,RW,↓reduceIte,qE,reduceCtorEq,iP,w64,↓RS,RG,qA,qM,qL,zaa]
  apply hK;clear hK K
  refine xn ?_
  refine ⟨(zas g row.length g.length).2.length - (k+1),by omega,8,k+1,_,rfl,by omega,?_,rfl⟩
  simp [Env.put,Env.of,zr4 hb2]
 try simp only[RL]at h3
 obtain rfl:k=(zas g row.length g.length).2.length:=by omega
 rw [List.take_length]
 refine W.exit ?_
 refine xe ?_
 refine xe ?_
 refine XBlock.hit ?_
 refine xn ?_
 refine W.seq_draw (by kernel_rfl) fun K hK=>?_
 obtain ⟨zr,hzr,hzl,-⟩:=(yk2 hg).at_ (i:=0) (j:=0) (by omega) (by omega)
 have hZl:=zc6 (g:=g) (nw:=row.length) g.length
 have hpr:=Nat.mul_le_mul hgl.2 hb.2
 simp(disch:=omega)only[↓RU,RW,↓reduceIte,qE,reduceCtorEq,iP,qN,w64,↓RS,RG,qA,qM,qL,ty7,zaa,hZl,hzl]
 refine zac.pc (zh1 (ze7 g row.length g.length) (zas g row.length g.length).2) (za5 (zk8 (f:=6) rfl rfl (zc6 _) rfl) rfl) (.inl rfl) ?_
 simp(disch:=omega)only[↓RU,RW,↓reduceIte,qE,reduceCtorEq,iP,qN,w64,↓RS,RG,qA,qM,qL,ty7,zaa,hZl,hzl]
 refine zac.pc (zir (g:=(ze7 g row.length g.length)) hzr (zas g row.length g.length).2) (za5 (zk8 (f:=6) rfl rfl (zc6 _) rfl) rfl) (.inl rfl) ?_
 simp(disch:=omega)only[↓RU,RW,↓reduceIte,qE,reduceCtorEq,iP,qN,w64,↓RS,RG,qA,qM,qL,ty7,zaa,hZl,hzl]
 apply hK;clear hK K
 refine W.ret ?_
 refine Br rfl ?_
 have hok:okS g=true:=by unfold okS stG; rw [hw0,znx.2 (by rw [hw0]; exact hg)]; simp; omega
 rw [ze0,hok,if_pos rfl]
 unfold stG zG zh5 stG
 rw [hw0]
 refine zn2 (k:=9) (zk8 (f:=5) rfl rfl (zc6 _) rfl) ?_
 have he:(z6t (zas g row.length g.length).2 == (g.length:Int)*row.length)=decide (z6t (zas g row.length g.length).2=((g.length*row.length:Nat):Int)):=by rw [Int.natCast_mul]; rfl
 rw [← he]
 rfl
def zwo (t:Txt):List Int:=t.map fun c=>(c.toNat:Int)
def zbm (p:List Txt):List (List Int):=p.map zwo
def zhs (p:List Txt):Bool:=p.all fun r=>r.all zda
def zvv (p:List Txt):PV:=if zhs p then ze0 (zbm p) else .tup [.nilp,.bool false]
def okB (p:List Txt):Bool:=zhs p && okS (zbm p)
def gP (p:List Txt):List (List Int):=zG (zbm p)
def rP (p:List Txt):List Rect:=(stG (zbm p)).2
theorem zka (t:Txt):(zwo t).length=t.length:=by simp [zwo]
theorem ya6 {t:Txt} {k:Nat} {c:UInt8} (h:t[k]?=some c):zwo (t.take (k+1))=zwo (t.take k)++[(c.toNat:Int)]:=by simp [zwo,tk h]
theorem z6a {p:List Txt} {i:Nat} {t:Txt} (h:p[i]?=some t):zbm (p.take (i+1))=zbm (p.take i)++[zwo t]:=by simp [zbm,tk h]
theorem zdn (p:List Txt):(zbm p).length=p.length:=by simp [zbm]
theorem zq0 {p:List Txt} {r:Txt} {c:UInt8} (hr:r∈p) (hc:c∈r) (h:zda c=false):zhs p=false:=by
 unfold zhs
 rw [List.all_eq_false]
 refine ⟨r,hr,?_⟩
 rw [Bool.not_eq_true,List.all_eq_false]
 exact ⟨c,hc,by rw [h]; exact Bool.false_ne_true⟩
theorem zuh {g:List (List Int)} {i:Nat} (hi:i<6) {s:List Int × List Rect} (hs:zso s.1 s.2) {n:Nat} (hn:n≤6):∀ j,j≤n→∀ z∈zod g i s j,0≤z∧z≤s.1.length+n
 | 0,_,z,h=>by simp [zod]at h
 | j+1,hj,z,h=>by
  simp only[zod,List.mem_append,List.mem_singleton]at h
  rcases h with h | rfl
  ·exact zuh hi hs hn j (by omega) z h
  have h1:=zhq (ks:=(zdf g i s j).1) (z:=gz g i j)
  obtain ⟨-,h2,-,-⟩:=zm2 (g:=g) hi hs j (by omega)
  omega
theorem zit {g:List (List Int)} {nw:Nat} (hw:nw≤6) (hw1:1≤nw):∀ i,i≤6→∀ r∈ze7 g nw i,∀ z∈r,0≤z∧z≤100
 | 0,_,r,h=>by simp [ze7]at h
 | i+1,hi,r,h=>by
  simp only[ze7,List.mem_append,List.mem_singleton]at h
  rcases h with h | rfl
  ·exact zit hw hw1 i (by omega) r h
  intro z hz
  obtain ⟨h1,h2,-⟩:=zgm (g:=g) hw hw1 i (by omega)
  have:=zuh (g:=g) (i:=i) (by omega) h1 hw nw (qR _) z hz
  omega
theorem z9y {g:List (List Int)} (h:okS g=true):GW g g.length (w0 g):=by
 unfold okS at h
 rw [qB]at h
 exact znx.1 h.1
theorem ylw {g:List (List Int)} (h:okS g=true):GW (zG g) g.length (w0 g):=yk2 (z9y h)
theorem yfb {g:List (List Int)} (h:okS g=true):∀ r∈zG g,∀ z∈r,0≤z∧z≤100:=by
 obtain ⟨-,-,h1,h2,h3,h4⟩:=z9y h
 exact zit h4 h3 _ h2
theorem zld {g:List (List Int)} (h:okS g=false):ze0 g = .tup [.nilp,.bool false]:=by rw [ze0,h]; rfl
theorem zjn {g:List (List Int)} (h:okS g=true):ze0 g = .tup [zar (zG g) (stG g).2,.bool (zh5 g)]:=by rw [ze0,h]; rfl
theorem z6h {S:Store} {lo k:Nat} (l:List (List Int)):(l.map eInts).mapM (rfz S lo (k+1))=some (l.map eInts):=z1r (fun _=>rfl) l
theorem yeg {p:List Txt} (h:okB p=false):zvv p = .tup [.nilp,.bool false]:=by
 unfold okB at h
 unfold zvv
 cases hl:zhs p with
 | false=>rfl
 | true=>rw [hl,Bool.true_and]at h; rw [if_pos rfl,zld h]
theorem yan {p:List Txt} (h:okB p=true):zvv p = .tup [zar (gP p) (rP p),.bool (zh5 (zbm p))]:=by
 unfold okB at h
 rw [qB]at h
 rw [zvv,if_pos h.1,zjn h.2]
 rfl
theorem zx8 {p:List Txt} (h:okB p=true):GW (gP p) p.length (w0 (zbm p)):=by
 unfold okB at h
 rw [qB]at h
 have:=ylw h.2
 rwa [zdn]at this
theorem z9x {p:List Txt} (h:okB p=true):∀ r∈gP p,∀ z∈r,0≤z∧z≤100:=by
 unfold okB at h
 rw [qB]at h
 exact yfb h.2
theorem zzw (g:List (List Int)):(zf9 g).length=g.length:=by simp [zf9]
def zor (p:List Txt):Bool:=zh5 (zbm p) && decide (zf9 (gP p)=p)
def zeb (p:List Txt):Bool:=okB p && zor p
def zdx (p:List Txt):Bool:=zeb p && decide (zsk (gP p) 4 (w0 (zbm p)) p.length=0)
theorem zmg {p:List Txt} (h:okB p=true):(rP p).length≤9:=by
 unfold okB okS at h
 simp only[qB,decide_eq_true_eq]at h
 exact h.2.2
theorem znw {p:List Txt} (h:okB p=true):1≤(rP p).length:=by
 unfold okB at h
 rw [qB]at h
 obtain ⟨-,-,h1,h2,h3,h4⟩:=z9y h.2
 obtain ⟨k1,-,k3⟩:=zgm (g:=zbm p) h4 h3 _ h2
 have:=k1.1
 have:=k3 h1
 unfold rP stG
 omega
theorem z6n {g:List (List Int)} (hsm:g.length<2147483648) (hsr:∀ r∈g,r.length<2147483648) (h:okS g=false):PC Tryz.prog 83 [zct g] (.tup [.nilp,.bool false]) false:=by
 rw [← zld h]; exact zt5 hsm hsr
theorem zr0 {g:List (List Int)} (hsm:g.length<2147483648) (hsr:∀ r∈g,r.length<2147483648) (h:okS g=true):PC Tryz.prog 83 [zct g] (.tup [zar (zG g) (stG g).2,.bool (zh5 g)]) false:=by
 rw [← zjn h]; exact zt5 hsm hsr
theorem yao {p:List Txt} (hs:Sm p):PC Tryz.prog 50 [zbi p] (zvv p) false:=by
 have hp:=hs.rows
 refine PC.of ⟨Tryz.func50,by kernel_rfl,rfl,by kernel_rfl⟩ zav mixed (by show 1≤Tryz.f50.ntmps; decide) ?_
 refine W.r fun K hK=>?_
 simp(disch:=omega)only[↓RU,RW,↓reduceIte,qE,reduceCtorEq,iP,↓RS,RG,qA,qM,qL]
 apply hK;clear hK K
 refine W.r fun K hK=>?_
 simp(disch:=omega)only[↓RU,RW,↓reduceIte,qE,reduceCtorEq,iP,↓RS,RG,qA,qM,qL,ty1,zab,zcl,zaa]
 apply hK;clear hK K
 refine W.joinZ [4] (fun vs S=>∃ tk:Nat,zhs p=true∧vs=[zct (zbm p)]∧S=⟨[],tk⟩) ?_ ?_
 ·
  refine W.r fun K hK=>?_
  simp(disch:=omega)only[↓RU,RW,↓reduceIte,qE,reduceCtorEq,iP,↓RS,RG,qA,qM,qL,ty5,zal]
  apply hK;clear hK K
  refine W.block ?_
  refine W.loopZ [4,11,12,13] (fun n vs S=>∃ i v0 tk:Nat,n=p.length - i∧i≤p.length∧((p.take i).all (fun r=>r.all zda)=true)∧vs=[.loc 0 v0 0 i,zbi p,.int .i64 p.length,.int .i64 i]∧S=⟨[.arr v0 28 1 ((zbm (p.take i)).map eInts)],tk⟩) (p.length) ?_ ?_
  ·refine ⟨1,[.loc 0 0 0 0,zbi p,.int .i64 p.length,.int .i64 0],⟨[.arr 0 28 1 ((zbm (p.take 0)).map eInts)],1⟩,?_,?_,0,0,1,rfl,by omega,rfl,rfl,rfl⟩
   ·rfl
   rfl
  rintro n vs S - ⟨i,v0,tk,rfl,h_i,hall,rfl,rfl⟩
  refine W.r fun K hK=>?_
  simp(disch:=omega)only[↓RU,RW,↓reduceIte,qE,reduceCtorEq,iP,w64,↓RS,RG,qA,qM,qL,zaa]
  apply hK;clear hK K
  refine W.seq ?_
  refine W.cond rfl (fun h=>?_) (fun h=>?_)
  ·try simp only[RL]at h
   obtain ⟨row,hrow,hrm⟩:=zaj (show i<p.length by omega)
   have hrl:=hs.cols row hrm
   have hgk:(zbm (p.take i)).length=i:=by rw [zdn,List.length_take]; omega
   have hgt:((zbm (p.take i)).map eInts).take i=(zbm (p.take i)).map eInts:=qT (by rw [List.length_map]; omega)
   refine W.skip ?_
   refine xn ?_
   refine W.seq ?_
   refine W.block ?_
   refine W.r fun K hK=>?_
   simp(disch:=omega)only[↓RU,RW,↓reduceIte,qE,reduceCtorEq,iP,↓RS,RG,qA,qM,qL,ty5,zal,hrow]
   apply hK;clear hK K
   refine W.r fun K hK=>?_
   simp(disch:=omega)only[↓RU,RW,↓reduceIte,qE,reduceCtorEq,iP,↓RS,RG,qA,qM,qL,zab,zaa]
   apply hK;clear hK K
   refine W.seq ?_
   refine W.r fun K hK=>?_
   simp(disch:=omega)only[↓RU,RW,↓reduceIte,qE,reduceCtorEq,iP,w64,↓RS,RG,qA,qM,qL,ty6,zal,zhv]
   apply hK;clear hK K
   refine W.block ?_
   refine W.loop [4,11,12,13,7,19,20,21] (fun n vs S=>∃ k v1 t:Nat,n=row.length - k∧k≤row.length∧((row.take k).all zda=true)∧vs=[.loc 0 v0 0 i,zbi p,.int .i64 p.length,.int .i64 i,.loc 1 v1 0 k,.sl (row.map eB) row.length,.int .i64 row.length,.int .i64 k]∧S=⟨[.arr v0 28 1 ((zbm (p.take i)).map eInts),.arr v1 3 1 ((zwo (row.take k)).map (.int .i64))],t⟩) (row.length) ?_ ?_
   ·refine ⟨2,0,_,_,rfl,Nat.zero_le _,rfl,?_,rfl⟩
    simp [Env.put,Env.of]
   rintro n vs S - ⟨k,v1,t,rfl,h_k,hrk,rfl,rfl⟩
   refine W.r fun K hK=>?_
   simp(disch:=omega)only[↓RU,RW,↓reduceIte,qE,reduceCtorEq,iP,w64,↓RS,RG,qA,qM,qL,zaa]
   apply hK;clear hK K
   refine W.seq ?_
   refine W.cond rfl (fun h1=>?_) (fun h1=>?_)
   ·try simp only[RL]at h1
    obtain ⟨c,hc,hcm⟩:=zaj (show k<row.length by omega)
    have hcb:=c.toNat_lt
    have hrowk:(zwo (row.take k)).length=k:=by rw [zka,List.length_take]; omega
    have hrowt:((zwo (row.take k)).map (PV.int .i64)).take k=(zwo (row.take k)).map (PV.int .i64):=qT (by rw [List.length_map]; omega)
    refine W.skip ?_
    refine xn ?_
    refine W.seq ?_
    refine W.block ?_
    refine W.r fun K hK=>?_
    simp(disch:=omega)only[↓RU,RW,↓reduceIte,qE,reduceCtorEq,iP,↓RS,RG,qA,qM,qL,ty6,zhv,hc]
    apply hK;clear hK K
    refine W.seq ?_
    refine W.r fun K hK=>?_
    rcases (show (c.toNat:Int)<97∨(c.toNat:Int)>122∨(97≤c.toNat∧c.toNat≤122) by omega) with hb | hb | hb
    ·skip
     have hd:decide ((c.toNat:Int)<97)=true:=decide_eq_true hb
     have hlc:zda c=false:=by unfold zda; rw [decide_eq_false (by omega)]; rfl
     simp(disch:=omega)only[↓RU,RW,↓reduceIte,qE,reduceCtorEq,iP,w64,↓RS,RG,qA,qM,qL,zhv,hd]
     apply hK;clear hK K
     refine W.cond rfl (fun h2=>?_) (fun h2=>?_)
     ·try simp only[RL]at h2
      refine W.r fun K hK=>?_
      simp(disch:=omega)only[↓RU,RW,↓reduceIte,qE,reduceCtorEq,iP,↓RS,RG,qA,qM,qL]
      apply hK;clear hK K
      refine W.ret ?_
      refine XThen.ret ?_
      refine XBlock.ret ?_
      refine XThen.ret ?_
      refine XThen.ret ?_
      refine XBlock.ret ?_
      refine XThen.ret ?_
      refine XBlock.ret ?_
      refine XThen.ret ?_
      refine XThen.ret ?_
      refine XBlock.ret ?_
      refine XThen.ret ?_
      refine Br rfl ?_
      rw [zvv,zq0 hrm hcm hlc]
      rfl
     try simp only[RL]at h2
     exact absurd h2 (by simp)
    ·skip
     have hd:decide ((c.toNat:Int)<97)=false:=decide_eq_false (by omega)
     have hd2:decide ((c.toNat:Int)>122)=true:=decide_eq_true hb
     have hlc:zda c=false:=by unfold zda; rw [decide_eq_false (p:=c.toNat≤122) (by omega),Bool.and_false]
     simp(disch:=omega)only[↓RU,RW,↓reduceIte,qE,reduceCtorEq,iP,w64,↓RS,RG,qA,qM,qL,zhv,hd,hd2]
     apply hK;clear hK K
     refine W.cond rfl (fun h2=>?_) (fun h2=>?_)
     ·try simp only[RL]at h2
      refine W.r fun K hK=>?_
      simp(disch:=omega)only[↓RU,RW,↓reduceIte,qE,reduceCtorEq,iP,↓RS,RG,qA,qM,qL]
      apply hK;clear hK K
      refine W.ret ?_
      refine XThen.ret ?_
      refine XBlock.ret ?_
      refine XThen.ret ?_
      refine XThen.ret ?_
      refine XBlock.ret ?_
      refine XThen.ret ?_
      refine XBlock.ret ?_
      refine XThen.ret ?_
      refine XThen.ret ?_
      refine XBlock.ret ?_
      refine XThen.ret ?_
      refine Br rfl ?_
      rw [zvv,zq0 hrm hcm hlc]
      rfl
     try simp only[RL]at h2
     exact absurd h2 (by simp)
    skip
    have hd:decide ((c.toNat:Int)<97)=false:=decide_eq_false (by omega)
    have hd2:decide ((c.toNat:Int)>122)=false:=decide_eq_false (by omega)
    have hlc:zda c=true:=by unfold zda; rw [decide_eq_true hb.1,decide_eq_true hb.2]; rfl
    simp(disch:=omega)only[↓RU,RW,↓reduceIte,qE,reduceCtorEq,iP,w64,↓RS,RG,qA,qM,qL,zhv,hd,hd2]
    apply hK;clear hK K
    refine W.cond rfl (fun h2=>?_) (fun h2=>?_)
    ·try simp only[RL]at h2
     exact absurd h2 (by simp)
    try simp only[RL]at h2
    refine W.skip ?_
    refine xn ?_
    refine W.k fun K hK=>?_
    simp(disch:=omega)only[↓RU,RW,↓reduceIte,qE,reduceCtorEq,iP,w64,↓RS,RG,qA,qM,qL,zab,zaa,zhv,hrowk,hrowt,qR]
    apply hK;clear hK K
    refine XbN ?_
    refine xn ?_
    refine W.k fun K hK=>?_
    simp(disch:=omega)only[↓RU,RW,↓reduceIte,qE,reduceCtorEq,iP,w64,↓RS,RG,qA,qM,qL,zaa]
    apply hK;clear hK K
    refine xn ?_
    refine ⟨row.length - (k+1),by omega,2,k+1,t+1,t+2,rfl,by omega,zsr hc hrk hlc,?_,?_⟩
    ·simp [Env.put,Env.of]
    simp [zcs,ya6 hc]
   try simp only[RL]at h1
   obtain rfl:k=row.length:=by omega
   have hra:row.all zda=true:=by rw [List.take_length]at hrk; exact hrk
   have hrz:=zka row
   rw [List.take_length]
   generalize hYe:zwo row=Y at hrz
   have hYt:(Y.map (PV.int .i64)).take row.length=Y.map (PV.int .i64):=qT (by rw [List.length_map]; omega)
   have hYE:eInts Y=PV.sl (Y.map (PV.int .i64)) row.length:=by rw [← hrz]
   refine W.exit ?_
   refine xe ?_
   refine xe ?_
   refine XBlock.hit ?_
   refine xn ?_
   refine W.k fun K hK=>?_
   simp(disch:=omega)only[↓RU,RW,↓reduceIte,qE,reduceCtorEq,iP,↓RS,RG,qA,qM,qL,ty1,zab,zcl,zaa,hgk,hgt,qR]
   apply hK;clear hK K
   refine XbN ?_
   refine xn ?_
   refine W.k fun K hK=>?_
   simp(disch:=omega)only[↓RU,RW,↓reduceIte,qE,reduceCtorEq,iP,w64,↓RS,RG,qA,qM,qL,zaa]
   apply hK;clear hK K
   refine xn ?_
   refine ⟨p.length - (i+1),by omega,1,[.loc 0 (t+1) 0 (i+1),zbi p,.int .i64 p.length,.int .i64 (i+1)],⟨[.arr (t+1) 28 1 ((zbm (p.take (i+1))).map eInts)],(t+2)⟩,?_,?_,(i+1),(t+1),(t+2),rfl,by omega,zsr hrow hall hra,rfl,rfl⟩
   ·simp [-qU,Store.frz,zec,zej,zcn,zds,zdj,zd4,zfl,zc8,zcu,zc9,zcm,zcp,zd9,zdb,zd5,zc7,Env.put,Env.of,zai,zd8,qP,qC]
   simp [-qU,Store.frz,zec,zej,zcn,zds,zdj,zd4,zfl,zc8,zcu,zc9,zcm,zcp,zd9,zdb,zd5,zc7,Env.put,Env.of,zai,zd8,qP,qC,z6a hrow,hYe,hYt,hYE,hrz]
  try simp only[RL]at h
  refine W.exit ?_
  refine xe ?_
  refine xe ?_
  refine XBlock.hit ?_
  refine xn ?_
  obtain rfl:i=p.length:=by omega
  rw [List.take_length]at hall ⊢
  have hgt2:((zbm p).map eInts).take p.length=(zbm p).map eInts:=qT (by simp [zbm])
  have hgE:zct (zbm p)=PV.sl ((zbm p).map eInts) p.length:=by rw [← zdn p]
  refine ⟨0,[zct (zbm p)],⟨[],tk⟩,?_,?_,tk,hall,rfl,rfl⟩
  ·simp [-qU,Store.frz,zec,zej,zcn,zds,zdj,zd4,zfl,zc8,zcu,zc9,zcm,zcp,zd9,zdb,zd5,zc7,Env.put,Env.of,zai,zd8,qP,qC,hgt2,hgE,zdn,z6h]
  simp [-qU,Store.frz,zec,zej,zcn,zds,zdj,zd4,zfl,zc8,zcu,zc9,zcm,zcp,zd9,zdb,zd5,zc7,Env.put,Env.of,zai,zd8,qP,qC]
 rintro vs S - ⟨tk,hlet,rfl,rfl⟩
 refine W.r fun K hK=>?_
 cases hok:okS (zbm p)
 ·skip
  simp(disch:=omega)only[↓RU,RW,↓reduceIte,qE,reduceCtorEq,iP,qN,↓RS,RG,qA,qM,qL]
  refine zac.pc (z6n (g:=zbm p) (by rw [zdn]; omega) (fun r hr=>by obtain ⟨t,ht,rfl⟩:=List.mem_map.1 hr; rw [zka]; exact hs.cols t ht) hok) rfl (.inr rfl) ?_
  simp(disch:=omega)only[↓RU,RW,↓reduceIte,qE,reduceCtorEq,iP,qN,↓RS,RG,qA,qM,qL]
  apply hK;clear hK K
  refine W.ret ?_
  refine Br rfl ?_
  rw [zvv,hlet,if_pos rfl,zld hok]
  rfl
 skip
 simp(disch:=omega)only[↓RU,RW,↓reduceIte,qE,reduceCtorEq,iP,qN,↓RS,RG,qA,qM,qL]
 refine zac.pc (zr0 (g:=zbm p) (by rw [zdn]; omega) (fun r hr=>by obtain ⟨t,ht,rfl⟩:=List.mem_map.1 hr; rw [zka]; exact hs.cols t ht) hok) rfl (.inr rfl) ?_
 simp(disch:=omega)only[↓RU,RW,↓reduceIte,qE,reduceCtorEq,iP,qN,↓RS,RG,qA,qM,qL]
 apply hK;clear hK K
 refine W.ret ?_
 refine Br rfl ?_
 rw [zvv,hlet,if_pos rfl,zjn hok]
 rfl
theorem yik {p:List Txt} (hs:Sm p) (h:okB p=false):PC Tryz.prog 50 [zbi p] (.tup [.nilp,.bool false]) false:=by
 rw [← yeg h]; exact yao hs
theorem yeh {p:List Txt} (hs:Sm p) (h:okB p=true):PC Tryz.prog 50 [zbi p] (.tup [zar (gP p) (rP p),.bool (zh5 (zbm p))]) false:=by
 rw [← yan h]; exact yao hs
theorem z5n {p:List Txt} (hs:Sm p) (h:okB p=false):PC Tryz.prog 24 [zbi p] (.tup [.nilp,.bool false]) false:=by
 refine PC.of ⟨Tryz.func24,by kernel_rfl,rfl,by kernel_rfl⟩ zav mixed (by show 1≤Tryz.f24.ntmps; decide) ?_
 refine W.r fun K hK=>?_
 simp(disch:=omega)only[↓RU,RW,↓reduceIte,qE,reduceCtorEq,iP]
 apply hK;clear hK K
 refine W.r fun K hK=>?_
 simp(disch:=omega)only[↓RU,RW,↓reduceIte,qE,reduceCtorEq,iP,qN]
 refine zac.pc (yik hs h) rfl (.inr rfl) ?_
 simp(disch:=omega)only[↓RU,RW,↓reduceIte,qE,reduceCtorEq,iP,qN]
 apply hK;clear hK K
 refine W.r fun K hK=>?_
 simp(disch:=omega)only[↓RU,RW,↓reduceIte,qE,reduceCtorEq,iP,qN]
 apply hK;clear hK K
 refine W.ret ?_
 refine Br rfl ?_
 rfl
theorem z0z {p:List Txt} (hs:Sm p) (h:okB p=true):PC Tryz.prog 24 [zbi p] (.tup [zar (gP p) (rP p),.bool (zor p)]) false:=by
 have hg:=zx8 h
 have hz:=z9x h
 have hrows:=hs.rows
 refine PC.of ⟨Tryz.func24,by kernel_rfl,rfl,by kernel_rfl⟩ zav mixed (by show 1≤Tryz.f24.ntmps; decide) ?_
 refine W.r fun K hK=>?_
 simp(disch:=omega)only[↓RU,RW,↓reduceIte,qE,reduceCtorEq,iP]
 apply hK;clear hK K
 refine W.r fun K hK=>?_
 simp(disch:=omega)only[↓RU,RW,↓reduceIte,qE,reduceCtorEq,iP,qN]
 refine zac.pc (yeh hs h) rfl (.inr rfl) ?_
 simp(disch:=omega)only[↓RU,RW,↓reduceIte,qE,reduceCtorEq,iP,qN]
 apply hK;clear hK K
 refine W.r fun K hK=>?_
 cases hf:zh5 (zbm p)
 ·skip
  simp(disch:=omega)only[↓RU,RW,↓reduceIte,qE,reduceCtorEq,iP,qN]
  apply hK;clear hK K
  refine W.ret ?_
  refine Br rfl ?_
  rw [zor,hf]
  rfl
 skip
 simp(disch:=omega)only[↓RU,RW,↓reduceIte,qE,reduceCtorEq,iP,qN,hf]
 refine zac.pc (ybz hg (rP p) hz) rfl (.inl rfl) ?_
 simp(disch:=omega)only[↓RU,RW,↓reduceIte,qE,reduceCtorEq,iP,qN,hf]
 refine zac.pc (zxj (p:=zf9 (gP p)) (q:=p) (by rw [zzw,hg.1]; omega) hs.rows) rfl (.inl rfl) ?_
 simp(disch:=omega)only[↓RU,RW,↓reduceIte,qE,reduceCtorEq,iP,qN,hf]
 apply hK;clear hK K
 refine W.ret ?_
 refine Br rfl ?_
 rw [zor,hf]
 rfl
theorem zdd {p:List Txt} (hs:Sm p):∃ x,PC Tryz.prog 24 [zbi p] (.tup [x,.bool (zeb p)]) false∧(zeb p=true→x=zar (gP p) (rP p))∧∀ (S:Store) (k:Nat),reify S true (k+1) x=some x:=by
 unfold zeb
 cases h:okB p with
 | false=>exact ⟨_,z5n hs h,(fun h=>by cases h),fun _ _=>rfl⟩
 | true=>exact ⟨_,z0z hs h,fun _=>rfl,fun _ _=>rfl⟩
theorem z1m {p:List Txt} (hs:Sm p) {x:PV} (hx:PC Tryz.prog 24 [zbi p] (.tup [x,.bool (zeb p)]) false) (hy:zeb p=true→x=zar (gP p) (rP p)) (hr:∀ (S:Store) (k:Nat),reify S true (k+1) x=some x):PC Tryz.prog 36 [zbi p] (.tup [x,.bool (zdx p)]) false:=by
 refine PC.of ⟨Tryz.func36,by kernel_rfl,rfl,by kernel_rfl⟩ zav mixed (by show 1≤Tryz.f36.ntmps; decide) ?_
 refine W.r fun K hK=>?_
 simp(disch:=omega)only[↓RU,RW,↓reduceIte,qE,reduceCtorEq,iP]
 apply hK;clear hK K
 refine W.r fun K hK=>?_
 simp(disch:=omega)only[↓RU,RW,↓reduceIte,qE,reduceCtorEq,iP,qN]
 refine zac.pc (hx) rfl (.inr rfl) ?_
 simp(disch:=omega)only[↓RU,RW,↓reduceIte,qE,reduceCtorEq,iP,qN]
 apply hK;clear hK K
 refine W.r fun K hK=>?_
 cases hf:zeb p
 ·skip
  simp(disch:=omega)only[↓RU,RW,↓reduceIte,qE,reduceCtorEq,iP,qN]
  apply hK;clear hK K
  refine W.ret ?_
  refine Br rfl ?_
  rw [zdx,hf]
  exact zn2 (k:=9) (hr _ 8) rfl
 skip
 have hxe:=hy hf
 subst hxe
 have hok:okB p=true:=by unfold zeb at hf; rw [qB]at hf; exact hf.1
 have hg:=zx8 hok
 simp(disch:=omega)only[↓RU,RW,↓reduceIte,qE,reduceCtorEq,iP,qN,hf]
 refine zac.pc (z8k hg (rP p)) rfl (.inl rfl) ?_
 simp(disch:=omega)only[↓RU,RW,↓reduceIte,qE,reduceCtorEq,iP,qN,hf]
 apply hK;clear hK K
 refine W.ret ?_
 refine Br rfl ?_
 rw [zdx,hf]
 rfl
theorem zri {p:List Txt} (h:zdx p=true):okB p=true∧zdx p=true:=by
 refine ⟨?_,h⟩
 unfold zdx zeb at h
 simp only[qB]at h
 exact h.1.1
theorem znz {p:List Txt} (hs:Sm p):∃ x,PC Tryz.prog 36 [zbi p] (.tup [x,.bool (zdx p)]) false∧(zdx p=true→x=zar (gP p) (rP p))∧∀ (S:Store) (k:Nat),reify S true (k+1) x=some x:=by
 obtain ⟨x,h1,h2,h3⟩:=zdd hs
 refine ⟨x,z1m hs h1 h2 h3,fun h=>h2 ?_,h3⟩
 unfold zdx at h
 rw [qB]at h
 exact h.1
def Same (n:Nat) (M:List (List Bool)) (ms:List Nat):Prop:=Sq n M∧ms.length=n∧∀ a b,a<n→b<n→zcv M a b=zum ms a b
theorem zl2 {n:Nat} {M:List (List Bool)} (h:Sq n M) {a b x y:Nat} {v:Bool} (ha:a<n) (hb:b<n):zcv (z6m M a b v) x y=if x=a∧y=b then v else zcv M x y:=by
 obtain ⟨row,hr,hl,-⟩:=h.at_ ha hb
 rw [zhf hr]
 unfold zcv
 rw [List.getElem?_set]
 by_cases hx:a=x
 ·subst hx
  rw [if_pos rfl,if_pos (by rw [h.1]; exact ha),Option.getD_some,List.getElem?_set,hr]
  by_cases hy:b=y
  ·subst hy
   rw [if_pos rfl,if_pos (by omega),if_pos ⟨rfl,rfl⟩]; rfl
  rw [if_neg hy,if_neg (fun h=>hy h.2.symm)]; rfl
 rw [if_neg hx,if_neg (fun h=>hx h.1.symm)]
theorem z2o {n:Nat} {M:List (List Bool)} (h:Sq n M) {k a:Nat} (hk:k<n) (ha:a<n):∀ i,i≤n→Sq n ((List.range i).foldl (clB k a) M) ∧
  ∀ x y,x<n→y<n→zcv ((List.range i).foldl (clB k a) M) x y=if x=a∧y<i then zcv M a y || (zcv M a k && zcv M k y) else zcv M x y
 | 0,_=>⟨h,fun x y _ _=>by simp⟩
 | i+1,hi=>by
  obtain ⟨h1,h2⟩:=z2o h hk ha i (by omega)
  rw [zcz]
  generalize (List.range i).foldl (clB k a) M=X at h1 h2 ⊢
  refine ⟨h1.clB ha,fun x y hx hy=>?_⟩
  unfold clB
  rw [zl2 h1 ha (by omega),h2 a i ha (by omega),h2 a k ha hk,h2 k i hk (by omega),h2 x y hx hy]
  have e1:(if a=a∧k<i then zcv M a k || (zcv M a k && zcv M k k) else zcv M a k)=zcv M a k:=by
   split
   ·cases zcv M a k <;> simp
   rfl
  have e2:(if k=a∧i<i then zcv M a i || (zcv M a k && zcv M k i) else zcv M k i)=zcv M k i:=by rw [if_neg (by omega)]
  have e3:(if a=a∧i<i then zcv M a i || (zcv M a k && zcv M k i) else zcv M a i)=zcv M a i:=by rw [if_neg (by omega)]
  rw [e1,e2,e3]
  by_cases hxa:x=a
  ·subst hxa
   by_cases hyi:y=i
   ·subst hyi; rw [if_pos ⟨rfl,rfl⟩,if_pos ⟨rfl,by omega⟩]
   rw [if_neg (fun h=>hyi h.2)]
   by_cases hlt:y<i
   ·rw [if_pos ⟨rfl,hlt⟩,if_pos ⟨rfl,by omega⟩]
   rw [if_neg (fun h=>hlt h.2),if_neg (fun h=>hlt (by have:=h.2; omega))]
  rw [if_neg (fun h=>hxa h.1),if_neg (fun h=>hxa h.1),if_neg (fun h=>hxa h.1)]
theorem zwu {ms:List Nat} {a m x y:Nat} (ha:a<ms.length):zum (ms.set a m) x y=if x=a then m.testBit y else zum ms x y:=by
 unfold zum
 rw [List.getElem?_set]
 by_cases h:a=x
 ·subst h; rw [if_pos rfl,if_pos ha,if_pos rfl]; rfl
 rw [if_neg h,if_neg (Ne.symm h)]
theorem ycq {c a:Nat} {ms:List Nat}:(yfg c ms a).length=ms.length:=by unfold yfg; split <;> simp
theorem Same.clA {n:Nat} {M:List (List Bool)} {ms:List Nat} (h:Same n M ms) {k a:Nat} (hk:k<n) (ha:a<n):Same n (clA n k M a) (yfg k ms a):=by
 obtain ⟨h1,h2,h3⟩:=h
 obtain ⟨k1,k2⟩:=z2o h1 hk ha n (qR _)
 refine ⟨k1,by rw [ycq,h2],fun x y hx hy=>?_⟩
 unfold Fw.clA
 rw [k2 x y hx hy]
 obtain ⟨m,hm,-⟩:=zaj (show a<ms.length by omega)
 obtain ⟨c,hc,-⟩:=zaj (show k<ms.length by omega)
 have hak:zcv M a k=m.testBit k:=by rw [h3 a k ha hk,zpa hm]
 cases hb:m.testBit k with
 | true =>
  rw [ycr hm hc hb,zwu (by omega),hak,hb]
  by_cases hxa:x=a
  ·subst hxa
   rw [if_pos ⟨rfl,hy⟩,if_pos rfl,Nat.testBit_or,h3 x y hx hy,h3 k y hk hy,zpa hm,zpa hc,Bool.true_and]
  rw [if_neg (fun h=>hxa h.1),if_neg hxa,h3 x y hx hy]
 | false =>
  rw [ygu hm hb,hak,hb]
  by_cases hxa:x=a
  ·subst hxa; rw [if_pos ⟨rfl,hy⟩,Bool.false_and,Bool.or_false,h3 x y hx hy]
  rw [if_neg (fun h=>hxa h.1),h3 x y hx hy]
theorem Same.fold {n:Nat} {f:List (List Bool)→Nat→List (List Bool)} {g:List Nat→Nat→List Nat}:∀ (i:Nat) {M:List (List Bool)} {ms:List Nat},i≤n→(∀ M ms j,j<n→Same n M ms→Same n (f M j) (g ms j))→Same n M ms→Same n ((List.range i).foldl f M) ((List.range i).foldl g ms)
 | 0,_,_,_,_,h=>h
 | i+1,M,ms,hi,hs,h=>by
  rw [zcz,zcz]
  exact hs _ _ i (by omega) (Same.fold i (by omega) hs h)
theorem Same.close {p:List Txt} {kind:Int} {n:Nat} {M:List (List Bool)} (h:Same n M (just p kind)):Same n (zgg M) (allS p kind):=by
 unfold zgg allS
 rw [h.1.1,h.2.1]
 exact Same.fold n (qR _) (fun _ _ k hk h=>Same.fold n (qR _) (fun _ _ a ha h=>h.clA hk ha) h) h
section
theorem zpc {α:Type} {f g:α→Bool}:∀ {l:List α},(∀ x∈l,f x=true→g x=true)→(∃ x∈l,g x=true∧f x=false)→l.countP f<l.countP g
 | [],_,h=>by obtain ⟨x,hx,_⟩:=h; simp at hx
 | a::l,h1,h2=>by
  have hle:l.countP f≤l.countP g:=List.countP_mono_left fun x hx=>h1 x (by simp [hx])
  have ha:=h1 a (by simp)
  rw [List.countP_cons,List.countP_cons]
  obtain ⟨x,hx,k1,k2⟩:=h2
  rcases List.mem_cons.1 hx with rfl | hx
  ·rw [k1,k2]; simp; omega
  have:=zpc (l:=l) (fun x hx=>h1 x (by simp [hx])) ⟨x,hx,k1,k2⟩
  cases hf:f a with
  | false=>simp; omega
  | true=>rw [ha hf]; simp; omega
def ahead (n:Nat) (rk:Nat→Nat) (b:Nat):Nat:=(List.range n).countP fun a=>decide (rk a<rk b)
theorem zo9 {n:Nat} {rk:Nat→Nat} {a b:Nat} (ha:a<n) (h:rk a<rk b):ahead n rk a<ahead n rk b :=
 zpc (fun x _ hx=>by simp at hx ⊢; omega) ⟨a,by simpa using ha,by simpa using h,by simp⟩
theorem z7b {n:Nat} {rk:Nat→Nat} {b:Nat} (hb:b<n):ahead n rk b<n:=by
 have:=zpc (l:=List.range n) (f:=fun a=>decide (rk a<rk b)) (g:=fun _=>true) (fun _ _ _=>rfl) ⟨b,by simpa using hb,rfl,by simp⟩
 simpa [ahead] using this
section
variable {M:List (List Bool)} {ms:List Nat} {ws:List Int} {n:Nat} {rk:Nat→Nat}
def beg (M:List (List Bool)) (ws:List Int) (n b:Nat):Int:=hvF M (HB M ws n) b n
def Ge (n:Nat) (o out:List Int):Prop:=∀ b,b<n→zcw o b≤zcw out b
theorem Ge.refl (o:List Int):Ge n o o:=fun _ _=>Int.le_refl _
theorem Ge.trans {a b c:List Int} (h:Ge n a b) (k:Ge n b c):Ge n a c:=fun x hx=>Int.le_trans (h x hx) (k x hx)
theorem ydj {l:List Int} {b y:Nat} {v:Int} (hb:b<l.length):zcw (l.set b v) y=if y=b then v else zcw l y:=by
 unfold zcw
 rw [List.getElem?_set]
 by_cases h:b=y
 ·subst h; rw [if_pos rfl,if_pos hb,if_pos rfl]; rfl
 rw [if_neg h,if_neg (Ne.symm h)]
theorem yfe (hu:Up M n rk) {b:Nat} (hb:b<n):HB M ws n b=beg M ws n b+zcw ws b:=yk6 hu hb
theorem z8v {g:Nat→Int} {b:Nat}:∀ i,0≤hvF M g b i
 | 0=>by simp [hvF]
 | i+1=>by
  have:=z8v (g:=g) (b:=b) i
  rw [zpj]
  split <;> omega
end
end
def kk (lv:Bool):Int:=if lv then 1 else 0
def z8b (w:Wall):List Int:=[kk w.level,w.line,w.fr,w.long]
def zvm (L:Nat) (f:Int) (i:Nat):List (List Int):=if 0≤f then [[(L:Int),f,(i:Int) - f]] else []
theorem zug {g:List (List Int)} {q:List Txt} {lv:Bool} {L P:Nat} (hd:∀ j,j<P→zh0 g lv L j=zgb q L j) {ws0:List Wall} {pre s0:List (List Int)} (h0:ws0.map z8b=pre++s0.map (kk lv :: ·)):∀ i,i≤P →
  -1≤(zeh q L s0 i).1∧(zb4 g lv L ws0 i).2=decide (0≤(zeh q L s0 i).1) ∧
  (zb4 g lv L ws0 i).1.map z8b=pre++((zeh q L s0 i).2++zvm L (zeh q L s0 i).1 i).map (kk lv :: ·)
 | 0,_=>by
  refine ⟨by simp [zeh],by simp [zlo,zeh],?_⟩
  rw [zlo]
  simpa [zeh,zvm] using h0
 | i+1,hi=>by
  obtain ⟨h1,h2,h3⟩:=zug hd h0 i (by omega)
  have hdi:=hd i (by omega)
  rw [zea]
  unfold zeh zeq
  rw [hdi]
  generalize zb4 g lv L ws0 i=s at h2 h3 ⊢
  obtain ⟨ws,op⟩:=s
  generalize zeh q L s0 i=u at h1 h2 h3 ⊢
  obtain ⟨f,l⟩:=u
  simp only at h1 h2 h3 ⊢
  cases hw:zgb q L i with
  | false =>
   simp only[zes,Bool.false_and,qF,if_false,Bool.not_false,Bool.true_and,decide_eq_true_eq]
   by_cases hf:0≤f
   ·rw [if_pos hf]
    refine ⟨by simp,by simp,?_⟩
    rw [h3]
    simp [zvm,hf]
   rw [if_neg hf]
   refine ⟨h1,by simp [hf],?_⟩
   rw [h3]
   simp [zvm,hf]
  | true =>
   simp only[zes,Bool.true_and,Bool.not_true,Bool.false_and,qF,if_false,if_true,decide_eq_true_eq]
   by_cases hf:0≤f
   ·have hop:op=true:=by rw [h2]; simpa using hf
    rw [if_pos hop,if_neg (show ¬ f<0 by omega)]
    refine ⟨h1,by simp [hf],?_⟩
    have hne:ws≠[]:=by
     rintro rfl
     simp [zvm,hf]at h3
    obtain ⟨ws,w,rfl⟩:=z9a hne
    simp only[zvm,hf,if_true,List.map_append,List.map_cons,List.map_nil,← List.append_assoc]at h3 ⊢
    obtain ⟨e1,e2⟩:=List.append_inj' h3 rfl
    simp only[List.dropLast_concat,List.getLast?_append,List.getLast?_singleton,Option.some_or,qO,Option.toList_some,List.map_append,List.map_cons,List.map_nil,e1]
    simp only[List.cons.injEq,and_true]at e2
    have e3:w.level=lv∧w.line=L∧w.fr=f∧w.long=i - f:=by
     simp only[z8b,List.cons.injEq,and_true]at e2
     refine ⟨?_,e2.2.1,e2.2.2.1,e2.2.2.2⟩
     have:=e2.1
     unfold kk at this
     cases hwl:w.level <;> cases hlv:lv <;> simp [hwl,hlv]at this ⊢
    obtain ⟨e4,e5,e6,e7⟩:=e3
    simp only[z8b,e4,e5,e6,e7,List.append_cancel_left_eq,List.cons.injEq,true_and,and_true]
    omega
   have hop:op=false:=by rw [h2]; simpa using hf
   rw [if_neg (show ¬ op=true by rw [hop]; exact Bool.false_ne_true),if_pos (show f<0 by omega)]
   refine ⟨by omega,by simp,?_⟩
   simp only[zvm,hf,if_false,qN]at h3
   simp only[zvm,List.map_append,h3,List.map_cons,List.map_nil]
   rw [if_pos (by omega)]
   simp [z8b]
   omega
theorem z62 {g:List (List Int)} {q:List Txt} {lv:Bool} {L:Nat} (hd:∀ j,j<q.length→zh0 g lv L j=zgb q L j) {ws0:List Wall} {pre s0:List (List Int)} (h0:ws0.map z8b=pre++s0.map (kk lv :: ·)) :
  (zb4 g lv L ws0 q.length).1.map z8b=pre++(zeh q L s0 (q.length+1)).2.map (kk lv :: ·):=by
 obtain ⟨h1,-,h3⟩:=zug hd h0 q.length (qR _)
 rw [h3]
 congr 2
 have e:zeh q L s0 (q.length+1)=zeq (zgb q L q.length) L q.length (zeh q L s0 q.length):=rfl
 rw [e,zjs]
 clear e h3 h1
 generalize zeh q L s0 q.length=u
 obtain ⟨f,l⟩:=u
 unfold zeq
 simp only[Bool.false_and,qF,if_false,Bool.not_false,Bool.true_and,decide_eq_true_eq,zvm]
 split <;> simp
theorem zlk {g:List (List Int)} {q:List Txt} {lv:Bool} {n:Nat} (hd:∀ L j,1≤L→L<n→j<q.length→zh0 g lv L j=zgb q L j) {ws0:List Wall}:∀ i,i≤n →
  (zca g lv q.length ws0 i).map z8b=ws0.map z8b++(zc5 q i).map (kk lv :: ·)
 | 0,_=>by simp [zca,zc5]
 | i+1,hi=>by
  have ih:=zlk hd (ws0:=ws0) i (by omega)
  by_cases h1:1≤i
  ·rw [zer h1,zke h1]
   exact z62 (fun j hj=>hd i j h1 (by omega) hj) ih
  obtain rfl:i=0:=by omega
  simpa [zca,zc5] using ih
theorem z61 {g:List (List Int)} {p:List Txt} (hg:zcx p=true) (hz:∀ i j,i<p.length→j<(zag p).length→gz g i j=zaf p i j):(zau g p.length (zag p).length).map z8b=walls p:=by
 have hsm:=zbo hg
 obtain ⟨row0,hrow0,hrm0⟩:=zaj hsm.1
 have hhd:=zcf hrow0
 have hw1:=zfr hg hrow0
 have htl:=zfu (p:=p)
 have hth:=zkd (p:=p) (by rw [hhd]; omega)
 have d0:∀ L j,1≤L→L<(zag p).length→j<p.length→zh0 g false L j=zgb p L j:=by
  intro L j h1 h2 h3
  unfold zh0 zbx zgb
  simp only[qF,if_false]
  rw [hz j (L - 1) h3 (by omega),hz j L h3 h2]
  simp [h3]
 have d1:∀ L j,1≤L→L<p.length→j<(zcq p).length→zh0 g true L j=zgb (zcq p) L j:=by
  intro L j h1 h2 h3
  have h3':=h3
  rw [htl]at h3'
  unfold zh0 zbx zgb
  simp only[if_true]
  rw [hz (L - 1) j (by omega) h3',hz L j h2 h3',zfa (by omega) h3',zfa h2 h3']
  simp [h3]
 unfold zau
 have e1:=zlk (lv:=true) d1 (ws0:=zca g false p.length [] (zag p).length) p.length (qR _)
 have e0:=zlk (lv:=false) d0 (ws0:=[]) (zag p).length (qR _)
 rw [htl]at e1
 rw [e1,e0]
 unfold walls uprights
 rw [hth]
 simp [kk]
theorem Same.orBit {n:Nat} {M:List (List Bool)} {ms:List Nat} (h:Same n M ms) {a b:Nat} (ha:a<n) (hb:b<n):Same n (z6m M a b true) (orBit ms a b):=by
 obtain ⟨h1,h2,h3⟩:=h
 obtain ⟨m,hm,-⟩:=zaj (show a<ms.length by omega)
 rw [yd3 hm]
 refine ⟨h1.set ha,by simp [h2],fun x y hx hy=>?_⟩
 rw [zl2 h1 ha hb,zwu (by omega)]
 by_cases hxa:x=a
 ·subst hxa
  rw [if_pos rfl,Nat.testBit_or,Nat.testBit_two_pow,h3 x y hx hy,zpa hm]
  by_cases hyb:y=b
  ·subst hyb; simp
  rw [if_neg (fun h=>hyb h.2),decide_eq_false (fun h=>hyb h.symm),Bool.or_false]
 rw [if_neg (fun h=>hxa h.1),if_neg hxa,h3 x y hx hy]
def Rm (n:Nat) (l:List Int):Prop:=∀ x∈l,0≤x∧x<n
theorem Same.relB {n:Nat} {a:Int} (ha:0≤a∧a<n):∀ {bs:List Int} {M:List (List Bool)} {ms:List Nat},Rm n bs→Same n M ms→Same n (relB a bs M) (yj8 a.toNat ms bs)
 | [],_,_,_,h=>h
 | b::bs,M,ms,hb,h=>by
  have hb0:=hb b (by simp)
  exact Same.relB ha (bs:=bs) (fun x hx=>hb x (by simp [hx])) (h.orBit (by omega) (by omega))
theorem Same.relW {n:Nat} {bs:List Int} (hb:Rm n bs):∀ {la:List Int} {M:List (List Bool)} {ms:List Nat},Rm n la→Same n M ms→Same n (relW M la bs) (yj7 bs ms la)
 | [],_,_,_,h=>h
 | a::la,M,ms,ha,h=>Same.relW hb (la:=la) (fun x hx=>ha x (by simp [hx])) (h.relB (ha a (by simp)) hb)
theorem Same.empty {n:Nat}:Same n (zcb n) (List.replicate n 0):=by
 refine ⟨ze4 n,by simp,fun a b ha hb=>?_⟩
 simp [zcv,zcb,zum,ha,hb]
def sN:Nat→(Nat→Nat)→Nat
 | 0,_=>0
 | n+1,f=>sN n f+f n
theorem zez {f g:Nat→Nat}:∀ {n:Nat},(∀ i,i<n→f i=g i)→sN n f=sN n g
 | 0,_=>rfl
 | n+1,h=>by rw [sN,sN,zez (n:=n) fun i hi=>h i (by omega),h n (by omega)]
theorem z6l {f g:Nat→Nat}:∀ {n:Nat},(∀ i,i<n→f i≤g i)→sN n f≤sN n g
 | 0,_=>qR _
 | n+1,h=>by
  have:=z6l (n:=n) fun i hi=>h i (by omega)
  have:=h n (by omega)
  simp only[sN]; omega
theorem yek {f g:Nat→Nat}:∀ {n:Nat},(∀ i,i<n→f i≤g i)→sN n f=sN n g→∀ i,i<n→f i=g i
 | 0,_,_,i,hi=>by omega
 | n+1,h,e,i,hi=>by
  have h1:=z6l (n:=n) fun i hi=>h i (by omega)
  have h2:=h n (by omega)
  simp only[sN]at e
  by_cases hin:i=n
  ·subst hin; omega
  exact yek (n:=n) (fun i hi=>h i (by omega)) (by omega) i (by omega)
theorem zrw:∀ n,sN n (fun _=>0)=0
 | 0=>rfl
 | n+1=>by rw [sN,zrw n]
theorem z4j:∀ n,sN n (fun _=>1)=n
 | 0=>rfl
 | n+1=>by rw [sN,z4j n]
theorem z4i (c:Nat):∀ n,sN n (fun _=>c)=n*c
 | 0=>by simp [sN]
 | n+1=>by rw [sN,z4i c n,Nat.succ_mul]
theorem ygd {f g:Nat→Nat}:∀ n,sN n (fun i=>f i+g i)=sN n f+sN n g
 | 0=>rfl
 | n+1=>by rw [sN,sN,sN,ygd n]; omega
theorem zv3 {f:Nat→Nat→Nat} {m:Nat}:∀ n,sN n (fun i=>sN m (fun j=>f i j))=sN m (fun j=>sN n (fun i=>f i j))
 | 0=>by simp only[sN]; rw [zrw]
 | n+1=>by
  simp only[sN]
  rw [zv3 n,ygd]
theorem ya7 {f:Nat→Nat} {c:Nat}:∀ n,sN n (fun i=>f i*c)=sN n f*c
 | 0=>by simp [sN]
 | n+1=>by rw [sN,sN,ya7 n,Nat.add_mul]
def b1 (b:Bool):Nat:=if b then 1 else 0
def cnt (H W:Nat) (f:Nat→Nat→Bool):Nat:=sN H fun i=>sN W fun j=>b1 (f i j)
theorem ygw {a b:Bool} (h:a=true→b=true):b1 a≤b1 b:=by
 cases a with
 | false=>simp [b1]
 | true=>rw [h rfl]; exact qR _
theorem yjm {a b:Bool} (h:b1 a=b1 b):a=b:=by cases a <;> cases b <;> simp [b1]at h ⊢
theorem yjw {H W:Nat} {f g:Nat→Nat→Bool} (h:∀ i j,i<H→j<W→f i j=true→g i j=true):cnt H W f≤cnt H W g :=
 z6l fun i hi=>z6l fun j hj=>ygw (h i j hi hj)
theorem yjv {H W:Nat} {f g:Nat→Nat→Bool} (h:∀ i j,i<H→j<W→f i j=true→g i j=true) (e:cnt H W f=cnt H W g):∀ i j,i<H→j<W→f i j=g i j:=by
 intro i j hi hj
 have h1:=yek (n:=H) (fun i hi=>z6l fun j hj=>ygw (h i j hi hj)) e i hi
 exact yjm (yek (n:=W) (fun j hj=>ygw (h i j hi hj)) h1 j hj)
theorem zw1 {H W:Nat} {f g:Nat→Nat→Bool} (h:∀ i j,i<H→j<W→f i j=g i j):cnt H W f=cnt H W g :=
 zez fun i hi=>zez fun j hj=>by rw [h i j hi hj]
theorem zzl {a k:Nat}:∀ {n:Nat},a+k≤n→sN n (fun i=>b1 (decide (a≤i) && decide (i<a+k)))=k
 | 0,h=>by simp [sN]; omega
 | n+1,h=>by
  rw [sN]
  by_cases hn:a+k≤n
  ·rw [zzl hn,decide_eq_false (p:=n<a+k) (by omega),Bool.and_false]; rfl
  have hnk:n+1=a+k:=by omega
  cases k with
  | zero =>
   have:sN n (fun i=>b1 (decide (a≤i) && decide (i<a+0)))=sN n (fun _=>0):=zez fun i hi=>by
    rw [decide_eq_false (p:=a≤i) (by omega)]; rfl
   rw [this,zrw,decide_eq_false (p:=a≤n) (by omega)]; rfl
  | succ k =>
   have e:sN n (fun i=>b1 (decide (a≤i) && decide (i<a+(k+1))))=sN n (fun i=>b1 (decide (a≤i) && decide (i<a+k))):=zez fun i hi=>by
    congr 2
    apply decide_eq_decide.2; omega
   rw [e,zzl (k:=k) (by omega),decide_eq_true (p:=a≤n) (by omega),decide_eq_true (p:=n<a+(k+1)) (by omega)]
   rfl
def inR (t l h w i j:Nat):Bool:=(decide (t≤i) && decide (i<t+h)) && (decide (l≤j) && decide (j<l+w))
theorem yjl {a b:Bool}:b1 (a && b)=b1 a*b1 b:=by cases a <;> cases b <;> rfl
theorem yc4 {H W t l h w:Nat} (h1:t+h≤H) (h2:l+w≤W):cnt H W (inR t l h w)=h*w:=by
 unfold cnt inR
 have e:(fun i=>sN W fun j=>b1 ((decide (t≤i) && decide (i<t+h)) && (decide (l≤j) && decide (j<l+w))))=fun i=>b1 (decide (t≤i) && decide (i<t+h))*w:=by
  funext i
  have:(fun j=>b1 ((decide (t≤i) && decide (i<t+h)) && (decide (l≤j) && decide (j<l+w))))=fun j=>b1 (decide (l≤j) && decide (j<l+w))*b1 (decide (t≤i) && decide (i<t+h)):=by
   funext j; rw [yjl,Nat.mul_comm]
  rw [this,ya7,zzl h2,Nat.mul_comm]
 rw [e,ya7,zzl h1]
theorem z0k {H W n:Nat} {z:Nat→Nat→Nat} (hz:∀ i j,i<H→j<W→z i j<n):sN n (fun r=>cnt H W fun i j=>decide (z i j=r))=H*W:=by
 unfold cnt
 rw [zv3]
 have:sN H (fun i=>sN n fun r=>sN W fun j=>b1 (decide (z i j=r)))=sN H (fun _=>W):=zez fun i hi=>by
  rw [zv3]
  have:sN W (fun j=>sN n fun r=>b1 (decide (z i j=r)))=sN W (fun _=>1):=zez fun j hj=>by
   have h1:=hz i j hi hj
   have e:sN n (fun r=>b1 (decide (z i j=r)))=sN n (fun r=>b1 (decide (z i j≤r) && decide (r<z i j+1))):=zez fun r hr=>by
    congr 1
    rw [Bool.eq_iff_iff]
    simp only[qB,decide_eq_true_eq]
    omega
   rw [e,zzl (by omega)]
  rw [this,z4j]
 rw [this,z4i]
structure Hull (pr:Nat→Nat→Prop) (t l lo ri:Int):Prop where
 inn:∀ a b,pr a b→t≤a∧(a:Int)≤lo∧l≤b∧(b:Int)≤ri
 at_:∃ a b:Nat,pr a b∧(a:Int)=t
 al:∃ a b:Nat,pr a b∧(b:Int)=l
 ao:∃ a b:Nat,pr a b∧(a:Int)=lo
 ar:∃ a b:Nat,pr a b∧(b:Int)=ri
theorem Hull.uniq {pr:Nat→Nat→Prop} {t l lo ri t' l' lo' ri':Int} (h:Hull pr t l lo ri) (k:Hull pr t' l' lo' ri'):t=t'∧l=l'∧lo=lo'∧ri=ri':=by
 obtain ⟨a1,b1,p1,e1⟩:=h.at_
 obtain ⟨a2,b2,p2,e2⟩:=h.al
 obtain ⟨a3,b3,p3,e3⟩:=h.ao
 obtain ⟨a4,b4,p4,e4⟩:=h.ar
 obtain ⟨a5,b5,p5,e5⟩:=k.at_
 obtain ⟨a6,b6,p6,e6⟩:=k.al
 obtain ⟨a7,b7,p7,e7⟩:=k.ao
 obtain ⟨a8,b8,p8,e8⟩:=k.ar
 have q1:=k.inn _ _ p1
 have q2:=k.inn _ _ p2
 have q3:=k.inn _ _ p3
 have q4:=k.inn _ _ p4
 have q5:=h.inn _ _ p5
 have q6:=h.inn _ _ p6
 have q7:=h.inn _ _ p7
 have q8:=h.inn _ _ p8
 omega
theorem Hull.congr {pr pr':Nat→Nat→Prop} {t l lo ri:Int} (h:Hull pr t l lo ri) (e:∀ a b,pr a b↔pr' a b):Hull pr' t l lo ri:=by
 have:pr=pr':=by funext a b; exact propext (e a b)
 exact this ▸ h
theorem Hull.add {pr:Nat→Nat→Prop} {t l lo ri:Int} (h:Hull pr t l lo ri) (i j:Nat):Hull (fun a b=>pr a b∨(a=i∧b=j)) (min t i) (min l j) (max lo i) (max ri j):=by
 refine ⟨?_,?_,?_,?_,?_⟩
 ·rintro a b (p | ⟨rfl,rfl⟩)
  ·have:=h.inn a b p; omega
  omega
 ·by_cases e:t≤i
  ·obtain ⟨a,b,p,q⟩:=h.at_; exact ⟨a,b,.inl p,by omega⟩
  exact ⟨i,j,.inr ⟨rfl,rfl⟩,by omega⟩
 ·by_cases e:l≤j
  ·obtain ⟨a,b,p,q⟩:=h.al; exact ⟨a,b,.inl p,by omega⟩
  exact ⟨i,j,.inr ⟨rfl,rfl⟩,by omega⟩
 ·by_cases e:(i:Int)≤lo
  ·obtain ⟨a,b,p,q⟩:=h.ao; exact ⟨a,b,.inl p,by omega⟩
  exact ⟨i,j,.inr ⟨rfl,rfl⟩,by omega⟩
 by_cases e:(j:Int)≤ri
 ·obtain ⟨a,b,p,q⟩:=h.ar; exact ⟨a,b,.inl p,by omega⟩
 exact ⟨i,j,.inr ⟨rfl,rfl⟩,by omega⟩
theorem Hull.one {pr:Nat→Nat→Prop} (h:∀ a b,¬ pr a b) (i j:Nat):Hull (fun a b=>pr a b∨(a=i∧b=j)) i j i j:=by
 refine ⟨?_,⟨i,j,.inr ⟨rfl,rfl⟩,rfl⟩,⟨i,j,.inr ⟨rfl,rfl⟩,rfl⟩,⟨i,j,.inr ⟨rfl,rfl⟩,rfl⟩,⟨i,j,.inr ⟨rfl,rfl⟩,rfl⟩⟩
 rintro a b (p | ⟨rfl,rfl⟩)
 ·exact absurd p (h a b)
 omega
def Gone (W i j a b:Nat):Prop:=b<W∧(a<i∨(a=i∧b<j))
theorem zl3 {W i j a b:Nat} (hj:j<W):Gone W i (j+1) a b↔Gone W i j a b∨(a=i∧b=j):=by unfold Gone; omega
theorem z3b {W i a b:Nat}:Gone W i W a b↔Gone W (i+1) 0 a b:=by unfold Gone; omega
def Val (z:Nat→Nat→Int) (W i j:Nat) (v:Int) (a b:Nat):Prop:=z a b=v∧Gone W i j a b
theorem z2c {z:Nat→Nat→Int} {W i j:Nat} {v:Int} (hj:j<W) (h:z i j=v) (a b:Nat):(Val z W i j v a b∨(a=i∧b=j))↔Val z W i (j+1) v a b:=by
 unfold Val
 rw [zl3 hj]
 constructor
 ·rintro (⟨h1,h2⟩ | ⟨rfl,rfl⟩)
  ·exact ⟨h1,.inl h2⟩
  exact ⟨h,.inr ⟨rfl,rfl⟩⟩
 rintro ⟨h1,h2 | h2⟩
 ·exact .inl ⟨h1,h2⟩
 exact .inr h2
theorem zwg {z:Nat→Nat→Int} {W i j:Nat} {v:Int} (hj:j<W) (h:z i j≠v) (a b:Nat):Val z W i j v a b↔Val z W i (j+1) v a b:=by
 unfold Val
 rw [zl3 hj]
 constructor
 ·rintro ⟨h1,h2⟩; exact ⟨h1,.inl h2⟩
 rintro ⟨h1,h2 | ⟨rfl,rfl⟩⟩
 ·exact ⟨h1,h2⟩
 exact absurd h1 h
theorem ycd {z:Nat→Nat→Int} {W i:Nat} {v:Int} (a b:Nat):Val z W i W v a b↔Val z W (i+1) 0 v a b:=by unfold Val; rw [z3b]
def zlr (pr:Nat→Nat→Prop) (b:Rect):Prop:=Hull pr b.row b.col (b.row+b.high - 1) (b.col+b.wide - 1)
theorem zlr.both {pr:Nat→Nat→Prop} {b:Rect} (h:zlr pr b) (i j:Nat):zlr (fun a c=>pr a c∨(a=i∧c=j)) (b.both (zg3 i j)):=by
 have:=Hull.add h i j
 unfold zlr Rect.both zg3
 simp only
 rw [show min b.row (i:Int)+(max (b.row+b.high) ((i:Int)+1) - min b.row (i:Int)) - 1=max (b.row+b.high - 1) i by omega,show min b.col (j:Int)+(max (b.col+b.wide) ((j:Int)+1) - min b.col (j:Int)) - 1=max (b.col+b.wide - 1) j by omega]
 exact this
theorem yd2 {i j:Nat}:(zg3 i j).both (zg3 i j)=zg3 i j:=by
 unfold Rect.both zg3
 simp only[Rect.mk.injEq]
 omega
theorem zlr.one {pr:Nat→Nat→Prop} (h:∀ a b,¬ pr a b) (i j:Nat):zlr (fun a b=>pr a b∨(a=i∧b=j)) (zg3 i j):=by
 have:=Hull.one h i j
 unfold zlr zg3
 simp only
 rw [show (i:Int)+1 - 1=i by omega,show (j:Int)+1 - 1=j by omega]
 exact this
theorem zlr.congr {pr pr':Nat→Nat→Prop} {b:Rect} (h:zlr pr b) (e:∀ a c,pr a c↔pr' a c):zlr pr' b:=Hull.congr h e
structure SeInv (z:Nat→Nat→Int) (W i j:Nat) (ks:List Int) (rs:List Rect):Prop where
 nd:ks.Nodup
 len:rs.length=ks.length
 mem:∀ a b,Gone W i j a b→z a b∈ks
 hull:∀ (m:Nat) v b,ks[m]?=some v→rs[m]?=some b→zlr (Val z W i j v) b
theorem zmf {l:List Int} (h:l.Nodup) {a b:Nat} {v:Int} (ha:l[a]?=some v) (hb:l[b]?=some v):a=b:=by
 obtain ⟨p1,q1⟩:=List.getElem?_eq_some_iff.1 ha
 obtain ⟨p2,q2⟩:=List.getElem?_eq_some_iff.1 hb
 have:=List.pairwise_iff_getElem.1 h
 rcases Nat.lt_trichotomy a b with hlt | heq | hgt
 ·exact absurd (q1.trans q2.symm) (this a b p1 p2 hlt)
 ·exact heq
 exact absurd (q2.trans q1.symm) (this b a p2 p1 hgt)
theorem zh8 {ks:List Int} {z:Int} (h:¬ ks.idxOf z=ks.length):ks[ks.idxOf z]?=some z:=by
 have hl:=zhq (ks:=ks) (z:=z)
 have:z∈ks:=by rw [← List.idxOf_lt_length_iff]; omega
 rw [List.getElem?_eq_getElem (List.idxOf_lt_length_iff.2 this),List.getElem_idxOf]
theorem zqt {ks:List Int} {z:Int} (h:ks.idxOf z=ks.length):z ∉ ks:=by
 intro hm
 have:=List.idxOf_lt_length_iff.2 hm
 omega
theorem SeInv.step {z:Nat→Nat→Int} {W i j:Nat} {ks:List Int} {rs:List Rect} (h:SeInv z W i j ks rs) (hj:j<W):SeInv z W i (j+1) (zhj ks (z i j)) (zps ks rs (z i j) (zg3 i j)):=by
 have hlen:=h.len
 by_cases hin:ks.idxOf (z i j)=ks.length
 ·have hnm:=zqt hin
  have e1:zhj ks (z i j)=ks++[z i j]:=by simp [zhj,hin]
  have e2:zps ks rs (z i j) (zg3 i j)=rs++[zg3 i j]:=by
   unfold zps zi4
   rw [if_pos hin,hin,← hlen,List.getD_eq_getElem?_getD]
   simp [yd2]
  rw [e1,e2]
  refine ⟨?_,by simp [hlen],?_,?_⟩
  ·rw [List.nodup_append]
   refine ⟨h.nd,by simp,?_⟩
   intro a ha b hb
   rw [List.mem_singleton]at hb
   rintro rfl
   exact hnm (hb ▸ ha)
  ·intro a b hab
   rw [zl3 hj]at hab
   rcases hab with hab | ⟨rfl,rfl⟩
   ·exact List.mem_append_left _ (h.mem a b hab)
   simp
  intro m v b hm hb
  by_cases hml:m<ks.length
  ·rw [List.getElem?_append_left hml]at hm
   rw [List.getElem?_append_left (by omega)]at hb
   have hv:z i j≠v:=fun e=>hnm (e ▸ List.mem_of_getElem? hm)
   exact (h.hull m v b hm hb).congr (zwg hj hv)
  have hml2:=zb5 hm
  simp only[List.length_append,List.length_singleton]at hml2
  obtain rfl:m=ks.length:=by omega
  rw [List.getElem?_append_right (qR _),Nat.sub_self]at hm
  rw [← hlen,List.getElem?_append_right (qR _),Nat.sub_self]at hb
  simp only[List.getElem?_cons_zero,Option.some.injEq]at hm hb
  subst hm hb
  exact (zlr.one (pr:=Val z W i j (z i j)) (fun a b hab=>hnm (hab.1 ▸ h.mem a b hab.2)) i j).congr (z2c hj rfl)
 have hk:=zh8 hin
 have hkl:=zb5 hk
 have e1:zhj ks (z i j)=ks:=by simp [zhj,hin]
 obtain ⟨b0,hb0,-⟩:=zaj (show ks.idxOf (z i j)<rs.length by omega)
 have e2:zps ks rs (z i j) (zg3 i j)=rs.set (ks.idxOf (z i j)) (b0.both (zg3 i j)):=by
  unfold zps zi4
  rw [if_neg hin,List.getD_eq_getElem?_getD,hb0]; rfl
 rw [e1,e2]
 refine ⟨h.nd,by simp [hlen],?_,?_⟩
 ·intro a b hab
  rw [zl3 hj]at hab
  rcases hab with hab | ⟨rfl,rfl⟩
  ·exact h.mem a b hab
  exact List.mem_of_getElem? hk
 intro m v b hm hb
 rw [List.getElem?_set]at hb
 by_cases e:ks.idxOf (z i j)=m
 ·subst e
  rw [if_pos rfl,if_pos (by omega)]at hb
  cases hb
  rw [hk]at hm
  cases hm
  exact ((h.hull _ _ _ hk hb0).both i j).congr (z2c hj rfl)
 rw [if_neg e]at hb
 have hv:z i j≠v:=by
  rintro rfl
  exact e (zmf h.nd hk hm)
 exact (h.hull m v b hm hb).congr (zwg hj hv)
theorem SeInv.nil {z:Nat→Nat→Int} {W:Nat}:SeInv z W 0 0 [] []:=by
 refine ⟨by simp,rfl,?_,by simp⟩
 intro a b h
 unfold Gone at h; omega
theorem SeInv.row {g:List (List Int)} {W i:Nat} {s:List Int × List Rect} (h:SeInv (gz g) W i 0 s.1 s.2):∀ j,j≤W→SeInv (gz g) W i j (zdf g i s j).1 (zdf g i s j).2
 | 0,_=>h
 | j+1,hj=>(SeInv.row h j (by omega)).step (by omega)
theorem SeInv.rows {g:List (List Int)} {W:Nat}:∀ i,SeInv (gz g) W i 0 (zas g W i).1 (zas g W i).2
 | 0=>SeInv.nil
 | i+1=>by
  have h:=(SeInv.rows (g:=g) (W:=W) i).row W (qR _)
  refine ⟨h.nd,h.len,fun a b hab=>h.mem a b (z3b.2 hab),fun m v b hm hb=>(h.hull m v b hm hb).congr (fun a c=>ycd a c)⟩
theorem zrx {g:List (List Int)} {i:Nat} {s:List Int × List Rect}:∀ {j k:Nat},j≤k→∃ r,(zdf g i s k).1=(zdf g i s j).1++r
 | j,0,h=>by
  have hj:j=0:=by omega
  subst hj; exact ⟨[],by simp⟩
 | j,k+1,h=>by
  by_cases e:j=k+1
  ·subst e; exact ⟨[],by simp⟩
  obtain ⟨r,hr⟩:=zrx (g:=g) (i:=i) (s:=s) (show j≤k by omega)
  simp only[zdf,zhj]
  split
  ·exact ⟨r++[gz g i k],by rw [hr,List.append_assoc]⟩
  exact ⟨r,hr⟩
theorem zt4 {g:List (List Int)} {W:Nat}:∀ {i k:Nat},i≤k→∃ r,(zas g W k).1=(zas g W i).1++r
 | i,0,h=>by
  have hi:i=0:=by omega
  subst hi; exact ⟨[],by simp⟩
 | i,k+1,h=>by
  by_cases e:i=k+1
  ·subst e; exact ⟨[],by simp⟩
  obtain ⟨r,hr⟩:=zt4 (g:=g) (W:=W) (show i≤k by omega)
  obtain ⟨r2,hr2⟩:=zrx (g:=g) (i:=k) (s:=zas g W k) (Nat.zero_le W)
  simp only[zas]
  refine ⟨r++r2,?_⟩
  rw [hr2,← List.append_assoc,← hr]; rfl
theorem zqs {l r:List Int} {x:Int} (h:¬ l.idxOf x=l.length):(l++r).idxOf x=l.idxOf x:=by
 have hl:=zhq (ks:=l) (z:=x)
 have hm:x∈l:=by rw [← List.idxOf_lt_length_iff]; omega
 rw [List.idxOf_append,if_pos hm]
theorem z81 {l r:List Int} {x:Int} (h:l.idxOf x=l.length):(l++[x]++r).idxOf x=l.length:=by
 have hm:x ∉ l:=zqt h
 rw [List.append_assoc,List.idxOf_append,if_neg hm]
 simp
theorem zNum {g:List (List Int)} {W nh i j:Nat} (hi:i<nh) (hj:j<W):((zdf g i (zas g W i) j).1.idxOf (gz g i j))=(zas g W nh).1.idxOf (gz g i j):=by
 obtain ⟨r,hr⟩:=zt4 (g:=g) (W:=W) (show i+1≤nh by omega)
 obtain ⟨r2,hr2⟩:=zrx (g:=g) (i:=i) (s:=zas g W i) (show j+1≤W by omega)
 have e:(zas g W nh).1=zhj (zdf g i (zas g W i) j).1 (gz g i j)++(r2++r):=by
  rw [hr,← List.append_assoc]
  congr 1
 rw [e]
 generalize (zdf g i (zas g W i) j).1=ks
 unfold zhj
 by_cases hin:ks.idxOf (gz g i j)=ks.length
 ·rw [if_pos hin,z81 hin,hin]
 rw [if_neg hin,zqs hin]
def inZ (p:List Txt) (r:Int) (i j:Nat):Bool:=decide (zaf p i j=r)
theorem zxr {p:List Txt} {i k:Nat} {row:Txt} {c:UInt8} {r:Int} (h:p[i]?=some row) (hc:row[k]?=some c):zkq r c=inZ p r i k:=by
 unfold zkq inZ; rw [zcy h hc]
theorem zog {p:List Txt} {i:Nat} {row:Txt} {r:Int} (h:p[i]?=some row) (n:Int):∀ k,k≤row.length→zdl r n (row.take k)=n+sN k fun j=>b1 (inZ p r i j)
 | 0,_=>by simp [zdl,sN]
 | k+1,hk=>by
  obtain ⟨c,hc,-⟩:=zaj (show k<row.length by omega)
  have ih:=zog (r:=r) h n k (by omega)
  unfold zdl at ih ⊢
  rw [zgc hc,ih,sN,zxr h hc]
  cases inZ p r i k <;> simp [b1]
  omega
theorem zqy {p:List Txt} {W:Nat} (hW:∀ row∈p,row.length=W) {r:Int}:∀ i,i≤p.length→(p.take i).foldl (zdl r) 0=((sN i fun i=>sN W fun j=>b1 (inZ p r i j):Nat):Int)
 | 0,_=>by simp [sN]
 | i+1,hi=>by
  obtain ⟨row,hr,hm⟩:=zaj (show i<p.length by omega)
  have ih:=zqy hW (r:=r) i (by omega)
  have hl:=hW row hm
  have:=zog (r:=r) hr (((sN i fun i=>sN W fun j=>b1 (inZ p r i j):Nat):Int)) W (by omega)
  rw [qT (by omega)]at this
  rw [zgc hr,ih,this,sN]
  simp
theorem z5s {p:List Txt} {W:Nat} (hW:∀ row∈p,row.length=W) {r:Int}:zf6 p r=((cnt p.length W (inZ p r):Nat):Int):=by
 have:=zqy hW (r:=r) p.length (qR _)
 rwa [List.take_length]at this
def zki (H W:Nat) (pr:Nat→Nat→Prop) (b:Box):Prop:=((∀ a c,¬ pr a c)∧b=⟨H,W,-1,-1⟩)∨Hull pr b.top b.left b.low b.right
theorem zki.congr {H W:Nat} {pr pr':Nat→Nat→Prop} {b:Box} (h:zki H W pr b) (e:∀ a c,pr a c↔pr' a c):zki H W pr' b:=by
 have:pr=pr':=by funext a b; exact propext (e a b)
 exact this ▸ h
theorem zki.add {H W:Nat} {pr:Nat→Nat→Prop} {b:Box} (h:zki H W pr b) {i k:Nat} (hi:i<H) (hk:k<W):zki H W (fun a c=>pr a c∨(a=i∧c=k)) ⟨min b.top i,min b.left k,max b.low i,max b.right k⟩:=by
 rcases h with ⟨h1,rfl⟩ | h
 ·right
  have:=Hull.one h1 i k
  simp only
  rw [show min (H:Int) i=i by omega,show min (W:Int) k=k by omega,show max (-1:Int) i=i by omega,show max (-1:Int) k=k by omega]
  exact this
 exact .inr (Hull.add h i k)
theorem zzh {p:List Txt} {H W i:Nat} {row:Txt} {r:Int} (hr:p[i]?=some row) (hW:row.length=W) (hi:i<H) {b:Box} (h:zki H W (Val (zaf p) W i 0 r) b):∀ k,k≤W→zki H W (Val (zaf p) W i k r) (zmy r i b row k)
 | 0,_=>by simpa [zmy] using h
 | k+1,hk=>by
  obtain ⟨c,hc,-⟩:=zaj (show k<row.length by omega)
  have ih:=zzh hr hW hi h k (by omega)
  rw [zj9 hc]
  unfold zky
  simp only
  rw [zxr hr hc]
  by_cases e:zaf p i k=r
  ·rw [if_pos (by unfold inZ; exact decide_eq_true e)]
   exact (ih.add hi (by omega)).congr (z2c (by omega) e)
  rw [if_neg (by unfold inZ; rw [decide_eq_false e]; exact Bool.false_ne_true)]
  exact ih.congr (zwg (by omega) e)
theorem zwv {p:List Txt} {W:Nat} (hW:∀ row∈p,row.length=W) (hh:(zag p).length=W) {r:Int}:∀ i,i≤p.length→zki p.length W (Val (zaf p) W i 0 r) (ziz p r i)
 | 0,_=>by
  left
  refine ⟨fun a c h=>?_,by simp [ziz,hh]⟩
  have:=h.2
  unfold Gone at this; omega
 | i+1,hi=>by
  obtain ⟨row,hr,hm⟩:=zaj (show i<p.length by omega)
  rw [zni hr]
  have:=zzh (r:=r) hr (hW row hm) (by omega) (zwv hW hh i (by omega)) W (qR _)
  rw [hW row hm]
  exact this.congr fun a c=>ycd a c
theorem z7j {p:List Txt} {W:Nat} (hW:∀ row∈p,row.length=W) (hh:(zag p).length=W) {r:Int}:zki p.length W (Val (zaf p) W p.length 0 r) (zp9 p r):=by
 rw [← zlt]; exact zwv hW hh p.length (qR _)
theorem Hull.nat {z:Nat→Nat→Int} {H W:Nat} {v:Int} {t l lo ri:Int} (h:Hull (Val z W H 0 v) t l lo ri):∃ t' l' h' w':Nat,t=t'∧l=l'∧lo=t'+h' - 1∧ri=l'+w' - 1∧1≤h'∧1≤w'∧t'+h'≤H∧l'+w'≤W ∧
  ∀ i j,i<H→j<W→z i j=v→inR t' l' h' w' i j=true:=by
 obtain ⟨a1,b1,p1,e1⟩:=h.at_
 obtain ⟨a2,b2,p2,e2⟩:=h.al
 obtain ⟨a3,b3,p3,e3⟩:=h.ao
 obtain ⟨a4,b4,p4,e4⟩:=h.ar
 have q1:=h.inn _ _ p1
 have q2:=h.inn _ _ p2
 obtain ⟨-,g3,g3'⟩:=p3
 obtain ⟨-,g4,g4'⟩:=p4
 refine ⟨a1,b2,a3+1 - a1,b4+1 - b2,e1.symm,e2.symm,by omega,by omega,by omega,by omega,by omega,by omega,fun i j hi hj hv=>?_⟩
 have:=h.inn i j ⟨hv,by unfold Gone; omega⟩
 unfold inR
 simp only[qB,decide_eq_true_eq]
 omega
def u8I (c:UInt8):Int:=(c.toNat:Int)
theorem yi7 {a b:UInt8} (h:u8I a=u8I b):a=b:=by
 unfold u8I at h
 exact UInt8.toNat_inj.1 (by omega)
theorem zxq {α β:Type} [DecidableEq α] [DecidableEq β] {f:α→β} (hf:∀ a b,f a=f b→a=b) {c:α}:∀ (l:List α),(l.map f).idxOf (f c)=l.idxOf c
 | []=>rfl
 | a::l=>by
  rw [List.map_cons,List.idxOf_cons,List.idxOf_cons,zxq hf l]
  by_cases e:a=c
  ·subst e; simp
  have e2:f a≠f c:=fun h=>e (hf _ _ h)
  rw [show (f a == f c)=false by simpa using e2,show (a == c)=false by simpa using e]
theorem yhk {p:List Txt} {i k:Nat} {row:Txt} {c:UInt8} (h:p[i]?=some row) (hc:row[k]?=some c):gz (zbm p) i k=u8I c:=by
 simp [gz,zbm,zwo,h,hc,u8I]
theorem ztk {p:List Txt} {i:Nat} {row:Txt} (h:p[i]?=some row) {o:List UInt8} {s:List Int × List Rect} (ho:o.map u8I=s.1):∀ j,j≤row.length →
  ((row.take j).foldl zd6 (o,[])).1.map u8I=(zdf (zbm p) i s j).1∧((row.take j).foldl zd6 (o,[])).2=zru (zod (zbm p) i s j)
 | 0,_=>⟨by simpa [zdf] using ho,by simp [zod,zru]⟩
 | j+1,hj=>by
  obtain ⟨c,hc,-⟩:=zaj (show j<row.length by omega)
  obtain ⟨h1,h2⟩:=ztk h ho j (by omega)
  rw [zgc hc]
  generalize (row.take j).foldl zd6 (o,[])=q at h1 h2 ⊢
  have hz:=yhk h hc
  have hi:(zdf (zbm p) i s j).1.idxOf (gz (zbm p) i j)=q.1.idxOf c:=by rw [← h1,hz,zxq fun a b=>yi7]
  have hl:(zdf (zbm p) i s j).1.length=q.1.length:=by rw [← h1,List.length_map]
  constructor
  ·simp only[zd6,zdf,zhj]
   rw [hi,hl]
   split
   ·rw [List.map_append,h1,hz]; rfl
   exact h1
  simp only[zd6,zod]
  rw [hi,h2]
  simp [zru,z9e]
theorem z3j {p:List Txt} {W:Nat} (hW:∀ row∈p,row.length=W):∀ i,i≤p.length →
  ((p.take i).foldl zow ([],[])).1.map u8I=(zas (zbm p) W i).1∧((p.take i).foldl zow ([],[])).2=zf9 (ze7 (zbm p) W i)
 | 0,_=>by simp [zas,ze7,zf9]
 | i+1,hi=>by
  obtain ⟨row,hr,hm⟩:=zaj (show i<p.length by omega)
  obtain ⟨h1,h2⟩:=z3j hW i (by omega)
  rw [zgc hr]
  generalize (p.take i).foldl zow ([],[])=q at h1 h2 ⊢
  have hl:=hW row hm
  obtain ⟨k1,k2⟩:=ztk hr h1 row.length (qR _)
  rw [List.take_length,hl]at k1 k2
  constructor
  ·simp only[zow,zq5,zas]; exact k1
  simp only[zow,zq5,ze7,zf9,List.map_append,List.map_cons,List.map_nil]
  rw [k2,h2]
  rfl
theorem zfy {p:List Txt}:w0 (zbm p)=(zag p).length:=by
 cases p with
 | nil=>rfl
 | cons a p=>simp [w0,zbm,zwo,zag]
theorem zl5 {p:List Txt} (hg:zcx p=true):∀ row∈p,row.length=(zag p).length:=by
 intro row hm
 obtain ⟨i,hi⟩:=List.getElem?_of_mem hm
 exact zew hg hi
theorem ztl {p:List Txt} (hg:zcx p=true):names p=zf9 (gP p):=by
 have:=(z3j (zl5 hg) p.length (qR _)).2
 rw [List.take_length]at this
 unfold names zvf gP zG
 rw [this,zfy,zdn]
theorem zu2 {p:List Txt}:zcx p=(zhs p && okG (zbm p)):=by
 rw [Bool.eq_iff_iff,qB,znx,zdn,zfy]
 unfold zcx zhs GW zsn
 simp only[qB,decide_eq_true_eq,List.all_eq_true,zdn,true_and]
 constructor
 ·rintro ⟨⟨h1,h2⟩,h3⟩
  obtain ⟨row0,hr0,hm0⟩:=zaj (show 0<p.length by omega)
  have hh:=zcf hr0
  have h4:=h1 row0 hm0
  refine ⟨fun r hr=>(h1 r hr).2,fun r hr=>?_,h2,h3,by rw [hh]; omega,by rw [hh]; omega⟩
  obtain ⟨t,ht,rfl⟩:=List.mem_map.1 hr
  rw [zka]; exact (h1 t ht).1.1.1
 rintro ⟨h1,h2,h3,h4,h5,h6⟩
 refine ⟨⟨fun r hr=>?_,h3⟩,h4⟩
 have:=h2 (zwo r) (List.mem_map.2 ⟨r,hr,rfl⟩)
 rw [zka]at this
 exact ⟨⟨⟨this,by omega⟩,by omega⟩,h1 r hr⟩
theorem z2e {g:List (List Int)} {i:Nat} {s:List Int × List Rect}:∀ {j k:Nat},k<j→(zod g i s j)[k]?=some (((zdf g i s k).1.idxOf (gz g i k):Nat):Int)
 | 0,k,h=>by omega
 | j+1,k,h=>by
  unfold zod
  by_cases e:k=j
  ·subst e; rw [List.getElem?_append_right (by rw [zf0]; exact qR _),zf0]; simp
  rw [List.getElem?_append_left (by rw [zf0]; omega)]; exact z2e (by omega)
def keys (p:List Txt):List Int:=(zas (zbm p) (zag p).length p.length).1
theorem z8o {p:List Txt}:gP p=ze7 (zbm p) (zag p).length p.length:=by unfold gP zG; rw [zfy,zdn]
theorem yal {p:List Txt}:rP p=(zas (zbm p) (zag p).length p.length).2:=by unfold rP stG; rw [zfy,zdn]
theorem z5q {p:List Txt} {i j:Nat} (hi:i<p.length) (hj:j<(zag p).length):gz (gP p) i j=(((keys p).idxOf (gz (zbm p) i j):Nat):Int):=by
 rw [z8o]
 unfold gz
 rw [zkf hi,Option.getD_some,z2e hj,Option.getD_some]
 congr 1
 exact zNum hi hj
theorem zhr (p:List Txt):SeInv (gz (zbm p)) (zag p).length p.length 0 (keys p) (rP p):=by
 rw [yal]; exact SeInv.rows p.length
theorem zph {H W i j:Nat} (hi:i<H) (hj:j<W):Gone W H 0 i j:=⟨hj,.inl hi⟩
theorem ze2 {p:List Txt}:z0b (gP p) p.length (zag p).length (rP p).length:=by
 intro i j hi hj
 rw [z5q hi hj]
 have hm:=(zhr p).mem i j (zph hi hj)
 have hl:=(zhr p).len
 have:=List.idxOf_lt_length_iff.2 hm
 omega
structure Named (p:List Txt):Prop where
 hg:zcx p=true
 ht:zf9 (gP p)=p
theorem Named.cell {p:List Txt} (h:Named p) {i j:Nat} (hi:i<p.length) (hj:j<(zag p).length):gz (gP p) i j=zaf p i j:=by
 have hgz:=z5q hi hj
 have hm:=(zhr p).mem i j (zph hi hj)
 have hsm:=zbo h.hg
 obtain ⟨row0,hr0,hm0⟩:=zaj hsm.1
 have hh:=zcf hr0
 have hw6:=hsm.2.2 row0 hm0
 have hw1:=zfr h.hg hr0
 rw [← hh]at hw6 hw1
 have hb:=zit (g:=zbm p) hw6 hw1 p.length hsm.2.1
 rw [← z8o]at hb
 have hrl:(gP p).length=p.length:=by rw [z8o]; exact zc6 _
 obtain ⟨zr,hzr,hzm⟩:=zaj (show i<(gP p).length by omega)
 have hzl:zr.length=(zag p).length:=by
  have e:=hzr
  rw [z8o,zkf hi]at e
  cases e
  exact zf0 _
 obtain ⟨z,hz,hzm2⟩:=zaj (show j<zr.length by omega)
 have hz1:=hb zr hzm z hzm2
 have e1:gz (gP p) i j=z:=by simp [gz,hzr,hz]
 have e2:p[i]?=some (zru zr):=by
  have:=zm7 hzr
  rwa [h.ht]at this
 have e3:(zru zr)[j]?=some (z9e z):=by simp [zru,hz]
 rw [e1,zcy e2 e3]
 unfold z9e
 rw [UInt8.toNat_ofNat_of_lt' (by show 97+z.toNat<256; omega)]
 omega
theorem Named.room {p:List Txt} (h:Named p) {i j:Nat} (hi:i<p.length) (hj:j<(zag p).length):0≤zaf p i j∧zaf p i j<(rP p).length:=by
 rw [← h.cell hi hj]; exact ze2 i j hi hj
theorem Named.key {p:List Txt} (h:Named p) {m:Nat} {v:Int} (hm:(keys p)[m]?=some v) (a b:Nat):Val (gz (zbm p)) (zag p).length p.length 0 v a b↔Val (zaf p) (zag p).length p.length 0 m a b:=by
 unfold Val
 constructor
 ·rintro ⟨h1,h2⟩
  refine ⟨?_,h2⟩
  obtain ⟨hb,ha⟩:=h2
  have ha':a<p.length:=by omega
  rw [← h.cell ha' hb,z5q ha' hb,h1]
  congr 1
  have hv:=List.mem_of_getElem? hm
  have hlt:=List.idxOf_lt_length_iff.2 hv
  have:=zh8 (ks:=keys p) (z:=v) (by omega)
  exact zmf (zhr p).nd this hm
 rintro ⟨h1,h2⟩
 refine ⟨?_,h2⟩
 obtain ⟨hb,ha⟩:=h2
 have ha':a<p.length:=by omega
 have hmem:=(zhr p).mem a b (zph ha' hb)
 have hlt:=List.idxOf_lt_length_iff.2 hmem
 rw [← h.cell ha' hb,z5q ha' hb]at h1
 have:=zh8 (ks:=keys p) (z:=gz (zbm p) a b) (by omega)
 rw [show (keys p).idxOf (gz (zbm p) a b)=m by omega,hm]at this
 cases this; rfl
theorem Named.rect {p:List Txt} (h:Named p) {m:Nat} {b:Rect} (hb:(rP p)[m]?=some b):zlr (Val (zaf p) (zag p).length p.length 0 m) b:=by
 have hi:=zhr p
 have hml:=zb5 hb
 rw [hi.len]at hml
 obtain ⟨v,hv,-⟩:=zaj hml
 exact (hi.hull m v b hv hb).congr (h.key hv)
theorem Named.box {p:List Txt} (h:Named p) {m:Nat} {b:Rect} (hb:(rP p)[m]?=some b):b.row=(zp9 p m).top∧b.col=(zp9 p m).left∧b.high=ziv p m∧b.wide=ziy p m:=by
 have h1:=h.rect hb
 have h2:=z7j (zl5 h.hg) rfl (r:=(m:Int))
 rcases h2 with ⟨h2,-⟩ | h2
 ·obtain ⟨a,c,q,-⟩:=h1.at_
  exact absurd q (h2 a c)
 have:=Hull.uniq h1 h2
 unfold ziv ziy
 omega
theorem zot {f:UInt8→Int} {B:Int}:∀ (row:Txt) (n:Int),n≤B→(∀ c∈row,f c≤B)→row.foldl (fun n c=>max n (f c)) n≤B
 | [],n,h,_=>h
 | c::row,n,h,hc=>zot row _ (by have:=hc c (by simp); show max n (f c)≤B; omega) fun d hd=>hc d (by simp [hd])
theorem z4e {B:Int}:∀ (p:List Txt) (n:Int),n≤B→(∀ row∈p,∀ c∈row,(c.toNat:Int) - 97+1≤B)→p.foldl zgt n≤B
 | [],n,h,_=>h
 | row::p,n,h,hc=>z4e p _ (zot row n h (hc row (by simp))) fun r hr=>hc r (by simp [hr])
theorem Named.rooms {p:List Txt} (h:Named p):zdt p=(rP p).length:=by
 have hi:=zhr p
 have hl:=hi.len
 apply Int.le_antisymm
 ·refine z4e p 0 (by omega) fun row hr c hc=>?_
  obtain ⟨i,hrow⟩:=List.getElem?_of_mem hr
  obtain ⟨j,hcol⟩:=List.getElem?_of_mem hc
  have hil:=zb5 hrow
  have hjl:=zb5 hcol
  have:=h.room hil (by rw [← zew h.hg hrow]; exact hjl)
  rw [zcy hrow hcol]at this
  omega
 by_cases h0:(rP p).length=0
 ·have:=(zl9 p).1; omega
 obtain ⟨b,hb,-⟩:=zaj (show (rP p).length - 1<(rP p).length by omega)
 obtain ⟨a,c,⟨q1,q2⟩,-⟩:=(h.rect hb).at_
 obtain ⟨hc,ha⟩:=q2
 have ha':a<p.length:=by omega
 obtain ⟨row,hrow,hrm⟩:=zaj ha'
 have hrl:=zew h.hg hrow
 obtain ⟨d,hd,-⟩:=zaj (show c<row.length by omega)
 have:=(z6j p 0).2 a c row d hrow hd
 rw [zcy hrow hd]at q1
 unfold zdt
 omega
def inB (b:Rect) (i j:Nat):Bool:=(decide (b.row≤i) && decide ((i:Int)<b.row+b.high)) && (decide (b.col≤j) && decide ((j:Int)<b.col+b.wide))
theorem zmu {z:Nat→Nat→Int} {H W:Nat} {v:Int} {b:Rect} (h:zlr (Val z W H 0 v) b):((cnt H W (inB b):Nat):Int)=b.high*b.wide∧∀ i j,i<H→j<W→z i j=v→inB b i j=true:=by
 obtain ⟨t,l,hh,w,e1,e2,e3,e4,h1,h2,h3,h4,h5⟩:=Hull.nat h
 have e5:b.high=hh:=by omega
 have e6:b.wide=w:=by omega
 have e:∀ i j,inB b i j=inR t l hh w i j:=by
  intro i j
  unfold inB inR
  rw [e1,e2,e5,e6,Bool.eq_iff_iff]
  simp only[qB,decide_eq_true_eq]
  omega
 have e7:inB b=inR t l hh w:=by funext i j; exact e i j
 rw [e7,yc4 h3 h4,e5,e6]
 exact ⟨by simp,h5⟩
def arN (p:List Txt) (m:Nat):Nat :=
 match (rP p)[m]? with
 | some b=>cnt p.length (zag p).length (inB b)
 | none=>0
theorem zwt {p:List Txt} {m:Nat} {b:Rect} (h:(rP p)[m]?=some b):arN p m=cnt p.length (zag p).length (inB b):=by simp [arN,h]
theorem ybu {p:List Txt} (h:Named p):∀ k,k≤(rP p).length→z6t ((rP p).take k)=((sN k (arN p):Nat):Int)
 | 0,_=>by simp [z6t,sN]
 | k+1,hk=>by
  obtain ⟨b,hb,-⟩:=zaj (show k<(rP p).length by omega)
  rw [zr4 hb,ybu h k (by omega),sN,zwt hb,← (zmu (h.rect hb)).1]
  simp
theorem Named.cells_le {p:List Txt} (h:Named p) {m:Nat} (hm:m<(rP p).length):cnt p.length (zag p).length (inZ p m)≤arN p m:=by
 obtain ⟨b,hb,-⟩:=zaj hm
 rw [zwt hb]
 exact yjw fun i j hi hj hz=>(zmu (h.rect hb)).2 i j hi hj (by unfold inZ at hz; simpa using hz)
theorem Named.all {p:List Txt} (h:Named p):sN (rP p).length (fun m=>cnt p.length (zag p).length (inZ p m))=p.length*(zag p).length:=by
 rw [← z0k (H:=p.length) (W:=(zag p).length) (n:=(rP p).length) (z:=fun i j=>(zaf p i j).toNat) fun i j hi hj=>by have:=h.room hi hj; omega]
 refine zez fun m hm=>zw1 fun i j hi hj=>?_
 unfold inZ
 have:=h.room hi hj
 apply decide_eq_decide.2
 omega
theorem ydi {p:List Txt} (h:Named p):zh5 (zbm p)=decide (sN (rP p).length (arN p)=p.length*(zag p).length):=by
 have:=ybu h (rP p).length (qR _)
 rw [List.take_length]at this
 unfold zh5
 rw [show (stG (zbm p)).2=rP p from rfl,this,zdn,zfy]
 apply decide_eq_decide.2
 omega
theorem Named.area {p:List Txt} (h:Named p) {m:Nat} (hm:m<(rP p).length):(zf6 p m=ziv p m*ziy p m)↔cnt p.length (zag p).length (inZ p m)=arN p m:=by
 obtain ⟨b,hb,-⟩:=zaj hm
 obtain ⟨-,-,e1,e2⟩:=h.box hb
 rw [z5s (zl5 h.hg),← e1,← e2,← (zmu (h.rect hb)).1,zwt hb]
 omega
theorem Named.full {p:List Txt} (h:Named p):zh5 (zbm p)=true↔∀ m,m<(rP p).length→cnt p.length (zag p).length (inZ p m)=arN p m:=by
 rw [ydi h,decide_eq_true_eq,← h.all]
 constructor
 ·intro e m hm
  exact yek (fun m hm=>h.cells_le hm) e.symm m hm
 intro e
 exact zez fun m hm=>(e m hm).symm
theorem Named.fill {p:List Txt} (h:Named p) (hf:zh5 (zbm p)=true) {m:Nat} {b:Rect} (hb:(rP p)[m]?=some b) {i j:Nat} (hi:i<p.length) (hj:j<(zag p).length):inB b i j=decide (zaf p i j=m):=by
 have e:=h.full.1 hf m (zb5 hb)
 rw [zwt hb]at e
 exact (yjv (fun i j hi hj hz=>(zmu (h.rect hb)).2 i j hi hj (by unfold inZ at hz; simpa using hz)) e i j hi hj).symm
theorem zc3 {p:List Txt}:zeb p=zbk p:=by
 unfold zeb zor okB okS zbk
 rw [Bool.eq_iff_iff]
 simp only[qB,decide_eq_true_eq,List.all_eq_true,List.mem_range]
 have hgi:=zu2 (p:=p)
 constructor
 ·rintro ⟨⟨h1,h2,h3⟩,h4,h5⟩
  have hg:zcx p=true:=by rw [hgi,h1,h2]; rfl
  have hN:Named p:=⟨hg,h5⟩
  have hr:=hN.rooms
  have h3':(rP p).length≤9:=h3
  refine ⟨⟨⟨hg,by rw [ztl hg]; exact h5⟩,by omega⟩,fun m hm=>?_⟩
  have hm':m<(rP p).length:=by omega
  exact (hN.area hm').2 (hN.full.1 h4 m hm')
 rintro ⟨⟨⟨hg,h2⟩,h3⟩,h4⟩
 have h5:zf9 (gP p)=p:=by rw [← ztl hg]; exact h2
 have hN:Named p:=⟨hg,h5⟩
 have hr:=hN.rooms
 rw [hgi,qB]at hg
 have h3':(rP p).length≤9:=by omega
 exact ⟨⟨hg.1,hg.2,h3'⟩,hN.full.2 fun m hm=>(hN.area hm).1 (h4 m (by omega)),h5⟩
theorem zb6 {p:List Txt} (h:zbk p=true):Named p:=by
 have h2:=h
 rw [← zc3]at h2
 unfold zeb zor at h2
 simp only[qB,decide_eq_true_eq]at h2
 exact ⟨zde h,h2.2.2⟩
theorem zyz {p:List Txt} (h:zbk p=true):zh5 (zbm p)=true:=by
 rw [← zc3]at h
 unfold zeb zor at h
 simp only[qB,decide_eq_true_eq]at h
 exact h.2.1
def cz (c:UInt8):Int:=(c.toNat:Int) - 97
theorem yjx {a b:UInt8}:(cz a=cz b)=(a=b):=by
 rw [ye0]
 unfold cz
 apply propext; omega
theorem yg9 (a b c d:UInt8):((dn [cz a,cz b,cz c,cz d]:Nat):Int)=zlw [a,b,c,d] 4:=by
 simp only[dn,zlw,yh4,yh5,List.mem_cons,List.not_mem_nil,or_false,yjx]
 by_cases h1:a=b <;> by_cases h2:a=c <;> by_cases h3:a=d <;> by_cases h4:b=c <;> by_cases h5:b=d <;> by_cases h6:c=d <;> simp_all [eq_comm]
theorem z5p {p:List Txt} (h:Named p) {i k:Nat} (hi:1≤i) (hi2:i<p.length) (hk:1≤k) (hk2:k<(zag p).length):((dn (four (gP p) i k):Nat):Int)=znu p i k:=by
 obtain ⟨r1,hr1,-⟩:=zaj (show i - 1<p.length by omega)
 obtain ⟨r2,hr2,-⟩:=zaj hi2
 have l1:=zew h.hg hr1
 have l2:=zew h.hg hr2
 obtain ⟨a,ha,-⟩:=zaj (show k - 1<r1.length by omega)
 obtain ⟨b,hb,-⟩:=zaj (show k<r1.length by omega)
 obtain ⟨c,hc,-⟩:=zaj (show k - 1<r2.length by omega)
 obtain ⟨d,hd,-⟩:=zaj (show k<r2.length by omega)
 unfold four znu
 rw [h.cell (by omega) (by omega),h.cell (by omega) (by omega),h.cell (by omega) (by omega),h.cell (by omega) (by omega),zcy hr1 ha,zcy hr1 hb,zcy hr2 hc,zcy hr2 hd]
 simp only[hr1,hr2,ha,hb,hc,hd]
 exact yg9 a b c d
theorem zy2 {p:List Txt} (h:Named p) {many:Int} {i:Nat} (hi:1≤i) (hi2:i<p.length):∀ k,k≤(zag p).length→zdu (gP p) many i k=zix p many i k
 | 0,_=>rfl
 | k+1,hk=>by
  unfold zdu zix
  rw [zy2 h hi hi2 k (by omega)]
  by_cases h1:1≤k
  ·rw [z5p h hi hi2 h1 (by omega)]
  rw [if_neg (fun e=>h1 e.1),if_neg (fun e=>h1 e.1)]
theorem yga {p:List Txt} (h:Named p) {many:Int}:∀ i,i≤p.length→zsk (gP p) many (zag p).length i=zsl p many (zag p).length i
 | 0,_=>rfl
 | i+1,hi=>by
  unfold zsk zsl
  rw [yga h i (by omega)]
  by_cases h1:1≤i
  ·rw [zy2 h h1 (by omega) _ (qR _)]
  rw [if_neg h1,if_neg h1]
theorem zgk {p:List Txt}:zdx p=zcd p:=by
 unfold zdx zcd
 rw [zc3]
 cases hp:zbk p with
 | false=>rfl
 | true =>
  rw [zfy,yga (zb6 hp) p.length (qR _)]
  rfl
theorem zee {p:List Txt} (h:zcd p=true):zbk p=true:=by
 unfold zcd at h
 rw [qB]at h
 exact h.1
theorem znv {l:List Int} {x:Int}:x∈ddp l↔x∈l:=by
 have:∀ (l m:List Int),x∈l.foldl zsm m↔x∈m∨x∈l:=by
  intro l
  induction l with
  | nil=>intro m; simp
  | cons a l ih=>intro m; rw [List.foldl_cons,ih,z3i,List.mem_cons,or_assoc]
 unfold ddp
 rw [this]
 simp
def Rise (n:Nat) (rk:Nat→Nat) (M:List (List Bool)):Prop:=Sq n M∧∀ a b,a<n→b<n→zcv M a b=true→rk a<rk b
theorem Rise.clA {n:Nat} {rk:Nat→Nat} {M:List (List Bool)} (h:Rise n rk M) {k a:Nat} (hk:k<n) (ha:a<n):Rise n rk (clA n k M a):=by
 obtain ⟨h1,h2⟩:=z2o h.1 hk ha n (qR _)
 refine ⟨h1,fun x y hx hy hxy=>?_⟩
 unfold Fw.clA at hxy
 rw [h2 x y hx hy]at hxy
 split at hxy
 ·rename_i e
  obtain ⟨rfl,-⟩:=e
  rw [Bool.or_eq_true,qB]at hxy
  rcases hxy with hxy | ⟨h3,h4⟩
  ·exact h.2 x y hx hy hxy
  exact Nat.lt_trans (h.2 x k hx hk h3) (h.2 k y hk hy h4)
 exact h.2 x y hx hy hxy
theorem Rise.fold {n:Nat} {rk:Nat→Nat} {f:List (List Bool)→Nat→List (List Bool)}:∀ (i:Nat) {M:List (List Bool)},i≤n→(∀ M j,j<n→Rise n rk M→Rise n rk (f M j))→Rise n rk M→Rise n rk ((List.range i).foldl f M)
 | 0,_,_,_,h=>h
 | i+1,M,hi,hs,h=>by
  rw [zcz]
  exact hs _ i (by omega) (Rise.fold i (by omega) hs h)
theorem Rise.close {n:Nat} {rk:Nat→Nat} {M:List (List Bool)} (h:Rise n rk M):Rise n rk (zgg M):=by
 unfold zgg
 rw [h.1.1]
 exact Rise.fold n (qR _) (fun _ k hk h=>Rise.fold n (qR _) (fun _ a ha h=>h.clA hk ha) h) h
theorem Rise.relB {n:Nat} {rk:Nat→Nat} {a:Int} (ha:0≤a∧a<n):∀ {bs:List Int} {M:List (List Bool)},Rm n bs→(∀ b∈bs,rk a.toNat<rk b.toNat)→Rise n rk M→Rise n rk (relB a bs M)
 | [],_,_,_,h=>h
 | b::bs,M,hb,hr,h=>by
  have hb0:=hb b (by simp)
  refine Rise.relB ha (bs:=bs) (fun x hx=>hb x (by simp [hx])) (fun x hx=>hr x (by simp [hx])) ⟨h.1.set (by omega),fun x y hx hy hxy=>?_⟩
  rw [zl2 h.1 (by omega) (by omega)]at hxy
  split at hxy
  ·rename_i e
   rw [e.1,e.2]; exact hr b (by simp)
  exact h.2 x y hx hy hxy
theorem Rise.relW {n:Nat} {rk:Nat→Nat} {bs:List Int} (hb:Rm n bs):∀ {la:List Int} {M:List (List Bool)},Rm n la→(∀ a∈la,∀ b∈bs,rk a.toNat<rk b.toNat)→Rise n rk M→Rise n rk (relW M la bs)
 | [],_,_,_,h=>h
 | a::la,M,ha,hr,h=>Rise.relW hb (la:=la) (fun x hx=>ha x (by simp [hx])) (fun x hx=>hr x (by simp [hx])) (h.relB (ha a (by simp)) hb (hr a (by simp)))
theorem Rise.empty {n:Nat} {rk:Nat→Nat}:Rise n rk (zcb n):=by
 refine ⟨ze4 n,fun a b ha hb h=>?_⟩
 simp [zcv,zcb,ha,hb]at h
theorem Rise.ord {g:List (List Int)} {nh nw n:Nat} {r0 r1:Nat→Nat} (hrm:z0b g nh nw n) (h0:∀ w,zr9 g nh nw w→w.level=false→∀ a∈(zbl g w).1,∀ b∈(zbl g w).2,r0 a.toNat<r0 b.toNat)
  (h1:∀ w,zr9 g nh nw w→w.level=true→∀ a∈(zbl g w).1,∀ b∈(zbl g w).2,r1 a.toNat<r1 b.toNat):∀ (ws:List Wall),(∀ w∈ws,zr9 g nh nw w)→∀ {M:List (List Bool) × List (List Bool)},Rise n r0 M.1→Rise n r1 M.2 →
  Rise n r0 (ws.foldl (zpk g) M).1∧Rise n r1 (ws.foldl (zpk g) M).2
 | [],_,_,k0,k1=>⟨k0,k1⟩
 | w::ws,hws,M,k0,k1=>by
  have hw:=hws w (by simp)
  obtain ⟨hr1,hr2⟩:=zg0 hrm hw
  rw [List.foldl_cons]
  refine Rise.ord hrm h0 h1 ws (fun w hw=>hws w (by simp [hw])) ?_ ?_
  ·unfold zpk
   cases hlv:w.level with
   | false=>simpa using k0.relW hr2 hr1 (h0 w hw hlv)
   | true=>simpa using k0
  unfold zpk
  cases hlv:w.level with
  | false=>simpa using k1
  | true=>simpa using k1.relW hr2 hr1 (h1 w hw hlv)
theorem ykn {g:List (List Int)} {nh nw:Nat} {w:Wall} (hw:zr9 g nh nw w) {x:Int} (hx:x∈(zbl g w).1):∃ line j:Nat,w.line=line∧x=(zbx g w.level line j).1∧InL nh nw w.level line j∧zh0 g w.level line j=true:=by
 obtain ⟨line,fr,long,e,h1,h2⟩:=hw
 have e1:w.line.toNat=line:=by rw [e]; simp
 have e2:w.fr.toNat=fr:=by rw [e]; simp
 have e3:w.long.toNat=long:=by rw [e]; simp
 simp only[zbl,e1,e2,e3]at hx
 have:=znv.1 hx
 simp only[zbv,List.mem_map,List.mem_range]at this
 obtain ⟨j,hj,rfl⟩:=this
 have h3:=h2 (fr+j) (by omega) (by omega)
 exact ⟨line,fr+j,by rw [e],rfl,h3.1,h3.2⟩
theorem yko {g:List (List Int)} {nh nw:Nat} {w:Wall} (hw:zr9 g nh nw w) {x:Int} (hx:x∈(zbl g w).2):∃ line j:Nat,w.line=line∧x=(zbx g w.level line j).2∧InL nh nw w.level line j∧zh0 g w.level line j=true:=by
 obtain ⟨line,fr,long,e,h1,h2⟩:=hw
 have e1:w.line.toNat=line:=by rw [e]; simp
 have e2:w.fr.toNat=fr:=by rw [e]; simp
 have e3:w.long.toNat=long:=by rw [e]; simp
 simp only[zbl,e1,e2,e3]at hx
 have:=znv.1 hx
 simp only[zbv,List.mem_map,List.mem_range]at this
 obtain ⟨j,hj,rfl⟩:=this
 have h3:=h2 (fr+j) (by omega) (by omega)
 exact ⟨line,fr+j,by rw [e],rfl,h3.1,h3.2⟩
def rkL (p:List Txt) (a:Nat):Nat:=match (rP p)[a]? with | some b=>b.col.toNat | none=>0
def rkA (p:List Txt) (a:Nat):Nat:=match (rP p)[a]? with | some b=>b.row.toNat | none=>0
theorem zgl {p:List Txt} (hp:zbk p=true) {i j:Nat} (hi:i<p.length) (hj:j<(zag p).length):∃ b,(rP p)[(zaf p i j).toNat]?=some b∧inB b i j=true∧b.Fit∧∀ k l,k<p.length→l<(zag p).length→inB b k l=true→zaf p k l=zaf p i j:=by
 have hN:=zb6 hp
 have hr:=hN.room hi hj
 obtain ⟨b,hb,hbm⟩:=zaj (show (zaf p i j).toNat<(rP p).length by omega)
 have hf:=zyz hp
 have hsm:=zbo hN.hg
 obtain ⟨row0,hr0,hm0⟩:=zaj hsm.1
 have hh:=zcf hr0
 have hw6:=hsm.2.2 row0 hm0
 have hw1:=zfr hN.hg hr0
 rw [← hh]at hw6 hw1
 have hok:=(zgm (g:=zbm p) hw6 hw1 p.length hsm.2.1).1
 rw [← yal]at hok
 refine ⟨b,hb,?_,hok.2 b hbm,fun k l hk hl hkl=>?_⟩
 ·rw [hN.fill hf hb hi hj]; exact decide_eq_true (by omega)
 rw [hN.fill hf hb hk hl]at hkl
 have:=of_decide_eq_true hkl
 omega
theorem yae {p:List Txt} (hp:zbk p=true) {w:Wall} (hw:zr9 (gP p) p.length (zag p).length w) (hl:w.level=false):∀ a∈(zbl (gP p) w).1,∀ b∈(zbl (gP p) w).2,rkL p a.toNat<rkL p b.toNat:=by
 intro a ha b hb
 have hN:=zb6 hp
 obtain ⟨L,j,e1,rfl,⟨h1,h2⟩,h3⟩:=ykn hw ha
 obtain ⟨L',j',e2,rfl,⟨k1,k2⟩,k3⟩:=yko hw hb
 obtain rfl:L=L':=by omega
 simp only[hl,qF,if_false]at h2 k2
 unfold zh0 at k3
 simp only[hl,zbx,qF,if_false,decide_eq_true_eq]at k3 ⊢
 rw [hN.cell k2.2 (by omega),hN.cell k2.2 k2.1]at k3
 rw [hN.cell h2.2 (by omega),hN.cell k2.2 k2.1]
 obtain ⟨r1,hr1,q1,f1,-⟩:=zgl hp h2.2 (show L - 1<(zag p).length by omega)
 obtain ⟨r2,hr2,q2,f2,c2⟩:=zgl hp k2.2 k2.1
 unfold rkL
 rw [hr1,hr2]
 simp only
 have c3:=c2 j' (L - 1) k2.2 (by omega)
 unfold inB at q1 q2 c3
 unfold Rect.Fit at f1 f2
 simp only[qB,decide_eq_true_eq]at q1 q2 c3
 by_cases hc:r2.col<(L:Int)
 ·exact absurd (c3 (by omega)) k3
 omega
theorem z58 {p:List Txt} (hp:zbk p=true) {w:Wall} (hw:zr9 (gP p) p.length (zag p).length w) (hl:w.level=true):∀ a∈(zbl (gP p) w).1,∀ b∈(zbl (gP p) w).2,rkA p a.toNat<rkA p b.toNat:=by
 intro a ha b hb
 have hN:=zb6 hp
 obtain ⟨L,j,e1,rfl,⟨h1,h2⟩,h3⟩:=ykn hw ha
 obtain ⟨L',j',e2,rfl,⟨k1,k2⟩,k3⟩:=yko hw hb
 obtain rfl:L=L':=by omega
 simp only[hl,if_true]at h2 k2
 unfold zh0 at k3
 simp only[hl,zbx,if_true,decide_eq_true_eq]at k3 ⊢
 rw [hN.cell (by omega) k2.2,hN.cell k2.1 k2.2]at k3
 rw [hN.cell (by omega) h2.2,hN.cell k2.1 k2.2]
 obtain ⟨r1,hr1,q1,f1,-⟩:=zgl hp (show L - 1<p.length by omega) h2.2
 obtain ⟨r2,hr2,q2,f2,c2⟩:=zgl hp k2.1 k2.2
 unfold rkA
 rw [hr1,hr2]
 simp only
 have c3:=c2 (L - 1) j' (by omega) k2.2
 unfold inB at q1 q2 c3
 unfold Rect.Fit at f1 f2
 simp only[qB,decide_eq_true_eq]at q1 q2 c3
 by_cases hc:r2.row<(L:Int)
 ·exact absurd (c3 (by omega)) k3
 omega
theorem ykl {p:List Txt} (hp:zbk p=true) (b:Nat):rkL p b≤100∧rkA p b≤100:=by
 have hN:=zb6 hp
 have hsm:=zbo hN.hg
 obtain ⟨row0,hr0,hm0⟩:=zaj hsm.1
 have hh:=zcf hr0
 have hw6:=hsm.2.2 row0 hm0
 have hw1:=zfr hN.hg hr0
 rw [← hh]at hw6 hw1
 have hok:=(zgm (g:=zbm p) hw6 hw1 p.length hsm.2.1).1
 rw [← yal]at hok
 unfold rkL rkA
 cases hb:(rP p)[b]? with
 | none=>simp
 | some r =>
  have:=hok.2 r (List.mem_of_getElem? hb)
  unfold Rect.Fit at this
  simp only
  omega
theorem yif {p:List Txt} (hp:zbk p=true):Up (z1f (gP p) p.length (zag p).length (rP p).length) (rP p).length (rkL p)∧Up (zp1 (gP p) p.length (zag p).length (rP p).length) (rP p).length (rkA p):=by
 have h:=Rise.ord (r0:=rkL p) (r1:=rkA p) (ze2 (p:=p)) (fun w hw hl=>yae hp hw hl) (fun w hw hl=>z58 hp hw hl) (zau (gP p) p.length (zag p).length) zdp (M:=(zcb (rP p).length,zcb (rP p).length)) Rise.empty Rise.empty
 have h0:=h.1.close
 have h1:=h.2.close
 exact ⟨⟨h0.1,h0.2,fun b=>(ykl hp b).1⟩,⟨h1.1,h1.2,fun b=>(ykl hp b).2⟩⟩
theorem zvp {p:List Txt} (hp:zdx p=true):z0b (gP p) p.length (w0 (zbm p)) (rP p).length∧(∃ rk,Up (z1f (gP p) p.length (w0 (zbm p)) (rP p).length) (rP p).length rk)∧∃ rk,Up (zp1 (gP p) p.length (w0 (zbm p)) (rP p).length) (rP p).length rk:=by
 rw [zgk]at hp
 have h:=yif (zee hp)
 rw [zfy]
 exact ⟨ze2,⟨_,h.1⟩,⟨_,h.2⟩⟩
section
open Go Go.ChangeShapes Go.WideShapes Go.ChangeAt Go.RowKit
end
def Rl (T:Nat→Nat→Prop) (F:Nat→Nat) (k:Nat) (w:List Nat):Prop :=
 ∃ f:Nat→Nat,(∀ a,f a<4)∧(∀ a b,a<k→b<k→T a b→f a≠f b)∧∀ x y,x<6→y<6→(w.getD x 0=w.getD y 0↔f (F x)=f (F y))
def yjg (w:List Nat) (c d l:Nat):List Nat:=(List.range 6).map fun x=>if c≤x∧x<c+d then l else w.getD x 0
def okW (w:List Nat) (c d l:Nat):Bool:=(List.range 6).all fun x => !(Nat.ble c (x+1) && Nat.ble x (c+d)) || !(Nat.beq (w.getD x 0) l)
theorem z38 {w:List Nat} {c d l x:Nat} (hx:x<6):(yjg w c d l).getD x 0=if c≤x∧x<c+d then l else w.getD x 0:=by
 unfold yjg
 rw [List.getD_eq_getElem?_getD,List.getElem?_map,List.getElem?_range hx]; rfl
theorem yh7 {w:List Nat} {c d l x:Nat} (h:okW w c d l=true) (hx:x<6) (h1:c≤x+1) (h2:x≤c+d):w.getD x 0≠l:=by
 unfold okW at h
 rw [List.all_eq_true]at h
 have:=h x (List.mem_range.2 hx)
 rw [Nat.ble_eq_true_of_le h1,Nat.ble_eq_true_of_le h2]at this
 intro e
 rw [e,Nat.beq_refl]at this
 cases this
theorem yde {w:List Nat} {l:Nat} {g:Nat→Nat} (hw:∀ x,x<6→w.getD x 0<4) (hl:l<4) (hn:∀ x,x<6→w.getD x 0≠l) (hp:∀ x y,x<6→y<6→(w.getD x 0=w.getD y 0↔g x=g y)):∃ c,c<4∧∀ x,x<6→g x≠c:=by
 refine Classical.byContradiction fun hc=>?_
 have key:∀ c,c<4→∃ x,x<6∧g x=c:=fun c h4=>Classical.byContradiction fun h=>hc ⟨c,h4,fun x hx e=>h ⟨x,hx,e⟩⟩
 obtain ⟨x0,h0,e0⟩:=key 0 (by omega)
 obtain ⟨x1,h1,e1⟩:=key 1 (by omega)
 obtain ⟨x2,h2,e2⟩:=key 2 (by omega)
 obtain ⟨x3,h3,e3⟩:=key 3 (by omega)
 have p01:w.getD x0 0≠w.getD x1 0:=fun e=>by have:=(hp x0 x1 h0 h1).1 e; omega
 have p02:w.getD x0 0≠w.getD x2 0:=fun e=>by have:=(hp x0 x2 h0 h2).1 e; omega
 have p03:w.getD x0 0≠w.getD x3 0:=fun e=>by have:=(hp x0 x3 h0 h3).1 e; omega
 have p12:w.getD x1 0≠w.getD x2 0:=fun e=>by have:=(hp x1 x2 h1 h2).1 e; omega
 have p13:w.getD x1 0≠w.getD x3 0:=fun e=>by have:=(hp x1 x3 h1 h3).1 e; omega
 have p23:w.getD x2 0≠w.getD x3 0:=fun e=>by have:=(hp x2 x3 h2 h3).1 e; omega
 have a0:=hw x0 h0; have a1:=hw x1 h1; have a2:=hw x2 h2; have a3:=hw x3 h3
 have b0:=hn x0 h0; have b1:=hn x1 h1; have b2:=hn x2 h2; have b3:=hn x3 h3
 generalize w.getD x0 0=w0 at *
 generalize w.getD x1 0=w1 at *
 generalize w.getD x2 0=w2 at *
 generalize w.getD x3 0=w3 at *
 omega
theorem Rl.step {T:Nat→Nat→Prop} (hs:∀ a b,T a b→T b a) {F F':Nat→Nat} {k c d l:Nat} {w:List Nat} (h:Rl T F k w) (hw:∀ x,x<6→w.getD x 0<4) (hl:l<4) (ho:okW w c d l=true)
  (hF:∀ x,x<6→F x≠k) (hF':∀ x,x<6→F' x=if c≤x∧x<c+d then k else F x) (hN:∀ a,a<k→T a k→∃ x,x<6∧c≤x+1∧x≤c+d∧F x=a) (hk:¬ T k k):Rl T F' (k+1) (yjg w c d l):=by
 obtain ⟨f,f1,f2,f3⟩:=h
 obtain ⟨q,q1,q2,q3⟩:∃ q,q<4∧(∀ x,x<6→c≤x+1→x≤c+d→f (F x)≠q)∧∀ x,x<6→(w.getD x 0=l↔f (F x)=q):=by
  by_cases hy:∃ y,y<6∧w.getD y 0=l
  ·obtain ⟨y,hy,e⟩:=hy
   refine ⟨f (F y),f1 _,fun x hx h1 h2 e2=>yh7 ho hx h1 h2 (((f3 x y hx hy).2 e2).trans e),fun x hx=>?_⟩
   rw [← e]; exact f3 x y hx hy
  have hn:∀ x,x<6→w.getD x 0≠l:=fun x hx e=>hy ⟨x,hx,e⟩
  obtain ⟨q,q1,q2⟩:=yde (g:=fun x=>f (F x)) hw hl hn f3
  exact ⟨q,q1,fun x hx _ _=>q2 x hx,fun x hx=>⟨fun e=>absurd e (hn x hx),fun e=>absurd e (q2 x hx)⟩⟩
 have hfF:∀ x,x<6→(if F x=k then q else f (F x))=f (F x):=fun x hx=>if_neg (hF x hx)
 refine ⟨fun a=>if a=k then q else f a,fun a=>?_,fun a b ha hb hT=>?_,fun x y hx hy=>?_⟩
 ·by_cases e:a=k
  ·simp only[e,if_true]; exact q1
  simp only[e,if_false]; exact f1 a
 ·by_cases e1:a=k
  ·by_cases e2:b=k
   ·rw [e1,e2]at hT; exact absurd hT hk
   obtain ⟨x,hx,x1,x2,x3⟩:=hN b (by omega) (e1 ▸ hs _ _ hT)
   simp only[e1,e2,if_true,if_false]
   rw [← x3]; exact fun e=>q2 x hx x1 x2 e.symm
  by_cases e2:b=k
  ·obtain ⟨x,hx,x1,x2,x3⟩:=hN a (by omega) (e2 ▸ hT)
   simp only[e1,e2,if_true,if_false]
   rw [← x3]; exact q2 x hx x1 x2
  simp only[e1,e2,if_false]; exact f2 a b (by omega) (by omega) hT
 rw [z38 hx,z38 hy]
 simp only[hF' x hx,hF' y hy]
 by_cases c1:c≤x∧x<c+d
 ·by_cases c2:c≤y∧y<c+d
  ·simp only[if_pos c1,if_pos c2,if_true]
  simp only[if_pos c1,if_neg c2,if_true,hfF y hy]
  exact ⟨fun e=>((q3 y hy).1 e.symm).symm,fun e=>((q3 y hy).2 e.symm).symm⟩
 by_cases c2:c≤y∧y<c+d
 ·simp only[if_neg c1,if_pos c2,if_true,hfF x hx]
  exact q3 x hx
 simp only[if_neg c1,if_neg c2,hfF x hx,hfF y hy]
 exact f3 x y hx hy
def mat (w:List Nat):Nat :=
 let e:=fun x y=>if Nat.beq (w.getD x 0) (w.getD y 0) then 1 else 0
 e 0 1+2*(e 0 2+2*(e 0 3+2*(e 0 4+2*(e 0 5+2*(e 1 2+2*(e 1 3+2*(e 1 4+2*(e 1 5+2*(e 2 3+2*(e 2 4+2*(e 2 5+2*(e 3 4+2*(e 3 5+2*e 4 5)))))))))))))
theorem ydv {v w:List Nat} (h:mat v=mat w) {x y:Nat} (hx:x<6) (hy:y<6):v.getD x 0=v.getD y 0↔w.getD x 0=w.getD y 0:=by
 have k:∀ (u:List Nat) x y,∃ r,r<2∧(if Nat.beq (u.getD x 0) (u.getD y 0) then 1 else 0:Nat)=r∧(u.getD x 0=u.getD y 0↔r=1):=fun u x y=>by
  cases hb:Nat.beq (u.getD x 0) (u.getD y 0) with
  | true=>exact ⟨1,by omega,rfl,⟨fun _=>rfl,fun _=>Nat.eq_of_beq_eq_true hb⟩⟩
  | false=>exact ⟨0,by omega,rfl,⟨fun e=>(by rw [e,Nat.beq_refl]at hb; cases hb),fun e=>(by cases e)⟩⟩
 have st:∀ {a b m n:Nat},a<2→b<2→a+2*m=b+2*n→a=b∧m=n:=fun _ _ _=>by omega
 have main:∀ x y,x<y→y<6→(v.getD x 0=v.getD y 0↔w.getD x 0=w.getD y 0):=by
  intro x y hxy hy
  unfold mat at h
  simp only at h
  obtain ⟨r01,s01,t01,u01⟩:=k v 0 1
  obtain ⟨p01,q01,o01,z01⟩:=k w 0 1
  obtain ⟨r02,s02,t02,u02⟩:=k v 0 2
  obtain ⟨p02,q02,o02,z02⟩:=k w 0 2
  obtain ⟨r03,s03,t03,u03⟩:=k v 0 3
  obtain ⟨p03,q03,o03,z03⟩:=k w 0 3
  obtain ⟨r04,s04,t04,u04⟩:=k v 0 4
  obtain ⟨p04,q04,o04,z04⟩:=k w 0 4
  obtain ⟨r05,s05,t05,u05⟩:=k v 0 5
  obtain ⟨p05,q05,o05,z05⟩:=k w 0 5
  obtain ⟨r12,s12,t12,u12⟩:=k v 1 2
  obtain ⟨p12,q12,o12,z12⟩:=k w 1 2
  obtain ⟨r13,s13,t13,u13⟩:=k v 1 3
  obtain ⟨p13,q13,o13,z13⟩:=k w 1 3
  obtain ⟨r14,s14,t14,u14⟩:=k v 1 4
  obtain ⟨p14,q14,o14,z14⟩:=k w 1 4
  obtain ⟨r15,s15,t15,u15⟩:=k v 1 5
  obtain ⟨p15,q15,o15,z15⟩:=k w 1 5
  obtain ⟨r23,s23,t23,u23⟩:=k v 2 3
  obtain ⟨p23,q23,o23,z23⟩:=k w 2 3
  obtain ⟨r24,s24,t24,u24⟩:=k v 2 4
  obtain ⟨p24,q24,o24,z24⟩:=k w 2 4
  obtain ⟨r25,s25,t25,u25⟩:=k v 2 5
  obtain ⟨p25,q25,o25,z25⟩:=k w 2 5
  obtain ⟨r34,s34,t34,u34⟩:=k v 3 4
  obtain ⟨p34,q34,o34,z34⟩:=k w 3 4
  obtain ⟨r35,s35,t35,u35⟩:=k v 3 5
  obtain ⟨p35,q35,o35,z35⟩:=k w 3 5
  obtain ⟨r45,s45,t45,u45⟩:=k v 4 5
  obtain ⟨p45,q45,o45,z45⟩:=k w 4 5
  rw [t01,t02,t03,t04,t05,t12,t13,t14,t15,t23,t24,t25,t34,t35,t45,o01,o02,o03,o04,o05,o12,o13,o14,o15,o23,o24,o25,o34,o35,o45]at h
  obtain ⟨e01,h⟩:=st s01 q01 h
  obtain ⟨e02,h⟩:=st s02 q02 h
  obtain ⟨e03,h⟩:=st s03 q03 h
  obtain ⟨e04,h⟩:=st s04 q04 h
  obtain ⟨e05,h⟩:=st s05 q05 h
  obtain ⟨e12,h⟩:=st s12 q12 h
  obtain ⟨e13,h⟩:=st s13 q13 h
  obtain ⟨e14,h⟩:=st s14 q14 h
  obtain ⟨e15,h⟩:=st s15 q15 h
  obtain ⟨e23,h⟩:=st s23 q23 h
  obtain ⟨e24,h⟩:=st s24 q24 h
  obtain ⟨e25,h⟩:=st s25 q25 h
  obtain ⟨e34,h⟩:=st s34 q34 h
  obtain ⟨e35,h⟩:=st s35 q35 h
  have g01:=u01.trans ((iff_of_eq (congrArg (· = 1) e01)).trans z01.symm)
  have g02:=u02.trans ((iff_of_eq (congrArg (· = 1) e02)).trans z02.symm)
  have g03:=u03.trans ((iff_of_eq (congrArg (· = 1) e03)).trans z03.symm)
  have g04:=u04.trans ((iff_of_eq (congrArg (· = 1) e04)).trans z04.symm)
  have g05:=u05.trans ((iff_of_eq (congrArg (· = 1) e05)).trans z05.symm)
  have g12:=u12.trans ((iff_of_eq (congrArg (· = 1) e12)).trans z12.symm)
  have g13:=u13.trans ((iff_of_eq (congrArg (· = 1) e13)).trans z13.symm)
  have g14:=u14.trans ((iff_of_eq (congrArg (· = 1) e14)).trans z14.symm)
  have g15:=u15.trans ((iff_of_eq (congrArg (· = 1) e15)).trans z15.symm)
  have g23:=u23.trans ((iff_of_eq (congrArg (· = 1) e23)).trans z23.symm)
  have g24:=u24.trans ((iff_of_eq (congrArg (· = 1) e24)).trans z24.symm)
  have g25:=u25.trans ((iff_of_eq (congrArg (· = 1) e25)).trans z25.symm)
  have g34:=u34.trans ((iff_of_eq (congrArg (· = 1) e34)).trans z34.symm)
  have g35:=u35.trans ((iff_of_eq (congrArg (· = 1) e35)).trans z35.symm)
  have g45:=u45.trans ((iff_of_eq (congrArg (· = 1) h)).trans z45.symm)
  have hx5:x=0∨x=1∨x=2∨x=3∨x=4:=by omega
  have hy5:y=1∨y=2∨y=3∨y=4∨y=5:=by omega
  rcases hx5 with rfl | rfl | rfl | rfl | rfl <;> rcases hy5 with rfl | rfl | rfl | rfl | rfl <;> first | assumption | (exfalso; exact absurd hxy (by decide))
 rcases Nat.lt_trichotomy x y with h1 | h1 | h1
 ·exact main x y h1 hy
 ·subst h1; simp
 have:=main y x h1 hx
 exact ⟨fun e=>(this.1 e.symm).symm,fun e=>(this.2 e.symm).symm⟩
theorem Rl.same {T:Nat→Nat→Prop} {F:Nat→Nat} {k:Nat} {v w:List Nat} (h:Rl T F k v) (e:mat v=mat w):Rl T F k w:=by
 obtain ⟨f,f1,f2,f3⟩:=h
 exact ⟨f,f1,f2,fun x y hx hy=>(ydv e hx hy).symm.trans (f3 x y hx hy)⟩
def z77 (n:Nat):List Nat:=[n % 4,n / 4 % 4,n / 16 % 4,n / 64 % 4,n / 256 % 4,n / 1024 % 4]
theorem yg7 {n x:Nat} (hx:x<6):(z77 n).getD x 0<4:=by
 have:x=0∨x=1∨x=2∨x=3∨x=4∨x=5:=by omega
 rcases this with rfl | rfl | rfl | rfl | rfl | rfl <;> (show _ % 4<4; omega)
def z5w (n c d:Nat):Nat→Nat
 | 0=>0
 | l+1=>if okW (z77 n) c d l then (2 ^ mat (yjg (z77 n) c d l)) ||| z5w n c d l else z5w n c d l
def zsg (c d:Nat):List Nat→Nat
 | []=>0
 | n::C=>z5w n c d 4 ||| zsg c d C
theorem zq3 {n c d i:Nat}:∀ {l:Nat},l≤4→(z5w n c d l).testBit i=true→∃ j,j<4∧okW (z77 n) c d j=true∧mat (yjg (z77 n) c d j)=i
 | 0,_,h=>by simp [z5w]at h
 | l+1,hl,h=>by
  unfold z5w at h
  split at h
  ·rename_i ho
   rw [Nat.testBit_or,Nat.testBit_two_pow,Bool.or_eq_true,decide_eq_true_eq]at h
   rcases h with h | h
   ·exact ⟨l,by omega,ho,h⟩
   exact zq3 (by omega) h
  exact zq3 (by omega) h
theorem zx1 {c d i:Nat}:∀ {C:List Nat},(zsg c d C).testBit i=true→∃ n∈C,∃ j,j<4∧okW (z77 n) c d j=true∧mat (yjg (z77 n) c d j)=i
 | [],h=>by simp [zsg]at h
 | n::C,h=>by
  unfold zsg at h
  rw [Nat.testBit_or,Bool.or_eq_true]at h
  rcases h with h | h
  ·exact ⟨n,by simp,zq3 (qR _) h⟩
  obtain ⟨m,hm,r⟩:=zx1 h
  exact ⟨m,by simp [hm],r⟩
def inM (D:Nat):List Nat→Bool
 | []=>true
 | e::E=>Nat.testBit D (e / 4096) && inM D E
theorem z82 {D:Nat}:∀ {E:List Nat},inM D E=true→∀ e∈E,D.testBit (e / 4096)=true
 | [],_,e,he=>by simp at he
 | a::E,h,e,he=>by
  simp only[inM,qB]at h
  rcases List.mem_cons.1 he with rfl | he
  ·exact h.1
  exact z82 h.2 e he
def zrk:List (List (Nat × List Nat × Nat)):=[
 [(9,[134213632],1541486767558316625765626424653447371436961788027474959),(8,[24048640],1541568611919009897125712283398375795179529999557595662),(8,[45576448],24528919880547259287146593811067141362767022763952855617),(8,[69629184],3074064152784158301046502475572733775894233589430095885),(8,[81506368],55226814719621274872918245896546811785565301580753557055),(8,[26423616],26109399443169996350115394077440389448058818775170174523),(8,[117585216],7674666696872614361143143038056910216381997930744647180),(8,[119394320],58360777203988163576945133587159963928622411682420372025),(8,[70881360],67495776267993985794943819480471275622990796566358142003),(8,[24187216],30715883287213437204921096046106600615171608816671533103),(8,[132126032],13816668261711222423622372131262238706420557876152505355),(8,[132243460],70644733896421413952223880767020898187394516592748925987),(8,[117686292],89070668117143958188736966218254926840986829032282141215),(8,[69697620],98163681162112538227701499822818465727340042027883310108),(8,[24052052],39928850609210155406664414519562263910450074512674531354),(8,[134088020],21494228720474715458164462138590441011346036881201042447),(7,[2521344],3074064152786248995925124875741654616582007228205640219),(7,[16922944],7674836231064635440760274530365225753950809726739820574),(7,[9646656],102734176486464439268032776492395554747285066376806974579),(7,[67254848],27597278262319099904540197075891230810545178099749760541)],
 [(7,[23075152],13816820258530578480019668531197037350414616664730767906),(7,[3215952],110405651412240877411558217158815437016354470909511765607),(7,[69212752],32206766748920068764443527532162522774244950515962089505),(7,[68784272],151938979086327629669636911960128438986377635627562470511),(7,[17896080],115159086105548300651617233169216816713151483335145719920),(7,[117447312],36849320236006471061904266381675383510906706651438911008),(7,[23988564],21494345641120840438090415006493448456836162212202811918),(7,[2556500],131878583061164445143319604989711970199578372598628126293),(7,[69601876],41416787672376088912452164045760892793905847184917532685),(7,[67338388],178033389368726939629624799390696375008903554968303995988),(7,[16974484],136656009765350292485683866634483822908949473276622833746),(7,[117574292],46062351852835392869924415796360451469996810256816541196),(7,[117555236],181197348193192093190690253032940057610786963280981668433),(7,[69304484],190311348401672744995560208031159205288284654925041642574),(7,[23134884],145868977716563361899757331857932921958198567129709815884),(7,[132123300],52204353634950814743831994359398132769046107003616236555),(7,[38450240,4896832],55227101174211194470686908793306826002952970351577420349),(7,[38450240,33699392],27597108728131216658536999702834166702675402241793609788),(7,[26006544,17618960],58361104581495573973028670692902907427253358231901450295),(7,[26006544,25171600],36849308543347870375942505988162676147641175412576636470)],
 [(7,[39145744,34951696],147245518574211895168881794825476592046668034824142637185),(7,[39145744,5312912],148861991999157423912345235800102136391704070654534664834),(7,[79975696,67394064],61426095663226262786164080871240988095970776414799539765),(7,[79975696,79697296],62901732738065585380155381901456218274169725789410186804),(7,[44602448,2660432],67496074415468649572969021034656070309371209176603699761),(7,[44602448,44045904],32206614752104284311801608809875772505017492368837073456),(7,[24175620,23128068],70645043735886788528313495399656110699468750920109789730),(7,[24175620,24118948],52204225022650929296175920361711080704349186911233124399),(7,[44654852,44130820],154931988644047653193672651676793344333931542601566280317),(7,[44654852,2687396],156548462355024107874622333213647975248181109404719681638),(7,[70804740,69233156],73710034817617782234447069956602887023923476369318613025),(7,[70804740,70780324],75191658135638434604817898448006768071270824121482357811),(7,[80060484,79798404],193418319244561097362604609454963600792949575204788262523),(7,[80060484,67469412],194953814072817323165964938168521391555198278237940388973),(7,[26026308,25240196],159703417345513894510460604131361129438735734018863812215),(7,[26026308,17629540],161238912173769118522518439419546813364258385411338180201),(7,[119285060,117451396],82911152215696454500465262029607777784307776189193784864),(7,[119285060,119276900],84446646484069123952401062498313077967923894899764113977),(7,[26395668,16959508],89070977956810605701471912900767163873780399399484272670),(7,[26395668,26347156],46062340160310727318756489246155204702120917667754036795)],
 [(7,[38486292,33767956],173357922864770371654757600648520666236241594430407362677),(7,[38486292,4915604],174956402281557343658335609600678072349986345966698807922),(7,[81413396,67258900],92135969038541163846175828656480707078719597786872950301),(7,[81413396,81397140],93569701927151017008414145722786169712636617841034679871),(7,[45515860,2525268],98164026077818481682106475787863086959798000660840458779),(7,[45515860,45483604],41416670751733535536274119858169388995548703920082934337),(6,[4896832,147008],27597278262319840358977794475686389935782808710877319767),(6,[33699392,147008],27597102882124710891068639470657326616067406736740878931),(6,[17618960,16785040],36849501462212244130880121734273566109639119538205503579),(6,[34951696,1119120],202415358045383719845210424282394429409756127706750192294),(6,[67394064,67116944],105811800801174498719991750635388655819853757455908482650),(6,[2660432,2104912],32206766748922812801457555417630554249387312160432466525),(6,[44045904,2104912],32206608906076915151852591998627065994460625892694043213),(6,[5312912,1119120],207108818557500369024972075332098697802274537014150366888),(6,[79697296,67116944],111941800501987460196301214132918364758484603614388039247),(6,[25171600,16785040],36849518999562826189625365575160808193541208825692172368),(6,[23128068,23072420],52204417941470614453269154667333302290312413689523999266),(6,[44130820,2163620],210101828115221133003428808760996735689851383016244402314),(6,[69233156,69210020],118101726198702877127513357626514408979418242653967355937),(6,[79798404,67207396],256355607313662195326493892055472990377659938681415029907)],
 [(6,[25240196,16843748],221108209873750584524847187332054667618490370932234013841),(6,[117451396,117444580],122837090885766341083891692502613982852962104553976106528),(6,[16959508,16912020],46062533079041296607341532819457930040045975037289967646),(6,[33767956,197524],228527762335942196331081054288037771738683376273827367574),(6,[67258900,67243924],127284796744930531394878707324715902839514110707983461917),(6,[2525268,2494036],41416787672378963617907416839860813621712317318701787675),(6,[45483604,2494036],41416664905706166376169659293543596196977406458435480091),(6,[4915604,197524],233203228839900288770962142361229378529041650124138808980),(6,[81397140,67243924],133414796445877558674243435520428091379610922848200175133),(6,[26347156,16912020],46062550616525683132283920291583453198759338055803613214),(6,[67469412,67207396],267128061531994580731919395797102525405556885852772928653),(6,[17629540,16843748],239543141796411368874623834682245194816706958147809740939),(6,[119276900,117444580],139727501620529025262232082997994454586582905071347437088),(6,[2687396,2163620],245481187872847531489615425045761878102638441080235265672),(6,[70780324,69210020],142621789311020553518102641806634921550871770399025139745),(6,[24118948,23072420],52204552399933894885561786794980356478303913180946240034),(6,[4479248,8672784,286224],61426095663228919710901259713013111991987302117369483883),(6,[4479248,37755280,4201872],62901937348943885349057741239948596138112361444667839098),(6,[8672784,8950928,8394640],105811607882312869002068162140920497209407900610420327530),(6,[8950928,34117776,564368],151939341539874336007390514476445873189084812309273545326)],
 [(6,[34117776,37755280,33561488],111941601738437682046200138345590296974969395473336782968),(6,[2648324,3171844,2125316],73710034817620221378474609159315728731378987641665497693),(6,[2648324,44566948,2624932],75191862746606155340047983781479983491873920645486619185),(6,[3171844,3179684,3147684],118101533279885718226731649707830821830392675003733151335),(6,[17574212,17835652,16789124],82911345133915021323678012992272739703237253584009834587),(6,[17574212,25954660,17567076],84446839403023746040407795230229330338509579280494899255),(6,[8725060,8987012,8463236],251653149797467226011961467592849488514099285564313879724),(6,[8725060,4522596,328548],253188644625724018045175152211423046020737244421455154338),(6,[67381828,68691332,67121028],162601113258938802814284552160291581940080009340257316442),(6,[67381828,79956580,67374948],164136607528048964883745839489222096020358348882687569461),(6,[8987012,34160932,590308],260965090227730958125372554387963632815577320996196911274),(6,[68691332,68699428,68683236],168811951265133030701553932802952670097449674316249336943),(6,[17835652,17876004,17827812],122837085039158760538683520993841984206437995861164460144),(6,[4868372,9586196,151060],92135969038543951439347094900180135281755104791358902871),(6,[4868372,38406548,4853140],93569906537895381842515197783857441454753091032745267773),(6,[9586196,9602196,9570196],127284603826202836811748917179338398434034650604605326451),(6,[9602196,33720468,167060],178033769360472179025699821117731183029633695030998239827),(6,[33720468,38406548,33688468],133414597682193845389518890524559635662890823987932450876),(6,[17876004,25217060,16829476],181197646340979315858964140184452877287103012770766139472),(6,[25217060,25954660,25168868],139727484081751892414090009516368982212243072654460079670)],
 [(6,[34160932,37831204,33637156],262419611859087120945280886330015088446352011831719282857),(6,[68699428,79710756,67129124],184262637422710396677383646501646300235439226354127613519),(6,[37831204,4522596,4260580],265586568987050676631785829643055808195902620971547017891),(6,[79710756,79956580,79694564],187234845848592312772174618423523866940591429935665272372),(6,[3179684,44075172,2133156],190311740085564756841620861486151919413191689394805287501),(6,[44075172,44566948,44043172],142621590546040391637998674940048085650057430773699729968),(6,[39101508,4499524,5284996,37791876,4238468],193418658314059218556752586893644867781315616207012385402),(6,[39101508,4499524,34899044,8685668,298084],194954153142628264578893860314657683825783108125499888235),(6,[39101508,34874948,37791876,34089348,33565572],162600920340724983610697645401447968043976650346531672184),(6,[39101508,34874948,34899044,39061092,34867044],164136414609097827287201083677370700672970115238442879105),(6,[39101508,5284996,5260836,39061092,5244644],187234810772397216502305305658714308171652129487177171586),(5,[4479248,286224,564368,4201872],61369430116064897843467263764659944093081832904169394845),(5,[8672784,286224,8394640,33561488],105812063870802896407441253326307920410331920068355066508),(5,[286224,34117776,564368,33561488],105811602036954565754208949722791646841015746575683062426),(5,[8950928,564368,4201872,8394640],111941800501993296719465819507142351381536887611589169806),(5,[37755280,4201872,8394640,33561488],111941595891760585901629087734727746109702673159034523794),(5,[2648324,2125316,2133156,2624932],73659355513593973149276641116583627187330213370107800157),(5,[3171844,2125316,3147684,44043172],118101965885842957811373773163487038493346082062693050957),(5,[2125316,44075172,2133156,44043172],118101527433723891258276435930222852142704084473323465293),(5,[17574212,16789124,16829476,17567076],82911467626802395279916761934205448120450907534093725787)],
 [(5,[8725060,8463236,33637156,328548],280986499017832961473984435071438980219563755790276805817),(5,[67381828,67121028,67129124,67374948],214706084141266964184579287513842359022244854403278319194),(5,[8987012,8463236,590308,4260580],290070509212717281840539101137740703274077620513838514364),(5,[68691332,67121028,68683236,79694564],217851913802434216550832357457304016253284048594803895887),(5,[17835652,16789124,17827812,25168868],122837190268749238001071973162348673950523633022660784208),(5,[16789124,25217060,16829476,25168868],122837201959134469366073445199314163758360632008279076944),(5,[8463236,37831204,33637156,4260580],291507036721506620534238601280121370046799711372359852219),(5,[67121028,79710756,67129124,79694564],223981907656279823750839472256292922825374863604048735823),(5,[4868372,151060,167060,4853140],92037399305016394336933516536083773093539548115788927575),(5,[9586196,151060,9570196,33688468],127284989662614272333626526328693571355782537499963329107),(5,[151060,33720468,167060,33688468],127284597980710729097537076177949673285361243210482485843),(5,[9602196,167060,4853140,9570196],133414796445882741855297616365906261189779256510618571351),(5,[38406548,4853140,9570196,33688468],133414591835650553711142726493041659509986010524599996476),(5,[17876004,16829476,17567076,17827812],139727601002642018897104515476250769519537048520100163675),(5,[34160932,33637156,328548,590308],293069522676404767444004363293429379713552132157538896568),(5,[68699428,67129124,67374948,68683236],236274820077191361840206462153369772299091139416520928858),(5,[25954660,17567076,17827812,25168868],139727612693874504350068647222378889788676834816827863094),(5,[4522596,328548,590308,4260580],299310467890179553441738561775829866832431836174358218422),(5,[79956580,67374948,68683236,79694564],240872318391020120071695391494731010857980540595003731508),(5,[3179684,2133156,2624932,3147684],142621789311022208651576586362123903093632669045402118749)],
 [(5,[44566948,2624932,3147684,44043172],142621584700012369130908872767444889862980313984524626480),(5,[4499524,273988,5284996,4238468,535940,1058692],162601113258939586824867696376832129052328838505442087581),(5,[4499524,273988,8685668,298084,4460132,8653668],164136607528050707129483979400115610737074969324655514219),(5,[4499524,37791876,4238468,4214308,4460132,37752548],187234916001118661805223438869692365081445173237614400122),(5,[34874948,273988,34089348,535940,1058692,33565572],162600908648712015631903534607398942004415567525136861850),(5,[34874948,273988,39061092,4460132,34867044,8653668],164136402917085686874967890359667232983872156340956205675),(5,[34874948,1058692,1066788,34899044,34867044,1082596],214705774302318818811564122666546854133464848255069260454),(5,[5284996,37791876,4238468,1082596,8423652,33590500],256355882077088273960913471067322818306031917816013672594),(5,[5284996,1058692,5260836,1066788,1082596,5244644],223981790736305813613044722715416234783074396547058304680),(5,[37791876,34089348,33565572,33590500,34082276,37752548],217851814419453236103989687123728276788907376386791198840),(5,[34089348,535940,8931620,544036,8915428,34082276],168812062339995962258997253100596591675633268085909654126),(5,[8931620,544036,5260836,4214308,1066788,8407844],184262637422712008254694833982015999015831449167674774158),(5,[8931620,8407844,8685668,8653668,8423652,8915428],236274703156302890490665899481326366296853087084576556138),(5,[5260836,4214308,39061092,4460132,5244644,37752548],187234968615490251706952650957163487071106958562007995002),(5,[34899044,8685668,298084,1082596,8423652,33590500],267128283681696662193241528751100442843901728967872776844),(5,[34899044,39061092,34867044,33590500,34082276,37752548],240872207317679301491189320436136281196479592645407297656),(4,[8672784,8950928,37755280],301971662636498759060297385356089790223991025567835669714),(4,[2648324,3179684,44566948],75192271968605885667855750351368663010748172174400956977),(4,[17574212,17876004,25954660],84447201856971081779322143787986555844909670712405667895),(4,[8725060,34160932,37831204],345174370940003843499327938981125214936395802862504484067)],
 [(4,[67381828,68699428,79710756],274680178201858180514926574416065479726142026671981604550),(4,[4868372,9602196,33720468],178022188421501714779302553969819017801736579920746351305),(4,[4499524,273988,4238468,535940,544036,4214308,298084,4460132],274473410235037587895715356900180552636271648367872348829),(4,[34874948,273988,1058692,33565572,1066788,8407844,34867044,8653668],214706241984315354337876291884193257907904774800899869324),(4,[273988,34089348,535940,33565572,544036,298084,33590500,34082276],162601124677704178765929101192660853670699037310103095962),(4,[273988,33565572,8407844,8685668,298084,8653668,8423652,33590500],214706347210805374880664526421686841387140617930197731980),(4,[5284996,4238468,535940,1058692,1082596,8423652,8915428,5244644],217851913802435479679019609091683087988281013062087512718),(4,[37791876,4238468,33565572,4214308,8407844,8423652,33590500,37752548],223981796582157695077814376889013453192694279413611122834),(4,[4238468,535940,8931620,544036,4214308,8407844,8423652,8915428],168812068185112964474816767565559225144042890251658105486),(4,[34089348,535940,1058692,33565572,8915428,34082276,5244644,37752548],217851802726973694716748780796514795258057258534221402222),(4,[1058692,33565572,5260836,4214308,1066788,8407844,5244644,37752548],223982106420504939892677006109296869637933297885508030610),(4,[8931620,544036,1066788,8407844,34867044,8653668,8915428,34082276],236275036378654728753053135141586262666150374727844661866),(4,[544036,5260836,4214308,1066788,298084,4460132,1082596,5244644],184169971687751924666620415218491541781208773738086568605),(4,[544036,1066788,34899044,298084,34867044,1082596,33590500,34082276],236274709003068579825058614355257266322759179039213652634),(4,[8685668,298084,4460132,8653668,1082596,8423652,8915428,5244644],240872318391024824135152290587027584946613097953732629098),(4,[39061092,4460132,34867044,8653668,8915428,34082276,5244644,37752548],240872201470891311406626815146564219794534063844541092019),(3,[4479248,33561488],355609240407068627849168400556973471239717624513554909899),(3,[34951696,5312912],372522363081496163550983899652625696057725840338825087232),(3,[79798404,67469412],392918653528235075449311536785166532079856537592570599167),(3,[8463236,4522596],449797931702663772699030698847029720741259003765893752603)],
 [(3,[67121028,79956580],305560964797152519907305651795902501276207379912248536811),(3,[33767956,4915604],404764749535518456807136667726752286461932173266901109004),(3,[167060,38406548],410797173325913903354944685925238562871552358510815203568),(3,[33637156,4522596],455978889372957130825706716220774967601496252227136646426),(3,[4479248,8950928,8394640],300439395089240352640033874545179601909408715706726925511),(3,[8672784,34117776,8394640],105812063870829988328365801318256375842757274706758911237),(3,[8950928,37755280,33561488],111941601738442603890355375971844948786390721522774069459),(3,[3171844,2133156,44043172],118102386800147569421719392542015363172271783130899688013),(3,[2125316,44075172,3147684],118101965885848053911194264586849927110185890346342820429),(3,[39101508,34874948,37791876],386513517375639517212162309291819273847489243496626571537),(3,[8725060,8987012,37831204],390039600816846845194849711308503648858090815836857615647),(3,[8987012,37831204,33637156],466241518668411633122072386688697323850855954509886495520),(3,[68691332,79710756,67129124],323720403808985334716297967710140507133614429951092600399),(3,[17835652,16829476,25168868],122837774871237230672544411704993959297109039485684035664),(3,[16789124,25217060,17827812],122837909327559900905128201783890255767449761610309316688),(3,[16789124,25954660,17827812],122837809947076821665166210046658799776517264681867686125),(3,[4868372,167060,33688468],277470043732561794038504589887428272264485363158662810195),(3,[9586196,33720468,167060],178022451491799352603425734929963024183559427386564446803),(3,[9586196,167060,33688468],127285474885734745729836165038106571826516745090635434579),(3,[151060,38406548,9570196],127284989662619281290104020243144410312949491777619452106)],
 [(3,[68699428,67129124,79956580],311460549996925311318876055998116471690352807722810879688),(3,[3179684,2133156,44566948],190129852601264486238486319967632948695741415124506258154),(3,[5284996,37791876,544036,1082596,33590500],256356548521839688028401971852263336955165873883864125715),(3,[4499524,273988,8931620,5260836,1066788,8407844],184262941290773220571993244788804155914798947273217184455),(3,[4499524,273988,5260836,1066788,8685668,8653668],361828894753698228270340685021742605433507840085082018411),(3,[34874948,273988,8931620,544036,5260836,4214308],274680254200950905977129492929604795755687252235188212480),(3,[5284996,34089348,8931620,544036,1082596,34082276],168812658634183318646323746159988909656005354147803597422),(3,[37791876,34089348,8685668,8653668,34082276,37752548],392556306078168965127280873733578092517518042623237443763),(3,[34089348,535940,8931620,34899044,1082596,8915428],168812471561995692586805026008738272806604947331727526510),(3,[8931620,8407844,8685668,39061092,8423652,37752548],311367727102327270503866929119414450473234993528219157610),(3,[5260836,4214308,34899044,8685668,8423652,33590500],267119882970290815793474406324390560637530368138919119612),(2,[38450240],476664807183947192743496856697612216014573953088309285104),(2,[39145744],482151278701579086598165983401473428353642153010989795564),(2,[24175620],500586213873253386240970178717176709204543586645596973434),(2,[44654852],503651199108960843670588967352398075730059320223921766265),(2,[80060484],362676604356097953097021930210533279425724375940845176692),(2,[39101508],509796182125252177181643554895818312061736389126358468979),(2,[26026308],511328671820089303026321476731310388577957484800428641137),(2,[119285060],363906218297665860661650255954572803514789255536824562544),(2,[26395668],531293102131456222330048729381295271898416734004920617829)],
 [(2,[38486292],532825591819023305240005668072646707264555733444343269732),(2,[45515860],537991801350057626677848476449534447428960143809630601056),(2,[8672784,564368],374876169935207795963579701509719761430021653620494821710),(2,[8672784,4201872],301971878944477166725678295772324353969688794609796880636),(2,[286224,8950928],371802614453881215599619691233079278590088765738089833730),(2,[286224,37755280],301971610022439466698648927501002890300730246578481778962),(2,[34117776,4201872],378596685212070146484132763088877049059789696961436289295),(2,[564368,37755280],377064183825197664746019452214485009079485906725372547347),(2,[23128068,24118948],52205540379058523427891824999469048328594267096371958306),(2,[3171844,2624932],504291736626757540900575161469817454979936456398497917768),(2,[4499524,34874948],362373722756799884643953381767482811091562155469580135789),(2,[17574212,25168868],363906775940800925834895996012714736142641151567979622670),(2,[8725060,4238468],514393659601801059305729569889374144340789080786450618734),(2,[8725060,4260580],514393662901814939326783168676581790147567060990284110116),(2,[34874948,535940],512010538332011698359257160071961213886386733255418872685),(2,[67381828,79694564],388426704594648962596231255305587909997910255720824057542),(2,[5284996,34899044],520116789225155103390600899156256926597792811323482802511),(2,[37791876,39061092],518760719756219027364016141009471309032396964969079492844),(2,[8987012,328548],524713273348955642335954385287063512691149721758778123625),(2,[68691332,67374948],395978470626618946597004045961849172006881428502177918800)],
 [(2,[17835652,17567076],526240591600219238220604772531748911026676629857295937869),(2,[8463236,34160932],553866675417637001514032014741079058567284992334257619286),(2,[67121028,68699428],400617589013713020275633137758188046386111999004367662933),(2,[16959508,26347156],46063696433834613123304688869726011850137351866956394526),(2,[9586196,4853140],308120445618469720902303630006165285575738072454039968091),(2,[151060,38406548],308120433922420187345567826368361665173077029562450825418),(2,[2525268,45483604],41416670751737978262914156107607123768962607377170311707),(2,[9602196,33688468],412329674716826478718609785443263157161412410579129047821),(2,[33720468,4853140],309652081792330108639503528413861761825459514170407487689),(2,[33720468,9570196],409264671942546210242826859436249991983726098763621496587),(2,[25217060,17567076],549294008589688655542747843854817599517857814540501397755),(2,[34160932,4260580],554061602989733864329653816235587835524359087757103040802),(2,[68699428,79694564],416137518081277999875724484375899433666532956323491771157),(2,[37831204,34899044],556956481126891012103899295772543791974442293897772304719),(2,[37831204,328548],452745866524975052052527685623535029132707347220691545939),(2,[37831204,590308],557111604910673002081438770587351980922443951283980331859),(2,[79710756,67374948],420564383156954252777423361117991738503963812668137025222),(2,[79710756,68683236],422252522775939669687645210604464199699331280123122841872),(2,[3179684,44043172],429199162824334333148849393914082564774513178213745589016),(2,[44075172,2624932],338782492976108231249439063246421678917223623422512737096)],
 [(2,[44075172,3147684],426134160050567330261776399280311307610948392188104310038),(2,[4499524,5284996,1058692],362676627740140875960532415360769513314859219636472842091),(2,[4499524,33565572,4460132],305561239561292657939362460584444128367989067060429294283),(2,[4499524,8407844,4460132],312104405776452134425754151272567538102775321103939829959),(2,[34874948,1058692,298084],512010538332011393466224895892207110005691912586325986157),(2,[5284996,37791876,33590500],518413514004162106428583914316522800783539223199690281322),(2,[5284996,1058692,544036],400992009417142527171629893251021175061112342484890486635),(2,[37791876,8685668,8915428],393096085403387479877169974231678386070266266668516626642),(2,[37791876,33590500,8915428],518413513733836652476854703736131276648572478212341256403),(2,[37791876,33590500,5244644],518413513735241599450448881448434317758940104857260937554),(2,[4238468,34089348,34082276],518221934254613715346216421663782362826638193035638835471),(2,[4238468,5260836,1066788],518620166572854572733940900877203241425219484932641551698),(2,[4238468,8685668,8653668],393096225707544663643865049638889259136193605444974516477),(2,[33565572,39061092,4460132],305561239561293703281808692556072596679573231429233511115),(2,[544036,39061092,37752548],415577809717642450930780327783457589055414272789104414956),(2,[5260836,4214308,34867044],420564406540735098313806576199245422248120219473929694464),(2,[8407844,34899044,1082596],561709617680063809281396516940191243578972874269089720655),(2,[8407844,39061092,4460132],312188214126098974867958018492686394626854540782005289159),(2,[34899044,39061092,33590500],561368420668494796104615198997100016745859963394027845356),(2,[34899044,33590500,8915428],561368455742571539389998496470787728655575602816513898319)],
 [(2,[8685668,34867044,8423652],560452515130399297916019108397543001046933009512322145102),(2,[298084,39061092,37752548],559632390559036003616425303196890545765646979402882994412),(2,[3179684,2133156,3147684],190130402127845462936088136862855197811050084457840650855),(2,[34089348,4214308,34082276,5244644],421674715180618580761176780546361072827233404198861768975),(2,[535940,5260836,1066788,8407844],323720433167050274726100140900182375065072136923652942110),(2,[544036,5260836,4214308,8653668],420268090004803843710308567786776553326802177084478755580),(2,[4214308,8685668,8653668,8915428],418642806647989878052034768787981931679591634885872764156),(2,[273988,33565572,8931620,34867044,8915428],400138483039037981125573641916613662532754478134232386306),(2,[4238468,33565572,8931620,544036,37752548],400219777606111612146344201518282497802869700071424282835),(2,[535940,8931620,8407844,1082596,5244644],415544861629301201173133225515200236219977116629982615838),(2,[8931620,8407844,298084,34867044,1082596],552358625526753050115615336787021418497131677294185277698),(1,[4896832],0),(1,[33699392],0),(1,[79975696],0),(1,[4479248],0),(1,[34951696],0),(1,[67394064],0),(1,[44602448],0),(1,[2660432],0),(1,[44045904],0)],
 [(1,[8950928],0),(1,[34117776],0),(1,[5312912],0),(1,[79697296],0),(1,[37755280],0),(1,[25171600],0),(1,[23128068],0),(1,[70804740],0),(1,[2648324],0),(1,[44130820],0),(1,[3171844],0),(1,[69233156],0),(1,[4499524],0),(1,[17574212],0),(1,[8725060],0),(1,[34874948],0),(1,[67381828],0),(1,[79798404],0),(1,[5284996],0),(1,[37791876],0)],
 [(1,[8987012],0),(1,[68691332],0),(1,[34089348],0),(1,[25240196],0),(1,[17835652],0),(1,[117451396],0),(1,[16959508],0),(1,[4868372],0),(1,[33767956],0),(1,[9586196],0),(1,[67258900],0),(1,[2525268],0),(1,[45483604],0),(1,[9602196],0),(1,[33720468],0),(1,[4915604],0),(1,[38406548],0),(1,[26347156],0),(1,[17876004],0),(1,[25217060],0)],
 [(1,[34160932],0),(1,[8931620],0),(1,[37831204],0),(1,[5260836],0),(1,[67469412],0),(1,[34899044],0),(1,[8685668],0),(1,[17629540],0),(1,[119276900],0),(1,[25954660],0),(1,[4522596],0),(1,[39061092],0),(1,[79956580],0),(1,[3179684],0),(1,[44075172],0),(1,[2687396],0),(1,[70780324],0),(1,[44566948],0),(1,[24118948],0)]]
def opsW:List (Nat × Nat):=[(0,1),(0,2),(0,3),(0,4),(0,5),(0,6),(1,1),(1,2),(1,3),(1,4),(1,5),(2,1),(2,2),(2,3),(2,4),(3,1),(3,2),(3,3),(4,1),(4,2),(5,1)]
def atW (i:Nat):Nat × List Nat × Nat:=((zrk.getD (i / 20) []).getD (i % 20) (0,[],0))
def okD (m i D:Nat):Bool:=match D with | 0=>false | D+1=>Nat.ble m 1 || (match atW (i % 512) with | (q,E,_)=>Nat.ble m (q+1) && inM (D+1) E && !E.isEmpty)
def yd1 (m:Nat) (C:List Nat):List (Nat × Nat)→Nat→Bool
 | [],_=>true
 | (c,d)::r,z=>okD m z (zsg c d C) && yd1 m C r (z / 512)
def yf8:Bool:=zrk.all fun L=>L.all fun q=>yd1 q.1 q.2.1 opsW q.2.2
def ykf:Bool:=zrk.all fun L=>L.all fun q=>q.2.1.all fun e=>Nat.beq (mat (z77 e)) (e / 4096)
theorem ykd:ykf=true:=by decide +kernel
theorem yig:yf8=true:=by decide +kernel
theorem zx9 {m:Nat} {C:List Nat} {c d:Nat}:∀ {L:List (Nat × Nat)} {z:Nat},yd1 m C L z=true→(c,d)∈L→∃ i,okD m i (zsg c d C)=true
 | [],_,_,h=>by simp at h
 | (c',d')::r,z,h,hm=>by
  simp only[yd1,qB]at h
  rcases List.mem_cons.1 hm with e | hm
  ·cases e; exact ⟨z,h.1⟩
  exact zx9 h.2 hm
theorem yh8 {c d:Nat} (h1:1≤d) (h2:c+d≤6):(c,d)∈opsW:=by
 have hc5:c=0∨c=1∨c=2∨c=3∨c=4∨c=5:=by omega
 have hd5:d=1∨d=2∨d=3∨d=4∨d=5∨d=6:=by omega
 rcases hc5 with rfl | rfl | rfl | rfl | rfl | rfl <;> rcases hd5 with rfl | rfl | rfl | rfl | rfl | rfl <;> first | (exfalso; omega) | decide
def z2f (q:Nat × List Nat × Nat):Prop:=∃ L∈zrk,q∈L
theorem yfj {i:Nat} (h:(atW i).2.1.isEmpty=false):z2f (atW i):=by
 unfold atW at h ⊢
 rw [List.getD_eq_getElem?_getD]at h ⊢
 rw [List.getD_eq_getElem?_getD]at h ⊢
 cases h1:zrk[i / 20]? with
 | none=>rw [h1]at h; simp at h
 | some L =>
  simp only[h1,Option.getD_some]at h ⊢
  cases h2:L[i % 20]? with
  | none=>rw [h2]at h; simp at h
  | some q=>exact ⟨L,List.mem_of_getElem? h1,by simpa using List.mem_of_getElem? h2⟩
theorem yeb {q:Nat × List Nat × Nat} (h:z2f q) {e:Nat} (he:e∈q.2.1):mat (z77 e)=e / 4096:=by
 obtain ⟨L,hL,hq⟩:=h
 have:=ykd
 unfold ykf at this
 rw [List.all_eq_true]at this
 have:=this L hL
 rw [List.all_eq_true]at this
 have:=this q hq
 rw [List.all_eq_true]at this
 exact Nat.eq_of_beq_eq_true (this e he)
theorem yih {q:Nat × List Nat × Nat} (h:z2f q) {c d:Nat} (h1:1≤d) (h2:c+d≤6):∃ i,okD q.1 i (zsg c d q.2.1)=true:=by
 obtain ⟨L,hL,hq⟩:=h
 have:=yig
 unfold yf8 at this
 rw [List.all_eq_true]at this
 have:=this L hL
 rw [List.all_eq_true]at this
 exact zx9 (this q hq) (yh8 h1 h2)
def Sofar (T:Nat→Nat→Prop) (F:Nat→Nat) (k m:Nat):Prop:=∃ q,z2f q∧m≤q.1∧q.2.1.isEmpty=false∧∀ e∈q.2.1,Rl T F k (z77 e)
theorem zt8 {T:Nat→Nat→Prop} (hs:∀ a b,T a b→T b a) {F F':Nat→Nat} {k c d m:Nat} (h:Sofar T F k (m+1)) (h1:1≤d) (h2:c+d≤6)
  (hF:∀ x,x<6→F x≠k) (hF':∀ x,x<6→F' x=if c≤x∧x<c+d then k else F x) (hN:∀ a,a<k→T a k→∃ x,x<6∧c≤x+1∧x≤c+d∧F x=a) (hk:¬ T k k):(∃ w,Rl T F' (k+1) w)∧(1≤m→Sofar T F' (k+1) m):=by
 obtain ⟨q,q1,q2,q3,q4⟩:=h
 obtain ⟨i,hi⟩:=yih q1 h1 h2
 have bit:∀ j,(zsg c d q.2.1).testBit j=true→∃ v,Rl T F' (k+1) v∧mat v=j:=fun j hj=>by
  obtain ⟨n,hn,l,hl,ho,e⟩:=zx1 hj
  exact ⟨_,(q4 n hn).step hs (fun x hx=>yg7 hx) hl ho hF hF' hN hk,e⟩
 unfold okD at hi
 cases hD:zsg c d q.2.1 with
 | zero=>rw [hD]at hi; cases hi
 | succ D =>
  rw [hD]at hi
  simp only[Bool.or_eq_true,qB]at hi
  constructor
  ·obtain ⟨j,hj⟩:=Nat.exists_testBit_of_ne_zero (show zsg c d q.2.1≠0 by omega)
   obtain ⟨v,hv,-⟩:=bit j hj
   exact ⟨v,hv⟩
  intro hm
  rcases hi with hi | ⟨⟨i1,i2⟩,i3⟩
  ·have:=Nat.le_of_ble_eq_true hi; omega
  have i3:(atW (i % 512)).2.1.isEmpty=false:=by simpa using i3
  refine ⟨_,yfj i3,by have:=Nat.le_of_ble_eq_true i1; omega,i3,fun e he=>?_⟩
  have hb:=z82 i2 e he
  rw [← hD]at hb
  obtain ⟨v,hv,hm2⟩:=bit _ hb
  exact hv.same (hm2.trans (yeb (yfj i3) he).symm)
theorem z8j {n:Nat} (hn:n≤9) {T:Nat→Nat→Prop} (hs:∀ a b,T a b→T b a) (hi:∀ a,¬ T a a) {c d:Nat→Nat} {F:Nat→Nat→Nat} (hF0:∀ x,x<6→F 0 x=100)
  (hFs:∀ k x,k<n→x<6→F (k+1) x=if c k≤x∧x<c k+d k then k else F k x) (hd:∀ k,k<n→1≤d k∧c k+d k≤6)
  (hN:∀ k,k<n→∀ a,a<k→T a k→∃ x,x<6∧c k≤x+1∧x≤c k+d k∧F k x=a):∃ f:Nat→Nat,(∀ a,f a<4)∧∀ a b,a<n→b<n→T a b→f a≠f b:=by
 have hne:∀ k,k≤n→∀ x,x<6→F k x<k∨F k x=100:=by
  intro k
  induction k with
  | zero=>intro _ x hx; exact .inr (hF0 x hx)
  | succ k ih =>
   intro hk x hx
   rw [hFs k x (by omega) hx]
   split
   ·exact .inl (by omega)
   rcases ih (by omega) x hx with h | h
   ·exact .inl (by omega)
   exact .inr h
 have hnk:∀ k,k<n→∀ x,x<6→F k x≠k:=fun k hk x hx=>by have:=hne k (by omega) x hx; omega
 have h0:Sofar T (F 0) 0 9:=by
  refine ⟨(zrk.getD 0 []).getD 0 (0,[],0),⟨zrk.getD 0 [],by decide,by decide⟩,by decide,by decide,fun e he=>?_⟩
  refine ⟨fun _=>0,fun _=>(by show (0:Nat)<4; omega),fun a b ha=>by omega,fun x y hx hy=>?_⟩
  rw [hF0 x hx,hF0 y hy]
  have e0:e=((zrk.getD 0 []).getD 0 (0,[],0)).2.1.getD 0 0:=by
   have:((zrk.getD 0 []).getD 0 (0,[],0)).2.1=[((zrk.getD 0 []).getD 0 (0,[],0)).2.1.getD 0 0]:=by decide
   rw [this]at he
   exact List.mem_singleton.1 he
  have e1:z77 (((zrk.getD 0 []).getD 0 (0,[],0)).2.1.getD 0 0)=[0,0,0,0,0,0]:=by decide
  rw [e0,e1]
  have z:∀ x,x<6→([0,0,0,0,0,0]:List Nat).getD x 0=0:=by decide
  rw [z x hx,z y hy]
 have main:∀ k,k≤n→k≤8→Sofar T (F k) k (9 - k):=by
  intro k
  induction k with
  | zero=>intro _ _; exact h0
  | succ k ih =>
   intro hk h8
   have:=ih (by omega) (by omega)
   rw [show 9 - k=(9 - (k+1))+1 by omega]at this
   exact (zt8 hs this (hd k (by omega)).1 (hd k (by omega)).2 (hnk k (by omega)) (fun x hx=>hFs k x (by omega) hx) (hN k (by omega)) (hi k)).2 (by omega)
 have fin:∃ w,Rl T (F n) n w:=by
  by_cases h9:n=9
  ·subst h9
   have:=main 8 (by omega) (by omega)
   exact (zt8 (m:=0) hs this (hd 8 (by omega)).1 (hd 8 (by omega)).2 (hnk 8 (by omega)) (fun x hx=>hFs 8 x (by omega) hx) (hN 8 (by omega)) (hi 8)).1
  obtain ⟨q,-,-,q3,q4⟩:=main n (qR _) (by omega)
  cases hq:q.2.1 with
  | nil=>rw [hq]at q3; cases q3
  | cons e r=>exact ⟨_,q4 e (by rw [hq]; simp)⟩
 obtain ⟨w,f,f1,f2,-⟩:=fin
 exact ⟨f,f1,f2⟩
structure Pt where
 r:Nat
 c:Nat
 h:Nat
 w:Nat
 deriving DecidableEq
def Pt.In (t:Pt) (H W:Nat):Prop:=1≤t.h∧1≤t.w∧t.r+t.h≤H∧t.c+t.w≤W
def zwn (f:Nat→Bool):Nat→Option Nat
 | 0=>none
 | k+1=>(zwn f k).or (if decide (1≤k) && f k then some k else none)
theorem zh4 {f:Nat→Bool}:∀ {n:Nat},zwn f n=none↔∀ k,1≤k→k<n→f k=false
 | 0=>by simp [zwn]
 | n+1=>by
  simp only[zwn,Option.or_eq_none_iff,zh4 (n:=n)]
  constructor
  ·rintro ⟨h1,h2⟩ k hk hn
   by_cases e:k=n
   ·subst e; cases hf:f k with
    | false=>rfl
    | true=>rw [hf]at h2; simp at h2; omega
   exact h1 k hk (by omega)
  intro h
  refine ⟨fun k hk hn=>h k hk (by omega),?_⟩
  by_cases hn:1≤n
  ·simp [h n hn (by omega)]
  simp [hn]
theorem zfm {f:Nat→Bool} {k:Nat}:∀ {n:Nat},zwn f n=some k↔1≤k∧k<n∧f k=true∧∀ j,1≤j→j<k→f j=false
 | 0=>by simp [zwn]
 | n+1=>by
  simp only[zwn]
  cases h:zwn f n with
  | some m =>
   have hm:=(zfm (n:=n)).1 h
   simp only[Option.some_or,Option.some.injEq]
   constructor
   ·rintro rfl; exact ⟨hm.1,by omega,hm.2.2.1,hm.2.2.2⟩
   rintro ⟨h1,h2,h3,h4⟩
   rcases Nat.lt_trichotomy m k with e | e | e
   ·have:=h4 m hm.1 e; rw [hm.2.2.1]at this; cases this
   ·exact e
   have:=hm.2.2.2 k h1 e; rw [h3]at this; cases this
  | none =>
   have hn:=zh4.1 h
   simp only[Option.none_or]
   constructor
   ·intro e
    split at e
    ·rename_i hc
     cases e
     simp only[qB,decide_eq_true_eq]at hc
     exact ⟨hc.1,by omega,hc.2,hn⟩
    cases e
   rintro ⟨h1,h2,h3,h4⟩
   by_cases e:k=n
   ·subst e; simp [h1,h3]
   have:=hn k h1 (by omega); rw [h3]at this; cases this
def thU (z:Nat→Nat→Int) (t:Pt) (k:Nat):Bool:=(List.range t.h).all fun i=>decide (z (t.r+i) (t.c+k - 1)≠z (t.r+i) (t.c+k))
def thL (z:Nat→Nat→Int) (t:Pt) (k:Nat):Bool:=(List.range t.w).all fun j=>decide (z (t.r+k - 1) (t.c+j)≠z (t.r+k) (t.c+j))
theorem ziq {z:Nat→Nat→Int} {t:Pt} {k:Nat}:thU z t k=true↔∀ i,i<t.h→z (t.r+i) (t.c+k - 1)≠z (t.r+i) (t.c+k):=by simp [thU]
theorem zio {z:Nat→Nat→Int} {t:Pt} {k:Nat}:thL z t k=true↔∀ j,j<t.w→z (t.r+k - 1) (t.c+j)≠z (t.r+k) (t.c+j):=by simp [thL]
def zdc (z:Nat→Nat→Int) (t:Pt):Option (Bool × Nat) :=
 match zwn (thU z t) t.w with
 | some k=>some (false,k)
 | none=>match zwn (thL z t) t.h with
  | some k=>some (true,k)
  | none=>none
def Pt.one (t:Pt) (q:Bool × Nat):Pt:=if q.1 then ⟨t.r,t.c,q.2,t.w⟩ else ⟨t.r,t.c,t.h,q.2⟩
def Pt.two (t:Pt) (q:Bool × Nat):Pt:=if q.1 then ⟨t.r+q.2,t.c,t.h - q.2,t.w⟩ else ⟨t.r,t.c+q.2,t.h,t.w - q.2⟩
theorem zeu {z:Nat→Nat→Int} {t:Pt} {q:Bool × Nat} (h:zdc z t=some q):1≤q.2∧if q.1 then q.2<t.h∧thL z t q.2=true else q.2<t.w∧thU z t q.2=true:=by
 unfold zdc at h
 split at h
 ·rename_i k hk; cases h; have:=zfm.1 hk; exact ⟨this.1,by simp [this.2.1,this.2.2.1]⟩
 split at h
 ·rename_i k hk; cases h; have:=zfm.1 hk; exact ⟨this.1,by simp [this.2.1,this.2.2.1]⟩
 cases h
theorem znk {z:Nat→Nat→Int} {t:Pt}:zdc z t=none↔(∀ k,1≤k→k<t.w→thU z t k=false)∧∀ k,1≤k→k<t.h→thL z t k=false:=by
 unfold zdc
 split
 ·rename_i k hk
  have:=zfm.1 hk
  constructor
  ·intro h; cases h
  rintro ⟨h,_⟩; rw [h k this.1 this.2.1]at this; simp at this
 rename_i hn
 split
 ·rename_i k hk
  have:=zfm.1 hk
  constructor
  ·intro h; cases h
  rintro ⟨_,h⟩; rw [h k this.1 this.2.1]at this; simp at this
 rename_i hn2
 exact ⟨fun _=>⟨zh4.1 hn,zh4.1 hn2⟩,fun _=>rfl⟩
theorem Pt.In.cut {t:Pt} {H W:Nat} (h:t.In H W) {z:Nat→Nat→Int} {q:Bool × Nat} (hq:zdc z t=some q):(t.one q).In H W∧(t.two q).In H W ∧
  (t.one q).h*(t.one q).w<t.h*t.w∧(t.two q).h*(t.two q).w<t.h*t.w:=by
 obtain ⟨h1,h2⟩:=zeu hq
 obtain ⟨a,b,c,d⟩:=h
 obtain ⟨lv,k⟩:=q
 simp only at h1 h2
 cases lv with
 | true =>
  simp only[if_true]at h2
  simp only[Pt.one,Pt.two,if_true,Pt.In]
  refine ⟨⟨h1,b,by omega,d⟩,⟨by omega,b,by omega,d⟩,Nat.mul_lt_mul_of_pos_right h2.1 b,Nat.mul_lt_mul_of_pos_right (by omega) b⟩
 | false =>
  simp only[qF,if_false]at h2
  simp only[Pt.one,Pt.two,qF,if_false,Pt.In]
  refine ⟨⟨a,h1,c,by omega⟩,⟨a,by omega,c,by omega⟩,Nat.mul_lt_mul_of_pos_left h2.1 a,Nat.mul_lt_mul_of_pos_left (by omega) a⟩
def zlp (z:Nat→Nat→Int) (t:Pt):Bool:=(List.range t.h).all fun i=>(List.range t.w).all fun j=>decide (z (t.r+i) (t.c+j)=z t.r t.c)
theorem zfp {z:Nat→Nat→Int} {t:Pt}:zlp z t=true↔∀ i j,i<t.h→j<t.w→z (t.r+i) (t.c+j)=z t.r t.c:=by
 simp only[zlp,List.all_eq_true,List.mem_range,decide_eq_true_eq]
 exact ⟨fun h i j hi hj=>h i hi j hj,fun h i hi j hj=>h i j hi hj⟩
inductive CT where
 | leaf (a:Int)
 | node (lv:Bool) (x y:CT)
def tree (z:Nat→Nat→Int):Nat→Pt→Option CT
 | 0,_=>none
 | f+1,t=>if zlp z t then some (.leaf (z t.r t.c)) else
  match zdc z t with
  | none=>none
  | some q=>match tree z f (t.one q),tree z f (t.two q) with
   | some x,some y=>some (.node q.1 x y)
   | _,_=>none
theorem zm8 {z:Nat→Nat→Int} {H W:Nat}:∀ (n:Nat) {t:Pt} {f g:Nat},t.In H W→t.h*t.w≤n→t.h*t.w≤f→t.h*t.w≤g→tree z f t=tree z g t
 | 0,t,f,g,hi,hn,_,_=>by have:=Nat.mul_pos hi.1 hi.2.1; omega
 | n+1,t,f,g,hi,hn,hf,hg=>by
  have:=Nat.mul_pos hi.1 hi.2.1
  obtain ⟨f,rfl⟩:∃ f',f=f'+1:=⟨f - 1,by omega⟩
  obtain ⟨g,rfl⟩:∃ g',g=g'+1:=⟨g - 1,by omega⟩
  simp only[tree]
  split
  ·rfl
  cases hc:zdc z t with
  | none=>rfl
  | some q =>
   obtain ⟨i1,i2,a1,a2⟩:=hi.cut hc
   simp only
   rw [zm8 n i1 (f:=f) (g:=g) (by omega) (by omega) (by omega),zm8 n i2 (f:=f) (g:=g) (by omega) (by omega) (by omega)]
def CT.fold {α:Type} (room:Int→α) (cut:Bool→α→α→α):CT→α
 | .leaf a=>room a
 | .node lv x y=>cut lv (x.fold room cut) (y.fold room cut)
structure Whole (z:Nat→Nat→Int) (H W:Nat) (t:Pt):Prop where
 inn:t.In H W
 all:∀ i j i' j',i<H→j<W→i'<H→j'<W→z i j=z i' j'→t.r≤i→i<t.r+t.h→t.c≤j→j<t.c+t.w→t.r≤i'∧i'<t.r+t.h∧t.c≤j'∧j'<t.c+t.w
def yco (z:Nat→Nat→Int) (H W:Nat):Prop:=∀ {i j i' j':Nat} (k l:Nat),i<H→i'<H→j<W→j'<W→z i j=z i' j'→min i i'≤k→k≤max i i'→min j j'≤l→l≤max j j'→z k l=z i j
theorem Whole.cut {z:Nat→Nat→Int} {H W:Nat} (hz:yco z H W) {t:Pt} (h:Whole z H W t) {q:Bool × Nat} (hq:zdc z t=some q):Whole z H W (t.one q)∧Whole z H W (t.two q):=by
 obtain ⟨i1,i2,_,_⟩:=h.inn.cut hq
 obtain ⟨c1,c2⟩:=zeu hq
 obtain ⟨lv,k⟩:=q
 have hin:=h.inn
 unfold Pt.In at hin
 cases lv with
 | true =>
  simp only[if_true]at c2
  have hth:=zio.1 c2.2
  have key:∀ i j i' j',i<H→j<W→i'<H→j'<W→z i j=z i' j'→t.r≤i→i<t.r+k→t.c≤j→j<t.c+t.w→t.r+k≤i'→i'<t.r+t.h→t.c≤j'→j'<t.c+t.w→False:=by
   intro i j i' j' a b c d e f1 f2 f3 f4 g1 g2 g3 g4
   have e1:=hz (t.r+k - 1) j a c b d e (by omega) (by omega) (by omega) (by omega)
   have e2:=hz (t.r+k) j a c b d e (by omega) (by omega) (by omega) (by omega)
   have:=hth (j - t.c) (by omega)
   rw [show t.c+(j - t.c)=j by omega]at this
   exact this (e1.trans e2.symm)
  refine ⟨⟨i1,?_⟩,⟨i2,?_⟩⟩
  ·simp only[Pt.one,if_true]
   intro i j i' j' a b c d e f1 f2 f3 f4
   obtain ⟨g1,g2,g3,g4⟩:=h.all i j i' j' a b c d e f1 (by omega) f3 f4
   refine ⟨g1,?_,g3,g4⟩
   rcases Nat.lt_or_ge i' (t.r+k) with h1 | h1
   ·exact h1
   exact (key i j i' j' a b c d e f1 f2 f3 f4 h1 g2 g3 g4).elim
  simp only[Pt.two,if_true]
  intro i j i' j' a b c d e f1 f2 f3 f4
  obtain ⟨g1,g2,g3,g4⟩:=h.all i j i' j' a b c d e (by omega) (by omega) f3 f4
  refine ⟨?_,by omega,g3,g4⟩
  rcases Nat.lt_or_ge i' (t.r+k) with h1 | h1
  ·exact (key i' j' i j c d a b e.symm g1 h1 g3 g4 f1 (by omega) f3 f4).elim
  exact h1
 | false =>
  simp only[qF,if_false]at c2
  have hth:=ziq.1 c2.2
  have key:∀ i j i' j',i<H→j<W→i'<H→j'<W→z i j=z i' j'→t.r≤i→i<t.r+t.h→t.c≤j→j<t.c+k→t.r≤i'→i'<t.r+t.h→t.c+k≤j'→j'<t.c+t.w→False:=by
   intro i j i' j' a b c d e f1 f2 f3 f4 g1 g2 g3 g4
   have e1:=hz i (t.c+k - 1) a c b d e (by omega) (by omega) (by omega) (by omega)
   have e2:=hz i (t.c+k) a c b d e (by omega) (by omega) (by omega) (by omega)
   have:=hth (i - t.r) (by omega)
   rw [show t.r+(i - t.r)=i by omega]at this
   exact this (e1.trans e2.symm)
  refine ⟨⟨i1,?_⟩,⟨i2,?_⟩⟩
  ·simp only[Pt.one,qF,if_false]
   intro i j i' j' a b c d e f1 f2 f3 f4
   obtain ⟨g1,g2,g3,g4⟩:=h.all i j i' j' a b c d e f1 f2 f3 (by omega)
   refine ⟨g1,g2,g3,?_⟩
   rcases Nat.lt_or_ge j' (t.c+k) with h1 | h1
   ·exact h1
   exact (key i j i' j' a b c d e f1 f2 f3 f4 g1 g2 h1 g4).elim
  simp only[Pt.two,qF,if_false]
  intro i j i' j' a b c d e f1 f2 f3 f4
  obtain ⟨g1,g2,g3,g4⟩:=h.all i j i' j' a b c d e f1 f2 (by omega) (by omega)
  refine ⟨g1,g2,?_,by omega⟩
  rcases Nat.lt_or_ge j' (t.c+k) with h1 | h1
  ·exact (key i' j' i j c d a b e.symm g1 g2 g3 h1 f1 f2 f3 (by omega)).elim
  exact h1
section
def thW (p:List Txt) (k:Nat):Bool:=(List.range p.length).all fun i=>decide (zaf p i (k - 1)≠zaf p i k)
theorem zob {p:List Txt} {k:Nat}:thW p k=true↔∀ i,i<p.length→zaf p i (k - 1)≠zaf p i k:=by simp [thW]
def zd0 (n:Nat) (w:List Int):Bool:=decide (zcw w 2=n)
theorem zr6 {p:List Txt} {k:Nat} {s0:List (List Int)}:∀ i,i≤p.length →
  ((∀ r,r<i→zgb p k r=true)∧zeh p k s0 i=(if i=0 then -1 else 0,s0)) ∨
  ((¬ ∀ r,r<i→zgb p k r=true)∧((zeh p k s0 i).1<0∨0<(zeh p k s0 i).1) ∧ -1≤(zeh p k s0 i).1∧∃ L,(zeh p k s0 i).2=s0++L∧∀ w∈L,zd0 p.length w=false)
 | 0,_ => .inl ⟨fun r hr=>by omega,rfl⟩
 | i+1,hi=>by
  rcases zr6 (p:=p) (k:=k) (s0:=s0) i (by omega) with ⟨h1,h2⟩ | ⟨h1,h2,h3,L,h4,h5⟩
  ·cases hw:zgb p k i with
   | true =>
    refine .inl ⟨fun r hr=>?_,?_⟩
    ·by_cases e:r=i
     ·rw [e]; exact hw
     exact h1 r (by omega)
    simp only[zeh,h2,hw,zeq]
    by_cases e:i=0
    ·subst e; simp
    simp [e]
   | false =>
    refine .inr ⟨fun h=>?_,?_⟩
    ·have:=h i (by omega); rw [hw]at this; cases this
    simp only[zeh,h2,hw,zeq]
    by_cases e:i=0
    ·subst e; exact ⟨.inl (by simp),by simp,[],by simp,by simp⟩
    simp only[e,if_false,Bool.false_and,qF,Bool.not_false,Bool.true_and,Int.le_refl,decide_true,if_true]
    refine ⟨.inl (by simp),by simp,[[(k:Int),0,(i:Int) - 0]],rfl,?_⟩
    intro w hw'
    simp only[List.mem_singleton]at hw'
    subst hw'
    show decide (((i:Int) - 0)=p.length)=false
    exact decide_eq_false (by omega)
  refine .inr ⟨fun h=>h1 fun r hr=>h r (by omega),?_⟩
  simp only[zeh,zeq]
  generalize (zeh p k s0 i).1=f at h2 h3
  cases hw:zgb p k i with
  | true =>
   simp only[Bool.true_and,Bool.not_true,Bool.false_and,qF,if_false]
   have hi0:i≠0:=by rintro rfl; exact h1 fun r hr=>by omega
   refine ⟨?_,?_,L,h4,h5⟩
   ·by_cases hf:f<0
    ·simp only[hf,decide_true,if_true]; exact .inr (by omega)
    simp only[hf,decide_false,qF,if_false]; omega
   by_cases hf:f<0
   ·simp only[hf,decide_true,if_true]; omega
   simp only[hf,decide_false,qF,if_false]; omega
  | false =>
   simp only[Bool.false_and,qF,if_false,Bool.not_false,Bool.true_and,decide_eq_true_eq]
   by_cases hf:0≤f
   ·rw [if_pos hf]
    refine ⟨.inl (by simp),by simp,L++[[(k:Int),f,(i:Int) - f]],by simp only[h4,List.append_assoc],?_⟩
    intro w hw'
    simp only[List.mem_append,List.mem_singleton]at hw'
    rcases hw' with hw' | rfl
    ·exact h5 w hw'
    simp [zd0,zcw]; omega
   rw [if_neg hf]
   exact ⟨.inl (by simp only; omega),by simp only; omega,L,h4,h5⟩
theorem zpx {p:List Txt} {k:Nat}:(∀ r,r<p.length→zgb p k r=true)↔thW p k=true:=by
 rw [zob]
 constructor
 ·intro h r hr; have:=h r hr; simpa [zgb,hr] using this
 intro h r hr; simpa [zgb,hr] using h r hr
theorem yi9 {p:List Txt} (hp:1≤p.length) {k:Nat} {s0:List (List Int)}:∃ L,(zeh p k s0 (p.length+1)).2=s0++L∧L.find? (zd0 p.length)=if thW p k then some [(k:Int),0,(p.length:Int)] else none:=by
 rcases zr6 (p:=p) (k:=k) (s0:=s0) p.length (qR _) with ⟨h1,h2⟩ | ⟨h1,h2,h3,L,h4,h5⟩
 ·rw [zpx]at h1
  refine ⟨[[(k:Int),0,(p.length:Int)]],?_,?_⟩
  ·simp only[zeh,h2,zeq,zjs]
   have:p.length≠0:=by omega
   simp [this]
  rw [h1]; simp [zd0,zcw]
 rw [zpx]at h1
 simp only[h1,if_false,qF]
 simp only[zeh,zeq,zjs]
 generalize (zeh p k s0 p.length).1=f at h2 h3
 simp only[Bool.false_and,qF,if_false,Bool.not_false,Bool.true_and,decide_eq_true_eq]
 by_cases hf:0≤f
 ·rw [if_pos hf]
  refine ⟨L++[[(k:Int),f,(p.length:Int) - f]],by simp only[h4,List.append_assoc],List.find?_eq_none.2 ?_⟩
  intro w hw'
  simp only[List.mem_append,List.mem_singleton]at hw'
  rcases hw' with hw' | rfl
  ·simp [h5 w hw']
  simp [zd0,zcw]; omega
 rw [if_neg hf]
 exact ⟨L,h4,List.find?_eq_none.2 fun w hw=>by simp [h5 w hw]⟩
theorem zpw {p:List Txt} (hp:1≤p.length):∀ K,(zc5 p K).find? (zd0 p.length)=(zwn (thW p) K).map fun k=>[(k:Int),0,(p.length:Int)]
 | 0=>rfl
 | K+1=>by
  simp only[zc5,zwn]
  split
  ·rename_i hk
   obtain ⟨L,h1,h2⟩:=yi9 hp (k:=K) (s0:=zc5 p K)
   rw [h1,List.find?_append,zpw hp K,h2]
   cases zwn (thW p) K with
   | some k=>rfl
   | none=>simp only[Option.map_none,Option.none_or,hk,decide_true,Bool.true_and]; split <;> rfl
  rename_i hk
  rw [zpw hp K]
  simp [hk]
def ycj (p:List Txt):Int × Int :=
 match (uprights p).find? (zd0 p.length) with
 | some w=>(0,zcw w 0)
 | none=>match (uprights (zcq p)).find? (zd0 (zag p).length) with
  | some w=>(1,zcw w 0)
  | none=>(0,0)
theorem zxm {α:Type} {f:α→Bool} {l:List α} {i:Nat} {a:α} (h:l[i]?=some a) (h1:(l.take i).find? f=none) (h2:f a=true):l.find? f=some a:=by
 have hl:=(List.getElem?_eq_some_iff.1 h).1
 have:l=l.take i++(a::l.drop (i+1)):=by
  obtain ⟨_,e⟩:=List.getElem?_eq_some_iff.1 h
  rw [← e,List.getElem_cons_drop,List.take_append_drop]
 rw [this,List.find?_append,h1]
 simp [h2]
theorem zop {α:Type} {f:α→Bool} {l:List α} {i:Nat} {a:α} (h:l[i]?=some a) (h1:(l.take i).find? f=none) (h2:f a=false):(l.take (i+1)).find? f=none:=by
 rw [tk h,List.find?_append,h1]; simp [h2]
def zjq (t:Pt) (row:Txt):Txt:=(row.drop t.c).take t.w
def sub (p:List Txt) (t:Pt):List Txt:=((p.drop t.r).take t.h).map (zjq t)
section
variable {p:List Txt} {t:Pt}
theorem zoa {W:Nat} (hi:t.In p.length W):(sub p t).length=t.h:=by
 simp [sub]; have:=hi.2.2.1; omega
theorem yiz {W:Nat} (hi:t.In p.length W) {i:Nat} {row:Txt} (h:i<t.h) (hr:p[t.r+i]?=some row):(sub p t)[i]?=some (zjq t row):=by
 simp [sub,h,hr]
theorem zlg (hg:zcx p=true) (hi:t.In p.length (zag p).length) {i:Nat} (h:i<t.h):∃ row,p[t.r+i]?=some row∧(sub p t)[i]?=some (zjq t row)∧(zjq t row).length=t.w∧row.length=(zag p).length:=by
 obtain ⟨row,hr,_⟩:=z8t (p:=p) (i:=t.r+i) (by have:=hi.2.2.1; omega)
 have hl:=zew hg hr
 exact ⟨row,hr,yiz hi h hr,by simp [zjq]; have:=hi.2.2.2; omega,hl⟩
theorem zzt (hg:zcx p=true) (hi:t.In p.length (zag p).length):(zag (sub p t)).length=t.w:=by
 obtain ⟨row,_,h2,h3,_⟩:=zlg hg hi (i:=0) hi.1
 rw [zcf h2,h3]
theorem zid {row:Txt} {j:Nat} (h:j<t.w):(zjq t row)[j]?=row[t.c+j]?:=by
 simp [zjq,List.getElem?_take,h]
theorem zm6 (hg:zcx p=true) (hi:t.In p.length (zag p).length) {i j:Nat} (h:i<t.h) (hj:j<t.w):zaf (sub p t) i j=zaf p (t.r+i) (t.c+j):=by
 obtain ⟨row,h1,h2,_,_⟩:=zlg hg hi h
 simp only[zaf,h1,h2,Option.getD_some,zid hj]
theorem yeu (hg:zcx p=true) (hi:t.In p.length (zag p).length):zcx (sub p t)=true:=by
 have hsm:=zbo hg
 have hl:=zoa hi
 have hh:=zzt hg hi
 obtain ⟨i1,i2,i3,i4⟩:=hi
 obtain ⟨row0,hr0,hm0⟩:=z8t (p:=p) (i:=0) (by omega)
 have hw6:=hsm.2.2 row0 hm0
 have hhd:=zcf hr0
 rw [hhd]at i4
 unfold zcx
 simp only[qB,decide_eq_true_eq,List.all_eq_true]
 refine ⟨⟨fun r hr=>?_,by omega⟩,by omega⟩
 obtain ⟨i,hi'⟩:=List.getElem?_of_mem hr
 have hil:=(List.getElem?_eq_some_iff.1 hi').1
 obtain ⟨row,h1,h2,h3,h4⟩:=zlg hg ⟨i1,i2,i3,by rw [hhd]; exact i4⟩ (t:=t) (i:=i) (by omega)
 rw [h2]at hi'; cases hi'
 simp only[zsn,qB,decide_eq_true_eq,List.all_eq_true]
 refine ⟨⟨⟨by omega,by omega⟩,by omega⟩,fun c hc=>?_⟩
 obtain ⟨j,hj⟩:=List.getElem?_of_mem hc
 have hjl:=(List.getElem?_eq_some_iff.1 hj).1
 rw [zid (by omega)]at hj
 obtain ⟨c',hc',hl'⟩:=zl4 hg h1 (k:=t.c+j) (by rw [hhd]; omega)
 rw [hc']at hj; cases hj; exact hl'
theorem yi1 (hg:zcx p=true) (hi:t.In p.length (zag p).length) {k:Nat} (h1:1≤k) (h2:k<t.w):thW (sub p t) k=thU (zaf p) t k:=by
 apply Bool.eq_iff_iff.2
 rw [zob,ziq,zoa hi]
 constructor
 ·intro h i hi'; have:=h i hi'; rw [zm6 hg hi hi' h2,zm6 hg hi hi' (by omega)]at this; rw [show t.c+k - 1=t.c+(k - 1) by omega]; exact this
 intro h i hi'; have:=h i hi'; rw [zm6 hg hi hi' h2,zm6 hg hi hi' (by omega)]; rw [show t.c+k - 1=t.c+(k - 1) by omega]at this; exact this
theorem yi0 (hg:zcx p=true) (hi:t.In p.length (zag p).length) {k:Nat} (h1:1≤k) (h2:k<t.h):thW (zcq (sub p t)) k=thL (zaf p) t k:=by
 apply Bool.eq_iff_iff.2
 rw [zob,zio,zfu,zzt hg hi]
 have key:∀ i j,i<t.h→j<t.w→zaf (zcq (sub p t)) j i=zaf p (t.r+i) (t.c+j):=fun i j a b=>by
  rw [zfa (by rw [zoa hi]; exact a) (by rw [zzt hg hi]; exact b),zm6 hg hi a b]
 constructor
 ·intro h j hj; have:=h j hj; rw [key _ _ h2 hj,key _ _ (by omega) hj]at this; rw [show t.r+k - 1=t.r+(k - 1) by omega]; exact this
 intro h j hj; have:=h j hj; rw [key _ _ h2 hj,key _ _ (by omega) hj]; rw [show t.r+k - 1=t.r+(k - 1) by omega]at this; exact this
theorem znr {f g:Nat→Bool}:∀ {n:Nat},(∀ k,1≤k→k<n→f k=g k)→zwn f n=zwn g n
 | 0,_=>rfl
 | n+1,h=>by
  simp only[zwn]
  rw [znr fun k a b=>h k a (by omega)]
  by_cases hn:1≤n
  ·rw [h n hn (by omega)]
  simp [hn]
theorem yc9 (hg:zcx p=true) (hi:t.In p.length (zag p).length):ycj (sub p t)=match zdc (zaf p) t with | some q=>(if q.1 then 1 else 0,(q.2:Int)) | none=>(0,0):=by
 have hl:=zoa hi
 have hh:=zzt hg hi
 unfold ycj zdc
 rw [show uprights (sub p t)=zc5 (sub p t) (zag (sub p t)).length from rfl,zpw (by rw [hl]; exact hi.1),hh,znr fun k a b=>yi1 hg hi a b]
 cases zwn (thU (zaf p) t) t.w with
 | some k=>simp [zcw]
 | none =>
  have h2:=zpw (p:=zcq (sub p t)) (by rw [zfu,hh]; exact hi.2.1) (zag (zcq (sub p t))).length
  rw [zfu,hh,zkd (by rw [hh]; exact hi.2.1),hl,znr fun k a b=>yi0 hg hi a b]at h2
  simp only[Option.map_none]
  rw [show uprights (zcq (sub p t))=zc5 (zcq (sub p t)) t.h by unfold uprights; rw [zkd (by rw [hh]; exact hi.2.1),hl],h2]
  cases zwn (thL (zaf p) t) t.h with
  | some k=>simp [zcw]
  | none=>rfl
def zgx (p:List Txt) (q:Bool × Nat):List Txt:=if q.1 then p.take q.2 else p.map (·.take q.2)
def zgy (p:List Txt) (q:Bool × Nat):List Txt:=if q.1 then p.drop q.2 else p.map (·.drop q.2)
theorem ybs {q:Bool × Nat} (h:if q.1 then q.2<t.h else q.2<t.w):zgx (sub p t) q=sub p (t.one q):=by
 obtain ⟨lv,k⟩:=q
 cases lv with
 | true =>
  simp only[if_true]at h
  simp only[zgx,Pt.one,if_true,sub,← List.map_take,List.take_take]
  rw [Nat.min_eq_left (by omega)]
  rfl
 | false =>
  simp only[qF,if_false]at h
  simp only[zgx,Pt.one,qF,if_false,sub,List.map_map]
  refine List.map_congr_left fun row _=>?_
  simp only[Function.comp,zjq,List.take_take]
  rw [Nat.min_eq_left (by omega)]
theorem ybt {q:Bool × Nat} (h:if q.1 then q.2<t.h else q.2<t.w):zgy (sub p t) q=sub p (t.two q):=by
 obtain ⟨lv,k⟩:=q
 cases lv with
 | true =>
  simp only[if_true]at h
  simp only[zgy,Pt.two,if_true,sub,← List.map_drop,List.drop_take,List.drop_drop]
  rfl
 | false =>
  simp only[qF,if_false]at h
  simp only[zgy,Pt.two,qF,if_false,sub,List.map_map]
  refine List.map_congr_left fun row _=>?_
  simp only[Function.comp,zjq,List.drop_take,List.drop_drop]
def yf9 (p:List Txt):Bool:=p.all fun row=>row.all fun c=>decide (some c=(zag p)[0]?)
theorem z3m (hg:zcx p=true) (hi:t.In p.length (zag p).length):yf9 (sub p t)=zlp (zaf p) t:=by
 apply Bool.eq_iff_iff.2
 rw [zfp]
 obtain ⟨row0,h1,h2,h3,h4⟩:=zlg hg hi (i:=0) hi.1
 have hc0:(zjq t row0)[0]?=row0[t.c+0]?:=zid hi.2.1
 obtain ⟨c0,e0,_⟩:=zl4 hg h1 (k:=t.c+0) (by have:=hi.2.2.2; have:=hi.2.1; omega)
 rw [e0]at hc0
 have hz0:zaf p t.r t.c=(c0.toNat:Int) - 97:=zcy (by simpa using h1) (by simpa using e0)
 simp only[yf9,List.all_eq_true,decide_eq_true_eq,zcf h2,hc0,Option.some.injEq]
 constructor
 ·intro h i j hi' hj'
  obtain ⟨row,g1,g2,g3,g4⟩:=zlg hg hi hi'
  obtain ⟨c,e1,_⟩:=zl4 hg g1 (k:=t.c+j) (by have:=hi.2.2.2; omega)
  have:=h _ (List.mem_of_getElem? g2) c (List.mem_of_getElem? ((zid hj').trans e1))
  rw [zcy g1 e1,hz0,this]
 intro h r hr c hc
 obtain ⟨i,hi'⟩:=List.getElem?_of_mem hr
 have hil:=(List.getElem?_eq_some_iff.1 hi').1
 rw [zoa hi]at hil
 obtain ⟨row,g1,g2,g3,g4⟩:=zlg hg hi hil
 rw [g2]at hi'; cases hi'
 obtain ⟨j,hj⟩:=List.getElem?_of_mem hc
 have hjl:=(List.getElem?_eq_some_iff.1 hj).1
 rw [zid (by omega)]at hj
 have:=h i j hil (by omega)
 rw [zcy g1 hj,hz0]at this
 exact UInt8.toNat_inj.1 (by omega)
end
end
section
structure Pl (c:Nat→Nat→Nat) (H W:Nat):Prop where
 rect:∀ {i j i' j':Nat} (k l:Nat),i<H→i'<H→j<W→j'<W→c i j=c i' j'→min i i'≤k→k≤max i i'→min j j'≤l→l≤max j j'→c k l=c i j
 plain:∀ {i j:Nat},i+1<H→j+1<W→c i j≠c i (j+1)→c (i+1) j≠c (i+1) (j+1)→c i j≠c (i+1) j→c i (j+1)=c (i+1) (j+1)
def DL (c:Nat→Nat→Nat) (H W a b:Nat):Prop:=∃ j i1 i2,j+1<W∧i1<H∧i2<H∧(∀ r,min i1 i2≤r→r≤max i1 i2→c r j≠c r (j+1))∧a=c i1 j∧b=c i2 (j+1)
def DU (c:Nat→Nat→Nat) (H W a b:Nat):Prop:=∃ i j1 j2,i+1<H∧j1<W∧j2<W∧(∀ k,min j1 j2≤k→k≤max j1 j2→c i k≠c (i+1) k)∧a=c i j1∧b=c (i+1) j2
theorem zma {P:Nat→Prop}:∀ {n:Nat},P n→∃ m,m≤n∧P m∧∀ k,k<m→¬ P k:=by
 intro n
 induction n using Nat.strongRecOn with
 | _ n ih =>
  intro h
  by_cases c:∃ k,k<n∧P k
  ·obtain ⟨k,hk,hp⟩:=c
   obtain ⟨m,h1,h2,h3⟩:=ih k hk hp
   exact ⟨m,by omega,h2,h3⟩
  exact ⟨n,qR _,h,fun k hk hp=>c ⟨k,hk,hp⟩⟩
theorem z0x {P:Nat→Prop} {i:Nat}:∀ {n:Nat},i≤n→P i→¬ P n→∃ e,i≤e∧e+1≤n∧P e∧¬ P (e+1)
 | 0,h,h1,h2=>by
    obtain rfl:i=0:=by omega
    exact absurd h1 h2
 | n+1,h,h1,h2=>by
  by_cases c:P n
  ·by_cases e:i=n+1
   ·subst e; exact absurd h1 h2
   exact ⟨n,by omega,qR _,c,h2⟩
  by_cases e:i=n+1
  ·subst e; exact absurd h1 h2
  obtain ⟨m,k1,k2,k3⟩:=z0x (P:=P) (i:=i) (n:=n) (by omega) h1 c
  exact ⟨m,k1,by omega,k3⟩
section
variable {c:Nat→Nat→Nat} {H W:Nat}
def Stair (c:Nat→Nat→Nat) (H W:Nat) (Z:Nat→Prop):Prop:=∀ {i j:Nat} (i' j':Nat),i<H→j<W→i'≤i→j'≤j→Z (c i j)→Z (c i' j')
def Free (c:Nat→Nat→Nat) (H W:Nat) (Z:Nat→Prop):Prop:=∃ i j,i<H∧j<W∧¬ Z (c i j)∧(∀ a,DL c H W a (c i j)∨DU c H W a (c i j)→Z a)∧Stair c H W fun x=>Z x∨x=c i j
theorem z8n (h:Pl c H W) {Z:Nat→Prop} (hZ:Stair c H W Z) {i j:Nat} (hi:i<H) (hj:j<W) (hn:¬ Z (c i j)) (hu:∀ i',i'+1=i→Z (c i' j)) (hl:∀ j',j'+1=j→Z (c i j'))
  (hN:∀ i',i'+1=i→∀ k,j≤k→k<W→(∀ l,j≤l→l≤k→c i' l≠c i l)→Z (c i' k))
  (hA:∀ j',j'+1=j→∀ k,i≤k→k<H→(∀ r,i≤r→r≤k→c r j'≠c r j)→Z (c k j')):Free c H W Z:=by
 have up:∀ {i2 j2:Nat},i2<H→j2<W→c i2 j2=c i j→i≤i2:=by
  intro i2 j2 h1 h2 h3
  by_cases q:i≤i2
  ·exact q
  have h4:=hu (i - 1) (by omega)
  rw [h.rect (i - 1) j h1 hi h2 hj h3 (by omega) (by omega) (by omega) (by omega),h3]at h4
  exact absurd h4 hn
 have lf:∀ {i2 j2:Nat},i2<H→j2<W→c i2 j2=c i j→j≤j2:=by
  intro i2 j2 h1 h2 h3
  by_cases q:j≤j2
  ·exact q
  have h4:=hl (j - 1) (by omega)
  rw [h.rect i (j - 1) h1 hi h2 hj h3 (by omega) (by omega) (by omega) (by omega),h3]at h4
  exact absurd h4 hn
 have runL:∀ {i2 j2 r j':Nat},i2<H→j2<W→c i2 j2=c i j→j'+1=j→i≤r→r≤i2→c r j'≠c r j:=by
  intro i2 j2 r j' h1 h2 h3 h4 h5 h6 h7
  have h8:=lf h1 h2 h3
  have e1:c r j=c i j:=by
   rw [h.rect r j h1 hi h2 hj h3 (by omega) (by omega) (by omega) (by omega),h3]
  have h9:=lf (i2:=r) (j2:=j') (by omega) (by omega) (by rw [h7,e1])
  omega
 have runU:∀ {i2 j2 l i':Nat},i2<H→j2<W→c i2 j2=c i j→i'+1=i→j≤l→l≤j2→c i' l≠c i l:=by
  intro i2 j2 l i' h1 h2 h3 h4 h5 h6 h7
  have h8:=up h1 h2 h3
  have e1:c i l=c i j:=by
   rw [h.rect i l h1 hi h2 hj h3 (by omega) (by omega) (by omega) (by omega),h3]
  have h9:=up (i2:=i') (j2:=l) (by omega) (by omega) (by rw [h7,e1])
  omega
 refine ⟨i,j,hi,hj,hn,?_,?_⟩
 ·rintro a (⟨j0,i1,i2,k1,k2,k3,run,rfl,k4⟩ | ⟨i0,j1,j2,k1,k2,k3,run,rfl,k4⟩)
  ·have h1:=lf k3 k1 k4.symm
   have e:j0+1=j:=by
    by_cases q:j0+1=j
    ·exact q
    have:=h.rect i2 j0 k3 hi k1 hj k4.symm (by omega) (by omega) (by omega) (by omega)
    exact absurd this (run i2 (by omega) (by omega))
   subst e
   have h2:=up k3 k1 k4.symm
   by_cases q:i1<i
   ·exact hZ i1 j0 hi (by omega) (by omega) (qR _) (hl j0 rfl)
   refine hA j0 rfl i1 (by omega) k2 fun r r1 r2=>?_
   by_cases q2:min i1 i2≤r
   ·exact run r q2 (by omega)
   exact runL k3 k1 k4.symm rfl r1 (by omega)
  have h1:=up k1 k3 k4.symm
  have e:i0+1=i:=by
   by_cases q:i0+1=i
   ·exact q
   have:=h.rect i0 j2 k1 hi k3 hj k4.symm (by omega) (by omega) (by omega) (by omega)
   exact absurd this (run j2 (by omega) (by omega))
  subst e
  have h2:=lf k1 k3 k4.symm
  by_cases q:j1<j
  ·exact hZ i0 j1 (by omega) hj (qR _) (by omega) (hu i0 rfl)
  refine hN i0 rfl j1 (by omega) k2 fun r r1 r2=>?_
  by_cases q2:min j1 j2≤r
  ·exact run r q2 (by omega)
  exact runU k1 k3 k4.symm rfl r1 (by omega)
 intro i2 k2 i' j' h1 h2 h3 h4 h5
 rcases h5 with h5 | h5
 ·exact .inl (hZ i' j' h1 h2 h3 h4 h5)
 have q1:=up h1 h2 h5
 have q2:=lf h1 h2 h5
 by_cases q3:i'<i
 ·left
  refine hZ i' j' (show i - 1<H by omega) h2 (by omega) h4 (hN (i - 1) (by omega) k2 q2 h2 fun l l1 l2=>runU h1 h2 h5 (by omega) l1 l2)
 by_cases q4:j'<j
 ·left
  exact hZ i' j' h1 (show j - 1<W by omega) h3 (by omega) (hA (j - 1) (by omega) i2 q1 h1 fun r r1 r2=>runL h1 h2 h5 (by omega) r1 r2)
 right
 rw [h.rect i' j' h1 hi h2 hj h5 (by omega) (by omega) (by omega) (by omega),h5]
theorem z8m (h:Pl c H W) {Z:Nat→Prop} (hZ:Stair c H W Z):∀ (j i:Nat),i<H→j<W→¬ Z (c i j)→(∀ i',i'+1=i→Z (c i' j))→(∀ j',j'+1=j→Z (c i j')) →
  (∀ i',i'+1=i→∀ k,j≤k→k<W→(∀ l,j≤l→l≤k→c i' l≠c i l)→Z (c i' k))→Free c H W Z:=by
 intro j
 induction j using Nat.strongRecOn with
 | _ j ih =>
  intro i hi hj hn hu hl hN
  by_cases hA:∀ j',j'+1=j→∀ k,i≤k→k<H→(∀ r,i≤r→r≤k→c r j'≠c r j)→Z (c k j')
  ·exact z8n h hZ hi hj hn hu hl hN hA
  simp only[Classical.not_forall]at hA
  obtain ⟨j',rfl,k,h1,h2,run,h3⟩:=hA
  obtain ⟨e,e1,e2,e3,e4⟩:=z0x (P:=fun r=>Z (c r j')) h1 (hl j' rfl) h3
  obtain ⟨m,m1,m2,m3⟩:=zma (P:=fun l=>¬ Z (c (e+1) l)) e4
  refine ih m (by omega) (e+1) (by omega) (by omega) m2 ?_ ?_ ?_
  ·intro i' hi'
   obtain rfl:i'=e:=by omega
   exact hZ i' m (by omega) (by omega) (qR _) m1 e3
  ·intro l hl'
   exact Classical.not_not.1 (m3 l (by omega))
  intro i' hi' k2 k3 k4 k5
  obtain rfl:i'=e:=by omega
  by_cases q:k2≤j'
  ·exact hZ i' k2 (by omega) (by omega) (qR _) q e3
  have q1:=k5 (j'+1) (by omega) (by omega)
  have q2:=h.plain (i:=i') (j:=j') (by omega) hj (run i' (by omega) (by omega)) (run (i'+1) (by omega) (by omega)) (fun q3=>e4 (by rw [← q3]; exact e3))
  exact absurd q2 q1
theorem yhf (h:Pl c H W) {Z:Nat→Prop} (hZ:Stair c H W Z) (hx:∃ i j,i<H∧j<W∧¬ Z (c i j)):Free c H W Z:=by
 obtain ⟨i,hx⟩:=hx
 obtain ⟨i,-,⟨j,h1,h2,h3⟩,h4⟩:=zma (P:=fun i=>∃ j,i<H∧j<W∧¬ Z (c i j)) hx
 obtain ⟨j,j1,j2,j3⟩:=zma (P:=fun j=>¬ Z (c i j)) h3
 have all:∀ i',i'+1=i→∀ k,k<W→Z (c i' k):=fun i' e k hk=>Classical.byContradiction fun q=>h4 i' (by omega) ⟨k,by omega,hk,q⟩
 exact z8m h hZ j i h1 (by omega) j2 (fun i' e=>all i' e j (by omega)) (fun j' e=>Classical.not_not.1 (j3 j' (by omega))) (fun i' e k _ hk _=>all i' e k hk)
theorem z52 (h:Pl c H W) {n:Nat} (hc:∀ i j,i<H→j<W→c i j<n):∀ (m:Nat) (Z:Nat→Bool),Stair c H W (fun x=>Z x=true)→(List.range n).countP (fun x => !Z x)≤m→∃ f:Nat→Nat,∀ a b,Z a=false→Z b=false→DL c H W a b∨DU c H W a b→f a<f b:=by
 have cell:∀ {a b:Nat},DL c H W a b∨DU c H W a b→∃ i j,i<H∧j<W∧a=c i j:=by
  rintro a b (⟨j0,i1,i2,k1,k2,k3,run,rfl,k4⟩ | ⟨i0,j1,j2,k1,k2,k3,run,rfl,k4⟩)
  ·exact ⟨i1,j0,k2,by omega,rfl⟩
  exact ⟨i0,j1,by omega,k2,rfl⟩
 intro m
 induction m with
 | zero =>
  intro Z hZ hm
  refine ⟨fun _=>0,fun a b ha hb hd=>?_⟩
  obtain ⟨i,j,hi,hj,rfl⟩:=cell hd
  have h0:(List.range n).countP (fun x => !Z x)=0:=by omega
  rw [List.countP_eq_zero]at h0
  exact absurd (show (!Z (c i j))=true by rw [ha]; rfl) (h0 _ (by simpa using hc i j hi hj))
 | succ m ih =>
  intro Z hZ hm
  by_cases hx:∃ i j,i<H∧j<W∧¬ (Z (c i j)=true)
  ·obtain ⟨i,j,hi,hj,hn,hp,hs⟩:=yhf h (Z:=fun x=>Z x=true) hZ hx
   have hZ':Stair c H W (fun x=>(Z x || x == c i j)=true):=by
    intro i1 j1 i' j' h1 h2 h3 h4 h5
    have h6:=hs i' j' h1 h2 h3 h4 (by simpa using h5)
    simpa using h6
   have hlt:(List.range n).countP (fun x => !(Z x || x == c i j))<(List.range n).countP (fun x => !Z x):=by
    refine zpc (fun x _ hx=>?_) ⟨c i j,by simpa using hc i j hi hj,by simpa using hn,by simp⟩
    cases hz:Z x with
    | false=>rfl
    | true=>rw [hz]at hx; simp at hx
   obtain ⟨f,hf⟩:=ih (fun x=>Z x || x == c i j) hZ' (by omega)
   refine ⟨fun x=>if x=c i j then 0 else f x+1,fun a b ha hb hd=>?_⟩
   have hbA:b≠c i j:=by
    rintro rfl
    have q:Z a=true:=hp a hd
    rw [ha]at q; cases q
   simp only[if_neg hbA]
   by_cases haA:a=c i j
   ·simp only[if_pos haA]; omega
   simp only[if_neg haA]
   have:=hf a b (by simp [ha,haA]) (by simp [hb,hbA]) hd
   omega
  refine ⟨fun _=>0,fun a b ha hb hd=>?_⟩
  obtain ⟨i,j,hi,hj,rfl⟩:=cell hd
  exact absurd ⟨i,j,hi,hj,by rw [ha]; exact Bool.false_ne_true⟩ hx
theorem z3p (h:Pl c H W) {n:Nat} (hc:∀ i j,i<H→j<W→c i j<n):∃ f:Nat→Nat,∀ a b,DL c H W a b∨DU c H W a b→f a<f b:=by
 obtain ⟨f,hf⟩:=z52 h hc _ (fun _=>false) (fun _ _ _ _ _ _ h=>h) (qR _)
 exact ⟨f,fun a b hd=>hf a b rfl rfl hd⟩
def fl (c:Nat→Nat→Nat) (H i j:Nat):Nat:=c (H - 1 - i) j
def tr (c:Nat→Nat→Nat) (i j:Nat):Nat:=c j i
theorem Pl.dn (h:Pl c H W):Pl (fl c H) H W:=by
 refine ⟨fun k l h1 h2 h3 h4 h5 h6 h7 h8 h9=>?_,fun {i j} h1 h2 h3 h4 h5=>?_⟩
 ·exact h.rect _ _ (by omega) (by omega) h3 h4 h5 (by omega) (by omega) h8 h9
 unfold Fw.fl at *
 obtain ⟨k,rfl⟩:∃ k,H=i+2+k:=⟨H - (i+2),by omega⟩
 rw [show i+2+k - 1 - i=k+1 by omega,show i+2+k - 1 - (i+1)=k by omega] at *
 exact (h.plain (i:=k) (j:=j) (by omega) h2 h4 h3 (Ne.symm h5)).symm
theorem Pl.ex (h:Pl c H W):Pl (tr c) W H :=
 ⟨fun k l h1 h2 h3 h4 h5 h6 h7 h8 h9=>h.rect l k h3 h4 h1 h2 h5 h8 h9 h6 h7,fun {i j} h1 h2 h3 h4 h5=>by
  unfold Fw.tr at *
  by_cases q:c j i=c j (i+1)
  ·exact absurd q h5
  by_cases q2:c (j+1) i=c (j+1) (i+1)
  ·exact q2
  exact absurd (h.plain (i:=j) (j:=i) h2 h1 h5 q2 h3) h4⟩
theorem DL.ex {a b:Nat} (h:DL (tr c) W H a b):DU c H W a b:=h
theorem DU.ex {a b:Nat} (h:DU (tr c) W H a b):DL c H W a b:=h
theorem DL.dn {a b:Nat} (h:DL (fl c H) H W a b):DL c H W a b:=by
 obtain ⟨j,i1,i2,h1,h2,h3,run,rfl,rfl⟩:=h
 refine ⟨j,H - 1 - i1,H - 1 - i2,h1,by omega,by omega,fun r r1 r2=>?_,rfl,rfl⟩
 have:=run (H - 1 - r) (by omega) (by omega)
 unfold Fw.fl at this
 rwa [show H - 1 - (H - 1 - r)=r by omega]at this
theorem DL.unfl {a b:Nat} (h:DL c H W a b):DL (fl c H) H W a b:=by
 obtain ⟨j,i1,i2,h1,h2,h3,run,rfl,rfl⟩:=h
 refine ⟨j,H - 1 - i1,H - 1 - i2,h1,by omega,by omega,fun r r1 r2=>?_,?_,?_⟩
 ·exact run (H - 1 - r) (by omega) (by omega)
 ·unfold Fw.fl; rw [show H - 1 - (H - 1 - i1)=i1 by omega]
 unfold Fw.fl; rw [show H - 1 - (H - 1 - i2)=i2 by omega]
theorem DU.dn {a b:Nat} (h:DU (fl c H) H W a b):DU c H W b a:=by
 obtain ⟨i,j1,j2,h1,h2,h3,run,rfl,rfl⟩:=h
 refine ⟨H - 1 - (i+1),j2,j1,by omega,h3,h2,fun k k1 k2=>?_,?_,?_⟩
 ·have:=run k (by omega) (by omega)
  unfold Fw.fl at this
  rw [show H - 1 - (i+1)+1=H - 1 - i by omega]
  exact Ne.symm this
 ·rfl
 unfold Fw.fl; rw [show H - 1 - (i+1)+1=H - 1 - i by omega]
theorem DU.unfl {a b:Nat} (h:DU c H W a b):DU (fl c H) H W b a:=by
 obtain ⟨i,j1,j2,h1,h2,h3,run,rfl,rfl⟩:=h
 refine ⟨H - 1 - (i+1),j2,j1,by omega,h3,h2,fun k k1 k2=>?_,?_,?_⟩
 ·unfold Fw.fl
  rw [show H - 1 - (H - 1 - (i+1))=i+1 by omega,show H - 1 - (H - 1 - (i+1)+1)=i by omega]
  exact Ne.symm (run k (by omega) (by omega))
 ·unfold Fw.fl; rw [show H - 1 - (H - 1 - (i+1))=i+1 by omega]
 unfold Fw.fl; rw [show H - 1 - (H - 1 - (i+1)+1)=i by omega]
theorem z90 (h:Pl c H W) {n:Nat} (hc:∀ i j,i<H→j<W→c i j<n):∃ f:Nat→Nat,∀ a b,DL c H W a b∨DU c H W b a→f a<f b:=by
 obtain ⟨f,hf⟩:=z3p h.dn (n:=n) (fun i j hi hj=>hc _ j (by omega) hj)
 refine ⟨f,fun a b hd=>hf a b ?_⟩
 rcases hd with hd | hd
 ·exact .inl hd.unfl
 exact .inr hd.unfl
inductive TC (R:Nat→Nat→Prop):Nat→Nat→Prop
 | one {a b:Nat}:R a b→TC R a b
 | tail {a b d:Nat}:TC R a b→R b d→TC R a d
theorem TC.mono {R S:Nat→Nat→Prop} (h:∀ a b,R a b→S a b) {a b:Nat} (k:TC R a b):TC S a b:=by
 induction k with
 | one k=>exact .one (h _ _ k)
 | tail _ k ih=>exact .tail ih (h _ _ k)
theorem TC.trans {R:Nat→Nat→Prop} {a b d:Nat} (h:TC R a b) (k:TC R b d):TC R a d:=by
 induction k with
 | one k=>exact .tail h k
 | tail _ k ih=>exact .tail ih k
theorem TC.rev {R S:Nat→Nat→Prop} (h:∀ a b,R a b→S b a) {a b:Nat} (k:TC R a b):TC S b a:=by
 induction k with
 | one k=>exact .one (h _ _ k)
 | tail _ k ih=>exact (TC.one (h _ _ k)).trans ih
theorem TC.last {R:Nat→Nat→Prop} {a b:Nat} (h:TC R a b):∃ x,(x=a∨TC R a x)∧R x b:=by
 cases h with
 | one k=>exact ⟨a,.inl rfl,k⟩
 | tail h k=>exact ⟨_,.inr h,k⟩
theorem TC.rise {R:Nat→Nat→Prop} {f:Nat→Nat} (h:∀ a b,R a b→f a<f b) {a b:Nat} (k:TC R a b):f a<f b:=by
 induction k with
 | one k=>exact h _ _ k
 | tail _ k ih=>exact Nat.lt_trans ih (h _ _ k)
theorem zin {i:Nat} (hi:i<H) {j1:Nat}:∀ {j2:Nat},j1≤j2→j2<W→c i j1≠c i j2→TC (DL c H W) (c i j1) (c i j2)
 | 0,h1,_,h3=>by
    obtain rfl:j1=0:=by omega
    exact absurd rfl h3
 | j2+1,h1,h2,h3=>by
  by_cases e:j1=j2+1
  ·subst e; exact absurd rfl h3
  by_cases q:c i j2=c i (j2+1)
  ·rw [← q]at h3 ⊢
   exact zin hi (by omega) (by omega) h3
  have hd:DL c H W (c i j2) (c i (j2+1)):=⟨j2,i,i,h2,hi,hi,fun r r1 r2=>by
  obtain rfl:r=i:=by omega
  exact q,rfl,rfl⟩
  by_cases q2:c i j1=c i j2
  ·rw [q2]; exact .one hd
  exact .tail (zin hi (by omega) (by omega) q2) hd
theorem yc5 {j:Nat} (hj:j<W) {i1 i2:Nat} (h1:i1≤i2) (h2:i2<H) (h3:c i1 j≠c i2 j):TC (DU c H W) (c i1 j) (c i2 j) :=
 (zin (c:=tr c) (H:=W) (W:=H) hj h1 h2 h3).mono fun _ _ h=>h.ex
theorem pass (h:Pl c H W) {r q A:Nat} (hr:r+1<H) (hq:q+1<W) (hNP:c r q=c (r+1) q) (hP:c (r+1) q≠c (r+1) (q+1)) (hQ:c r (q+1)≠c (r+1) (q+1))
  (h1:c (r+1) q=A∨TC (DL c H W) A (c (r+1) q)∨TC (DU c H W) A (c (r+1) q)) (h2:c r (q+1)=A∨TC (DL c H W) A (c r (q+1))∨TC (DU c H W) A (c r (q+1))) :
  TC (DL c H W) A (c (r+1) (q+1))∨TC (DU c H W) A (c (r+1) (q+1)):=by
 have hNQ:c r q≠c r (q+1):=by
  intro e
  have:=h.rect (i:=r+1) (j:=q) (i':=r) (j':=q+1) (r+1) (q+1) hr (by omega) (by omega) hq (by rw [← hNP,e]) (by omega) (by omega) (by omega) (by omega)
  exact hP this.symm
 have dP:DL c H W (c (r+1) q) (c (r+1) (q+1)):=⟨q,r+1,r+1,hq,hr,hr,fun x x1 x2=>by
    obtain rfl:x=r+1:=by omega
    exact hP,rfl,rfl⟩
 have dQ:DU c H W (c r (q+1)) (c (r+1) (q+1)):=⟨r,q+1,q+1,hr,hq,hq,fun x x1 x2=>by
    obtain rfl:x=q+1:=by omega
    exact hQ,rfl,rfl⟩
 rcases h1 with rfl | h1 | h1
 ·exact .inl (.one dP)
 ·exact .inl (.tail h1 dP)
 rcases h2 with rfl | h2 | h2
 ·exact .inr (.one dQ)
 ·left
  obtain ⟨x,hx,j0,i1,i2,k1,k2,k3,run,rfl,k4⟩:=h2.last
  have e:j0=q:=by
   by_cases q1:j0<q
   ·have:=h.rect r q k3 (show r<H by omega) k1 hq k4.symm (by omega) (by omega) (by omega) (by omega)
    rw [← k4]at this
    exact absurd this hNQ
   by_cases q2:q<j0
   ·have:=h.rect i2 j0 k3 (show r<H by omega) k1 hq k4.symm (by omega) (by omega) (by omega) (by omega)
    exact absurd this (run i2 (by omega) (by omega))
   omega
  subst e
  have hd:DL c H W (c i1 j0) (c (r+1) (j0+1)):=by
   refine ⟨j0,i1,r+1,hq,k2,hr,fun x x1 x2=>?_,rfl,rfl⟩
   by_cases q1:min i1 i2≤x∧x≤max i1 i2
   ·exact run x q1.1 q1.2
   by_cases q2:x=r+1
   ·subst q2; exact hP
   intro q3
   have e1:=h.rect x (j0+1) k3 (show r<H by omega) k1 hq k4.symm (by omega) (by omega) (by omega) (by omega)
   rw [← k4]at e1
   have e2:=h.rect (i:=x) (j:=j0) (i':=r) (j':=j0+1) r j0 (by omega) (by omega) (by omega) hq (by rw [q3,e1]) (by omega) (by omega) (by omega) (by omega)
   rw [q3,e1]at e2
   exact hNQ e2
  rcases hx with hx | hx
  ·rw [hx]at hd; exact .one hd
  exact .tail hx hd
 exact .inr (.tail h2 dQ)
theorem z2g (h:Pl c H W) {x y:Nat}:∀ (s:Nat) {i j:Nat},i+j≤s→x≤i→y≤j→i<H→j<W→c x y≠c i j→TC (DL c H W) (c x y) (c i j)∨TC (DU c H W) (c x y) (c i j):=by
 intro s
 induction s with
 | zero =>
  intro i j h1 h2 h3 h4 h5 h6
  obtain rfl:i=0:=by omega
  obtain rfl:j=0:=by omega
  obtain rfl:x=0:=by omega
  obtain rfl:y=0:=by omega
  exact absurd rfl h6
 | succ s ih =>
  intro i j h1 h2 h3 h4 h5 h6
  by_cases e1:x=i
  ·subst e1; exact .inl (zin h4 h3 h5 h6)
  by_cases e2:y=j
  ·subst e2; exact .inr (yc5 h5 h2 h4 h6)
  obtain ⟨r,rfl⟩:∃ r,i=r+1:=⟨i - 1,by omega⟩
  obtain ⟨q,rfl⟩:∃ q,j=q+1:=⟨j - 1,by omega⟩
  by_cases e3:c r (q+1)=c (r+1) (q+1)
  ·rw [← e3]at h6 ⊢
   exact ih (by omega) (by omega) h3 (by omega) h5 h6
  by_cases e4:c (r+1) q=c (r+1) (q+1)
  ·rw [← e4]at h6 ⊢
   exact ih (by omega) h2 (by omega) h4 (by omega) h6
  have iP:c (r+1) q=c x y∨TC (DL c H W) (c x y) (c (r+1) q)∨TC (DU c H W) (c x y) (c (r+1) q):=by
   by_cases k:c x y=c (r+1) q
   ·exact .inl k.symm
   exact .inr (ih (by omega) h2 (by omega) h4 (by omega) k)
  have iQ:c r (q+1)=c x y∨TC (DL c H W) (c x y) (c r (q+1))∨TC (DU c H W) (c x y) (c r (q+1)):=by
   by_cases k:c x y=c r (q+1)
   ·exact .inl k.symm
   exact .inr (ih (by omega) (by omega) h3 (by omega) h5 k)
  by_cases hNP:c r q=c (r+1) q
  ·exact pass h h4 h5 hNP e4 e3 iP iQ
  by_cases hNQ:c r q=c r (q+1)
  ·have:=pass (c:=tr c) (H:=W) (W:=H) h.ex (r:=q) (q:=r) (A:=c x y) h5 h4 hNQ e3 e4 ?_ ?_
   ·rcases this with k | k
    ·exact .inr (k.mono fun _ _ h=>h.ex)
    exact .inl (k.mono fun _ _ h=>h.ex)
   ·rcases iQ with k | k | k
    ·exact .inl k
    ·exact .inr (.inr k)
    exact .inr (.inl k)
   rcases iP with k | k | k
   ·exact .inl k
   ·exact .inr (.inr k)
   exact .inr (.inl k)
  exact absurd (h.plain h4 h5 hNQ e4 hNP) e3
theorem zwa (h:Pl c H W) {x y i j:Nat} (hx:x<H) (hy:y<W) (hi:i<H) (hj:j<W) (hne:c x y≠c i j) :
  TC (DL c H W) (c x y) (c i j)∨TC (DL c H W) (c i j) (c x y)∨TC (DU c H W) (c x y) (c i j)∨TC (DU c H W) (c i j) (c x y):=by
 have key:∀ {x y i j:Nat},x<H→y<W→i<H→j<W→c x y≠c i j→x≤i→TC (DL c H W) (c x y) (c i j)∨TC (DL c H W) (c i j) (c x y)∨TC (DU c H W) (c x y) (c i j)∨TC (DU c H W) (c i j) (c x y):=by
  intro x y i j hx hy hi hj hne hle
  by_cases q:y≤j
  ·rcases z2g h _ (qR _) hle q hi hj hne with k | k
   ·exact .inl k
   exact .inr (.inr (.inl k))
  have e1:fl c H (H - 1 - i) j=c i j:=by unfold fl; rw [show H - 1 - (H - 1 - i)=i by omega]
  have e2:fl c H (H - 1 - x) y=c x y:=by unfold fl; rw [show H - 1 - (H - 1 - x)=x by omega]
  have:=z2g h.dn (x:=H - 1 - i) (y:=j) _ (i:=H - 1 - x) (j:=y) (qR _) (by omega) (by omega) (by omega) hy (by rw [e1,e2]; exact Ne.symm hne)
  rw [e1,e2]at this
  rcases this with k | k
  ·exact .inr (.inl (k.mono fun _ _ h=>h.dn))
  exact .inr (.inr (.inl (k.rev fun _ _ h=>h.dn)))
 by_cases q:x≤i
 ·exact key hx hy hi hj hne q
 rcases key hi hj hx hy (Ne.symm hne) (by omega) with k | k | k | k
 ·exact .inr (.inl k)
 ·exact .inl k
 ·exact .inr (.inr (.inr k))
 exact .inr (.inr (.inl k))
end
end
section
section
variable {n:Nat} {M:List (List Bool)}
theorem absorb {p q:Bool}:(p || (q && p))=p:=by cases p <;> cases q <;> rfl
theorem z7p (h:Sq n M) {k:Nat} (hk:k<n):∀ i,i≤n→Sq n ((List.range i).foldl (clA n k) M) ∧
  ∀ x y,x<n→y<n→zcv ((List.range i).foldl (clA n k) M) x y=if x<i then zcv M x y || (zcv M x k && zcv M k y) else zcv M x y
 | 0,_=>⟨h,fun x y _ _=>by simp⟩
 | i+1,hi=>by
  obtain ⟨h1,h2⟩:=z7p h hk i (by omega)
  rw [zcz]
  generalize (List.range i).foldl (clA n k) M=X at h1 h2 ⊢
  obtain ⟨h3,h4⟩:=z2o h1 hk (show i<n by omega) n (qR _)
  refine ⟨h3,fun x y hx hy=>?_⟩
  unfold clA
  rw [h4 x y hx hy]
  by_cases e:x=i
  ·subst e
   have e1:zcv X x y=zcv M x y:=by rw [h2 x y hx hy,if_neg (Nat.lt_irrefl _)]
   have e2:zcv X x k=zcv M x k:=by rw [h2 x k hx hk,if_neg (Nat.lt_irrefl _)]
   have e3:zcv X k y=zcv M k y:=by
    rw [h2 k y hk hy]
    split
    ·exact absorb
    rfl
   rw [if_pos ⟨rfl,hy⟩,if_pos (by omega),e1,e2,e3]
  rw [if_neg (fun q=>e q.1),h2 x y hx hy]
  by_cases e2:x<i
  ·rw [if_pos e2,if_pos (by omega)]
  rw [if_neg e2,if_neg (by omega)]
theorem yg2 (h:Sq n M) {k:Nat} (hk:k<n) {x y:Nat} (hx:x<n) (hy:y<n):zcv (clK n M k) x y=(zcv M x y || (zcv M x k && zcv M k y)):=by
 have:=(z7p h hk n (qR _)).2 x y hx hy
 rw [if_pos hx]at this
 exact this
theorem z2r (h:Sq n M):∀ i,i≤n→Sq n ((List.range i).foldl (clK n) M) ∧
  (∀ a b,a<n→b<n→zcv M a b=true→zcv ((List.range i).foldl (clK n) M) a b=true) ∧
  (∀ m a b,m<i→a<n→b<n→zcv ((List.range i).foldl (clK n) M) a m=true→zcv ((List.range i).foldl (clK n) M) m b=true→zcv ((List.range i).foldl (clK n) M) a b=true) ∧
  (∀ T:Nat→Nat→Prop,(∀ a b d,T a b→T b d→T a d)→(∀ a b,a<n→b<n→zcv M a b=true→T a b)→∀ a b,a<n→b<n→zcv ((List.range i).foldl (clK n) M) a b=true→T a b)
 | 0,_=>⟨h,fun a b _ _ k=>k,fun m a b k=>by omega,fun T _ k=>k⟩
 | i+1,hi=>by
  obtain ⟨h1,h2,h3,h4⟩:=z2r h i (by omega)
  rw [zcz]
  generalize (List.range i).foldl (clK n) M=X at h1 h2 h3 h4 ⊢
  have hin:i<n:=by omega
  have g:∀ {x y:Nat},x<n→y<n→(zcv (clK n X i) x y=true↔zcv X x y=true∨(zcv X x i=true∧zcv X i y=true)):=by
   intro x y hx hy
   rw [yg2 h1 hin hx hy]; simp
  refine ⟨(z7p h1 hin n (qR _)).1,fun a b ha hb k=>(g ha hb).2 (.inl (h2 a b ha hb k)),fun m a b hm ha hb k1 k2=>?_,fun T tr hT a b ha hb k=>?_⟩
  ·have hmn:m<n:=by omega
   rw [g ha hmn]at k1
   rw [g hmn hb]at k2
   rw [g ha hb]
   by_cases e:m=i
   ·subst e
    rcases k1 with k1 | k1 <;> rcases k2 with k2 | k2
    ·exact .inr ⟨k1,k2⟩
    ·exact .inr ⟨k1,k2.2⟩
    ·exact .inr ⟨k1.1,k2⟩
    exact .inr ⟨k1.1,k2.2⟩
   have hmi:m<i:=by omega
   rcases k1 with k1 | k1 <;> rcases k2 with k2 | k2
   ·exact .inl (h3 m a b hmi ha hb k1 k2)
   ·exact .inr ⟨h3 m a i hmi ha hin k1 k2.1,k2.2⟩
   ·exact .inr ⟨k1.1,h3 m i b hmi hin hb k1.2 k2⟩
   exact .inr ⟨k1.1,k2.2⟩
  rw [g ha hb]at k
  rcases k with k | k
  ·exact h4 T tr hT a b ha hb k
  exact tr a i b (h4 T tr hT a i ha hin k.1) (h4 T tr hT i b hin hb k.2)
def MR (n:Nat) (M:List (List Bool)) (a b:Nat):Prop:=a<n∧b<n∧zcv M a b=true
theorem z2q (h:Sq n M) {a b:Nat} (ha:a<n) (hb:b<n):zcv (zgg M) a b=true↔TC (MR n M) a b:=by
 obtain ⟨h1,h2,h3,h4⟩:=z2r h n (qR _)
 have e:zgg M=(List.range n).foldl (clK n) M:=by unfold zgg; rw [h.1]
 rw [e]
 constructor
 ·exact h4 (TC (MR n M)) (fun _ _ _ p q=>p.trans q) (fun a b ha hb k => .one ⟨ha,hb,k⟩) a b ha hb
 intro k
 induction k with
 | one k=>exact h2 _ _ k.1 k.2.1 k.2.2
 | tail _ k ih=>exact h3 _ _ _ k.1 ha k.2.1 (ih k.1) (h2 _ _ k.1 k.2.1 k.2.2)
end
def Cov (ws:List Wall) (level:Bool) (line i1 i2:Nat):Prop:=∃ w∈ws,w.level=level∧w.line=line∧w.fr≤i1∧(i2:Int)<w.fr+w.long
theorem Cov.app {ws vs:List Wall} {level:Bool} {line i1 i2:Nat} (h:Cov ws level line i1 i2):Cov (ws++vs) level line i1 i2:=by
 obtain ⟨w,hw,k⟩:=h
 exact ⟨w,List.mem_append_left _ hw,k⟩
theorem Cov.long {ws:List Wall} {w:Wall} {level:Bool} {line i1 i2:Nat} (h:Cov (ws++[w]) level line i1 i2):Cov (ws++[{ w with long:=w.long+1 }]) level line i1 i2:=by
 obtain ⟨v,hv,k1,k2,k3,k4⟩:=h
 rcases List.mem_append.1 hv with hv | hv
 ·exact ⟨v,List.mem_append_left _ hv,k1,k2,k3,k4⟩
 rw [List.mem_singleton]at hv
 subst hv
 exact ⟨_,List.mem_append_right _ (List.mem_singleton.2 rfl),k1,k2,k3,by simp only; omega⟩
def Run (g:List (List Int)) (level:Bool) (line i1 i2:Nat):Prop:=∀ j,i1≤j→j≤i2→zh0 g level line j=true
theorem zuf {g:List (List Int)} {level:Bool} {line:Nat} {ws:List Wall}:∀ n,(∀ lv ln i1 i2,Cov ws lv ln i1 i2→Cov (zb4 g level line ws n).1 lv ln i1 i2) ∧
  (∀ i1 i2,i1≤i2→i2<n→Run g level line i1 i2→Cov (zb4 g level line ws n).1 level line i1 i2) ∧
  ((zb4 g level line ws n).2=false→∀ m,n=m+1→zh0 g level line m=false) ∧
  ((zb4 g level line ws n).2=true→∃ (ws0:List Wall) (w:Wall),(zb4 g level line ws n).1=ws0++[w]∧w.level=level∧w.line=(line:Int)∧w.fr+w.long=(n:Int)∧1≤w.long∧∀ i:Nat,i<n→Run g level line i (n - 1)→w.fr≤(i:Int))
 | 0=>by
  rw [zlo]
  exact ⟨fun _ _ _ _ h=>h,fun i1 i2 _ h=>by omega,fun _ m h=>by omega,fun h=>by cases h⟩
 | n+1=>by
  obtain ⟨h1,h2,h3,h4⟩:=zuf (g:=g) (level:=level) (line:=line) (ws:=ws) n
  rw [zea]
  generalize zb4 g level line ws n=s at h1 h2 h3 h4
  obtain ⟨l,op⟩:=s
  simp only at h1 h2 h3 h4
  cases hd:zh0 g level line n with
  | false =>
   have e:zes false level line n (l,op)=(l,false):=by simp [zes]
   rw [e]
   refine ⟨h1,fun i1 i2 k1 k2 k3=>?_,fun _ m hm=>(by have e0:m=n:=(by omega); rw [e0]; exact hd),fun h=>by cases h⟩
   by_cases e2:i2=n
   ·subst e2
    have:=k3 i2 k1 (qR _)
    rw [hd]at this; cases this
   exact h2 i1 i2 k1 (by omega) k3
  | true =>
   cases op with
   | false =>
    have e:zes true level line n (l,false)=(l++[⟨level,line,n,1⟩],true):=by simp [zes]
    rw [e]
    have hno:∀ m,n=m+1→zh0 g level line m=false:=h3 rfl
    have first:∀ i,i<n+1→Run g level line i n→i=n:=by
     intro i hi hr
     by_cases e2:i=n
     ·exact e2
     have:=hr (n - 1) (by omega) (by omega)
     rw [hno (n - 1) (by omega)]at this; cases this
    refine ⟨fun lv ln i1 i2 k=>(h1 lv ln i1 i2 k).app,fun i1 i2 k1 k2 k3=>?_,fun h=>(by cases h),fun _=>⟨l,_,rfl,rfl,rfl,by simp,by simp,fun i hi hr=>?_⟩⟩
    ·by_cases e2:i2=n
     ·subst e2
      obtain rfl:=first i1 (by omega) k3
      exact ⟨_,List.mem_append_right _ (List.mem_singleton.2 rfl),rfl,rfl,Int.le_refl _,by simp only; omega⟩
     exact (h2 i1 i2 k1 (by omega) k3).app
    have:=first i hi hr
    simp only; omega
   | true =>
    obtain ⟨ws0,w,rfl,w1,w2,w3,w4,w5⟩:=h4 rfl
    have e:zes true level line n (ws0++[w],true)=(ws0++[{ w with long:=w.long+1 }],true):=by simp [zes]
    rw [e]
    have hfr:∀ i:Nat,i<n+1→Run g level line i n→w.fr≤(i:Int):=by
     intro i hi hr
     by_cases e2:i=n
     ·omega
     exact w5 i (by omega) fun j j1 j2=>hr j j1 (by omega)
    refine ⟨fun lv ln i1 i2 k=>(h1 lv ln i1 i2 k).long,fun i1 i2 k1 k2 k3=>?_,fun h=>(by cases h),fun _=>⟨ws0,_,rfl,w1,w2,by simp only; omega,by simp only; omega,fun i hi hr=>hfr i hi hr⟩⟩
    by_cases e2:i2=n
    ·subst e2
     have:=hfr i1 (by omega) k3
     exact ⟨_,List.mem_append_right _ (List.mem_singleton.2 rfl),w1,w2,this,by simp only; omega⟩
    exact (h2 i1 i2 k1 (by omega) k3).long
theorem zlj {g:List (List Int)} {level:Bool} {places:Nat} {ws:List Wall}:∀ lines,(∀ lv ln i1 i2,Cov ws lv ln i1 i2→Cov (zca g level places ws lines) lv ln i1 i2) ∧
  (∀ line i1 i2,1≤line→line<lines→i1≤i2→i2<places→Run g level line i1 i2→Cov (zca g level places ws lines) level line i1 i2)
 | 0=>⟨fun _ _ _ _ h=>h,fun line _ _ _ h=>by omega⟩
 | k+1=>by
  obtain ⟨h1,h2⟩:=zlj (g:=g) (level:=level) (places:=places) (ws:=ws) k
  by_cases hk:1≤k
  ·rw [zer hk]
   obtain ⟨l1,l2,-,-⟩:=zuf (g:=g) (level:=level) (line:=k) (ws:=zca g level places ws k) places
   refine ⟨fun lv ln i1 i2 q=>l1 _ _ _ _ (h1 _ _ _ _ q),fun line i1 i2 q1 q2 q3 q4 q5=>?_⟩
   by_cases e:line=k
   ·subst e; exact l2 i1 i2 q3 q4 q5
   exact l1 _ _ _ _ (h2 line i1 i2 q1 (by omega) q3 q4 q5)
  obtain rfl:k=0:=by omega
  rw [zll]
  exact ⟨fun _ _ _ _ h=>h,fun line _ _ q1 q2=>by omega⟩
theorem zud {g:List (List Int)} {H W:Nat} {level:Bool} {line i1 i2:Nat} (h1:1≤line) (h2:line<if level then H else W) (h3:i1≤i2) (h4:i2<if level then W else H) (hr:Run g level line i1 i2):Cov (zau g H W) level line i1 i2:=by
 unfold zau
 obtain ⟨a1,a2⟩:=zlj (g:=g) (level:=false) (places:=H) (ws:=[]) W
 obtain ⟨b1,b2⟩:=zlj (g:=g) (level:=true) (places:=W) (ws:=zca g false H [] W) H
 cases level with
 | false=>exact b1 _ _ _ _ (a2 line i1 i2 h1 h2 h3 h4 hr)
 | true=>exact b2 line i1 i2 h1 h2 h3 h4 hr
section
variable {n:Nat}
theorem z4b {a:Int} (ha:0≤a∧a<n):∀ {bs:List Int} {M:List (List Bool)},Rm n bs→Sq n M→Sq n (relB a bs M)∧∀ x y,zcv (relB a bs M) x y=true↔zcv M x y=true∨(x=a.toNat∧∃ b∈bs,y=b.toNat)
 | [],M,_,h=>⟨h,fun x y=>by simp [relB]⟩
 | b::bs,M,hb,h=>by
  have hb0:=hb b (by simp)
  obtain ⟨k1,k2⟩:=z4b ha (bs:=bs) (M:=z6m M a.toNat b.toNat true) (fun x hx=>hb x (by simp [hx])) (h.set (by omega))
  refine ⟨k1,fun x y=>?_⟩
  have e:relB a (b::bs) M=relB a bs (z6m M a.toNat b.toNat true):=rfl
  rw [e,k2,zl2 h (by omega) (by omega)]
  by_cases q:x=a.toNat∧y=b.toNat
  ·rw [if_pos q]; simp [q.1,q.2]
  rw [if_neg q]
  constructor
  ·rintro (k | ⟨k,c,hc,rfl⟩)
   ·exact .inl k
   exact .inr ⟨k,c,by simp [hc],rfl⟩
  rintro (k | ⟨k,c,hc,rfl⟩)
  ·exact .inl k
  rcases List.mem_cons.1 hc with rfl | hc
  ·exact absurd ⟨k,rfl⟩ q
  exact .inr ⟨k,c,hc,rfl⟩
theorem zvw {bs:List Int} (hb:Rm n bs):∀ {la:List Int} {M:List (List Bool)},Rm n la→Sq n M→Sq n (relW M la bs)∧∀ x y,zcv (relW M la bs) x y=true↔zcv M x y=true∨(∃ a∈la,x=a.toNat)∧∃ b∈bs,y=b.toNat
 | [],M,_,h=>⟨h,fun x y=>by simp [relW]⟩
 | a::la,M,ha,h=>by
  obtain ⟨j1,j2⟩:=z4b (ha a (by simp)) hb h
  obtain ⟨k1,k2⟩:=zvw hb (la:=la) (M:=relB a bs M) (fun x hx=>ha x (by simp [hx])) j1
  refine ⟨k1,fun x y=>?_⟩
  have e:relW M (a::la) bs=relW (relB a bs M) la bs:=rfl
  rw [e,k2,j2]
  constructor
  ·rintro ((k | ⟨k,q⟩) | ⟨⟨c,hc,k⟩,q⟩)
   ·exact .inl k
   ·exact .inr ⟨⟨a,by simp,k⟩,q⟩
   exact .inr ⟨⟨c,by simp [hc],k⟩,q⟩
  rintro (k | ⟨⟨c,hc,k⟩,q⟩)
  ·exact .inl (.inl k)
  rcases List.mem_cons.1 hc with rfl | hc
  ·exact .inl (.inr ⟨k,q⟩)
  exact .inr ⟨⟨c,hc,k⟩,q⟩
def By (g:List (List Int)) (ws:List Wall) (lv:Bool) (x y:Nat):Prop:=∃ w∈ws,w.level=lv∧(∃ a∈(zbl g w).1,x=a.toNat)∧∃ b∈(zbl g w).2,y=b.toNat
theorem By.cons {g:List (List Int)} {w:Wall} {ws:List Wall} {lv:Bool} {x y:Nat}:By g (w::ws) lv x y↔(w.level=lv∧(∃ a∈(zbl g w).1,x=a.toNat)∧∃ b∈(zbl g w).2,y=b.toNat)∨By g ws lv x y:=by
 unfold By; simp
theorem zvk {g:List (List Int)} {nh nw:Nat} (hrm:z0b g nh nw n):∀ (ws:List Wall),(∀ w∈ws,zr9 g nh nw w)→∀ {M:List (List Bool) × List (List Bool)},Sq n M.1→Sq n M.2 →
  (Sq n (ws.foldl (zpk g) M).1∧∀ x y,zcv (ws.foldl (zpk g) M).1 x y=true↔zcv M.1 x y=true∨By g ws false x y) ∧
  (Sq n (ws.foldl (zpk g) M).2∧∀ x y,zcv (ws.foldl (zpk g) M).2 x y=true↔zcv M.2 x y=true∨By g ws true x y)
 | [],_,M,h0,h1=>⟨⟨h0,fun x y=>by simp [By]⟩,⟨h1,fun x y=>by simp [By]⟩⟩
 | w::ws,hws,M,h0,h1=>by
  obtain ⟨r1,r2⟩:=zg0 hrm (hws w (by simp))
  rw [List.foldl_cons]
  cases hlv:w.level with
  | false =>
   obtain ⟨k1,k2⟩:=zvw r2 r1 h0
   have e:zpk g M w=(relW M.1 (zbl g w).1 (zbl g w).2,M.2):=by unfold zpk; rw [hlv]; rfl
   rw [e]
   obtain ⟨⟨a1,a2⟩,⟨b1,b2⟩⟩:=zvk hrm ws (fun w hw=>hws w (by simp [hw])) (M:=(relW M.1 (zbl g w).1 (zbl g w).2,M.2)) k1 h1
   refine ⟨⟨a1,fun x y=>?_⟩,⟨b1,fun x y=>?_⟩⟩
   ·rw [a2,k2,By.cons,hlv]; simp only[true_and,or_assoc]
   rw [b2,By.cons,hlv]; simp
  | true =>
   obtain ⟨k1,k2⟩:=zvw r2 r1 h1
   have e:zpk g M w=(M.1,relW M.2 (zbl g w).1 (zbl g w).2):=by unfold zpk; rw [hlv]; rfl
   rw [e]
   obtain ⟨⟨a1,a2⟩,⟨b1,b2⟩⟩:=zvk hrm ws (fun w hw=>hws w (by simp [hw])) (M:=(M.1,relW M.2 (zbl g w).1 (zbl g w).2)) h0 k1
   refine ⟨⟨a1,fun x y=>?_⟩,⟨b1,fun x y=>?_⟩⟩
   ·rw [a2,By.cons,hlv]; simp
   rw [b2,k2,By.cons,hlv]; simp only[true_and,or_assoc]
theorem zxh {x y:Nat}:zcv (zcb n) x y=false:=by
 unfold zcv zcb
 rw [List.getElem?_replicate]
 split
 ·rw [Option.getD_some,List.getElem?_replicate]; split <;> rfl
 rfl
def cn (g:List (List Int)) (i j:Nat):Nat:=(gz g i j).toNat
theorem z0b.ne {g:List (List Int)} {nh nw:Nat} (h:z0b g nh nw n) {i j i' j':Nat} (h1:i<nh) (h2:j<nw) (h3:i'<nh) (h4:j'<nw):gz g i j≠gz g i' j'↔cn g i j≠cn g i' j':=by
 have a:=h i j h1 h2
 have b:=h i' j' h3 h4
 unfold cn
 omega
theorem zzn {g:List (List Int)} {level:Bool} {line fr long j:Nat} (h1:fr≤j) (h2:j<fr+long):(zbx g level line j).1∈(zbl g ⟨level,line,fr,long⟩).1:=by
 simp only[zbl,Int.toNat_natCast]
 rw [znv]
 simp only[zbv,List.mem_map,List.mem_range]
 exact ⟨j - fr,by omega,by rw [show fr+(j - fr)=j by omega]⟩
theorem zzo {g:List (List Int)} {level:Bool} {line fr long j:Nat} (h1:fr≤j) (h2:j<fr+long):(zbx g level line j).2∈(zbl g ⟨level,line,fr,long⟩).2:=by
 simp only[zbl,Int.toNat_natCast]
 rw [znv]
 simp only[zbv,List.mem_map,List.mem_range]
 exact ⟨j - fr,by omega,by rw [show fr+(j - fr)=j by omega]⟩
theorem z4q {g:List (List Int)} {level:Bool} {line fr long:Nat} {x:Int} (h:x∈(zbl g ⟨level,line,fr,long⟩).1):∃ j,fr≤j∧j<fr+long∧x=(zbx g level line j).1:=by
 simp only[zbl,Int.toNat_natCast]at h
 rw [znv]at h
 simp only[zbv,List.mem_map,List.mem_range]at h
 obtain ⟨j,hj,rfl⟩:=h
 exact ⟨fr+j,by omega,by omega,rfl⟩
theorem z4r {g:List (List Int)} {level:Bool} {line fr long:Nat} {x:Int} (h:x∈(zbl g ⟨level,line,fr,long⟩).2):∃ j,fr≤j∧j<fr+long∧x=(zbx g level line j).2:=by
 simp only[zbl,Int.toNat_natCast]at h
 rw [znv]at h
 simp only[zbv,List.mem_map,List.mem_range]at h
 obtain ⟨j,hj,rfl⟩:=h
 exact ⟨fr+j,by omega,by omega,rfl⟩
theorem ygz {g:List (List Int)} {nh nw:Nat} (h:z0b g nh nw n) {x y:Nat}:By g (zau g nh nw) false x y↔DL (cn g) nh nw x y:=by
 constructor
 ·rintro ⟨w,hw,hlv,⟨a,ha,rfl⟩,b,hb,rfl⟩
  obtain ⟨line,fr,long,he,hl,hin⟩:=zdp w hw
  rw [hlv]at he hin
  subst he
  obtain ⟨j1,p1,p2,rfl⟩:=z4q ha
  obtain ⟨j2,q1,q2,rfl⟩:=z4r hb
  have i1:=(hin j1 p1 p2).1
  have i2:=(hin j2 q1 q2).1
  unfold InL at i1 i2
  simp only[qF,if_false]at i1 i2
  obtain ⟨L,rfl⟩:∃ L,line=L+1:=⟨line - 1,by omega⟩
  refine ⟨L,j1,j2,i1.2.1,i1.2.2,i2.2.2,fun r r1 r2=>?_,?_,?_⟩
  ·have hr:=hin r (by omega) (by omega)
   have hr1:=hr.1
   unfold InL at hr1
   simp only[qF,if_false]at hr1
   have hr2:=hr.2
   unfold zh0 zbx at hr2
   simp only[qF,if_false,decide_eq_true_eq,Nat.add_sub_cancel]at hr2
   exact (h.ne hr1.2.2 (by omega) hr1.2.2 hr1.2.1).1 hr2
  ·simp [zbx,cn]
  simp [zbx,cn]
 rintro ⟨L,i1,i2,h1,h2,h3,run,rfl,rfl⟩
 have hrun:Run g false (L+1) (min i1 i2) (max i1 i2):=by
  intro r r1 r2
  have:=run r r1 r2
  rw [← h.ne (by omega) (by omega) (by omega) h1]at this
  unfold zh0 zbx
  simpa using this
 obtain ⟨w,hw,w1,w2,w3,w4⟩:=zud (g:=g) (H:=nh) (W:=nw) (level:=false) (line:=L+1) (by omega) (by simpa using h1) (by omega) (by simp only[qF,if_false]; omega) hrun
 obtain ⟨line,fr,long,he,hl,hin⟩:=zdp w hw
 rw [w1]at he
 subst he
 simp only at w2 w3 w4
 obtain rfl:line=L+1:=by omega
 refine ⟨_,hw,rfl,⟨_,zzn (j:=i1) (by omega) (by omega),?_⟩,_,zzo (j:=i2) (by omega) (by omega),?_⟩
 ·simp [zbx,cn]
 simp [zbx,cn]
theorem yc0 {g:List (List Int)} {nh nw:Nat} (h:z0b g nh nw n) {x y:Nat}:By g (zau g nh nw) true x y↔DU (cn g) nh nw x y:=by
 constructor
 ·rintro ⟨w,hw,hlv,⟨a,ha,rfl⟩,b,hb,rfl⟩
  obtain ⟨line,fr,long,he,hl,hin⟩:=zdp w hw
  rw [hlv]at he hin
  subst he
  obtain ⟨j1,p1,p2,rfl⟩:=z4q ha
  obtain ⟨j2,q1,q2,rfl⟩:=z4r hb
  have i1:=(hin j1 p1 p2).1
  have i2:=(hin j2 q1 q2).1
  unfold InL at i1 i2
  simp only[if_true]at i1 i2
  obtain ⟨L,rfl⟩:∃ L,line=L+1:=⟨line - 1,by omega⟩
  refine ⟨L,j1,j2,i1.2.1,i1.2.2,i2.2.2,fun r r1 r2=>?_,?_,?_⟩
  ·have hr:=hin r (by omega) (by omega)
   have hr1:=hr.1
   unfold InL at hr1
   simp only[if_true]at hr1
   have hr2:=hr.2
   unfold zh0 zbx at hr2
   simp only[if_true,decide_eq_true_eq,Nat.add_sub_cancel]at hr2
   exact (h.ne (by omega) hr1.2.2 hr1.2.1 hr1.2.2).1 hr2
  ·simp [zbx,cn]
  simp [zbx,cn]
 rintro ⟨L,i1,i2,h1,h2,h3,run,rfl,rfl⟩
 have hrun:Run g true (L+1) (min i1 i2) (max i1 i2):=by
  intro r r1 r2
  have:=run r r1 r2
  rw [← h.ne (by omega) (by omega) h1 (by omega)]at this
  unfold zh0 zbx
  simpa using this
 obtain ⟨w,hw,w1,w2,w3,w4⟩:=zud (g:=g) (H:=nh) (W:=nw) (level:=true) (line:=L+1) (by omega) (by simpa using h1) (by omega) (by simp only[if_true]; omega) hrun
 obtain ⟨line,fr,long,he,hl,hin⟩:=zdp w hw
 rw [w1]at he
 subst he
 simp only at w2 w3 w4
 obtain rfl:line=L+1:=by omega
 refine ⟨_,hw,rfl,⟨_,zzn (j:=i1) (by omega) (by omega),?_⟩,_,zzo (j:=i2) (by omega) (by omega),?_⟩
 ·simp [zbx,cn]
 simp [zbx,cn]
theorem zlu {g:List (List Int)} {nh nw:Nat} (h:z0b g nh nw n) {i j:Nat} (hi:i<nh) (hj:j<nw):cn g i j<n:=by
 have:=h i j hi hj
 unfold cn; omega
theorem yhp {g:List (List Int)} {nh nw:Nat} (h:z0b g nh nw n) {a b:Nat} (ha:a<n) (hb:b<n):zcv (z1f g nh nw n) a b=true↔TC (DL (cn g) nh nw) a b:=by
 obtain ⟨⟨k1,k2⟩,-⟩:=zvk h (zau g nh nw) zdp (M:=(zcb n,zcb n)) (ze4 n) (ze4 n)
 have hd:∀ x y,zcv (yd5 g nh nw n).1 x y=true↔DL (cn g) nh nw x y:=fun x y=>by
  unfold yd5; rw [k2,ygz h]; simp [zxh]
 unfold z1f
 have k3:Sq n (yd5 g nh nw n).1:=k1
 rw [z2q k3 ha hb]
 constructor
 ·exact TC.mono fun x y q=>(hd x y).1 q.2.2
 refine TC.mono fun x y q=>⟨?_,?_,(hd x y).2 q⟩
 ·obtain ⟨j,i1,i2,q1,q2,q3,-,rfl,-⟩:=q
  exact zlu h q2 (by omega)
 obtain ⟨j,i1,i2,q1,q2,q3,-,-,rfl⟩:=q
 exact zlu h q3 q1
theorem ycp {g:List (List Int)} {nh nw:Nat} (h:z0b g nh nw n) {a b:Nat} (ha:a<n) (hb:b<n):zcv (zp1 g nh nw n) a b=true↔TC (DU (cn g) nh nw) a b:=by
 obtain ⟨-,⟨k1,k2⟩⟩:=zvk h (zau g nh nw) zdp (M:=(zcb n,zcb n)) (ze4 n) (ze4 n)
 have hd:∀ x y,zcv (yd5 g nh nw n).2 x y=true↔DU (cn g) nh nw x y:=fun x y=>by
  unfold yd5; rw [k2,yc0 h]; simp [zxh]
 unfold zp1
 have k3:Sq n (yd5 g nh nw n).2:=k1
 rw [z2q k3 ha hb]
 constructor
 ·exact TC.mono fun x y q=>(hd x y).1 q.2.2
 refine TC.mono fun x y q=>⟨?_,?_,(hd x y).2 q⟩
 ·obtain ⟨j,i1,i2,q1,q2,q3,-,rfl,-⟩:=q
  exact zlu h (by omega) q2
 obtain ⟨j,i1,i2,q1,q2,q3,-,-,rfl⟩:=q
 exact zlu h q1 q3
end
end
end Fw
end Go.Proofs.YtbbphnladjdllaaGreat
