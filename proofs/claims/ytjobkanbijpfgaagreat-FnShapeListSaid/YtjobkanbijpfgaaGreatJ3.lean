/- Parts of the framework and of the proof: The numbering of rooms by the program, gone through; The numbering of all rooms of a grid; Grids of the program, gone through; A plan of a grid, as the program finds it; Plans of the program, gone through; Plans that are read, in plain words; Reading plans, gone through; The two closures of relations are the same; The heaviest sums and the least sizes are the same; The program's walls and orders are the specification's; The program's direct orders are the specification's; Sums and counts of cells; The least rectangle around cells, by the program; The least rectangle around a room and its cells, by the specification; Plans that are read are the specification's: grids and names; Plans that are read are the specification's: numbers of rooms and rectangles; Plans that are read are the specification's: rooms fill their rectangles; Areas by the program are the specification's; Areas by the program are the specification's, joined; Arguments of laws as plain data; A slice of bytes as an argument: plain data; Sizes by the program, gone through; Sizes, gone through; the small functions of the statements; Heaviest sums, gone through; Where rooms begin and how far they may be moved: the program's lists are the specification's; Marks, gone through; Places and slack by the specification, gone through; Shapes in plain words: the program's least shapes are the specification's; Shapes by the specification, gone through; Best shapes by the specification, gone through; A relation the other way round, place by place; Places and slack by the program, gone through; Shapes by the program, gone through; Best shapes: stairs of shapes; the program's and the specification's are the same; The order of shapes, gone through; slices.SortFunc on shapes: the kit's contract laid at this program; slices.SortFunc on shapes, in the framework's words. -/
import Derived.Test.YtjobkanbijpfgaaGreatJ2
import Derived.Test.YtjobkanbijpfgaaGreatRows
import Derived.ProofKit
import Derived.SliceStrings
import Derived.Shelf.SlSortCmp.WholeK
import Derived.Ground.SlsfProg
import Derived.Test.YtjobkanbijpfgaaGreatProg
set_option linter.all false
namespace Go.Proofs.YtjobkanbijpfgaaGreat
namespace Fw
open Go
open Nat renaming reduceEqDiff → qE, reduceLeDiff → qL, reduceAdd → qA, reduceMul → qM, le_refl → qR
open List renaming append_nil → qN, mapM_append → qP, mapM_cons → qC, mapM_map → qU, range_succ → qS, take_of_length_le → qT
open Bool renaming and_eq_true → qB, false_eq_true → qF
open Option renaming map_some → qO, map_eq_some_iff → qI
open Int renaming reduceToNat → qZ
theorem zx9 {z:Int}:TK.keyed tab 3 (.int .i64 z)=true:=by simp only[TK.keyed,zaa]; rfl
theorem zsm {g d:List (List Int)} {y:List Int} {row ks:List Int} {rs:List Rect} {z:Int} {r c w m xv yv vq t:Nat} (hr:r<6) (hc:c<6) (hrow:g[r]?=some row) (hz:row[c]?=some z) (hs:zs6 ks rs) (hk:ks.length≤64) (hin:¬ ks.idxOf z=ks.length):Ev Tryz.prog 152 [.int .i64 (r:Nat),.int .i64 (c:Nat),.ref 5 5 0,.ref 0 0 0,.ref 3 3 0] ⟨[.arr 0 98 1 [ze1 g],.arr 1 3 1 [.int .i64 w],.arr 2 101 2 [.nils,.loc 8 vq 0 (rs).length],.arr 3 49 1 [.ref 2 2 0],.map 4 (mE ks),.arr 5 170 1 [.mp 4 4],.arr xv 24 1 (gcs d (.loc 7 yv 0 w) m),.arr yv 3 1 (y.map (.int .i64)),.arr vq 55 4 (rcs rs)],t⟩ fun v S=>v = .int .i64 ((ks.idxOf z:Nat):Int)∧∃ vq t:Nat,S=⟨[.arr 0 98 1 [ze1 g],.arr 1 3 1 [.int .i64 w],.arr 2 101 2 [.nils,.loc 8 vq 0 ((zqk ks rs z (zhn r c))).length],.arr 3 49 1 [.ref 2 2 0],.map 4 (mE (zi4 ks z)),.arr 5 170 1 [.mp 4 4],.arr xv 24 1 (gcs d (.loc 7 yv 0 w) m),.arr yv 3 1 (y.map (.int .i64)),.arr vq 55 4 (rcs (zqk ks rs z (zhn r c)))],t⟩:=by
 have hrl:=zcq hrow
 have hcl:=zcq hz
 have hgl:g.length=g.length:=rfl
 obtain ⟨hi1,hi2,b,hb,hbf⟩:=hs.in_ (z:=z) (zfq hr hc)
 have hil:=zic (ks:=ks) (z:=z)
 have hsl:=hs.1
 have hst:=hs.step (z:=z) (zfq hr hc)
 have hfs:=zx0 hin
 have hki:zi4 ks z=ks:=by simp [zi4,hin]
 have hri:zjz ks rs z (zhn r c)=rs:=by simp [zjz,hin]
 refine Ev.of ⟨Tryz.func152,by kernel_rfl,rfl,by kernel_rfl⟩ zbl mixed (by show 5≤Tryz.f152.ntmps; decide) ?_
 refine W.r fun K hK=>?_
 simp(disch:=omega)only[↓RU,RV,RH,↓reduceIte,qE,reduceCtorEq,if_pos,↓RS,RG,qA,qM,qL]
 apply hK;clear hK K
 refine W.seq_draw (by kernel_rfl) fun K hK=>?_
 simp(disch:=omega)only[↓RU,RV,RH,↓reduceIte,qE,reduceCtorEq,if_pos,↓RS,RG,qA,qM,qL,ty1,zab,zdc,zaa,yez,hrow,hz,zyh,hfs]
 apply hK;clear hK K
 refine W.joinS [0,1,2,3,4,8] (fun vs S=>∃ vq t:Nat,vs=[.int .i64 (r:Nat),.int .i64 (c:Nat),.ref 5 5 0,.ref 0 0 0,.ref 3 3 0,.int .i64 ((ks.idxOf z:Nat):Int)]∧S=⟨[.arr 0 98 1 [ze1 g],.arr 1 3 1 [.int .i64 w],.arr 2 101 2 [.nils,.loc 8 vq 0 ((zjz ks rs z (zhn r c))).length],.arr 3 49 1 [.ref 2 2 0],.map 4 (mE (zi4 ks z)),.arr 5 170 1 [.mp 4 4],.arr xv 24 1 (gcs d (.loc 7 yv 0 w) m),.arr yv 3 1 (y.map (.int .i64)),.arr vq 55 4 (rcs (zjz ks rs z (zhn r c)))],t⟩) ?_ ?_
 ·
  refine W.r fun K hK=>?_
  simp(disch:=omega)only[↓RU,RV,RH,↓reduceIte,qE,reduceCtorEq,if_pos,↓RS,RG,qA,qM,qL]
  apply hK;clear hK K
  refine W.cond rfl (fun h=>?_) (fun h=>?_)
  ·try simp only[RL]at h
   exact absurd h (by simp)
  try simp only[RL]at h
  refine W.skip ?_
  refine xn ?_
  refine ⟨9,[],[.int .i64 (r:Nat),.int .i64 (c:Nat),.ref 5 5 0,.ref 0 0 0,.ref 3 3 0,.int .i64 ((ks.idxOf z:Nat):Int)],⟨[.arr 0 98 1 [ze1 g],.arr 1 3 1 [.int .i64 w],.arr 2 101 2 [.nils,.loc 8 vq 0 ((zjz ks rs z (zhn r c))).length],.arr 3 49 1 [.ref 2 2 0],.map 4 (mE (zi4 ks z)),.arr 5 170 1 [.mp 4 4],.arr xv 24 1 (gcs d (.loc 7 yv 0 w) m),.arr yv 3 1 (y.map (.int .i64)),.arr vq 55 4 (rcs (zjz ks rs z (zhn r c)))],(t+1)⟩,?_,?_,vq,t+1,rfl,rfl⟩
  ·simp [-qU,Env.put,Env.of,zad,za3,zac,zae,zai,zak,za8,za9,zbz,za7,zaq,zba,zby,zb0,zas,zar,zal,za6,zbb,zbx,zao,zan,zaj,zap,za5,zc5,qS,qP,qC]
  rw [hki,hri]; simp [-qU,Env.put,Env.of,zad,za3,zac,zae,zai,zak,za8,za9,zbz,za7,zaq,zba,zby,zb0,zas,zar,zal,za6,zbb,zbx,zao,zan,zaj,zap,za5,zc5,qS,qP,qC,z1h,zpm,zga,zzl]
 rintro vs S - ⟨vq,t,rfl,rfl⟩
 have hrs2:=z1o hb
 generalize hks1:zi4 ks z=ks1 at hi1 hst
 generalize hrs1:zjz ks rs z (zhn r c)=rs1 at hb hi1 hi2 hrs2
 have hbl:=zcq hb
 refine W.seq_draw (by kernel_rfl) fun K hK=>?_
 have hcell:=(zdy (r:=r) (c:=c)).symm
 have hba:PV.agg b.cells=zsx b:=rfl
 simp(disch:=omega)only[↓RU,RV,RH,↓reduceIte,qE,reduceCtorEq,if_pos,qN,↓RS,RG,qA,qM,qL,ty1,ty3,zab,ty8,zej,zdc,zbt,zaa,zek,zbu,zlp hb,zb4,← zdy,hcell,zb1,zb6,zk1]
 refine zaf.pc (zls (b:=b) (o:=zhn r c) hbf.in_ (zfq hr hc).in_) rfl (.inl rfl) ?_
 simp(disch:=omega)only[↓RU,RV,RH,↓reduceIte,qE,reduceCtorEq,if_pos,qN,↓RS,RG,qA,qM,qL,ty1,ty3,zab,ty8,zej,zdc,zbt,zaa,zek,zbu,zlp hb,zb4,← zdy,hcell,zb1,zb6,zk1]
 apply hK;clear hK K
 refine W.r fun K hK=>?_
 simp(disch:=omega)only[↓RU,RV,RH,↓reduceIte,qE,reduceCtorEq,if_pos,↓RS,RG,qA,qM,qL]
 apply hK;clear hK K
 refine W.ret ?_
 refine Br rfl ?_
 refine ⟨9,rfl,vq,t,?_⟩
 rw [hrs2]
 simp [zcm]
theorem zot {g d:List (List Int)} {y:List Int} {row ks:List Int} {rs:List Rect} {z:Int} {r c w m xv yv vq t:Nat} (hr:r<6) (hc:c<6) (hrow:g[r]?=some row) (hz:row[c]?=some z) (hs:zs6 ks rs) (hk:ks.length≤64) (hn:rs=[]) (hn2:ks=[]):Ev Tryz.prog 152 [.int .i64 (r:Nat),.int .i64 (c:Nat),.ref 5 5 0,.ref 0 0 0,.ref 3 3 0] ⟨[.arr 0 98 1 [ze1 g],.arr 1 3 1 [.int .i64 w],.arr 2 101 2 [.nils,.nils],.arr 3 49 1 [.ref 2 2 0],.map 4 (mE ks),.arr 5 170 1 [.mp 4 4],.arr xv 24 1 (gcs d (.loc 7 yv 0 w) m),.arr yv 3 1 (y.map (.int .i64))],t⟩ fun v S=>v = .int .i64 ((ks.idxOf z:Nat):Int)∧∃ vq t:Nat,S=⟨[.arr 0 98 1 [ze1 g],.arr 1 3 1 [.int .i64 w],.arr 2 101 2 [.nils,.loc 8 vq 0 ((zqk ks rs z (zhn r c))).length],.arr 3 49 1 [.ref 2 2 0],.map 4 (mE (zi4 ks z)),.arr 5 170 1 [.mp 4 4],.arr xv 24 1 (gcs d (.loc 7 yv 0 w) m),.arr yv 3 1 (y.map (.int .i64)),.arr vq 55 4 (rcs (zqk ks rs z (zhn r c)))],t⟩:=by
 have hin:ks.idxOf z=ks.length:=by rw [hn2]; rfl
 have hrl:=zcq hrow
 have hcl:=zcq hz
 have hgl:g.length=g.length:=rfl
 obtain ⟨hi1,hi2,b,hb,hbf⟩:=hs.in_ (z:=z) (zfq hr hc)
 have hil:=zic (ks:=ks) (z:=z)
 have hsl:=hs.1
 have hst:=hs.step (z:=z) (zfq hr hc)
 have hfn:=zo8 hin
 have hki:zi4 ks z=ks++[z]:=by simp [zi4,hin]
 have hri:zjz ks rs z (zhn r c)=rs++[zhn r c]:=by simp [zjz,hin]
 refine Ev.of ⟨Tryz.func152,by kernel_rfl,rfl,by kernel_rfl⟩ zbl mixed (by show 5≤Tryz.f152.ntmps; decide) ?_
 refine W.r fun K hK=>?_
 simp(disch:=omega)only[↓RU,RV,RH,↓reduceIte,qE,reduceCtorEq,if_pos,↓RS,RG,qA,qM,qL]
 apply hK;clear hK K
 refine W.seq_draw (by kernel_rfl) fun K hK=>?_
 simp(disch:=omega)only[↓RU,RV,RH,↓reduceIte,qE,reduceCtorEq,if_pos,↓RS,RG,qA,qM,qL,ty1,zab,zdc,zaa,yez,hrow,hz,zyh,hfn]
 apply hK;clear hK K
 refine W.joinS [0,1,2,3,4,8] (fun vs S=>∃ vq t:Nat,vs=[.int .i64 (r:Nat),.int .i64 (c:Nat),.ref 5 5 0,.ref 0 0 0,.ref 3 3 0,.int .i64 ((ks.idxOf z:Nat):Int)]∧S=⟨[.arr 0 98 1 [ze1 g],.arr 1 3 1 [.int .i64 w],.arr 2 101 2 [.nils,.loc 8 vq 0 ((zjz ks rs z (zhn r c))).length],.arr 3 49 1 [.ref 2 2 0],.map 4 (mE (zi4 ks z)),.arr 5 170 1 [.mp 4 4],.arr xv 24 1 (gcs d (.loc 7 yv 0 w) m),.arr yv 3 1 (y.map (.int .i64)),.arr vq 55 4 (rcs (zjz ks rs z (zhn r c)))],t⟩) ?_ ?_
 ·
  refine W.r fun K hK=>?_
  simp(disch:=omega)only[↓RU,RV,RH,↓reduceIte,qE,reduceCtorEq,if_pos,↓RS,RG,qA,qM,qL]
  apply hK;clear hK K
  refine W.cond rfl (fun h=>?_) (fun h=>?_)
  ·try simp only[RL]at h
   refine W.r fun K hK=>?_
   simp(disch:=omega)only[↓RU,RV,RH,↓reduceIte,qE,reduceCtorEq,if_pos,↓RS,RG,qA,qM,qL,zaa,yez,zyh]
   apply hK;clear hK K
   refine W.seq_draw (by kernel_rfl) fun K hK=>?_
   simp(disch:=omega)only[↓RU,RV,RH,↓reduceIte,qE,reduceCtorEq,if_pos,↓RS,RG,qA,qM,qL,ty1,zab,zdc,zaa,yez,hrow,hz,hfn,zx9]
   apply hK;clear hK K
   refine W.region_pk 10 [some 35,some 36,some 37,some 38,some 39] [2,3] (by decide) (by kernel_rfl) fun K hK=>?_
   simp only[List.take_succ_cons,List.take_zero,List.drop_succ_cons,List.drop_zero]
   refine zbk (.ref 2 2 0) rfl rfl rfl (fun S' hS=>?_) ?_
   ·skip
    have k2:=(hS 2 (by decide)).trans (show _=some _ from rfl)
    have k3:=(hS 3 (by decide)).trans (show _=some _ from rfl)
    simp(disch:=omega)only[↓RU,RV,RH,↓reduceIte,qE,reduceCtorEq,if_pos,↓RS,RG,qA,qM,qL,ty1,ty3,zab,ty8,zej,zdc,zbt,zaa,zek,zbu,zb4,zb1,zb6,zcf,zc9,zee,zef,k2,k3]
   refine zbk (.ref 2 2 0) rfl rfl rfl (fun S' hS=>?_) ?_
   ·skip
    have k2:=(hS 2 (by decide)).trans (show _=some _ from rfl)
    have k3:=(hS 3 (by decide)).trans (show _=some _ from rfl)
    simp(disch:=omega)only[↓RU,RV,RH,↓reduceIte,qE,reduceCtorEq,if_pos,↓RS,RG,qA,qM,qL,ty1,ty3,zab,ty8,zej,zdc,zbt,zaa,zek,zbu,zb4,zb1,zb6,zcf,zc9,zee,zef,k2,k3]
   refine zbk (.ref 2 2 0) rfl rfl rfl (fun S' hS=>?_) ?_
   ·skip
    have k2:=(hS 2 (by decide)).trans (show _=some _ from rfl)
    have k3:=(hS 3 (by decide)).trans (show _=some _ from rfl)
    simp(disch:=omega)only[↓RU,RV,RH,↓reduceIte,qE,reduceCtorEq,if_pos,↓RS,RG,qA,qM,qL,ty1,ty3,zab,ty8,zej,zdc,zbt,zaa,zek,zbu,zb4,zb1,zb6,zcf,zc9,zee,zef,k2,k3]
   refine zbk (.ref 2 2 1) rfl rfl rfl (fun S' hS=>?_) ?_
   ·skip
    have k2:=(hS 2 (by decide)).trans (show _=some _ from rfl)
    have k3:=(hS 3 (by decide)).trans (show _=some _ from rfl)
    simp(disch:=omega)only[↓RU,RV,RH,↓reduceIte,qE,reduceCtorEq,if_pos,↓RS,RG,qA,qM,qL,ty1,ty3,zab,ty8,zej,zdc,zbt,zaa,zek,zbu,zb4,zb1,zb6,zcf,zc9,zee,zef,k2,k3]
   refine zbk (.nils) rfl rfl rfl (fun S' hS=>?_) ?_
   ·skip
    have k2:=(hS 2 (by decide)).trans (show _=some _ from rfl)
    have k3:=(hS 3 (by decide)).trans (show _=some _ from rfl)
    simp(disch:=omega)only[↓RU,RV,RH,↓reduceIte,qE,reduceCtorEq,if_pos,↓RS,RG,qA,qM,qL,ty1,ty3,zab,ty8,zej,zdc,zbt,zaa,zek,zbu,zb4,zb1,zb6,zcf,zc9,zee,zef,k2,k3]
   refine zbv rfl ?_
   simp(disch:=omega)only[↓RU,RV,RH,↓reduceIte,qE,reduceCtorEq,if_pos,↓RS,RG,qA,qM,qL,ty1,ty3,zab,ty8,zej,zdc,zbt,zaa,zek,zbu,zb4,zb1,zb6,za4,zbj]
   refine zbv rfl ?_
   simp(disch:=omega)only[↓RU,RV,RH,↓reduceIte,qE,reduceCtorEq,if_pos,↓RS,RG,qA,qM,qL,ty1,ty3,zab,ty8,zej,zdc,zbt,zaa,zek,zbu,zb4,zb1,zb6,za4,zbj]
   refine zbv rfl ?_
   simp(disch:=omega)only[↓RU,RV,RH,↓reduceIte,qE,reduceCtorEq,if_pos,↓RS,RG,qA,qM,qL,ty1,ty3,zab,ty8,zej,zdc,zbt,zaa,zek,zbu,zb4,zb1,zb6,za4,zbj]
   refine zbv rfl ?_
   simp(disch:=omega)only[↓RU,RV,RH,↓reduceIte,qE,reduceCtorEq,if_pos,↓RS,RG,qA,qM,qL,ty1,ty3,zab,ty8,zej,zdc,zbt,zaa,zek,zbu,zb4,zb1,zb6,za4,zbj]
   refine zbv rfl ?_
   simp(disch:=omega)only[↓RU,RV,RH,↓reduceIte,qE,reduceCtorEq,if_pos,↓RS,RG,qA,qM,qL,ty1,ty3,zab,ty8,zej,zdc,zbt,zaa,zek,zbu,zb4,zb1,zb6,za4,zbj]
   refine zgl ?_
   simp(disch:=omega)only[↓RU,RV,RH,↓reduceIte,qE,reduceCtorEq,if_pos,↓RS,RG,qA,qM,qL,ty1,ty3,zab,ty8,zej,zdc,zbt,zaa,zek,zbu,zb4,zb1,zb6]
   apply hK;clear hK K
   refine xn ?_
   refine ⟨8,[9],[.int .i64 (r:Nat),.int .i64 (c:Nat),.ref 5 5 0,.ref 0 0 0,.ref 3 3 0,.int .i64 ((ks.idxOf z:Nat):Int)],⟨[.arr 0 98 1 [ze1 g],.arr 1 3 1 [.int .i64 w],.arr 2 101 2 [.nils,.loc 8 (t+2) 0 ((zjz ks rs z (zhn r c))).length],.arr 3 49 1 [.ref 2 2 0],.map 4 (mE (zi4 ks z)),.arr 5 170 1 [.mp 4 4],.arr xv 24 1 (gcs d (.loc 7 yv 0 w) m),.arr yv 3 1 (y.map (.int .i64)),.arr (t+2) 55 4 (rcs (zjz ks rs z (zhn r c)))],(t+3)⟩,?_,?_,(t+2),(t+3),rfl,rfl⟩
   ·rw [hin]; simp [-qU,Env.put,Env.of,zad,za3,zac,zae,zai,zak,za8,za9,zbz,za7,zaq,zba,zby,zb0,zas,zar,zal,za6,zbb,zbx,zao,zan,zaj,zap,za5,zc5,qS,qP,qC]
   rw [hki,hri,hn]; simp [-qU,Env.put,Env.of,zad,za3,zac,zae,zai,zak,za8,za9,zbz,za7,zaq,zba,zby,zb0,zas,zar,zal,za6,zbb,zbx,zao,zan,zaj,zap,za5,zc5,qS,qP,qC,z1h,zpm,zga,zzl,yei,zv9,z9y,zdy,yen]
  try simp only[RL]at h
  exact absurd h (by simp)
 rintro vs S - ⟨vq,t,rfl,rfl⟩
 have hrs2:=z1o hb
 generalize hks1:zi4 ks z=ks1 at hi1 hst
 generalize hrs1:zjz ks rs z (zhn r c)=rs1 at hb hi1 hi2 hrs2
 have hbl:=zcq hb
 refine W.seq_draw (by kernel_rfl) fun K hK=>?_
 have hcell:=(zdy (r:=r) (c:=c)).symm
 have hba:PV.agg b.cells=zsx b:=rfl
 simp(disch:=omega)only[↓RU,RV,RH,↓reduceIte,qE,reduceCtorEq,if_pos,qN,↓RS,RG,qA,qM,qL,ty1,ty3,zab,ty8,zej,zdc,zbt,zaa,zek,zbu,zlp hb,zb4,← zdy,hcell,zb1,zb6,zk1]
 refine zaf.pc (zls (b:=b) (o:=zhn r c) hbf.in_ (zfq hr hc).in_) rfl (.inl rfl) ?_
 simp(disch:=omega)only[↓RU,RV,RH,↓reduceIte,qE,reduceCtorEq,if_pos,qN,↓RS,RG,qA,qM,qL,ty1,ty3,zab,ty8,zej,zdc,zbt,zaa,zek,zbu,zlp hb,zb4,← zdy,hcell,zb1,zb6,zk1]
 apply hK;clear hK K
 refine W.r fun K hK=>?_
 simp(disch:=omega)only[↓RU,RV,RH,↓reduceIte,qE,reduceCtorEq,if_pos,↓RS,RG,qA,qM,qL]
 apply hK;clear hK K
 refine W.ret ?_
 refine Br rfl ?_
 refine ⟨9,rfl,vq,t,?_⟩
 rw [hrs2]
 simp [zcm]
theorem zsl {g d:List (List Int)} {y:List Int} {row ks:List Int} {rs:List Rect} {z:Int} {r c w m xv yv vq t:Nat} (hr:r<6) (hc:c<6) (hrow:g[r]?=some row) (hz:row[c]?=some z) (hs:zs6 ks rs) (hk:ks.length≤64) (hin:ks.idxOf z=ks.length):Ev Tryz.prog 152 [.int .i64 (r:Nat),.int .i64 (c:Nat),.ref 5 5 0,.ref 0 0 0,.ref 3 3 0] ⟨[.arr 0 98 1 [ze1 g],.arr 1 3 1 [.int .i64 w],.arr 2 101 2 [.nils,.loc 8 vq 0 (rs).length],.arr 3 49 1 [.ref 2 2 0],.map 4 (mE ks),.arr 5 170 1 [.mp 4 4],.arr xv 24 1 (gcs d (.loc 7 yv 0 w) m),.arr yv 3 1 (y.map (.int .i64)),.arr vq 55 4 (rcs rs)],t⟩ fun v S=>v = .int .i64 ((ks.idxOf z:Nat):Int)∧∃ vq t:Nat,S=⟨[.arr 0 98 1 [ze1 g],.arr 1 3 1 [.int .i64 w],.arr 2 101 2 [.nils,.loc 8 vq 0 ((zqk ks rs z (zhn r c))).length],.arr 3 49 1 [.ref 2 2 0],.map 4 (mE (zi4 ks z)),.arr 5 170 1 [.mp 4 4],.arr xv 24 1 (gcs d (.loc 7 yv 0 w) m),.arr yv 3 1 (y.map (.int .i64)),.arr vq 55 4 (rcs (zqk ks rs z (zhn r c)))],t⟩:=by
 have hrl:=zcq hrow
 have hcl:=zcq hz
 have hgl:g.length=g.length:=rfl
 obtain ⟨hi1,hi2,b,hb,hbf⟩:=hs.in_ (z:=z) (zfq hr hc)
 have hil:=zic (ks:=ks) (z:=z)
 have hsl:=hs.1
 have hst:=hs.step (z:=z) (zfq hr hc)
 have hfn:=zo8 hin
 have hki:zi4 ks z=ks++[z]:=by simp [zi4,hin]
 have hri:zjz ks rs z (zhn r c)=rs++[zhn r c]:=by simp [zjz,hin]
 refine Ev.of ⟨Tryz.func152,by kernel_rfl,rfl,by kernel_rfl⟩ zbl mixed (by show 5≤Tryz.f152.ntmps; decide) ?_
 refine W.r fun K hK=>?_
 simp(disch:=omega)only[↓RU,RV,RH,↓reduceIte,qE,reduceCtorEq,if_pos,↓RS,RG,qA,qM,qL]
 apply hK;clear hK K
 refine W.seq_draw (by kernel_rfl) fun K hK=>?_
 simp(disch:=omega)only[↓RU,RV,RH,↓reduceIte,qE,reduceCtorEq,if_pos,↓RS,RG,qA,qM,qL,ty1,zab,zdc,zaa,yez,hrow,hz,zyh,hfn]
 apply hK;clear hK K
 refine W.joinS [0,1,2,3,4,8] (fun vs S=>∃ vq t:Nat,vs=[.int .i64 (r:Nat),.int .i64 (c:Nat),.ref 5 5 0,.ref 0 0 0,.ref 3 3 0,.int .i64 ((ks.idxOf z:Nat):Int)]∧S=⟨[.arr 0 98 1 [ze1 g],.arr 1 3 1 [.int .i64 w],.arr 2 101 2 [.nils,.loc 8 vq 0 ((zjz ks rs z (zhn r c))).length],.arr 3 49 1 [.ref 2 2 0],.map 4 (mE (zi4 ks z)),.arr 5 170 1 [.mp 4 4],.arr xv 24 1 (gcs d (.loc 7 yv 0 w) m),.arr yv 3 1 (y.map (.int .i64)),.arr vq 55 4 (rcs (zjz ks rs z (zhn r c)))],t⟩) ?_ ?_
 ·
  refine W.r fun K hK=>?_
  simp(disch:=omega)only[↓RU,RV,RH,↓reduceIte,qE,reduceCtorEq,if_pos,↓RS,RG,qA,qM,qL]
  apply hK;clear hK K
  refine W.cond rfl (fun h=>?_) (fun h=>?_)
  ·try simp only[RL]at h
   refine W.r fun K hK=>?_
   simp(disch:=omega)only[↓RU,RV,RH,↓reduceIte,qE,reduceCtorEq,if_pos,↓RS,RG,qA,qM,qL,zaa,yez,zyh]
   apply hK;clear hK K
   refine W.seq_draw (by kernel_rfl) fun K hK=>?_
   simp(disch:=omega)only[↓RU,RV,RH,↓reduceIte,qE,reduceCtorEq,if_pos,↓RS,RG,qA,qM,qL,ty1,zab,zdc,zaa,yez,hrow,hz,hfn,zx9]
   apply hK;clear hK K
   refine W.region_pk 10 [some 35,some 36,some 37,some 38,some 39] [2,3] (by decide) (by kernel_rfl) fun K hK=>?_
   simp only[List.take_succ_cons,List.take_zero,List.drop_succ_cons,List.drop_zero]
   refine zbk (.ref 2 2 0) rfl rfl rfl (fun S' hS=>?_) ?_
   ·skip
    have k2:=(hS 2 (by decide)).trans (show _=some _ from rfl)
    have k3:=(hS 3 (by decide)).trans (show _=some _ from rfl)
    simp(disch:=omega)only[↓RU,RV,RH,↓reduceIte,qE,reduceCtorEq,if_pos,↓RS,RG,qA,qM,qL,ty1,ty3,zab,ty8,zej,zdc,zbt,zaa,zek,zbu,zb4,zb1,zb6,zcf,zc9,zee,zef,k2,k3]
   refine zbk (.ref 2 2 0) rfl rfl rfl (fun S' hS=>?_) ?_
   ·skip
    have k2:=(hS 2 (by decide)).trans (show _=some _ from rfl)
    have k3:=(hS 3 (by decide)).trans (show _=some _ from rfl)
    simp(disch:=omega)only[↓RU,RV,RH,↓reduceIte,qE,reduceCtorEq,if_pos,↓RS,RG,qA,qM,qL,ty1,ty3,zab,ty8,zej,zdc,zbt,zaa,zek,zbu,zb4,zb1,zb6,zcf,zc9,zee,zef,k2,k3]
   refine zbk (.ref 2 2 0) rfl rfl rfl (fun S' hS=>?_) ?_
   ·skip
    have k2:=(hS 2 (by decide)).trans (show _=some _ from rfl)
    have k3:=(hS 3 (by decide)).trans (show _=some _ from rfl)
    simp(disch:=omega)only[↓RU,RV,RH,↓reduceIte,qE,reduceCtorEq,if_pos,↓RS,RG,qA,qM,qL,ty1,ty3,zab,ty8,zej,zdc,zbt,zaa,zek,zbu,zb4,zb1,zb6,zcf,zc9,zee,zef,k2,k3]
   refine zbk (.ref 2 2 1) rfl rfl rfl (fun S' hS=>?_) ?_
   ·skip
    have k2:=(hS 2 (by decide)).trans (show _=some _ from rfl)
    have k3:=(hS 3 (by decide)).trans (show _=some _ from rfl)
    simp(disch:=omega)only[↓RU,RV,RH,↓reduceIte,qE,reduceCtorEq,if_pos,↓RS,RG,qA,qM,qL,ty1,ty3,zab,ty8,zej,zdc,zbt,zaa,zek,zbu,zb4,zb1,zb6,zcf,zc9,zee,zef,k2,k3]
   refine zbk (.loc 8 vq 0 rs.length) rfl rfl rfl (fun S' hS=>?_) ?_
   ·skip
    have k2:=(hS 2 (by decide)).trans (show _=some _ from rfl)
    have k3:=(hS 3 (by decide)).trans (show _=some _ from rfl)
    simp(disch:=omega)only[↓RU,RV,RH,↓reduceIte,qE,reduceCtorEq,if_pos,↓RS,RG,qA,qM,qL,ty1,ty3,zab,ty8,zej,zdc,zbt,zaa,zek,zbu,zb4,zb1,zb6,zcf,zc9,zee,zef,k2,k3]
   refine zbv rfl ?_
   simp(disch:=omega)only[↓RU,RV,RH,↓reduceIte,qE,reduceCtorEq,if_pos,↓RS,RG,qA,qM,qL,ty1,ty3,zab,ty8,zej,zdc,zbt,zaa,zek,zbu,zb4,zb1,zb6,za4,zbj]
   refine zbv rfl ?_
   simp(disch:=omega)only[↓RU,RV,RH,↓reduceIte,qE,reduceCtorEq,if_pos,↓RS,RG,qA,qM,qL,ty1,ty3,zab,ty8,zej,zdc,zbt,zaa,zek,zbu,zb4,zb1,zb6,za4,zbj]
   refine zbv rfl ?_
   simp(disch:=omega)only[↓RU,RV,RH,↓reduceIte,qE,reduceCtorEq,if_pos,↓RS,RG,qA,qM,qL,ty1,ty3,zab,ty8,zej,zdc,zbt,zaa,zek,zbu,zb4,zb1,zb6,za4,zbj]
   refine zbv rfl ?_
   simp(disch:=omega)only[↓RU,RV,RH,↓reduceIte,qE,reduceCtorEq,if_pos,↓RS,RG,qA,qM,qL,ty1,ty3,zab,ty8,zej,zdc,zbt,zaa,zek,zbu,zb4,zb1,zb6,za4,zbj]
   refine zbv rfl ?_
   simp(disch:=omega)only[↓RU,RV,RH,↓reduceIte,qE,reduceCtorEq,if_pos,↓RS,RG,qA,qM,qL,ty1,ty3,zab,ty8,zej,zdc,zbt,zaa,zek,zbu,zb4,zb1,zb6,za4,zbj]
   refine zgl ?_
   simp(disch:=omega)only[↓RU,RV,RH,↓reduceIte,qE,reduceCtorEq,if_pos,↓RS,RG,qA,qM,qL,ty1,ty3,zab,ty8,zej,zdc,zbt,zaa,zek,zbu,zb4,zb1,zb6]
   apply hK;clear hK K
   refine xn ?_
   refine ⟨9,[],[.int .i64 (r:Nat),.int .i64 (c:Nat),.ref 5 5 0,.ref 0 0 0,.ref 3 3 0,.int .i64 ((ks.idxOf z:Nat):Int)],⟨[.arr 0 98 1 [ze1 g],.arr 1 3 1 [.int .i64 w],.arr 2 101 2 [.nils,.loc 8 (t+1) 0 ((zjz ks rs z (zhn r c))).length],.arr 3 49 1 [.ref 2 2 0],.map 4 (mE (zi4 ks z)),.arr 5 170 1 [.mp 4 4],.arr xv 24 1 (gcs d (.loc 7 yv 0 w) m),.arr yv 3 1 (y.map (.int .i64)),.arr (t+1) 55 4 (rcs (zjz ks rs z (zhn r c)))],(t+3)⟩,?_,?_,(t+1),(t+3),rfl,rfl⟩
   ·rw [hin]; simp [-qU,Env.put,Env.of,zad,za3,zac,zae,zai,zak,za8,za9,zbz,za7,zaq,zba,zby,zb0,zas,zar,zal,za6,zbb,zbx,zao,zan,zaj,zap,za5,zc5,qS,qP,qC]
   rw [hki,hri]; simp [-qU,Env.put,Env.of,zad,za3,zac,zae,zai,zak,za8,za9,zbz,za7,zaq,zba,zby,zb0,zas,zar,zal,za6,zbb,zbx,zao,zan,zaj,zap,za5,zc5,qS,qP,qC,z1h,zpm,zga,zzl,yei,zv9,z9y,zdy,yen]
  try simp only[RL]at h
  exact absurd h (by simp)
 rintro vs S - ⟨vq,t,rfl,rfl⟩
 have hrs2:=z1o hb
 generalize hks1:zi4 ks z=ks1 at hi1 hst
 generalize hrs1:zjz ks rs z (zhn r c)=rs1 at hb hi1 hi2 hrs2
 have hbl:=zcq hb
 refine W.seq_draw (by kernel_rfl) fun K hK=>?_
 have hcell:=(zdy (r:=r) (c:=c)).symm
 have hba:PV.agg b.cells=zsx b:=rfl
 simp(disch:=omega)only[↓RU,RV,RH,↓reduceIte,qE,reduceCtorEq,if_pos,qN,↓RS,RG,qA,qM,qL,ty1,ty3,zab,ty8,zej,zdc,zbt,zaa,zek,zbu,zlp hb,zb4,← zdy,hcell,zb1,zb6,zk1]
 refine zaf.pc (zls (b:=b) (o:=zhn r c) hbf.in_ (zfq hr hc).in_) rfl (.inl rfl) ?_
 simp(disch:=omega)only[↓RU,RV,RH,↓reduceIte,qE,reduceCtorEq,if_pos,qN,↓RS,RG,qA,qM,qL,ty1,ty3,zab,ty8,zej,zdc,zbt,zaa,zek,zbu,zlp hb,zb4,← zdy,hcell,zb1,zb6,zk1]
 apply hK;clear hK K
 refine W.r fun K hK=>?_
 simp(disch:=omega)only[↓RU,RV,RH,↓reduceIte,qE,reduceCtorEq,if_pos,↓RS,RG,qA,qM,qL]
 apply hK;clear hK K
 refine W.ret ?_
 refine Br rfl ?_
 refine ⟨9,rfl,vq,t,?_⟩
 rw [hrs2]
 simp [zcm]
section
def prS (g:List (List Int)) (w:Nat) (rv:PV) (ks:List Int):List Ob:=[.arr 0 98 1 [ze1 g],.arr 1 3 1 [.int .i64 w],.arr 2 101 2 [.nils,rv],.arr 3 49 1 [.ref 2 2 0],.map 4 (mE ks),.arr 5 170 1 [.mp 4 4]]
def seS (g:List (List Int)) (w:Nat) (xv yv:Nat) (x y:List PV) (ks:List Int) (rs:List Rect) (vq t:Nat):Store :=
 match rs with
 | []=>⟨prS g w .nils ks++[.arr xv 24 1 x,.arr yv 3 1 y],t⟩
 | rs=>⟨prS g w (.loc 8 vq 0 rs.length) ks++[.arr xv 24 1 x,.arr yv 3 1 y,.arr vq 55 4 (rcs rs)],t⟩
theorem yam {g:List (List Int)} {w xv yv:Nat} {x y:List PV} {ks:List Int} {vq t:Nat}:seS g w xv yv x y ks [] vq t=⟨prS g w .nils ks++[.arr xv 24 1 x,.arr yv 3 1 y],t⟩:=rfl
theorem z4h {g:List (List Int)} {w xv yv:Nat} {x y:List PV} {ks:List Int} {rs:List Rect} {vq t:Nat} (h:rs≠[]):seS g w xv yv x y ks rs vq t=⟨prS g w (.loc 8 vq 0 rs.length) ks++[.arr xv 24 1 x,.arr yv 3 1 y,.arr vq 55 4 (rcs rs)],t⟩:=by
 cases rs with
 | nil=>exact absurd rfl h
 | cons a l=>rfl
section
variable {g:List (List Int)} {w xv yv:Nat} {x y y2:List PV} {ks:List Int} {rs:List Rect} {vq t:Nat}
theorem zei:(seS g w xv yv x y ks rs vq t).obs[6]?=some (.arr xv 24 1 x):=by cases rs <;> rfl
theorem zfc:(seS g w xv yv x y ks rs vq t).obs[7]?=some (.arr yv 3 1 y):=by cases rs <;> rfl
theorem zh2:(seS g w xv yv x y ks rs vq t).set 7 (.arr yv 3 1 y2)=seS g w xv yv x y2 ks rs vq t:=by cases rs <;> rfl
end
theorem yeo {S:Store} {k f:Nat} {sel:List Nat} {n:Nat} {q:IntKind} {z:Int}:(List.replicate n (PV.int q z)).mapM (rn S k sel (f+1))=some (List.replicate n (PV.int q z)) :=
 zcu fun x hx=>by obtain rfl:=List.eq_of_mem_replicate hx; rfl
theorem yc6 {S:Store} {k f:Nat} {sel:List Nat} {n:Nat}:(List.replicate n PV.nils).mapM (rn S k sel (f+1))=some (List.replicate n PV.nils) :=
 zcu fun x hx=>by obtain rfl:=List.eq_of_mem_replicate hx; rfl
theorem ygi {S:Store} {k f:Nat} {sel:List Nat} {d:List (List Int)} {cur:PV} {m:Nat}:(gcs d cur m).mapM (rn S k sel (f+1))=(rn S k sel (f+1) cur).map fun c=>gcs d c m:=by
 unfold gcs
 rw [qP,zcu (l:=d.map eInts) (fun x hx=>by obtain ⟨a,_,rfl⟩:=List.mem_map.1 hx; rfl),qC,zcu (l:=List.replicate m PV.nils) (fun x hx=>by obtain rfl:=List.eq_of_mem_replicate hx; rfl)]
 cases rn S k sel (f+1) cur <;> rfl
theorem yc4 {S:Store} {fr:Nat→Bool} {f:Nat} {q:IntKind} (l:List Int):(l.map (PV.int q)).mapM (rfq S fr (f+1))=some (l.map (PV.int q)) :=
 zcu fun x hx=>by obtain ⟨a,_,rfl⟩:=List.mem_map.1 hx; rfl
def seO (g:List (List Int)) (w:Nat) (xv:Nat) (x:List PV) (ks:List Int) (rs:List Rect) (vq t:Nat):Store :=
 match rs with
 | []=>⟨prS g w .nils ks++[.arr xv 24 1 x],t⟩
 | rs=>⟨prS g w (.loc 7 vq 0 rs.length) ks++[.arr xv 24 1 x,.arr vq 55 4 (rcs rs)],t⟩
theorem yak {g:List (List Int)} {w xv:Nat} {x:List PV} {ks:List Int} {vq t:Nat}:seO g w xv x ks [] vq t=⟨prS g w .nils ks++[.arr xv 24 1 x],t⟩:=rfl
theorem yaj {g:List (List Int)} {w xv:Nat} {x:List PV} {ks:List Int} {rs:List Rect} {vq t:Nat} (h:rs≠[]):seO g w xv x ks rs vq t=⟨prS g w (.loc 7 vq 0 rs.length) ks++[.arr xv 24 1 x,.arr vq 55 4 (rcs rs)],t⟩:=by
 cases rs with
 | nil=>exact absurd rfl h
 | cons a l=>rfl
def zdz (g:List (List Int)) (i:Nat) (s:List Int × List Rect):Nat→List Int × List Rect
 | 0=>s
 | j+1=>(zi4 (zdz g i s j).1 (gz g i j),zqk (zdz g i s j).1 (zdz g i s j).2 (gz g i j) (zhn i j))
def zbi (g:List (List Int)) (nw:Nat):Nat→List Int × List Rect
 | 0=>([],[])
 | i+1=>zdz g i (zbi g nw i) nw
def zoy (g:List (List Int)) (i:Nat) (s:List Int × List Rect):Nat→List Int
 | 0=>[]
 | j+1=>zoy g i s j++[(((zdz g i s j).1.idxOf (gz g i j):Nat):Int)]
def zfa (g:List (List Int)) (nw:Nat):Nat→List (List Int)
 | 0=>[]
 | i+1=>zfa g nw i++[zoy g i (zbi g nw i) nw]
theorem zfv {g:List (List Int)} {i:Nat} {s:List Int × List Rect}:∀ j,(zoy g i s j).length=j
 | 0=>rfl
 | j+1=>by simp [zoy,zfv j]
theorem ydt {g:List (List Int)} {i nw j:Nat} {s:List Int × List Rect} (h:j<nw):zoy g i s (j+1)++List.replicate (nw - (j+1)) 0=(zoy g i s j++List.replicate (nw - j) 0).set j (((zdz g i s j).1.idxOf (gz g i j):Nat):Int):=by
 obtain ⟨m,hm⟩:∃ m,nw - j=m+1:=⟨nw - j - 1,by omega⟩
 rw [hm,show nw - (j+1)=m by omega,List.set_append_right _ _ (by rw [zfv]; exact qR _),zfv,Nat.sub_self]
 simp [zoy,List.replicate_succ]
theorem zdf {g:List (List Int)} {nw:Nat}:∀ i,(zfa g nw i).length=i
 | 0=>rfl
 | i+1=>by simp [zfa,zdf i]
theorem z4g {ks:List Int} {z:Int}:(zi4 ks z).length≤ks.length+1∧ks.length≤(zi4 ks z).length∧1≤(zi4 ks z).length:=by
 have h:=zic (ks:=ks) (z:=z)
 unfold zi4
 split
 ·simp
 refine ⟨by omega,by omega,?_⟩
 have:ks.idxOf z≠ks.length:=by assumption
 omega
theorem zns {g:List (List Int)} {i:Nat} (hi:i<6) {s:List Int × List Rect} (h:zs6 s.1 s.2):∀ j,j≤6→zs6 (zdz g i s j).1 (zdz g i s j).2∧(zdz g i s j).1.length≤s.1.length+j∧s.1.length≤(zdz g i s j).1.length∧(1≤j→1≤(zdz g i s j).1.length)
 | 0,_=>⟨h,by simp [zdz],by simp [zdz],by omega⟩
 | j+1,hj=>by
  obtain ⟨h1,h2,h3,h4⟩:=zns hi h j (by omega)
  have:=z4g (ks:=(zdz g i s j).1) (z:=gz g i j)
  exact ⟨h1.step (zfq hi (by omega)),by simp only[zdz]; omega,by simp only[zdz]; omega,fun _=>by simp only[zdz]; omega⟩
theorem zgv {g:List (List Int)} {nw:Nat} (hw:nw≤6) (hw1:1≤nw):∀ i,i≤6→zs6 (zbi g nw i).1 (zbi g nw i).2∧(zbi g nw i).1.length≤6*i∧(1≤i→1≤(zbi g nw i).1.length)
 | 0,_=>⟨zs6.nil,by simp [zbi],by omega⟩
 | i+1,hi=>by
  obtain ⟨h1,h2,h3⟩:=zgv hw hw1 i (by omega)
  obtain ⟨k1,k2,k3,k4⟩:=zns (g:=g) (i:=i) (by omega) h1 nw hw
  exact ⟨k1,by simp only[zbi]; omega,fun _=>by simp only[zbi]; exact k4 hw1⟩
theorem zs6.ne {ks:List Int} {rs:List Rect} (h:zs6 ks rs) (h1:1≤ks.length):rs≠[]:=by
 rintro rfl
 have:=h.1
 simp at this; omega
theorem zs6.nl {ks:List Int} (h:zs6 ks []):ks=[]:=List.eq_nil_of_length_eq_zero h.1.symm
theorem zg3 {d:List (List Int)} {cur:PV} {m i:Nat} (h:d.length=i):(gcs d cur m)[i]?=some cur:=by subst h; simp [gcs]
theorem zg4 {d:List (List Int)} {cur:PV} {m:Nat}:(gcs d cur m).length=d.length+1+m:=by simp [gcs]; omega
def gc0 (d:List (List Int)) (m:Nat):List PV:=d.map eInts++List.replicate m .nils
theorem z7v {d:List (List Int)} {m:Nat}:(gc0 d m).length=d.length+m:=by simp [gc0]
theorem z7w {d:List (List Int)} {m i:Nat} {c:PV} (h:d.length=i) (hm:1≤m):(gc0 d m).take i++[c]++(gc0 d m).drop (i+1)=gcs d c (m - 1):=by
 subst h
 obtain ⟨m,rfl⟩:∃ n,m=n+1:=⟨m - 1,by omega⟩
 simp only[gc0,gcs,Nat.add_sub_cancel]
 rw [show d.length=(d.map eInts).length by simp,List.take_left,List.drop_length_add_append]
 simp [List.replicate_succ]
theorem yfr {d:List (List Int)} {r:List Int} {m:Nat}:gcs d (eInts r) m=gc0 (d++[r]) m:=by simp [gcs,gc0]
theorem yfp {d:List (List Int)}:gc0 d 0=d.map eInts:=by simp [gc0]
theorem yfq {m:Nat}:gc0 [] m=List.replicate m .nils:=rfl
end
theorem z1q {g d:List (List Int)} {y:List Int} {row ks:List Int} {rs:List Rect} {z:Int} {r c w m xv yv vq t:Nat} (hr:r<6) (hc:c<6) (hrow:g[r]?=some row) (hz:row[c]?=some z) (hs:zs6 ks rs) (hk:ks.length≤64) :
  Ev Tryz.prog 152 [.int .i64 (r:Nat),.int .i64 (c:Nat),.ref 5 5 0,.ref 0 0 0,.ref 3 3 0] (seS g w xv yv (gcs d (.loc 7 yv 0 w) m) (y.map (.int .i64)) ks rs vq t)
   fun v S=>v = .int .i64 ((ks.idxOf z:Nat):Int)∧∃ vq t:Nat,S=seS g w xv yv (gcs d (.loc 7 yv 0 w) m) (y.map (.int .i64)) (zi4 ks z) (zqk ks rs z (zhn r c)) vq t:=by
 have hne:zqk ks rs z (zhn r c)≠[]:=(hs.step (z:=z) (zfq hr hc)).ne z4g.2.2
 simp only[z4h hne]
 by_cases h0:rs=[]
 ·subst h0
  rw [yam]
  exact zot (vq:=0) hr hc hrow hz hs hk rfl hs.nl
 rw [z4h h0]
 by_cases hin:ks.idxOf z=ks.length
 ·exact zsl hr hc hrow hz hs hk hin
 exact zsm hr hc hrow hz hs hk hin
theorem ybu {g:List (List Int)} {nh nw:Nat} (hg:GW g nh nw):Ev Tryz.prog 99 [.int .i64 nh,.int .i64 nw,.fn 152 [.ref 5 5 0,.ref 0 0 0,.ref 3 3 0]] ⟨prS g nw .nils [],6⟩ fun v S=>∃ xv vq t:Nat,v = .loc 6 xv 0 nh∧S=seO g nw xv ((zfa g nw nh).map eInts) (zbi g nw nh).1 (zbi g nw nh).2 vq t:=by
 have hl:=hg.1
 obtain ⟨hg1,hg2,hg3,hg4⟩:=hg.2.2
 refine Ev.of ⟨Tryz.func99,by kernel_rfl,rfl,by kernel_rfl⟩ zbl mixed (by show 3≤Tryz.f99.ntmps; decide) ?_
 refine W.r fun K hK=>?_
 simp(disch:=omega)only[↓RU,RV,RH,↓reduceIte,qE,reduceCtorEq,if_pos,↓RS,RG,qA,qM,qL,prS]
 apply hK;clear hK K
 refine W.r fun K hK=>?_
 simp(disch:=omega)only[↓RU,RV,RH,↓reduceIte,qE,reduceCtorEq,if_pos,↓RS,RG,qA,qM,qL,ty1,zab,zdc,zaa,prS,zsa,zhk,zid]
 apply hK;clear hK K
 refine W.seq ?_
 refine W.r fun K hK=>?_
 simp(disch:=omega)only[↓RU,RV,RH,↓reduceIte,qE,reduceCtorEq,if_pos,↓RS,RG,qA,qM,qL,ty1,zab,zdc,zaa,prS]
 apply hK;clear hK K
 refine W.block ?_
 refine W.loopS [1,2,7,13,14] (fun n vs S=>∃ (i xv vq t:Nat),n=nh - i∧i≤nh∧vs=[.int .i64 nw,.fn 152 [.ref 5 5 0,.ref 0 0 0,.ref 3 3 0],.loc 6 xv 0 nh,.int .i64 nh,.int .i64 (i:Nat)]∧S=seO g nw xv (gc0 (zfa g nw i) (nh - i)) (zbi g nw i).1 (zbi g nw i).2 vq t) nh ?_ ?_
 ·refine ⟨7,[],[.int .i64 nw,.fn 152 [.ref 5 5 0,.ref 0 0 0,.ref 3 3 0],.loc 6 6 0 nh,.int .i64 nh,.int .i64 (0:Nat)],seO g nw 6 (gc0 (zfa g nw 0) (nh - 0)) (zbi g nw 0).1 (zbi g nw 0).2 0 8,?_,?_,0,6,0,8,rfl,Nat.zero_le _,rfl,rfl⟩
  ·simp [-qU,Env.put,Env.of,zad,za3,zac,zae,zai,zak,za8,za9,zbz,za7,zaq,zba,zby,zb0,zas,zar,zal,za6,zbb,zbx,zao,zan,zaj,zap,za5,zc5,qS,qP,qC]
  simp [-qU,Env.put,Env.of,zad,za3,zac,zae,zai,zak,za8,za9,zbz,za7,zaq,zba,zby,zb0,zas,zar,zal,za6,zbb,zbx,zao,zan,zaj,zap,za5,zc5,qS,qP,qC,prS,yak,zbi,zfa,yfq,yc6,z1h]
 rintro n vs S - ⟨i,xv,vq,t,rfl,h_i,rfl,rfl⟩
 refine W.r fun K hK=>?_
 simp(disch:=omega)only[↓RU,RV,RH,↓reduceIte,qE,reduceCtorEq,if_pos,w64,↓RS,RG,qA,qM,qL,zaa,prS]
 apply hK;clear hK K
 refine W.seq ?_
 refine W.cond rfl (fun h=>?_) (fun h=>?_)
 ·try simp only[RL]at h
  have hzl:=zdf (g:=g) (nw:=nw) i
  have hiw:i<nh:=by omega
  obtain ⟨hso,hsl,hsp⟩:=zgv (g:=g) hg4 hg3 i (by omega)
  refine W.skip ?_
  refine xn ?_
  refine W.seq ?_
  refine W.block ?_
  refine W.r fun K hK=>?_
  simp(disch:=omega)only[↓RU,RV,RH,↓reduceIte,qE,reduceCtorEq,if_pos,↓RS,RG,qA,qM,qL,prS]
  apply hK;clear hK K
  refine W.joinS [1,2,7,8,13,14] (fun vs S=>∃ (yv vq t:Nat),vs=[.int .i64 nw,.fn 152 [.ref 5 5 0,.ref 0 0 0,.ref 3 3 0],.loc 6 xv 0 nh,.int .i64 (i:Nat),.int .i64 nh,.int .i64 (i:Nat)]∧S=seS g nw xv yv (gcs (zfa g nw i) (.loc 7 yv 0 nw) (nh - i - 1)) ((List.replicate nw 0).map (.int .i64)) (zbi g nw i).1 (zbi g nw i).2 vq t) ?_ ?_
  ·
   refine W.k fun K hK=>?_
   by_cases hi0:zbi g nw i=([],[])
   ·skip
    rw [hi0,yak]
    simp(disch:=omega)only[↓RU,RV,RH,↓reduceIte,qE,reduceCtorEq,if_pos,↓RS,RG,qA,qM,qL,ty1,zab,zdc,zaa,prS,zhk,zid,z7v,zdf,z7w]
    apply hK;clear hK K
    refine xn ?_
    refine ⟨8,[],[.int .i64 nw,.fn 152 [.ref 5 5 0,.ref 0 0 0,.ref 3 3 0],.loc 6 xv 0 nh,.int .i64 (i:Nat),.int .i64 nh,.int .i64 (i:Nat)],seS g nw xv t (gcs (zfa g nw i) (.loc 7 t 0 nw) (nh - i - 1)) ((List.replicate nw 0).map (.int .i64)) (zbi g nw i).1 (zbi g nw i).2 vq (t+2),?_,?_,t,vq,t+2,rfl,rfl⟩
    ·simp [-qU,Env.put,Env.of,zad,za3,zac,zae,zai,zak,za8,za9,zbz,za7,zaq,zba,zby,zb0,zas,zar,zal,za6,zbb,zbx,zao,zan,zaj,zap,za5,zc5,qS,qP,qC]
    rw [hi0,yam]; simp [-qU,Env.put,Env.of,zad,za3,zac,zae,zai,zak,za8,za9,zbz,za7,zaq,zba,zby,zb0,zas,zar,zal,za6,zbb,zbx,zao,zan,zaj,zap,za5,zc5,qS,qP,qC,prS,z1h,zpm,zga,zzl,yeo,show List.idxOf 7 [8,7]=1 from rfl]
   skip
   have hne:(zbi g nw i).2≠[]:=fun e=>hi0 (by have:=hso; rw [e]at this; rw [← Prod.eta (zbi g nw i),e,this.nl])
   rw [yaj hne]
   simp(disch:=omega)only[↓RU,RV,RH,↓reduceIte,qE,reduceCtorEq,if_pos,↓RS,RG,qA,qM,qL,ty1,zab,zdc,zaa,prS,zhk,zid,z7v,zdf,z7w]
   apply hK;clear hK K
   refine xn ?_
   refine ⟨7,[8,7],[.int .i64 nw,.fn 152 [.ref 5 5 0,.ref 0 0 0,.ref 3 3 0],.loc 6 xv 0 nh,.int .i64 (i:Nat),.int .i64 nh,.int .i64 (i:Nat)],seS g nw xv (t+1) (gcs (zfa g nw i) (.loc 7 (t+1) 0 nw) (nh - i - 1)) ((List.replicate nw 0).map (.int .i64)) (zbi g nw i).1 (zbi g nw i).2 (t+1) (t+2),?_,?_,t+1,t+1,t+2,rfl,rfl⟩
   ·simp [-qU,Env.put,Env.of,zad,za3,zac,zae,zai,zak,za8,za9,zbz,za7,zaq,zba,zby,zb0,zas,zar,zal,za6,zbb,zbx,zao,zan,zaj,zap,za5,zc5,qS,qP,qC]
   rw [z4h hne]; simp [-qU,Env.put,Env.of,zad,za3,zac,zae,zai,zak,za8,za9,zbz,za7,zaq,zba,zby,zb0,zas,zar,zal,za6,zbb,zbx,zao,zan,zaj,zap,za5,zc5,qS,qP,qC,prS,z1h,zpm,zga,zzl,yeo,show List.idxOf 7 [8,7]=1 from rfl]
  rintro vs S - ⟨yv,vq,t,rfl,rfl⟩
  refine W.r fun K hK=>?_
  simp(disch:=omega)only[↓RU,RV,RH,↓reduceIte,qE,reduceCtorEq,if_pos,↓RS,RG,qA,qM,qL,ty1,zab,zdc,zaa,prS,zei,zfc,zg3,zg4,hzl]
  apply hK;clear hK K
  refine W.block ?_
  refine W.loop [1,2,7,8,13,14,26,27] (fun n vs S=>∃ (j vq t:Nat),n=nw - j∧j≤nw∧vs=[.int .i64 nw,.fn 152 [.ref 5 5 0,.ref 0 0 0,.ref 3 3 0],.loc 6 xv 0 nh,.int .i64 (i:Nat),.int .i64 nh,.int .i64 (i:Nat),.int .i64 nw,.int .i64 (j:Nat)]∧S=seS g nw xv yv (gcs (zfa g nw i) (.loc 7 yv 0 nw) (nh - i - 1)) ((zoy g i (zbi g nw i) j++List.replicate (nw - j) 0).map (.int .i64)) (zdz g i (zbi g nw i) j).1 (zdz g i (zbi g nw i) j).2 vq t) nw ?_ ?_
  ·refine ⟨_,0,vq,t,rfl,Nat.zero_le _,?_,za2⟩
   simp [Env.put,Env.of]
  rintro n vs S - ⟨j,vq,t,rfl,h_j,rfl,rfl⟩
  refine W.r fun K hK=>?_
  simp(disch:=omega)only[↓RU,RV,RH,↓reduceIte,qE,reduceCtorEq,if_pos,w64,↓RS,RG,qA,qM,qL,zaa,prS]
  apply hK;clear hK K
  refine W.seq ?_
  refine W.cond rfl (fun h1=>?_) (fun h1=>?_)
  ·try simp only[RL]at h1
   have hjw:j<nw:=by omega
   obtain ⟨row,hrow,hrl,hz⟩:=hg.at_ hiw hjw
   obtain ⟨hro,hrl2,-,-⟩:=zns (g:=g) (i:=i) (by omega) hso j (by omega)
   have hYl:(zoy g i (zbi g nw i) j++List.replicate (nw - j) 0).length=nw:=by simp only[List.length_append,List.length_replicate,zfv]; omega
   generalize hY:zoy g i (zbi g nw i) j++List.replicate (nw - j) 0=Y at hYl
   refine W.skip ?_
   refine xn ?_
   refine W.seq ?_
   refine W.block ?_
   refine W.r fun K hK=>?_
   simp(disch:=omega)only[↓RU,RV,RH,↓reduceIte,qE,reduceCtorEq,if_pos,↓RS,RG,qA,qM,qL,prS]
   apply hK;clear hK K
   refine W.region_pk 9 [some 32,some 33] [6] (by decide) (by kernel_rfl) fun K hK=>?_
   simp only[List.take_succ_cons,List.take_zero,List.drop_succ_cons,List.drop_zero]
   refine zbv rfl ?_
   simp(disch:=omega)only[↓RU,RV,RH,↓reduceIte,qE,reduceCtorEq,if_pos,qN,↓RS,RG,qA,qM,qL,ty1,zab,zdc,zaa,prS,zei,zfc,zg3,zg4,hzl,zh2,zcy,zff,hYl,za4,zbj]
   refine zbv rfl ?_
   simp(disch:=omega)only[↓RU,RV,RH,↓reduceIte,qE,reduceCtorEq,if_pos,qN,↓RS,RG,qA,qM,qL,ty1,zab,zdc,zaa,prS,zei,zfc,zg3,zg4,hzl,zh2,zcy,zff,hYl,za4,zbj]
   refine zbk (.ref 6 xv i) rfl rfl rfl (fun S' hS=>?_) ?_
   ·skip
    have k6:=(hS 6 (by decide)).trans zei
    simp(disch:=omega)only[↓RU,RV,RH,↓reduceIte,qE,reduceCtorEq,if_pos,qN,↓RS,RG,qA,qM,qL,ty1,zab,zdc,zaa,prS,zei,zfc,zg3,zg4,hzl,zh2,zcy,zff,hYl,zcf,zc9,zee,zef,k6]
   refine zbk (.loc 7 yv 0 nw) rfl rfl rfl (fun S' hS=>?_) ?_
   ·skip
    have k6:=(hS 6 (by decide)).trans zei
    simp(disch:=omega)only[↓RU,RV,RH,↓reduceIte,qE,reduceCtorEq,if_pos,qN,↓RS,RG,qA,qM,qL,ty1,zab,zdc,zaa,prS,zei,zfc,zg3,zg4,hzl,zh2,zcy,zff,hYl,zcf,zc9,zee,zef,k6]
   refine zbv rfl ?_
   simp(disch:=omega)only[↓RU,RV,RH,↓reduceIte,qE,reduceCtorEq,if_pos,qN,↓RS,RG,qA,qM,qL,ty1,zab,zdc,zaa,prS,zei,zfc,zg3,zg4,hzl,zh2,zcy,zff,hYl,za4,zbj]
   refine zbv rfl ?_
   simp(disch:=omega)only[↓RU,RV,RH,↓reduceIte,qE,reduceCtorEq,if_pos,qN,↓RS,RG,qA,qM,qL,ty1,zab,zdc,zaa,prS,zei,zfc,zg3,zg4,hzl,zh2,zcy,zff,hYl,za4,zbj]
   refine zbv rfl ?_
   simp(disch:=omega)only[↓RU,RV,RH,↓reduceIte,qE,reduceCtorEq,if_pos,qN,↓RS,RG,qA,qM,qL,ty1,zab,zdc,zaa,prS,zei,zfc,zg3,zg4,hzl,zh2,zcy,zff,hYl,za4,zbj]
   refine zbv rfl ?_
   simp(disch:=omega)only[↓RU,RV,RH,↓reduceIte,qE,reduceCtorEq,if_pos,qN,↓RS,RG,qA,qM,qL,ty1,zab,zdc,zaa,prS,zei,zfc,zg3,zg4,hzl,zh2,zcy,zff,hYl,za4,zbj]
   refine zbv rfl ?_
   simp(disch:=omega)only[↓RU,RV,RH,↓reduceIte,qE,reduceCtorEq,if_pos,qN,↓RS,RG,qA,qM,qL,ty1,zab,zdc,zaa,prS,zei,zfc,zg3,zg4,hzl,zh2,zcy,zff,hYl,za4,zbj]
   refine zaf.ev (z1q (y:=Y) (by omega) (by omega) hrow hz hro (by omega)) ?_
   rintro _ _ ⟨rfl,vq2,t2,rfl⟩
   simp(disch:=omega)only[↓RU,RV,RH,↓reduceIte,qE,reduceCtorEq,if_pos,qN,↓RS,RG,qA,qM,qL,ty1,zab,zdc,zaa,prS,zei,zfc,zg3,zg4,hzl,zh2,zcy,zff,hYl,za4,zbj]
   refine zgl ?_
   simp(disch:=omega)only[↓RU,RV,RH,↓reduceIte,qE,reduceCtorEq,if_pos,qN,↓RS,RG,qA,qM,qL,ty1,zab,zdc,zaa,prS,zei,zfc,zg3,zg4,hzl,zh2,zcy,zff,hYl]
   apply hK;clear hK K
   refine XbN ?_
   refine xn ?_
   refine W.k fun K hK=>?_
   simp(disch:=omega)only[↓RU,RV,RH,↓reduceIte,qE,reduceCtorEq,if_pos,w64,↓RS,RG,qA,qM,qL,zaa,prS]
   apply hK;clear hK K
   refine xn ?_
   refine ⟨nw - (j+1),by omega,_,j+1,vq2,t2,rfl,by omega,?_,zbm ?_⟩
   rotate_left
   ·rw [show zoy g i (zbi g nw i) (j+1)++List.replicate (nw - (j+1)) 0=(zoy g i (zbi g nw i) j++List.replicate (nw - j) 0).set j (((zdz g i (zbi g nw i) j).1.idxOf (gz g i j):Nat):Int) from ydt hjw,hY]; rfl
   simp [Env.put,Env.of]
  try simp only[RL]at h1
  obtain rfl:nw=j:=by omega
  obtain ⟨hro,hrl2,-,hro4⟩:=zns (g:=g) (i:=i) (by omega) hso nw hg4
  have hne:=hro.ne (hro4 hg3)
  have hY:zoy g i (zbi g nw i) nw++List.replicate (nw - nw) 0=zoy g i (zbi g nw i) nw:=by rw [Nat.sub_self]; exact qN _
  have hYl:=zfv (g:=g) (i:=i) (s:=zbi g nw i) nw
  rw [hY,z4h hne]
  generalize hYe:zoy g i (zbi g nw i) nw=Y at hYl
  have hYt:(Y.map (PV.int .i64)).take nw=Y.map (PV.int .i64):=qT (by rw [List.length_map]; omega)
  have hYE:eInts Y=PV.sl (Y.map (PV.int .i64)) nw:=by rw [← hYl]
  have hsr:zdz g i (zbi g nw i) nw=zbi g nw (i+1):=rfl
  rw [hsr]at hne ⊢
  have hzs:zfa g nw (i+1)=zfa g nw i++[Y]:=by rw [← hYe]; rfl
  refine W.exit ?_
  refine xe ?_
  refine xe ?_
  refine XBlock.hit ?_
  refine XbN ?_
  refine xn ?_
  refine W.k fun K hK=>?_
  simp(disch:=omega)only[↓RU,RV,RH,↓reduceIte,qE,reduceCtorEq,if_pos,w64,↓RS,RG,qA,qM,qL,zaa,prS]
  apply hK;clear hK K
  refine xn ?_
  refine ⟨nh - (i+1),by omega,7,[8],[.int .i64 nw,.fn 152 [.ref 5 5 0,.ref 0 0 0,.ref 3 3 0],.loc 6 xv 0 nh,.int .i64 nh,.int .i64 ((i+1:Nat):Int)],seO g nw xv (gc0 (zfa g nw (i+1)) (nh - (i+1))) (zbi g nw (i+1)).1 (zbi g nw (i+1)).2 t (t+1),?_,?_,i+1,xv,t+0,t+1,rfl,by omega,rfl,rfl⟩
  ·simp [-qU,Env.put,Env.of,zad,za3,zac,zae,zai,zak,za8,za9,zbz,za7,zaq,zba,zby,zb0,zas,zar,zal,za6,zbb,zbx,zao,zan,zaj,zap,za5,zc5,qS,qP,qC]
  rw [yaj hne,hzs,← yfr]; simp [-qU,Env.put,Env.of,zad,za3,zac,zae,zai,zak,za8,za9,zbz,za7,zaq,zba,zby,zb0,zas,zar,zal,za6,zbb,zbx,zao,zan,zaj,zap,za5,zc5,qS,qP,qC,prS,z1h,zpm,zga,ygi,hYl,hYt,hYE,yc4,show nh - i - 1=nh - (i+1) by omega,show List.idxOf 8 [8]=0 from rfl]
 try simp only[RL]at h
 obtain rfl:nh=i:=by omega
 refine W.exit ?_
 refine xe ?_
 refine xe ?_
 refine XBlock.hit ?_
 refine xn ?_
 refine W.r fun K hK=>?_
 simp(disch:=omega)only[↓RU,RV,RH,↓reduceIte,qE,reduceCtorEq,if_pos,↓RS,RG,qA,qM,qL,prS]
 apply hK;clear hK K
 refine W.ret ?_
 refine Br rfl ?_
 rw [Nat.sub_self,yfp]
 exact ⟨_,xv,vq,t,rfl,za2⟩
def w0 (g:List (List Int)):Nat:=(g[0]?.getD []).length
def okG (g:List (List Int)):Bool:=decide (1≤g.length) && decide (g.length≤6) && decide (1≤w0 g) && decide (w0 g≤6) && !(g.any fun r=>decide ((r.length:Int)≠(w0 g:Nat)))
def stG (g:List (List Int)):List Int × List Rect:=zbi g (w0 g) g.length
def zG (g:List (List Int)):List (List Int):=zfa g (w0 g) g.length
def z6h (rs:List Rect):Int:=rs.foldl (fun s b=>s+b.high*b.wide) 0
def okS (g:List (List Int)):Bool:=okG g && decide ((stG g).2.length≤9)
def zmx (g:List (List Int)):Bool:=decide (z6h (stG g).2=((g.length*w0 g:Nat):Int))
def zez (g:List (List Int)):PV:=if okS g then .tup [zax (zG g) (stG g).2,.bool (zmx g)] else .tup [.nilp,.bool false]
theorem ydk {g:List (List Int)} {row:List Int} (h:g[0]?=some row):w0 g=row.length:=by simp [w0,h]
theorem zv2 {g:List (List Int)}:okG g=true↔GW g g.length (w0 g):=by
 unfold okG GW
 simp only[qB,decide_eq_true_eq,Bool.not_eq_true',List.any_eq_false,decide_eq_true_eq,ne_eq,Decidable.not_not]
 constructor
 ·rintro ⟨⟨⟨⟨h1,h2⟩,h3⟩,h4⟩,h5⟩
  exact ⟨trivial,fun r hr=>by have:=h5 r hr; omega,h1,h2,h3,h4⟩
 rintro ⟨_,h5,h1,h2,h3,h4⟩
 exact ⟨⟨⟨⟨h1,h2⟩,h3⟩,h4⟩,fun r hr=>by have:=h5 r hr; omega⟩
theorem zsr {rs:List Rect} {k:Nat} {b:Rect} (h:rs[k]?=some b):z6h (rs.take (k+1))=z6h (rs.take k)+b.high*b.wide:=by
 unfold z6h; rw [zex h]
theorem Rect.Fit.area {b:Rect} (h:b.Fit):1≤b.high*b.wide∧b.high*b.wide≤36:=by
 unfold Rect.Fit at h
 obtain ⟨h1,h2,h3,h4,h5,h6⟩:=h
 obtain ⟨m,hm⟩:∃ m:Nat,b.high=m:=⟨b.high.toNat,by omega⟩
 obtain ⟨n,hn⟩:∃ n:Nat,b.wide=n:=⟨b.wide.toNat,by omega⟩
 rw [hm,hn]
 have h7:=Nat.mul_le_mul (show m≤6 by omega) (show n≤6 by omega)
 have h8:=Nat.mul_le_mul (show 1≤m by omega) (show 1≤n by omega)
 have:((m*n:Nat):Int)=(m:Int)*n:=by simp
 omega
theorem zuz {rs:List Rect} (h:∀ b∈rs,b.Fit):∀ k,0≤z6h (rs.take k)∧z6h (rs.take k)≤36*k
 | 0=>by simp [z6h]
 | k+1=>by
  have ih:=zuz h k
  by_cases hk:k<rs.length
  ·obtain ⟨b,hb,hm⟩:=zah hk
   rw [zsr hb]
   have:=(h b hm).area
   omega
  rw [qT (by omega)]at ih ⊢
  omega
theorem zk9 {g:List (List Int)} {nw:Nat}:∀ {i k:Nat},k<i→(zfa g nw i)[k]?=some (zoy g k (zbi g nw k) nw)
 | 0,k,h=>by omega
 | i+1,k,h=>by
  unfold zfa
  by_cases e:k=i
  ·subst e; rw [List.getElem?_append_right (by rw [zdf]; exact qR _),zdf]; simp
  rw [List.getElem?_append_left (by rw [zdf]; omega)]; exact zk9 (by omega)
theorem yiu {g:List (List Int)} {nh nw:Nat} (hg:GW g nh nw):GW (zfa g nw nh) nh nw:=by
 refine ⟨zdf _,fun r hr=>?_,hg.2.2⟩
 obtain ⟨k,hk⟩:=List.getElem?_of_mem hr
 have hkl:=zcq hk
 rw [zdf]at hkl
 rw [zk9 hkl]at hk
 cases hk
 exact zfv _
theorem zl5 {S:Store} {xv vq nh f:Nat} {Z:List (List Int)} {rs:List Rect} (h2:S.obs[2]?=some (.arr 2 101 2 [.loc 6 xv 0 nh,.loc 7 vq 0 rs.length])) (h6:S.obs[6]?=some (.arr xv 24 1 (Z.map eInts))) (hZ:Z.length=nh)
  (h7:S.obs[7]?=some (.arr vq 55 4 (rcs rs))):reify S true (f+4) (.ref 2 2 0)=some (zax Z rs):=by
 have e1:reify S true (f+3) (.loc 6 xv 0 nh)=some (ze1 Z):=by
  rw [← hZ]
  exact zcg (k:=f+2) h6 (by simp) (zi0 _)
 have e2:reify S true (f+3) (.loc 7 vq 0 rs.length)=some (zo3 rs):=zcg (k:=f+2) h7 (zb4 _) (zk2 (z4e _))
 have hc:S.cellsOf 2 2=some [.loc 6 xv 0 nh,.loc 7 vq 0 rs.length]:=by simp [Store.cellsOf,h2]
 have e0:reify S true (f+4) (.ref 2 2 0)=(S.cellsOf 2 2).bind fun cells=>(cells.mapM (reify S true (f+3))).map (.ip · 0):=rfl
 rw [e0,hc,Option.bind_some,qC,e1,qC,e2]
 rfl
theorem zus {g:List (List Int)} (hsm:g.length<2147483648) (hsr:∀ r∈g,r.length<2147483648):PC Tryz.prog 131 [ze1 g] (zez g) false:=by
 refine PC.of ⟨Tryz.func131,by kernel_rfl,rfl,by kernel_rfl⟩ zbl mixed (by show 1≤Tryz.f131.ntmps; decide) ?_
 refine W.r fun K hK=>?_
 simp(disch:=omega)only[↓RU,RV,RH,↓reduceIte,qE,reduceCtorEq,if_pos,↓RS,RG,qA,qM,qL,ty1,zab,zdc,zaa]
 apply hK;clear hK K
 refine W.seq ?_
 refine W.r fun K hK=>?_
 have hcase:g.length<1∨6<g.length∨∃ row:List Int,g[0]?=some row∧row∈g∧(1≤g.length∧g.length≤6)∧(row.length<1∨6<row.length∨(1≤row.length∧row.length≤6)):=by
  by_cases h1:g.length<1
  ·exact .inl h1
  obtain ⟨row,h2,h3⟩:=zah (show 0<g.length by omega)
  by_cases h4:6<g.length
  ·exact .inr (.inl h4)
  exact .inr (.inr ⟨row,h2,h3,by omega,by omega⟩)
 rcases hcase with hb | hb | ⟨row,hrow,hrm,hgl,hb | hb | hb⟩
 ·skip
  have hd:decide ((g.length:Int)<1)=true:=decide_eq_true (by omega)
  simp(disch:=omega)only[↓RU,RV,RH,↓reduceIte,qE,reduceCtorEq,if_pos,w64,↓RS,RG,qA,qM,qL,ty1,zab,zdc,zaa,hd]
  apply hK;clear hK K
  refine W.cond rfl (fun h=>?_) (fun h=>?_)
  ·try simp only[RL]at h
   refine W.r fun K hK=>?_
   simp(disch:=omega)only[↓RU,RV,RH,↓reduceIte,qE,reduceCtorEq,if_pos,↓RS,RG,qA,qM,qL]
   apply hK;clear hK K
   refine W.ret ?_
   refine XThen.ret ?_
   refine Br rfl ?_
   have hok:okS g=false:=by simp [okS,okG]; omega
   rw [zez,hok]
   rfl
  try simp only[RL]at h
  exact absurd h (by simp)
 ·skip
  have hd:decide ((g.length:Int)<1)=false:=decide_eq_false (by omega)
  have hd2:decide ((g.length:Int)>6)=true:=decide_eq_true (by omega)
  simp(disch:=omega)only[↓RU,RV,RH,↓reduceIte,qE,reduceCtorEq,if_pos,w64,↓RS,RG,qA,qM,qL,ty1,zab,zdc,zaa,hd,hd2]
  apply hK;clear hK K
  refine W.cond rfl (fun h=>?_) (fun h=>?_)
  ·try simp only[RL]at h
   refine W.r fun K hK=>?_
   simp(disch:=omega)only[↓RU,RV,RH,↓reduceIte,qE,reduceCtorEq,if_pos,↓RS,RG,qA,qM,qL]
   apply hK;clear hK K
   refine W.ret ?_
   refine XThen.ret ?_
   refine Br rfl ?_
   have hok:okS g=false:=by simp [okS,okG]; omega
   rw [zez,hok]
   rfl
  try simp only[RL]at h
  exact absurd h (by simp)
 ·skip
  have hrl:=hsr row hrm
  have hw0:=ydk hrow
  have hd:decide ((g.length:Int)<1)=false:=decide_eq_false (by omega)
  have hd2:decide ((g.length:Int)>6)=false:=decide_eq_false (by omega)
  have hd3:decide ((row.length:Int)<1)=true:=decide_eq_true (by omega)
  simp(disch:=omega)only[↓RU,RV,RH,↓reduceIte,qE,reduceCtorEq,if_pos,w64,↓RS,RG,qA,qM,qL,ty1,zab,zdc,zaa,hd,hd2,hd3,hrow,Int.toNat_zero,Nat.zero_mul,qZ]
  apply hK;clear hK K
  refine W.cond rfl (fun h=>?_) (fun h=>?_)
  ·try simp only[RL]at h
   refine W.r fun K hK=>?_
   simp(disch:=omega)only[↓RU,RV,RH,↓reduceIte,qE,reduceCtorEq,if_pos,↓RS,RG,qA,qM,qL]
   apply hK;clear hK K
   refine W.ret ?_
   refine XThen.ret ?_
   refine Br rfl ?_
   have hok:okS g=false:=by simp [okS,okG]; omega
   rw [zez,hok]
   rfl
  try simp only[RL]at h
  exact absurd h (by simp)
 ·skip
  have hrl:=hsr row hrm
  have hw0:=ydk hrow
  have hd:decide ((g.length:Int)<1)=false:=decide_eq_false (by omega)
  have hd2:decide ((g.length:Int)>6)=false:=decide_eq_false (by omega)
  have hd3:decide ((row.length:Int)<1)=false:=decide_eq_false (by omega)
  have hd4:decide ((row.length:Int)>6)=true:=decide_eq_true (by omega)
  simp(disch:=omega)only[↓RU,RV,RH,↓reduceIte,qE,reduceCtorEq,if_pos,w64,↓RS,RG,qA,qM,qL,ty1,zab,zdc,zaa,hd,hd2,hd3,hd4,hrow,Int.toNat_zero,Nat.zero_mul,qZ]
  apply hK;clear hK K
  refine W.cond rfl (fun h=>?_) (fun h=>?_)
  ·try simp only[RL]at h
   refine W.r fun K hK=>?_
   simp(disch:=omega)only[↓RU,RV,RH,↓reduceIte,qE,reduceCtorEq,if_pos,↓RS,RG,qA,qM,qL]
   apply hK;clear hK K
   refine W.ret ?_
   refine XThen.ret ?_
   refine Br rfl ?_
   have hok:okS g=false:=by simp [okS,okG]; omega
   rw [zez,hok]
   rfl
  try simp only[RL]at h
  exact absurd h (by simp)
 skip
 have hrl:=hsr row hrm
 have hw0:=ydk hrow
 have hd:decide ((g.length:Int)<1)=false:=decide_eq_false (by omega)
 have hd2:decide ((g.length:Int)>6)=false:=decide_eq_false (by omega)
 have hd3:decide ((row.length:Int)<1)=false:=decide_eq_false (by omega)
 have hd4:decide ((row.length:Int)>6)=false:=decide_eq_false (by omega)
 simp(disch:=omega)only[↓RU,RV,RH,↓reduceIte,qE,reduceCtorEq,if_pos,w64,↓RS,RG,qA,qM,qL,ty1,zab,zdc,zaa,hd,hd2,hd3,hd4,hrow,Int.toNat_zero,Nat.zero_mul,qZ]
 apply hK;clear hK K
 refine W.cond rfl (fun h=>?_) (fun h=>?_)
 ·try simp only[RL]at h
  exact absurd h (by simp)
 try simp only[RL]at h
 refine W.skip ?_
 refine xn ?_
 refine W.r fun K hK=>?_
 simp(disch:=omega)only[↓RU,RV,RH,↓reduceIte,qE,reduceCtorEq,if_pos,↓RS,RG,qA,qM,qL,ty1,zab,zdc,zaa,hrow,Int.toNat_zero,Nat.zero_mul,qZ]
 apply hK;clear hK K
 refine W.seq ?_
 refine W.r fun K hK=>?_
 simp(disch:=omega)only[↓RU,RV,RH,↓reduceIte,qE,reduceCtorEq,if_pos,qN,↓RS,RG,qA,qM,qL,ty1,zab,zdc,zaa,hrow]
 refine zaf.pc (zsv (l:=g) hsm (g:=151) (cap:=[.ip [.int .i64 row.length] 0]) rfl rfl (test:=fun r=>decide ((r.length:Int)≠(row.length:Nat))) (fun r hr=>z1p r _ (hsr r hr))) rfl (.inl rfl) ?_
 simp(disch:=omega)only[↓RU,RV,RH,↓reduceIte,qE,reduceCtorEq,if_pos,qN,↓RS,RG,qA,qM,qL,ty1,zab,zdc,zaa,hrow]
 apply hK;clear hK K
 refine W.cond rfl (fun h1=>?_) (fun h1=>?_)
 ·try simp only[RL]at h1
  refine W.r fun K hK=>?_
  simp(disch:=omega)only[↓RU,RV,RH,↓reduceIte,qE,reduceCtorEq,if_pos,↓RS,RG,qA,qM,qL]
  apply hK;clear hK K
  refine W.ret ?_
  refine XThen.ret ?_
  refine Br rfl ?_
  have hok:okS g=false:=by unfold okS okG; rw [hw0,h1]; simp
  rw [zez,hok]
  rfl
 try simp only[RL]at h1
 have hg:GW g g.length row.length:=by have:=zv2 (g:=g); rw [hw0]at this; refine this.1 ?_; unfold okG; rw [hw0,h1]; simp; omega
 obtain ⟨hso,hsl,hs1⟩:=zgv (g:=g) (nw:=row.length) (by omega) (by omega) g.length (by omega)
 have hne:=hso.ne (hs1 (by omega))
 refine W.skip ?_
 refine xn ?_
 refine W.r fun K hK=>?_
 simp(disch:=omega)only[↓RU,RV,RH,↓reduceIte,qE,reduceCtorEq,if_pos,↓RS,RG,qA,qM,qL,ty1,ty3,zab,ty8,zej,zdc,zbt,zaa,zek,zbu]
 apply hK;clear hK K
 refine W.r fun K hK=>?_
 simp(disch:=omega)only[↓RU,RV,RH,↓reduceIte,qE,reduceCtorEq,if_pos,↓RS,RG,qA,qM,qL,zaa,yez]
 apply hK;clear hK K
 refine W.seq_pk 6 [some 42] [3] (by decide) (by kernel_rfl) fun K hK=>?_
 simp only[List.take_succ_cons,List.take_zero,List.drop_succ_cons,List.drop_zero]
 refine zbk (.ref 2 2 0) rfl rfl rfl (fun S' hS=>?_) ?_
 ·skip
  have k3:=(hS 3 (by decide)).trans (show _=some _ from rfl)
  simp(disch:=omega)only[↓RU,RV,RH,↓reduceIte,qE,reduceCtorEq,if_pos,qN,↓RS,RG,qA,qM,qL,ty1,ty3,zab,ty8,zej,zdc,zbt,zaa,zek,zbu,zcf,zc9,zee,zef,k3]
 refine zbv rfl ?_
 simp(disch:=omega)only[↓RU,RV,RH,↓reduceIte,qE,reduceCtorEq,if_pos,qN,↓RS,RG,qA,qM,qL,ty1,ty3,zab,ty8,zej,zdc,zbt,zaa,zek,zbu,za4,zbj]
 refine zbv rfl ?_
 simp(disch:=omega)only[↓RU,RV,RH,↓reduceIte,qE,reduceCtorEq,if_pos,qN,↓RS,RG,qA,qM,qL,ty1,ty3,zab,ty8,zej,zdc,zbt,zaa,zek,zbu,za4,zbj]
 refine zbv rfl ?_
 simp(disch:=omega)only[↓RU,RV,RH,↓reduceIte,qE,reduceCtorEq,if_pos,qN,↓RS,RG,qA,qM,qL,ty1,ty3,zab,ty8,zej,zdc,zbt,zaa,zek,zbu,za4,zbj]
 refine zbv rfl ?_
 simp(disch:=omega)only[↓RU,RV,RH,↓reduceIte,qE,reduceCtorEq,if_pos,qN,↓RS,RG,qA,qM,qL,ty1,ty3,zab,ty8,zej,zdc,zbt,zaa,zek,zbu,za4,zbj]
 refine zbv rfl ?_
 simp(disch:=omega)only[↓RU,RV,RH,↓reduceIte,qE,reduceCtorEq,if_pos,qN,↓RS,RG,qA,qM,qL,ty1,ty3,zab,ty8,zej,zdc,zbt,zaa,zek,zbu,za4,zbj]
 refine zaf.ev (ybu hg) ?_
 rintro _ _ ⟨xv,vq,t,rfl,rfl⟩
 rw [yaj hne]
 simp only[prS]
 simp(disch:=omega)only[↓RU,RV,RH,↓reduceIte,qE,reduceCtorEq,if_pos,qN,↓RS,RG,qA,qM,qL,ty1,ty3,zab,ty8,zej,zdc,zbt,zaa,zek,zbu,za4,zbj]
 refine zgl ?_
 simp(disch:=omega)only[↓RU,RV,RH,↓reduceIte,qE,reduceCtorEq,if_pos,qN,↓RS,RG,qA,qM,qL,ty1,ty3,zab,ty8,zej,zdc,zbt,zaa,zek,zbu]
 apply hK;clear hK K
 refine W.seq ?_
 refine W.r fun K hK=>?_
 simp(disch:=omega)only[↓RU,RV,RH,↓reduceIte,qE,reduceCtorEq,if_pos,w64,↓RS,RG,qA,qM,qL,ty1,ty3,zab,ty8,zej,zdc,zbt,zaa,zek,zbu]
 apply hK;clear hK K
 refine W.cond rfl (fun h2=>?_) (fun h2=>?_)
 ·try simp only[RL]at h2
  refine W.r fun K hK=>?_
  simp(disch:=omega)only[↓RU,RV,RH,↓reduceIte,qE,reduceCtorEq,if_pos,↓RS,RG,qA,qM,qL]
  apply hK;clear hK K
  refine W.ret ?_
  refine XThen.ret ?_
  refine Br rfl ?_
  have hok:okS g=false:=by unfold okS stG; rw [hw0]; simp only[Bool.and_eq_false_iff]; right; exact decide_eq_false (by omega)
  rw [zez,hok]
  rfl
 try simp only[RL]at h2
 refine W.skip ?_
 refine xn ?_
 refine W.r fun K hK=>?_
 simp(disch:=omega)only[↓RU,RV,RH,↓reduceIte,qE,reduceCtorEq,if_pos,↓RS,RG,qA,qM,qL]
 apply hK;clear hK K
 refine W.seq ?_
 refine W.r fun K hK=>?_
 simp(disch:=omega)only[↓RU,RV,RH,↓reduceIte,qE,reduceCtorEq,if_pos,↓RS,RG,qA,qM,qL,ty1,ty3,zab,ty8,zej,zdc,zbt,zaa,zek,zbu]
 apply hK;clear hK K
 refine W.block ?_
 refine W.loop [5,7,59,60,61] (fun n vs S=>∃ k t:Nat,n=(zbi g row.length g.length).2.length - k∧k≤(zbi g row.length g.length).2.length∧vs=[.ref 3 3 0,.int .i64 (z6h ((zbi g row.length g.length).2.take k)),.loc 7 vq 0 (zbi g row.length g.length).2.length,.int .i64 (zbi g row.length g.length).2.length,.int .i64 (k:Nat)]∧S=⟨[.arr 0 98 1 [ze1 g],.arr 1 3 1 [.int .i64 row.length],.arr 2 101 2 [.loc 6 xv 0 g.length,.loc 7 vq 0 (zbi g row.length g.length).2.length],.arr 3 49 1 [.ref 2 2 0],.map 4 (mE (zbi g row.length g.length).1),.arr 5 170 1 [.mp 4 4],.arr xv 24 1 ((zfa g row.length g.length).map eInts),.arr vq 55 4 (rcs (zbi g row.length g.length).2)],t⟩) (zbi g row.length g.length).2.length ?_ ?_
 ·refine ⟨8,0,t,rfl,Nat.zero_le _,?_,?_⟩
  ·simp [Env.put,Env.of,zad,z6h]
  simp [zcm]
 rintro n vs S - ⟨k,t,rfl,h_k,rfl,rfl⟩
 refine W.r fun K hK=>?_
 simp(disch:=omega)only[↓RU,RV,RH,↓reduceIte,qE,reduceCtorEq,if_pos,w64,↓RS,RG,qA,qM,qL,zaa]
 apply hK;clear hK K
 refine W.seq ?_
 refine W.cond rfl (fun h3=>?_) (fun h3=>?_)
 ·try simp only[RL]at h3
  obtain ⟨b,hb2,hbm⟩:=zah (show k<(zbi g row.length g.length).2.length by omega)
  have hbf:=hso.2 b hbm
  have hba:=hbf.area
  have hsb:=zuz hso.2 k
  refine W.skip ?_
  refine xn ?_
  refine W.seq ?_
  refine W.block ?_
  refine W.r fun K hK=>?_
  simp(disch:=omega)only[↓RU,RV,RH,↓reduceIte,qE,reduceCtorEq,if_pos,↓RS,RG,qA,qM,qL,ty3,zbt,zaa,zbu,zlp hb2,zb4,zb1,zb6]
  apply hK;clear hK K
  refine W.k fun K hK=>?_
  simp(disch:=omega)only[↓RU,RV,RH,↓reduceIte,qE,reduceCtorEq,if_pos,qN,w64,↓RS,RG,qA,qM,qL,zbt,zaa,zbu,zlp hb2,zb1,zb4]
  refine zaf.pc (yfa (r:=b) (by omega) (by omega)) rfl (.inl rfl) ?_
  simp(disch:=omega)only[↓RU,RV,RH,↓reduceIte,qE,reduceCtorEq,if_pos,qN,w64,↓RS,RG,qA,qM,qL,zbt,zaa,zbu,zlp hb2,zb1,zb4]
  apply hK;clear hK K
  refine XbN ?_
  refine xn ?_
  refine W.k fun K hK=>?_
  simp(disch:=omega)only[↓RU,RV,RH,↓reduceIte,qE,reduceCtorEq,if_pos,w64,↓RS,RG,qA,qM,qL,zaa]
  apply hK;clear hK K
  refine xn ?_
  refine ⟨(zbi g row.length g.length).2.length - (k+1),by omega,8,k+1,_,rfl,by omega,?_,rfl⟩
  simp [Env.put,Env.of,zsr hb2]
 try simp only[RL]at h3
 obtain rfl:k=(zbi g row.length g.length).2.length:=by omega
 rw [List.take_length]
 refine W.exit ?_
 refine xe ?_
 refine xe ?_
 refine XBlock.hit ?_
 refine xn ?_
 refine W.seq_draw (by kernel_rfl) fun K hK=>?_
 obtain ⟨zr,hzr,hzl,-⟩:=(yiu hg).at_ (i:=0) (j:=0) (by omega) (by omega)
 have hZl:=zdf (g:=g) (nw:=row.length) g.length
 have hpr:=Nat.mul_le_mul hgl.2 hb.2
 simp(disch:=omega)only[↓RU,RV,RH,↓reduceIte,qE,reduceCtorEq,if_pos,qN,w64,↓RS,RG,qA,qM,qL,ty8,zaa,hZl,hzl]
 refine zaf.pc (zrc (zfa g row.length g.length) (zbi g row.length g.length).2) (za0 (zl5 (f:=6) rfl rfl (zdf _) rfl) rfl) (.inl rfl) ?_
 simp(disch:=omega)only[↓RU,RV,RH,↓reduceIte,qE,reduceCtorEq,if_pos,qN,w64,↓RS,RG,qA,qM,qL,ty8,zaa,hZl,hzl]
 refine zaf.pc (zw1 (g:=(zfa g row.length g.length)) hzr (zbi g row.length g.length).2) (za0 (zl5 (f:=6) rfl rfl (zdf _) rfl) rfl) (.inl rfl) ?_
 simp(disch:=omega)only[↓RU,RV,RH,↓reduceIte,qE,reduceCtorEq,if_pos,qN,w64,↓RS,RG,qA,qM,qL,ty8,zaa,hZl,hzl]
 apply hK;clear hK K
 refine W.ret ?_
 refine Br rfl ?_
 have hok:okS g=true:=by unfold okS stG; rw [hw0,zv2.2 (by rw [hw0]; exact hg)]; simp; omega
 rw [zez,hok,if_pos rfl]
 unfold stG zG zmx stG
 rw [hw0]
 refine zho (k:=9) (zl5 (f:=5) rfl rfl (zdf _) rfl) ?_
 have he:(z6h (zbi g row.length g.length).2 == (g.length:Int)*row.length)=decide (z6h (zbi g row.length g.length).2=((g.length*row.length:Nat):Int)):=by rw [Int.natCast_mul]; rfl
 rw [← he]
 rfl
def zw9 (t:Txt):List Int:=t.map fun c=>(c.toNat:Int)
def zb2 (p:List Txt):List (List Int):=p.map zw9
def zie (p:List Txt):Bool:=p.all fun r=>r.all zdj
def zwa (p:List Txt):PV:=if zie p then zez (zb2 p) else .tup [.nilp,.bool false]
def okB (p:List Txt):Bool:=zie p && okS (zb2 p)
def gP (p:List Txt):List (List Int):=zG (zb2 p)
def rP (p:List Txt):List Rect:=(stG (zb2 p)).2
theorem zk6 (t:Txt):(zw9 t).length=t.length:=by simp [zw9]
theorem yad {t:Txt} {k:Nat} {c:UInt8} (h:t[k]?=some c):zw9 (t.take (k+1))=zw9 (t.take k)++[(c.toNat:Int)]:=by simp [zw9,tk h]
theorem z54 {p:List Txt} {i:Nat} {t:Txt} (h:p[i]?=some t):zb2 (p.take (i+1))=zb2 (p.take i)++[zw9 t]:=by simp [zb2,tk h]
theorem zeb (p:List Txt):(zb2 p).length=p.length:=by simp [zb2]
theorem zrp {p:List Txt} {r:Txt} {c:UInt8} (hr:r∈p) (hc:c∈r) (h:zdj c=false):zie p=false:=by
 unfold zie
 rw [List.all_eq_false]
 refine ⟨r,hr,?_⟩
 rw [Bool.not_eq_true,List.all_eq_false]
 exact ⟨c,hc,by rw [h]; exact Bool.false_ne_true⟩
theorem zu5 {g:List (List Int)} {i:Nat} (hi:i<6) {s:List Int × List Rect} (hs:zs6 s.1 s.2) {n:Nat} (hn:n≤6):∀ j,j≤n→∀ z∈zoy g i s j,0≤z∧z≤s.1.length+n
 | 0,_,z,h=>by simp [zoy]at h
 | j+1,hj,z,h=>by
  simp only[zoy,List.mem_append,List.mem_singleton]at h
  rcases h with h | rfl
  ·exact zu5 hi hs hn j (by omega) z h
  have h1:=zic (ks:=(zdz g i s j).1) (z:=gz g i j)
  obtain ⟨-,h2,-,-⟩:=zns (g:=g) hi hs j (by omega)
  omega
theorem zmk {g:List (List Int)} {nw:Nat} (hw:nw≤6) (hw1:1≤nw):∀ i,i≤6→∀ r∈zfa g nw i,∀ z∈r,0≤z∧z≤100
 | 0,_,r,h=>by simp [zfa]at h
 | i+1,hi,r,h=>by
  simp only[zfa,List.mem_append,List.mem_singleton]at h
  rcases h with h | rfl
  ·exact zmk hw hw1 i (by omega) r h
  intro z hz
  obtain ⟨h1,h2,-⟩:=zgv (g:=g) hw hw1 i (by omega)
  have:=zu5 (g:=g) (i:=i) (by omega) h1 hw nw (qR _) z hz
  omega
theorem z88 {g:List (List Int)} (h:okS g=true):GW g g.length (w0 g):=by
 unfold okS at h
 rw [qB]at h
 exact zv2.1 h.1
theorem yjk {g:List (List Int)} (h:okS g=true):GW (zG g) g.length (w0 g):=yiu (z88 h)
theorem yds {g:List (List Int)} (h:okS g=true):∀ r∈zG g,∀ z∈r,0≤z∧z≤100:=by
 obtain ⟨-,-,h1,h2,h3,h4⟩:=z88 h
 exact zmk h4 h3 _ h2
theorem zl9 {g:List (List Int)} (h:okS g=false):zez g = .tup [.nilp,.bool false]:=by rw [zez,h]; rfl
theorem zkj {g:List (List Int)} (h:okS g=true):zez g = .tup [zax (zG g) (stG g).2,.bool (zmx g)]:=by rw [zez,h]; rfl
theorem zf9 {S:Store} {lo k:Nat} (l:List (List Int)):(l.map eInts).mapM (rfz S lo (k+1))=some (l.map eInts):=zwe (fun _=>rfl) l
theorem yc2 {p:List Txt} (h:okB p=false):zwa p = .tup [.nilp,.bool false]:=by
 unfold okB at h
 unfold zwa
 cases hl:zie p with
 | false=>rfl
 | true=>rw [hl,Bool.true_and]at h; rw [if_pos rfl,zl9 h]
theorem z9z {p:List Txt} (h:okB p=true):zwa p = .tup [zax (gP p) (rP p),.bool (zmx (zb2 p))]:=by
 unfold okB at h
 rw [qB]at h
 rw [zwa,if_pos h.1,zkj h.2]
 rfl
theorem z3k {p:List Txt} (h:okB p=true):GW (gP p) p.length (w0 (zb2 p)):=by
 unfold okB at h
 rw [qB]at h
 have:=yjk h.2
 rwa [zeb]at this
theorem z87 {p:List Txt} (h:okB p=true):∀ r∈gP p,∀ z∈r,0≤z∧z≤100:=by
 unfold okB at h
 rw [qB]at h
 exact yds h.2
theorem zz5 (g:List (List Int)):(zgd g).length=g.length:=by simp [zgd]
def zq8 (p:List Txt):Bool:=zmx (zb2 p) && decide (zgd (gP p)=p)
def zha (p:List Txt):Bool:=okB p && zq8 p
def zf2 (p:List Txt):Bool:=zha p && decide (zy6 (gP p) 4 (w0 (zb2 p)) p.length=0)
def zio (p:List Txt) (ws:List Int):Bool:=decide (ws.length=(rP p).length) && ws.all zlb
def zdp (p:List Txt) (wss:List (List Int)):Bool:=zf2 p && wss.all (zio p)
theorem zkx {p:List Txt} {wss:List (List Int)} {ws:List Int} (hm:ws∈wss) (h:zio p ws=false):zdp p wss=false:=by
 unfold zdp
 rw [Bool.and_eq_false_iff]
 right
 rw [List.all_eq_false]
 exact ⟨ws,hm,by rw [h]; exact Bool.false_ne_true⟩
theorem zm6 {p:List Txt} (h:okB p=true):(rP p).length≤9:=by
 unfold okB okS at h
 simp only[qB,decide_eq_true_eq]at h
 exact h.2.2
theorem zt6 {p:List Txt} (h:okB p=true):1≤(rP p).length:=by
 unfold okB at h
 rw [qB]at h
 obtain ⟨-,-,h1,h2,h3,h4⟩:=z88 h.2
 obtain ⟨k1,-,k3⟩:=zgv (g:=zb2 p) h4 h3 _ h2
 have:=k1.1
 have:=k3 h1
 unfold rP stG
 omega
theorem zgq {p:List Txt} {ws:List Int} (h:zdp p [ws]=true):zf2 p=true∧ws.length=(rP p).length∧zd9 ws:=by
 unfold zdp zio at h
 simp only[List.all_cons,List.all_nil,Bool.and_true,qB,decide_eq_true_eq,List.all_eq_true,zlb]at h
 exact ⟨h.1,h.2.1,fun x hx=>h.2.2 x hx⟩
theorem zgn {M:List (List Bool)} {ws:List Int} {n:Nat}:(heaviest M ws n).length=n:=by simp [heaviest]
theorem z6e {g:List (List Int)} (hsm:g.length<2147483648) (hsr:∀ r∈g,r.length<2147483648) (h:okS g=false):PC Tryz.prog 131 [ze1 g] (.tup [.nilp,.bool false]) false:=by
 rw [← zl9 h]; exact zus hsm hsr
theorem z1r {g:List (List Int)} (hsm:g.length<2147483648) (hsr:∀ r∈g,r.length<2147483648) (h:okS g=true):PC Tryz.prog 131 [ze1 g] (.tup [zax (zG g) (stG g).2,.bool (zmx g)]) false:=by
 rw [← zkj h]; exact zus hsm hsr
theorem z90 {p:List Txt} (hs:Sm p):PC Tryz.prog 128 [zbc p] (zwa p) false:=by
 have hp:=hs.rows
 refine PC.of ⟨Tryz.func128,by kernel_rfl,rfl,by kernel_rfl⟩ zbl mixed (by show 1≤Tryz.f128.ntmps; decide) ?_
 refine W.r fun K hK=>?_
 simp(disch:=omega)only[↓RU,RV,RH,↓reduceIte,qE,reduceCtorEq,if_pos,↓RS,RG,qA,qM,qL]
 apply hK;clear hK K
 refine W.r fun K hK=>?_
 simp(disch:=omega)only[↓RU,RV,RH,↓reduceIte,qE,reduceCtorEq,if_pos,↓RS,RG,qA,qM,qL,ty1,zab,zdc,zaa]
 apply hK;clear hK K
 refine W.joinZ [4] (fun vs S=>∃ tk:Nat,zie p=true∧vs=[ze1 (zb2 p)]∧S=⟨[],tk⟩) ?_ ?_
 ·
  refine W.r fun K hK=>?_
  simp(disch:=omega)only[↓RU,RV,RH,↓reduceIte,qE,reduceCtorEq,if_pos,↓RS,RG,qA,qM,qL,ty6,zag]
  apply hK;clear hK K
  refine W.block ?_
  refine W.loopZ [4,11,12,13] (fun n vs S=>∃ i v0 tk:Nat,n=p.length - i∧i≤p.length∧((p.take i).all (fun r=>r.all zdj)=true)∧vs=[.loc 0 v0 0 i,zbc p,.int .i64 p.length,.int .i64 i]∧S=⟨[.arr v0 24 1 ((zb2 (p.take i)).map eInts)],tk⟩) (p.length) ?_ ?_
  ·refine ⟨1,[.loc 0 0 0 0,zbc p,.int .i64 p.length,.int .i64 0],⟨[.arr 0 24 1 ((zb2 (p.take 0)).map eInts)],1⟩,?_,?_,0,0,1,rfl,by omega,rfl,rfl,rfl⟩
   ·rfl
   rfl
  rintro n vs S - ⟨i,v0,tk,rfl,h_i,hall,rfl,rfl⟩
  refine W.r fun K hK=>?_
  simp(disch:=omega)only[↓RU,RV,RH,↓reduceIte,qE,reduceCtorEq,if_pos,w64,↓RS,RG,qA,qM,qL,zaa]
  apply hK;clear hK K
  refine W.seq ?_
  refine W.cond rfl (fun h=>?_) (fun h=>?_)
  ·try simp only[RL]at h
   obtain ⟨row,hrow,hrm⟩:=zah (show i<p.length by omega)
   have hrl:=hs.cols row hrm
   have hgk:(zb2 (p.take i)).length=i:=by rw [zeb,List.length_take]; omega
   have hgt:((zb2 (p.take i)).map eInts).take i=(zb2 (p.take i)).map eInts:=qT (by rw [List.length_map]; omega)
   refine W.skip ?_
   refine xn ?_
   refine W.seq ?_
   refine W.block ?_
   refine W.r fun K hK=>?_
   simp(disch:=omega)only[↓RU,RV,RH,↓reduceIte,qE,reduceCtorEq,if_pos,↓RS,RG,qA,qM,qL,ty6,zag,hrow]
   apply hK;clear hK K
   refine W.r fun K hK=>?_
   simp(disch:=omega)only[↓RU,RV,RH,↓reduceIte,qE,reduceCtorEq,if_pos,↓RS,RG,qA,qM,qL,zab,zaa]
   apply hK;clear hK K
   refine W.seq ?_
   refine W.r fun K hK=>?_
   simp(disch:=omega)only[↓RU,RV,RH,↓reduceIte,qE,reduceCtorEq,if_pos,w64,↓RS,RG,qA,qM,qL,ty7,zag,zfz]
   apply hK;clear hK K
   refine W.block ?_
   refine W.loop [4,11,12,13,7,19,20,21] (fun n vs S=>∃ k v1 t:Nat,n=row.length - k∧k≤row.length∧((row.take k).all zdj=true)∧vs=[.loc 0 v0 0 i,zbc p,.int .i64 p.length,.int .i64 i,.loc 1 v1 0 k,.sl (row.map eB) row.length,.int .i64 row.length,.int .i64 k]∧S=⟨[.arr v0 24 1 ((zb2 (p.take i)).map eInts),.arr v1 3 1 ((zw9 (row.take k)).map (.int .i64))],t⟩) (row.length) ?_ ?_
   ·refine ⟨2,0,_,_,rfl,Nat.zero_le _,rfl,?_,rfl⟩
    simp [Env.put,Env.of]
   rintro n vs S - ⟨k,v1,t,rfl,h_k,hrk,rfl,rfl⟩
   refine W.r fun K hK=>?_
   simp(disch:=omega)only[↓RU,RV,RH,↓reduceIte,qE,reduceCtorEq,if_pos,w64,↓RS,RG,qA,qM,qL,zaa]
   apply hK;clear hK K
   refine W.seq ?_
   refine W.cond rfl (fun h1=>?_) (fun h1=>?_)
   ·try simp only[RL]at h1
    obtain ⟨c,hc,hcm⟩:=zah (show k<row.length by omega)
    have hcb:=c.toNat_lt
    have hrowk:(zw9 (row.take k)).length=k:=by rw [zk6,List.length_take]; omega
    have hrowt:((zw9 (row.take k)).map (PV.int .i64)).take k=(zw9 (row.take k)).map (PV.int .i64):=qT (by rw [List.length_map]; omega)
    refine W.skip ?_
    refine xn ?_
    refine W.seq ?_
    refine W.block ?_
    refine W.r fun K hK=>?_
    simp(disch:=omega)only[↓RU,RV,RH,↓reduceIte,qE,reduceCtorEq,if_pos,↓RS,RG,qA,qM,qL,ty7,zfz,hc]
    apply hK;clear hK K
    refine W.seq ?_
    refine W.r fun K hK=>?_
    rcases (show (c.toNat:Int)<97∨(c.toNat:Int)>122∨(97≤c.toNat∧c.toNat≤122) by omega) with hb | hb | hb
    ·skip
     have hd:decide ((c.toNat:Int)<97)=true:=decide_eq_true hb
     have hlc:zdj c=false:=by unfold zdj; rw [decide_eq_false (by omega)]; rfl
     simp(disch:=omega)only[↓RU,RV,RH,↓reduceIte,qE,reduceCtorEq,if_pos,w64,↓RS,RG,qA,qM,qL,zfz,hd]
     apply hK;clear hK K
     refine W.cond rfl (fun h2=>?_) (fun h2=>?_)
     ·try simp only[RL]at h2
      refine W.r fun K hK=>?_
      simp(disch:=omega)only[↓RU,RV,RH,↓reduceIte,qE,reduceCtorEq,if_pos,↓RS,RG,qA,qM,qL]
      apply hK;clear hK K
      refine W.ret ?_
      refine XThen.ret ?_
      refine XBlock.ret ?_
      refine XThen.ret ?_
      refine XThen.ret ?_
      refine XBlock.ret ?_
      refine XThen.ret ?_
      refine XBlock.ret ?_
      refine XThen.ret ?_
      refine XThen.ret ?_
      refine XBlock.ret ?_
      refine XThen.ret ?_
      refine Br rfl ?_
      rw [zwa,zrp hrm hcm hlc]
      rfl
     try simp only[RL]at h2
     exact absurd h2 (by simp)
    ·skip
     have hd:decide ((c.toNat:Int)<97)=false:=decide_eq_false (by omega)
     have hd2:decide ((c.toNat:Int)>122)=true:=decide_eq_true hb
     have hlc:zdj c=false:=by unfold zdj; rw [decide_eq_false (p:=c.toNat≤122) (by omega),Bool.and_false]
     simp(disch:=omega)only[↓RU,RV,RH,↓reduceIte,qE,reduceCtorEq,if_pos,w64,↓RS,RG,qA,qM,qL,zfz,hd,hd2]
     apply hK;clear hK K
     refine W.cond rfl (fun h2=>?_) (fun h2=>?_)
     ·try simp only[RL]at h2
      refine W.r fun K hK=>?_
      simp(disch:=omega)only[↓RU,RV,RH,↓reduceIte,qE,reduceCtorEq,if_pos,↓RS,RG,qA,qM,qL]
      apply hK;clear hK K
      refine W.ret ?_
      refine XThen.ret ?_
      refine XBlock.ret ?_
      refine XThen.ret ?_
      refine XThen.ret ?_
      refine XBlock.ret ?_
      refine XThen.ret ?_
      refine XBlock.ret ?_
      refine XThen.ret ?_
      refine XThen.ret ?_
      refine XBlock.ret ?_
      refine XThen.ret ?_
      refine Br rfl ?_
      rw [zwa,zrp hrm hcm hlc]
      rfl
     try simp only[RL]at h2
     exact absurd h2 (by simp)
    skip
    have hd:decide ((c.toNat:Int)<97)=false:=decide_eq_false (by omega)
    have hd2:decide ((c.toNat:Int)>122)=false:=decide_eq_false (by omega)
    have hlc:zdj c=true:=by unfold zdj; rw [decide_eq_true hb.1,decide_eq_true hb.2]; rfl
    simp(disch:=omega)only[↓RU,RV,RH,↓reduceIte,qE,reduceCtorEq,if_pos,w64,↓RS,RG,qA,qM,qL,zfz,hd,hd2]
    apply hK;clear hK K
    refine W.cond rfl (fun h2=>?_) (fun h2=>?_)
    ·try simp only[RL]at h2
     exact absurd h2 (by simp)
    try simp only[RL]at h2
    refine W.skip ?_
    refine xn ?_
    refine W.k fun K hK=>?_
    simp(disch:=omega)only[↓RU,RV,RH,↓reduceIte,qE,reduceCtorEq,if_pos,w64,↓RS,RG,qA,qM,qL,zab,zaa,zfz,hrowk,hrowt,qR]
    apply hK;clear hK K
    refine XbN ?_
    refine xn ?_
    refine W.k fun K hK=>?_
    simp(disch:=omega)only[↓RU,RV,RH,↓reduceIte,qE,reduceCtorEq,if_pos,w64,↓RS,RG,qA,qM,qL,zaa]
    apply hK;clear hK K
    refine xn ?_
    refine ⟨row.length - (k+1),by omega,2,k+1,t+1,t+2,rfl,by omega,zmr hc hrk hlc,?_,?_⟩
    ·simp [Env.put,Env.of]
    simp [zcm,yad hc]
   try simp only[RL]at h1
   obtain rfl:k=row.length:=by omega
   have hra:row.all zdj=true:=by rw [List.take_length]at hrk; exact hrk
   have hrz:=zk6 row
   rw [List.take_length]
   generalize hYe:zw9 row=Y at hrz
   have hYt:(Y.map (PV.int .i64)).take row.length=Y.map (PV.int .i64):=qT (by rw [List.length_map]; omega)
   have hYE:eInts Y=PV.sl (Y.map (PV.int .i64)) row.length:=by rw [← hrz]
   refine W.exit ?_
   refine xe ?_
   refine xe ?_
   refine XBlock.hit ?_
   refine xn ?_
   refine W.k fun K hK=>?_
   simp(disch:=omega)only[↓RU,RV,RH,↓reduceIte,qE,reduceCtorEq,if_pos,↓RS,RG,qA,qM,qL,ty1,zab,zdc,zaa,hgk,hgt,qR]
   apply hK;clear hK K
   refine XbN ?_
   refine xn ?_
   refine W.k fun K hK=>?_
   simp(disch:=omega)only[↓RU,RV,RH,↓reduceIte,qE,reduceCtorEq,if_pos,w64,↓RS,RG,qA,qM,qL,zaa]
   apply hK;clear hK K
   refine xn ?_
   refine ⟨p.length - (i+1),by omega,1,[.loc 0 (t+1) 0 (i+1),zbc p,.int .i64 p.length,.int .i64 (i+1)],⟨[.arr (t+1) 24 1 ((zb2 (p.take (i+1))).map eInts)],(t+2)⟩,?_,?_,(i+1),(t+1),(t+2),rfl,by omega,zmr hrow hall hra,rfl,rfl⟩
   ·simp [-qU,Store.frz,zb5,zci,zav,zbo,zbr,zbn,zb8,zbe,zbh,zbf,zay,zaz,zbs,zbg,zbp,zbd,Env.put,Env.of,zad,zbq,qP,qC]
   simp [-qU,Store.frz,zb5,zci,zav,zbo,zbr,zbn,zb8,zbe,zbh,zbf,zay,zaz,zbs,zbg,zbp,zbd,Env.put,Env.of,zad,zbq,qP,qC,z54 hrow,hYe,hYt,hYE,hrz]
  try simp only[RL]at h
  refine W.exit ?_
  refine xe ?_
  refine xe ?_
  refine XBlock.hit ?_
  refine xn ?_
  obtain rfl:i=p.length:=by omega
  rw [List.take_length]at hall ⊢
  have hgt2:((zb2 p).map eInts).take p.length=(zb2 p).map eInts:=qT (by simp [zb2])
  have hgE:ze1 (zb2 p)=PV.sl ((zb2 p).map eInts) p.length:=by rw [← zeb p]
  refine ⟨0,[ze1 (zb2 p)],⟨[],tk⟩,?_,?_,tk,hall,rfl,rfl⟩
  ·simp [-qU,Store.frz,zb5,zci,zav,zbo,zbr,zbn,zb8,zbe,zbh,zbf,zay,zaz,zbs,zbg,zbp,zbd,Env.put,Env.of,zad,zbq,qP,qC,hgt2,hgE,zeb,zf9]
  simp [-qU,Store.frz,zb5,zci,zav,zbo,zbr,zbn,zb8,zbe,zbh,zbf,zay,zaz,zbs,zbg,zbp,zbd,Env.put,Env.of,zad,zbq,qP,qC]
 rintro vs S - ⟨tk,hlet,rfl,rfl⟩
 refine W.r fun K hK=>?_
 cases hok:okS (zb2 p)
 ·skip
  simp(disch:=omega)only[↓RU,RV,RH,↓reduceIte,qE,reduceCtorEq,if_pos,qN,↓RS,RG,qA,qM,qL]
  refine zaf.pc (z6e (g:=zb2 p) (by rw [zeb]; omega) (fun r hr=>by obtain ⟨t,ht,rfl⟩:=List.mem_map.1 hr; rw [zk6]; exact hs.cols t ht) hok) rfl (.inr rfl) ?_
  simp(disch:=omega)only[↓RU,RV,RH,↓reduceIte,qE,reduceCtorEq,if_pos,qN,↓RS,RG,qA,qM,qL]
  apply hK;clear hK K
  refine W.ret ?_
  refine Br rfl ?_
  rw [zwa,hlet,if_pos rfl,zl9 hok]
  rfl
 skip
 simp(disch:=omega)only[↓RU,RV,RH,↓reduceIte,qE,reduceCtorEq,if_pos,qN,↓RS,RG,qA,qM,qL]
 refine zaf.pc (z1r (g:=zb2 p) (by rw [zeb]; omega) (fun r hr=>by obtain ⟨t,ht,rfl⟩:=List.mem_map.1 hr; rw [zk6]; exact hs.cols t ht) hok) rfl (.inr rfl) ?_
 simp(disch:=omega)only[↓RU,RV,RH,↓reduceIte,qE,reduceCtorEq,if_pos,qN,↓RS,RG,qA,qM,qL]
 apply hK;clear hK K
 refine W.ret ?_
 refine Br rfl ?_
 rw [zwa,hlet,if_pos rfl,zkj hok]
 rfl
theorem yge {p:List Txt} (hs:Sm p) (h:okB p=false):PC Tryz.prog 128 [zbc p] (.tup [.nilp,.bool false]) false:=by
 rw [← yc2 h]; exact z90 hs
theorem yc3 {p:List Txt} (hs:Sm p) (h:okB p=true):PC Tryz.prog 128 [zbc p] (.tup [zax (gP p) (rP p),.bool (zmx (zb2 p))]) false:=by
 rw [← z9z h]; exact z90 hs
theorem z5c {p:List Txt} (hs:Sm p) (h:okB p=false):PC Tryz.prog 97 [zbc p] (.tup [.nilp,.bool false]) false:=by
 refine PC.of ⟨Tryz.func97,by kernel_rfl,rfl,by kernel_rfl⟩ zbl mixed (by show 1≤Tryz.f97.ntmps; decide) ?_
 refine W.r fun K hK=>?_
 simp(disch:=omega)only[↓RU,RV,RH,↓reduceIte,qE,reduceCtorEq,if_pos]
 apply hK;clear hK K
 refine W.r fun K hK=>?_
 simp(disch:=omega)only[↓RU,RV,RH,↓reduceIte,qE,reduceCtorEq,if_pos,qN]
 refine zaf.pc (yge hs h) rfl (.inr rfl) ?_
 simp(disch:=omega)only[↓RU,RV,RH,↓reduceIte,qE,reduceCtorEq,if_pos,qN]
 apply hK;clear hK K
 refine W.r fun K hK=>?_
 simp(disch:=omega)only[↓RU,RV,RH,↓reduceIte,qE,reduceCtorEq,if_pos,qN]
 apply hK;clear hK K
 refine W.ret ?_
 refine Br rfl ?_
 rfl
theorem z0x {p:List Txt} (hs:Sm p) (h:okB p=true):PC Tryz.prog 97 [zbc p] (.tup [zax (gP p) (rP p),.bool (zq8 p)]) false:=by
 have hg:=z3k h
 have hz:=z87 h
 have hrows:=hs.rows
 refine PC.of ⟨Tryz.func97,by kernel_rfl,rfl,by kernel_rfl⟩ zbl mixed (by show 1≤Tryz.f97.ntmps; decide) ?_
 refine W.r fun K hK=>?_
 simp(disch:=omega)only[↓RU,RV,RH,↓reduceIte,qE,reduceCtorEq,if_pos]
 apply hK;clear hK K
 refine W.r fun K hK=>?_
 simp(disch:=omega)only[↓RU,RV,RH,↓reduceIte,qE,reduceCtorEq,if_pos,qN]
 refine zaf.pc (yc3 hs h) rfl (.inr rfl) ?_
 simp(disch:=omega)only[↓RU,RV,RH,↓reduceIte,qE,reduceCtorEq,if_pos,qN]
 apply hK;clear hK K
 refine W.r fun K hK=>?_
 cases hf:zmx (zb2 p)
 ·skip
  simp(disch:=omega)only[↓RU,RV,RH,↓reduceIte,qE,reduceCtorEq,if_pos,qN]
  apply hK;clear hK K
  refine W.ret ?_
  refine Br rfl ?_
  rw [zq8,hf]
  rfl
 skip
 simp(disch:=omega)only[↓RU,RV,RH,↓reduceIte,qE,reduceCtorEq,if_pos,qN,hf]
 refine zaf.pc (ygz hg (rP p) hz) rfl (.inl rfl) ?_
 simp(disch:=omega)only[↓RU,RV,RH,↓reduceIte,qE,reduceCtorEq,if_pos,qN,hf]
 refine zaf.pc (zxy (p:=zgd (gP p)) (q:=p) (by rw [zz5,hg.1]; omega) hs.rows) rfl (.inl rfl) ?_
 simp(disch:=omega)only[↓RU,RV,RH,↓reduceIte,qE,reduceCtorEq,if_pos,qN,hf]
 apply hK;clear hK K
 refine W.ret ?_
 refine Br rfl ?_
 rw [zq8,hf]
 rfl
theorem z5b {p:List Txt} (hs:Sm p):∃ x,PC Tryz.prog 97 [zbc p] (.tup [x,.bool (zha p)]) false∧(zha p=true→x=zax (gP p) (rP p))∧∀ (S:Store) (k:Nat),reify S true (k+1) x=some x:=by
 unfold zha
 cases h:okB p with
 | false=>exact ⟨_,z5c hs h,(fun h=>by cases h),fun _ _=>rfl⟩
 | true=>exact ⟨_,z0x hs h,fun _=>rfl,fun _ _=>rfl⟩
theorem z1c {p:List Txt} (hs:Sm p) {x:PV} (hx:PC Tryz.prog 97 [zbc p] (.tup [x,.bool (zha p)]) false) (hy:zha p=true→x=zax (gP p) (rP p)) (hr:∀ (S:Store) (k:Nat),reify S true (k+1) x=some x):PC Tryz.prog 69 [zbc p] (.tup [x,.bool (zf2 p)]) false:=by
 refine PC.of ⟨Tryz.func69,by kernel_rfl,rfl,by kernel_rfl⟩ zbl mixed (by show 1≤Tryz.f69.ntmps; decide) ?_
 refine W.r fun K hK=>?_
 simp(disch:=omega)only[↓RU,RV,RH,↓reduceIte,qE,reduceCtorEq,if_pos]
 apply hK;clear hK K
 refine W.r fun K hK=>?_
 simp(disch:=omega)only[↓RU,RV,RH,↓reduceIte,qE,reduceCtorEq,if_pos,qN]
 refine zaf.pc (hx) rfl (.inr rfl) ?_
 simp(disch:=omega)only[↓RU,RV,RH,↓reduceIte,qE,reduceCtorEq,if_pos,qN]
 apply hK;clear hK K
 refine W.r fun K hK=>?_
 cases hf:zha p
 ·skip
  simp(disch:=omega)only[↓RU,RV,RH,↓reduceIte,qE,reduceCtorEq,if_pos,qN]
  apply hK;clear hK K
  refine W.ret ?_
  refine Br rfl ?_
  rw [zf2,hf]
  exact zho (k:=9) (hr _ 8) rfl
 skip
 have hxe:=hy hf
 subst hxe
 have hok:okB p=true:=by unfold zha at hf; rw [qB]at hf; exact hf.1
 have hg:=z3k hok
 simp(disch:=omega)only[↓RU,RV,RH,↓reduceIte,qE,reduceCtorEq,if_pos,qN,hf]
 refine zaf.pc (z7r hg (rP p)) rfl (.inl rfl) ?_
 simp(disch:=omega)only[↓RU,RV,RH,↓reduceIte,qE,reduceCtorEq,if_pos,qN,hf]
 apply hK;clear hK K
 refine W.ret ?_
 refine Br rfl ?_
 rw [zf2,hf]
 rfl
theorem zr5 {p:List Txt} (h:zf2 p=true):okB p=true∧zf2 p=true:=by
 refine ⟨?_,h⟩
 unfold zf2 zha at h
 simp only[qB]at h
 exact h.1.1
theorem zui {p:List Txt} (hs:Sm p):∃ x,PC Tryz.prog 69 [zbc p] (.tup [x,.bool (zf2 p)]) false∧(zf2 p=true→x=zax (gP p) (rP p))∧∀ (S:Store) (k:Nat),reify S true (k+1) x=some x:=by
 obtain ⟨x,h1,h2,h3⟩:=z5b hs
 refine ⟨x,z1c hs h1 h2 h3,fun h=>h2 ?_,h3⟩
 unfold zf2 at h
 rw [qB]at h
 exact h.1
def Same (n:Nat) (M:List (List Bool)) (ms:List Nat):Prop:=Sq n M∧ms.length=n∧∀ a b,a<n→b<n→zdg M a b=zn9 ms a b
theorem zmy {n:Nat} {M:List (List Bool)} (h:Sq n M) {a b x y:Nat} {v:Bool} (ha:a<n) (hb:b<n):zdg (z6d M a b v) x y=if x=a∧y=b then v else zdg M x y:=by
 obtain ⟨row,hr,hl,-⟩:=h.at_ ha hb
 rw [zh3 hr]
 unfold zdg
 rw [List.getElem?_set]
 by_cases hx:a=x
 ·subst hx
  rw [if_pos rfl,if_pos (by rw [h.1]; exact ha),Option.getD_some,List.getElem?_set,hr]
  by_cases hy:b=y
  ·subst hy
   rw [if_pos rfl,if_pos (by omega),if_pos ⟨rfl,rfl⟩]; rfl
  rw [if_neg hy,if_neg (fun h=>hy h.2.symm)]; rfl
 rw [if_neg hx,if_neg (fun h=>hx h.1.symm)]
theorem z2h {n:Nat} {M:List (List Bool)} (h:Sq n M) {k a:Nat} (hk:k<n) (ha:a<n):∀ i,i≤n→Sq n ((List.range i).foldl (clB k a) M) ∧
  ∀ x y,x<n→y<n→zdg ((List.range i).foldl (clB k a) M) x y=if x=a∧y<i then zdg M a y || (zdg M a k && zdg M k y) else zdg M x y
 | 0,_=>⟨h,fun x y _ _=>by simp⟩
 | i+1,hi=>by
  obtain ⟨h1,h2⟩:=z2h h hk ha i (by omega)
  rw [zc0]
  generalize (List.range i).foldl (clB k a) M=X at h1 h2 ⊢
  refine ⟨h1.clB ha,fun x y hx hy=>?_⟩
  unfold clB
  rw [zmy h1 ha (by omega),h2 a i ha (by omega),h2 a k ha hk,h2 k i hk (by omega),h2 x y hx hy]
  have e1:(if a=a∧k<i then zdg M a k || (zdg M a k && zdg M k k) else zdg M a k)=zdg M a k:=by
   split
   ·cases zdg M a k <;> simp
   rfl
  have e2:(if k=a∧i<i then zdg M a i || (zdg M a k && zdg M k i) else zdg M k i)=zdg M k i:=by rw [if_neg (by omega)]
  have e3:(if a=a∧i<i then zdg M a i || (zdg M a k && zdg M k i) else zdg M a i)=zdg M a i:=by rw [if_neg (by omega)]
  rw [e1,e2,e3]
  by_cases hxa:x=a
  ·subst hxa
   by_cases hyi:y=i
   ·subst hyi; rw [if_pos ⟨rfl,rfl⟩,if_pos ⟨rfl,by omega⟩]
   rw [if_neg (fun h=>hyi h.2)]
   by_cases hlt:y<i
   ·rw [if_pos ⟨rfl,hlt⟩,if_pos ⟨rfl,by omega⟩]
   rw [if_neg (fun h=>hlt h.2),if_neg (fun h=>hlt (by have:=h.2; omega))]
  rw [if_neg (fun h=>hxa h.1),if_neg (fun h=>hxa h.1),if_neg (fun h=>hxa h.1)]
theorem zxd {ms:List Nat} {a m x y:Nat} (ha:a<ms.length):zn9 (ms.set a m) x y=if x=a then m.testBit y else zn9 ms x y:=by
 unfold zn9
 rw [List.getElem?_set]
 by_cases h:a=x
 ·subst h; rw [if_pos rfl,if_pos ha,if_pos rfl]; rfl
 rw [if_neg h,if_neg (Ne.symm h)]
theorem ybn {c a:Nat} {ms:List Nat}:(ydx c ms a).length=ms.length:=by unfold ydx; split <;> simp
theorem Same.clA {n:Nat} {M:List (List Bool)} {ms:List Nat} (h:Same n M ms) {k a:Nat} (hk:k<n) (ha:a<n):Same n (clA n k M a) (ydx k ms a):=by
 obtain ⟨h1,h2,h3⟩:=h
 obtain ⟨k1,k2⟩:=z2h h1 hk ha n (qR _)
 refine ⟨k1,by rw [ybn,h2],fun x y hx hy=>?_⟩
 unfold Fw.clA
 rw [k2 x y hx hy]
 obtain ⟨m,hm,-⟩:=zah (show a<ms.length by omega)
 obtain ⟨c,hc,-⟩:=zah (show k<ms.length by omega)
 have hak:zdg M a k=m.testBit k:=by rw [h3 a k ha hk,zpu hm]
 cases hb:m.testBit k with
 | true =>
  rw [ybo hm hc hb,zxd (by omega),hak,hb]
  by_cases hxa:x=a
  ·subst hxa
   rw [if_pos ⟨rfl,hy⟩,if_pos rfl,Nat.testBit_or,h3 x y hx hy,h3 k y hk hy,zpu hm,zpu hc,Bool.true_and]
  rw [if_neg (fun h=>hxa h.1),if_neg hxa,h3 x y hx hy]
 | false =>
  rw [ye9 hm hb,hak,hb]
  by_cases hxa:x=a
  ·subst hxa; rw [if_pos ⟨rfl,hy⟩,Bool.false_and,Bool.or_false,h3 x y hx hy]
  rw [if_neg (fun h=>hxa h.1),h3 x y hx hy]
theorem Same.fold {n:Nat} {f:List (List Bool)→Nat→List (List Bool)} {g:List Nat→Nat→List Nat}:∀ (i:Nat) {M:List (List Bool)} {ms:List Nat},i≤n→(∀ M ms j,j<n→Same n M ms→Same n (f M j) (g ms j))→Same n M ms→Same n ((List.range i).foldl f M) ((List.range i).foldl g ms)
 | 0,_,_,_,_,h=>h
 | i+1,M,ms,hi,hs,h=>by
  rw [zc0,zc0]
  exact hs _ _ i (by omega) (Same.fold i (by omega) hs h)
theorem Same.close {p:List Txt} {kind:Int} {n:Nat} {M:List (List Bool)} (h:Same n M (just p kind)):Same n (zgk M) (ydy p kind):=by
 unfold zgk ydy
 rw [h.1.1,h.2.1]
 exact Same.fold n (qR _) (fun _ _ k hk h=>Same.fold n (qR _) (fun _ _ a ha h=>h.clA hk ha) h) h
section
theorem zpx {α:Type} {f g:α→Bool}:∀ {l:List α},(∀ x∈l,f x=true→g x=true)→(∃ x∈l,g x=true∧f x=false)→l.countP f<l.countP g
 | [],_,h=>by obtain ⟨x,hx,_⟩:=h; simp at hx
 | a::l,h1,h2=>by
  have hle:l.countP f≤l.countP g:=List.countP_mono_left fun x hx=>h1 x (by simp [hx])
  have ha:=h1 a (by simp)
  rw [List.countP_cons,List.countP_cons]
  obtain ⟨x,hx,k1,k2⟩:=h2
  rcases List.mem_cons.1 hx with rfl | hx
  ·rw [k1,k2]; simp; omega
  have:=zpx (l:=l) (fun x hx=>h1 x (by simp [hx])) ⟨x,hx,k1,k2⟩
  cases hf:f a with
  | false=>simp; omega
  | true=>rw [ha hf]; simp; omega
def ahead (n:Nat) (rk:Nat→Nat) (b:Nat):Nat:=(List.range n).countP fun a=>decide (rk a<rk b)
theorem ybm {n:Nat} {rk:Nat→Nat} {a b:Nat} (ha:a<n) (h:rk a<rk b):ahead n rk a<ahead n rk b :=
 zpx (fun x _ hx=>by simp at hx ⊢; omega) ⟨a,by simpa using ha,by simpa using h,by simp⟩
theorem ye8 {n:Nat} {rk:Nat→Nat} {b:Nat} (hb:b<n):ahead n rk b<n:=by
 have:=zpx (l:=List.range n) (f:=fun a=>decide (rk a<rk b)) (g:=fun _=>true) (fun _ _ _=>rfl) ⟨b,by simpa using hb,rfl,by simp⟩
 simpa [ahead] using this
section
variable {M:List (List Bool)} {ms:List Nat} {ws:List Int} {n:Nat} {rk:Nat→Nat}
def beg (M:List (List Bool)) (ws:List Int) (n b:Nat):Int:=hvF M (HB M ws n) b n
def Low (M:List (List Bool)) (ws:List Int) (n:Nat) (out:List Int):Prop:=out.length=n∧∀ b,b<n→0≤zdm out b∧zdm out b≤beg M ws n b
def Ge (n:Nat) (o out:List Int):Prop:=∀ b,b<n→zdm o b≤zdm out b
theorem Ge.refl (o:List Int):Ge n o o:=fun _ _=>Int.le_refl _
theorem Ge.trans {a b c:List Int} (h:Ge n a b) (k:Ge n b c):Ge n a c:=fun x hx=>Int.le_trans (h x hx) (k x hx)
theorem zp2 {l:List Int} {b y:Nat} {v:Int} (hb:b<l.length):zdm (l.set b v) y=if y=b then v else zdm l y:=by
 unfold zdm
 rw [List.getElem?_set]
 by_cases h:b=y
 ·subst h; rw [if_pos rfl,if_pos hb,if_pos rfl]; rfl
 rw [if_neg h,if_neg (Ne.symm h)]
theorem zs5 (hu:Up M n rk) {b:Nat} (hb:b<n):HB M ws n b=beg M ws n b+zdm ws b:=yg9 hu hb
theorem ycu (hs:Same n M ms) (hu:Up M n rk) {out:List Int} (h:Low M ws n out) {a b:Nat} (ha:a<n) (hb:b<n) :
  Low M ws n (plB ms ws a out b)∧Ge n out (plB ms ws a out b)∧(zn9 ms a b=true→zdm out a+zdm ws a≤zdm (plB ms ws a out b) b):=by
 unfold plB
 cases hbit:zn9 ms a b with
 | false=>exact ⟨h,Ge.refl _,fun h=>by cases h⟩
 | true =>
  have hM:zdg M a b=true:=by rw [hs.2.2 a b ha hb]; exact hbit
  have hge:=z73 (M:=M) (g:=HB M ws n) (b:=b) ha hM
  have h1:=h.2 a ha
  have h2:=h.2 b hb
  have h3:=zs5 (ws:=ws) hu ha
  rw [if_pos rfl]
  refine ⟨⟨by simp [h.1],fun y hy=>?_⟩,fun y hy=>?_,fun _=>?_⟩
  ·rw [zp2 (by rw [h.1]; exact hb)]
   split
   ·rename_i e; subst e
    unfold beg at *
    omega
   exact h.2 y hy
  ·rw [zp2 (by rw [h.1]; exact hb)]
   split
   ·rename_i e; subst e; omega
   exact Int.le_refl _
  rw [zp2 (by rw [h.1]; exact hb),if_pos rfl]; omega
theorem z31 (hs:Same n M ms) (hu:Up M n rk) {out:List Int} (h:Low M ws n out) {a:Nat} (ha:a<n):∀ i,i≤n →
  Low M ws n ((List.range i).foldl (plB ms ws a) out)∧Ge n out ((List.range i).foldl (plB ms ws a) out)∧∀ b,b<i→zn9 ms a b=true→zdm out a+zdm ws a≤zdm ((List.range i).foldl (plB ms ws a) out) b
 | 0,_=>⟨h,Ge.refl _,fun b hb=>by omega⟩
 | i+1,hi=>by
  obtain ⟨h1,h2,h3⟩:=z31 hs hu h ha i (by omega)
  rw [zc0]
  generalize (List.range i).foldl (plB ms ws a) out=X at h1 h2 h3 ⊢
  obtain ⟨k1,k2,k3⟩:=ycu hs hu h1 ha (show i<n by omega)
  refine ⟨k1,h2.trans k2,fun b hb hbit=>?_⟩
  by_cases e:b=i
  ·subst e
   have:=k3 hbit
   have:=h2 a ha
   omega
  have:=h3 b (by omega) hbit
  have:=k2 b (by omega)
  omega
theorem z32 (hs:Same n M ms) (hu:Up M n rk) (hl:ws.length=n) {out:List Int} (h:Low M ws n out):∀ i,i≤n →
  Low M ws n ((List.range i).foldl (plA ms ws) out)∧Ge n out ((List.range i).foldl (plA ms ws) out)∧∀ a b,a<i→b<n→zn9 ms a b=true→zdm out a+zdm ws a≤zdm ((List.range i).foldl (plA ms ws) out) b
 | 0,_=>⟨h,Ge.refl _,fun a b ha=>by omega⟩
 | i+1,hi=>by
  obtain ⟨h1,h2,h3⟩:=z32 hs hu hl h i (by omega)
  rw [zc0]
  generalize (List.range i).foldl (plA ms ws) out=X at h1 h2 h3 ⊢
  obtain ⟨k1,k2,k3⟩:=z31 hs hu h1 (show i<n by omega) n (qR _)
  have e:plA ms ws X i=(List.range n).foldl (plB ms ws i) X:=by unfold plA; rw [hl]
  rw [e]
  refine ⟨k1,h2.trans k2,fun a b ha hb hbit=>?_⟩
  by_cases e2:a=i
  ·subst e2
   have:=k3 b hb hbit
   have:=h2 a (by omega)
   omega
  have:=h3 a b (by omega) hb hbit
  have:=k2 b hb
  omega
theorem yhu {g:Nat→Int} {b:Nat} {B:Int} (hB:0≤B):∀ {i:Nat},(∀ a,a<i→zdg M a b=true→g a≤B)→hvF M g b i≤B:=fun h=>(zix hB h).2
theorem z0z {g:Nat→Int} {b:Nat}:∀ i,0≤hvF M g b i
 | 0=>by simp [hvF]
 | i+1=>by
  have:=z0z (g:=g) (b:=b) i
  rw [zib]
  split <;> omega
theorem zr4 (hs:Same n M ms) (hu:Up M n rk) (hl:ws.length=n):∀ k,k≤n→Low M ws n ((List.range k).foldl (plN ms ws) (List.replicate n 0)) ∧
  ∀ b,b<n→ahead n rk b<k→zdm ((List.range k).foldl (plN ms ws) (List.replicate n 0)) b=beg M ws n b
 | 0,_=>by
  refine ⟨⟨by simp,fun b hb=>?_⟩,fun b hb h=>by omega⟩
  have:zdm (List.replicate n 0) b=0:=by simp [zdm,hb]
  have h0:=z0z (M:=M) (g:=HB M ws n) (b:=b) n
  unfold beg
  simp only[List.range_zero,List.foldl_nil]
  omega
 | k+1,hk=>by
  obtain ⟨h1,h2⟩:=zr4 hs hu hl k (by omega)
  rw [zc0]
  generalize (List.range k).foldl (plN ms ws) (List.replicate n 0)=X at h1 h2 ⊢
  have e:plN ms ws X k=(List.range n).foldl (plA ms ws) X:=by unfold plN; rw [hl]
  rw [e]
  obtain ⟨k1,k2,k3⟩:=z32 hs hu hl h1 n (qR _)
  refine ⟨k1,fun b hb hc=>?_⟩
  have hlo:=k1.2 b hb
  have:beg M ws n b≤zdm ((List.range n).foldl (plA ms ws) X) b:=by
   unfold beg
   refine yhu hlo.1 fun a ha hab=>?_
   have hrk:=hu.up a b ha hb hab
   have hca:=ybm ha hrk
   have h4:=h2 a ha (by omega)
   have h5:=k3 a b ha hb (by rw [← hs.2.2 a b ha hb]; exact hab)
   rw [h4,← zs5 hu ha]at h5
   exact h5
  omega
theorem zvl {f:Nat→Int} {l:List Nat} {m:Int}:(l.map f).foldl max m=l.foldl (fun m a=>max m (f a)) m:=by
 rw [List.foldl_map]
theorem zra {α β:Type} {f g:β→α→β}:∀ {l:List α} {z:β},(∀ x∈l,∀ z,f z x=g z x)→l.foldl f z=l.foldl g z
 | [],_,_=>rfl
 | a::l,z,h=>by
  rw [List.foldl_cons,List.foldl_cons,h a (by simp)]
  exact zra fun x hx=>h x (by simp [hx])
theorem zln (hs:Same n M ms) (hu:Up M n rk) (hl:ws.length=n) (hn:1≤n) (hw:zd9 ws):least ms ws=z6p (heaviest M ws n):=by
 obtain ⟨h1,h2⟩:=zr4 (ws:=ws) hs hu hl n (qR _)
 have hp:places ms ws=(List.range n).foldl (plN ms ws) (List.replicate n 0):=by unfold places; rw [hl]
 have e:least ms ws=(List.range n).foldl (fun m a=>max m (HB M ws n a)) 0:=by
  unfold least
  rw [hl,hp]
  refine zra fun b hb z=>?_
  have hbn:b<n:=by simpa using hb
  rw [h2 b hbn (ye8 hbn),← zs5 hu hbn]
 rw [e,← zvl]
 show (heaviest M ws n).foldl max 0=_
 have hlen:=zgn (M:=M) (ws:=ws) (n:=n)
 have hpos:∀ x∈heaviest M ws n,0≤x:=by
  intro x hx
  unfold heaviest at hx
  obtain ⟨b,_,rfl⟩:=List.mem_map.1 hx
  exact (zmn hw b).1
 generalize heaviest M ws n=l at hlen hpos
 cases l with
 | nil=>simp at hlen; omega
 | cons a l =>
  have:=hpos a (by simp)
  show l.foldl max (max 0 a)=l.foldl max a
  rw [show max 0 a=a by omega]
end
end
def kk (lv:Bool):Int:=if lv then 1 else 0
def zw5 (w:Wall):List Int:=[kk w.level,w.line,w.fr,w.long]
def zv5 (L:Nat) (f:Int) (i:Nat):List (List Int):=if 0≤f then [[(L:Int),f,(i:Int) - f]] else []
theorem zu4 {g:List (List Int)} {q:List Txt} {lv:Bool} {L P:Nat} (hd:∀ j,j<P→zi7 g lv L j=zgf q L j) {ws0:List Wall} {pre s0:List (List Int)} (h0:ws0.map zw5=pre++s0.map (kk lv :: ·)):∀ i,i≤P →
  -1≤(zes q L s0 i).1∧(zch g lv L ws0 i).2=decide (0≤(zes q L s0 i).1) ∧
  (zch g lv L ws0 i).1.map zw5=pre++((zes q L s0 i).2++zv5 L (zes q L s0 i).1 i).map (kk lv :: ·)
 | 0,_=>by
  refine ⟨by simp [zes],by simp [zmj,zes],?_⟩
  rw [zmj]
  simpa [zes,zv5] using h0
 | i+1,hi=>by
  obtain ⟨h1,h2,h3⟩:=zu4 hd h0 i (by omega)
  have hdi:=hd i (by omega)
  rw [zd8]
  unfold zes ze9
  rw [hdi]
  generalize zch g lv L ws0 i=s at h2 h3 ⊢
  obtain ⟨ws,op⟩:=s
  generalize zes q L s0 i=u at h1 h2 h3 ⊢
  obtain ⟨f,l⟩:=u
  simp only at h1 h2 h3 ⊢
  cases hw:zgf q L i with
  | false =>
   simp only[zeu,Bool.false_and,qF,if_false,Bool.not_false,Bool.true_and,decide_eq_true_eq]
   by_cases hf:0≤f
   ·rw [if_pos hf]
    refine ⟨by simp,by simp,?_⟩
    rw [h3]
    simp [zv5,hf]
   rw [if_neg hf]
   refine ⟨h1,by simp [hf],?_⟩
   rw [h3]
   simp [zv5,hf]
  | true =>
   simp only[zeu,Bool.true_and,Bool.not_true,Bool.false_and,qF,if_false,if_true,decide_eq_true_eq]
   by_cases hf:0≤f
   ·have hop:op=true:=by rw [h2]; simpa using hf
    rw [if_pos hop,if_neg (show ¬ f<0 by omega)]
    refine ⟨h1,by simp [hf],?_⟩
    have hne:ws≠[]:=by
     rintro rfl
     simp [zv5,hf]at h3
    obtain ⟨ws,w,rfl⟩:=z8k hne
    simp only[zv5,hf,if_true,List.map_append,List.map_cons,List.map_nil,← List.append_assoc]at h3 ⊢
    obtain ⟨e1,e2⟩:=List.append_inj' h3 rfl
    simp only[List.dropLast_concat,List.getLast?_append,List.getLast?_singleton,Option.some_or,qO,Option.toList_some,List.map_append,List.map_cons,List.map_nil,e1]
    simp only[List.cons.injEq,and_true]at e2
    have e3:w.level=lv∧w.line=L∧w.fr=f∧w.long=i - f:=by
     simp only[zw5,List.cons.injEq,and_true]at e2
     refine ⟨?_,e2.2.1,e2.2.2.1,e2.2.2.2⟩
     have:=e2.1
     unfold kk at this
     cases hwl:w.level <;> cases hlv:lv <;> simp [hwl,hlv]at this ⊢
    obtain ⟨e4,e5,e6,e7⟩:=e3
    simp only[zw5,e4,e5,e6,e7,List.append_cancel_left_eq,List.cons.injEq,true_and,and_true]
    omega
   have hop:op=false:=by rw [h2]; simpa using hf
   rw [if_neg (show ¬ op=true by rw [hop]; exact Bool.false_ne_true),if_pos (show f<0 by omega)]
   refine ⟨by omega,by simp,?_⟩
   simp only[zv5,hf,if_false,qN]at h3
   simp only[zv5,List.map_append,h3,List.map_cons,List.map_nil]
   rw [if_pos (by omega)]
   simp [zw5]
   omega
theorem z6n {g:List (List Int)} {q:List Txt} {lv:Bool} {L:Nat} (hd:∀ j,j<q.length→zi7 g lv L j=zgf q L j) {ws0:List Wall} {pre s0:List (List Int)} (h0:ws0.map zw5=pre++s0.map (kk lv :: ·)) :
  (zch g lv L ws0 q.length).1.map zw5=pre++(zes q L s0 (q.length+1)).2.map (kk lv :: ·):=by
 obtain ⟨h1,-,h3⟩:=zu4 hd h0 q.length (qR _)
 rw [h3]
 congr 2
 have e:zes q L s0 (q.length+1)=ze9 (zgf q L q.length) L q.length (zes q L s0 q.length):=rfl
 rw [e,zss]
 clear e h3 h1
 generalize zes q L s0 q.length=u
 obtain ⟨f,l⟩:=u
 unfold ze9
 simp only[Bool.false_and,qF,if_false,Bool.not_false,Bool.true_and,decide_eq_true_eq,zv5]
 split <;> simp
theorem zmf {g:List (List Int)} {q:List Txt} {lv:Bool} {n:Nat} (hd:∀ L j,1≤L→L<n→j<q.length→zi7 g lv L j=zgf q L j) {ws0:List Wall}:∀ i,i≤n →
  (zcn g lv q.length ws0 i).map zw5=ws0.map zw5++(zdl q i).map (kk lv :: ·)
 | 0,_=>by simp [zcn,zdl]
 | i+1,hi=>by
  have ih:=zmf hd (ws0:=ws0) i (by omega)
  by_cases h1:1≤i
  ·rw [zet h1,zow h1]
   exact z6n (fun j hj=>hd i j h1 (by omega) hj) ih
  obtain rfl:i=0:=by omega
  simpa [zcn,zdl] using ih
theorem z6m {g:List (List Int)} {p:List Txt} (hg:zc7 p=true) (hz:∀ i j,i<p.length→j<(za1 p).length→gz g i j=zat p i j):(zc6 g p.length (za1 p).length).map zw5=walls p:=by
 have hsm:=zb3 hg
 obtain ⟨row0,hrow0,hrm0⟩:=zah hsm.1
 have hhd:=zc2 hrow0
 have hw1:=zfe hg hrow0
 have htl:=zi5 (p:=p)
 have hth:=znz (p:=p) (by rw [hhd]; omega)
 have d0:∀ L j,1≤L→L<(za1 p).length→j<p.length→zi7 g false L j=zgf p L j:=by
  intro L j h1 h2 h3
  unfold zi7 zcx zgf
  simp only[qF,if_false]
  rw [hz j (L - 1) h3 (by omega),hz j L h3 h2]
  simp [h3]
 have d1:∀ L j,1≤L→L<p.length→j<(zdi p).length→zi7 g true L j=zgf (zdi p) L j:=by
  intro L j h1 h2 h3
  have h3':=h3
  rw [htl]at h3'
  unfold zi7 zcx zgf
  simp only[if_true]
  rw [hz (L - 1) j (by omega) h3',hz L j h2 h3',zlw (by omega) h3',zlw h2 h3']
  simp [h3]
 unfold zc6
 have e1:=zmf (lv:=true) d1 (ws0:=zcn g false p.length [] (za1 p).length) p.length (qR _)
 have e0:=zmf (lv:=false) d0 (ws0:=[]) (za1 p).length (qR _)
 rw [htl]at e1
 rw [e1,e0]
 unfold walls uprights
 rw [hth]
 simp [kk]
theorem Same.orBit {n:Nat} {M:List (List Bool)} {ms:List Nat} (h:Same n M ms) {a b:Nat} (ha:a<n) (hb:b<n):Same n (z6d M a b true) (orBit ms a b):=by
 obtain ⟨h1,h2,h3⟩:=h
 obtain ⟨m,hm,-⟩:=zah (show a<ms.length by omega)
 rw [yck hm]
 refine ⟨h1.set ha,by simp [h2],fun x y hx hy=>?_⟩
 rw [zmy h1 ha hb,zxd (by omega)]
 by_cases hxa:x=a
 ·subst hxa
  rw [if_pos rfl,Nat.testBit_or,Nat.testBit_two_pow,h3 x y hx hy,zpu hm]
  by_cases hyb:y=b
  ·subst hyb; simp
  rw [if_neg (fun h=>hyb h.2),decide_eq_false (fun h=>hyb h.symm),Bool.or_false]
 rw [if_neg (fun h=>hxa h.1),if_neg hxa,h3 x y hx hy]
def Rm (n:Nat) (l:List Int):Prop:=∀ x∈l,0≤x∧x<n
theorem Same.relB {n:Nat} {a:Int} (ha:0≤a∧a<n):∀ {bs:List Int} {M:List (List Bool)} {ms:List Nat},Rm n bs→Same n M ms→Same n (relB a bs M) (yh2 a.toNat ms bs)
 | [],_,_,_,h=>h
 | b::bs,M,ms,hb,h=>by
  have hb0:=hb b (by simp)
  exact Same.relB ha (bs:=bs) (fun x hx=>hb x (by simp [hx])) (h.orBit (by omega) (by omega))
theorem Same.relW {n:Nat} {bs:List Int} (hb:Rm n bs):∀ {la:List Int} {M:List (List Bool)} {ms:List Nat},Rm n la→Same n M ms→Same n (relW M la bs) (yh1 bs ms la)
 | [],_,_,_,h=>h
 | a::la,M,ms,ha,h=>Same.relW hb (la:=la) (fun x hx=>ha x (by simp [hx])) (h.relB (ha a (by simp)) hb)
theorem z2n {l:List Int} {x:Int}:ddp (l++[x])=zst (ddp l) x:=by simp [ddp,List.foldl_append]
theorem z4m {g:List (List Int)} {p:List Txt} {lv:Bool} {L fr:Nat}:∀ n,(∀ j,fr≤j→j<fr+n→zcx g lv L j=if lv then (zat p (L - 1) j,zat p L j) else (zat p j (L - 1),zat p j L)) →
  (ddp (zb9 g lv L fr n).1,ddp (zb9 g lv L fr n).2)=zsp p (kk lv).toNat L fr n
 | 0,_=>by simp [zb9,ddp,zsp]
 | n+1,h=>by
  have ih:=z4m n fun j a b=>h j a (by omega)
  have hx:=h (fr+n) (by omega) (by omega)
  rw [zgi,zgj,z2n,z2n,hx]
  unfold zsp
  rw [← ih]
  cases lv <;> simp [kk]
theorem zou {g:List (List Int)} {p:List Txt} (hz:∀ i j,i<p.length→j<(za1 p).length→gz g i j=zat p i j) {w:Wall} (hw:zu9 g p.length (za1 p).length w):zbw g w=z4l p (zw5 w):=by
 obtain ⟨line,fr,long,he,hl,hin⟩:=hw
 obtain ⟨lv,wl,wf,wg⟩:=w
 simp only[Wall.mk.injEq,true_and]at he hin
 obtain ⟨rfl,rfl,rfl⟩:=he
 unfold zbw z4l zw5
 simp only[Int.toNat_natCast]
 refine z4m long fun j a b=>?_
 obtain ⟨⟨h1,h2⟩,-⟩:=hin j a b
 unfold zcx
 cases lv with
 | false =>
  simp only[qF,if_false]at h2 ⊢
  rw [hz j (line - 1) h2.2 (by omega),hz j line h2.2 h2.1]
 | true =>
  simp only[if_true]at h2 ⊢
  rw [hz (line - 1) j (by omega) h2.2,hz line j h2.1 h2.2]
theorem Same.empty {n:Nat}:Same n (zcl n) (List.replicate n 0):=by
 refine ⟨ze5 n,by simp,fun a b ha hb=>?_⟩
 simp [zdg,zcl,zn9,ha,hb]
theorem z4d {g:List (List Int)} {p:List Txt} {n:Nat} (hz:∀ i j,i<p.length→j<(za1 p).length→gz g i j=zat p i j) (hrm:zw4 g p.length (za1 p).length n):∀ (ws:List Wall),(∀ w∈ws,zu9 g p.length (za1 p).length w) →
  ∀ {M:List (List Bool) × List (List Bool)} {m0 m1:List Nat},Same n M.1 m0→Same n M.2 m1→Same n (ws.foldl (zn5 g) M).1 ((ws.map zw5).foldl (z8g p 0) m0)∧Same n (ws.foldl (zn5 g) M).2 ((ws.map zw5).foldl (z8g p 1) m1)
 | [],_,_,_,_,h0,h1=>⟨h0,h1⟩
 | w::ws,hws,M,m0,m1,h0,h1=>by
  have hw:=hws w (by simp)
  obtain ⟨hr1,hr2⟩:=zfu hrm hw
  rw [zou hz hw]at hr1 hr2
  rw [List.foldl_cons,List.map_cons,List.foldl_cons,List.foldl_cons]
  refine z4d hz hrm ws (fun w hw=>hws w (by simp [hw])) ?_ ?_
  ·unfold zn5 z8g
   rw [zou hz hw]
   cases hlv:w.level with
   | false=>simpa [zw5,kk,hlv] using h0.relW hr2 hr1
   | true=>simpa [zw5,kk,hlv] using h0
  unfold zn5 z8g
  rw [zou hz hw]
  cases hlv:w.level with
  | false=>simpa [zw5,kk,hlv] using h1
  | true=>simpa [zw5,kk,hlv] using h1.relW hr2 hr1
theorem yc8 {g:List (List Int)} {p:List Txt} {n:Nat} (hg:zc7 p=true) (hn:(zce p).toNat=n) (hz:∀ i j,i<p.length→j<(za1 p).length→gz g i j=zat p i j) (hrm:zw4 g p.length (za1 p).length n) :
  Same n (zjc g p.length (za1 p).length n) (ydy p 0)∧Same n (zfl g p.length (za1 p).length n) (ydy p 1):=by
 obtain ⟨h0,h1⟩:=z4d hz hrm (zc6 g p.length (za1 p).length) zd1 (M:=(zcl n,zcl n)) Same.empty Same.empty
 rw [z6m hg hz]at h0 h1
 have e:List.replicate n 0=List.replicate (zce p).toNat 0:=by rw [hn]
 rw [e]at h0 h1
 exact ⟨h0.close,h1.close⟩
def sN:Nat→(Nat→Nat)→Nat
 | 0,_=>0
 | n+1,f=>sN n f+f n
theorem zgg {f g:Nat→Nat}:∀ {n:Nat},(∀ i,i<n→f i=g i)→sN n f=sN n g
 | 0,_=>rfl
 | n+1,h=>by rw [sN,sN,zgg (n:=n) fun i hi=>h i (by omega),h n (by omega)]
theorem yag {f g:Nat→Nat}:∀ {n:Nat},(∀ i,i<n→f i≤g i)→sN n f≤sN n g
 | 0,_=>qR _
 | n+1,h=>by
  have:=yag (n:=n) fun i hi=>h i (by omega)
  have:=h n (by omega)
  simp only[sN]; omega
theorem yc7 {f g:Nat→Nat}:∀ {n:Nat},(∀ i,i<n→f i≤g i)→sN n f=sN n g→∀ i,i<n→f i=g i
 | 0,_,_,i,hi=>by omega
 | n+1,h,e,i,hi=>by
  have h1:=yag (n:=n) fun i hi=>h i (by omega)
  have h2:=h n (by omega)
  simp only[sN]at e
  by_cases hin:i=n
  ·subst hin; omega
  exact yc7 (n:=n) (fun i hi=>h i (by omega)) (by omega) i (by omega)
theorem z1l:∀ n,sN n (fun _=>0)=0
 | 0=>rfl
 | n+1=>by rw [sN,z1l n]
theorem yeq:∀ n,sN n (fun _=>1)=n
 | 0=>rfl
 | n+1=>by rw [sN,yeq n]
theorem z4c (c:Nat):∀ n,sN n (fun _=>c)=n*c
 | 0=>by simp [sN]
 | n+1=>by rw [sN,z4c c n,Nat.succ_mul]
theorem yep {f g:Nat→Nat}:∀ n,sN n (fun i=>f i+g i)=sN n f+sN n g
 | 0=>rfl
 | n+1=>by rw [sN,sN,sN,yep n]; omega
theorem z1k {f:Nat→Nat→Nat} {m:Nat}:∀ n,sN n (fun i=>sN m (fun j=>f i j))=sN m (fun j=>sN n (fun i=>f i j))
 | 0=>by simp only[sN]; rw [z1l]
 | n+1=>by
  simp only[sN]
  rw [z1k n,yep]
theorem yah {f:Nat→Nat} {c:Nat}:∀ n,sN n (fun i=>f i*c)=sN n f*c
 | 0=>by simp [sN]
 | n+1=>by rw [sN,sN,yah n,Nat.add_mul]
def b1 (b:Bool):Nat:=if b then 1 else 0
def cnt (H W:Nat) (f:Nat→Nat→Bool):Nat:=sN H fun i=>sN W fun j=>b1 (f i j)
theorem yfb {a b:Bool} (h:a=true→b=true):b1 a≤b1 b:=by
 cases a with
 | false=>simp [b1]
 | true=>rw [h rfl]; exact qR _
theorem yhf {a b:Bool} (h:b1 a=b1 b):a=b:=by cases a <;> cases b <;> simp [b1]at h ⊢
theorem yho {H W:Nat} {f g:Nat→Nat→Bool} (h:∀ i j,i<H→j<W→f i j=true→g i j=true):cnt H W f≤cnt H W g :=
 yag fun i hi=>yag fun j hj=>yfb (h i j hi hj)
theorem yhn {H W:Nat} {f g:Nat→Nat→Bool} (h:∀ i j,i<H→j<W→f i j=true→g i j=true) (e:cnt H W f=cnt H W g):∀ i j,i<H→j<W→f i j=g i j:=by
 intro i j hi hj
 have h1:=yc7 (n:=H) (fun i hi=>yag fun j hj=>yfb (h i j hi hj)) e i hi
 exact yhf (yc7 (n:=W) (fun j hj=>yfb (h i j hi hj)) h1 j hj)
theorem z7e {H W:Nat} {f g:Nat→Nat→Bool} (h:∀ i j,i<H→j<W→f i j=g i j):cnt H W f=cnt H W g :=
 zgg fun i hi=>zgg fun j hj=>by rw [h i j hi hj]
theorem zzt {a k:Nat}:∀ {n:Nat},a+k≤n→sN n (fun i=>b1 (decide (a≤i) && decide (i<a+k)))=k
 | 0,h=>by simp [sN]; omega
 | n+1,h=>by
  rw [sN]
  by_cases hn:a+k≤n
  ·rw [zzt hn,decide_eq_false (p:=n<a+k) (by omega),Bool.and_false]; rfl
  have hnk:n+1=a+k:=by omega
  cases k with
  | zero =>
   have:sN n (fun i=>b1 (decide (a≤i) && decide (i<a+0)))=sN n (fun _=>0):=zgg fun i hi=>by
    rw [decide_eq_false (p:=a≤i) (by omega)]; rfl
   rw [this,z1l,decide_eq_false (p:=a≤n) (by omega)]; rfl
  | succ k =>
   have e:sN n (fun i=>b1 (decide (a≤i) && decide (i<a+(k+1))))=sN n (fun i=>b1 (decide (a≤i) && decide (i<a+k))):=zgg fun i hi=>by
    congr 2
    apply decide_eq_decide.2; omega
   rw [e,zzt (k:=k) (by omega),decide_eq_true (p:=a≤n) (by omega),decide_eq_true (p:=n<a+(k+1)) (by omega)]
   rfl
def inR (t l h w i j:Nat):Bool:=(decide (t≤i) && decide (i<t+h)) && (decide (l≤j) && decide (j<l+w))
theorem yhe {a b:Bool}:b1 (a && b)=b1 a*b1 b:=by cases a <;> cases b <;> rfl
theorem yby {H W t l h w:Nat} (h1:t+h≤H) (h2:l+w≤W):cnt H W (inR t l h w)=h*w:=by
 unfold cnt inR
 have e:(fun i=>sN W fun j=>b1 ((decide (t≤i) && decide (i<t+h)) && (decide (l≤j) && decide (j<l+w))))=fun i=>b1 (decide (t≤i) && decide (i<t+h))*w:=by
  funext i
  have:(fun j=>b1 ((decide (t≤i) && decide (i<t+h)) && (decide (l≤j) && decide (j<l+w))))=fun j=>b1 (decide (l≤j) && decide (j<l+w))*b1 (decide (t≤i) && decide (i<t+h)):=by
   funext j; rw [yhe,Nat.mul_comm]
  rw [this,yah,zzt h2,Nat.mul_comm]
 rw [e,yah,zzt h1]
theorem z0q {H W n:Nat} {z:Nat→Nat→Nat} (hz:∀ i j,i<H→j<W→z i j<n):sN n (fun r=>cnt H W fun i j=>decide (z i j=r))=H*W:=by
 unfold cnt
 rw [z1k]
 have:sN H (fun i=>sN n fun r=>sN W fun j=>b1 (decide (z i j=r)))=sN H (fun _=>W):=zgg fun i hi=>by
  rw [z1k]
  have:sN W (fun j=>sN n fun r=>b1 (decide (z i j=r)))=sN W (fun _=>1):=zgg fun j hj=>by
   have h1:=hz i j hi hj
   have e:sN n (fun r=>b1 (decide (z i j=r)))=sN n (fun r=>b1 (decide (z i j≤r) && decide (r<z i j+1))):=zgg fun r hr=>by
    congr 1
    rw [Bool.eq_iff_iff]
    simp only[qB,decide_eq_true_eq]
    omega
   rw [e,zzt (by omega)]
  rw [this,yeq]
 rw [this,z4c]
structure Hull (pr:Nat→Nat→Prop) (t l lo ri:Int):Prop where
 inn:∀ a b,pr a b→t≤a∧(a:Int)≤lo∧l≤b∧(b:Int)≤ri
 at_:∃ a b:Nat,pr a b∧(a:Int)=t
 al:∃ a b:Nat,pr a b∧(b:Int)=l
 ao:∃ a b:Nat,pr a b∧(a:Int)=lo
 ar:∃ a b:Nat,pr a b∧(b:Int)=ri
theorem Hull.uniq {pr:Nat→Nat→Prop} {t l lo ri t' l' lo' ri':Int} (h:Hull pr t l lo ri) (k:Hull pr t' l' lo' ri'):t=t'∧l=l'∧lo=lo'∧ri=ri':=by
 obtain ⟨a1,b1,p1,e1⟩:=h.at_
 obtain ⟨a2,b2,p2,e2⟩:=h.al
 obtain ⟨a3,b3,p3,e3⟩:=h.ao
 obtain ⟨a4,b4,p4,e4⟩:=h.ar
 obtain ⟨a5,b5,p5,e5⟩:=k.at_
 obtain ⟨a6,b6,p6,e6⟩:=k.al
 obtain ⟨a7,b7,p7,e7⟩:=k.ao
 obtain ⟨a8,b8,p8,e8⟩:=k.ar
 have q1:=k.inn _ _ p1
 have q2:=k.inn _ _ p2
 have q3:=k.inn _ _ p3
 have q4:=k.inn _ _ p4
 have q5:=h.inn _ _ p5
 have q6:=h.inn _ _ p6
 have q7:=h.inn _ _ p7
 have q8:=h.inn _ _ p8
 omega
theorem Hull.congr {pr pr':Nat→Nat→Prop} {t l lo ri:Int} (h:Hull pr t l lo ri) (e:∀ a b,pr a b↔pr' a b):Hull pr' t l lo ri:=by
 have:pr=pr':=by funext a b; exact propext (e a b)
 exact this ▸ h
theorem Hull.add {pr:Nat→Nat→Prop} {t l lo ri:Int} (h:Hull pr t l lo ri) (i j:Nat):Hull (fun a b=>pr a b∨(a=i∧b=j)) (min t i) (min l j) (max lo i) (max ri j):=by
 refine ⟨?_,?_,?_,?_,?_⟩
 ·rintro a b (p | ⟨rfl,rfl⟩)
  ·have:=h.inn a b p; omega
  omega
 ·by_cases e:t≤i
  ·obtain ⟨a,b,p,q⟩:=h.at_; exact ⟨a,b,.inl p,by omega⟩
  exact ⟨i,j,.inr ⟨rfl,rfl⟩,by omega⟩
 ·by_cases e:l≤j
  ·obtain ⟨a,b,p,q⟩:=h.al; exact ⟨a,b,.inl p,by omega⟩
  exact ⟨i,j,.inr ⟨rfl,rfl⟩,by omega⟩
 ·by_cases e:(i:Int)≤lo
  ·obtain ⟨a,b,p,q⟩:=h.ao; exact ⟨a,b,.inl p,by omega⟩
  exact ⟨i,j,.inr ⟨rfl,rfl⟩,by omega⟩
 by_cases e:(j:Int)≤ri
 ·obtain ⟨a,b,p,q⟩:=h.ar; exact ⟨a,b,.inl p,by omega⟩
 exact ⟨i,j,.inr ⟨rfl,rfl⟩,by omega⟩
theorem Hull.one {pr:Nat→Nat→Prop} (h:∀ a b,¬ pr a b) (i j:Nat):Hull (fun a b=>pr a b∨(a=i∧b=j)) i j i j:=by
 refine ⟨?_,⟨i,j,.inr ⟨rfl,rfl⟩,rfl⟩,⟨i,j,.inr ⟨rfl,rfl⟩,rfl⟩,⟨i,j,.inr ⟨rfl,rfl⟩,rfl⟩,⟨i,j,.inr ⟨rfl,rfl⟩,rfl⟩⟩
 rintro a b (p | ⟨rfl,rfl⟩)
 ·exact absurd p (h a b)
 omega
def Gone (W i j a b:Nat):Prop:=b<W∧(a<i∨(a=i∧b<j))
theorem zmz {W i j a b:Nat} (hj:j<W):Gone W i (j+1) a b↔Gone W i j a b∨(a=i∧b=j):=by unfold Gone; omega
theorem z26 {W i a b:Nat}:Gone W i W a b↔Gone W (i+1) 0 a b:=by unfold Gone; omega
def Val (z:Nat→Nat→Int) (W i j:Nat) (v:Int) (a b:Nat):Prop:=z a b=v∧Gone W i j a b
theorem z14 {z:Nat→Nat→Int} {W i j:Nat} {v:Int} (hj:j<W) (h:z i j=v) (a b:Nat):(Val z W i j v a b∨(a=i∧b=j))↔Val z W i (j+1) v a b:=by
 unfold Val
 rw [zmz hj]
 constructor
 ·rintro (⟨h1,h2⟩ | ⟨rfl,rfl⟩)
  ·exact ⟨h1,.inl h2⟩
  exact ⟨h,.inr ⟨rfl,rfl⟩⟩
 rintro ⟨h1,h2 | h2⟩
 ·exact .inl ⟨h1,h2⟩
 exact .inr h2
theorem zwz {z:Nat→Nat→Int} {W i j:Nat} {v:Int} (hj:j<W) (h:z i j≠v) (a b:Nat):Val z W i j v a b↔Val z W i (j+1) v a b:=by
 unfold Val
 rw [zmz hj]
 constructor
 ·rintro ⟨h1,h2⟩; exact ⟨h1,.inl h2⟩
 rintro ⟨h1,h2 | ⟨rfl,rfl⟩⟩
 ·exact ⟨h1,h2⟩
 exact absurd h1 h
theorem ybd {z:Nat→Nat→Int} {W i:Nat} {v:Int} (a b:Nat):Val z W i W v a b↔Val z W (i+1) 0 v a b:=by unfold Val; rw [z26]
def zmo (pr:Nat→Nat→Prop) (b:Rect):Prop:=Hull pr b.row b.col (b.row+b.high - 1) (b.col+b.wide - 1)
theorem zmo.both {pr:Nat→Nat→Prop} {b:Rect} (h:zmo pr b) (i j:Nat):zmo (fun a c=>pr a c∨(a=i∧c=j)) (b.both (zhn i j)):=by
 have:=Hull.add h i j
 unfold zmo Rect.both zhn
 simp only
 rw [show min b.row (i:Int)+(max (b.row+b.high) ((i:Int)+1) - min b.row (i:Int)) - 1=max (b.row+b.high - 1) i by omega,show min b.col (j:Int)+(max (b.col+b.wide) ((j:Int)+1) - min b.col (j:Int)) - 1=max (b.col+b.wide - 1) j by omega]
 exact this
theorem ycj {i j:Nat}:(zhn i j).both (zhn i j)=zhn i j:=by
 unfold Rect.both zhn
 simp only[Rect.mk.injEq]
 omega
theorem zmo.one {pr:Nat→Nat→Prop} (h:∀ a b,¬ pr a b) (i j:Nat):zmo (fun a b=>pr a b∨(a=i∧b=j)) (zhn i j):=by
 have:=Hull.one h i j
 unfold zmo zhn
 simp only
 rw [show (i:Int)+1 - 1=i by omega,show (j:Int)+1 - 1=j by omega]
 exact this
theorem zmo.congr {pr pr':Nat→Nat→Prop} {b:Rect} (h:zmo pr b) (e:∀ a c,pr a c↔pr' a c):zmo pr' b:=Hull.congr h e
structure SeInv (z:Nat→Nat→Int) (W i j:Nat) (ks:List Int) (rs:List Rect):Prop where
 nd:ks.Nodup
 len:rs.length=ks.length
 mem:∀ a b,Gone W i j a b→z a b∈ks
 hull:∀ (m:Nat) v b,ks[m]?=some v→rs[m]?=some b→zmo (Val z W i j v) b
theorem zrs {l:List Int} (h:l.Nodup) {a b:Nat} {v:Int} (ha:l[a]?=some v) (hb:l[b]?=some v):a=b:=by
 obtain ⟨p1,q1⟩:=List.getElem?_eq_some_iff.1 ha
 obtain ⟨p2,q2⟩:=List.getElem?_eq_some_iff.1 hb
 have:=List.pairwise_iff_getElem.1 h
 rcases Nat.lt_trichotomy a b with hlt | heq | hgt
 ·exact absurd (q1.trans q2.symm) (this a b p1 p2 hlt)
 ·exact heq
 exact absurd (q2.trans q1.symm) (this b a p2 p1 hgt)
theorem ziy {ks:List Int} {z:Int} (h:¬ ks.idxOf z=ks.length):ks[ks.idxOf z]?=some z:=by
 have hl:=zic (ks:=ks) (z:=z)
 have:z∈ks:=by rw [← List.idxOf_lt_length_iff]; omega
 rw [List.getElem?_eq_getElem (List.idxOf_lt_length_iff.2 this),List.getElem_idxOf]
theorem zrf {ks:List Int} {z:Int} (h:ks.idxOf z=ks.length):z ∉ ks:=by
 intro hm
 have:=List.idxOf_lt_length_iff.2 hm
 omega
theorem SeInv.step {z:Nat→Nat→Int} {W i j:Nat} {ks:List Int} {rs:List Rect} (h:SeInv z W i j ks rs) (hj:j<W):SeInv z W i (j+1) (zi4 ks (z i j)) (zqk ks rs (z i j) (zhn i j)):=by
 have hlen:=h.len
 by_cases hin:ks.idxOf (z i j)=ks.length
 ·have hnm:=zrf hin
  have e1:zi4 ks (z i j)=ks++[z i j]:=by simp [zi4,hin]
  have e2:zqk ks rs (z i j) (zhn i j)=rs++[zhn i j]:=by
   unfold zqk zjz
   rw [if_pos hin,hin,← hlen,List.getD_eq_getElem?_getD]
   simp [ycj]
  rw [e1,e2]
  refine ⟨?_,by simp [hlen],?_,?_⟩
  ·rw [List.nodup_append]
   refine ⟨h.nd,by simp,?_⟩
   intro a ha b hb
   rw [List.mem_singleton]at hb
   rintro rfl
   exact hnm (hb ▸ ha)
  ·intro a b hab
   rw [zmz hj]at hab
   rcases hab with hab | ⟨rfl,rfl⟩
   ·exact List.mem_append_left _ (h.mem a b hab)
   simp
  intro m v b hm hb
  by_cases hml:m<ks.length
  ·rw [List.getElem?_append_left hml]at hm
   rw [List.getElem?_append_left (by omega)]at hb
   have hv:z i j≠v:=fun e=>hnm (e ▸ List.mem_of_getElem? hm)
   exact (h.hull m v b hm hb).congr (zwz hj hv)
  have hml2:=zcq hm
  simp only[List.length_append,List.length_singleton]at hml2
  obtain rfl:m=ks.length:=by omega
  rw [List.getElem?_append_right (qR _),Nat.sub_self]at hm
  rw [← hlen,List.getElem?_append_right (qR _),Nat.sub_self]at hb
  simp only[List.getElem?_cons_zero,Option.some.injEq]at hm hb
  subst hm hb
  exact (zmo.one (pr:=Val z W i j (z i j)) (fun a b hab=>hnm (hab.1 ▸ h.mem a b hab.2)) i j).congr (z14 hj rfl)
 have hk:=ziy hin
 have hkl:=zcq hk
 have e1:zi4 ks (z i j)=ks:=by simp [zi4,hin]
 obtain ⟨b0,hb0,-⟩:=zah (show ks.idxOf (z i j)<rs.length by omega)
 have e2:zqk ks rs (z i j) (zhn i j)=rs.set (ks.idxOf (z i j)) (b0.both (zhn i j)):=by
  unfold zqk zjz
  rw [if_neg hin,List.getD_eq_getElem?_getD,hb0]; rfl
 rw [e1,e2]
 refine ⟨h.nd,by simp [hlen],?_,?_⟩
 ·intro a b hab
  rw [zmz hj]at hab
  rcases hab with hab | ⟨rfl,rfl⟩
  ·exact h.mem a b hab
  exact List.mem_of_getElem? hk
 intro m v b hm hb
 rw [List.getElem?_set]at hb
 by_cases e:ks.idxOf (z i j)=m
 ·subst e
  rw [if_pos rfl,if_pos (by omega)]at hb
  cases hb
  rw [hk]at hm
  cases hm
  exact ((h.hull _ _ _ hk hb0).both i j).congr (z14 hj rfl)
 rw [if_neg e]at hb
 have hv:z i j≠v:=by
  rintro rfl
  exact e (zrs h.nd hk hm)
 exact (h.hull m v b hm hb).congr (zwz hj hv)
theorem SeInv.nil {z:Nat→Nat→Int} {W:Nat}:SeInv z W 0 0 [] []:=by
 refine ⟨by simp,rfl,?_,by simp⟩
 intro a b h
 unfold Gone at h; omega
theorem SeInv.row {g:List (List Int)} {W i:Nat} {s:List Int × List Rect} (h:SeInv (gz g) W i 0 s.1 s.2):∀ j,j≤W→SeInv (gz g) W i j (zdz g i s j).1 (zdz g i s j).2
 | 0,_=>h
 | j+1,hj=>(SeInv.row h j (by omega)).step (by omega)
theorem SeInv.rows {g:List (List Int)} {W:Nat}:∀ i,SeInv (gz g) W i 0 (zbi g W i).1 (zbi g W i).2
 | 0=>SeInv.nil
 | i+1=>by
  have h:=(SeInv.rows (g:=g) (W:=W) i).row W (qR _)
  refine ⟨h.nd,h.len,fun a b hab=>h.mem a b (z26.2 hab),fun m v b hm hb=>(h.hull m v b hm hb).congr (fun a c=>ybd a c)⟩
theorem zsj {g:List (List Int)} {i:Nat} {s:List Int × List Rect}:∀ {j k:Nat},j≤k→∃ r,(zdz g i s k).1=(zdz g i s j).1++r
 | j,0,h=>by
  have hj:j=0:=by omega
  subst hj; exact ⟨[],by simp⟩
 | j,k+1,h=>by
  by_cases e:j=k+1
  ·subst e; exact ⟨[],by simp⟩
  obtain ⟨r,hr⟩:=zsj (g:=g) (i:=i) (s:=s) (show j≤k by omega)
  simp only[zdz,zi4]
  split
  ·exact ⟨r++[gz g i k],by rw [hr,List.append_assoc]⟩
  exact ⟨r,hr⟩
theorem zur {g:List (List Int)} {W:Nat}:∀ {i k:Nat},i≤k→∃ r,(zbi g W k).1=(zbi g W i).1++r
 | i,0,h=>by
  have hi:i=0:=by omega
  subst hi; exact ⟨[],by simp⟩
 | i,k+1,h=>by
  by_cases e:i=k+1
  ·subst e; exact ⟨[],by simp⟩
  obtain ⟨r,hr⟩:=zur (g:=g) (W:=W) (show i≤k by omega)
  obtain ⟨r2,hr2⟩:=zsj (g:=g) (i:=k) (s:=zbi g W k) (Nat.zero_le W)
  simp only[zbi]
  refine ⟨r++r2,?_⟩
  rw [hr2,← List.append_assoc,← hr]; rfl
theorem zre {l r:List Int} {x:Int} (h:¬ l.idxOf x=l.length):(l++r).idxOf x=l.idxOf x:=by
 have hl:=zic (ks:=l) (z:=x)
 have hm:x∈l:=by rw [← List.idxOf_lt_length_iff]; omega
 rw [List.idxOf_append,if_pos hm]
theorem z8b {l r:List Int} {x:Int} (h:l.idxOf x=l.length):(l++[x]++r).idxOf x=l.length:=by
 have hm:x ∉ l:=zrf h
 rw [List.append_assoc,List.idxOf_append,if_neg hm]
 simp
theorem zNum {g:List (List Int)} {W nh i j:Nat} (hi:i<nh) (hj:j<W):((zdz g i (zbi g W i) j).1.idxOf (gz g i j))=(zbi g W nh).1.idxOf (gz g i j):=by
 obtain ⟨r,hr⟩:=zur (g:=g) (W:=W) (show i+1≤nh by omega)
 obtain ⟨r2,hr2⟩:=zsj (g:=g) (i:=i) (s:=zbi g W i) (show j+1≤W by omega)
 have e:(zbi g W nh).1=zi4 (zdz g i (zbi g W i) j).1 (gz g i j)++(r2++r):=by
  rw [hr,← List.append_assoc]
  congr 1
 rw [e]
 generalize (zdz g i (zbi g W i) j).1=ks
 unfold zi4
 by_cases hin:ks.idxOf (gz g i j)=ks.length
 ·rw [if_pos hin,z8b hin,hin]
 rw [if_neg hin,zre hin]
def inZ (p:List Txt) (r:Int) (i j:Nat):Bool:=decide (zat p i j=r)
theorem zx6 {p:List Txt} {i k:Nat} {row:Txt} {c:UInt8} {r:Int} (h:p[i]?=some row) (hc:row[k]?=some c):zlk r c=inZ p r i k:=by
 unfold zlk inZ; rw [zdd h hc]
theorem zo0 {p:List Txt} {i:Nat} {row:Txt} {r:Int} (h:p[i]?=some row) (n:Int):∀ k,k≤row.length→zds r n (row.take k)=n+sN k fun j=>b1 (inZ p r i j)
 | 0,_=>by simp [zds,sN]
 | k+1,hk=>by
  obtain ⟨c,hc,-⟩:=zah (show k<row.length by omega)
  have ih:=zo0 (r:=r) h n k (by omega)
  unfold zds at ih ⊢
  rw [zex hc,ih,sN,zx6 h hc]
  cases inZ p r i k <;> simp [b1]
  omega
theorem zrk {p:List Txt} {W:Nat} (hW:∀ row∈p,row.length=W) {r:Int}:∀ i,i≤p.length→(p.take i).foldl (zds r) 0=((sN i fun i=>sN W fun j=>b1 (inZ p r i j):Nat):Int)
 | 0,_=>by simp [sN]
 | i+1,hi=>by
  obtain ⟨row,hr,hm⟩:=zah (show i<p.length by omega)
  have ih:=zrk hW (r:=r) i (by omega)
  have hl:=hW row hm
  have:=zo0 (r:=r) hr (((sN i fun i=>sN W fun j=>b1 (inZ p r i j):Nat):Int)) W (by omega)
  rw [qT (by omega)]at this
  rw [zex hr,ih,this,sN]
  simp
theorem z5h {p:List Txt} {W:Nat} (hW:∀ row∈p,row.length=W) {r:Int}:zf6 p r=((cnt p.length W (inZ p r):Nat):Int):=by
 have:=zrk hW (r:=r) p.length (qR _)
 rwa [List.take_length]at this
def zlc (H W:Nat) (pr:Nat→Nat→Prop) (b:Box):Prop:=((∀ a c,¬ pr a c)∧b=⟨H,W,-1,-1⟩)∨Hull pr b.top b.left b.low b.right
theorem zlc.congr {H W:Nat} {pr pr':Nat→Nat→Prop} {b:Box} (h:zlc H W pr b) (e:∀ a c,pr a c↔pr' a c):zlc H W pr' b:=by
 have:pr=pr':=by funext a b; exact propext (e a b)
 exact this ▸ h
theorem zlc.add {H W:Nat} {pr:Nat→Nat→Prop} {b:Box} (h:zlc H W pr b) {i k:Nat} (hi:i<H) (hk:k<W):zlc H W (fun a c=>pr a c∨(a=i∧c=k)) ⟨min b.top i,min b.left k,max b.low i,max b.right k⟩:=by
 rcases h with ⟨h1,rfl⟩ | h
 ·right
  have:=Hull.one h1 i k
  simp only
  rw [show min (H:Int) i=i by omega,show min (W:Int) k=k by omega,show max (-1:Int) i=i by omega,show max (-1:Int) k=k by omega]
  exact this
 exact .inr (Hull.add h i k)
theorem zzp {p:List Txt} {H W i:Nat} {row:Txt} {r:Int} (hr:p[i]?=some row) (hW:row.length=W) (hi:i<H) {b:Box} (h:zlc H W (Val (zat p) W i 0 r) b):∀ k,k≤W→zlc H W (Val (zat p) W i k r) (znm r i b row k)
 | 0,_=>by simpa [znm] using h
 | k+1,hk=>by
  obtain ⟨c,hc,-⟩:=zah (show k<row.length by omega)
  have ih:=zzp hr hW hi h k (by omega)
  rw [zk5 hc]
  unfold zlt
  simp only
  rw [zx6 hr hc]
  by_cases e:zat p i k=r
  ·rw [if_pos (by unfold inZ; exact decide_eq_true e)]
   exact (ih.add hi (by omega)).congr (z14 (by omega) e)
  rw [if_neg (by unfold inZ; rw [decide_eq_false e]; exact Bool.false_ne_true)]
  exact ih.congr (zwz (by omega) e)
theorem zxe {p:List Txt} {W:Nat} (hW:∀ row∈p,row.length=W) (hh:(za1 p).length=W) {r:Int}:∀ i,i≤p.length→zlc p.length W (Val (zat p) W i 0 r) (zjr p r i)
 | 0,_=>by
  left
  refine ⟨fun a c h=>?_,by simp [zjr,hh]⟩
  have:=h.2
  unfold Gone at this; omega
 | i+1,hi=>by
  obtain ⟨row,hr,hm⟩:=zah (show i<p.length by omega)
  rw [zoa hr]
  have:=zzp (r:=r) hr (hW row hm) (by omega) (zxe hW hh i (by omega)) W (qR _)
  rw [hW row hm]
  exact this.congr fun a c=>ybd a c
theorem z61 {p:List Txt} {W:Nat} (hW:∀ row∈p,row.length=W) (hh:(za1 p).length=W) {r:Int}:zlc p.length W (Val (zat p) W p.length 0 r) (zhr p r):=by
 rw [← zms]; exact zxe hW hh p.length (qR _)
theorem Hull.nat {z:Nat→Nat→Int} {H W:Nat} {v:Int} {t l lo ri:Int} (h:Hull (Val z W H 0 v) t l lo ri):∃ t' l' h' w':Nat,t=t'∧l=l'∧lo=t'+h' - 1∧ri=l'+w' - 1∧1≤h'∧1≤w'∧t'+h'≤H∧l'+w'≤W ∧
  ∀ i j,i<H→j<W→z i j=v→inR t' l' h' w' i j=true:=by
 obtain ⟨a1,b1,p1,e1⟩:=h.at_
 obtain ⟨a2,b2,p2,e2⟩:=h.al
 obtain ⟨a3,b3,p3,e3⟩:=h.ao
 obtain ⟨a4,b4,p4,e4⟩:=h.ar
 have q1:=h.inn _ _ p1
 have q2:=h.inn _ _ p2
 obtain ⟨-,g3,g3'⟩:=p3
 obtain ⟨-,g4,g4'⟩:=p4
 refine ⟨a1,b2,a3+1 - a1,b4+1 - b2,e1.symm,e2.symm,by omega,by omega,by omega,by omega,by omega,by omega,fun i j hi hj hv=>?_⟩
 have:=h.inn i j ⟨hv,by unfold Gone; omega⟩
 unfold inR
 simp only[qB,decide_eq_true_eq]
 omega
def u8I (c:UInt8):Int:=(c.toNat:Int)
theorem yg0 {a b:UInt8} (h:u8I a=u8I b):a=b:=by
 unfold u8I at h
 exact UInt8.toNat_inj.1 (by omega)
theorem zx5 {α β:Type} [DecidableEq α] [DecidableEq β] {f:α→β} (hf:∀ a b,f a=f b→a=b) {c:α}:∀ (l:List α),(l.map f).idxOf (f c)=l.idxOf c
 | []=>rfl
 | a::l=>by
  rw [List.map_cons,List.idxOf_cons,List.idxOf_cons,zx5 hf l]
  by_cases e:a=c
  ·subst e; simp
  have e2:f a≠f c:=fun h=>e (hf _ _ h)
  rw [show (f a == f c)=false by simpa using e2,show (a == c)=false by simpa using e]
theorem yfv {p:List Txt} {i k:Nat} {row:Txt} {c:UInt8} (h:p[i]?=some row) (hc:row[k]?=some c):gz (zb2 p) i k=u8I c:=by
 simp [gz,zb2,zw9,h,hc,u8I]
theorem zt4 {p:List Txt} {i:Nat} {row:Txt} (h:p[i]?=some row) {o:List UInt8} {s:List Int × List Rect} (ho:o.map u8I=s.1):∀ j,j≤row.length →
  ((row.take j).foldl zey (o,[])).1.map u8I=(zdz (zb2 p) i s j).1∧((row.take j).foldl zey (o,[])).2=zsg (zoy (zb2 p) i s j)
 | 0,_=>⟨by simpa [zdz] using ho,by simp [zoy,zsg]⟩
 | j+1,hj=>by
  obtain ⟨c,hc,-⟩:=zah (show j<row.length by omega)
  obtain ⟨h1,h2⟩:=zt4 h ho j (by omega)
  rw [zex hc]
  generalize (row.take j).foldl zey (o,[])=q at h1 h2 ⊢
  have hz:=yfv h hc
  have hi:(zdz (zb2 p) i s j).1.idxOf (gz (zb2 p) i j)=q.1.idxOf c:=by rw [← h1,hz,zx5 fun a b=>yg0]
  have hl:(zdz (zb2 p) i s j).1.length=q.1.length:=by rw [← h1,List.length_map]
  constructor
  ·simp only[zey,zdz,zi4]
   rw [hi,hl]
   split
   ·rw [List.map_append,h1,hz]; rfl
   exact h1
  simp only[zey,zoy]
  rw [hi,h2]
  simp [zsg,z8o]
theorem z3g {p:List Txt} {W:Nat} (hW:∀ row∈p,row.length=W):∀ i,i≤p.length →
  ((p.take i).foldl zpf ([],[])).1.map u8I=(zbi (zb2 p) W i).1∧((p.take i).foldl zpf ([],[])).2=zgd (zfa (zb2 p) W i)
 | 0,_=>by simp [zbi,zfa,zgd]
 | i+1,hi=>by
  obtain ⟨row,hr,hm⟩:=zah (show i<p.length by omega)
  obtain ⟨h1,h2⟩:=z3g hW i (by omega)
  rw [zex hr]
  generalize (p.take i).foldl zpf ([],[])=q at h1 h2 ⊢
  have hl:=hW row hm
  obtain ⟨k1,k2⟩:=zt4 hr h1 row.length (qR _)
  rw [List.take_length,hl]at k1 k2
  constructor
  ·simp only[zpf,zrq,zbi]; exact k1
  simp only[zpf,zrq,zfa,zgd,List.map_append,List.map_cons,List.map_nil]
  rw [k2,h2]
  rfl
theorem zge {p:List Txt}:w0 (zb2 p)=(za1 p).length:=by
 cases p with
 | nil=>rfl
 | cons a p=>simp [w0,zb2,zw9,za1]
theorem zm0 {p:List Txt} (hg:zc7 p=true):∀ row∈p,row.length=(za1 p).length:=by
 intro row hm
 obtain ⟨i,hi⟩:=List.getElem?_of_mem hm
 exact zdw hg hi
theorem zok {p:List Txt} (hg:zc7 p=true):names p=zgd (gP p):=by
 have:=(z3g (zm0 hg) p.length (qR _)).2
 rw [List.take_length]at this
 unfold names zvz gP zG
 rw [this,zge,zeb]
theorem yb9 {p:List Txt}:zc7 p=(zie p && okG (zb2 p)):=by
 rw [Bool.eq_iff_iff,qB,zv2,zeb,zge]
 unfold zc7 zie GW zs3
 simp only[qB,decide_eq_true_eq,List.all_eq_true,zeb,true_and]
 constructor
 ·rintro ⟨⟨h1,h2⟩,h3⟩
  obtain ⟨row0,hr0,hm0⟩:=zah (show 0<p.length by omega)
  have hh:=zc2 hr0
  have h4:=h1 row0 hm0
  refine ⟨fun r hr=>(h1 r hr).2,fun r hr=>?_,h2,h3,by rw [hh]; omega,by rw [hh]; omega⟩
  obtain ⟨t,ht,rfl⟩:=List.mem_map.1 hr
  rw [zk6]; exact (h1 t ht).1.1.1
 rintro ⟨h1,h2,h3,h4,h5,h6⟩
 refine ⟨⟨fun r hr=>?_,h3⟩,h4⟩
 have:=h2 (zw9 r) (List.mem_map.2 ⟨r,hr,rfl⟩)
 rw [zk6]at this
 exact ⟨⟨⟨this,by omega⟩,by omega⟩,h1 r hr⟩
theorem z18 {g:List (List Int)} {i:Nat} {s:List Int × List Rect}:∀ {j k:Nat},k<j→(zoy g i s j)[k]?=some (((zdz g i s k).1.idxOf (gz g i k):Nat):Int)
 | 0,k,h=>by omega
 | j+1,k,h=>by
  unfold zoy
  by_cases e:k=j
  ·subst e; rw [List.getElem?_append_right (by rw [zfv]; exact qR _),zfv]; simp
  rw [List.getElem?_append_left (by rw [zfv]; omega)]; exact z18 (by omega)
def keys (p:List Txt):List Int:=(zbi (zb2 p) (za1 p).length p.length).1
theorem z5f {p:List Txt}:gP p=zfa (zb2 p) (za1 p).length p.length:=by unfold gP zG; rw [zge,zeb]
theorem z9x {p:List Txt}:rP p=(zbi (zb2 p) (za1 p).length p.length).2:=by unfold rP stG; rw [zge,zeb]
theorem z7u {p:List Txt} {i j:Nat} (hi:i<p.length) (hj:j<(za1 p).length):gz (gP p) i j=(((keys p).idxOf (gz (zb2 p) i j):Nat):Int):=by
 rw [z5f]
 unfold gz
 rw [zk9 hi,Option.getD_some,z18 hj,Option.getD_some]
 congr 1
 exact zNum hi hj
theorem zhg (p:List Txt):SeInv (gz (zb2 p)) (za1 p).length p.length 0 (keys p) (rP p):=by
 rw [z9x]; exact SeInv.rows p.length
theorem zp4 {H W i j:Nat} (hi:i<H) (hj:j<W):Gone W H 0 i j:=⟨hj,.inl hi⟩
theorem zj6 {p:List Txt}:zw4 (gP p) p.length (za1 p).length (rP p).length:=by
 intro i j hi hj
 rw [z7u hi hj]
 have hm:=(zhg p).mem i j (zp4 hi hj)
 have hl:=(zhg p).len
 have:=List.idxOf_lt_length_iff.2 hm
 omega
structure Named (p:List Txt):Prop where
 hg:zc7 p=true
 ht:zgd (gP p)=p
theorem Named.cell {p:List Txt} (h:Named p) {i j:Nat} (hi:i<p.length) (hj:j<(za1 p).length):gz (gP p) i j=zat p i j:=by
 have hgz:=z7u hi hj
 have hm:=(zhg p).mem i j (zp4 hi hj)
 have hsm:=zb3 h.hg
 obtain ⟨row0,hr0,hm0⟩:=zah hsm.1
 have hh:=zc2 hr0
 have hw6:=hsm.2.2 row0 hm0
 have hw1:=zfe h.hg hr0
 rw [← hh]at hw6 hw1
 have hb:=zmk (g:=zb2 p) hw6 hw1 p.length hsm.2.1
 rw [← z5f]at hb
 have hrl:(gP p).length=p.length:=by rw [z5f]; exact zdf _
 obtain ⟨zr,hzr,hzm⟩:=zah (show i<(gP p).length by omega)
 have hzl:zr.length=(za1 p).length:=by
  have e:=hzr
  rw [z5f,zk9 hi]at e
  cases e
  exact zfv _
 obtain ⟨z,hz,hzm2⟩:=zah (show j<zr.length by omega)
 have hz1:=hb zr hzm z hzm2
 have e1:gz (gP p) i j=z:=by simp [gz,hzr,hz]
 have e2:p[i]?=some (zsg zr):=by
  have:=zny hzr
  rwa [h.ht]at this
 have e3:(zsg zr)[j]?=some (z8o z):=by simp [zsg,hz]
 rw [e1,zdd e2 e3]
 unfold z8o
 rw [UInt8.toNat_ofNat_of_lt' (by show 97+z.toNat<256; omega)]
 omega
theorem Named.room {p:List Txt} (h:Named p) {i j:Nat} (hi:i<p.length) (hj:j<(za1 p).length):0≤zat p i j∧zat p i j<(rP p).length:=by
 rw [← h.cell hi hj]; exact zj6 i j hi hj
theorem Named.key {p:List Txt} (h:Named p) {m:Nat} {v:Int} (hm:(keys p)[m]?=some v) (a b:Nat):Val (gz (zb2 p)) (za1 p).length p.length 0 v a b↔Val (zat p) (za1 p).length p.length 0 m a b:=by
 unfold Val
 constructor
 ·rintro ⟨h1,h2⟩
  refine ⟨?_,h2⟩
  obtain ⟨hb,ha⟩:=h2
  have ha':a<p.length:=by omega
  rw [← h.cell ha' hb,z7u ha' hb,h1]
  congr 1
  have hv:=List.mem_of_getElem? hm
  have hlt:=List.idxOf_lt_length_iff.2 hv
  have:=ziy (ks:=keys p) (z:=v) (by omega)
  exact zrs (zhg p).nd this hm
 rintro ⟨h1,h2⟩
 refine ⟨?_,h2⟩
 obtain ⟨hb,ha⟩:=h2
 have ha':a<p.length:=by omega
 have hmem:=(zhg p).mem a b (zp4 ha' hb)
 have hlt:=List.idxOf_lt_length_iff.2 hmem
 rw [← h.cell ha' hb,z7u ha' hb]at h1
 have:=ziy (ks:=keys p) (z:=gz (zb2 p) a b) (by omega)
 rw [show (keys p).idxOf (gz (zb2 p) a b)=m by omega,hm]at this
 cases this; rfl
theorem Named.rect {p:List Txt} (h:Named p) {m:Nat} {b:Rect} (hb:(rP p)[m]?=some b):zmo (Val (zat p) (za1 p).length p.length 0 m) b:=by
 have hi:=zhg p
 have hml:=zcq hb
 rw [hi.len]at hml
 obtain ⟨v,hv,-⟩:=zah hml
 exact (hi.hull m v b hv hb).congr (h.key hv)
theorem Named.box {p:List Txt} (h:Named p) {m:Nat} {b:Rect} (hb:(rP p)[m]?=some b):b.row=(zhr p m).top∧b.col=(zhr p m).left∧b.high=zea p m∧b.wide=zd2 p m:=by
 have h1:=h.rect hb
 have h2:=z61 (zm0 h.hg) rfl (r:=(m:Int))
 rcases h2 with ⟨h2,-⟩ | h2
 ·obtain ⟨a,c,q,-⟩:=h1.at_
  exact absurd q (h2 a c)
 have:=Hull.uniq h1 h2
 unfold zea zd2
 omega
theorem zpb {f:UInt8→Int} {B:Int}:∀ (row:Txt) (n:Int),n≤B→(∀ c∈row,f c≤B)→row.foldl (fun n c=>max n (f c)) n≤B
 | [],n,h,_=>h
 | c::row,n,h,hc=>zpb row _ (by have:=hc c (by simp); show max n (f c)≤B; omega) fun d hd=>hc d (by simp [hd])
theorem z4a {B:Int}:∀ (p:List Txt) (n:Int),n≤B→(∀ row∈p,∀ c∈row,(c.toNat:Int) - 97+1≤B)→p.foldl zhd n≤B
 | [],n,h,_=>h
 | row::p,n,h,hc=>z4a p _ (zpb row n h (hc row (by simp))) fun r hr=>hc r (by simp [hr])
theorem Named.rooms {p:List Txt} (h:Named p):zce p=(rP p).length:=by
 have hi:=zhg p
 have hl:=hi.len
 apply Int.le_antisymm
 ·refine z4a p 0 (by omega) fun row hr c hc=>?_
  obtain ⟨i,hrow⟩:=List.getElem?_of_mem hr
  obtain ⟨j,hcol⟩:=List.getElem?_of_mem hc
  have hil:=zcq hrow
  have hjl:=zcq hcol
  have:=h.room hil (by rw [← zdw h.hg hrow]; exact hjl)
  rw [zdd hrow hcol]at this
  omega
 by_cases h0:(rP p).length=0
 ·have:=(zd5 p).1; omega
 obtain ⟨b,hb,-⟩:=zah (show (rP p).length - 1<(rP p).length by omega)
 obtain ⟨a,c,⟨q1,q2⟩,-⟩:=(h.rect hb).at_
 obtain ⟨hc,ha⟩:=q2
 have ha':a<p.length:=by omega
 obtain ⟨row,hrow,hrm⟩:=zah ha'
 have hrl:=zdw h.hg hrow
 obtain ⟨d,hd,-⟩:=zah (show c<row.length by omega)
 have:=(z6c p 0).2 a c row d hrow hd
 rw [zdd hrow hd]at q1
 unfold zce
 omega
def inB (b:Rect) (i j:Nat):Bool:=(decide (b.row≤i) && decide ((i:Int)<b.row+b.high)) && (decide (b.col≤j) && decide ((j:Int)<b.col+b.wide))
theorem zqf {z:Nat→Nat→Int} {H W:Nat} {v:Int} {b:Rect} (h:zmo (Val z W H 0 v) b):((cnt H W (inB b):Nat):Int)=b.high*b.wide∧∀ i j,i<H→j<W→z i j=v→inB b i j=true:=by
 obtain ⟨t,l,hh,w,e1,e2,e3,e4,h1,h2,h3,h4,h5⟩:=Hull.nat h
 have e5:b.high=hh:=by omega
 have e6:b.wide=w:=by omega
 have e:∀ i j,inB b i j=inR t l hh w i j:=by
  intro i j
  unfold inB inR
  rw [e1,e2,e5,e6,Bool.eq_iff_iff]
  simp only[qB,decide_eq_true_eq]
  omega
 have e7:inB b=inR t l hh w:=by funext i j; exact e i j
 rw [e7,yby h3 h4,e5,e6]
 exact ⟨by simp,h5⟩
def arN (p:List Txt) (m:Nat):Nat :=
 match (rP p)[m]? with
 | some b=>cnt p.length (za1 p).length (inB b)
 | none=>0
theorem z2a {p:List Txt} {m:Nat} {b:Rect} (h:(rP p)[m]?=some b):arN p m=cnt p.length (za1 p).length (inB b):=by simp [arN,h]
theorem yay {p:List Txt} (h:Named p):∀ k,k≤(rP p).length→z6h ((rP p).take k)=((sN k (arN p):Nat):Int)
 | 0,_=>by simp [z6h,sN]
 | k+1,hk=>by
  obtain ⟨b,hb,-⟩:=zah (show k<(rP p).length by omega)
  rw [zsr hb,yay h k (by omega),sN,z2a hb,← (zqf (h.rect hb)).1]
  simp
theorem Named.cells_le {p:List Txt} (h:Named p) {m:Nat} (hm:m<(rP p).length):cnt p.length (za1 p).length (inZ p m)≤arN p m:=by
 obtain ⟨b,hb,-⟩:=zah hm
 rw [z2a hb]
 exact yho fun i j hi hj hz=>(zqf (h.rect hb)).2 i j hi hj (by unfold inZ at hz; simpa using hz)
theorem Named.all {p:List Txt} (h:Named p):sN (rP p).length (fun m=>cnt p.length (za1 p).length (inZ p m))=p.length*(za1 p).length:=by
 rw [← z0q (H:=p.length) (W:=(za1 p).length) (n:=(rP p).length) (z:=fun i j=>(zat p i j).toNat) fun i j hi hj=>by have:=h.room hi hj; omega]
 refine zgg fun m hm=>z7e fun i j hi hj=>?_
 unfold inZ
 have:=h.room hi hj
 apply decide_eq_decide.2
 omega
theorem yb6 {p:List Txt} (h:Named p):zmx (zb2 p)=decide (sN (rP p).length (arN p)=p.length*(za1 p).length):=by
 have:=yay h (rP p).length (qR _)
 rw [List.take_length]at this
 unfold zmx
 rw [show (stG (zb2 p)).2=rP p from rfl,this,zeb,zge]
 apply decide_eq_decide.2
 omega
theorem Named.area {p:List Txt} (h:Named p) {m:Nat} (hm:m<(rP p).length):(zf6 p m=zea p m*zd2 p m)↔cnt p.length (za1 p).length (inZ p m)=arN p m:=by
 obtain ⟨b,hb,-⟩:=zah hm
 obtain ⟨-,-,e1,e2⟩:=h.box hb
 rw [z5h (zm0 h.hg),← e1,← e2,← (zqf (h.rect hb)).1,z2a hb]
 omega
theorem Named.full {p:List Txt} (h:Named p):zmx (zb2 p)=true↔∀ m,m<(rP p).length→cnt p.length (za1 p).length (inZ p m)=arN p m:=by
 rw [yb6 h,decide_eq_true_eq,← h.all]
 constructor
 ·intro e m hm
  exact yc7 (fun m hm=>h.cells_le hm) e.symm m hm
 intro e
 exact zgg fun m hm=>(e m hm).symm
theorem Named.fill {p:List Txt} (h:Named p) (hf:zmx (zb2 p)=true) {m:Nat} {b:Rect} (hb:(rP p)[m]?=some b) {i j:Nat} (hi:i<p.length) (hj:j<(za1 p).length):inB b i j=decide (zat p i j=m):=by
 have e:=h.full.1 hf m (zcq hb)
 rw [z2a hb]at e
 exact (yhn (fun i j hi hj hz=>(zqf (h.rect hb)).2 i j hi hj (by unfold inZ at hz; simpa using hz)) e i j hi hj).symm
theorem zi9 {p:List Txt}:zha p=zcc p:=by
 unfold zha zq8 okB okS zcc
 rw [Bool.eq_iff_iff]
 simp only[qB,decide_eq_true_eq,List.all_eq_true,List.mem_range]
 have hgi:=yb9 (p:=p)
 constructor
 ·rintro ⟨⟨h1,h2,h3⟩,h4,h5⟩
  have hg:zc7 p=true:=by rw [hgi,h1,h2]; rfl
  have hN:Named p:=⟨hg,h5⟩
  have hr:=hN.rooms
  have h3':(rP p).length≤9:=h3
  refine ⟨⟨⟨hg,by rw [zok hg]; exact h5⟩,by omega⟩,fun m hm=>?_⟩
  have hm':m<(rP p).length:=by omega
  exact (hN.area hm').2 (hN.full.1 h4 m hm')
 rintro ⟨⟨⟨hg,h2⟩,h3⟩,h4⟩
 have h5:zgd (gP p)=p:=by rw [← zok hg]; exact h2
 have hN:Named p:=⟨hg,h5⟩
 have hr:=hN.rooms
 rw [hgi,qB]at hg
 have h3':(rP p).length≤9:=by omega
 exact ⟨⟨hg.1,hg.2,h3'⟩,hN.full.2 fun m hm=>(hN.area hm).1 (h4 m (by omega)),h5⟩
theorem zda {p:List Txt} (h:zcc p=true):Named p:=by
 have h2:=h
 rw [← zi9]at h2
 unfold zha zq8 at h2
 simp only[qB,decide_eq_true_eq]at h2
 exact ⟨zed h,h2.2.2⟩
theorem z9n {p:List Txt} (h:zcc p=true):zmx (zb2 p)=true:=by
 rw [← zi9]at h
 unfold zha zq8 at h
 simp only[qB,decide_eq_true_eq]at h
 exact h.2.1
def cz (c:UInt8):Int:=(c.toNat:Int) - 97
theorem yhp {a b:UInt8}:(cz a=cz b)=(a=b):=by
 rw [ydh]
 unfold cz
 apply propext; omega
theorem yfk (a b c d:UInt8):((dn [cz a,cz b,cz c,cz d]:Nat):Int)=zg9 [a,b,c,d] 4:=by
 simp only[dn,zg9,z8y,zs0,List.mem_cons,List.not_mem_nil,or_false,yhp]
 by_cases h1:a=b <;> by_cases h2:a=c <;> by_cases h3:a=d <;> by_cases h4:b=c <;> by_cases h5:b=d <;> by_cases h6:c=d <;> simp_all [eq_comm]
theorem z5e {p:List Txt} (h:Named p) {i k:Nat} (hi:1≤i) (hi2:i<p.length) (hk:1≤k) (hk2:k<(za1 p).length):((dn (four (gP p) i k):Nat):Int)=zkb p i k:=by
 obtain ⟨r1,hr1,-⟩:=zah (show i - 1<p.length by omega)
 obtain ⟨r2,hr2,-⟩:=zah hi2
 have l1:=zdw h.hg hr1
 have l2:=zdw h.hg hr2
 obtain ⟨a,ha,-⟩:=zah (show k - 1<r1.length by omega)
 obtain ⟨b,hb,-⟩:=zah (show k<r1.length by omega)
 obtain ⟨c,hc,-⟩:=zah (show k - 1<r2.length by omega)
 obtain ⟨d,hd,-⟩:=zah (show k<r2.length by omega)
 unfold four zkb
 rw [h.cell (by omega) (by omega),h.cell (by omega) (by omega),h.cell (by omega) (by omega),h.cell (by omega) (by omega),zdd hr1 ha,zdd hr1 hb,zdd hr2 hc,zdd hr2 hd]
 simp only[hr1,hr2,ha,hb,hc,hd]
 exact yfk a b c d
theorem zy8 {p:List Txt} (h:Named p) {many:Int} {i:Nat} (hi:1≤i) (hi2:i<p.length):∀ k,k≤(za1 p).length→zeg (gP p) many i k=zhc p many i k
 | 0,_=>rfl
 | k+1,hk=>by
  unfold zeg zhc
  rw [zy8 h hi hi2 k (by omega)]
  by_cases h1:1≤k
  ·rw [z5e h hi hi2 h1 (by omega)]
  rw [if_neg (fun e=>h1 e.1),if_neg (fun e=>h1 e.1)]
theorem yem {p:List Txt} (h:Named p) {many:Int}:∀ i,i≤p.length→zy6 (gP p) many (za1 p).length i=zjv p many (za1 p).length i
 | 0,_=>rfl
 | i+1,hi=>by
  unfold zy6 zjv
  rw [yem h i (by omega)]
  by_cases h1:1≤i
  ·rw [zy8 h h1 (by omega) _ (qR _)]
  rw [if_neg h1,if_neg h1]
theorem zig {p:List Txt}:zf2 p=ze6 p:=by
 unfold zf2 ze6
 rw [zi9]
 cases hp:zcc p with
 | false=>rfl
 | true =>
  rw [zge,yem (zda hp) p.length (qR _)]
  rfl
theorem zec {p:List Txt} (h:ze6 p=true):zcc p=true:=by
 unfold ze6 at h
 rw [qB]at h
 exact h.1
theorem z09 {p:List Txt} {ws:List Int}:zdp p [ws]=zhw p ws:=by
 unfold zdp zhw zio
 rw [zig]
 cases hp:ze6 p with
 | false=>rfl
 | true =>
  have hr:=(zda (zec hp)).rooms
  simp only[List.all_cons,List.all_nil,Bool.and_true,Bool.true_and]
  congr 1
  rw [hr]
  apply decide_eq_decide.2
  omega
theorem zoj {l:List Int} {x:Int}:x∈ddp l↔x∈l:=by
 have:∀ (l m:List Int),x∈l.foldl zst m↔x∈m∨x∈l:=by
  intro l
  induction l with
  | nil=>intro m; simp
  | cons a l ih=>intro m; rw [List.foldl_cons,ih,z3d,List.mem_cons,or_assoc]
 unfold ddp
 rw [this]
 simp
def Rise (n:Nat) (rk:Nat→Nat) (M:List (List Bool)):Prop:=Sq n M∧∀ a b,a<n→b<n→zdg M a b=true→rk a<rk b
theorem Rise.clA {n:Nat} {rk:Nat→Nat} {M:List (List Bool)} (h:Rise n rk M) {k a:Nat} (hk:k<n) (ha:a<n):Rise n rk (clA n k M a):=by
 obtain ⟨h1,h2⟩:=z2h h.1 hk ha n (qR _)
 refine ⟨h1,fun x y hx hy hxy=>?_⟩
 unfold Fw.clA at hxy
 rw [h2 x y hx hy]at hxy
 split at hxy
 ·rename_i e
  obtain ⟨rfl,-⟩:=e
  rw [Bool.or_eq_true,qB]at hxy
  rcases hxy with hxy | ⟨h3,h4⟩
  ·exact h.2 x y hx hy hxy
  exact Nat.lt_trans (h.2 x k hx hk h3) (h.2 k y hk hy h4)
 exact h.2 x y hx hy hxy
theorem Rise.fold {n:Nat} {rk:Nat→Nat} {f:List (List Bool)→Nat→List (List Bool)}:∀ (i:Nat) {M:List (List Bool)},i≤n→(∀ M j,j<n→Rise n rk M→Rise n rk (f M j))→Rise n rk M→Rise n rk ((List.range i).foldl f M)
 | 0,_,_,_,h=>h
 | i+1,M,hi,hs,h=>by
  rw [zc0]
  exact hs _ i (by omega) (Rise.fold i (by omega) hs h)
theorem Rise.close {n:Nat} {rk:Nat→Nat} {M:List (List Bool)} (h:Rise n rk M):Rise n rk (zgk M):=by
 unfold zgk
 rw [h.1.1]
 exact Rise.fold n (qR _) (fun _ k hk h=>Rise.fold n (qR _) (fun _ a ha h=>h.clA hk ha) h) h
theorem Rise.relB {n:Nat} {rk:Nat→Nat} {a:Int} (ha:0≤a∧a<n):∀ {bs:List Int} {M:List (List Bool)},Rm n bs→(∀ b∈bs,rk a.toNat<rk b.toNat)→Rise n rk M→Rise n rk (relB a bs M)
 | [],_,_,_,h=>h
 | b::bs,M,hb,hr,h=>by
  have hb0:=hb b (by simp)
  refine Rise.relB ha (bs:=bs) (fun x hx=>hb x (by simp [hx])) (fun x hx=>hr x (by simp [hx])) ⟨h.1.set (by omega),fun x y hx hy hxy=>?_⟩
  rw [zmy h.1 (by omega) (by omega)]at hxy
  split at hxy
  ·rename_i e
   rw [e.1,e.2]; exact hr b (by simp)
  exact h.2 x y hx hy hxy
theorem Rise.relW {n:Nat} {rk:Nat→Nat} {bs:List Int} (hb:Rm n bs):∀ {la:List Int} {M:List (List Bool)},Rm n la→(∀ a∈la,∀ b∈bs,rk a.toNat<rk b.toNat)→Rise n rk M→Rise n rk (relW M la bs)
 | [],_,_,_,h=>h
 | a::la,M,ha,hr,h=>Rise.relW hb (la:=la) (fun x hx=>ha x (by simp [hx])) (fun x hx=>hr x (by simp [hx])) (h.relB (ha a (by simp)) hb (hr a (by simp)))
theorem Rise.empty {n:Nat} {rk:Nat→Nat}:Rise n rk (zcl n):=by
 refine ⟨ze5 n,fun a b ha hb h=>?_⟩
 simp [zdg,zcl,ha,hb]at h
theorem Rise.ord {g:List (List Int)} {nh nw n:Nat} {r0 r1:Nat→Nat} (hrm:zw4 g nh nw n) (h0:∀ w,zu9 g nh nw w→w.level=false→∀ a∈(zbw g w).1,∀ b∈(zbw g w).2,r0 a.toNat<r0 b.toNat)
  (h1:∀ w,zu9 g nh nw w→w.level=true→∀ a∈(zbw g w).1,∀ b∈(zbw g w).2,r1 a.toNat<r1 b.toNat):∀ (ws:List Wall),(∀ w∈ws,zu9 g nh nw w)→∀ {M:List (List Bool) × List (List Bool)},Rise n r0 M.1→Rise n r1 M.2 →
  Rise n r0 (ws.foldl (zn5 g) M).1∧Rise n r1 (ws.foldl (zn5 g) M).2
 | [],_,_,k0,k1=>⟨k0,k1⟩
 | w::ws,hws,M,k0,k1=>by
  have hw:=hws w (by simp)
  obtain ⟨hr1,hr2⟩:=zfu hrm hw
  rw [List.foldl_cons]
  refine Rise.ord hrm h0 h1 ws (fun w hw=>hws w (by simp [hw])) ?_ ?_
  ·unfold zn5
   cases hlv:w.level with
   | false=>simpa using k0.relW hr2 hr1 (h0 w hw hlv)
   | true=>simpa using k0
  unfold zn5
  cases hlv:w.level with
  | false=>simpa using k1
  | true=>simpa using k1.relW hr2 hr1 (h1 w hw hlv)
theorem yig {g:List (List Int)} {nh nw:Nat} {w:Wall} (hw:zu9 g nh nw w) {x:Int} (hx:x∈(zbw g w).1):∃ line j:Nat,w.line=line∧x=(zcx g w.level line j).1∧InL nh nw w.level line j∧zi7 g w.level line j=true:=by
 obtain ⟨line,fr,long,e,h1,h2⟩:=hw
 have e1:w.line.toNat=line:=by rw [e]; simp
 have e2:w.fr.toNat=fr:=by rw [e]; simp
 have e3:w.long.toNat=long:=by rw [e]; simp
 simp only[zbw,e1,e2,e3]at hx
 have:=zoj.1 hx
 simp only[zb9,List.mem_map,List.mem_range]at this
 obtain ⟨j,hj,rfl⟩:=this
 have h3:=h2 (fr+j) (by omega) (by omega)
 exact ⟨line,fr+j,by rw [e],rfl,h3.1,h3.2⟩
theorem yih {g:List (List Int)} {nh nw:Nat} {w:Wall} (hw:zu9 g nh nw w) {x:Int} (hx:x∈(zbw g w).2):∃ line j:Nat,w.line=line∧x=(zcx g w.level line j).2∧InL nh nw w.level line j∧zi7 g w.level line j=true:=by
 obtain ⟨line,fr,long,e,h1,h2⟩:=hw
 have e1:w.line.toNat=line:=by rw [e]; simp
 have e2:w.fr.toNat=fr:=by rw [e]; simp
 have e3:w.long.toNat=long:=by rw [e]; simp
 simp only[zbw,e1,e2,e3]at hx
 have:=zoj.1 hx
 simp only[zb9,List.mem_map,List.mem_range]at this
 obtain ⟨j,hj,rfl⟩:=this
 have h3:=h2 (fr+j) (by omega) (by omega)
 exact ⟨line,fr+j,by rw [e],rfl,h3.1,h3.2⟩
def rkL (p:List Txt) (a:Nat):Nat:=match (rP p)[a]? with | some b=>b.col.toNat | none=>0
def rkA (p:List Txt) (a:Nat):Nat:=match (rP p)[a]? with | some b=>b.row.toNat | none=>0
theorem zgs {p:List Txt} (hp:zcc p=true) {i j:Nat} (hi:i<p.length) (hj:j<(za1 p).length):∃ b,(rP p)[(zat p i j).toNat]?=some b∧inB b i j=true∧b.Fit∧∀ k l,k<p.length→l<(za1 p).length→inB b k l=true→zat p k l=zat p i j:=by
 have hN:=zda hp
 have hr:=hN.room hi hj
 obtain ⟨b,hb,hbm⟩:=zah (show (zat p i j).toNat<(rP p).length by omega)
 have hf:=z9n hp
 have hsm:=zb3 hN.hg
 obtain ⟨row0,hr0,hm0⟩:=zah hsm.1
 have hh:=zc2 hr0
 have hw6:=hsm.2.2 row0 hm0
 have hw1:=zfe hN.hg hr0
 rw [← hh]at hw6 hw1
 have hok:=(zgv (g:=zb2 p) hw6 hw1 p.length hsm.2.1).1
 rw [← z9x]at hok
 refine ⟨b,hb,?_,hok.2 b hbm,fun k l hk hl hkl=>?_⟩
 ·rw [hN.fill hf hb hi hj]; exact decide_eq_true (by omega)
 rw [hN.fill hf hb hk hl]at hkl
 have:=of_decide_eq_true hkl
 omega
theorem z9o {p:List Txt} (hp:zcc p=true) {w:Wall} (hw:zu9 (gP p) p.length (za1 p).length w) (hl:w.level=false):∀ a∈(zbw (gP p) w).1,∀ b∈(zbw (gP p) w).2,rkL p a.toNat<rkL p b.toNat:=by
 intro a ha b hb
 have hN:=zda hp
 obtain ⟨L,j,e1,rfl,⟨h1,h2⟩,h3⟩:=yig hw ha
 obtain ⟨L',j',e2,rfl,⟨k1,k2⟩,k3⟩:=yih hw hb
 obtain rfl:L=L':=by omega
 simp only[hl,qF,if_false]at h2 k2
 unfold zi7 at k3
 simp only[hl,zcx,qF,if_false,decide_eq_true_eq]at k3 ⊢
 rw [hN.cell k2.2 (by omega),hN.cell k2.2 k2.1]at k3
 rw [hN.cell h2.2 (by omega),hN.cell k2.2 k2.1]
 obtain ⟨r1,hr1,q1,f1,-⟩:=zgs hp h2.2 (show L - 1<(za1 p).length by omega)
 obtain ⟨r2,hr2,q2,f2,c2⟩:=zgs hp k2.2 k2.1
 unfold rkL
 rw [hr1,hr2]
 simp only
 have c3:=c2 j' (L - 1) k2.2 (by omega)
 unfold inB at q1 q2 c3
 unfold Rect.Fit at f1 f2
 simp only[qB,decide_eq_true_eq]at q1 q2 c3
 by_cases hc:r2.col<(L:Int)
 ·exact absurd (c3 (by omega)) k3
 omega
theorem z5y {p:List Txt} (hp:zcc p=true) {w:Wall} (hw:zu9 (gP p) p.length (za1 p).length w) (hl:w.level=true):∀ a∈(zbw (gP p) w).1,∀ b∈(zbw (gP p) w).2,rkA p a.toNat<rkA p b.toNat:=by
 intro a ha b hb
 have hN:=zda hp
 obtain ⟨L,j,e1,rfl,⟨h1,h2⟩,h3⟩:=yig hw ha
 obtain ⟨L',j',e2,rfl,⟨k1,k2⟩,k3⟩:=yih hw hb
 obtain rfl:L=L':=by omega
 simp only[hl,if_true]at h2 k2
 unfold zi7 at k3
 simp only[hl,zcx,if_true,decide_eq_true_eq]at k3 ⊢
 rw [hN.cell (by omega) k2.2,hN.cell k2.1 k2.2]at k3
 rw [hN.cell (by omega) h2.2,hN.cell k2.1 k2.2]
 obtain ⟨r1,hr1,q1,f1,-⟩:=zgs hp (show L - 1<p.length by omega) h2.2
 obtain ⟨r2,hr2,q2,f2,c2⟩:=zgs hp k2.1 k2.2
 unfold rkA
 rw [hr1,hr2]
 simp only
 have c3:=c2 (L - 1) j' (by omega) k2.2
 unfold inB at q1 q2 c3
 unfold Rect.Fit at f1 f2
 simp only[qB,decide_eq_true_eq]at q1 q2 c3
 by_cases hc:r2.row<(L:Int)
 ·exact absurd (c3 (by omega)) k3
 omega
theorem yib {p:List Txt} (hp:zcc p=true) (b:Nat):rkL p b≤100∧rkA p b≤100:=by
 have hN:=zda hp
 have hsm:=zb3 hN.hg
 obtain ⟨row0,hr0,hm0⟩:=zah hsm.1
 have hh:=zc2 hr0
 have hw6:=hsm.2.2 row0 hm0
 have hw1:=zfe hN.hg hr0
 rw [← hh]at hw6 hw1
 have hok:=(zgv (g:=zb2 p) hw6 hw1 p.length hsm.2.1).1
 rw [← z9x]at hok
 unfold rkL rkA
 cases hb:(rP p)[b]? with
 | none=>simp
 | some r =>
  have:=hok.2 r (List.mem_of_getElem? hb)
  unfold Rect.Fit at this
  simp only
  omega
theorem z9q {p:List Txt} (hp:zcc p=true):Up (zjc (gP p) p.length (za1 p).length (rP p).length) (rP p).length (rkL p)∧Up (zfl (gP p) p.length (za1 p).length (rP p).length) (rP p).length (rkA p):=by
 have h:=Rise.ord (r0:=rkL p) (r1:=rkA p) (zj6 (p:=p)) (fun w hw hl=>z9o hp hw hl) (fun w hw hl=>z5y hp hw hl) (zc6 (gP p) p.length (za1 p).length) zd1 (M:=(zcl (rP p).length,zcl (rP p).length)) Rise.empty Rise.empty
 have h0:=h.1.close
 have h1:=h.2.close
 exact ⟨⟨h0.1,h0.2,fun b=>(yib hp b).1⟩,⟨h1.1,h1.2,fun b=>(yib hp b).2⟩⟩
theorem ycv {p:List Txt} (hp:zf2 p=true):zw4 (gP p) p.length (w0 (zb2 p)) (rP p).length∧(∃ rk,Up (zjc (gP p) p.length (w0 (zb2 p)) (rP p).length) (rP p).length rk)∧∃ rk,Up (zfl (gP p) p.length (w0 (zb2 p)) (rP p).length) (rP p).length rk:=by
 rw [zig]at hp
 have h:=z9q (zec hp)
 rw [zge]
 exact ⟨zj6,⟨_,h.1⟩,⟨_,h.2⟩⟩
section
open Go Go.ChangeShapes Go.WideShapes Go.ChangeAt Go.RowKit
set_option maxRecDepth 100000 in
theorem ydc {W:World} {base:Nat} {t e:TypeId} {a:Addr} {len cap:Nat} (ht:Tryz.prog.underlying t=some (.slice e)) (hval:Value.okWide Tryz.prog W .any base t (.slice (some a) len cap)):a.spot=none∧a.block<W.heap.size:=by
 simp only[Value.okWide,ht,Cell.okWide,Cell.ok]at hval
 obtain ⟨-,-,-,hsp,row,cells,hsh,-⟩:=hval
 refine ⟨hsp,?_⟩
 unfold World.shape? at hsh
 rcases Nat.lt_or_ge a.block W.heap.size with h | h
 ·exact h
 rw [Array.getElem?_eq_none h]at hsh; cases hsh
end
section
open Go Go.ChangeShapes Go.WideShapes Go.ChangeAt Go.RowKit
set_option maxRecDepth 100000 in
theorem ydj {H:Type} {enc:TypeId × Value→H} {W:World} {base:Nat} {v:Value} {d:DataW H} {ps:List MemPlace} (hval:Value.okWide Tryz.prog W .any base 22 v) (h:DataW.Trod enc Tryz.prog W 0 (fun _=>true) true 22 v d ps) :
  ∃ p:Txt,VI W.heap (fun b=>b<W.heap.size) (.sl (p.map eB) p.length) v∧p.length≤9223372036854775807:=by
 obtain ⟨a0,len,cap,rfl⟩:=okWide_slice Tryz.underlying22 hval
 obtain ⟨fuel,hf⟩:=h
 rcases open_ints Tryz.underlying22 Tryz.underlying5 (by kernel_rfl) hf with ⟨hcs,hx⟩ | ⟨a,len',cap',zs,hcs,-,hl,hm,hz,hx,hcell,hwf⟩
 ·simp [Value.cells]at hcs
  obtain ⟨rfl,rfl,rfl⟩:=hcs
  exact ⟨[],.sl0,by simp⟩
 simp [Value.cells]at hcs
 obtain ⟨rfl,rfl,rfl⟩:=hcs
 obtain ⟨hsp,hlt⟩:=ydc Tryz.underlying22 hval
 obtain ⟨b,off,spot⟩:=a
 simp only at hsp hlt
 subst hsp
 simp only[if_true]at hz
 have hml:maxLen≤9223372036854775807:=by decide
 have hlen:((zs.take len).map fun n:Int=>UInt8.ofNat n.toNat).length=len:=by simp; omega
 have hget:∀ (i:Nat) c,((zs.take len).map fun n:Int=>UInt8.ofNat n.toNat)[i]?=some c→i<len∧(c.toNat:Int)=zs.getD i 0:=by
  intro i c hc
  rw [List.getElem?_map,qI]at hc
  obtain ⟨z,hz1,rfl⟩:=hc
  have hi:=zcq hz1
  simp only[List.length_take]at hi
  rw [List.getElem?_take_of_lt (by omega)]at hz1
  refine ⟨by omega,?_⟩
  rw [List.getD_eq_getElem?_getD,hz1,Option.getD_some]
  have hw:=hwf z (List.mem_of_getElem? hz1)
  have hz8:0≤z∧z<256:=by
   have e:IntKind.u8.min≤z∧z≤IntKind.u8.max:=by simpa [Lit.wf] using hw
   have e1:IntKind.u8.min=0:=by decide
   have e2:IntKind.u8.max=255:=by decide
   omega
  have e3:(UInt8.ofNat z.toNat).toNat=z.toNat % 256:=rfl
  rw [e3]
  omega
 refine ⟨(zs.take len).map fun n:Int=>UInt8.ofNat n.toNat,?_,by rw [hlen]; omega⟩
 rw [hlen]
 refine .sl _ _ b off cap (fun i => .int .u8 (zs.getD i 0)) (fun _=>hlt) hl (fun i q hq=>?_) (fun i q hq=>?_)
 ·rw [List.getElem?_map,qI]at hq
  obtain ⟨c,hc,rfl⟩:=hq
  obtain ⟨hi,-⟩:=hget i c hc
  refine ⟨rfl,?_⟩
  rw [← zhe]
  have:=hcell i (by omega)
  rwa [add_lit]at this
 rw [List.getElem?_map,qI]at hq
 obtain ⟨c,hc,rfl⟩:=hq
 obtain ⟨-,e⟩:=hget i c hc
 show VI _ _ (.int .u8 (c.toNat:Int)) _
 rw [e]
 exact .int _ _
end
theorem z5q {p:List Txt} (hs:Sm p) {wss:List (List Int)} (hn:wss.length≤1000) (hw:∀ ws∈wss,ws.length≤1048576) {wv t:Nat}:Ev Tryz.prog 32 [zbc p,.loc 0 wv 0 wss.length] ⟨[.arr wv 24 1 (wss.map eInts)],t⟩ fun v S=>∃ x,v = .tup [x,.bool (zdp p wss)]∧((zdp p wss)=true→x=zax (gP p) (rP p))∧S=⟨[.arr wv 24 1 (wss.map eInts)],t⟩:=by
 obtain ⟨x,hx,hxy,hxr⟩:=zui hs
 refine Ev.of ⟨Tryz.func32,by kernel_rfl,rfl,by kernel_rfl⟩ zbl mixed (by show 2≤Tryz.f32.ntmps; decide) ?_
 refine W.r fun K hK=>?_
 simp(disch:=omega)only[↓RU,RV,RH,↓reduceIte,qE,reduceCtorEq,if_pos,↓RS,RG,qA,qM,qL]
 apply hK;clear hK K
 refine W.r fun K hK=>?_
 simp(disch:=omega)only[↓RU,RV,RH,↓reduceIte,qE,reduceCtorEq,if_pos,qN,↓RS,RG,qA,qM,qL]
 refine zaf.pc (hx) rfl (.inr rfl) ?_
 simp(disch:=omega)only[↓RU,RV,RH,↓reduceIte,qE,reduceCtorEq,if_pos,qN,↓RS,RG,qA,qM,qL]
 apply hK;clear hK K
 refine W.seq ?_
 refine W.r fun K hK=>?_
 simp(disch:=omega)only[↓RU,RV,RH,↓reduceIte,qE,reduceCtorEq,if_pos,↓RS,RG,qA,qM,qL]
 apply hK;clear hK K
 refine W.cond rfl (fun h=>?_) (fun h=>?_)
 ·try simp only[RL]at h
  refine W.r fun K hK=>?_
  simp(disch:=omega)only[↓RU,RV,RH,↓reduceIte,qE,reduceCtorEq,if_pos,↓RS,RG,qA,qM,qL]
  apply hK;clear hK K
  refine W.ret ?_
  refine XThen.ret ?_
  refine Br rfl ?_
  exact ⟨_,_,by rw [zdp,h]; rfl,fun h9=>absurd h9 (by unfold zdp; rw [h]; exact Bool.false_ne_true),za2⟩
 try simp only[RL]at h
 obtain rfl:=hxy h
 refine W.skip ?_
 refine xn ?_
 refine W.r fun K hK=>?_
 simp(disch:=omega)only[↓RU,RV,RH,↓reduceIte,qE,reduceCtorEq,if_pos,↓RS,RG,qA,qM,qL]
 apply hK;clear hK K
 refine W.seq ?_
 refine W.r fun K hK=>?_
 simp(disch:=omega)only[↓RU,RV,RH,↓reduceIte,qE,reduceCtorEq,if_pos,↓RS,RG,qA,qM,qL,ty1,zab,zaa,zvg,yfw]
 apply hK;clear hK K
 refine W.block ?_
 refine W.loop [6,8,18,19,20] (fun n vs S=>∃ i:Nat,n=wss.length - i∧i≤wss.length∧((wss.take i).all (zio p)=true)∧vs=[zax (gP p) (rP p),.fn 70 [],.loc 0 wv 0 wss.length,.int .i64 wss.length,.int .i64 i]∧S=⟨[.arr wv 24 1 (wss.map eInts)],t⟩) (wss.length) ?_ ?_
 ·refine ⟨1,0,rfl,Nat.zero_le _,rfl,?_,rfl⟩
  simp [Env.put,Env.of,zad]
 rintro n vs S - ⟨i,rfl,h_i,hall,rfl,rfl⟩
 refine W.r fun K hK=>?_
 simp(disch:=omega)only[↓RU,RV,RH,↓reduceIte,qE,reduceCtorEq,if_pos,w64,↓RS,RG,qA,qM,qL,zaa]
 apply hK;clear hK K
 refine W.seq ?_
 refine W.cond rfl (fun h1=>?_) (fun h1=>?_)
 ·try simp only[RL]at h1
  obtain ⟨ws,hws,hwm⟩:=zah (show i<wss.length by omega)
  have hwl:=hw ws hwm
  obtain ⟨hokp,-⟩:=zr5 h
  have hrp:(rP p).length≤1000:=by have:=zm6 hokp; omega
  refine W.skip ?_
  refine xn ?_
  refine W.seq ?_
  refine W.block ?_
  refine W.r fun K hK=>?_
  simp(disch:=omega)only[↓RU,RV,RH,↓reduceIte,qE,reduceCtorEq,if_pos,↓RS,RG,qA,qM,qL,ty1,zab,zaa,hws]
  apply hK;clear hK K
  refine W.r fun K hK=>?_
  by_cases hlen:ws.length=(rP p).length
  ·skip
   have hd:((ws.length:Int) != ((rP p).length:Int))=false:=by rw [hlen]; simp
   simp(disch:=omega)only[↓RU,RV,RH,↓reduceIte,qE,reduceCtorEq,if_pos,w64,qN,↓RS,RG,qA,qM,qL,ty1,ty3,zab,zej,zdc,zbt,zaa,zek,zbu,hd,zb4]
   refine zaf.pc (zle (l:=ws) (by omega) (g:=70) (cap:=[]) rfl rfl (test:=fun n => !zlb n) (fun n _=>zrr n)) rfl (.inl rfl) ?_
   simp(disch:=omega)only[↓RU,RV,RH,↓reduceIte,qE,reduceCtorEq,if_pos,w64,qN,↓RS,RG,qA,qM,qL,ty1,ty3,zab,zej,zdc,zbt,zaa,zek,zbu,hd,zb4]
   apply hK;clear hK K
   refine W.cond rfl (fun h2=>?_) (fun h2=>?_)
   ·try simp only[RL]at h2
    have hok:zio p ws=false:=by unfold zio; rw [List.all_eq_not_any_not,h2]; simp
    refine W.r fun K hK=>?_
    simp(disch:=omega)only[↓RU,RV,RH,↓reduceIte,qE,reduceCtorEq,if_pos,↓RS,RG,qA,qM,qL]
    apply hK;clear hK K
    refine W.ret ?_
    refine XBlock.ret ?_
    refine XThen.ret ?_
    refine XThen.ret ?_
    refine XBlock.ret ?_
    refine XThen.ret ?_
    refine Br rfl ?_
    exact ⟨_,_,by rw [zkx hwm hok]; rfl,fun h9=>absurd h9 (by rw [zkx hwm hok]; exact Bool.false_ne_true),za2⟩
   try simp only[RL]at h2
   have hok:zio p ws=true:=by unfold zio; rw [decide_eq_true hlen,List.all_eq_not_any_not]; simpa using h2
   refine W.skip ?_
   refine XbN ?_
   refine xn ?_
   refine W.k fun K hK=>?_
   simp(disch:=omega)only[↓RU,RV,RH,↓reduceIte,qE,reduceCtorEq,if_pos,w64,↓RS,RG,qA,qM,qL,zaa]
   apply hK;clear hK K
   refine xn ?_
   refine ⟨wss.length - (i+1),by omega,1,i+1,rfl,by omega,zmr hws hall hok,?_,rfl⟩
   simp [Env.put,Env.of]
  skip
  have hd:((ws.length:Int) != ((rP p).length:Int))=true:=by simp; omega
  simp(disch:=omega)only[↓RU,RV,RH,↓reduceIte,qE,reduceCtorEq,if_pos,w64,qN,↓RS,RG,qA,qM,qL,ty1,ty3,zab,zej,zdc,zbt,zaa,zek,zbu,hd,zb4]
  apply hK;clear hK K
  refine W.cond rfl (fun h2=>?_) (fun h2=>?_)
  ·try simp only[RL]at h2
   have hok:zio p ws=false:=by unfold zio; rw [decide_eq_false hlen]; rfl
   refine W.r fun K hK=>?_
   simp(disch:=omega)only[↓RU,RV,RH,↓reduceIte,qE,reduceCtorEq,if_pos,↓RS,RG,qA,qM,qL]
   apply hK;clear hK K
   refine W.ret ?_
   refine XBlock.ret ?_
   refine XThen.ret ?_
   refine XThen.ret ?_
   refine XBlock.ret ?_
   refine XThen.ret ?_
   refine Br rfl ?_
   exact ⟨_,_,by rw [zkx hwm hok]; rfl,fun h9=>absurd h9 (by rw [zkx hwm hok]; exact Bool.false_ne_true),za2⟩
  try simp only[RL]at h2
  exact absurd h2 (by simp)
 try simp only[RL]at h1
 obtain rfl:wss.length=i:=by omega
 rw [List.take_length]at hall
 refine W.exit ?_
 refine xe ?_
 refine xe ?_
 refine XBlock.hit ?_
 refine xn ?_
 refine W.r fun K hK=>?_
 simp(disch:=omega)only[↓RU,RV,RH,↓reduceIte,qE,reduceCtorEq,if_pos,↓RS,RG,qA,qM,qL]
 apply hK;clear hK K
 refine W.ret ?_
 refine Br rfl ?_
 exact ⟨_,_,by rw [zdp,h,hall]; rfl,fun _=>rfl,za2⟩
theorem zhm {p:List Txt} (hs:Sm p) {needs:List Int} (hn:needs.length≤1048576):PC Tryz.prog 37 [zbc p,eInts needs] (.bool (zhw p needs)) true:=by
 refine PC.of ⟨Tryz.func37,by kernel_rfl,rfl,by kernel_rfl⟩ zbl mixed (by show 2≤Tryz.f37.ntmps; decide) ?_
 refine W.r fun K hK=>?_
 simp(disch:=omega)only[↓RU,RV,RH,↓reduceIte,qE,reduceCtorEq,if_pos]
 apply hK;clear hK K
 refine W.seq ?_
 refine W.r fun K hK=>?_
 cases hg:ze6 p
 ·skip
  simp(disch:=omega)only[↓RU,RV,RH,↓reduceIte,qE,reduceCtorEq,if_pos,qN,w64,zab,zaa,hg]
  refine zaf.pc (ztz hs) rfl (.inl rfl) ?_
  simp(disch:=omega)only[↓RU,RV,RH,↓reduceIte,qE,reduceCtorEq,if_pos,qN,w64,zab,zaa,hg]
  apply hK;clear hK K
  refine W.cond rfl (fun h0=>?_) (fun h0=>?_)
  ·try simp only[RL]at h0
   refine W.r fun K hK=>?_
   simp(disch:=omega)only[↓RU,RV,RH,↓reduceIte,qE,reduceCtorEq,if_pos]
   apply hK;clear hK K
   refine W.ret ?_
   refine XThen.ret ?_
   refine Br rfl ?_
   rw [zhw,hg]
   rfl
  try simp only[RL]at h0
  exact absurd h0 (by simp)
 skip
 simp(disch:=omega)only[↓RU,RV,RH,↓reduceIte,qE,reduceCtorEq,if_pos,qN,w64,zab,zaa,hg]
 refine zaf.pc (ztz hs) rfl (.inl rfl) ?_
 simp(disch:=omega)only[↓RU,RV,RH,↓reduceIte,qE,reduceCtorEq,if_pos,qN,w64,zab,zaa,hg]
 refine zaf.pc (zfg hs) rfl (.inl rfl) ?_
 simp(disch:=omega)only[↓RU,RV,RH,↓reduceIte,qE,reduceCtorEq,if_pos,qN,w64,zab,zaa,hg]
 apply hK;clear hK K
 refine W.cond rfl (fun h1=>?_) (fun h1=>?_)
 ·try simp only[RL]at h1
  refine W.r fun K hK=>?_
  simp(disch:=omega)only[↓RU,RV,RH,↓reduceIte,qE,reduceCtorEq,if_pos]
  apply hK;clear hK K
  refine W.ret ?_
  refine XThen.ret ?_
  refine Br rfl ?_
  rw [show zhw p needs=false by simp [zhw,h1]]
  rfl
 try simp only[RL]at h1
 refine W.skip ?_
 refine xn ?_
 refine W.seq ?_
 refine W.r fun K hK=>?_
 simp(disch:=omega)only[↓RU,RV,RH,↓reduceIte,qE,reduceCtorEq,if_pos]
 apply hK;clear hK K
 refine W.block ?_
 refine W.loop [0,1,5] (fun n vs S=>∃ i:Nat,n=needs.length - i∧i≤needs.length∧((needs.take i).all zlb=true)∧vs=[zbc p,eInts needs,.int .i64 i]∧S=⟨[],0⟩) (needs.length) ?_ ?_
 ·refine ⟨0,0,rfl,Nat.zero_le _,rfl,?_,rfl⟩
  simp [Env.put,Env.of,zad]
 rintro n vs S - ⟨i,rfl,h_i,hall,rfl,rfl⟩
 refine W.seq ?_
 refine W.r fun K hK=>?_
 simp(disch:=omega)only[↓RU,RV,RH,↓reduceIte,qE,reduceCtorEq,if_pos,w64,zab,zaa]
 apply hK;clear hK K
 refine W.cond rfl (fun h2=>?_) (fun h2=>?_)
 ·try simp only[RL]at h2
  obtain ⟨x,hx,hxm⟩:=zah (show i<needs.length by omega)
  refine W.skip ?_
  refine xn ?_
  refine W.seq ?_
  refine W.block ?_
  refine W.r fun K hK=>?_
  simp(disch:=omega)only[↓RU,RV,RH,↓reduceIte,qE,reduceCtorEq,if_pos,qN,zab,zaa,hx]
  refine zaf.pc (zl1 _ _ _) rfl (.inl rfl) ?_
  simp(disch:=omega)only[↓RU,RV,RH,↓reduceIte,qE,reduceCtorEq,if_pos,qN,zab,zaa,hx]
  apply hK;clear hK K
  refine W.cond rfl (fun h3=>?_) (fun h3=>?_)
  ·try simp only[RL]at h3
   refine W.r fun K hK=>?_
   simp(disch:=omega)only[↓RU,RV,RH,↓reduceIte,qE,reduceCtorEq,if_pos]
   apply hK;clear hK K
   refine W.ret ?_
   refine XBlock.ret ?_
   refine XThen.ret ?_
   refine XThen.ret ?_
   refine XBlock.ret ?_
   refine XThen.ret ?_
   refine Br rfl ?_
   rw [show zhw p needs=false by unfold zhw; rw [show needs.all zlb=false from List.all_eq_false.2 ⟨x,hxm,by simpa [zlb] using h3⟩]; simp]
   rfl
  try simp only[RL]at h3
  refine W.skip ?_
  refine XbN ?_
  refine xn ?_
  refine W.k fun K hK=>?_
  simp(disch:=omega)only[↓RU,RV,RH,↓reduceIte,qE,reduceCtorEq,if_pos,w64,zaa]
  apply hK;clear hK K
  refine xn ?_
  refine ⟨needs.length - (i+1),by omega,0,i+1,rfl,by omega,zmr hx (by assumption) (by simpa [zlb] using h3),?_,rfl⟩
  simp [Env.put,Env.of]
 try simp only[RL]at h2
 refine W.exit ?_
 refine xe ?_
 refine xe ?_
 refine XBlock.hit ?_
 refine xn ?_
 refine W.r fun K hK=>?_
 simp(disch:=omega)only[↓RU,RV,RH,↓reduceIte,qE,reduceCtorEq,if_pos]
 apply hK;clear hK K
 refine W.ret ?_
 refine Br rfl ?_
 have hip:needs.take i=needs:=qT (by omega)
 rw [hip]at hall
 rw [show zhw p needs=true by simp only[zhw,hg,hall,h1,decide_true,Bool.and_self]]
 rfl
theorem z72 {M:List (List Bool)} {ws out:List Int} {nr:Nat} {rk:Nat→Nat} (hu:Up M nr rk) (hn:nr≤9) (hwl:ws.length=nr) (hw:zd9 ws) {b:Nat} (hb:b<nr) (hmo:Memo M ws nr out)
  (ih:∀ a,a<nr→rk a<rk b→∀ out0,Memo M ws nr out0→Ev Tryz.prog 87 [.int .i64 (a:Nat),.ref 3 3 0,.ref 0 0 0,.ref 4 4 0,.ref 1 1 0] ⟨[.arr 0 66 1 [zml M],.arr 1 24 1 [eInts ws],.arr 2 3 1 ((out0).map (.int .i64)),.arr 3 24 1 [.loc 2 2 0 nr],.arr 4 52 1 [.fn 87 [.ref 3 3 0,.ref 0 0 0,.ref 4 4 0,.ref 1 1 0]]],5⟩ (fun v S=>v = .int .i64 (HB M ws nr a)∧∃ out2,Memo M ws nr out2∧Keep out0 out2∧out2[a]?=some (HB M ws nr a)∧S=⟨[.arr 0 66 1 [zml M],.arr 1 24 1 [eInts ws],.arr 2 3 1 ((out2).map (.int .i64)),.arr 3 24 1 [.loc 2 2 0 nr],.arr 4 52 1 [.fn 87 [.ref 3 3 0,.ref 0 0 0,.ref 4 4 0,.ref 1 1 0]]],5⟩)):Ev Tryz.prog 87 [.int .i64 (b:Nat),.ref 3 3 0,.ref 0 0 0,.ref 4 4 0,.ref 1 1 0] ⟨[.arr 0 66 1 [zml M],.arr 1 24 1 [eInts ws],.arr 2 3 1 ((out).map (.int .i64)),.arr 3 24 1 [.loc 2 2 0 nr],.arr 4 52 1 [.fn 87 [.ref 3 3 0,.ref 0 0 0,.ref 4 4 0,.ref 1 1 0]]],5⟩ fun v S=>v = .int .i64 (HB M ws nr b)∧∃ out2,Memo M ws nr out2∧Keep out out2∧out2[b]?=some (HB M ws nr b)∧S=⟨[.arr 0 66 1 [zml M],.arr 1 24 1 [eInts ws],.arr 2 3 1 ((out2).map (.int .i64)),.arr 3 24 1 [.loc 2 2 0 nr],.arr 4 52 1 [.fn 87 [.ref 3 3 0,.ref 0 0 0,.ref 4 4 0,.ref 1 1 0]]],5⟩:=by
 obtain ⟨x0,hx0,hx0c⟩:=hmo.at_ hb
 have hml:=hmo.1
 have hsq:=hu.sq.1
 have hHb:=zmn (M:=M) (n:=nr) hw b
 have hHp:=ydv (M:=M) (n:=nr) hw (b:=b) (by omega)
 have hHe:=yg9 (ws:=ws) hu hb
 obtain ⟨wb,hwb,hwbm⟩:=zah (show b<ws.length by omega)
 have hwb1:=hw wb hwbm
 rw [zf4 hwb]at hHe
 refine Ev.of ⟨Tryz.func87,by kernel_rfl,rfl,by kernel_rfl⟩ zbl mixed (by show 5≤Tryz.f87.ntmps; decide) ?_
 refine W.r fun K hK=>?_
 simp(disch:=omega)only[↓RU,RV,RH,↓reduceIte,qE,reduceCtorEq,if_pos,↓RS,RG,qA,qM,qL]
 apply hK;clear hK K
 refine W.seq ?_
 refine W.r fun K hK=>?_
 simp(disch:=omega)only[↓RU,RV,RH,↓reduceIte,qE,reduceCtorEq,if_pos,w64,↓RS,RG,qA,qM,qL,zab,zaa,hx0]
 apply hK;clear hK K
 refine W.cond rfl (fun h0=>?_) (fun h0=>?_)
 ·try simp only[RL]at h0
  subst h0
  refine W.r fun K hK=>?_
  simp(disch:=omega)only[↓RU,RV,RH,↓reduceIte,qE,reduceCtorEq,if_pos,↓RS,RG,qA,qM,qL]
  apply hK;clear hK K
  refine W.seq ?_
  refine W.r fun K hK=>?_
  simp(disch:=omega)only[↓RU,RV,RH,↓reduceIte,qE,reduceCtorEq,if_pos,↓RS,RG,qA,qM,qL,ty0,ty2,zau,zfw,hsq]
  apply hK;clear hK K
  refine W.block ?_
  refine W.loop [0,1,2,3,4,7,15,16] (fun n vs S=>∃ (a:Nat) (out1:List Int),n=nr - a∧a≤nr∧Memo M ws nr out1∧Keep out out1∧vs=[.int .i64 (b:Nat),.ref 3 3 0,.ref 0 0 0,.ref 4 4 0,.ref 1 1 0,.int .i64 (hvF M (HB M ws nr) b a),.int .i64 nr,.int .i64 a]∧S=⟨[.arr 0 66 1 [zml M],.arr 1 24 1 [eInts ws],.arr 2 3 1 ((out1).map (.int .i64)),.arr 3 24 1 [.loc 2 2 0 nr],.arr 4 52 1 [.fn 87 [.ref 3 3 0,.ref 0 0 0,.ref 4 4 0,.ref 1 1 0]]],5⟩) nr ?_ ?_
  ·refine ⟨5,0,out,rfl,by omega,hmo,Keep.refl _,?_,rfl⟩
   simp [Env.put,Env.of,zad,hvF,hsq]
  rintro n vs S - ⟨a,out1,rfl,h_a,hm1,hk1,rfl,rfl⟩
  refine W.r fun K hK=>?_
  simp(disch:=omega)only[↓RU,RV,RH,↓reduceIte,qE,reduceCtorEq,if_pos,w64,↓RS,RG,qA,qM,qL,zaa]
  apply hK;clear hK K
  refine W.seq ?_
  refine W.cond rfl (fun h1=>?_) (fun h1=>?_)
  ·try simp only[RL]at h1
   have hal:a<nr:=by omega
   have hF:=zix (M:=M) (g:=HB M ws nr) (b:=b) (B:=909) (by omega) (i:=a) fun a _ _=>(zmn hw a).2
   have hHa:=zmn (M:=M) (n:=nr) hw a
   obtain ⟨row,hrow,hrl,hrb⟩:=hu.sq.at_ hal hb
   refine W.skip ?_
   refine xn ?_
   refine W.seq ?_
   refine W.block ?_
   refine W.r fun K hK=>?_
   simp(disch:=omega)only[↓RU,RV,RH,↓reduceIte,qE,reduceCtorEq,if_pos,↓RS,RG,qA,qM,qL]
   apply hK;clear hK K
   refine W.r fun K hK=>?_
   simp(disch:=omega)only[↓RU,RV,RH,↓reduceIte,qE,reduceCtorEq,if_pos,↓RS,RG,qA,qM,qL,ty0,ty2,zau,zfw,hrow,hrb,hrl]
   apply hK;clear hK K
   refine W.cond rfl (fun h2=>?_) (fun h2=>?_)
   ·try simp only[RL]at h2
    have hrk:=hu.up a b hal hb h2
    refine W.k fun K hK=>?_
    simp(disch:=omega)only[↓RU,RV,RH,↓reduceIte,qE,reduceCtorEq,if_pos,qN,ze2,↓RS,RG,qA,qM,qL,yg8,zaa]
    refine zaf.ev (ih a hal hrk out1 hm1) ?_
    rintro _ _ ⟨rfl,out2,hm2,hk2,ho2,rfl⟩
    simp(disch:=omega)only[↓RU,RV,RH,↓reduceIte,qE,reduceCtorEq,if_pos,qN,ze2,↓RS,RG,qA,qM,qL,yg8,zaa]
    apply hK;clear hK K
    refine XbN ?_
    refine xn ?_
    refine W.k fun K hK=>?_
    simp(disch:=omega)only[↓RU,RV,RH,↓reduceIte,qE,reduceCtorEq,if_pos,w64,↓RS,RG,qA,qM,qL,zaa]
    apply hK;clear hK K
    refine xn ?_
    refine ⟨nr - (a+1),by omega,5,a+1,out2,rfl,by omega,hm2,hk1.trans hk2,?_,rfl⟩
    simp [Env.put,Env.of,zib,h2]
   try simp only[RL]at h2
   refine W.skip ?_
   refine XbN ?_
   refine xn ?_
   refine W.k fun K hK=>?_
   simp(disch:=omega)only[↓RU,RV,RH,↓reduceIte,qE,reduceCtorEq,if_pos,w64,↓RS,RG,qA,qM,qL,zaa]
   apply hK;clear hK K
   refine xn ?_
   refine ⟨nr - (a+1),by omega,5,a+1,out1,rfl,by omega,hm1,hk1,?_,rfl⟩
   simp [Env.put,Env.of,zib,h2]
  try simp only[RL]at h1
  obtain rfl:nr=a:=by omega
  have hF:=zix (M:=M) (g:=HB M ws nr) (b:=b) (B:=909) (by omega) (i:=nr) fun a _ _=>(zmn hw a).2
  have hm1l:=hm1.1
  have hset:(out1.set b (HB M ws nr b))[b]?=some (HB M ws nr b):=by rw [List.getElem?_set,if_pos rfl,if_pos (by omega)]
  refine W.exit ?_
  refine xe ?_
  refine xe ?_
  refine XBlock.hit ?_
  refine xn ?_
  refine W.draw_k (by kernel_rfl) fun K hK=>?_
  simp(disch:=omega)only[↓RU,RV,RH,↓reduceIte,qE,reduceCtorEq,if_pos,w64,↓RS,RG,qA,qM,qL,zab,zaa,hwb,hm1l,zcy,zff,← hHe]
  apply hK;clear hK K
  refine xn ?_
  refine W.r fun K hK=>?_
  simp(disch:=omega)only[↓RU,RV,RH,↓reduceIte,qE,reduceCtorEq,if_pos,↓RS,RG,qA,qM,qL,zab,zaa,hset]
  apply hK;clear hK K
  refine W.ret ?_
  refine Br rfl ?_
  exact ⟨5,rfl,_,hm1.set,hk1.trans hm1.keep,hset,rfl⟩
 try simp only[RL]at h0
 obtain rfl:=hx0c.resolve_left h0
 have hset:=hx0
 refine W.skip ?_
 refine xn ?_
 refine W.r fun K hK=>?_
 simp(disch:=omega)only[↓RU,RV,RH,↓reduceIte,qE,reduceCtorEq,if_pos,↓RS,RG,qA,qM,qL,zab,zaa,hset]
 apply hK;clear hK K
 refine W.ret ?_
 refine Br rfl ?_
 exact ⟨5,rfl,_,hmo,Keep.refl _,hx0,rfl⟩
theorem z27 {M:List (List Bool)} {ws:List Int} {nr:Nat} {rk:Nat→Nat} (hu:Up M nr rk) (hn:nr≤9) (hwl:ws.length=nr) (hw:zd9 ws):∀ (k b:Nat),rk b<k→b<nr→∀ out,Memo M ws nr out→Ev Tryz.prog 87 [.int .i64 (b:Nat),.ref 3 3 0,.ref 0 0 0,.ref 4 4 0,.ref 1 1 0] ⟨[.arr 0 66 1 [zml M],.arr 1 24 1 [eInts ws],.arr 2 3 1 ((out).map (.int .i64)),.arr 3 24 1 [.loc 2 2 0 nr],.arr 4 52 1 [.fn 87 [.ref 3 3 0,.ref 0 0 0,.ref 4 4 0,.ref 1 1 0]]],5⟩ (fun v S=>v = .int .i64 (HB M ws nr b)∧∃ out2,Memo M ws nr out2∧Keep out out2∧out2[b]?=some (HB M ws nr b)∧S=⟨[.arr 0 66 1 [zml M],.arr 1 24 1 [eInts ws],.arr 2 3 1 ((out2).map (.int .i64)),.arr 3 24 1 [.loc 2 2 0 nr],.arr 4 52 1 [.fn 87 [.ref 3 3 0,.ref 0 0 0,.ref 4 4 0,.ref 1 1 0]]],5⟩)
 | 0,b,h,_,_,_=>by omega
 | k+1,b,h,hb,out,hm=>z72 hu hn hwl hw hb hm fun a ha hr out0 h0=>z27 hu hn hwl hw k a (by omega) ha out0 h0
theorem z0y {M:List (List Bool)} {ws:List Int} {nr:Nat} {rk:Nat→Nat} (hu:Up M nr rk) (hn:nr≤9) (hwl:ws.length=nr) (hw:zd9 ws):PN Tryz.prog 42 [zml M,eInts ws] (.loc 0 0 0 nr) [.arr 0 3 1 ((heaviest M ws nr).map (.int .i64))] false:=by
 have hsq:=hu.sq.1
 refine PN.of ⟨Tryz.func42,by kernel_rfl,rfl,by kernel_rfl⟩ zbl mixed (by show 2≤Tryz.f42.ntmps; decide) ?_
 refine W.r fun K hK=>?_
 simp(disch:=omega)only[↓RU,RV,RH,↓reduceIte,qE,reduceCtorEq,if_pos,↓RS,RG,qA,qM,qL,ty0,ty2,zab,zau,zfw,zaa]
 apply hK;clear hK K
 refine W.r fun K hK=>?_
 simp(disch:=omega)only[↓RU,RV,RH,↓reduceIte,qE,reduceCtorEq,if_pos,↓RS,RG,qA,qM,qL,ty0,ty2,zab,zau,zfw,zaa,hsq,zhk,zid]
 apply hK;clear hK K
 refine W.r fun K hK=>?_
 simp(disch:=omega)only[↓RU,RV,RH,↓reduceIte,qE,reduceCtorEq,if_pos,↓RS,RG,qA,qM,qL,yg8]
 apply hK;clear hK K
 refine W.r fun K hK=>?_
 simp(disch:=omega)only[↓RU,RV,RH,↓reduceIte,qE,reduceCtorEq,if_pos,↓RS,RG,qA,qM,qL,yg8,zvg,yfw]
 apply hK;clear hK K
 refine W.seq ?_
 refine W.r fun K hK=>?_
 simp(disch:=omega)only[↓RU,RV,RH,↓reduceIte,qE,reduceCtorEq,if_pos,↓RS,RG,qA,qM,qL,ty0,ty2,zau,zfw,hsq]
 apply hK;clear hK K
 refine W.block ?_
 refine W.loop [5,6,13,14] (fun n vs S=>∃ (b:Nat) (out:List Int),n=nr - b∧b≤nr∧Memo M ws nr out∧(∀ c,c<b→out[c]?=some (HB M ws nr c))∧vs=[.ref 3 3 0,.ref 4 4 0,.int .i64 nr,.int .i64 b]∧S=⟨[.arr 0 66 1 [zml M],.arr 1 24 1 [eInts ws],.arr 2 3 1 ((out).map (.int .i64)),.arr 3 24 1 [.loc 2 2 0 nr],.arr 4 52 1 [.fn 87 [.ref 3 3 0,.ref 0 0 0,.ref 4 4 0,.ref 1 1 0]]],5⟩) nr ?_ ?_
 ·refine ⟨5,0,List.replicate nr 0,rfl,by omega,z8u,fun c h=>absurd h (by omega),?_,?_⟩
  ·simp [Env.put,Env.of,zad,hsq]
  simp [zcm,spl,hsq]
 rintro n vs S - ⟨b,out,rfl,h_b,hm,hdone,rfl,rfl⟩
 refine W.r fun K hK=>?_
 simp(disch:=omega)only[↓RU,RV,RH,↓reduceIte,qE,reduceCtorEq,if_pos,w64,↓RS,RG,qA,qM,qL,zaa]
 apply hK;clear hK K
 refine W.seq ?_
 refine W.cond rfl (fun h=>?_) (fun h=>?_)
 ·try simp only[RL]at h
  have hbn:b<nr:=by omega
  refine W.skip ?_
  refine xn ?_
  refine W.seq ?_
  refine W.block ?_
  refine W.r fun K hK=>?_
  simp(disch:=omega)only[↓RU,RV,RH,↓reduceIte,qE,reduceCtorEq,if_pos,↓RS,RG,qA,qM,qL]
  apply hK;clear hK K
  refine W.k fun K hK=>?_
  simp(disch:=omega)only[↓RU,RV,RH,↓reduceIte,qE,reduceCtorEq,if_pos,qN,↓RS,RG,qA,qM,qL,yg8]
  refine zaf.ev (z27 hu hn hwl hw (rk b+1) b (by omega) hbn out hm) ?_
  rintro _ _ ⟨rfl,out2,hm2,hk2,ho2,rfl⟩
  simp(disch:=omega)only[↓RU,RV,RH,↓reduceIte,qE,reduceCtorEq,if_pos,qN,↓RS,RG,qA,qM,qL,yg8]
  apply hK;clear hK K
  refine XbN ?_
  refine xn ?_
  refine W.k fun K hK=>?_
  simp(disch:=omega)only[↓RU,RV,RH,↓reduceIte,qE,reduceCtorEq,if_pos,w64,↓RS,RG,qA,qM,qL,zaa]
  apply hK;clear hK K
  refine xn ?_
  refine ⟨nr - (b+1),by omega,5,b+1,out2,rfl,by omega,hm2,?_,?_,rfl⟩
  ·intro c hc
   by_cases e:c=b
   ·subst e; exact ho2
   have h1:=hdone c (by omega)
   exact hk2 c _ h1 (by have:=ydv (M:=M) (n:=nr) hw (b:=c) (by omega); omega)
  simp [Env.put,Env.of]
 try simp only[RL]at h
 obtain rfl:nr=b:=by omega
 obtain rfl:=ycf hm hdone
 refine W.exit ?_
 refine xe ?_
 refine xe ?_
 refine XBlock.hit ?_
 refine xn ?_
 refine W.joinS [4] (fun vs S=>∃ v t:Nat,vs=[.loc 0 v 0 nr]∧S=⟨[.arr v 3 1 ((heaviest M ws nr).map (.int .i64))],t⟩) ?_ ?_
 ·
  refine W.k fun K hK=>?_
  simp(disch:=omega)only[↓RU,RV,RH,↓reduceIte,qE,reduceCtorEq,if_pos,↓RS,RG,qA,qM,qL,zab,zaa]
  apply hK;clear hK K
  refine xn ?_
  refine ⟨0,[2],[.loc 0 5 0 nr],⟨[.arr 5 3 1 ((heaviest M ws nr).map (.int .i64))],6⟩,?_,?_,5,6,rfl,rfl⟩
  ·simp [-qU,Env.put,Env.of,zad,za3,zac,zae,zai,zak,za8,za9,zbz,za7,zaq,zba,zby,zb0,zas,zar,zal,za6,zbb,zbx,zao,zan,zaj,zap,za5,zc5,qS,qP,qC]
  simp [-qU,Env.put,Env.of,zad,za3,zac,zae,zai,zak,za8,za9,zbz,za7,zaq,zba,zby,zb0,zas,zar,zal,za6,zbb,zbx,zao,zan,zaj,zap,za5,zc5,qS,qP,qC,zga]
 rintro vs S - ⟨v,t,rfl,rfl⟩
 refine W.ret ?_
 refine Br rfl ?_
 exact yet rfl (yap _)
theorem z3c {l:List Int} {x0:Int} (h0:l[0]?=some x0) (hl:l.length<2147483648):PC Tryz.prog 40 [eInts l] (.int .i64 (z6p l)) true:=by
 have hl0:=zcq h0
 refine PC.of ⟨Tryz.func40,by kernel_rfl,rfl,by kernel_rfl⟩ zbl mixed (by show 1≤Tryz.f40.ntmps; decide) ?_
 refine W.r fun K hK=>?_
 simp(disch:=omega)only[↓RU,RV,RH,↓reduceIte,qE,reduceCtorEq,if_pos]
 apply hK;clear hK K
 refine W.seq ?_
 refine W.r fun K hK=>?_
 simp(disch:=omega)only[↓RU,RV,RH,↓reduceIte,qE,reduceCtorEq,if_pos,w64,zab,zaa]
 apply hK;clear hK K
 refine W.cond rfl (fun h=>?_) (fun h=>?_)
 ·try simp only[RL]at h
  exfalso; omega
 try simp only[RL]at h
 refine W.skip ?_
 refine xn ?_
 refine W.r fun K hK=>?_
 simp(disch:=omega)only[↓RU,RV,RH,↓reduceIte,qE,reduceCtorEq,if_pos,zab,zaa,h0,Int.toNat_zero,Nat.zero_mul,qZ]
 apply hK;clear hK K
 refine W.seq ?_
 refine W.r fun K hK=>?_
 simp(disch:=omega)only[↓RU,RV,RH,↓reduceIte,qE,reduceCtorEq,if_pos]
 apply hK;clear hK K
 refine W.block ?_
 refine W.loop [0,3,4] (fun n vs S=>∃ i:Nat,n=l.length - i∧i≤l.length∧(1≤i)∧vs=[eInts l,.int .i64 (((l.take i).drop 1).foldl max x0),.int .i64 i]∧S=⟨[],0⟩) (l.length - 1) ?_ ?_
 ·refine ⟨0,1,rfl,by omega,qR _,?_,rfl⟩
  simp [Env.put,Env.of,zad,z5o]
 rintro n vs S - ⟨i,rfl,h_i,h1i,rfl,rfl⟩
 refine W.seq ?_
 refine W.r fun K hK=>?_
 simp(disch:=omega)only[↓RU,RV,RH,↓reduceIte,qE,reduceCtorEq,if_pos,w64,zab,zaa]
 apply hK;clear hK K
 refine W.cond rfl (fun h1=>?_) (fun h1=>?_)
 ·try simp only[RL]at h1
  obtain ⟨x,hx,-⟩:=zah (show i<l.length by omega)
  refine W.skip ?_
  refine xn ?_
  refine W.seq ?_
  refine W.block ?_
  refine W.k fun K hK=>?_
  simp(disch:=omega)only[↓RU,RV,RH,↓reduceIte,qE,reduceCtorEq,if_pos,ze2,zab,zaa,hx]
  apply hK;clear hK K
  refine XbN ?_
  refine xn ?_
  refine W.k fun K hK=>?_
  simp(disch:=omega)only[↓RU,RV,RH,↓reduceIte,qE,reduceCtorEq,if_pos,w64,zaa]
  apply hK;clear hK K
  refine xn ?_
  refine ⟨l.length - (i+1),by omega,0,i+1,rfl,by omega,by omega,?_,rfl⟩
  rw [z8s h1i hx]
  simp [Env.put,Env.of]
 try simp only[RL]at h1
 refine W.exit ?_
 refine xe ?_
 refine xe ?_
 refine XBlock.hit ?_
 refine xn ?_
 refine W.r fun K hK=>?_
 simp(disch:=omega)only[↓RU,RV,RH,↓reduceIte,qE,reduceCtorEq,if_pos]
 apply hK;clear hK K
 refine W.ret ?_
 refine Br rfl ?_
 rw [ycd h0 (by omega)]
 rfl
section
theorem z3f {α:Type} {a b:List α} {i:Nat} {x:α} (ha:a[i]?=some x) (hl:a.length=b.length):(a.take i++b.drop i).set i x=a.take (i+1)++b.drop (i+1):=by
 have hi:=zcq ha
 apply List.ext_getElem?
 intro j
 rw [List.getElem?_set]
 by_cases hj:i=j
 ·subst hj
  rw [if_pos rfl,if_pos (by simp; omega),tk ha,List.append_assoc,List.getElem?_append_right (by simp; omega)]
  simp [Nat.min_eq_left (Nat.le_of_lt hi)]
 rw [if_neg hj]
 by_cases hlt:j<i
 ·rw [List.getElem?_append_left (by simp; omega),List.getElem?_append_left (by simp; omega)]
  simp [List.getElem?_take,hlt,show j<i+1 by omega]
 rw [List.getElem?_append_right (by simp; omega),List.getElem?_append_right (by simp; omega)]
 simp only[List.length_take,Nat.min_eq_left (Nat.le_of_lt hi),Nat.min_eq_left (show i+1≤a.length by omega),List.getElem?_drop]
 congr 1
 omega
theorem yej {α:Type} {a b:List α} {i:Nat} (hl:a.length=b.length):(a.take i++b.drop i)[i]?=b[i]?:=by
 by_cases hi:i<a.length
 ·rw [List.getElem?_append_right (by simp; omega)]
  simp [Nat.min_eq_left (Nat.le_of_lt hi)]
 rw [List.getElem?_eq_none (by simp; omega),List.getElem?_eq_none (by omega)]
theorem z8w {α:Type} {a b:List α} {i:Nat} (hl:a.length=b.length):(a.take i++b.drop i).length=b.length:=by simp; omega
theorem yi3 {M:List (List Bool)} {ws:List Int} {n b:Nat} (hb:b<n):(heaviest M ws n)[b]?=some (HB M ws n b):=by simp [heaviest,hb]
section
variable {M:List (List Bool)} {ms:List Nat} {ws:List Int} {n:Nat} {rk:Nat→Nat}
def revM (n:Nat) (M:List (List Bool)):List (List Bool):=(List.range n).map fun a=>(List.range n).map fun b=>zdg M b a
def bhB (sets:List Nat) (needs:List Int) (a:Nat) (out:List Int) (b:Nat):List Int :=
 if zn9 sets a b then out.set a (max (zdm out a) (zdm out b+zdm needs b)) else out
def bhA (sets:List Nat) (needs:List Int) (out:List Int) (a:Nat):List Int:=(List.range needs.length).foldl (bhB sets needs a) out
def bhN (sets:List Nat) (needs:List Int) (out:List Int) (_:Nat):List Int:=(List.range needs.length).foldl (bhA sets needs) out
def behind (sets:List Nat) (needs:List Int):List Int:=(List.range needs.length).foldl (bhN sets needs) (List.replicate needs.length 0)
end
theorem zr8 {p:List Txt} {ws:List Int} (h:zdp p [ws]=true):Same (rP p).length (zjc (gP p) p.length (w0 (zb2 p)) (rP p).length) (ydy p 0)∧Same (rP p).length (zfl (gP p) p.length (w0 (zb2 p)) (rP p).length) (ydy p 1) ∧
  Up (zjc (gP p) p.length (w0 (zb2 p)) (rP p).length) (rP p).length (rkL p)∧Up (zfl (gP p) p.length (w0 (zb2 p)) (rP p).length) (rP p).length (rkA p)∧ws.length=(rP p).length∧1≤(rP p).length∧zd9 ws:=by
 obtain ⟨h1,h2,h3⟩:=zgq h
 have hok:okB p=true:=by
  have h9:=h1
  unfold zf2 zha at h9
  simp only[qB]at h9
  exact h9.1.1
 have hn1:=zt6 hok
 rw [zig]at h1
 have hp:=zec h1
 have hN:=zda hp
 obtain ⟨u0,u1⟩:=z9q hp
 have hr:=hN.rooms
 obtain ⟨s0,s1⟩:=yc8 hN.hg (n:=(rP p).length) (by omega) (fun i j hi hj=>hN.cell hi hj) zj6
 rw [zge]
 exact ⟨s0,s1,u0,u1,h2,hn1,h3⟩
end


def swp (ws hs:List Int) (set:Nat):List Int:=(List.range ws.length).map fun r=>if set.testBit r then zdm hs r else zdm ws r
theorem zjj {ws hs:List Int} {set:Nat}:(swp ws hs set).length=ws.length:=by simp [swp]
theorem zz4 {ws hs:List Int} {set:Nat} (hw:zd9 ws) (hh:zd9 hs) (hl:ws.length=hs.length):zd9 (swp ws hs set):=by
 intro x hx
 obtain ⟨r,hr,rfl⟩:=List.mem_map.1 hx
 have hr2:r<ws.length:=by simpa using hr
 obtain ⟨y,hy,hym⟩:=zah hr2
 obtain ⟨z,hz,hzm⟩:=zah (show r<hs.length by omega)
 rw [zf4 hy,zf4 hz]
 split
 ·exact hh z hzm
 exact hw y hym
theorem yex {ws hs:List Int} {set i:Nat} {x y:Int} (hx:ws[i]?=some x) (hy:hs[i]?=some y):(swp ws hs set)[i]?=some (if set.testBit i then y else x):=by
 have hi:=zcq hx
 unfold swp
 rw [List.getElem?_map,List.getElem?_range hi,qO,zf4 hx,zf4 hy]
def yg5 (x:Int × Int) (w h:Int):Bool:=decide (x.1≤w) && decide (x.2≤h)
def zjg (w h:Int) (s:List (Int × Int) × Bool) (x:Int × Int):List (Int × Int) × Bool :=
 if w≤x.1∧h≤x.2 then s else if s.2=false∧w<x.1 then (s.1++[(w,h),x],true) else (s.1++[x],s.2)
def zg7 (l:List (Int × Int)) (w h:Int):List (Int × Int) × Bool:=l.foldl (zjg w h) ([],false)
def put (l:List (Int × Int)) (w h:Int):List (Int × Int):=if l.any (fun x=>yg5 x w h) then l else if (zg7 l w h).2 then (zg7 l w h).1 else (zg7 l w h).1++[(w,h)]
theorem zqe {l:List (Int × Int)} {w h:Int}:∀ i,i≤l.length→(∀ y∈(zg7 (l.take i) w h).1,y∈l.take i∨y=(w,h))∧(∀ x∈l.take i,x∈(zg7 (l.take i) w h).1∨(w≤x.1∧h≤x.2))∧((zg7 (l.take i) w h).2=true→(w,h)∈(zg7 (l.take i) w h).1) ∧
  (zg7 (l.take i) w h).1.length≤i+(if (zg7 (l.take i) w h).2 then 1 else 0)
 | 0,_=>by simp [zg7]
 | i+1,hi=>by
  obtain ⟨h1,h2,h3,h4⟩:=zqe (l:=l) (w:=w) (h:=h) i (by omega)
  obtain ⟨x,hx,-⟩:=zah (show i<l.length by omega)
  have e:zg7 (l.take (i+1)) w h=zjg w h (zg7 (l.take i) w h) x:=zex hx
  have et:l.take (i+1)=l.take i++[x]:=tk hx
  rw [e,et]
  generalize zg7 (l.take i) w h=s at h1 h2 h3 h4
  obtain ⟨o,d⟩:=s
  unfold zjg
  simp only at h1 h2 h3 h4 ⊢
  by_cases c1:w≤x.1∧h≤x.2
  ·rw [if_pos c1]
   refine ⟨fun y hy=>?_,fun y hy=>?_,h3,by split at h4 <;> split <;> simp_all <;> omega⟩
   ·rcases h1 y hy with k | k
    ·exact .inl (List.mem_append_left _ k)
    exact .inr k
   rcases List.mem_append.1 hy with k | k
   ·exact h2 y k
   rw [List.mem_singleton]at k; subst k; exact .inr c1
  rw [if_neg c1]
  by_cases c2:d=false∧w<x.1
  ·rw [if_pos c2]
   obtain ⟨rfl,c3⟩:=c2
   refine ⟨fun y hy=>?_,fun y hy=>?_,fun _=>by simp,by simp at h4 ⊢; omega⟩
   ·simp only[List.mem_append,List.mem_cons,List.not_mem_nil,or_false]at hy ⊢
    rcases hy with k | k | k
    ·rcases h1 y k with q | q
     ·exact .inl (.inl q)
     exact .inr q
    ·exact .inr k
    exact .inl (.inr k)
   rcases List.mem_append.1 hy with k | k
   ·rcases h2 y k with q | q
    ·exact .inl (List.mem_append_left _ q)
    exact .inr q
   rw [List.mem_singleton]at k; subst k; exact .inl (by simp)
  rw [if_neg c2]
  refine ⟨fun y hy=>?_,fun y hy=>?_,fun k=>List.mem_append_left _ (h3 k),by simp at h4 ⊢; omega⟩
  ·rcases List.mem_append.1 hy with k | k
   ·rcases h1 y k with q | q
    ·exact .inl (List.mem_append_left _ q)
    exact .inr q
   exact .inl (List.mem_append_right _ k)
  rcases List.mem_append.1 hy with k | k
  ·rcases h2 y k with q | q
   ·exact .inl (List.mem_append_left _ q)
   exact .inr q
  rw [List.mem_singleton]at k; subst k; exact .inl (by simp)
theorem ygb {l:List (Int × Int)} {w h:Int}:(∀ y∈put l w h,y∈l∨y=(w,h))∧(∀ x,(x∈l∨x=(w,h))→∃ y∈put l w h,y.1≤x.1∧y.2≤x.2)∧(put l w h).length≤l.length+1:=by
 have hi:=zqe (l:=l) (w:=w) (h:=h) l.length (qR _)
 rw [List.take_length]at hi
 obtain ⟨h1,h2,h3,h4⟩:=hi
 unfold put
 split
 ·rename_i hd
  refine ⟨fun y hy => .inl hy,fun x hx=>?_,by omega⟩
  rcases hx with hx | rfl
  ·exact ⟨x,hx,Int.le_refl _,Int.le_refl _⟩
  obtain ⟨y,hy,k⟩:=List.any_eq_true.1 hd
  unfold yg5 at k
  simp only[qB,decide_eq_true_eq]at k
  exact ⟨y,hy,k⟩
 generalize zg7 l w h=s at h1 h2 h3 h4
 obtain ⟨o,d⟩:=s
 simp only at h1 h2 h3 h4 ⊢
 cases d with
 | true =>
  rw [if_pos rfl]
  refine ⟨h1,fun x hx=>?_,by simpa using h4⟩
  rcases hx with hx | rfl
  ·rcases h2 x hx with k | k
   ·exact ⟨x,k,Int.le_refl _,Int.le_refl _⟩
   exact ⟨_,h3 rfl,k⟩
  exact ⟨_,h3 rfl,Int.le_refl _,Int.le_refl _⟩
 | false =>
  rw [if_neg Bool.false_ne_true]
  refine ⟨fun y hy=>?_,fun x hx=>?_,by simp at h4 ⊢; omega⟩
  ·rcases List.mem_append.1 hy with k | k
   ·exact h1 y k
   exact .inr (List.mem_singleton.1 k)
  rcases hx with hx | rfl
  ·rcases h2 x hx with k | k
   ·exact ⟨x,List.mem_append_left _ k,Int.le_refl _,Int.le_refl _⟩
   exact ⟨_,List.mem_append_right _ (List.mem_singleton.2 rfl),k⟩
  exact ⟨_,List.mem_append_right _ (List.mem_singleton.2 rfl),Int.le_refl _,Int.le_refl _⟩
def zs7 (sh:Nat→Int × Int) (k:Nat):List (Int × Int):=(List.range k).foldl (fun l s=>put l (sh s).1 (sh s).2) []
theorem zmq {sh:Nat→Int × Int} {k:Nat}:zs7 sh (k+1)=put (zs7 sh k) (sh k).1 (sh k).2:=by unfold zs7; rw [zc0]
theorem z19 {sh:Nat→Int × Int}:∀ k,(∀ y∈zs7 sh k,∃ s,s<k∧y=sh s)∧(∀ s,s<k→∃ y∈zs7 sh k,y.1≤(sh s).1∧y.2≤(sh s).2)∧(zs7 sh k).length≤k
 | 0=>by simp [zs7]
 | k+1=>by
  obtain ⟨h1,h2,h3⟩:=z19 (sh:=sh) k
  obtain ⟨k1,k2,k3⟩:=ygb (l:=zs7 sh k) (w:=(sh k).1) (h:=(sh k).2)
  rw [zmq]
  refine ⟨fun y hy=>?_,fun s hs=>?_,by omega⟩
  ·rcases k1 y hy with q | q
   ·obtain ⟨s,hs,rfl⟩:=h1 y q
    exact ⟨s,by omega,rfl⟩
   exact ⟨k,by omega,q⟩
  by_cases e:s=k
  ·subst e
   exact k2 _ (.inr rfl)
  obtain ⟨y,hy,q1,q2⟩:=h2 s (by omega)
  obtain ⟨z,hz,r1,r2⟩:=k2 y (.inl hy)
  exact ⟨z,hz,by omega,by omega⟩
def shS (p:List Txt) (ws hs:List Int) (set:Nat):Int × Int:=(least (ydy p 0) (swp ws hs set),least (ydy p 1) (swp hs ws set))
def shI (L A:List (List Bool)) (n:Nat) (ws hs:List Int) (set:Nat):Int × Int:=(z6p (heaviest L (swp ws hs set) n),z6p (heaviest A (swp hs ws set) n))
theorem yie {p:List Txt} {ws hs:List Int} (h1:zdp p [ws]=true) (h2:zdp p [hs]=true) (set:Nat):shI (zjc (gP p) p.length (w0 (zb2 p)) (rP p).length) (zfl (gP p) p.length (w0 (zb2 p)) (rP p).length) (rP p).length ws hs set=shS p ws hs set:=by
 obtain ⟨s0,s1,u0,u1,k1,k2,k3⟩:=zr8 h1
 obtain ⟨-,-,-,-,l1,-,l3⟩:=zr8 h2
 unfold shI shS
 rw [zln s0 u0 (by rw [zjj,k1]) k2 (zz4 k3 l3 (by omega)),zln s1 u1 (by rw [zjj,l1]) k2 (zz4 l3 k3 (by omega))]
def ztr (x:Int × Int):List PV:=[.int .i64 x.1,.int .i64 x.2]
def zpc (p:List Txt) (ws ht:List Int):Bool:=zhw p ws && zhw p ht && decide (ws.length≤8)
theorem pow8 {n:Nat} (h:n≤8):1≤2 ^ n∧2 ^ n≤256:=⟨Nat.one_le_two_pow,Nat.pow_le_pow_right (n:=2) (by omega) h⟩
theorem zkw {p:List Txt} (hs:Sm p) {ws ht:List Int} (hw:ws.length≤1048576) (hh:ht.length≤1048576):PC Tryz.prog 55 [zbc p,eInts ws,eInts ht] (.bool (zpc p ws ht)) true:=by
 refine PC.of ⟨Tryz.func55,by kernel_rfl,rfl,by kernel_rfl⟩ zbl mixed (by show 3≤Tryz.f55.ntmps; decide) ?_
 refine W.r fun K hK=>?_
 simp(disch:=omega)only[↓RU,RV,RH,↓reduceIte,qE,reduceCtorEq,if_pos]
 apply hK;clear hK K
 refine W.r fun K hK=>?_
 rcases hgg:(zhw p ws,zhw p ht) with ⟨_ | _,_ | _⟩
 ·skip
  simp only[Prod.mk.injEq]at hgg
  obtain ⟨hg,hg2⟩:=hgg
  simp(disch:=omega)only[↓RU,RV,RH,↓reduceIte,qE,reduceCtorEq,if_pos,qN,w64,zab,zaa,hg]
  refine zaf.pc (zhm hs hw) rfl (.inl rfl) ?_
  simp(disch:=omega)only[↓RU,RV,RH,↓reduceIte,qE,reduceCtorEq,if_pos,qN,w64,zab,zaa,hg]
  apply hK;clear hK K
  refine W.ret ?_
  refine Br rfl ?_
  rw [zpc,hg,hg2]
  first | rfl | exact congrArg (fun b=>some (PV.bool b)) (show decide ((ws.length:Int)≤8)=(true && true && decide (ws.length≤8)) by simp; omega)
 ·skip
  simp only[Prod.mk.injEq]at hgg
  obtain ⟨hg,hg2⟩:=hgg
  simp(disch:=omega)only[↓RU,RV,RH,↓reduceIte,qE,reduceCtorEq,if_pos,qN,w64,zab,zaa,hg]
  refine zaf.pc (zhm hs hw) rfl (.inl rfl) ?_
  simp(disch:=omega)only[↓RU,RV,RH,↓reduceIte,qE,reduceCtorEq,if_pos,qN,w64,zab,zaa,hg]
  apply hK;clear hK K
  refine W.ret ?_
  refine Br rfl ?_
  rw [zpc,hg,hg2]
  first | rfl | exact congrArg (fun b=>some (PV.bool b)) (show decide ((ws.length:Int)≤8)=(true && true && decide (ws.length≤8)) by simp; omega)
 ·skip
  simp only[Prod.mk.injEq]at hgg
  obtain ⟨hg,hg2⟩:=hgg
  simp(disch:=omega)only[↓RU,RV,RH,↓reduceIte,qE,reduceCtorEq,if_pos,qN,w64,zab,zaa,hg,hg2]
  refine zaf.pc (zhm hs hw) rfl (.inl rfl) ?_
  simp(disch:=omega)only[↓RU,RV,RH,↓reduceIte,qE,reduceCtorEq,if_pos,qN,w64,zab,zaa,hg,hg2]
  refine zaf.pc (zhm hs hh) rfl (.inl rfl) ?_
  simp(disch:=omega)only[↓RU,RV,RH,↓reduceIte,qE,reduceCtorEq,if_pos,qN,w64,zab,zaa,hg,hg2]
  apply hK;clear hK K
  refine W.ret ?_
  refine Br rfl ?_
  rw [zpc,hg,hg2]
  first | rfl | exact congrArg (fun b=>some (PV.bool b)) (show decide ((ws.length:Int)≤8)=(true && true && decide (ws.length≤8)) by simp; omega)
 skip
 simp only[Prod.mk.injEq]at hgg
 obtain ⟨hg,hg2⟩:=hgg
 simp(disch:=omega)only[↓RU,RV,RH,↓reduceIte,qE,reduceCtorEq,if_pos,qN,w64,zab,zaa,hg,hg2]
 refine zaf.pc (zhm hs hw) rfl (.inl rfl) ?_
 simp(disch:=omega)only[↓RU,RV,RH,↓reduceIte,qE,reduceCtorEq,if_pos,qN,w64,zab,zaa,hg,hg2]
 refine zaf.pc (zhm hs hh) rfl (.inl rfl) ?_
 simp(disch:=omega)only[↓RU,RV,RH,↓reduceIte,qE,reduceCtorEq,if_pos,qN,w64,zab,zaa,hg,hg2]
 apply hK;clear hK K
 refine W.ret ?_
 refine Br rfl ?_
 rw [zpc,hg,hg2]
 first | rfl | exact congrArg (fun b=>some (PV.bool b)) (show decide ((ws.length:Int)≤8)=(true && true && decide (ws.length≤8)) by simp; omega)
def zcv (l:List (Int × Int)):List (List Int):=l.map fun x=>[x.1,x.2]
abbrev zel (l:List (Int × Int)):PV := .sl ((zcv l).map eInts) l.length
theorem zi3 {l:List (Int × Int)} {i:Nat} {x:Int × Int} (h:l[i]?=some x):(zcv l)[i]?=some [x.1,x.2]:=by simp [zcv,h]
theorem zdq {l:List (Int × Int)}:(zcv l).length=l.length:=by simp [zcv]
theorem zgb {x:Int × Int}:zcv [x]=[[x.1,x.2]]:=rfl
theorem zhp {x y:Int × Int}:zcv [x,y]=[[x.1,x.2],[y.1,y.2]]:=rfl
theorem zfi {l m:List (Int × Int)}:zcv (l++m)=zcv l++zcv m:=by simp [zcv]
theorem zp0 {x:Int × Int} {w h:Int}:yg5 x w h=(decide (x.1≤w) && decide (x.2≤h)):=rfl
theorem z0l {α:Type} {f:α→Bool} {l:List α} {i:Nat} {x:α} (hx:l[i]?=some x) (h:(l.take i).any f=false) (hf:f x=false):(l.take (i+1)).any f=false:=by
 rw [tk hx,List.any_append,h]; simp [hf]
theorem z9u {l:List (Int × Int)} {w h:Int} {i:Nat} {x:Int × Int} (hx:l[i]?=some x):zg7 (l.take (i+1)) w h=zjg w h (zg7 (l.take i) w h) x:=zex hx
theorem yae {S:Store} {k:Nat} {l:List (List Int)} {v:PV} {q:List Int} (h:reify S true (k+2) v=some (eInts q)):(l.map eInts++[v]).mapM (reify S true (k+2))=some ((l++[q]).map eInts):=by
 rw [qP,zi0]; simp [h]
theorem zp6 {l:List (Int × Int)} (hl:l.length≤1048576) (w h:Int):PC Tryz.prog 102 [zel l,.int .i64 w,.int .i64 h] (zel (put l w h)) false:=by
 refine PC.of ⟨Tryz.func102,by kernel_rfl,rfl,by kernel_rfl⟩ zbl mixed (by show 3≤Tryz.f102.ntmps; decide) ?_
 refine W.r fun K hK=>?_
 simp(disch:=omega)only[↓RU,RV,RH,↓reduceIte,qE,reduceCtorEq,if_pos,↓RS,RG,qA,qM,qL]
 apply hK;clear hK K
 refine W.r fun K hK=>?_
 simp(disch:=omega)only[↓RU,RV,RH,↓reduceIte,qE,reduceCtorEq,if_pos,↓RS,RG,qA,qM,qL,ty1,zab,zaa]
 apply hK;clear hK K
 refine W.r fun K hK=>?_
 simp(disch:=omega)only[↓RU,RV,RH,↓reduceIte,qE,reduceCtorEq,if_pos,↓RS,RG,qA,qM,qL]
 apply hK;clear hK K
 refine W.seq ?_
 refine W.r fun K hK=>?_
 simp(disch:=omega)only[↓RU,RV,RH,↓reduceIte,qE,reduceCtorEq,if_pos,↓RS,RG,qA,qM,qL]
 apply hK;clear hK K
 refine W.block ?_
 refine W.loopZ [0,1,2,7,8,9] (fun n vs S=>∃ i v0 tk:Nat,n=l.length - i∧i≤l.length∧((l.take i).any (fun x=>yg5 x w h)=false)∧vs=[zel l,.int .i64 w,.int .i64 h,.loc 0 v0 0 (zg7 (l.take i) w h).1.length,.bool (zg7 (l.take i) w h).2,.int .i64 i]∧S=⟨[.arr v0 24 1 ((zcv (zg7 (l.take i) w h).1).map eInts)],tk⟩) (l.length) ?_ ?_
 ·refine ⟨1,[zel l,.int .i64 w,.int .i64 h,.loc 0 0 0 (zg7 (l.take 0) w h).1.length,.bool (zg7 (l.take 0) w h).2,.int .i64 0],⟨[.arr 0 24 1 ((zcv (zg7 (l.take 0) w h).1).map eInts)],1⟩,?_,?_,0,0,1,rfl,by omega,rfl,rfl,rfl⟩
  ·rfl
  rfl
 rintro n vs S - ⟨i,v0,tk,rfl,h_i,hall,rfl,rfl⟩
 refine W.seq ?_
 refine W.r fun K hK=>?_
 simp(disch:=omega)only[↓RU,RV,RH,↓reduceIte,qE,reduceCtorEq,if_pos,w64,↓RS,RG,qA,qM,qL,ty1,zab,zaa]
 apply hK;clear hK K
 refine W.cond rfl (fun h0=>?_) (fun h0=>?_)
 ·try simp only[RL]at h0
  obtain ⟨x,hx,-⟩:=zah (show i<l.length by omega)
  have hxr:=zi3 hx
  obtain ⟨xa,xb⟩:=x
  simp only at hxr
  have hpl:=(zqe (l:=l) (w:=w) (h:=h) i h_i).2.2.2
  have hsu:=z9u (w:=w) (h:=h) hx
  generalize zg7 (l.take i) w h=s at hpl hsu ⊢
  obtain ⟨o,d⟩:=s
  simp only at hpl ⊢
  have hol:o.length≤1048577:=by split at hpl <;> omega
  have hrl:=zdq (l:=l)
  have hro:=zdq (l:=o)
  refine W.skip ?_
  refine xn ?_
  refine W.seq ?_
  refine W.block ?_
  refine W.seq ?_
  refine W.join [0,1,2,7,8,9,34] (fun vs S=>vs=[zel l,.int .i64 w,.int .i64 h,.loc 0 v0 0 o.length,.bool d,.int .i64 i,.bool (decide (xa≤w) && decide (xb≤h))]∧S=⟨[.arr v0 24 1 ((zcv o).map eInts)],tk⟩) ?_ ?_
  ·
   refine W.k fun K hK=>?_
   rcases hd1:decide (xa≤w) with _ | _
   ·skip
    simp(disch:=omega)only[↓RU,RV,RH,↓reduceIte,qE,reduceCtorEq,if_pos,w64,↓RS,RG,qA,qM,qL,ty1,zab,zaa,Int.toNat_zero,Nat.zero_mul,qZ,qM,Nat.zero_add,Nat.mul_one,hxr,hd1,hrl]
    apply hK;clear hK K
    refine xn ?_
    refine ⟨1,?_,rfl⟩
    simp [Env.put,Env.of,hd1]
   skip
   simp(disch:=omega)only[↓RU,RV,RH,↓reduceIte,qE,reduceCtorEq,if_pos,w64,↓RS,RG,qA,qM,qL,ty1,zab,zaa,Int.toNat_zero,Nat.zero_mul,qZ,qM,Nat.zero_add,Nat.mul_one,hxr,hd1,hrl]
   apply hK;clear hK K
   refine xn ?_
   refine ⟨1,?_,rfl⟩
   simp [Env.put,Env.of,hd1]
  rintro vs S - ⟨rfl,rfl⟩
  refine W.cond rfl (fun h3=>?_) (fun h3=>?_)
  ·try simp only[RL]at h3
   refine W.r fun K hK=>?_
   simp(disch:=omega)only[↓RU,RV,RH,↓reduceIte,qE,reduceCtorEq,if_pos,↓RS,RG,qA,qM,qL]
   apply hK;clear hK K
   refine W.ret ?_
   refine XThen.ret ?_
   refine XBlock.ret ?_
   refine XThen.ret ?_
   refine XThen.ret ?_
   refine XBlock.ret ?_
   refine XThen.ret ?_
   refine Br rfl ?_
   rw [show put l w h=l by unfold put; rw [if_pos (List.any_eq_true.2 ⟨(xa,xb),List.mem_of_getElem? hx,by rw [zp0]; exact h3⟩)]]
   rfl
  try simp only[RL]at h3
  refine W.skip ?_
  refine xn ?_
  refine W.seq ?_
  refine W.join [0,1,2,7,8,9,53] (fun vs S=>vs=[zel l,.int .i64 w,.int .i64 h,.loc 0 v0 0 o.length,.bool d,.int .i64 i,.bool (decide (w≤xa) && decide (h≤xb))]∧S=⟨[.arr v0 24 1 ((zcv o).map eInts)],tk⟩) ?_ ?_
  ·
   refine W.k fun K hK=>?_
   rcases hd1:decide (w≤xa) with _ | _
   ·skip
    simp(disch:=omega)only[↓RU,RV,RH,↓reduceIte,qE,reduceCtorEq,if_pos,w64,↓RS,RG,qA,qM,qL,ty1,zab,zaa,Int.toNat_zero,Nat.zero_mul,qZ,qM,Nat.zero_add,Nat.mul_one,hxr,hd1,hrl]
    apply hK;clear hK K
    refine xn ?_
    refine ⟨1,?_,rfl⟩
    simp [Env.put,Env.of,hd1]
   skip
   simp(disch:=omega)only[↓RU,RV,RH,↓reduceIte,qE,reduceCtorEq,if_pos,w64,↓RS,RG,qA,qM,qL,ty1,zab,zaa,Int.toNat_zero,Nat.zero_mul,qZ,qM,Nat.zero_add,Nat.mul_one,hxr,hd1,hrl]
   apply hK;clear hK K
   refine xn ?_
   refine ⟨1,?_,rfl⟩
   simp [Env.put,Env.of,hd1]
  rintro vs S - ⟨rfl,rfl⟩
  refine W.cond rfl (fun h4=>?_) (fun h4=>?_)
  ·try simp only[RL]at h4
   simp only[qB,decide_eq_true_eq]at h4
   have hs2:zg7 (l.take (i+1)) w h=(o,d):=by rw [hsu,zjg,if_pos h4]
   refine W.exit ?_
   refine xe ?_
   refine XBlock.hit ?_
   refine xn ?_
   refine W.k fun K hK=>?_
   simp(disch:=omega)only[↓RU,RV,RH,↓reduceIte,qE,reduceCtorEq,if_pos,w64,↓RS,RG,qA,qM,qL,zaa]
   apply hK;clear hK K
   refine xn ?_
   refine ⟨l.length - (i+1),by omega,1,[zel l,.int .i64 w,.int .i64 h,.loc 0 v0 0 (zg7 (l.take (i+1)) w h).1.length,.bool (zg7 (l.take (i+1)) w h).2,.int .i64 (i+1)],⟨[.arr v0 24 1 ((zcv (zg7 (l.take (i+1)) w h).1).map eInts)],tk⟩,?_,?_,(i+1),v0,tk,rfl,by omega,z0l hx hall (by rw [zp0]; exact h3),rfl,rfl⟩
   ·simp [-qU,Store.frz,zb5,zci,zav,zbo,zbr,zbn,zb8,zbe,zbh,zbf,zay,zaz,zbs,zbg,zbp,zbd,Env.put,Env.of,zad,zbq,qP,qC,hs2,zfi,zgb,zhp,zf9,zcm,zmd]
   simp [-qU,Store.frz,zb5,zci,zav,zbo,zbr,zbn,zb8,zbe,zbh,zbf,zay,zaz,zbs,zbg,zbp,zbd,Env.put,Env.of,zad,zbq,qP,qC,hs2,zfi,zgb,zhp,zf9,zcm,zmd]
  try simp only[RL]at h4
  have h4n:¬ (w≤xa∧h≤xb):=by intro q; rw [decide_eq_true q.1,decide_eq_true q.2]at h4; exact Bool.false_ne_true h4.symm
  refine W.skip ?_
  refine xn ?_
  refine W.seq ?_
  refine W.join [0,1,2,7,8,9,65] (fun vs S=>vs=[zel l,.int .i64 w,.int .i64 h,.loc 0 v0 0 o.length,.bool d,.int .i64 i,.bool (!d && decide (w<xa))]∧S=⟨[.arr v0 24 1 ((zcv o).map eInts)],tk⟩) ?_ ?_
  ·
   refine W.k fun K hK=>?_
   cases d
   ·skip
    simp(disch:=omega)only[↓RU,RV,RH,↓reduceIte,qE,reduceCtorEq,if_pos,w64,↓RS,RG,qA,qM,qL,ty1,zab,zaa,Int.toNat_zero,Nat.zero_mul,qZ,qM,Nat.zero_add,Nat.mul_one,hxr,hrl]
    apply hK;clear hK K
    refine xn ?_
    refine ⟨1,?_,rfl⟩
    simp [Env.put,Env.of]
   skip
   simp(disch:=omega)only[↓RU,RV,RH,↓reduceIte,qE,reduceCtorEq,if_pos,w64,↓RS,RG,qA,qM,qL,ty1,zab,zaa,Int.toNat_zero,Nat.zero_mul,qZ,qM,Nat.zero_add,Nat.mul_one,hxr,hrl]
   apply hK;clear hK K
   refine xn ?_
   refine ⟨1,?_,rfl⟩
   simp [Env.put,Env.of]
  rintro vs S - ⟨rfl,rfl⟩
  refine W.cond rfl (fun h5=>?_) (fun h5=>?_)
  ·try simp only[RL]at h5
   have h5y:d=false∧w<xa:=by simpa using h5
   have hs2:zg7 (l.take (i+1)) w h=(o++[(w,h),(xa,xb)],true):=by rw [hsu,zjg,if_neg h4n,if_pos h5y]
   obtain ⟨rfl,h5w⟩:=h5y
   have htk:∀ v:PV,((zcv o).map eInts++[v]).take (o.length+1)=(zcv o).map eInts++[v]:=fun v=>qT (by simp [hro])
   refine W.r fun K hK=>?_
   simp(disch:=omega)only[↓RU,RV,RH,↓reduceIte,qE,reduceCtorEq,if_pos,↓RS,RG,qA,qM,qL,ty1,zab,zaa,hro,hol]
   apply hK;clear hK K
   refine W.k fun K hK=>?_
   simp(disch:=omega)only[↓RU,RV,RH,↓reduceIte,qE,reduceCtorEq,if_pos,↓RS,RG,qA,qM,qL]
   apply hK;clear hK K
   refine xn ?_
   refine W.k fun K hK=>?_
   simp(disch:=omega)only[↓RU,RV,RH,↓reduceIte,qE,reduceCtorEq,if_pos,↓RS,RG,qA,qM,qL,ty1,zab,zaa,Int.toNat_zero,Nat.zero_mul,qZ,qM,Nat.zero_add,Nat.mul_one,hxr,hrl,hro,htk,List.length_append,List.length_map,List.length_cons,List.length_nil]
   apply hK;clear hK K
   refine XbN ?_
   refine xn ?_
   refine W.k fun K hK=>?_
   simp(disch:=omega)only[↓RU,RV,RH,↓reduceIte,qE,reduceCtorEq,if_pos,w64,↓RS,RG,qA,qM,qL,zaa]
   apply hK;clear hK K
   refine xn ?_
   refine ⟨l.length - (i+1),by omega,1,[zel l,.int .i64 w,.int .i64 h,.loc 0 (tk+4) 0 (zg7 (l.take (i+1)) w h).1.length,.bool (zg7 (l.take (i+1)) w h).2,.int .i64 (i+1)],⟨[.arr (tk+4) 24 1 ((zcv (zg7 (l.take (i+1)) w h).1).map eInts)],(tk+5)⟩,?_,?_,(i+1),tk+4,tk+5,rfl,by omega,z0l hx hall (by rw [zp0]; exact h3),rfl,rfl⟩
   ·simp [-qU,Store.frz,zb5,zci,zav,zbo,zbr,zbn,zb8,zbe,zbh,zbf,zay,zaz,zbs,zbg,zbp,zbd,Env.put,Env.of,zad,zbq,qP,qC,hs2,zfi,zgb,zhp,zf9,zcm,zmd]
   simp [-qU,Store.frz,zb5,zci,zav,zbo,zbr,zbn,zb8,zbe,zbh,zbf,zay,zaz,zbs,zbg,zbp,zbd,Env.put,Env.of,zad,zbq,qP,qC,hs2,zfi,zgb,zhp,zf9,zcm,zmd]
  try simp only[RL]at h5
  have h5n:¬ (d=false∧w<xa):=by simpa using h5
  have hs2:zg7 (l.take (i+1)) w h=(o++[(xa,xb)],d):=by rw [hsu,zjg,if_neg h4n,if_neg h5n]
  have htk:True:=trivial
  refine W.skip ?_
  refine xn ?_
  refine W.k fun K hK=>?_
  simp(disch:=omega)only[↓RU,RV,RH,↓reduceIte,qE,reduceCtorEq,if_pos,↓RS,RG,qA,qM,qL,ty1,zab,zaa,Int.toNat_zero,Nat.zero_mul,qZ,qM,Nat.zero_add,Nat.mul_one,hxr,hrl,hro,htk,List.length_append,List.length_map,List.length_cons,List.length_nil]
  apply hK;clear hK K
  refine XbN ?_
  refine xn ?_
  refine W.k fun K hK=>?_
  simp(disch:=omega)only[↓RU,RV,RH,↓reduceIte,qE,reduceCtorEq,if_pos,w64,↓RS,RG,qA,qM,qL,zaa]
  apply hK;clear hK K
  refine xn ?_
  refine ⟨l.length - (i+1),by omega,1,[zel l,.int .i64 w,.int .i64 h,.loc 0 (tk+1) 0 (zg7 (l.take (i+1)) w h).1.length,.bool (zg7 (l.take (i+1)) w h).2,.int .i64 (i+1)],⟨[.arr (tk+1) 24 1 ((zcv (zg7 (l.take (i+1)) w h).1).map eInts)],(tk+2)⟩,?_,?_,(i+1),tk+1,tk+2,rfl,by omega,z0l hx hall (by rw [zp0]; exact h3),rfl,rfl⟩
  ·simp [-qU,Store.frz,zb5,zci,zav,zbo,zbr,zbn,zb8,zbe,zbh,zbf,zay,zaz,zbs,zbg,zbp,zbd,Env.put,Env.of,zad,zbq,qP,qC,hs2,zfi,zgb,zhp,zf9,zcm,zmd]
  simp [-qU,Store.frz,zb5,zci,zav,zbo,zbr,zbn,zb8,zbe,zbh,zbf,zay,zaz,zbs,zbg,zbp,zbd,Env.put,Env.of,zad,zbq,qP,qC,hs2,zfi,zgb,zhp,zf9,zcm,zmd]
 try simp only[RL]at h0
 obtain rfl:i=l.length:=by omega
 have hpl:=(zqe (l:=l) (w:=w) (h:=h) l.length (qR _)).2.2.2
 rw [List.take_length]at hall hpl ⊢
 have hput:put l w h=if (zg7 l w h).2 then (zg7 l w h).1 else (zg7 l w h).1++[(w,h)]:=by unfold put; rw [hall]; rfl
 generalize zg7 l w h=s at hpl hput ⊢
 obtain ⟨o,d⟩:=s
 simp only at hpl hput ⊢
 have hol:o.length≤1048577:=by split at hpl <;> omega
 have hro:=zdq (l:=o)
 refine W.exit ?_
 refine xe ?_
 refine xe ?_
 refine XBlock.hit ?_
 refine xn ?_
 refine W.seq ?_
 refine W.r fun K hK=>?_
 simp(disch:=omega)only[↓RU,RV,RH,↓reduceIte,qE,reduceCtorEq,if_pos,↓RS,RG,qA,qM,qL]
 apply hK;clear hK K
 refine W.cond rfl (fun h6=>?_) (fun h6=>?_)
 ·try simp only[RL]at h6
  refine W.k fun K hK=>?_
  simp(disch:=omega)only[↓RU,RV,RH,↓reduceIte,qE,reduceCtorEq,if_pos,↓RS,RG,qA,qM,qL,ty1,zab,zaa]
  apply hK;clear hK K
  refine xn ?_
  refine W.r fun K hK=>?_
  simp(disch:=omega)only[↓RU,RV,RH,↓reduceIte,qE,reduceCtorEq,if_pos,↓RS,RG,qA,qM,qL]
  apply hK;clear hK K
  refine W.ret ?_
  refine Br rfl ?_
  have hd:d=false:=by simpa using h6
  rw [hput,hd,if_neg Bool.false_ne_true]
  exact (zcg (k:=9) (n:=o.length+1) rfl (by simp [hro]) (yae (k:=7) (q:=[w,h]) (zcg (k:=8) (n:=2) rfl rfl (zm3 [w,h])))).trans (by simp [zfi,zcv])
 try simp only[RL]at h6
 refine W.skip ?_
 refine xn ?_
 refine W.r fun K hK=>?_
 simp(disch:=omega)only[↓RU,RV,RH,↓reduceIte,qE,reduceCtorEq,if_pos,↓RS,RG,qA,qM,qL]
 apply hK;clear hK K
 refine W.ret ?_
 refine Br rfl ?_
 have hd:d=true:=by simpa using h6
 rw [hput,hd,if_pos rfl]
 exact (zcg (k:=9) (n:=o.length) rfl (by simp [hro]) (zi0 _))
section
section
variable {n:Nat} {M X:List (List Bool)}
def rvB (M:List (List Bool)) (a:Nat) (X:List (List Bool)) (b:Nat):List (List Bool):=z6d X b a (zdg M a b)
def rvA (n:Nat) (M:List (List Bool)) (X:List (List Bool)) (a:Nat):List (List Bool):=(List.range n).foldl (rvB M a) X
def rv (n:Nat) (M:List (List Bool)):List (List Bool):=(List.range n).foldl (rvA n M) (zcl n)
theorem Sq.ext {Y:List (List Bool)} (h:Sq n X) (k:Sq n Y) (e:∀ x y,x<n→y<n→zdg X x y=zdg Y x y):X=Y:=by
 apply List.ext_getElem?
 intro x
 by_cases hx:x<n
 ·obtain ⟨r,hr,hrm⟩:=zah (show x<X.length by rw [h.1]; exact hx)
  obtain ⟨s,hs,hsm⟩:=zah (show x<Y.length by rw [k.1]; exact hx)
  rw [hr,hs]
  congr 1
  have hrl:=h.2 r hrm
  have hsl:=k.2 s hsm
  apply List.ext_getElem?
  intro y
  by_cases hy:y<n
  ·have:=e x y hx hy
   unfold zdg at this
   rw [hr,hs,Option.getD_some,Option.getD_some]at this
   obtain ⟨u,hu,-⟩:=zah (show y<r.length by omega)
   obtain ⟨v,hv,-⟩:=zah (show y<s.length by omega)
   rw [hu,hv]at this ⊢
   simpa using this
  rw [List.getElem?_eq_none (by omega),List.getElem?_eq_none (by omega)]
 rw [List.getElem?_eq_none (by rw [h.1]; omega),List.getElem?_eq_none (by rw [k.1]; omega)]
end
end

def scs (l:List (Int × Int)):List PV:=l.flatMap ztr
abbrev zfn (l:List (Int × Int)):PV := .sl (scs l) l.length
theorem ygn (l m:List (Int × Int)):scs (l++m)=scs l++scs m:=by simp [scs]
theorem zji (x:Int × Int) (l:List (Int × Int)):scs (x::l)=ztr x++scs l:=rfl
theorem zcw (l:List (Int × Int)):(scs l).length=l.length*2:=by
 induction l with
 | nil=>rfl
 | cons x l ih=>rw [zji,List.length_append,ih,List.length_cons]; simp [ztr]; omega
theorem zuq {l:List (Int × Int)} {n:Nat} {x:Int × Int} (h:l[n]?=some x):((scs l).drop (n*2)).take 2=ztr x:=by
 induction l generalizing n with
 | nil=>simp at h
 | cons a l ih =>
  cases n with
  | zero=>simp at h; subst h; rw [zji]; simp [ztr]
  | succ n =>
   simp at h
   rw [zji,show (n+1)*2=(ztr a).length+n*2 by simp [ztr]; omega,List.drop_length_add_append]
   exact ih h
theorem zlr {l:List (Int × Int)}:(scs l).take (l.length*2)=scs l:=by rw [← zcw,List.take_length]
theorem zwj (l:List (Int × Int)):(scs l).all scal=true:=by
 induction l with
 | nil=>rfl
 | cons a l ih=>rw [zji,List.all_append,ih]; simp [ztr,scal]
theorem zjb {M:List (List Bool)} {ws:List Int} {nr:Nat} {rk:Nat→Nat} (hu:Up M nr rk) (hn:nr≤9) (hwl:ws.length=nr) (hw:zd9 ws):PC Tryz.prog 42 [zml M,eInts ws] (eInts (heaviest M ws nr)) true:=by
 have e:(heaviest M ws nr).length=nr:=zgn
 refine PN.pc (z0y hu hn hwl hw) rfl ?_
 simp only[List.map_cons,List.map_nil,zn3,z4v,z13,Nat.add_zero]
 exact (zcg (n:=nr) rfl (by simp [e]) (zm3 _)).trans (show some (PV.sl _ nr)=some (PV.sl _ (heaviest M ws nr).length) by rw [e])
theorem z3e {α:Type} {a b:List α} {i:Nat} {x:α} (ha:a[i]?=some x) (hb:b[i]?=some x):a.take i++b.drop i=a.take (i+1)++b.drop (i+1):=by
 have hi:=zcq hb
 rw [tk ha,List.append_assoc,List.drop_eq_getElem_cons hi]
 congr 1
 rw [List.getElem?_eq_getElem hi]at hb
 rw [Option.some.inj hb]; rfl
def slC (b:Nat) (l:List (Int × Int)) (v:Nat):PV:=match l with | [] => .nils | _ => .loc b v 0 l.length
def tlC (l:List (Int × Int)) (v:Nat):List Ob:=match l with | []=>[] | _=>[.arr v 87 2 (scs l)]
theorem zma {b v:Nat}:slC b [] v = .nils:=rfl
theorem zkn {v:Nat}:tlC [] v=[]:=rfl
theorem ze0 {b v:Nat} {l:List (Int × Int)} (h:l≠[]):slC b l v = .loc b v 0 l.length:=by cases l with | nil=>exact absurd rfl h | cons a l=>rfl
theorem zer {v:Nat} {l:List (Int × Int)} (h:l≠[]):tlC l v=[.arr v 87 2 (scs l)]:=by cases l with | nil=>exact absurd rfl h | cons a l=>rfl
def shL (L A:List (List Bool)) (n:Nat) (ws ht:List Int) (k:Nat):List (Int × Int):=(List.range k).map (shI L A n ws ht)
theorem z1s {L A:List (List Bool)} {n:Nat} {ws ht:List Int} {k:Nat}:(shL L A n ws ht k).length=k:=by simp [shL]
theorem zql {L A:List (List Bool)} {n:Nat} {ws ht:List Int} {k:Nat}:shL L A n ws ht (k+1)=shL L A n ws ht k++[shI L A n ws ht k]:=by simp [shL,qS]
theorem zjq {L A:List (List Bool)} {n:Nat} {ws ht:List Int} {k:Nat} (h:k≠0):shL L A n ws ht k≠[]:=by intro e; have:=congrArg List.length e; rw [z1s]at this; exact h this
theorem zgt {S:Store} {o v et n k:Nat} {l:List Int} (h:S.obs[o]?=some (.arr v et 1 (l.map (.int .i64)))) (hl:l.length=n):reify S true (k+2) (.loc o v 0 n)=some (eInts l):=by
 subst hl; exact zcg h (by simp) (zm3 _)
theorem zgu {S:Store} {k f:Nat} {sel:List Nat} (l:List (Int × Int)):(scs l).mapM (rn S k sel (f+1))=some (scs l):=zwf (zwj l)
theorem znr {l:List (Int × Int)} {x:Int × Int}:scs (l++[x])=scs l++[.int .i64 x.1,.int .i64 x.2]:=by rw [ygn]; rfl
def zde (p:List Txt) (ws ht:List Int):Bool:=zdp p [ws,ht] && decide ((rP p).length≤8)
theorem zut {p:List Txt} (hs:Sm p) {ws ht:List Int} (hw:ws.length≤1048576) (hh:ht.length≤1048576):Ev Tryz.prog 57 [zbc p,eInts ws,eInts ht] ⟨[],0⟩ fun v S=>∃ x,v = .tup [x,.bool (zde p ws ht)]∧((zde p ws ht)=true→x=zax (gP p) (rP p))∧S=⟨[.arr 0 24 1 [eInts ws,eInts ht]],1⟩:=by
 refine Ev.of ⟨Tryz.func57,by kernel_rfl,rfl,by kernel_rfl⟩ zbl mixed (by show 3≤Tryz.f57.ntmps; decide) ?_
 refine W.r fun K hK=>?_
 simp(disch:=omega)only[↓RU,RV,RH,↓reduceIte,qE,reduceCtorEq,if_pos,↓RS,RG,qA,qM,qL]
 apply hK;clear hK K
 refine W.r fun K hK=>?_
 simp(disch:=omega)only[↓RU,RV,RH,↓reduceIte,qE,reduceCtorEq,if_pos,qN,↓RS,RG,qA,qM,qL,ty1,zab,zaa]
 refine zaf.ev (z5q hs (wss:=[ws,ht]) (by simp) (by intro a ha; simp only[List.mem_cons,List.not_mem_nil,or_false]at ha; rcases ha with rfl | rfl <;> assumption)) ?_
 rintro _ _ ⟨x,rfl,hx,rfl⟩
 simp(disch:=omega)only[↓RU,RV,RH,↓reduceIte,qE,reduceCtorEq,if_pos,qN,↓RS,RG,qA,qM,qL,ty1,zab,zaa]
 apply hK;clear hK K
 refine W.seq_draw (by kernel_rfl) fun K hK=>?_
 cases hv:(zdp p [ws,ht])
 ·skip
  simp(disch:=omega)only[↓RU,RV,RH,↓reduceIte,qE,reduceCtorEq,if_pos,w64,↓RS,RG,qA,qM,qL,ty1,ty3,zab,zej,zdc,zbt,zaa,zek,zbu,hv]
  apply hK;clear hK K
  refine W.ret ?_
  refine Br rfl ?_
  exact ⟨_,_,by rw [zde,hv]; rfl,fun h9=>absurd h9 (by unfold zde; rw [hv]; exact Bool.false_ne_true),za2⟩
 skip
 obtain rfl:=hx hv
 simp(disch:=omega)only[↓RU,RV,RH,↓reduceIte,qE,reduceCtorEq,if_pos,w64,↓RS,RG,qA,qM,qL,ty1,ty3,zab,zej,zdc,zbt,zaa,zek,zbu,hv,zb4]
 apply hK;clear hK K
 refine W.ret ?_
 refine Br rfl ?_
 have hge:(zde p ws ht)=decide (((rP p).length:Int)≤8):=by unfold zde; rw [hv]; simp; omega
 exact ⟨_,_,by rw [hge]; rfl,fun _=>rfl,za2⟩
theorem zj8 {p:List Txt} {ws ht:List Int} (h:zde p ws ht=true):zdp p [ws]=true∧zdp p [ht]=true∧(rP p).length≤8:=by
 unfold zde zdp at *
 simp only[List.all_cons,List.all_nil,Bool.and_true,qB,decide_eq_true_eq]at h ⊢
 exact ⟨⟨h.1.1,h.1.2.1⟩,⟨h.1.1,h.1.2.2⟩,h.2⟩
theorem yco {S:Store} {l:List Int} (h:1≤l.length):pEq tab S 24 (eInts l) .nils=some false:=by
 show (if l.length=0 then none else some false)=some false
 rw [if_neg (by omega)]
theorem zpw {l:List Int} (h1:1≤l.length) (hl:l.length≤1048576):PN Tryz.prog 107 [eInts l] (.loc 0 0 0 l.length) [.arr 0 3 1 (l.map (.int .i64))] false:=by
 refine PN.of ⟨Tryz.func107,by kernel_rfl,rfl,by kernel_rfl⟩ zbl mixed (by show 1≤Tryz.f107.ntmps; decide) ?_
 refine W.r fun K hK=>?_
 simp(disch:=omega)only[↓RU,RV,RH,↓reduceIte,qE,reduceCtorEq,if_pos,↓RS,RG,qA,qM,qL]
 apply hK;clear hK K
 refine W.seq ?_
 refine W.r fun K hK=>?_
 simp(disch:=omega)only[↓RU,RV,RH,↓reduceIte,qE,reduceCtorEq,if_pos,w64,↓RS,RG,qA,qM,qL,zab,zaa,yco h1]
 apply hK;clear hK K
 refine W.cond rfl (fun h=>?_) (fun h=>?_)
 ·try simp only[RL]at h
  exact absurd h (by simp)
 try simp only[RL]at h
 refine W.skip ?_
 refine xn ?_
 refine W.r fun K hK=>?_
 simp(disch:=omega)only[↓RU,RV,RH,↓reduceIte,qE,reduceCtorEq,if_pos,↓RS,RG,qA,qM,qL,zab,zaa]
 apply hK;clear hK K
 refine W.ret ?_
 refine Br rfl ?_
 exact yet rfl (yap _)
theorem yde {p:List Txt} (hs:Sm p) {ws ht:List Int} (hw:ws.length≤1048576) (hh:ht.length≤1048576) (hv:zde p ws ht=false):PC Tryz.prog 67 [zbc p,eInts ws,eInts ht] (.tup [.sl [] 0,.bool false]) true:=by
 refine PC.of ⟨Tryz.func67,by kernel_rfl,rfl,by kernel_rfl⟩ zbl mixed (by show 3≤Tryz.f67.ntmps; decide) ?_
 refine W.r fun K hK=>?_
 simp(disch:=omega)only[↓RU,RV,RH,↓reduceIte,qE,reduceCtorEq,if_pos,↓RS,RG,qA,qM,qL]
 apply hK;clear hK K
 refine W.r fun K hK=>?_
 simp(disch:=omega)only[↓RU,RV,RH,↓reduceIte,qE,reduceCtorEq,if_pos,qN,↓RS,RG,qA,qM,qL,hv]
 refine zaf.ev (zut hs hw hh) ?_
 rintro _ _ ⟨x,rfl,hx,rfl⟩
 simp(disch:=omega)only[↓RU,RV,RH,↓reduceIte,qE,reduceCtorEq,if_pos,qN,↓RS,RG,qA,qM,qL,hv]
 apply hK;clear hK K
 refine W.seq ?_
 refine W.r fun K hK=>?_
 simp(disch:=omega)only[↓RU,RV,RH,↓reduceIte,qE,reduceCtorEq,if_pos,↓RS,RG,qA,qM,qL]
 apply hK;clear hK K
 refine W.cond rfl (fun h=>?_) (fun h=>?_)
 ·try simp only[RL]at h
  refine W.r fun K hK=>?_
  simp(disch:=omega)only[↓RU,RV,RH,↓reduceIte,qE,reduceCtorEq,if_pos,↓RS,RG,qA,qM,qL]
  apply hK;clear hK K
  refine W.ret ?_
  refine XThen.ret ?_
  refine Br rfl ?_
  rfl
 try simp only[RL]at h
 exact absurd h (by simp)
abbrev Shp:=Int × Int
def Stc (l:List Shp):Prop:=l.Pairwise fun x y=>x.1<y.1∧y.2<x.2
def Dom (l:List Shp) (x:Shp):Prop:=∃ y∈l,y.1≤x.1∧y.2≤x.2
theorem yia {α:Type} {R:α→α→Prop}:∀ {l:List α},l.Pairwise R→∀ {x y:α},x∈l→y∈l→x=y∨R x y∨R y x
 | [],_,x,y,h,_=>by simp at h
 | a::l,hp,x,y,hx,hy=>by
  obtain ⟨h1,h2⟩:=List.pairwise_cons.1 hp
  rcases List.mem_cons.1 hx with ex | ex
  ·rcases List.mem_cons.1 hy with ey | ey
   ·exact .inl (ex.trans ey.symm)
   rw [ex]; exact .inr (.inl (h1 _ ey))
  rcases List.mem_cons.1 hy with ey | ey
  ·rw [ey]; exact .inr (.inr (h1 _ ex))
  exact yia h2 ex ey
theorem Stc.one {l:List Shp} (h:Stc l) {x y:Shp} (hx:x∈l) (hy:y∈l) (h1:x.1≤y.1) (h2:x.2≤y.2):x=y:=by
 rcases yia h hx hy with e | e | e
 ·exact e
 ·omega
 omega
theorem yav:∀ {B C:List Shp},Stc B→Stc C→(∀ x,x∈B↔x∈C)→B=C
 | [],[],_,_,_=>rfl
 | [],c::C,_,_,h=>by have:=(h c).2 (by simp); simp at this
 | b::B,[],_,_,h=>by have:=(h b).1 (by simp); simp at this
 | b::B,c::C,hB,hC,h=>by
  obtain ⟨b1,b2⟩:=List.pairwise_cons.1 hB
  obtain ⟨c1,c2⟩:=List.pairwise_cons.1 hC
  have e:b=c:=by
   rcases List.mem_cons.1 ((h b).1 (by simp)) with e | e
   ·exact e
   rcases List.mem_cons.1 ((h c).2 (by simp)) with e2 | e2
   ·exact e2.symm
   have:=c1 b e; have:=b1 c e2; omega
  subst e
  congr 1
  refine yav b2 c2 fun x=>⟨fun hx=>?_,fun hx=>?_⟩
  ·rcases List.mem_cons.1 ((h x).1 (List.mem_cons_of_mem _ hx)) with e | e
   ·subst e; have:=b1 x hx; omega
   exact e
  rcases List.mem_cons.1 ((h x).2 (List.mem_cons_of_mem _ hx)) with e | e
  ·subst e; have:=c1 x hx; omega
  exact e
theorem z4o {B C:List Shp} (hB:Stc B) (hC:Stc C) (h1:∀ x∈B,Dom C x) (h2:∀ x∈C,Dom B x):B=C:=by
 have key:∀ {B C:List Shp},Stc B→(∀ x∈B,Dom C x)→(∀ x∈C,Dom B x)→∀ x∈B,x∈C:=by
  intro B C hB h1 h2 x hx
  obtain ⟨y,hy,y1,y2⟩:=h1 x hx
  obtain ⟨z,hz,z1,z2⟩:=h2 y hy
  have e:=hB.one hz hx (by omega) (by omega)
  subst e
  have e2:y=z:=Prod.ext (by omega) (by omega)
  rw [← e2]; exact hy
 exact yav hB hC fun x=>⟨key hB h1 h2 x,key hC h2 h1 x⟩
structure Best (l B:List Shp):Prop where
 st:Stc B
 sub:∀ x∈B,x∈l
 dom:∀ x∈l,Dom B x
theorem Best.uniq {l B C:List Shp} (h:Best l B) (k:Best l C):B=C:=z4o h.st k.st (fun x hx=>k.dom x (h.sub x hx)) fun x hx=>h.dom x (k.sub x hx)
theorem Best.mem {l m B:List Shp} (h:Best l B) (e:∀ x,x∈l↔x∈m):Best m B:=⟨h.st,fun x hx=>(e x).1 (h.sub x hx),fun x hx=>h.dom x ((e x).2 hx)⟩
def bsS (out:List Shp) (s:Shp):List Shp :=
 match out.getLast? with
 | none=>[s]
 | some q=>if s.2<q.2 then out++[s] else out
def bsF (z:List Shp):List Shp:=z.foldl bsS []
theorem zpv {z:List Shp} {i:Nat} {x:Shp} (h:z[i]?=some x):bsF (z.take (i+1))=bsS (bsF (z.take i)) x:=zex h
def LexLe (x y:Shp):Prop:=x.1<y.1∨(x.1=y.1∧x.2≤y.2)
theorem yfd {o:List Shp} {s:Shp}:(bsS o s).length≤o.length+1:=by
 unfold bsS
 split
 ·simp
 split <;> simp
theorem zvd (z:List Shp):∀ i,i≤z.length→(bsF (z.take i)).length≤i
 | 0,_=>by simp [bsF]
 | i+1,hi=>by
  obtain ⟨x,hx,-⟩:=zah (show i<z.length by omega)
  have:=zvd z i (by omega)
  rw [zpv hx]
  have:=yfd (o:=bsF (z.take i)) (s:=x)
  omega
theorem z64 {z:List Shp} (hz:z.Pairwise LexLe):∀ i,i≤z.length→Best (z.take i) (bsF (z.take i))∧∀ q,(bsF (z.take i)).getLast?=some q→∀ x∈z.take i,q.2≤x.2
 | 0,_=>by
  refine ⟨⟨?_,?_,?_⟩,?_⟩
  ·simp [bsF,Stc]
  ·simp [bsF]
  ·simp
  simp
 | i+1,hi=>by
  obtain ⟨⟨h1,h2,h3⟩,h4⟩:=z64 hz i (by omega)
  obtain ⟨s,hs,-⟩:=zah (show i<z.length by omega)
  have et:z.take (i+1)=z.take i++[s]:=tk hs
  rw [zpv hs,et]
  have hlex:∀ x∈z.take i,LexLe x s:=by
   have:=List.pairwise_iff_getElem.1 hz
   intro x hx
   obtain ⟨j,hj⟩:=List.getElem?_of_mem hx
   have hjl:=zcq hj
   rw [List.length_take]at hjl
   rw [List.getElem?_take_of_lt (by omega)]at hj
   obtain ⟨a1,a2⟩:=List.getElem?_eq_some_iff.1 hj
   obtain ⟨b1,b2⟩:=List.getElem?_eq_some_iff.1 hs
   rw [← a2,← b2]
   exact this j i a1 b1 (by omega)
  generalize bsF (z.take i)=o at h1 h2 h3 h4
  unfold bsS
  cases ho:o.getLast? with
  | none =>
   have e:o=[]:=List.getLast?_eq_none_iff.1 ho
   subst e
   have en:z.take i=[]:=by
    cases hq:z.take i with
    | nil=>rfl
    | cons a l=>obtain ⟨y,hy,-⟩:=h3 a (by rw [hq]; simp); simp at hy
   rw [en]
   simp only[List.nil_append]
   refine ⟨⟨List.pairwise_singleton _ _,fun x hx=>hx,fun x hx=>⟨x,hx,Int.le_refl _,Int.le_refl _⟩⟩,fun q hq x hx=>?_⟩
   simp at hq hx; subst hq; subst hx; exact Int.le_refl _
  | some q =>
   have hqm:q∈o:=List.mem_of_getLast? ho
   have hql:=hlex q (h2 q hqm)
   simp only
   by_cases c:s.2<q.2
   ·rw [if_pos c]
    have hq1:q.1<s.1:=by rcases hql with e | ⟨e,e2⟩ <;> omega
    have hall:∀ y∈o,y.1<s.1∧s.2<y.2:=by
     intro y hy
     have hyq:q.2≤y.2:=h4 q ho y (h2 y hy)
     rcases hlex y (h2 y hy) with e | ⟨e,e2⟩ <;> omega
    refine ⟨⟨List.pairwise_append.2 ⟨h1,List.pairwise_singleton _ _,fun y hy x hx=>by simp at hx; subst hx; exact hall y hy⟩,fun x hx=>?_,fun x hx=>?_⟩,fun r hr x hx=>?_⟩
    ·rcases List.mem_append.1 hx with e | e
     ·exact List.mem_append_left _ (h2 x e)
     exact List.mem_append_right _ e
    ·rcases List.mem_append.1 hx with e | e
     ·obtain ⟨y,hy,k⟩:=h3 x e; exact ⟨y,List.mem_append_left _ hy,k⟩
     exact ⟨x,List.mem_append_right _ e,Int.le_refl _,Int.le_refl _⟩
    simp at hr; subst hr
    rcases List.mem_append.1 hx with e | e
    ·have:=h4 q ho x e; omega
    simp at e; subst e; exact Int.le_refl _
   rw [if_neg c]
   refine ⟨⟨h1,fun x hx=>List.mem_append_left _ (h2 x hx),fun x hx=>?_⟩,fun r hr x hx=>?_⟩
   ·rcases List.mem_append.1 hx with e | e
    ·exact h3 x e
    simp at e; subst e
    exact ⟨q,hqm,by rcases hql with e | ⟨e,-⟩ <;> omega,by omega⟩
   rw [ho]at hr; cases hr
   rcases List.mem_append.1 hx with e | e
   ·exact h4 q ho x e
   simp at e; subst e; omega
theorem z65 {z l:List Shp} (hz:z.Pairwise LexLe) (hp:z.Perm l):Best l (bsF z):=by
 have h:=(z64 hz z.length (qR _)).1
 rw [List.take_length]at h
 exact h.mem fun x=>hp.mem_iff
theorem ygc {l:List Shp} (hl:Stc l) {w h:Int}:Stc (put l w h):=by
 unfold put
 by_cases hd:l.any (fun x=>yg5 x w h)=true
 ·rw [if_pos hd]; exact hl
 rw [if_neg hd]
 have hno:∀ x∈l,w<x.1∨h<x.2:=by
  intro x hx
  have:=hd
  rw [List.any_eq_true]at this
  refine Classical.byContradiction fun hn=>this ⟨x,hx,?_⟩
  unfold yg5
  simp only[qB,decide_eq_true_eq]
  omega
 have key:∀ i,i≤l.length→Stc (zg7 (l.take i) w h).1∧(∀ y∈(zg7 (l.take i) w h).1,(y∈l.take i∧¬ (w≤y.1∧h≤y.2))∨(y=(w,h)∧(zg7 (l.take i) w h).2=true)) ∧
   ((zg7 (l.take i) w h).2=false→∀ y∈(zg7 (l.take i) w h).1,y.1<w∧h<y.2)∧((zg7 (l.take i) w h).2=true→∃ x∈l.take i,w<x.1):=by
  intro i
  induction i with
  | zero=>intro _; simp [zg7,Stc]
  | succ i ih =>
   intro hi
   obtain ⟨k1,k2,k3,k4⟩:=ih (by omega)
   obtain ⟨x,hx,hxm⟩:=zah (show i<l.length by omega)
   have e:zg7 (l.take (i+1)) w h=zjg w h (zg7 (l.take i) w h) x:=zex hx
   have et:l.take (i+1)=l.take i++[x]:=tk hx
   have hlt:∀ y∈l.take i,y.1<x.1∧x.2<y.2:=by
    have:=List.pairwise_iff_getElem.1 hl
    intro y hy
    obtain ⟨j,hj⟩:=List.getElem?_of_mem hy
    have hjl:=zcq hj
    rw [List.length_take]at hjl
    rw [List.getElem?_take_of_lt (by omega)]at hj
    obtain ⟨a1,a2⟩:=List.getElem?_eq_some_iff.1 hj
    obtain ⟨b1,b2⟩:=List.getElem?_eq_some_iff.1 hx
    rw [← a2,← b2]
    exact this j i a1 b1 (by omega)
   have hnx:=hno x hxm
   rw [e,et]
   generalize zg7 (l.take i) w h=s at k1 k2 k3 k4
   obtain ⟨o,d⟩:=s
   unfold zjg
   simp only at k1 k2 k3 k4 ⊢
   by_cases c1:w≤x.1∧h≤x.2
   ·rw [if_pos c1]
    refine ⟨k1,fun y hy=>?_,k3,fun hd=>?_⟩
    ·rcases k2 y hy with ⟨a,b⟩ | b
     ·exact .inl ⟨List.mem_append_left _ a,b⟩
     exact .inr b
    obtain ⟨z,hz,hzw⟩:=k4 hd; exact ⟨z,List.mem_append_left _ hz,hzw⟩
   rw [if_neg c1]
   by_cases c2:d=false∧w<x.1
   ·rw [if_pos c2]
    obtain ⟨rfl,c3⟩:=c2
    have k5:=k3 rfl
    refine ⟨?_,fun y hy=>?_,fun hd=>by simp at hd,fun _=>⟨x,by simp,c3⟩⟩
    ·refine List.pairwise_append.2 ⟨k1,?_,fun y hy z hz=>?_⟩
     ·refine List.pairwise_cons.2 ⟨fun z hz=>?_,List.pairwise_singleton _ _⟩
      simp at hz; subst hz
      exact ⟨c3,by omega⟩
     simp at hz
     have hy5:=k5 y hy
     rcases hz with rfl | rfl
     ·exact hy5
     rcases k2 y hy with ⟨a,b⟩ | ⟨-,b⟩
     ·exact hlt y a
     cases b
    simp only[List.mem_append,List.mem_cons,List.not_mem_nil,or_false]at hy
    rcases hy with a | a | a
    ·rcases k2 y a with ⟨q,r⟩ | ⟨-,q⟩
     ·exact .inl ⟨List.mem_append_left _ q,r⟩
     cases q
    ·exact .inr ⟨a,rfl⟩
    subst a; exact .inl ⟨by simp,c1⟩
   rw [if_neg c2]
   refine ⟨?_,fun y hy=>?_,fun hd=>?_,fun hd=>?_⟩
   ·refine List.pairwise_append.2 ⟨k1,List.pairwise_singleton _ _,fun y hy z hz=>?_⟩
    simp at hz; subst hz
    rcases k2 y hy with ⟨a,b⟩ | ⟨a,b⟩
    ·exact hlt y a
    subst a
    obtain ⟨q,hq,hqw⟩:=k4 b
    have:=hlt q hq
    simp only
    omega
   ·rcases List.mem_append.1 hy with a | a
    ·rcases k2 y a with ⟨q,r⟩ | q
     ·exact .inl ⟨List.mem_append_left _ q,r⟩
     exact .inr q
    simp at a; subst a; exact .inl ⟨by simp,c1⟩
   ·intro y hy
    rcases List.mem_append.1 hy with a | a
    ·exact k3 hd y a
    simp at a; subst a
    have:¬ w<y.1:=fun q=>c2 ⟨hd,q⟩
    omega
   obtain ⟨z,hz,hzw⟩:=k4 hd; exact ⟨z,List.mem_append_left _ hz,hzw⟩
 obtain ⟨k1,k2,k3,k4⟩:=key l.length (qR _)
 rw [List.take_length]at k1 k2 k3 k4
 cases hd2:(zg7 l w h).2 with
 | true=>rw [if_pos rfl]; exact k1
 | false =>
  rw [if_neg (by simp)]
  refine List.pairwise_append.2 ⟨k1,List.pairwise_singleton _ _,fun y hy z hz=>?_⟩
  simp at hz; subst hz
  exact k3 hd2 y hy
theorem zva {sh:Nat→Int × Int} (k:Nat):Best ((List.range k).map sh) (zs7 sh k):=by
 obtain ⟨h1,h2,-⟩:=z19 (sh:=sh) k
 refine ⟨?_,fun x hx=>?_,fun x hx=>?_⟩
 ·have:∀ k,Stc (zs7 sh k):=by
   intro k
   induction k with
   | zero=>simp [zs7,Stc]
   | succ k ih=>rw [zmq]; exact ygc ih
  exact this k
 ·obtain ⟨s,hs,rfl⟩:=h1 x hx
  exact List.mem_map.2 ⟨s,List.mem_range.2 hs,rfl⟩
 obtain ⟨s,hs,rfl⟩:=List.mem_map.1 hx
 exact h2 s (List.mem_range.1 hs)
theorem z6y {z:List Shp} {sh:Nat→Int × Int} {k:Nat} (hz:z.Pairwise LexLe) (hp:z.Perm ((List.range k).map sh)):bsF z=zs7 sh k:=(z65 hz hp).uniq (zva k)
def z0e (a b:Int):Int:=if a<b then -1 else if b<a then 1 else 0
def orI (l:List Int):Int:=(l.find? fun x=>decide (x≠0)).getD 0
def z42 (x y:Shp):Int:=orI [z0e x.1 y.1,z0e x.2 y.2]
theorem yf6 {l:List Int}:orI (0::l)=orI l:=by simp [orI]
theorem z9b {l:List Int} {x:Int} (h:x≠0):orI (x::l)=x:=by simp [orI,h]
theorem dropc {l:List Int} {i:Nat} {x:Int} (h:l[i]?=some x):l.drop i=x::l.drop (i+1):=by
 obtain ⟨hi,rfl⟩:=List.getElem?_eq_some_iff.1 h
 exact List.drop_eq_getElem_cons hi
theorem zth {x y:Int}:PC Tryz.prog 106 [.int .i64 x,.int .i64 y] (.int .i64 (z0e x y)) true:=by
 refine PC.of ⟨Tryz.func106,by kernel_rfl,rfl,by kernel_rfl⟩ zbl mixed (by show 2≤Tryz.f106.ntmps; decide) ?_
 refine W.r fun K hK=>?_
 simp(disch:=omega)only[↓RU,RV,RH,↓reduceIte,qE,reduceCtorEq,if_pos]
 apply hK;clear hK K
 refine W.r fun K hK=>?_
 simp(disch:=omega)only[↓RU,RV,RH,↓reduceIte,qE,reduceCtorEq,if_pos,qN]
 refine zaf.pc (zvs) rfl (.inl rfl) ?_
 simp(disch:=omega)only[↓RU,RV,RH,↓reduceIte,qE,reduceCtorEq,if_pos,qN]
 apply hK;clear hK K
 refine W.r fun K hK=>?_
 simp(disch:=omega)only[↓RU,RV,RH,↓reduceIte,qE,reduceCtorEq,if_pos,qN]
 refine zaf.pc (zvs) rfl (.inl rfl) ?_
 simp(disch:=omega)only[↓RU,RV,RH,↓reduceIte,qE,reduceCtorEq,if_pos,qN]
 apply hK;clear hK K
 refine W.seq ?_
 refine W.r fun K hK=>?_
 simp(disch:=omega)only[↓RU,RV,RH,↓reduceIte,qE,reduceCtorEq,if_pos]
 apply hK;clear hK K
 refine W.cond rfl (fun h=>?_) (fun h=>?_)
 ·try simp only[RL]at h
  exact absurd h (by simp)
 try simp only[RL]at h
 refine W.skip ?_
 refine xn ?_
 refine W.seq ?_
 refine W.r fun K hK=>?_
 simp(disch:=omega)only[↓RU,RV,RH,↓reduceIte,qE,reduceCtorEq,if_pos]
 apply hK;clear hK K
 refine W.cond rfl (fun h1=>?_) (fun h1=>?_)
 ·try simp only[RL]at h1
  exact absurd h1 (by simp)
 try simp only[RL]at h1
 refine W.skip ?_
 refine xn ?_
 refine W.seq ?_
 refine W.r fun K hK=>?_
 simp(disch:=omega)only[↓RU,RV,RH,↓reduceIte,qE,reduceCtorEq,if_pos,w64,zaa]
 apply hK;clear hK K
 refine W.cond rfl (fun h3=>?_) (fun h3=>?_)
 ·try simp only[RL]at h3
  refine W.r fun K hK=>?_
  simp(disch:=omega)only[↓RU,RV,RH,↓reduceIte,qE,reduceCtorEq,if_pos]
  apply hK;clear hK K
  refine W.ret ?_
  refine XThen.ret ?_
  refine Br rfl ?_
  rw [z0e,if_pos (by simpa using h3)]
  rfl
 try simp only[RL]at h3
 refine W.skip ?_
 refine xn ?_
 refine W.seq ?_
 refine W.r fun K hK=>?_
 simp(disch:=omega)only[↓RU,RV,RH,↓reduceIte,qE,reduceCtorEq,if_pos,w64,zaa]
 apply hK;clear hK K
 refine W.cond rfl (fun h4=>?_) (fun h4=>?_)
 ·try simp only[RL]at h4
  refine W.r fun K hK=>?_
  simp(disch:=omega)only[↓RU,RV,RH,↓reduceIte,qE,reduceCtorEq,if_pos]
  apply hK;clear hK K
  refine W.ret ?_
  refine XThen.ret ?_
  refine Br rfl ?_
  rw [z0e,if_neg (by simpa using h3),if_pos (by simpa using h4)]
  rfl
 try simp only[RL]at h4
 refine W.skip ?_
 refine xn ?_
 refine W.r fun K hK=>?_
 simp(disch:=omega)only[↓RU,RV,RH,↓reduceIte,qE,reduceCtorEq,if_pos]
 apply hK;clear hK K
 refine W.ret ?_
 refine Br rfl ?_
 rw [z0e,if_neg (by simpa using h3),if_neg (by simpa using h4)]
 rfl
theorem yja {l:List Int} (hl:l.length≤1048576):PC Tryz.prog 105 [eInts l] (.int .i64 (orI l)) true:=by
 refine PC.of ⟨Tryz.func105,by kernel_rfl,rfl,by kernel_rfl⟩ zbl mixed (by show 1≤Tryz.f105.ntmps; decide) ?_
 refine W.r fun K hK=>?_
 simp(disch:=omega)only[↓RU,RV,RH,↓reduceIte,qE,reduceCtorEq,if_pos]
 apply hK;clear hK K
 refine W.r fun K hK=>?_
 simp(disch:=omega)only[↓RU,RV,RH,↓reduceIte,qE,reduceCtorEq,if_pos]
 apply hK;clear hK K
 refine W.seq ?_
 refine W.r fun K hK=>?_
 simp(disch:=omega)only[↓RU,RV,RH,↓reduceIte,qE,reduceCtorEq,if_pos,zab,zaa]
 apply hK;clear hK K
 refine W.block ?_
 refine W.loop [0,3,6,7,8] (fun n vs S=>∃ i:Nat,n=l.length - i∧i≤l.length∧(orI l=orI (l.drop i))∧vs=[eInts l,.int .i64 0,eInts l,.int .i64 l.length,.int .i64 i]∧S=⟨[],0⟩) (l.length) ?_ ?_
 ·refine ⟨0,0,rfl,Nat.zero_le _,rfl,?_,rfl⟩
  simp [Env.put,Env.of,zad]
 rintro n vs S - ⟨i,rfl,h_i,he,rfl,rfl⟩
 refine W.r fun K hK=>?_
 simp(disch:=omega)only[↓RU,RV,RH,↓reduceIte,qE,reduceCtorEq,if_pos,w64,zaa]
 apply hK;clear hK K
 refine W.seq ?_
 refine W.cond rfl (fun h=>?_) (fun h=>?_)
 ·try simp only[RL]at h
  obtain ⟨x,hx,-⟩:=zah (show i<l.length by omega)
  refine W.skip ?_
  refine xn ?_
  refine W.seq ?_
  refine W.block ?_
  refine W.r fun K hK=>?_
  simp(disch:=omega)only[↓RU,RV,RH,↓reduceIte,qE,reduceCtorEq,if_pos,zab,zaa,hx]
  apply hK;clear hK K
  refine W.r fun K hK=>?_
  simp(disch:=omega)only[↓RU,RV,RH,↓reduceIte,qE,reduceCtorEq,if_pos,w64,zaa]
  apply hK;clear hK K
  refine W.cond rfl (fun h1=>?_) (fun h1=>?_)
  ·try simp only[RL]at h1
   refine W.r fun K hK=>?_
   simp(disch:=omega)only[↓RU,RV,RH,↓reduceIte,qE,reduceCtorEq,if_pos]
   apply hK;clear hK K
   refine W.ret ?_
   refine XBlock.ret ?_
   refine XThen.ret ?_
   refine XThen.ret ?_
   refine XBlock.ret ?_
   refine XThen.ret ?_
   refine Br rfl ?_
   rw [he,dropc hx,z9b (by simpa using h1)]
   rfl
  try simp only[RL]at h1
  have h1z:x=0:=by simpa using h1
  refine W.skip ?_
  refine XbN ?_
  refine xn ?_
  refine W.k fun K hK=>?_
  simp(disch:=omega)only[↓RU,RV,RH,↓reduceIte,qE,reduceCtorEq,if_pos,w64,zaa]
  apply hK;clear hK K
  refine xn ?_
  refine ⟨l.length - (i+1),by omega,0,i+1,rfl,by omega,by rw [he,dropc hx,h1z,yf6],?_,rfl⟩
  simp [Env.put,Env.of]
 try simp only[RL]at h
 obtain rfl:i=l.length:=by omega
 refine W.exit ?_
 refine xe ?_
 refine xe ?_
 refine XBlock.hit ?_
 refine xn ?_
 refine W.r fun K hK=>?_
 simp(disch:=omega)only[↓RU,RV,RH,↓reduceIte,qE,reduceCtorEq,if_pos]
 apply hK;clear hK K
 refine W.ret ?_
 refine Br rfl ?_
 rw [he,List.drop_length]
 rfl
theorem z2c {x y:Shp}:PC Tryz.prog 104 [.agg (ztr x),.agg (ztr y)] (.int .i64 (z42 x y)) true:=by
 unfold ztr
 refine PC.of ⟨Tryz.func104,by kernel_rfl,rfl,by kernel_rfl⟩ zbl mixed (by show 2≤Tryz.f104.ntmps; decide) ?_
 refine W.r fun K hK=>?_
 simp(disch:=omega)only[↓RU,RV,RH,↓reduceIte,qE,reduceCtorEq,if_pos,↓RS,RG,qA,qM,qL,zfx,zaa,zfy]
 apply hK;clear hK K
 refine W.seq_draw (by kernel_rfl) fun K hK=>?_
 simp(disch:=omega)only[↓RU,RV,RH,↓reduceIte,qE,reduceCtorEq,if_pos,qN,↓RS,RG,qA,qM,qL,zab,zfx,zaa,zfy]
 refine zaf.pc (zth) rfl (.inl rfl) ?_
 simp(disch:=omega)only[↓RU,RV,RH,↓reduceIte,qE,reduceCtorEq,if_pos,qN,↓RS,RG,qA,qM,qL,zab,zfx,zaa,zfy]
 refine zaf.pc (zth) rfl (.inl rfl) ?_
 simp(disch:=omega)only[↓RU,RV,RH,↓reduceIte,qE,reduceCtorEq,if_pos,qN,↓RS,RG,qA,qM,qL,zab,zfx,zaa,zfy]
 refine zaf.pc (yja (l:=[z0e x.1 y.1,z0e x.2 y.2]) (by simp)) (za0 (zgt (k:=8) (l:=[z0e x.1 y.1,z0e x.2 y.2]) rfl rfl) rfl) (.inl rfl) ?_
 simp(disch:=omega)only[↓RU,RV,RH,↓reduceIte,qE,reduceCtorEq,if_pos,qN,↓RS,RG,qA,qM,qL,zab,zfx,zaa,zfy]
 apply hK;clear hK K
 refine W.ret ?_
 refine Br rfl ?_
 rfl
end Fw
end Go.Proofs.YtjobkanbijpfgaaGreat
namespace Go.Proofs.YtjobkanbijpfgaaGreat
open Go Go.Proofs
open Go.Shelf
def layS_ren:Go.Shelf.Ren:=⟨fun | 6=>103 | 15=>137 | 14=>136 | 28=>162 | 29=>163 | 20=>154 | 21=>155 | 22=>156 | 23=>157 | 24=>158 | 25=>159 | 26=>160 | 27=>161 | 46=>172 | 47=>173 | 48=>174 | 49=>175 | 50=>176 | 57=>190 | n=>n,fun | 22=>84 | 24=>87 | 25=>133 | 3=>3 | 39=>155 | 0=>0 | 53=>179 | 55=>181 | 4=>4 | 46=>173 | 45=>172 | 50=>27 | 5=>5 | 9=>9 | 66=>189 | 70=>193 | 76=>206 | 77=>109 | n=>n,fun | n=>n⟩
theorem layS:Go.Proofs.SlLaysF0.n6 Tryz.prog layS_ren:={
 mixed:=by kernel_rfl
 f6:=⟨Tryz.f103.name,by decide,Tryz.func103.trans (congrArg some (by kernel_rfl))⟩
 f14:=⟨Tryz.f136.name,by decide,Tryz.func136.trans (congrArg some (by kernel_rfl))⟩
 f15:=Tryz.func137.trans (congrArg some (by kernel_rfl))
 f20:=⟨Tryz.f154.name,by decide,Tryz.func154.trans (congrArg some (by kernel_rfl))⟩
 f21:=⟨Tryz.f155.name,by decide,Tryz.func155.trans (congrArg some (by kernel_rfl))⟩
 f22:=⟨Tryz.f156.name,by decide,Tryz.func156.trans (congrArg some (by kernel_rfl))⟩
 f23:=⟨Tryz.f157.name,by decide,Tryz.func157.trans (congrArg some (by kernel_rfl))⟩
 f24:=⟨Tryz.f158.name,by decide,Tryz.func158.trans (congrArg some (by kernel_rfl))⟩
 f25:=⟨Tryz.f159.name,by decide,Tryz.func159.trans (congrArg some (by kernel_rfl))⟩
 f26:=⟨Tryz.f160.name,by decide,Tryz.func160.trans (congrArg some (by kernel_rfl))⟩
 f27:=⟨Tryz.f161.name,by decide,Tryz.func161.trans (congrArg some (by kernel_rfl))⟩
 f28:=Tryz.func162.trans (congrArg some (by kernel_rfl))
 f29:=Tryz.func163.trans (congrArg some (by kernel_rfl))
 f46:=⟨Tryz.f172.name,by decide,Tryz.func172.trans (congrArg some (by kernel_rfl))⟩
 f47:=Tryz.func173.trans (congrArg some (by kernel_rfl))
 f48:=Tryz.func174.trans (congrArg some (by kernel_rfl))
 f49:=⟨Tryz.f175.name,by decide,Tryz.func175.trans (congrArg some (by kernel_rfl))⟩
 f50:=⟨Tryz.f176.name,by decide,Tryz.func176.trans (congrArg some (by kernel_rfl))⟩
 f57:=⟨Tryz.f190.name,by decide,Tryz.func190.trans (congrArg some (by kernel_rfl))⟩
 t0:=Tryz.underlying0
 a0:=Tryz.isAgg0
 z0:=Tryz.sizeOf0
 v0:=Tryz.zeroValue0
 t3:=Tryz.underlying3
 a3:=Tryz.isAgg3
 z3:=Tryz.sizeOf3
 v3:=Tryz.zeroValue3
 t4:=Tryz.underlying4
 a4:=Tryz.isAgg4
 z4:=Tryz.sizeOf4
 v4:=Tryz.zeroValue4
 t5:=Tryz.underlying5
 a5:=Tryz.isAgg5
 z5:=Tryz.sizeOf5
 v5:=Tryz.zeroValue5
 t9:=Tryz.underlying9
 a9:=Tryz.isAgg9
 z9:=Tryz.sizeOf9
 v9:=Tryz.zeroValue9
 t22:=Tryz.underlying84
 a22:=Tryz.isAgg84
 z22:=Tryz.sizeOf84
 v22:=Tryz.zeroValue84
 t25:=Tryz.underlying133
 a25:=Tryz.isAgg133
 z25:=Tryz.sizeOf133
 v25:=Tryz.zeroValue133
 t39:=Tryz.underlying155
 a39:=Tryz.isAgg155
 z39:=Tryz.sizeOf155
 v39:=Tryz.zeroValue155
 t45:=Tryz.underlying172
 a45:=Tryz.isAgg172
 z45:=Tryz.sizeOf172
 v45:=Tryz.zeroValue172
 t46:=Tryz.underlying173
 a46:=Tryz.isAgg173
 z46:=Tryz.sizeOf173
 v46:=Tryz.zeroValue173
 t50:=Tryz.underlying27
 a50:=Tryz.isAgg27
 z50:=Tryz.sizeOf27
 v50:=Tryz.zeroValue27
 t53:=Tryz.underlying179
 a53:=Tryz.isAgg179
 z53:=Tryz.sizeOf179
 v53:=Tryz.zeroValue179
 t55:=Tryz.underlying181
 a55:=Tryz.isAgg181
 z55:=Tryz.sizeOf181
 v55:=Tryz.zeroValue181
 t66:=Tryz.underlying189
 a66:=Tryz.isAgg189
 z66:=Tryz.sizeOf189
 v66:=Tryz.zeroValue189
 t70:=Tryz.underlying193
 a70:=Tryz.isAgg193
 z70:=Tryz.sizeOf193
 v70:=Tryz.zeroValue193
 t76:=Tryz.underlying206
 a76:=Tryz.isAgg206
 z76:=Tryz.sizeOf206
 v76:=Tryz.zeroValue206
 t77:=Tryz.underlying109
 a77:=Tryz.isAgg109
 z77:=Tryz.sizeOf109
 v77:=Tryz.zeroValue109 }
end Go.Proofs.YtjobkanbijpfgaaGreat
namespace Go.Proofs.YtjobkanbijpfgaaGreat
namespace Fw
open Go
open Nat renaming reduceEqDiff → qE, reduceLeDiff → qL, reduceAdd → qA, reduceMul → qM, le_refl → qR
open List renaming append_nil → qN, mapM_append → qP, mapM_cons → qC, mapM_map → qU, range_succ → qS, take_of_length_le → qT
open Bool renaming and_eq_true → qB, false_eq_true → qF
open Option renaming map_some → qO, map_eq_some_iff → qI
open Int renaming reduceToNat → qZ
section
open Go Go.RowKit
theorem z2l {x y:Shp}:decide (z42 x y<0)=decide (x.1<y.1∨(x.1=y.1∧x.2<y.2)):=by
 apply decide_eq_decide.2
 unfold z42
 by_cases h1:x.1<y.1
 ·rw [z0e,if_pos h1,z9b (by decide)]; simp [h1]
 by_cases h2:y.1<x.1
 ·rw [z0e,if_neg h1,if_pos h2,z9b (by decide)]; omega
 have e:x.1=y.1:=by omega
 rw [z0e,if_neg h1,if_neg h2,yf6]
 by_cases h3:x.2<y.2
 ·rw [z0e,if_pos h3,z9b (by decide)]; omega
 by_cases h4:y.2<x.2
 ·rw [z0e,if_neg h3,if_pos h4,z9b (by decide)]; omega
 rw [z0e,if_neg h3,if_neg h4,yf6]; simp [orI]; omega
theorem z7d:Sort.SWO (ltOf z42):=by
 refine ⟨fun x=>?_,fun x y z h1 h2=>?_,fun x y z h1 h2=>?_⟩ <;> simp only[ltOf,z2l,decide_eq_true_eq,decide_eq_false_iff_not] at * <;> omega
def z0h (x:Shp):List Value:=[.int .i64 x.1,.int .i64 x.2]
theorem zwk:∀ (l:List Shp) (j:Nat),j<l.length*2→∃ n:Int,(scs l)[j]?=some (.int .i64 n)∧(z0h l.toArray[j / 2]!)[j % 2]! = .int .i64 n
 | [],j,h=>by simp at h
 | x::l,0,_=>⟨x.1,rfl,rfl⟩
 | x::l,1,_=>⟨x.2,rfl,rfl⟩
 | x::l,j+2,h=>by
  obtain ⟨n,h1,h2⟩:=zwk l j (by simp at h; omega)
  refine ⟨n,by rw [zji]; simpa [ztr] using h1,?_⟩
  rw [show (j+2) / 2=j / 2+1 by omega,show (j+2) % 2=j % 2 by omega]
  simpa using h2
theorem VI.fn_none {H:Array Obj} {F:Nat→Prop} {G:GSt} {f:FuncId} {v:Value} (h:VR H F G (.fn f []) v):v = .func (.func f) #[] #[]:=by
 cases h with
 | imm _ _ h=>cases h with | fn _ _ vs e _=>rw [show vs = #[] from Array.eq_empty_of_size_eq_zero (by simpa using e.symm)]
 | fn _ _ vs e _=>rw [show vs = #[] from Array.eq_empty_of_size_eq_zero (by simpa using e.symm)]
theorem ybv {w w':World} (h:Blw w w'):∃ q os',w'=Sort.grow (w.drewN q) os':=by
 obtain ⟨⟨h1,h2,h3,h4,h5⟩,h6⟩:=h
 refine ⟨w'.drawn - w.drawn,w'.heap.extract w.heap.size w'.heap.size,?_⟩
 have hh:w'.heap=w.heap++w'.heap.extract w.heap.size w'.heap.size:=by
  apply Array.ext_getElem?
  intro k
  rw [Array.getElem?_append]
  by_cases hk:k<w.heap.size
  ·rw [if_pos hk,h5 k hk]
  rw [if_neg hk,Array.getElem?_extract]
  by_cases hk2:k<w'.heap.size
  ·rw [if_pos (by omega)]; congr 1; omega
  rw [if_neg (by omega),Array.getElem?_eq_none (by omega)]
 have hd:w.drawn+(w'.drawn - w.drawn)=w'.drawn:=by omega
 have e1:w'={ w with heap:=w'.heap,drawn:=w'.drawn }:=by
  cases w'; cases w
  simp only at h1 h2 h3
  subst h1; subst h2; subst h3
  rfl
 rw [Sort.grow,World.drewN,hd]
 exact e1.trans (by rw [← hh])
set_option maxHeartbeats 1000000 in
theorem zz0 {F R:List Ob} {ver t:Nat} {l:List Shp} (hl:l.length<2147483648) :
  Ev Tryz.prog 103 [.loc F.length ver 0 l.length,.fn 104 []] ⟨F ++ .arr ver 87 2 (scs l)::R,t⟩
   fun v S=>v = .tup []∧∃ z:List Shp,z.Perm l∧z.Pairwise LexLe∧S=⟨F ++ .arr ver 87 2 (scs z)::R,t⟩:=by
 refine ⟨Fn.ent ⟨Tryz.func103,by kernel_rfl,rfl,by kernel_rfl⟩,fun F' G w cargs hE hi hlen hv=>?_⟩
 obtain ⟨c,d,rfl⟩:∃ c d,cargs = #[c,d]:=by
  match cargs,hlen with
  | ⟨[c,d]⟩,_=>exact ⟨c,d,rfl⟩
 have hobs:G.er.obs=F ++ .arr ver 87 2 (scs l)::R:=by rw [hE]
 have hSo:G.er.obs[F.length]?=some (.arr ver 87 2 (scs l)):=by rw [hobs]; simp
 obtain ⟨et,sz,lo,cap,hG,rfl,hver,hn,hcm,hroom⟩:=(hv 0 _ c rfl rfl).loc_at hi (cells:=scs l) (by simp [Store.cellsOf,hSo])
 obtain ⟨lo2,hG2⟩:=zgm hSo
 rw [hG]at hG2
 cases hG2
 obtain rfl:=VI.fn_none (hv 1 _ d rfl rfl)
 obtain ⟨cs,⟨fz,hb,hz⟩,hcs,hle,hcell⟩:=hi.arr _ _ _ _ _ lo hG
 rw [zcw]at hle
 have hblk:lo.blk<w.heap.size:=hi.blk_lt hG
 have hH:Sort.HoldsK z0h 2 w lo.blk 0 l.toArray:=by
  intro j hj
  rw [Sort.size_flatK,List.size_toArray]at hj
  obtain ⟨n,h1,h2⟩:=zwk l j hj
  rw [Sort.get_flatK _ _ _ _ (by simpa using hj),h2]
  obtain ⟨-,u,k1,k2⟩:=hcell j _ h1
  rw [k2.int]at k1
  refine ⟨by simp [World.cell?,hb,k1],?_⟩
  obtain ⟨a,b⟩:=fz
  simp only[World.frozen?,hb,Bool.and_eq_false_iff,decide_eq_false_iff_not,Nat.zero_add]
  rcases hz with h | h <;> simp only at h <;> omega
 have hcmp:CmpLays Tryz.prog 104 #[] z0h 2 z42 lo.blk 0 l.toArray.size w:=by
  intro m os dk _ x y
  generalize sortWorldK z0h 2 w lo.blk 0 m dk os=W
  refine ((z2c (x:=x) (y:=y)).run (fun _=>False) W #[.agg (z0h x).toArray,.agg (z0h y).toArray] (fun _ h=>h.elim) rfl ?_).mono ?_
  ·have ag:∀ x:Shp,VI W.heap (fun _=>False) (.agg (ztr x)) (.agg (z0h x).toArray):=fun x=>by
    refine .agg _ _ rfl ?_
    rintro (_ | _ | i) p v h1 h2
    ·simp [ztr]at h1; simp [z0h]at h2; subst h1; subst h2; exact .int _ _
    ·simp [ztr]at h1; simp [z0h]at h2; subst h1; subst h2; exact .int _ _
    simp [ztr]at h1
   rintro (_ | _ | i) p v h1 h2
   ·simp at h1 h2; subst h1; subst h2; exact ag x
   ·simp at h1 h2; subst h1; subst h2; exact ag y
   simp at h1
  rintro e w' ⟨cv,rfl,hB,hr⟩
  cases hr
  exact ⟨rfl,ybv hB⟩
 refine (AnyQ.slices_SortFunc layS 2 Tryz.isAgg87 Tryz.sizeOf87 z0h (fun _=>rfl) (fun x v hv=>by simp [z0h]at hv; rcases hv with rfl | rfl <;> rfl) z42 z7d 104 #[] lo.blk 0 cap l.toArray w (fun _ _=>(z2c (x:=(0,0)) (y:=(0,0))).ent _ _) hcmp hH hblk (by simp; omega)).mono ?_
 rintro e w' ⟨rfl,d',n,os,⟨hds,-,hdp⟩,hsorted,rfl⟩
 have hds:d'.size=l.length:=hds
 obtain ⟨z,hz'⟩:∃ z:List Shp,d'=z.toArray:=⟨d'.toList,rfl⟩
 subst hz'
 have hds:z.length=l.length:=hds
 have hp:z.Perm l:=by
  have e1:∀ x:List Shp,x.length=l.length→(x.toArray.extract 0 l.toArray.size).toList=x:=fun x hx=>by simp [← hx]
  rw [e1 z hds,e1 l rfl]at hdp
  exact hdp
 have hs:z.Pairwise LexLe:=by
  rw [List.pairwise_iff_getElem]
  intro i j hi hj hij
  have h:=hsorted i j (Nat.zero_le _) hij (by simp; omega)
  rw [getElem!_pos _ j (by simpa using hj),getElem!_pos _ i (by simpa using hi)]at h
  simp only[ltOf,z2l,decide_eq_false_iff_not,List.getElem_toArray]at h
  unfold LexLe; omega
 have hw1:(Sort.putRowK z0h 2 (Sort.ahead w n) lo.blk 0 z.toArray).heap[lo.blk]?=some (.cells (Sort.putCells id 0 (Sort.flatK z0h 2 z.toArray) cs) 87 fz):=by
  simp [Sort.putRowK,Sort.putRow,Sort.mapBlock,Sort.ahead,Array.getElem?_modify,hb,Sort.onCells]
 have hsz:(Sort.putRowK z0h 2 (Sort.ahead w n) lo.blk 0 z.toArray).heap.size=w.heap.size:=by simp [Sort.putRowK,Sort.putRow,Sort.mapBlock,Sort.ahead]
 obtain ⟨i1,n1⟩:=zkf hi hG (.arr ver 87 2 (scs z)) lo G.tick (Sort.putRowK z0h 2 (Sort.ahead w n) lo.blk 0 z.toArray) rfl rfl rfl
  (show w.drawn≤w.drawn+n from Nat.le_add_right _ _) (by omega) (.inl rfl) (fun b _ hb'=>by simp [Sort.putRowK,Sort.putRow,Sort.mapBlock,Sort.ahead,Array.getElem?_modify,Ne.symm hb']) (qR _) (show ver<G.tick from hver) (.inl ⟨rfl,by simp [Ob.like],rfl⟩) (by
   refine ⟨_,⟨fz,hw1,hz.of (by simp [Sort.putCells])⟩,by simpa [Sort.putCells] using hcs,by rw [zcw]; omega,fun i p hp=>?_⟩
   have hi2:i<z.length*2:=by rw [← zcw]; exact (List.getElem?_eq_some_iff.1 hp).1
   obtain ⟨m,h1,h2⟩:=zwk z i hi2
   rw [h1]at hp
   cases hp
   refine ⟨rfl,.int .i64 m,?_,.imm _ _ (.int _ _)⟩
   simp only[Sort.putCells,Array.getElem?_mapIdx]
   rw [Array.getElem?_eq_getElem (show i<cs.size by omega),qO,if_pos ⟨Nat.zero_le _,by simp [Sort.size_flatK]; omega⟩]
   simp only[Nat.sub_zero,id]
   rw [Sort.get_flatK _ _ _ _ (by simpa using hi2),h2])
 obtain ⟨i2,n2⟩:=zn8 i1 (w':=sortWorldK z0h 2 w lo.blk 0 n z.toArray os) ⟨⟨rfl,rfl,rfl,by simp [sortWorldK,Sort.grow],fun k hk=>by simp [sortWorldK,Sort.grow,Array.getElem?_append,hk]⟩,qR _⟩
 refine ⟨.tup [],_,_,_,rfl,⟨rfl,z,hp,hs,?_⟩,i2,n1.trans n2,.tup [] #[] rfl (by simp)⟩
 have:∀ ob,(⟨G.obs.set F.length (ob,lo),G.tick⟩:GSt).er=⟨G.er.obs.set F.length ob,G.er.tick⟩:=by intro ob; simp [GSt.er,List.map_set]
 rw [this,hE]
 simp
end
end Fw
end Go.Proofs.YtjobkanbijpfgaaGreat
