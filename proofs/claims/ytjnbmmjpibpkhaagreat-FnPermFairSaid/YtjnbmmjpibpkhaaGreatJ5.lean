/- Permutations of plain plans are fair, and loose just for cuttable ones: the law FnPermFair answers true for all codes. No condition. -/
import Derived.Test.YtjnbmmjpibpkhaaGreatJ4
import Derived.Test.YtjnbmmjpibpkhaaGreatJ3
import Derived.Test.YtjnbmmjpibpkhaaGreatJ2
set_option linter.all false
namespace Go.Proofs.YtjnbmmjpibpkhaaGreat
namespace Fw
open Go
open Nat renaming reduceEqDiff → qE, reduceLeDiff → qL, reduceAdd → qA, reduceMul → qM, le_refl → qR
open List renaming append_nil → qN, mapM_append → qP, mapM_cons → qC, mapM_map → qU, range_succ → qS, take_of_length_le → qT
open Bool renaming and_eq_true → qB, false_eq_true → qF
open Option renaming map_some → qO, map_eq_some_iff → qI
open Int renaming reduceToNat → qZ
theorem yb5 {p:List Txt} (h:Sm p) {i:Nat} {r:Txt} (hr:r.length≤1048576):Sm (p.set i r):=by
 refine ⟨by rw [List.length_set]; exact h.1,fun x hx=>?_⟩
 rcases List.mem_or_eq_of_mem_set hx with k | rfl
 ·exact h.2 x k
 exact hr
theorem yfo {p:List Txt} {x:Txt} (h:0<p.length):PV.str x::List.drop 1 (p.map PV.str)=(p.set 0 x).map .str:=by cases p with | nil=>simp at h | cons a p=>simp
theorem z62 {k:Nat}:(1:Int)+(k:Int)=((1+k:Nat):Int):=by omega
theorem zsn {code:Txt} {q vr t:Nat} (hc:code.length≤1048576) (hq:q≤700000) {rows cols:Nat} (h1:1≤rows) (h2:rows≤6) (w1:1≤cols) (w2:cols≤6):Ev Tryz.prog 65 [.ref 0 vr 0,.int .i64 rows,.int .i64 cols] ⟨[.arr vr 96 2 [eBy code,.int .i64 (q:Int)]],t⟩ fun v S=>∃ (p2:List Txt) (q2 t2:Nat),v=zav p2∧Sm p2∧p2.length≤6∧q2≤q+200∧S=⟨[.arr vr 96 2 [eBy code,.int .i64 (q2:Int)]],t2⟩:=by
 refine Ev.of ⟨Tryz.func65,by kernel_rfl,rfl,by kernel_rfl⟩ zap mixed (by show 3≤Tryz.f65.ntmps; decide) ?_
 refine W.r fun K hK=>?_
 simp(disch:=omega)only[↓RU,RV,RH,↓reduceIte,qE,reduceCtorEq,if_pos,↓RS,RG,qA,qM,qL]
 apply hK;clear hK K
 refine W.r fun K hK=>?_
 simp(disch:=omega)only[↓RU,RV,RH,↓reduceIte,qE,reduceCtorEq,if_pos,qN,w64,↓RS,RG,qA,qM,qL,zaa]
 refine zad.ev (zfx hc (by omega) (rows:Int) (by omega) (by omega)) ?_
 rintro _ _ ⟨k1,rfl,-,hk1,rfl⟩
 have hk1b:=hk1 (by omega)
 simp(disch:=omega)only[↓RU,RV,RH,↓reduceIte,qE,reduceCtorEq,if_pos,qN,w64,↓RS,RG,qA,qM,qL,zaa,z62]
 apply hK;clear hK K
 refine W.r fun K hK=>?_
 simp(disch:=omega)only[↓RU,RV,RH,↓reduceIte,qE,reduceCtorEq,if_pos,qN,w64,↓RS,RG,qA,qM,qL,zaa]
 refine zad.ev (zfx hc (by omega) (cols:Int) (by omega) (by omega)) ?_
 rintro _ _ ⟨k2,rfl,-,hk2,rfl⟩
 have hk2b:=hk2 (by omega)
 simp(disch:=omega)only[↓RU,RV,RH,↓reduceIte,qE,reduceCtorEq,if_pos,qN,w64,↓RS,RG,qA,qM,qL,zaa,z62]
 refine zad.ev (z3p (q:=q+1+1) hc (by omega) (nh:=1+k1) (nw:=1+k2) (by omega) (by omega) (by omega) (by omega)) ?_
 rintro _ _ ⟨p2,q2,t2,rfl,hp2,hl2,hq2,rfl⟩
 simp(disch:=omega)only[↓RU,RV,RH,↓reduceIte,qE,reduceCtorEq,if_pos,qN,w64,↓RS,RG,qA,qM,qL,zaa]
 apply hK;clear hK K
 obtain ⟨ps1,ps2,ps3⟩:=znc hp2
 have hsm:=zzj hp2
 obtain ⟨nh,hnh⟩:∃ nh:Nat,1+k1=nh:=⟨_,rfl⟩
 simp only[hnh]at hl2 ⊢
 refine W.joinZ [8] (fun vs S=>∃ (p3:List Txt) (q3 tk:Nat),Sm p3∧p3.length≤6∧q3≤q+200∧vs=[zav p3]∧S=⟨[.arr vr 96 2 [eBy code,.int .i64 (q3:Int)]],tk⟩) ?_ ?_
 ·
  refine W.r fun K hK=>?_
  simp(disch:=omega)only[↓RU,RV,RH,↓reduceIte,qE,reduceCtorEq,if_pos,qN,↓RS,RG,qA,qM,qL]
  refine zad.ev (zfx hc (by omega) 50 (by omega) (by omega)) ?_
  rintro _ _ ⟨k3,rfl,-,hk3,rfl⟩
  simp(disch:=omega)only[↓RU,RV,RH,↓reduceIte,qE,reduceCtorEq,if_pos,qN,↓RS,RG,qA,qM,qL]
  apply hK;clear hK K
  refine W.block ?_
  refine W.r fun K hK=>?_
  simp(disch:=omega)only[↓RU,RV,RH,↓reduceIte,qE,reduceCtorEq,if_pos,w64,↓RS,RG,qA,qM,qL,zaa]
  apply hK;clear hK K
  refine W.cond rfl (fun h0=>?_) (fun h0=>?_)
  ·try simp only[RL]at h0
   obtain ⟨row,hrow,hrm⟩:=zag (show nh - 1<p2.length by omega)
   have hr6:=(ps3 row hrm).2
   refine W.r fun K hK=>?_
   simp(disch:=omega)only[↓RU,RV,RH,↓reduceIte,qE,reduceCtorEq,if_pos,↓RS,RG,qA,qM,qL,ty5,zac]
   apply hK;clear hK K
   refine W.k fun K hK=>?_
   simp(disch:=omega)only[↓RU,RV,RH,↓reduceIte,qE,reduceCtorEq,if_pos,w64,↓RS,RG,qA,qM,qL,ty5,zaa,zac,zbl,hrow,zvh,zb5,zra,zi9,List.length_cons,List.length_nil]
   apply hK;clear hK K
   refine XbN ?_
   refine xn ?_
   have hPs:Sm (p2.set (nh - 1) (row++[97])):=yb5 hsm (by simp; omega)
   have hPl:(p2.set (nh - 1) (row++[97])).length=p2.length:=by simp
   generalize p2.set (nh - 1) (row++[97])=P at hPs hPl ⊢
   have htk:(P.map PV.str).take p2.length=P.map .str:=qT (by simp [hPl])
   refine ⟨1,[zav P],⟨[.arr vr 96 2 [eBy code,.int .i64 ((q2+1:Nat):Int)]],t2+1+1⟩,?_,?_,P,q2+1,t2+1+1,hPs,by omega,by omega,rfl,rfl⟩
   ·simp [-qU,Store.frz,zcj,zcy,za0,zbu,zby,zbt,zcs,zba,zbd,zbb,zaz,za1,zbz,zbc,zbv,za9,Env.put,Env.of,zaf,zbx,qP,qC,zdg,zef,zdh,htk,hPl]
   simp [-qU,Store.frz,zcj,zcy,za0,zbu,zby,zbt,zcs,zba,zbd,zbb,zaz,za1,zbz,zbc,zbv,za9,Env.put,Env.of,zaf,zbx,qP,qC,zdg,zef,zdh]
  try simp only[RL]at h0
  refine W.r fun K hK=>?_
  simp(disch:=omega)only[↓RU,RV,RH,↓reduceIte,qE,reduceCtorEq,if_pos,w64,↓RS,RG,qA,qM,qL,zaa]
  apply hK;clear hK K
  refine W.cond rfl (fun h1=>?_) (fun h1=>?_)
  ·try simp only[RL]at h1
   obtain ⟨row,hrow,hrm⟩:=zag (show 0<p2.length by omega)
   have hr6:=ps3 row hrm
   have hdl:(row.drop 1).length≤6:=by rw [List.length_drop]; omega
   refine W.r fun K hK=>?_
   simp(disch:=omega)only[↓RU,RV,RH,↓reduceIte,qE,reduceCtorEq,if_pos,↓RS,RG,qA,qM,qL,ty5,zac]
   apply hK;clear hK K
   refine W.k fun K hK=>?_
   simp(disch:=omega)only[↓RU,RV,RH,↓reduceIte,qE,reduceCtorEq,if_pos,Option.map_none,w64,↓RS,RG,qA,qM,qL,ty5,zac,hrow,zvh,zb5,zra,zi9,List.length_cons,List.length_nil,Int.toNat_zero,qZ,List.take_length,Nat.zero_mul,Nat.zero_add]
   apply hK;clear hK K
   rw [yfo (show 0<p2.length by omega)]
   refine XbN ?_
   refine xn ?_
   have hPs:Sm (p2.set 0 (122::row.drop 1)):=yb5 hsm (by simp; omega)
   have hPl:(p2.set 0 (122::row.drop 1)).length=p2.length:=by simp
   generalize p2.set 0 (122::row.drop 1)=P at hPs hPl ⊢
   have htk:(P.map PV.str).take p2.length=P.map .str:=qT (by simp [hPl])
   refine ⟨1,[zav P],⟨[.arr vr 96 2 [eBy code,.int .i64 ((q2+1:Nat):Int)]],t2+1+1⟩,?_,?_,P,q2+1,t2+1+1,hPs,by omega,by omega,rfl,rfl⟩
   ·simp [-qU,Store.frz,zcj,zcy,za0,zbu,zby,zbt,zcs,zba,zbd,zbb,zaz,za1,zbz,zbc,zbv,za9,Env.put,Env.of,zaf,zbx,qP,qC,zdg,zef,zdh,htk,hPl]
   simp [-qU,Store.frz,zcj,zcy,za0,zbu,zby,zbt,zcs,zba,zbd,zbb,zaz,za1,zbz,zbc,zbv,za9,Env.put,Env.of,zaf,zbx,qP,qC,zdg,zef,zdh]
  try simp only[RL]at h1
  refine W.skip ?_
  refine XbN ?_
  refine xn ?_
  have hPs:=hsm
  have hPl:p2.length=p2.length:=rfl
  have htk:True:=trivial
  refine ⟨1,[zav p2],⟨[.arr vr 96 2 [eBy code,.int .i64 ((q2+1:Nat):Int)]],t2⟩,?_,?_,p2,q2+1,t2,hPs,by omega,by omega,rfl,rfl⟩
  ·simp [-qU,Store.frz,zcj,zcy,za0,zbu,zby,zbt,zcs,zba,zbd,zbb,zaz,za1,zbz,zbc,zbv,za9,Env.put,Env.of,zaf,zbx,qP,qC,zdg,zef,zdh,htk,hPl]
  simp [-qU,Store.frz,zcj,zcy,za0,zbu,zby,zbt,zcs,zba,zbd,zbb,zaz,za1,zbz,zbc,zbv,za9,Env.put,Env.of,zaf,zbx,qP,qC,zdg,zef,zdh]
 rintro vs S - ⟨p3,q3,tk,hs3,hl3,hq3,rfl,rfl⟩
 refine W.r fun K hK=>?_
 simp(disch:=omega)only[↓RU,RV,RH,↓reduceIte,qE,reduceCtorEq,if_pos,↓RS,RG,qA,qM,qL]
 apply hK;clear hK K
 refine W.ret ?_
 refine Br rfl ?_
 exact ⟨_,p3,q3,tk,rfl,hs3,hl3,hq3,zak⟩
theorem zzc {code:Txt} {q vr t:Nat} (hc:code.length≤1048576) (hq:q≤600000) {rows cols:Nat} (h1:1≤rows) (h2:rows≤6) (w1:1≤cols) (w2:cols≤6):Ev Tryz.prog 33 [.ref 0 vr 0,.int .i64 rows,.int .i64 cols] ⟨[.arr vr 96 2 [eBy code,.int .i64 (q:Int)]],t⟩ fun v S=>∃ (p2:List Txt) (q2 t2:Nat),v=zav p2∧Sm p2∧p2.length≤6∧q2≤q+1000∧S=⟨[.arr vr 96 2 [eBy code,.int .i64 (q2:Int)]],t2⟩:=by
 refine Ev.of ⟨Tryz.func33,by kernel_rfl,rfl,by kernel_rfl⟩ zap mixed (by show 3≤Tryz.f33.ntmps; decide) ?_
 refine W.r fun K hK=>?_
 simp(disch:=omega)only[↓RU,RV,RH,↓reduceIte,qE,reduceCtorEq,if_pos,↓RS,RG,qA,qM,qL]
 apply hK;clear hK K
 refine W.r fun K hK=>?_
 simp(disch:=omega)only[↓RU,RV,RH,↓reduceIte,qE,reduceCtorEq,if_pos,qN,↓RS,RG,qA,qM,qL]
 refine zad.ev (zsn (q:=q) hc (by omega) h1 h2 w1 w2) ?_
 rintro _ _ ⟨p3,q3,t3,rfl,hs3,hl3,hq3,rfl⟩
 simp(disch:=omega)only[↓RU,RV,RH,↓reduceIte,qE,reduceCtorEq,if_pos,qN,↓RS,RG,qA,qM,qL]
 apply hK;clear hK K
 refine W.seq ?_
 refine W.r fun K hK=>?_
 simp(disch:=omega)only[↓RU,RV,RH,↓reduceIte,qE,reduceCtorEq,if_pos,↓RS,RG,qA,qM,qL]
 apply hK;clear hK K
 refine W.block ?_
 refine W.loop [0,1,2,7,8] (fun n vs S=>∃ (i:Nat) (p2:List Txt) (q2 tk:Nat),n=3 - i∧i≤3∧Sm p2∧p2.length≤6∧q2≤q+200+200*i∧vs=[.ref 0 vr 0,.int .i64 rows,.int .i64 cols,zav p2,.int .i64 i]∧S=⟨[.arr vr 96 2 [eBy code,.int .i64 (q2:Int)]],tk⟩) 3 ?_ ?_
 ·refine ⟨1,0,p3,q3,t3,rfl,by omega,hs3,hl3,by omega,?_,rfl⟩
  simp [Env.put,Env.of,zaf]
 rintro n vs S - ⟨i,p2,q2,tk,rfl,h_i,hs2,hl2,hq2,rfl,rfl⟩
 refine W.seq ?_
 refine W.r fun K hK=>?_
 by_cases hi3:i<3
 ·skip
  have hd:decide ((i:Int)<3)=true:=decide_eq_true (by omega)
  simp(disch:=omega)only[↓RU,RV,RH,↓reduceIte,qE,reduceCtorEq,if_pos,w64,qN,↓RS,RG,qA,qM,qL,zaa,hd]
  refine zad.pc (zmi hs2) rfl (.inl rfl) ?_
  simp(disch:=omega)only[↓RU,RV,RH,↓reduceIte,qE,reduceCtorEq,if_pos,w64,qN,↓RS,RG,qA,qM,qL,zaa,hd]
  apply hK;clear hK K
  refine W.cond rfl (fun h=>?_) (fun h=>?_)
  ·try simp only[RL]at h
   refine W.skip ?_
   refine xn ?_
   refine W.seq ?_
   refine W.block ?_
   refine W.k fun K hK=>?_
   simp(disch:=omega)only[↓RU,RV,RH,↓reduceIte,qE,reduceCtorEq,if_pos,qN,↓RS,RG,qA,qM,qL]
   refine zad.ev (zsn (q:=q2) hc (by omega) h1 h2 w1 w2) ?_
   rintro _ _ ⟨p3,q3,t3,rfl,hs3,hl3,hq3,rfl⟩
   simp(disch:=omega)only[↓RU,RV,RH,↓reduceIte,qE,reduceCtorEq,if_pos,qN,↓RS,RG,qA,qM,qL]
   apply hK;clear hK K
   refine XbN ?_
   refine xn ?_
   refine W.k fun K hK=>?_
   simp(disch:=omega)only[↓RU,RV,RH,↓reduceIte,qE,reduceCtorEq,if_pos,w64,↓RS,RG,qA,qM,qL,zaa]
   apply hK;clear hK K
   refine xn ?_
   refine ⟨3 - (i+1),by omega,1,i+1,p3,q3,t3,rfl,by omega,hs3,hl3,by omega,?_,rfl⟩
   simp [Env.put,Env.of]
  try simp only[RL]at h
  refine W.exit ?_
  refine xe ?_
  refine xe ?_
  refine XBlock.hit ?_
  refine xn ?_
  refine W.r fun K hK=>?_
  simp(disch:=omega)only[↓RU,RV,RH,↓reduceIte,qE,reduceCtorEq,if_pos,↓RS,RG,qA,qM,qL]
  apply hK;clear hK K
  refine W.ret ?_
  refine Br rfl ?_
  exact ⟨_,p2,q2,tk,rfl,hs2,hl2,by omega,zak⟩
 skip
 have hd:decide ((i:Int)<3)=false:=decide_eq_false (by omega)
 simp(disch:=omega)only[↓RU,RV,RH,↓reduceIte,qE,reduceCtorEq,if_pos,w64,qN,↓RS,RG,qA,qM,qL,zaa,hd]
 apply hK;clear hK K
 refine W.cond rfl (fun h=>?_) (fun h=>?_)
 ·try simp only[RL]at h
  exact absurd h (by simp)
 try simp only[RL]at h
 refine W.exit ?_
 refine xe ?_
 refine xe ?_
 refine XBlock.hit ?_
 refine xn ?_
 refine W.r fun K hK=>?_
 simp(disch:=omega)only[↓RU,RV,RH,↓reduceIte,qE,reduceCtorEq,if_pos,↓RS,RG,qA,qM,qL]
 apply hK;clear hK K
 refine W.ret ?_
 refine Br rfl ?_
 exact ⟨_,p2,q2,tk,rfl,hs2,hl2,by omega,zak⟩
theorem tk_i {l:List Int} {q:IntKind} {i:Nat} (h:l.length=i):(l.map (PV.int q)).take i=l.map (.int q):=qT (by simp [h])
theorem zzb {code:Txt} (hc:code.length≤1048576):Ev Tryz.prog 37 [eBy code] ⟨[],0⟩ fun v S=>∃ (p:List Txt) (t:Nat),Sm p∧v=zav p∧S=⟨[],t⟩:=by
 refine Ev.of ⟨Tryz.func37,by kernel_rfl,rfl,by kernel_rfl⟩ zap mixed (by show 1≤Tryz.f37.ntmps; decide) ?_
 refine W.r fun K hK=>?_
 simp(disch:=omega)only[↓RU,RV,RH,↓reduceIte,qE,reduceCtorEq,if_pos,↓RS,RG,qA,qM,qL]
 apply hK;clear hK K
 refine W.r fun K hK=>?_
 simp(disch:=omega)only[↓RU,RV,RH,↓reduceIte,qE,reduceCtorEq,if_pos,qN,↓RS,RG,qA,qM,qL,rdO]
 refine zad.pn (z6c hc) rfl (.inr rfl) ?_
 simp(disch:=omega)only[↓RU,RV,RH,↓reduceIte,qE,reduceCtorEq,if_pos,qN,↓RS,RG,qA,qM,qL,rdO,rdO,RN]
 have hc2:(code.take 2000).length≤1048576:=by rw [List.length_take]; omega
 generalize code.take 2000=code2 at hc2 ⊢
 refine zad.ev (zzc (q:=0) (code:=code2) hc2 (by omega) (rows:=5) (cols:=5) (by omega) (by omega) (by omega) (by omega)) ?_
 rintro _ _ ⟨p,q,t,rfl,hs,hl,hq,rfl⟩
 simp(disch:=omega)only[↓RU,RV,RH,↓reduceIte,qE,reduceCtorEq,if_pos,qN,↓RS,RG,qA,qM,qL,rdO]
 apply hK;clear hK K
 refine W.ret ?_
 refine Br rfl ?_
 exact ⟨0,p,_,hs,rfl,rfl⟩
theorem zok {code:Txt} (hc:code.length≤1048576):Ev Tryz.prog 13 [eBy code] ⟨[],0⟩ fun v S=>∃ (p:List Txt) (t:Nat),Sm p∧v=zav p∧S=⟨[],t⟩:=by
 refine Ev.of ⟨Tryz.func13,by kernel_rfl,rfl,by kernel_rfl⟩ zap mixed (by show 1≤Tryz.f13.ntmps; decide) ?_
 refine W.r fun K hK=>?_
 simp(disch:=omega)only[↓RU,RV,RH,↓reduceIte,qE,reduceCtorEq,if_pos,↓RS,RG,qA,qM,qL]
 apply hK;clear hK K
 refine W.r fun K hK=>?_
 simp(disch:=omega)only[↓RU,RV,RH,↓reduceIte,qE,reduceCtorEq,if_pos,qN,↓RS,RG,qA,qM,qL]
 refine zad.ev (zzb hc) ?_
 rintro _ _ ⟨p,t,hs,rfl,rfl⟩
 simp(disch:=omega)only[↓RU,RV,RH,↓reduceIte,qE,reduceCtorEq,if_pos,qN,↓RS,RG,qA,qM,qL]
 apply hK;clear hK K
 refine W.ret ?_
 refine Br rfl ?_
 exact ⟨0,p,_,hs,rfl,rfl⟩

section
section
variable {M:List (List Bool)} {ws:List Int} {n:Nat} {rk:Nat→Nat}
theorem yev (b:Nat):0≤beg M ws n b:=z51 n
theorem yeu {a b:Nat} (ha:a<n) (h:zc2 M a b=true):HB M ws n a≤beg M ws n b:=ybi ha h
end
end

theorem zjj {S:Store} {a b:Bool}:pEq tab S 4 (.bool a) (.bool b)=some (a == b):=rfl

theorem zk5 {p q:List Int} (hp:p.length<2147483648) (hq:q.length<2147483648):PC Tryz.prog 16 [eInts p,eInts q] (.bool (decide (p=q))) true:=by
 refine PC.of ⟨Tryz.func16,by kernel_rfl,rfl,by kernel_rfl⟩ zap mixed (by show 2≤Tryz.f16.ntmps; decide) ?_
 refine W.r fun K hK=>?_
 simp(disch:=omega)only[↓RU,RV,RH,↓reduceIte,qE,reduceCtorEq,if_pos]
 apply hK;clear hK K
 refine W.seq ?_
 refine W.r fun K hK=>?_
 simp(disch:=omega)only[↓RU,RV,RH,↓reduceIte,qE,reduceCtorEq,if_pos,w64,zab,zaa]
 apply hK;clear hK K
 refine W.cond rfl (fun h=>?_) (fun h=>?_)
 ·try simp only[RL]at h
  refine W.r fun K hK=>?_
  simp(disch:=omega)only[↓RU,RV,RH,↓reduceIte,qE,reduceCtorEq,if_pos]
  apply hK;clear hK K
  refine W.ret ?_
  refine XThen.ret ?_
  refine Br rfl ?_
  rw [show decide (p=q)=false by simp; rintro rfl; exact h rfl]
  rfl
 try simp only[RL]at h
 refine W.skip ?_
 refine xn ?_
 refine W.seq ?_
 refine W.r fun K hK=>?_
 simp(disch:=omega)only[↓RU,RV,RH,↓reduceIte,qE,reduceCtorEq,if_pos]
 apply hK;clear hK K
 refine W.block ?_
 refine W.loop [0,1,5] (fun n vs S=>∃ i:Nat,n=p.length - i∧i≤p.length∧(p.take i=q.take i)∧vs=[eInts p,eInts q,.int .i64 i]∧S=⟨[],0⟩) (p.length) ?_ ?_
 ·refine ⟨0,0,rfl,Nat.zero_le _,rfl,?_,rfl⟩
  simp [Env.put,Env.of,zaf]
 rintro n vs S - ⟨i,rfl,h_i,htk,rfl,rfl⟩
 refine W.seq ?_
 refine W.r fun K hK=>?_
 simp(disch:=omega)only[↓RU,RV,RH,↓reduceIte,qE,reduceCtorEq,if_pos,w64,zab,zaa]
 apply hK;clear hK K
 refine W.cond rfl (fun h1=>?_) (fun h1=>?_)
 ·try simp only[RL]at h1
  obtain ⟨x,hx,-⟩:=zag (show i<p.length by omega)
  obtain ⟨y,hy,-⟩:=zag (show i<q.length by omega)
  refine W.skip ?_
  refine xn ?_
  refine W.seq ?_
  refine W.block ?_
  refine W.seq_draw (by kernel_rfl) fun K hK=>?_
  simp(disch:=omega)only[↓RU,RV,RH,↓reduceIte,qE,reduceCtorEq,if_pos,w64,zab,zaa,hx,hy]
  apply hK;clear hK K
  refine W.cond rfl (fun h2=>?_) (fun h2=>?_)
  ·try simp only[RL]at h2
   refine W.r fun K hK=>?_
   simp(disch:=omega)only[↓RU,RV,RH,↓reduceIte,qE,reduceCtorEq,if_pos]
   apply hK;clear hK K
   refine W.ret ?_
   refine XBlock.ret ?_
   refine XThen.ret ?_
   refine XThen.ret ?_
   refine XBlock.ret ?_
   refine XThen.ret ?_
   refine Br rfl ?_
   rw [show decide (p=q)=false by simp; rintro rfl; rw [hx]at hy; simp_all]
   rfl
  try simp only[RL]at h2
  have h2:x=y:=by simpa using h2
  refine W.skip ?_
  refine XbN ?_
  refine xn ?_
  refine W.k fun K hK=>?_
  simp(disch:=omega)only[↓RU,RV,RH,↓reduceIte,qE,reduceCtorEq,if_pos,w64,zaa]
  apply hK;clear hK K
  refine xn ?_
  refine ⟨p.length - (i+1),by omega,0,i+1,rfl,by omega,zoh htk hx hy h2,?_,rfl⟩
  simp [Env.put,Env.of]
 try simp only[RL]at h1
 refine W.exit ?_
 refine xe ?_
 refine xe ?_
 refine XBlock.hit ?_
 refine xn ?_
 refine W.r fun K hK=>?_
 simp(disch:=omega)only[↓RU,RV,RH,↓reduceIte,qE,reduceCtorEq,if_pos]
 apply hK;clear hK K
 refine W.ret ?_
 refine Br rfl ?_
 have h1:p.take i=p:=qT (by omega)
 have h2:q.take i=q:=qT (by omega)
 rw [show decide (p=q)=true by simp; rw [← h1,← h2]; exact htk]
 rfl
theorem PN.ints0 {P:Program} {f:FuncId} {args:List PV} {l:List Int} {n:Nat} {im:Bool} (h:PN P f args (.loc 0 0 0 n) [.arr 0 3 1 (l.map (.int .i64))] im) (h1:args.mapM (reify ⟨[],0⟩ true 10)=some args) (hl:l.length=n):PC P f args (eInts l) true:=by
 refine PN.pc h h1 ?_
 subst hl
 simp only[z2z,List.map_cons,List.map_nil,zmr,zz6,Nat.add_zero]
 exact zcv (k:=9) rfl (by simp) (zjy _)
theorem z4g {p:List Txt} (hv:zds p=true):PC Tryz.prog 51 [(.agg [zhn (lfM p),zhn (abM p)]),.bm 52 (.agg [zhn (lfM p),zhn (abM p)])] (eInts (srt p false)) true∧PC Tryz.prog 51 [(.agg [zhn (lfM p),zhn (abM p)]),.bm 53 (.agg [zhn (lfM p),zhn (abM p)])] (eInts (srt p true)) true:=by
 have hok:=(zjk hv).1
 have hn9:=zji hok
 have hn1:=zh9 hok
 have hlq:=ybt hv
 have haq:=ybc hv
 have hp:zbo p=true:=by rw [← ze8]; exact hv
 obtain ⟨f,hf,hi⟩:=zkp hp false
 obtain ⟨g,hg,hj⟩:=zkp hp true
 exact ⟨PN.ints0 (zx9 (bf:=bfK p false) hlq hn1 hn9 (fun a b ha hb=>z44 hlq haq ha hb) hf (fun z h1 h2=>z8h hf hi h1 h2)) rfl ziu,
  PN.ints0 (zx9 (bf:=bfK p true) hlq hn1 hn9 (fun a b ha hb=>zpj hlq haq ha hb) hg (fun z h1 h2=>z8h hg hj h1 h2)) rfl ziu⟩
theorem zsj {l:List Int} (hl:l.length<2147483648) {x:Int} {i:Nat} (hx:l[i]?=some x) (hi:∀ (j:Nat),j<i→l[j]?≠some x):PC Tryz.prog 54 [eInts l,.int .i64 x] (.int .i64 i) true:=by
 refine PC.of ⟨Tryz.func54,by kernel_rfl,rfl,by kernel_rfl⟩ zap mixed (by show 2≤Tryz.f54.ntmps; decide) ?_
 refine W.r fun K hK=>?_
 simp(disch:=omega)only[↓RU,RV,RH,↓reduceIte,qE,reduceCtorEq,if_pos]
 apply hK;clear hK K
 refine W.seq ?_
 refine W.r fun K hK=>?_
 simp(disch:=omega)only[↓RU,RV,RH,↓reduceIte,qE,reduceCtorEq,if_pos,zab,zaa]
 apply hK;clear hK K
 refine W.block ?_
 refine W.loop [0,1,7,8] (fun n vs S=>∃ j:Nat,n=l.length - j∧j≤l.length∧(j≤i)∧vs=[eInts l,.int .i64 x,.int .i64 l.length,.int .i64 j]∧S=⟨[],0⟩) (l.length) ?_ ?_
 ·refine ⟨0,0,rfl,Nat.zero_le _,Nat.zero_le _,?_,rfl⟩
  simp [Env.put,Env.of,zaf]
 rintro n vs S - ⟨j,rfl,h_j,hji,rfl,rfl⟩
 refine W.r fun K hK=>?_
 simp(disch:=omega)only[↓RU,RV,RH,↓reduceIte,qE,reduceCtorEq,if_pos,w64,zaa]
 apply hK;clear hK K
 refine W.seq ?_
 refine W.cond rfl (fun h=>?_) (fun h=>?_)
 ·try simp only[RL]at h
  obtain ⟨y,hy,-⟩:=zag (show j<l.length by omega)
  refine W.skip ?_
  refine xn ?_
  refine W.seq ?_
  refine W.block ?_
  refine W.r fun K hK=>?_
  simp(disch:=omega)only[↓RU,RV,RH,↓reduceIte,qE,reduceCtorEq,if_pos]
  apply hK;clear hK K
  refine W.r fun K hK=>?_
  simp(disch:=omega)only[↓RU,RV,RH,↓reduceIte,qE,reduceCtorEq,if_pos,w64,zab,zaa,hy]
  apply hK;clear hK K
  refine W.cond rfl (fun h1=>?_) (fun h1=>?_)
  ·try simp only[RL]at h1
   have e:x=y:=by simpa using h1
   have hij:j=i:=by
    refine Classical.byContradiction fun k=>hi j (by omega) (by rw [hy,e])
   subst hij
   refine W.r fun K hK=>?_
   simp(disch:=omega)only[↓RU,RV,RH,↓reduceIte,qE,reduceCtorEq,if_pos]
   apply hK;clear hK K
   refine W.ret ?_
   refine XBlock.ret ?_
   refine XThen.ret ?_
   refine XThen.ret ?_
   refine XBlock.ret ?_
   refine XThen.ret ?_
   refine Br rfl ?_
   rfl
  try simp only[RL]at h1
  have hne:j≠i:=by rintro rfl; rw [hx]at hy; cases hy; simp at h1
  refine W.skip ?_
  refine XbN ?_
  refine xn ?_
  refine W.k fun K hK=>?_
  simp(disch:=omega)only[↓RU,RV,RH,↓reduceIte,qE,reduceCtorEq,if_pos,w64,zaa]
  apply hK;clear hK K
  refine xn ?_
  refine ⟨l.length - (j+1),by omega,0,j+1,rfl,by omega,by have:=hne; omega,?_,rfl⟩
  simp [Env.put,Env.of]
 try simp only[RL]at h
 exact absurd (zb0 hx) (by omega)
theorem ydk {p:List Txt} (hv:zds p=true):PN Tryz.prog 28 [(.agg [zhn (lfM p),zhn (abM p)])] (.loc 0 0 0 (rP p).length) [.arr 0 3 1 ((zd5 p).map (.int .i64))] false:=by
 have hok:=(zjk hv).1
 have hn9:=zji hok
 have hn1:=zh9 hok
 have hlq:=ybt hv
 have haq:=ybc hv
 have hp:zbo p=true:=by rw [← ze8]; exact hv
 obtain ⟨hs1,hs2⟩:=z4g hv
 have hl1:=ziu (p:=p) (below:=false)
 have hl2:=ziu (p:=p) (below:=true)
 have hpl:=zey (p:=p)
 refine PN.of ⟨Tryz.func28,by kernel_rfl,rfl,by kernel_rfl⟩ zap mixed (by show 1≤Tryz.f28.ntmps; decide) ?_
 refine W.r fun K hK=>?_
 simp(disch:=omega)only[↓RU,RV,RH,↓reduceIte,qE,reduceCtorEq,if_pos,↓RS,RG,qA,qM,qL,ty0,ty2,zah,zgx,ze0,zgy]
 apply hK;clear hK K
 refine W.r fun K hK=>?_
 simp(disch:=omega)only[↓RU,RV,RH,↓reduceIte,qE,reduceCtorEq,if_pos,qN,↓RS,RG,qA,qM,qL,ty0,ty2,zah,zgx,ze0,zgy,zuk,List.isEmpty_nil,Bool.and_self]
 refine zad.pc (hs1) rfl (.inl rfl) ?_
 simp(disch:=omega)only[↓RU,RV,RH,↓reduceIte,qE,reduceCtorEq,if_pos,qN,↓RS,RG,qA,qM,qL,ty0,ty2,zah,zgx,ze0,zgy,zuk,List.isEmpty_nil,Bool.and_self]
 apply hK;clear hK K
 refine W.r fun K hK=>?_
 simp(disch:=omega)only[↓RU,RV,RH,↓reduceIte,qE,reduceCtorEq,if_pos,qN,↓RS,RG,qA,qM,qL,ty0,ty2,zah,zgx,ze0,zgy,zuk,List.isEmpty_nil,Bool.and_self]
 refine zad.pc (hs2) rfl (.inl rfl) ?_
 simp(disch:=omega)only[↓RU,RV,RH,↓reduceIte,qE,reduceCtorEq,if_pos,qN,↓RS,RG,qA,qM,qL,ty0,ty2,zah,zgx,ze0,zgy,zuk,List.isEmpty_nil,Bool.and_self]
 apply hK;clear hK K
 refine W.joinS [3,4,5] (fun vs S=>∃ t tk:Nat,vs=[eInts (srt p false),eInts (srt p true),.loc 0 t 0 (rP p).length]∧S=⟨[.arr t 3 1 ((List.replicate (rP p).length 0).map (.int .i64))],tk⟩) ?_ ?_
 ·
  refine W.k fun K hK=>?_
  simp(disch:=omega)only[↓RU,RV,RH,↓reduceIte,qE,reduceCtorEq,if_pos,↓RS,RG,qA,qM,qL,zab,zaa,hl2,ze3,zes]
  apply hK;clear hK K
  refine xn ?_
  refine ⟨0,[1],[eInts (srt p false),eInts (srt p true),.loc 0 2 0 (rP p).length],⟨[.arr 2 3 1 ((List.replicate (rP p).length 0).map (.int .i64))],3⟩,?_,?_,2,3,rfl,rfl⟩
  ·simp [-qU,Env.put,Env.of,zaf,zb1,zaj,zan,zau,zax,zb9,zca,zdc,zb8,zbi,zcb,zdb,zdd,zbk,zbj,zay,zb7,zcc,zda,zbg,zbf,zaw,zbh,zb6,zfc,qS,qP,qC,Store.cellsOf]
  simp [-qU,Env.put,Env.of,zaf,zb1,zaj,zan,zau,zax,zb9,zca,zdc,zb8,zbi,zcb,zdb,zdd,zbk,zbj,zay,zb7,zcc,zda,zbg,zbf,zaw,zbh,zb6,zfc,qS,qP,qC,z7z]
 rintro vs S - ⟨t0,tk0,rfl,rfl⟩
 refine W.seq ?_
 refine W.r fun K hK=>?_
 simp(disch:=omega)only[↓RU,RV,RH,↓reduceIte,qE,reduceCtorEq,if_pos,↓RS,RG,qA,qM,qL,zab,zaa]
 apply hK;clear hK K
 refine W.block ?_
 refine W.loop [3,5,19,20,21] (fun n vs S=>∃ i t tk:Nat,n=(rP p).length - i∧i≤(rP p).length∧vs=[eInts (srt p false),.loc 0 t 0 (rP p).length,eInts (srt p true),.int .i64 (rP p).length,.int .i64 i]∧S=⟨[.arr t 3 1 (((zd5 p).take i++List.replicate ((rP p).length - i) 0).map (.int .i64))],tk⟩) (rP p).length ?_ ?_
 ·refine ⟨1,0,t0,tk0,rfl,by omega,?_,by simp [Store.take]⟩
  simp [Env.put,Env.of,zaf,hl2]
 rintro n vs S - ⟨i,t,tk,rfl,h_i,rfl,rfl⟩
 refine W.r fun K hK=>?_
 simp(disch:=omega)only[↓RU,RV,RH,↓reduceIte,qE,reduceCtorEq,if_pos,w64,↓RS,RG,qA,qM,qL,zaa]
 apply hK;clear hK K
 refine W.seq ?_
 refine W.cond rfl (fun h=>?_) (fun h=>?_)
 ·try simp only[RL]at h
  obtain ⟨a,ha,ha2,hsa⟩:=znj (below:=true) hp (show i<(rP p).length by omega)
  have hpa:=zo1 hp hsa
  have hix:=z2p (below:=false) hp ha
  have hin:∀ j,j<ahK p false a→(srt p false)[j]?≠some (a:Int):=fun j hj k=>by
   have k1:=zb0 hix
   have k2:=zb0 k
   rw [List.getElem?_eq_getElem k1]at hix
   rw [List.getElem?_eq_getElem k2]at k
   have:=zqi (zyb hp) k1 k2 ((Option.some.inj hix).trans (Option.some.inj k).symm)
   omega
  have hol:((zd5 p).take i++List.replicate ((rP p).length - i) 0).length=(rP p).length:=by simp [hpl]; omega
  refine W.skip ?_
  refine xn ?_
  refine W.seq ?_
  refine W.block ?_
  refine W.r fun K hK=>?_
  simp(disch:=omega)only[↓RU,RV,RH,↓reduceIte,qE,reduceCtorEq,if_pos,↓RS,RG,qA,qM,qL,zab,zaa,hsa]
  apply hK;clear hK K
  refine W.k fun K hK=>?_
  simp(disch:=omega)only[↓RU,RV,RH,↓reduceIte,qE,reduceCtorEq,if_pos,qN,↓RS,RG,qA,qM,qL,zab,zaa,zb5,zd6,hol]
  refine zad.pc (zsj (by omega) hix hin) rfl (.inl rfl) ?_
  simp(disch:=omega)only[↓RU,RV,RH,↓reduceIte,qE,reduceCtorEq,if_pos,qN,↓RS,RG,qA,qM,qL,zab,zaa,zb5,zd6,hol]
  apply hK;clear hK K
  refine XbN ?_
  refine xn ?_
  refine W.k fun K hK=>?_
  simp(disch:=omega)only[↓RU,RV,RH,↓reduceIte,qE,reduceCtorEq,if_pos,w64,↓RS,RG,qA,qM,qL,zaa]
  apply hK;clear hK K
  refine xn ?_
  refine ⟨(rP p).length - (i+1),by omega,1,i+1,t,tk,rfl,by omega,?_,?_⟩
  ·simp [Env.put,Env.of]
  rw [← hpl]; simp only[zbe,zvt hpa]; rfl
 try simp only[RL]at h
 obtain rfl:i=(rP p).length:=by omega
 rw [qT (by omega),Nat.sub_self]
 simp only[List.replicate_zero,qN]
 refine W.exit ?_
 refine xe ?_
 refine xe ?_
 refine XBlock.hit ?_
 refine xn ?_
 refine W.r fun K hK=>?_
 simp(disch:=omega)only[↓RU,RV,RH,↓reduceIte,qE,reduceCtorEq,if_pos,↓RS,RG,qA,qM,qL]
 apply hK;clear hK K
 refine W.ret ?_
 refine Br rfl ?_
 exact z2k rfl (zzx _)
section
def zdi (z:Nat→Nat→Int) (t:Pt):Option CT:=tree z (t.h*t.w) t
section
variable {z:Nat→Nat→Int} {H W:Nat} {t:Pt}
theorem zjr (h:t.In H W):t.h*t.w=(t.h*t.w - 1)+1:=by have:=Nat.mul_pos h.1 h.2.1; omega
theorem zjq (h:t.In H W) (h1:zww z t=true):zdi z t=some (.leaf (z t.r t.c)):=by
 unfold zdi; rw [zjr h,tree,if_pos h1]
theorem zj9 (h:t.In H W) (h1:zww z t=false) (h2:zeb z t=none):zdi z t=none:=by
 unfold zdi; rw [zjr h,tree,h1,h2]; rfl
theorem zhh (h:t.In H W) (h1:zww z t=false) {q:Bool × Nat} (h2:zeb z t=some q):zdi z t=match zdi z (t.one q),zdi z (t.two q) with | some x,some y=>some (.node q.1 x y) | _,_=>none:=by
 obtain ⟨i1,i2,a1,a2⟩:=h.cut h2
 have:=zjr h
 rw [show zdi z t=tree z ((t.h*t.w - 1)+1) t by unfold zdi; rw [← this]]
 simp only[tree,h1,h2,qF,if_false]
 unfold zdi
 rw [zmp (z:=z) _ i1 (qR _) (f:=t.h*t.w - 1) (g:=(t.one q).h*(t.one q).w) (by omega) (qR _),zmp (z:=z) _ i2 (qR _) (f:=t.h*t.w - 1) (g:=(t.two q).h*(t.two q).w) (by omega) (qR _)]
 all_goals (cases tree z ((t.one q).h*(t.one q).w) (t.one q) <;> cases tree z ((t.two q).h*(t.two q).w) (t.two q) <;> rfl)
def z4x (z:Nat→Nat→Int):Nat→Pt→Txt × Bool
 | 0,_=>([],false)
 | f+1,t=>if zww z t then ([UInt8.ofNat (z t.r t.c+65).toNat],true) else
  match zeb z t with
  | none=>([],false)
  | some q=>((if q.1 then [104] else [118])++(z4x z f (t.one q)).1++(z4x z f (t.two q)).1,(z4x z f (t.one q)).2 && (z4x z f (t.two q)).2)
theorem zpb:∀ (n:Nat) {t:Pt} {f g:Nat},t.In H W→t.h*t.w≤n→t.h*t.w≤f→t.h*t.w≤g→z4x z f t=z4x z g t
 | 0,t,f,g,hi,hn,_,_=>by have:=Nat.mul_pos hi.1 hi.2.1; omega
 | n+1,t,f,g,hi,hn,hf,hg=>by
  have:=Nat.mul_pos hi.1 hi.2.1
  obtain ⟨f,rfl⟩:∃ f',f=f'+1:=⟨f - 1,by omega⟩
  obtain ⟨g,rfl⟩:∃ g',g=g'+1:=⟨g - 1,by omega⟩
  simp only[z4x]
  split
  ·rfl
  cases hc:zeb z t with
  | none=>rfl
  | some q =>
   obtain ⟨i1,i2,a1,a2⟩:=hi.cut hc
   simp only
   rw [zpb n i1 (f:=f) (g:=g) (by omega) (by omega) (by omega),zpb n i2 (f:=f) (g:=g) (by omega) (by omega) (by omega)]
def z2v (z:Nat→Nat→Int) (t:Pt):Txt × Bool:=z4x z (t.h*t.w) t
theorem yat (h:t.In H W) (h1:zww z t=true):z2v z t=([UInt8.ofNat (z t.r t.c+65).toNat],true):=by
 unfold z2v; rw [zjr h,z4x,if_pos h1]
theorem z8o (h:t.In H W) (h1:zww z t=false) (h2:zeb z t=none):z2v z t=([],false):=by
 unfold z2v; rw [zjr h,z4x,h1,h2]; rfl
theorem yas (h:t.In H W) (h1:zww z t=false) {q:Bool × Nat} (h2:zeb z t=some q) :
  z2v z t=((if q.1 then [104] else [118])++(z2v z (t.one q)).1++(z2v z (t.two q)).1,(z2v z (t.one q)).2 && (z2v z (t.two q)).2):=by
 obtain ⟨i1,i2,a1,a2⟩:=h.cut h2
 have:=zjr h
 rw [show z2v z t=z4x z ((t.h*t.w - 1)+1) t by unfold z2v; rw [← this]]
 simp only[z4x,h1,h2,qF,if_false]
 unfold z2v
 rw [zpb (z:=z) _ i1 (qR _) (f:=t.h*t.w - 1) (g:=(t.one q).h*(t.one q).w) (by omega) (qR _),zpb (z:=z) _ i2 (qR _) (f:=t.h*t.w - 1) (g:=(t.two q).h*(t.two q).w) (by omega) (qR _)]
theorem z0i {q:Bool × Nat} (h2:zeb z t=some q):(t.one q).h*(t.one q).w+(t.two q).h*(t.two q).w=t.h*t.w:=by
 obtain ⟨h1,h3⟩:=zgz h2
 obtain ⟨lv,k⟩:=q
 cases lv with
 | true =>
  simp only[if_true]at h3
  simp only[Pt.one,Pt.two,if_true]
  rw [← Nat.add_mul,show k+(t.h - k)=t.h by omega]
 | false =>
  simp only[qF,if_false]at h3
  simp only[Pt.one,Pt.two,qF,if_false]
  rw [← Nat.mul_add,show k+(t.w - k)=t.w by omega]
theorem zyh:∀ (n:Nat) {t:Pt},t.In H W→t.h*t.w≤n→(z2v z t).1.length+1≤2*(t.h*t.w)∧(z2v z t).2=(zdi z t).isSome
 | 0,t,hi,hn=>by have:=Nat.mul_pos hi.1 hi.2.1; omega
 | n+1,t,hi,hn=>by
  have:=Nat.mul_pos hi.1 hi.2.1
  cases h1:zww z t with
  | true=>rw [yat hi h1,zjq hi h1]; simp; omega
  | false =>
   cases hc:zeb z t with
   | none=>rw [z8o hi h1 hc,zj9 hi h1 hc]; simp; omega
   | some q =>
    obtain ⟨i1,i2,a1,a2⟩:=hi.cut hc
    have ha:=z0i hc
    obtain ⟨b1,b2⟩:=zyh n i1 (by omega)
    obtain ⟨c1,c2⟩:=zyh n i2 (by omega)
    have p1:=Nat.mul_pos i1.1 i1.2.1
    rw [yas hi h1 hc,zhh hi h1 hc]
    constructor
    ·simp only[List.length_append]
     have:(if q.1 then [(104:UInt8)] else [118]).length=1:=by split <;> rfl
     omega
    rw [b2,c2]
    cases zdi z (t.one q) <;> cases zdi z (t.two q) <;> rfl
def CT.leaves:CT→List Int
 | .leaf a=>[a]
 | .node _ x y=>x.leaves++y.leaves
theorem CT.pos (x:CT):1≤x.leaves.length:=by
 induction x with
 | leaf a=>simp [CT.leaves]
 | node lv x y h1 h2=>simp [CT.leaves]; omega
theorem zfz (hz:yce z H W):∀ (n:Nat) {t:Pt} {x:CT},Whole z H W t→t.h*t.w≤n→zdi z t=some x →
  x.leaves.Nodup∧(∀ v,v∈x.leaves↔∃ a c,t.r≤a∧a<t.r+t.h∧t.c≤c∧c<t.c+t.w∧z a c=v)∧x.leaves.length≤t.h*t.w
 | 0,t,x,hw,hn,_=>by have:=Nat.mul_pos hw.inn.1 hw.inn.2.1; omega
 | n+1,t,x,hw,hn,hx=>by
  have hi:=hw.inn
  have hpos:=Nat.mul_pos hi.1 hi.2.1
  cases h1:zww z t with
  | true =>
   rw [zjq hi h1]at hx
   cases hx
   have hall:=zoy.1 h1
   refine ⟨by simp [CT.leaves],fun v=>?_,by simp [CT.leaves]; omega⟩
   simp only[CT.leaves,List.mem_singleton]
   constructor
   ·rintro rfl; exact ⟨t.r,t.c,by omega,by have:=hi.1; omega,by omega,by have:=hi.2.1; omega,rfl⟩
   rintro ⟨a,c,e1,e2,e3,e4,rfl⟩
   have:=hall (a - t.r) (c - t.c) (by omega) (by omega)
   rwa [show t.r+(a - t.r)=a by omega,show t.c+(c - t.c)=c by omega]at this
  | false =>
   cases hc:zeb z t with
   | none=>rw [zj9 hi h1 hc]at hx; cases hx
   | some q =>
    obtain ⟨i1,i2,a1,a2⟩:=hi.cut hc
    obtain ⟨w1,w2⟩:=hw.cut hz hc
    have ha:=z0i hc
    rw [zhh hi h1 hc]at hx
    cases hx1:zdi z (t.one q) with
    | none=>rw [hx1]at hx; cases hx
    | some x1 =>
     cases hx2:zdi z (t.two q) with
     | none=>rw [hx1,hx2]at hx; cases hx
     | some x2 =>
      rw [hx1,hx2]at hx
      cases hx
      obtain ⟨b1,b2,b3⟩:=zfz hz n w1 (by omega) hx1
      obtain ⟨c1,c2,c3⟩:=zfz hz n w2 (by omega) hx2
      obtain ⟨k1,k2⟩:=zgz hc
      refine ⟨?_,fun v=>?_,by simp [CT.leaves]; omega⟩
      ·simp only[CT.leaves,List.nodup_append]
       refine ⟨b1,c1,fun v hv u hu e=>?_⟩
       subst e
       obtain ⟨a,c,e1,e2,e3,e4,e5⟩:=(b2 v).1 hv
       obtain ⟨a',c',f1,f2,f3,f4,f5⟩:=(c2 v).1 hu
       have hin1:=i1; have hin2:=i2
       unfold Pt.In at hin1 hin2
       have:=w1.all a c a' c' (by omega) (by omega) (by omega) (by omega) (e5.trans f5.symm) e1 e2 e3 e4
       obtain ⟨lv,k⟩:=q
       cases lv <;> simp only[Pt.one,Pt.two,qF,if_false,if_true] at * <;> omega
      simp only[CT.leaves,List.mem_append,b2,c2]
      obtain ⟨lv,k⟩:=q
      cases lv with
      | true =>
       simp only[Pt.one,Pt.two,if_true] at *
       constructor
       ·rintro (⟨a,c,e1,e2,e3,e4,e5⟩ | ⟨a,c,e1,e2,e3,e4,e5⟩)
        ·exact ⟨a,c,e1,by omega,e3,e4,e5⟩
        exact ⟨a,c,by omega,by omega,e3,e4,e5⟩
       rintro ⟨a,c,e1,e2,e3,e4,e5⟩
       rcases Nat.lt_or_ge a (t.r+k) with h | h
       ·exact .inl ⟨a,c,e1,h,e3,e4,e5⟩
       exact .inr ⟨a,c,h,by omega,e3,e4,e5⟩
      | false =>
       simp only[Pt.one,Pt.two,qF,if_false] at *
       constructor
       ·rintro (⟨a,c,e1,e2,e3,e4,e5⟩ | ⟨a,c,e1,e2,e3,e4,e5⟩)
        ·exact ⟨a,c,e1,e2,e3,by omega,e5⟩
        exact ⟨a,c,e1,e2,by omega,by omega,e5⟩
       rintro ⟨a,c,e1,e2,e3,e4,e5⟩
       rcases Nat.lt_or_ge c (t.c+k) with h | h
       ·exact .inl ⟨a,c,e1,e2,e3,h,e5⟩
       exact .inr ⟨a,c,e1,e2,h,by omega,e5⟩
end
theorem zuc:∀ {n:Nat} {l:List Int},l.Nodup→(∀ x∈l,0≤x∧x<n)→l.length≤n
 | 0,l,_,hb=>by
  cases l with
  | nil=>simp
  | cons a l=>have:=hb a (by simp); omega
 | n+1,l,h,hb=>by
  by_cases hm:(n:Int)∈l
  ·obtain ⟨l1,l2,rfl⟩:=List.append_of_mem hm
   have hnd:=List.nodup_append.1 h
   have:=zuc (n:=n) (l:=l1++l2) (h.sublist (by simp)) fun x hx=>by
    have h1:=hb x (by rcases List.mem_append.1 hx with h9 | h9 <;> simp [h9])
    have h2:x≠n:=by
     rintro rfl
     rcases List.mem_append.1 hx with h9 | h9
     ·exact hnd.2.2 _ h9 _ (by simp) rfl
     exact (List.nodup_cons.1 hnd.2.1).1 h9
    omega
   simp at this ⊢; omega
  have:=zuc (n:=n) h fun x hx=>by
   have h1:=hb x hx
   have h2:x≠n:=by rintro rfl; exact hm hx
   omega
  omega
end
def Pat (g1 g2:List (List Int)) (H W:Nat):Prop:=∀ i j i' j',i<H→j<W→i'<H→j'<W→(gz g1 i j=gz g1 i' j'↔gz g2 i j=gz g2 i' j')
theorem Pat.symm {g1 g2:List (List Int)} {H W:Nat} (h:Pat g1 g2 H W):Pat g2 g1 H W:=fun i j i' j' a b c d=>(h i j i' j' a b c d).symm
theorem Pat.trans {g1 g2 g3:List (List Int)} {H W:Nat} (h:Pat g1 g2 H W) (k:Pat g2 g3 H W):Pat g1 g3 H W:=fun i j i' j' a b c d=>(h i j i' j' a b c d).trans (k i j i' j' a b c d)
structure KC (g1 g2:List (List Int)) (H W:Nat) (k1 k2:List Int):Prop where
 len:k1.length=k2.length
 at_:∀ i j,i<H→j<W→k1.idxOf (gz g1 i j)=k2.idxOf (gz g2 i j)
theorem zsi {l:List Int} {z x:Int} (h:l.idxOf x=l.length):(l++[z]).idxOf x=if x=z then l.length else l.length+1:=by
 have hn:=zp5 h
 rw [List.idxOf_append,if_neg hn]
 by_cases e:x=z
 ·subst e; simp
 rw [if_neg e]
 have e2:(z == x)=false:=by simpa using fun h=>e h.symm
 simp [List.idxOf_cons,e2]
 omega
theorem KC.step {g1 g2:List (List Int)} {H W:Nat} (hp:Pat g1 g2 H W) {k1 k2:List Int} (h:KC g1 g2 H W k1 k2) {a b:Nat} (ha:a<H) (hb:b<W):KC g1 g2 H W (zie k1 (gz g1 a b)) (zie k2 (gz g2 a b)):=by
 have h1:=h.at_ a b ha hb
 unfold zie
 by_cases e:k1.idxOf (gz g1 a b)=k1.length
 ·have e2:k2.idxOf (gz g2 a b)=k2.length:=by rw [← h1,e,h.len]
  rw [if_pos e,if_pos e2]
  refine ⟨by simp [h.len],fun i j hi hj=>?_⟩
  have h2:=h.at_ i j hi hj
  have hpt:=hp i j a b hi hj ha hb
  by_cases q:k1.idxOf (gz g1 i j)=k1.length
  ·have q2:k2.idxOf (gz g2 i j)=k2.length:=by rw [← h2,q,h.len]
   rw [zsi q,zsi q2,h.len]
   by_cases r:gz g1 i j=gz g1 a b
   ·rw [if_pos r,if_pos (hpt.1 r)]
   rw [if_neg r,if_neg fun x=>r (hpt.2 x)]
  have q2:¬ k2.idxOf (gz g2 i j)=k2.length:=by rw [← h2,← h.len]; exact q
  rw [zp4 q,zp4 q2,h2]
 have e2:¬ k2.idxOf (gz g2 a b)=k2.length:=by rw [← h1,← h.len]; exact e
 rw [if_neg e,if_neg e2]
 exact h
theorem z8a {k1 k2 rs:List Int} {R:List Rect} {z1 z2:Int} {q:Rect} (hl:k1.length=k2.length) (hi:k1.idxOf z1=k2.idxOf z2):zo9 k1 R z1 q=zo9 k2 R z2 q:=by
 unfold zo9 zi7
 rw [hl,hi]
theorem zng {g1 g2:List (List Int)} {H W:Nat} (hp:Pat g1 g2 H W) {i:Nat} (hi:i<H) {s1 s2:List Int × List Rect} (h:KC g1 g2 H W s1.1 s2.1) (hr:s1.2=s2.2):∀ j,j≤W →
  KC g1 g2 H W (zdx g1 i s1 j).1 (zdx g2 i s2 j).1∧(zdx g1 i s1 j).2=(zdx g2 i s2 j).2
 | 0,_=>⟨h,hr⟩
 | j+1,hj=>by
  obtain ⟨h1,h2⟩:=zng hp hi h hr j (by omega)
  unfold zdx
  refine ⟨h1.step hp hi (by omega),?_⟩
  show zo9 _ _ _ _=zo9 _ _ _ _
  rw [h2]
  exact z8a (rs:=[]) h1.len (h1.at_ i j hi (by omega))
theorem zk6 {g1 g2:List (List Int)} {H W:Nat} (hp:Pat g1 g2 H W):∀ i,i≤H→KC g1 g2 H W (zaq g1 W i).1 (zaq g2 W i).1∧(zaq g1 W i).2=(zaq g2 W i).2
 | 0,_=>⟨⟨rfl,fun _ _ _ _=>rfl⟩,rfl⟩
 | i+1,hi=>by
  obtain ⟨h1,h2⟩:=zk6 hp i (by omega)
  exact zng hp (by omega) h1 h2 W (qR _)
theorem zyn {g1 g2:List (List Int)} {H W:Nat} (hp:Pat g1 g2 H W) {i:Nat} (hi:i<H) {s1 s2:List Int × List Rect} (h:KC g1 g2 H W s1.1 s2.1) (hr:s1.2=s2.2):∀ j,j≤W→znm g1 i s1 j=znm g2 i s2 j
 | 0,_=>rfl
 | j+1,hj=>by
  unfold znm
  rw [zyn hp hi h hr j (by omega),(zng hp hi h hr j (by omega)).1.at_ i j hi (by omega)]
theorem zto {g1 g2:List (List Int)} {H W:Nat} (hp:Pat g1 g2 H W):∀ i,i≤H→ze1 g1 W i=ze1 g2 W i
 | 0,_=>rfl
 | i+1,hi=>by
  obtain ⟨h1,h2⟩:=zk6 hp i (by omega)
  unfold ze1
  rw [zto hp i (by omega),zyn hp (by omega) h1 h2 W (qR _)]
theorem GW.w0 {g:List (List Int)} {H W:Nat} (h:GW g H W):w0 g=W:=by
 obtain ⟨row,hrow,hl,-⟩:=h.at_ (show 0<H by have:=h.2.2.1; omega) (show 0<W by have:=h.2.2.2.2.1; omega)
 rw [yay hrow,hl]
theorem GW.zG {g:List (List Int)} {H W:Nat} (h:GW g H W):zG g=ze1 g W H∧stG g=zaq g W H:=by
 unfold Fw.zG stG; rw [h.w0,h.1]; exact ⟨rfl,rfl⟩
theorem yec {g:List (List Int)} {H W i j:Nat} (h:GW g H W) (hi:i<H) (hj:j<W):gz (zG g) i j=(((zaq g W H).1.idxOf (gz g i j):Nat):Int):=by
 rw [h.zG.1]
 unfold gz
 rw [zka hi,Option.getD_some,z0c hj,Option.getD_some]
 congr 1
 exact zNum hi hj
theorem z20 {g:List (List Int)} {H W:Nat} (h:GW g H W):GW (zG g) H W:=by
 rw [h.zG.1]
 refine ⟨zc3 _,fun r hr=>?_,h.2.2⟩
 obtain ⟨k,hk⟩:=List.getElem?_of_mem hr
 have:=zb0 hk
 rw [zc3]at this
 rw [zka this]at hk
 cases hk
 exact zfn _
theorem z8z {g:List (List Int)} {H W i j:Nat} (hi:i<H) (hj:j<W):gz g i j∈(zaq g W H).1:=(SeInv.rows (g:=g) (W:=W) H).mem i j (zot hi hj)
theorem yf6 {g:List (List Int)} {H W:Nat} (h:GW g H W):Pat (zG g) g H W:=by
 intro i j i' j' hi hj hi' hj'
 rw [yec h hi hj,yec h hi' hj']
 constructor
 ·intro e
  have h1:=zh7 (ks:=(zaq g W H).1) (z:=gz g i j) (by have:=List.idxOf_lt_length_iff.2 (z8z (g:=g) hi hj); omega)
  have h2:=zh7 (ks:=(zaq g W H).1) (z:=gz g i' j') (by have:=List.idxOf_lt_length_iff.2 (z8z (g:=g) hi' hj'); omega)
  rw [show (zaq g W H).1.idxOf (gz g i j)=(zaq g W H).1.idxOf (gz g i' j') by omega,h2]at h1
  exact (Option.some.inj h1).symm
 intro e; rw [e]
theorem ygy {g:List (List Int)} {H W i j:Nat} (h:GW g H W) (hi:i<H) (hj:j<W):0≤gz (zG g) i j∧gz (zG g) i j<(zaq g W H).2.length:=by
 rw [yec h hi hj]
 have h1:=List.idxOf_lt_length_iff.2 (z8z (g:=g) hi hj)
 have h2:=(SeInv.rows (g:=g) (W:=W) H).len
 omega
theorem zs5 {g:List (List Int)} {H W i j:Nat} (h:GW g H W) (hi:i<H) (hj:j<W) (h0:0≤gz g i j) (h1:gz g i j≤100):gz (zcf (zfy g)) i j=gz g i j+97:=by
 obtain ⟨row,hrow,hl,hx⟩:=h.at_ hi hj
 have e1:(zcf (zfy g))[i]?=some (zvi (zq7 row)):=by simp [zcf,zmm hrow]
 have e2:(zvi (zq7 row))[j]?=some ((z6h (gz g i j)).toNat:Int):=by simp [zvi,zq7,hx]
 have e3:gz (zcf (zfy g)) i j=((z6h (gz g i j)).toNat:Int):=by
  conv=>lhs; unfold gz
  rw [e1,Option.getD_some,e2,Option.getD_some]
 rw [e3]
 unfold z6h
 rw [UInt8.toNat_ofNat_of_lt' (by show 97+(gz g i j).toNat<256; omega)]
 omega
theorem z8m {g:List (List Int)} {H W:Nat} (h:GW g H W):(zfy g).length=H∧(zao (zfy g)).length=W:=by
 refine ⟨by rw [zye,h.1],?_⟩
 obtain ⟨row,hrow,hl,-⟩:=h.at_ (show 0<H by have:=h.2.2.1; omega) (show 0<W by have:=h.2.2.2.2.1; omega)
 rw [zc1 (zmm hrow)]
 simp [zq7,hl]
theorem z8l {g:List (List Int)} {H W:Nat} (h:GW g H W) (hz:∀ i j,i<H→j<W→0≤gz g i j∧gz g i j<26):zc4 (zfy g)=true:=by
 obtain ⟨t1,t2⟩:=z8m h
 unfold zc4
 rw [t1,t2]
 have h2:=h.2.2
 have:(zfy g).all (zs8 W)=true:=by
  rw [List.all_eq_true]
  intro r hr
  obtain ⟨i,hi⟩:=List.getElem?_of_mem hr
  have hil:=zb0 hi
  rw [t1]at hil
  obtain ⟨row,hrow,hrm⟩:=zag (show i<g.length by rw [h.1]; exact hil)
  have hrl:=h.2.1 row hrm
  rw [zmm hrow]at hi
  cases hi
  unfold zs8
  simp only[qB,decide_eq_true_eq,List.all_eq_true]
  refine ⟨⟨⟨by simp [zq7,hrl],by simp [zq7]; omega⟩,by simp [zq7]; omega⟩,fun c hc=>?_⟩
  obtain ⟨z,hzm,rfl⟩:=List.mem_map.1 hc
  obtain ⟨j,hj⟩:=List.getElem?_of_mem hzm
  have hjl:=zb0 hj
  have e:gz g i j=z:=by simp [gz,hrow,hj]
  have:=hz i j hil (by omega)
  rw [e]at this
  unfold zc9 z6h
  rw [UInt8.toNat_ofNat_of_lt' (by show 97+z.toNat<256; omega)]
  simp only[qB,decide_eq_true_eq]
  omega
 rw [this]
 simp only[Bool.true_and,qB,decide_eq_true_eq]
 omega
def nm (g:List (List Int)):List Txt:=zfy (zG g)
structure NmOk (g:List (List Int)) (H W:Nat):Prop where
 gw:GW g H W
 le:(zaq g W H).2.length≤9
theorem NmOk.bound {g:List (List Int)} {H W:Nat} (h:NmOk g H W) {i j:Nat} (hi:i<H) (hj:j<W):0≤gz (zG g) i j∧gz (zG g) i j≤8:=by
 have h1:=ygy h.gw hi hj
 have h2:=h.le
 omega
theorem NmOk.hd {g:List (List Int)} {H W:Nat} (h:NmOk g H W):(nm g).length=H∧(zao (nm g)).length=W:=z8m (z20 h.gw)
theorem NmOk.pat {g:List (List Int)} {H W:Nat} (h:NmOk g H W):Pat (zcf (nm g)) g H W:=by
 refine Pat.trans (fun i j i' j' hi hj hi' hj'=>?_) (yf6 h.gw)
 have b1:=h.bound hi hj
 have b2:=h.bound hi' hj'
 unfold nm
 rw [zs5 (z20 h.gw) hi hj b1.1 (by omega),zs5 (z20 h.gw) hi' hj' b2.1 (by omega)]
 constructor <;> intro e <;> omega
theorem NmOk.gP {g:List (List Int)} {H W:Nat} (h:NmOk g H W):gP (nm g)=zG g∧rP (nm g)=(zaq g W H).2:=by
 rw [z3e,z7n,h.hd.1,h.hd.2,h.gw.zG.1]
 exact ⟨zto h.pat H (qR _),(zk6 h.pat H (qR _)).2⟩
theorem NmOk.named {g:List (List Int)} {H W:Nat} (h:NmOk g H W):Named (nm g):=by
 refine ⟨z8l (z20 h.gw) fun i j hi hj=>by have:=h.bound hi hj; omega,?_⟩
 rw [h.gP.1]; rfl
theorem NmOk.cell {g:List (List Int)} {H W:Nat} (h:NmOk g H W) {i j:Nat} (hi:i<H) (hj:j<W):zal (nm g) i j=gz (zG g) i j:=by
 rw [← h.named.cell (by rw [h.hd.1]; exact hi) (by rw [h.hd.2]; exact hj),h.gP.1]
structure Cells (c:Nat→Nat→Nat) (g:List (List Int)) (H W:Nat):Prop where
 gw:GW g H W
 at_:∀ i j,i<H→j<W→gz g i j=((c i j:Nat):Int)
structure Ren (c:Nat→Nat→Nat) (H W:Nat) (t:List Txt):Prop where
 hl:t.length=H
 wl:(zao t).length=W
 pat:∀ i j i' j',i<H→j<W→i'<H→j'<W→(cn (gP t) i j=cn (gP t) i' j'↔c i j=c i' j')
section
variable {c c':Nat→Nat→Nat} {H W:Nat}
theorem TC.map {R S:Nat→Nat→Prop} {f:Nat→Nat} (h:∀ a b,R a b→S (f a) (f b)) {a b:Nat} (k:TC R a b):TC S (f a) (f b):=by
 induction k with
 | one k=>exact .one (h _ _ k)
 | tail _ k ih=>exact .tail ih (h _ _ k)
structure Iso (p t:List Txt) (L U:Nat→Nat→Prop) (σ:Nat→Nat):Prop where
 pl:zbo t=true
 n:(rP t).length=(rP p).length
 lt:∀ a,a<(rP p).length→σ a<(rP p).length
 inj:∀ a b,a<(rP p).length→b<(rP p).length→σ a=σ b→a=b
 lf:∀ a b,a<(rP p).length→b<(rP p).length→(Lf t (σ a) (σ b)↔L a b)
 ab:∀ a b,a<(rP p).length→b<(rP p).length→(Ab t (σ a) (σ b)↔U a b)
theorem Iso.imp {p t:List Txt} {L U L' U':Nat→Nat→Prop} {σ:Nat→Nat} (h:Iso p t L U σ) (hL:∀ a b,a<(rP p).length→b<(rP p).length→(L a b↔L' a b)) (hU:∀ a b,a<(rP p).length→b<(rP p).length→(U a b↔U' a b)):Iso p t L' U' σ :=
 ⟨h.pl,h.n,h.lt,h.inj,fun a b ha hb=>(h.lf a b ha hb).trans (hL a b ha hb),fun a b ha hb=>(h.ab a b ha hb).trans (hU a b ha hb)⟩
structure Fold1 (f:Nat→Nat) (m n:Nat):Prop where
 pos:1≤m
 z:f 0=0
 s:∀ i,i+1<m→f (i+1)=f i∨f (i+1)=f i+1
 e:f (m - 1)+1=n
theorem Fold1.mono {f:Nat→Nat} {m n:Nat} (h:Fold1 f m n):∀ {i j:Nat},i≤j→j<m→f i≤f j:=by
 intro i j hij
 induction j with
 | zero=>intro _; rw [show i=0 by omega]; exact qR _
 | succ j ih =>
  intro hj
  by_cases e:i=j+1
  ·subst e; exact qR _
  have h1:=ih (by omega) (by omega)
  have:=h.s j hj
  omega
theorem Fold1.lt {f:Nat→Nat} {m n i:Nat} (h:Fold1 f m n) (hi:i<m):f i<n:=by
 have:=h.mono (i:=i) (j:=m - 1) (by omega) (by have:=h.pos; omega)
 have:=h.e
 omega
theorem Fold1.mid {f:Nat→Nat} {m n i:Nat} (h:Fold1 f m n) {v:Nat}:∀ {j:Nat},i≤j→j<m→f i≤v→v≤f j→∃ r,i≤r∧r≤j∧f r=v:=by
 intro j
 induction j with
 | zero=>intro h1 h2 h3 h4; exact ⟨0,by omega,qR _,by rw [show i=0 by omega]at h3; omega⟩
 | succ j ih =>
  intro h1 h2 h3 h4
  by_cases e:f (j+1)=v
  ·exact ⟨j+1,h1,qR _,e⟩
  by_cases e2:i=j+1
  ·subst e2; omega
  have:=h.s j h2
  obtain ⟨r,r1,r2,r3⟩:=ih (by omega) (by omega) h3 (by omega)
  exact ⟨r,r1,by omega,r3⟩
theorem Fold1.last {f:Nat→Nat} {m n v:Nat} (h:Fold1 f m n) (hv:v+1<n):∃ r,r+1<m∧f r=v∧f (r+1)=v+1:=by
 have hp:=h.pos
 have he:=h.e
 obtain ⟨e,h1,h2,h3,h4⟩:=zy3 (P:=fun r=>f r≤v) (i:=0) (n:=m - 1) (by omega) (by rw [h.z]; omega) (by omega)
 have:=h.s e (by omega)
 exact ⟨e,by omega,by omega,by omega⟩
theorem DL.fold {f g:Nat→Nat} {H' W':Nat} (hf:Fold1 f H H') (hg:Fold1 g W W') (hc:∀ i j,i<H→j<W→c i j=c' (f i) (g j)) {a b:Nat}:DL c H W a b↔DL c' H' W' a b:=by
 constructor
 ·rintro ⟨j,i1,i2,h1,h2,h3,run,rfl,rfl⟩
  have hgj:g (j+1)=g j+1:=by
   rcases hg.s j h1 with e | e
   ·have:=run i1 (by omega) (by omega)
    rw [hc i1 j h2 (by omega),hc i1 (j+1) h2 h1,e]at this
    exact absurd rfl this
   exact e
  have hlt:=hg.lt h1
  refine ⟨g j,f i1,f i2,by omega,hf.lt h2,hf.lt h3,fun r r1 r2=>?_,hc _ _ h2 (by omega),by rw [hc _ _ h3 h1,hgj]⟩
  have:∃ r0,min i1 i2≤r0∧r0≤max i1 i2∧f r0=r:=by
   rcases Nat.le_total i1 i2 with q | q
   ·have:=hf.mono q h3
    obtain ⟨r0,q1,q2,q3⟩:=hf.mid (v:=r) q h3 (by omega) (by omega)
    exact ⟨r0,by omega,by omega,q3⟩
   have:=hf.mono q h2
   obtain ⟨r0,q1,q2,q3⟩:=hf.mid (v:=r) q h2 (by omega) (by omega)
   exact ⟨r0,by omega,by omega,q3⟩
  obtain ⟨r0,q1,q2,rfl⟩:=this
  have:=run r0 q1 q2
  rw [hc r0 j (by omega) (by omega),hc r0 (j+1) (by omega) h1,hgj]at this
  exact this
 rintro ⟨j,i1,i2,h1,h2,h3,run,rfl,rfl⟩
 obtain ⟨j0,k1,k2,k3⟩:=hg.last h1
 have hfe:=hf.e
 have hfp:=hf.pos
 obtain ⟨r1,-,q2,q3⟩:=hf.mid (i:=0) (j:=H - 1) (v:=i1) (by omega) (by omega) (by rw [hf.z]; omega) (by omega)
 obtain ⟨r2,-,q5,q6⟩:=hf.mid (i:=0) (j:=H - 1) (v:=i2) (by omega) (by omega) (by rw [hf.z]; omega) (by omega)
 refine ⟨j0,r1,r2,k1,by omega,by omega,fun r s1 s2=>?_,by rw [hc _ _ (by omega) (by omega),q3,k2],by rw [hc _ _ (by omega) (by omega),q6,k3]⟩
 rw [hc r j0 (by omega) (by omega),hc r (j0+1) (by omega) k1,k2,k3]
 refine run (f r) ?_ ?_
 ·rcases Nat.le_total r1 r2 with q | q
  ·have:=hf.mono (show r1≤r by omega) (show r<H by omega); omega
  have:=hf.mono (show r2≤r by omega) (show r<H by omega); omega
 rcases Nat.le_total r1 r2 with q | q
 ·have:=hf.mono (show r≤r2 by omega) (show r2<H by omega); omega
 have:=hf.mono (show r≤r1 by omega) (show r1<H by omega); omega
theorem DU.fold {f g:Nat→Nat} {H' W':Nat} (hf:Fold1 f H H') (hg:Fold1 g W W') (hc:∀ i j,i<H→j<W→c i j=c' (f i) (g j)) {a b:Nat}:DU c H W a b↔DU c' H' W' a b :=
 DL.fold (c:=tr c) (c':=tr c') hg hf fun i j hi hj=>hc j i hj hi
theorem TC.iff {R S:Nat→Nat→Prop} (h:∀ a b,R a b↔S a b) {a b:Nat}:TC R a b↔TC S a b:=⟨TC.mono fun a b=>(h a b).1,TC.mono fun a b=>(h a b).2⟩
end
section
variable {M:List (List Bool)} {ms:List Nat} {n:Nat} {rk:Nat→Nat} {ws out:List Int}
abbrev ones (n:Nat):List Int:=List.replicate n 1
def RB (M:List (List Bool)) (n b:Nat):Int:=HB (revM n M) (ones n) n b
def yga (M:List (List Bool)) (n:Nat) (out:List Int):Prop:=out.length=n∧∀ a,a<n→0≤zd2 out a∧zd2 out a≤RB M n a
theorem yga.set (h:yga M n out) {a:Nat} {v:Int} (ha:a<n) (h0:0≤v) (h1:v≤RB M n a):yga M n (out.set a v):=by
 refine ⟨by simp [h.1],fun y hy=>?_⟩
 rw [z9p (by rw [h.1]; exact ha)]
 split
 ·rename_i e; subst e; exact ⟨h0,h1⟩
 exact h.2 y hy
end
section
variable {p:List Txt}
def zhr (p:List Txt) (i:Nat):Nat:=((srt p true)[i]?.getD 0).toNat
theorem zel (hp:zbo p=true) {i:Nat} (hi:i<(rP p).length):zhr p i<(rP p).length∧ahK p true (zhr p i)=i∧(srt p true)[i]?=some (zhr p i:Int):=by
 obtain ⟨a,h1,h2,h3⟩:=znj (below:=true) hp hi
 have e:zhr p i=a:=by unfold zhr; rw [h3]; simp
 rw [e]; exact ⟨h1,h2,h3⟩
theorem zis (hp:zbo p=true) {a:Nat} (ha:a<(rP p).length):zhr p (ahK p true a)=a:=by
 have h:=z2p (below:=true) hp ha
 unfold zhr; rw [h]; simp
def xI (p:List Txt) (i:Nat):Int:=((ahK p false (zhr p i):Nat):Int)
theorem ya6 (hp:zbo p=true) {i:Nat} (hi:i<(rP p).length):(zd5 p)[i]?=some (xI p i):=zo1 hp (zel hp hi).2.2
theorem z82 (hp:zbo p=true) {k i:Nat} (hk:k<i) (hi:i<(rP p).length) :
  (xI p k<xI p i→zc2 (lfM p) (zhr p k) (zhr p i)=true)∧(¬ xI p k<xI p i→zc2 (abM p) (zhr p i) (zhr p k)=true):=by
 obtain ⟨a1,a2,-⟩:=zel hp hi
 obtain ⟨b1,b2,-⟩:=zel hp (show k<(rP p).length by omega)
 have h2:=(zmu (below:=true) hp b1 a1).2 (by omega)
 have h1:=zmu (below:=false) hp b1 a1
 simp only[bfK,bf1,bf2,if_true,qF,if_false,Bool.or_eq_true]at h1 h2
 unfold xI
 constructor
 ·intro h
  have h3:=h1.2 (by omega)
  rcases h2 with h2 | h2
  ·exact h2
  rcases h3 with h3 | h3
  ·exact h3
  exact absurd h3 (Ab.only hp a1 b1 h2).1
 intro h
 rcases h2 with h2 | h2
 ·exact absurd (h1.1 (.inl h2)) (by omega)
 exact h2
theorem zqf (hp:zbo p=true) {a i:Nat} (ha:a<(rP p).length) (hi:i<(rP p).length) (h:zc2 (lfM p) a (zhr p i)=true):ahK p true a<i∧xI p (ahK p true a)<xI p i:=by
 obtain ⟨a1,a2,-⟩:=zel hp hi
 have h2:=(zmu (below:=true) hp ha a1).1 (by simp only[bfK,bf2,if_true,Bool.or_eq_true]; exact .inl h)
 have h1:=(zmu (below:=false) hp ha a1).1 (by simp only[bfK,bf1,qF,if_false,Bool.or_eq_true]; exact .inl h)
 unfold xI
 rw [zis hp ha]
 omega
theorem zpd (hp:zbo p=true) {b i:Nat} (hb:b<(rP p).length) (hi:i<(rP p).length) (h:zc2 (abM p) (zhr p i) b=true):ahK p true b<i∧¬ xI p (ahK p true b)<xI p i:=by
 obtain ⟨a1,a2,-⟩:=zel hp hi
 have h2:=(zmu (below:=true) hp hb a1).1 (by simp only[bfK,bf2,if_true,Bool.or_eq_true]; exact .inr h)
 have h1:=(zmu (below:=false) hp a1 hb).1 (by simp only[bfK,bf1,qF,if_false,Bool.or_eq_true]; exact .inr h)
 unfold xI
 rw [zis hp hb]
 omega
end
section
variable {p t:List Txt} {L U:Nat→Nat→Prop} {σ:Nat→Nat}
end
section
variable {c:Nat→Nat→Nat} {H W:Nat}
theorem DL.cols (h:Pl c H W) {i j i' j':Nat} (hi:i<H) (hj:j<W) (hi':i'<H) (hj':j'<W) (hd:DL c H W (c i j) (c i' j')):j<j':=by
 obtain ⟨k,i1,i2,h1,h2,h3,run,e1,e2⟩:=hd
 have a1:j≤k:=by
  refine Classical.byContradiction fun hn=>?_
  have:=h.rect (i:=i1) (j:=k) (i':=i) (j':=j) i1 (k+1) h2 hi (by omega) hj e1.symm (by omega) (by omega) (by omega) (by omega)
  exact run i1 (by omega) (by omega) this.symm
 have a2:k+1≤j':=by
  refine Classical.byContradiction fun hn=>?_
  have:=h.rect (i:=i2) (j:=k+1) (i':=i') (j':=j') i2 k h3 hi' h1 hj' e2.symm (by omega) (by omega) (by omega) (by omega)
  exact run i2 (by omega) (by omega) this
 omega
theorem DL.cells {a b:Nat} (hd:DL c H W a b):(∃ i j,i<H∧j<W∧c i j=a)∧∃ i j,i<H∧j<W∧c i j=b:=by
 obtain ⟨k,i1,i2,h1,h2,h3,run,e1,e2⟩:=hd
 exact ⟨⟨i1,k,h2,by omega,e1.symm⟩,i2,k+1,h3,h1,e2.symm⟩
theorem TC.cols (h:Pl c H W) {a b:Nat} (hd:TC (DL c H W) a b):∀ {i j i' j':Nat},i<H→j<W→i'<H→j'<W→c i j=a→c i' j'=b→j<j':=by
 induction hd with
 | one hd=>intro i j i' j' h1 h2 h3 h4 e1 e2; subst e1; subst e2; exact hd.cols h h1 h2 h3 h4
 | tail _ hd ih =>
  intro i j i' j' h1 h2 h3 h4 e1 e2
  obtain ⟨⟨x,y,hx,hy,e3⟩,-⟩:=hd.cells
  have q1:=ih h1 h2 hx hy e1 e3
  subst e2; rw [← e3]at hd
  have q2:=hd.cols h hx hy h3 h4
  omega
def Thru (c:Nat→Nat→Nat) (H k:Nat):Prop:=∀ r,r<H→c r (k - 1)≠c r k
theorem zyf (h:Pl c H W) {k:Nat} (h1:1≤k) (h2:k<W) (ht:Thru c H k) {i j i' j':Nat} (hi:i<H) (hj:j<k) (hi':i'<H) (hj':k≤j') (hw:j'<W):TC (DL c H W) (c i j) (c i' j'):=by
 have q:TC (DL c H W) (c i (k - 1)) (c i' k) := .one ⟨k - 1,i,i',by omega,hi,hi',fun r r1 r2=>by
  have:=ht r (by omega)
  rw [show k - 1+1=k by omega]; exact this,rfl,by rw [show k - 1+1=k by omega]⟩
 have q1:c i j=c i (k - 1)∨TC (DL c H W) (c i j) (c i (k - 1)):=by
  by_cases e:c i j=c i (k - 1)
  ·exact .inl e
  exact .inr (zit hi (by omega) (by omega) e)
 have q2:c i' k=c i' j'∨TC (DL c H W) (c i' k) (c i' j'):=by
  by_cases e:c i' k=c i' j'
  ·exact .inl e
  exact .inr (zit hi' hj' hw e)
 have q3:TC (DL c H W) (c i j) (c i' k):=by
  rcases q1 with e | e
  ·rw [e]; exact q
  exact e.trans q
 rcases q2 with e | e
 ·rw [← e]; exact q3
 exact q3.trans e
theorem zwn (h:Pl c H W) (hH:1≤H) {P:Nat→Prop} (ha:∃ i j,i<H∧j<W∧P (c i j)) (hb:∃ i j,i<H∧j<W∧¬ P (c i j))
  (hl:∀ i j i' j',i<H→j<W→i'<H→j'<W→P (c i j)→¬ P (c i' j')→TC (DL c H W) (c i j) (c i' j')):∃ k,1≤k∧k<W∧Thru c H k∧∀ i j,i<H→j<W→(P (c i j)↔j<k):=by
 obtain ⟨i0,j0,hi0,hj0,hp0⟩:=ha
 obtain ⟨i1,j1,hi1,hj1,hp1⟩:=hb
 -- the first column with a cell that isn't in P
 obtain ⟨k,hk,⟨r,hr,hrp⟩,hmin⟩:=zlu (P:=fun k=>∃ r,r<H∧¬ P (c r k)) ⟨i1,hi1,hp1⟩
 have hkW:k<W:=by omega
 have all:∀ i j,i<H→j<W→(P (c i j)↔j<k):=by
  intro i j hi hj
  constructor
  ·intro hp
   have:=TC.cols h (hl i j r k hi hj hr hkW hp hrp) hi hj hr hkW rfl rfl
   exact this
  intro hlt
  exact Classical.byContradiction fun hn=>hmin j hlt ⟨i,hi,hn⟩
 refine ⟨k,?_,hkW,fun r hr e=>?_,all⟩
 ·have:=(all i0 j0 hi0 hj0).1 hp0; omega
 have hk1:1≤k:=by have:=(all i0 j0 hi0 hj0).1 hp0; omega
 have q1:=(all r (k - 1) hr (by omega)).2 (by omega)
 have q2:=(all r k hr hkW)
 rw [e]at q1
 have:=q2.1 q1; omega
variable {p:List Txt}
end
section
section
variable {c:Nat→Nat→Nat} {H W:Nat}
def zi8 (c:Nat→Nat→Nat) (t:Pt) (i j:Nat):Nat:=c (t.r+i) (t.c+j)
theorem Pl.sub (h:Pl c H W) {t:Pt} (ht:t.In H W):Pl (zi8 c t) t.h t.w:=by
 obtain ⟨t1,t2,t3,t4⟩:=ht
 constructor
 ·intro i j i' j' k l a b c' d e f1 f2 f3 f4
  exact h.rect (t.r+k) (t.c+l) (by omega) (by omega) (by omega) (by omega) e (by omega) (by omega) (by omega) (by omega)
 intro i j a b e1 e2 e3
 exact h.plain (i:=t.r+i) (j:=t.c+j) (by omega) (by omega) e1 e2 e3
theorem DL.sub {t:Pt} (ht:t.In H W) {a b:Nat} (h:DL (zi8 c t) t.h t.w a b):DL c H W a b:=by
 obtain ⟨t1,t2,t3,t4⟩:=ht
 obtain ⟨j,i1,i2,a1,a2,a3,a4,a5,a6⟩:=h
 refine ⟨t.c+j,t.r+i1,t.r+i2,by omega,by omega,by omega,fun r h1 h2=>?_,a5,a6⟩
 have:=a4 (r - t.r) (by omega) (by omega)
 simp only[zi8]at this
 rwa [show t.r+(r - t.r)=r by omega]at this
theorem DU.sub {t:Pt} (ht:t.In H W) {a b:Nat} (h:DU (zi8 c t) t.h t.w a b):DU c H W a b:=by
 obtain ⟨t1,t2,t3,t4⟩:=ht
 obtain ⟨i,j1,j2,a1,a2,a3,a4,a5,a6⟩:=h
 refine ⟨t.r+i,t.c+j1,t.c+j2,by omega,by omega,by omega,fun r h1 h2=>?_,a5,a6⟩
 have:=a4 (r - t.c) (by omega) (by omega)
 simp only[zi8]at this
 rwa [show t.c+(r - t.c)=r by omega]at this
end
section
variable {p:List Txt}
theorem z5j (hp:zbo p=true) {t:Pt} (hw:Whole (zal p) p.length (zao p).length t) {q:Bool × Nat} (hq:zeb (zal p) t=some q) {x y:CT} (hx:zdi (zal p) (t.one q)=some x) (hy:zdi (zal p) (t.two q)=some y) :
  ∀ a b,a∈x.leaves→b∈y.leaves→(q.1=false→Lf p a.toNat b.toNat)∧(q.1=true→Ab p a.toNat b.toNat):=by
 intro a b ha hb
 have hpl:=zdw hp
 have hi:=hw.inn
 obtain ⟨i1,i2,_,_⟩:=hi.cut hq
 obtain ⟨w1,w2⟩:=hw.cut (zh1 hpl) hq
 obtain ⟨_,m1,_⟩:=zfz (zh1 hpl) _ w1 (qR _) hx
 obtain ⟨_,m2,_⟩:=zfz (zh1 hpl) _ w2 (qR _) hy
 obtain ⟨r1,c1,e1,e2,e3,e4,e5⟩:=(m1 a).1 ha
 obtain ⟨r2,c2,f1,f2,f3,f4,f5⟩:=(m2 b).1 hb
 have hin:=hi
 unfold Pt.In at hin i1 i2
 have hP:=(znb hp).sub hi
 obtain ⟨k1,k2⟩:=zgz hq
 obtain ⟨lv,k⟩:=q
 have hra:=zej hpl (i:=r1) (j:=c1) (by omega) (by omega)
 have hrb:=zej hpl (i:=r2) (j:=c2) (by omega) (by omega)
 have ca:=zfs hpl (i:=r1) (j:=c1) (by omega) (by omega)
 have cb:=zfs hpl (i:=r2) (j:=c2) (by omega) (by omega)
 have ha':a.toNat<(rP p).length:=by omega
 have hb':b.toNat<(rP p).length:=by omega
 have ea:cn (gP p) r1 c1=a.toNat:=by omega
 have eb:cn (gP p) r2 c2=b.toNat:=by omega
 have cz:∀ i j,i<p.length→j<(zao p).length→(cn (gP p) i j:Int)=zal p i j:=fun i j h1 h2=>zfs hpl h1 h2
 constructor
 ·rintro rfl
  simp only[qF,if_false]at k2
  simp only[Pt.one,Pt.two,qF,if_false] at *
  have hth:=zu4.1 k2.2
  have hT:Thru (zi8 (cn (gP p)) t) t.h k:=by
   intro r hr e
   have:=hth r hr
   have g1:=cz (t.r+r) (t.c+k - 1) (by omega) (by omega)
   have g2:=cz (t.r+r) (t.c+k) (by omega) (by omega)
   simp only[zi8]at e
   rw [show t.c+(k - 1)=t.c+k - 1 by omega]at e
   omega
  have h:=zyf hP k1 k2.1 hT (i:=r1 - t.r) (j:=c1 - t.c) (i':=r2 - t.r) (j':=c2 - t.c) (by omega) (by omega) (by omega) (by omega) (by omega)
  have h2:TC (DL (cn (gP p)) p.length (zao p).length) (zi8 (cn (gP p)) t (r1 - t.r) (c1 - t.c)) (zi8 (cn (gP p)) t (r2 - t.r) (c2 - t.c)):=h.mono fun a b hd=>DL.sub hi hd
  simp only[zi8]at h2
  rw [show t.r+(r1 - t.r)=r1 by omega,show t.c+(c1 - t.c)=c1 by omega,show t.r+(r2 - t.r)=r2 by omega,show t.c+(c2 - t.c)=c2 by omega,ea,eb]at h2
  exact (Lf.iff ha' hb').2 h2
 rintro rfl
 simp only[if_true]at k2
 simp only[Pt.one,Pt.two,if_true] at *
 have hth:=zu3.1 k2.2
 have hT:Thru (tr (zi8 (cn (gP p)) t)) t.w k:=by
  intro r hr e
  have:=hth r hr
  have g1:=cz (t.r+k - 1) (t.c+r) (by omega) (by omega)
  have g2:=cz (t.r+k) (t.c+r) (by omega) (by omega)
  simp only[tr,zi8]at e
  rw [show t.r+(k - 1)=t.r+k - 1 by omega]at e
  omega
 have h:=zyf hP.ex k1 k2.1 hT (i:=c1 - t.c) (j:=r1 - t.r) (i':=c2 - t.c) (j':=r2 - t.r) (by omega) (by omega) (by omega) (by omega) (by omega)
 have h2:TC (DU (cn (gP p)) p.length (zao p).length) (zi8 (cn (gP p)) t (r1 - t.r) (c1 - t.c)) (zi8 (cn (gP p)) t (r2 - t.r) (c2 - t.c)):=h.mono fun a b hd=>DU.sub hi hd.ex
 simp only[zi8]at h2
 rw [show t.r+(r1 - t.r)=r1 by omega,show t.c+(c1 - t.c)=c1 by omega,show t.r+(r2 - t.r)=r2 by omega,show t.c+(c2 - t.c)=c2 by omega,ea,eb]at h2
 exact (Ab.iff ha' hb').2 h2
end
inductive Ch (M:List (List Bool)) (ws:List Int) (a:Nat):Nat→Int→Prop
 | one:Ch M ws a a (zd2 ws a)
 | snoc {b d:Nat} {s:Int}:Ch M ws a b s→zc2 M b d=true→Ch M ws a d (s+zd2 ws d)
section
variable {M:List (List Bool)} {ws:List Int} {n:Nat} {rk:Nat→Nat}
theorem Ch.le (hu:Up M n rk) (hsq:∀ a b,zc2 M a b=true→a<n) {a b:Nat} {s:Int} (h:Ch M ws a b s):b<n→s≤HB M ws n b:=by
 induction h with
 | one=>intro hb; rw [yba hu hb]; have:=yev (M:=M) (ws:=ws) (n:=n) a; omega
 | snoc k hk ih =>
  intro hb
  have h1:=ih (hsq _ _ hk)
  have h2:=yeu (ws:=ws) (hsq _ _ hk) hk
  rw [yba hu hb]; omega
end
section
variable {p:List Txt}
end
end
section
inductive Sp (L U:Nat→Nat→Prop):(Nat→Prop)→Prop
 | one {A:Nat→Prop} (a:Nat):A a→(∀ b,A b→b=a)→Sp L U A
 | left {A:Nat→Prop} (B:Nat→Prop):(∃ a,A a∧B a)→(∃ a,A a∧¬ B a)→(∀ a b,A a→B a→A b→¬ B b→L a b)→Sp L U (fun a=>A a∧B a)→Sp L U (fun a=>A a∧¬ B a)→Sp L U A
 | up {A:Nat→Prop} (B:Nat→Prop):(∃ a,A a∧B a)→(∃ a,A a∧¬ B a)→(∀ a b,A a→B a→A b→¬ B b→U a b)→Sp L U (fun a=>A a∧B a)→Sp L U (fun a=>A a∧¬ B a)→Sp L U A
theorem Sp.congr {L U:Nat→Nat→Prop} {A A':Nat→Prop} (h:Sp L U A) (e:∀ a,A a↔A' a):Sp L U A':=by
 have:A=A':=funext fun a=>propext (e a)
 rwa [← this]
theorem Sp.ne {L U:Nat→Nat→Prop} {A:Nat→Prop} (h:Sp L U A):∃ a,A a:=by
 cases h with
 | one a h _=>exact ⟨a,h⟩
 | left B h=>obtain ⟨a,h,_⟩:=h; exact ⟨a,h⟩
 | up B h=>obtain ⟨a,h,_⟩:=h; exact ⟨a,h⟩
theorem Sp.map {L U L' U':Nat→Nat→Prop} {A:Nat→Prop} (g:Nat→Nat) (h:Sp L U A):∀ {A':Nat→Prop},(∀ i,A' i→A (g i))→(∀ a,A a→∃ i,A' i∧g i=a)→(∀ i j,A' i→A' j→g i=g j→i=j) →
  (∀ i j,A' i→A' j→L (g i) (g j)→L' i j)→(∀ i j,A' i→A' j→U (g i) (g j)→U' i j)→Sp L' U' A':=by
 induction h with
 | one a ha hu =>
  intro A' h1 h2 h3 h4 h5
  obtain ⟨i,hi,e⟩:=h2 a ha
  exact .one i hi fun j hj=>h3 j i hj hi ((hu _ (h1 j hj)).trans e.symm)
 | left B hb hn hl _ _ i1 i2 =>
  intro A' h1 h2 h3 h4 h5
  refine .left (fun i=>B (g i)) ?_ ?_ (fun a b ha hba hb' hnb=>h4 a b ha hb' (hl _ _ (h1 a ha) hba (h1 b hb') hnb)) (i1 (fun i hi=>⟨h1 i hi.1,hi.2⟩) (fun a ha=>?_) (fun i j hi hj=>h3 i j hi.1 hj.1) (fun i j hi hj=>h4 i j hi.1 hj.1) fun i j hi hj=>h5 i j hi.1 hj.1)
   (i2 (fun i hi=>⟨h1 i hi.1,hi.2⟩) (fun a ha=>?_) (fun i j hi hj=>h3 i j hi.1 hj.1) (fun i j hi hj=>h4 i j hi.1 hj.1) fun i j hi hj=>h5 i j hi.1 hj.1)
  ·obtain ⟨a,ha,hb⟩:=hb; obtain ⟨i,hi,e⟩:=h2 a ha; exact ⟨i,hi,by rw [e]; exact hb⟩
  ·obtain ⟨a,ha,hb⟩:=hn; obtain ⟨i,hi,e⟩:=h2 a ha; exact ⟨i,hi,by rw [e]; exact hb⟩
  ·obtain ⟨i,hi,e⟩:=h2 a ha.1; exact ⟨i,⟨hi,by rw [e]; exact ha.2⟩,e⟩
  obtain ⟨i,hi,e⟩:=h2 a ha.1; exact ⟨i,⟨hi,by rw [e]; exact ha.2⟩,e⟩
 | up B hb hn hl _ _ i1 i2 =>
  intro A' h1 h2 h3 h4 h5
  refine .up (fun i=>B (g i)) ?_ ?_ (fun a b ha hba hb' hnb=>h5 a b ha hb' (hl _ _ (h1 a ha) hba (h1 b hb') hnb)) (i1 (fun i hi=>⟨h1 i hi.1,hi.2⟩) (fun a ha=>?_) (fun i j hi hj=>h3 i j hi.1 hj.1) (fun i j hi hj=>h4 i j hi.1 hj.1) fun i j hi hj=>h5 i j hi.1 hj.1)
   (i2 (fun i hi=>⟨h1 i hi.1,hi.2⟩) (fun a ha=>?_) (fun i j hi hj=>h3 i j hi.1 hj.1) (fun i j hi hj=>h4 i j hi.1 hj.1) fun i j hi hj=>h5 i j hi.1 hj.1)
  ·obtain ⟨a,ha,hb⟩:=hb; obtain ⟨i,hi,e⟩:=h2 a ha; exact ⟨i,hi,by rw [e]; exact hb⟩
  ·obtain ⟨a,ha,hb⟩:=hn; obtain ⟨i,hi,e⟩:=h2 a ha; exact ⟨i,hi,by rw [e]; exact hb⟩
  ·obtain ⟨i,hi,e⟩:=h2 a ha.1; exact ⟨i,⟨hi,by rw [e]; exact ha.2⟩,e⟩
  obtain ⟨i,hi,e⟩:=h2 a ha.1; exact ⟨i,⟨hi,by rw [e]; exact ha.2⟩,e⟩
theorem Sp.sub {L U:Nat→Nat→Prop} {A:Nat→Prop} (h:Sp L U A):∀ {A':Nat→Prop},(∀ a,A' a→A a)→(∃ a,A' a)→Sp L U A':=by
 induction h with
 | one a ha hu =>
  intro A' h1 ⟨b,hb⟩
  exact .one b hb fun d hd=>(hu d (h1 d hd)).trans (hu b (h1 b hb)).symm
 | left B _ _ hl _ _ i1 i2 =>
  intro A' h1 h2
  by_cases hb:∃ a,A' a∧B a
  ·by_cases hn:∃ a,A' a∧¬ B a
   ·exact .left B hb hn (fun a b ha hba hb' hnb=>hl a b (h1 a ha) hba (h1 b hb') hnb) (i1 (fun a ha=>⟨h1 a ha.1,ha.2⟩) hb) (i2 (fun a ha=>⟨h1 a ha.1,ha.2⟩) hn)
   exact i1 (fun a ha=>⟨h1 a ha,Classical.byContradiction fun h=>hn ⟨a,ha,h⟩⟩) h2
  exact i2 (fun a ha=>⟨h1 a ha,fun h=>hb ⟨a,ha,h⟩⟩) h2
 | up B _ _ hl _ _ i1 i2 =>
  intro A' h1 h2
  by_cases hb:∃ a,A' a∧B a
  ·by_cases hn:∃ a,A' a∧¬ B a
   ·exact .up B hb hn (fun a b ha hba hb' hnb=>hl a b (h1 a ha) hba (h1 b hb') hnb) (i1 (fun a ha=>⟨h1 a ha.1,ha.2⟩) hb) (i2 (fun a ha=>⟨h1 a ha.1,ha.2⟩) hn)
   exact i1 (fun a ha=>⟨h1 a ha,Classical.byContradiction fun h=>hn ⟨a,ha,h⟩⟩) h2
  exact i2 (fun a ha=>⟨h1 a ha,fun h=>hb ⟨a,ha,h⟩⟩) h2
section
variable {p:List Txt}
def Rms (p:List Txt) (t:Pt) (v:Nat):Prop:=∃ a c,t.r≤a∧a<t.r+t.h∧t.c≤c∧c<t.c+t.w∧zal p a c=v
theorem yfm (hp:zbw p=true) {t:Pt} (h:t.In p.length (zao p).length) {v:Nat} (hv:Rms p t v):v<(rP p).length:=by
 obtain ⟨a,c,e1,e2,e3,e4,e5⟩:=hv
 unfold Pt.In at h
 have:=zej hp (i:=a) (j:=c) (by omega) (by omega)
 omega
theorem zt8 (hp:zbw p=true) {t:Pt} (hw:Whole (zal p) p.length (zao p).length t) {x:CT} (hx:zdi (zal p) t=some x) (v:Nat):(v:Int)∈x.leaves↔Rms p t v :=
 (zfz (zh1 hp) _ hw (qR _) hx).2.1 v
theorem z7x (hp:zbw p=true) {t:Pt} (hw:Whole (zal p) p.length (zao p).length t) {q:Bool × Nat} (hq:zeb (zal p) t=some q) (v:Nat) :
  (Rms p t v∧Rms p (t.one q) v↔Rms p (t.one q) v)∧(Rms p t v∧¬ Rms p (t.one q) v↔Rms p (t.two q) v):=by
 obtain ⟨w1,w2⟩:=hw.cut (zh1 hp) hq
 have i1:=w1.inn; have i2:=w2.inn; have i0:=hw.inn
 obtain ⟨k1,k2⟩:=zgz hq
 obtain ⟨lv,k⟩:=q
 have h1:Rms p (t.one (lv,k)) v→Rms p t v:=by
  rintro ⟨a,c,e1,e2,e3,e4,e5⟩
  refine ⟨a,c,?_⟩
  cases lv <;> simp only[Pt.one,qF,if_false,if_true] at * <;> exact ⟨by omega,by omega,by omega,by omega,e5⟩
 have h2:Rms p (t.two (lv,k)) v→Rms p t v∧¬ Rms p (t.one (lv,k)) v:=by
  rintro ⟨a,c,e1,e2,e3,e4,e5⟩
  refine ⟨⟨a,c,?_⟩,?_⟩
  ·cases lv <;> simp only[Pt.two,qF,if_false,if_true] at * <;> exact ⟨by omega,by omega,by omega,by omega,e5⟩
  rintro ⟨a',c',f1,f2,f3,f4,f5⟩
  unfold Pt.In at i1 i2
  have:=w1.all a' c' a c (by omega) (by omega) (by omega) (by omega) (f5.trans e5.symm) f1 f2 f3 f4
  cases lv <;> simp only[Pt.one,Pt.two,qF,if_false,if_true] at * <;> omega
 refine ⟨⟨fun h=>h.2,fun h=>⟨h1 h,h⟩⟩,⟨?_,h2⟩⟩
 rintro ⟨⟨a,c,e1,e2,e3,e4,e5⟩,hn⟩
 cases lv with
 | true =>
  simp only[Pt.one,Pt.two,if_true] at *
  rcases Nat.lt_or_ge a (t.r+k) with h | h
  ·exact absurd ⟨a,c,e1,h,e3,e4,e5⟩ hn
  exact ⟨a,c,h,by simp only; omega,e3,e4,e5⟩
 | false =>
  simp only[Pt.one,Pt.two,qF,if_false] at *
  rcases Nat.lt_or_ge c (t.c+k) with h | h
  ·exact absurd ⟨a,c,e1,e2,e3,h,e5⟩ hn
  exact ⟨a,c,e1,e2,h,by simp only; omega,e5⟩
theorem zz4 (hp:zbo p=true):∀ (n:Nat) {t:Pt} {x:CT},Whole (zal p) p.length (zao p).length t→t.h*t.w≤n→zdi (zal p) t=some x→Sp (Lf p) (Ab p) (Rms p t)
 | 0,t,x,hw,hn',_=>by have:=Nat.mul_pos hw.inn.1 hw.inn.2.1; omega
 | n+1,t,x,hw,hn',hx=>by
  have hpl:=zdw hp
  have hi:=hw.inn
  cases h1:zww (zal p) t with
  | true =>
   have hl:=zt8 hpl hw (zjq hi h1)
   have hc:=zej hpl (i:=t.r) (j:=t.c) (by unfold Pt.In at hi; omega) (by unfold Pt.In at hi; omega)
   refine .one (zal p t.r t.c).toNat ((hl _).1 (by simp [CT.leaves]; omega)) fun b hb=>?_
   have:=(hl b).2 hb
   simp only[CT.leaves,List.mem_singleton]at this
   omega
  | false =>
   cases hq:zeb (zal p) t with
   | none=>rw [zj9 hi h1 hq]at hx; cases hx
   | some q =>
    obtain ⟨i1,i2,a1,a2⟩:=hi.cut hq
    obtain ⟨w1,w2⟩:=hw.cut (zh1 hpl) hq
    rw [zhh hi h1 hq]at hx
    cases hx1:zdi (zal p) (t.one q) with
    | none=>rw [hx1]at hx; cases hx
    | some x1 =>
     cases hx2:zdi (zal p) (t.two q) with
     | none=>rw [hx1,hx2]at hx; cases hx
     | some x2 =>
      have s1:=zz4 hp n w1 (by omega) hx1
      have s2:=zz4 hp n w2 (by omega) hx2
      have hc:=z7x hpl hw hq
      have hs:=z5j hp hw hq hx1 hx2
      obtain ⟨b1,hb1⟩:=s1.ne
      obtain ⟨b2,hb2⟩:=s2.ne
      have e1:=s1.congr fun a=>((hc a).1).symm
      have e2:=s2.congr fun a=>((hc a).2).symm
      have key:∀ a b,Rms p t a→Rms p (t.one q) a→Rms p t b→¬ Rms p (t.one q) b→(q.1=false→Lf p a b)∧(q.1=true→Ab p a b):=by
       intro a b _ ha hb hnb
       have:=hs a b ((zt8 hpl w1 hx1 a).2 ha) ((zt8 hpl w2 hx2 b).2 (((hc b).2).1 ⟨hb,hnb⟩))
       simpa using this
      cases hlv:q.1 with
      | false=>exact .left (Rms p (t.one q)) ⟨b1,((hc b1).1).2 hb1⟩ ⟨b2,((hc b2).2).2 hb2⟩ (fun a b h1 h2 h3 h4=>(key a b h1 h2 h3 h4).1 hlv) e1 e2
      | true=>exact .up (Rms p (t.one q)) ⟨b1,((hc b1).1).2 hb1⟩ ⟨b2,((hc b2).2).2 hb2⟩ (fun a b h1 h2 h3 h4=>(key a b h1 h2 h3 h4).2 hlv) e1 e2
theorem zxg (hp:zbo p=true) {t:Pt} (hi:t.In p.length (zao p).length) {i j i' j':Nat} (h1:i<t.h) (h2:j<t.w) (h3:i'<t.h) (h4:j'<t.w) :
  (Lf p (zi8 (cn (gP p)) t i j) (zi8 (cn (gP p)) t i' j')→TC (DL (zi8 (cn (gP p)) t) t.h t.w) (zi8 (cn (gP p)) t i j) (zi8 (cn (gP p)) t i' j')) ∧
  (Ab p (zi8 (cn (gP p)) t i j) (zi8 (cn (gP p)) t i' j')→TC (DU (zi8 (cn (gP p)) t) t.h t.w) (zi8 (cn (gP p)) t i j) (zi8 (cn (gP p)) t i' j')):=by
 have hpl:=zdw hp
 have hP:=(znb hp).sub hi
 have hin:=hi
 unfold Pt.In at hin
 have hr:∀ i j,i<t.h→j<t.w→zi8 (cn (gP p)) t i j<(rP p).length:=by
  intro i j hi' hj'
  have:=zej hpl (i:=t.r+i) (j:=t.c+j) (by omega) (by omega)
  have:=zfs hpl (i:=t.r+i) (j:=t.c+j) (by omega) (by omega)
  simp only[zi8]; omega
 have ha:=hr i j h1 h2
 have hb:=hr i' j' h3 h4
 have gl:∀ {a b:Nat},a<(rP p).length→b<(rP p).length→TC (DL (zi8 (cn (gP p)) t) t.h t.w) a b→Lf p a b:=fun x y h=>(Lf.iff x y).2 (h.mono fun _ _=>DL.sub hi)
 have gu:∀ {a b:Nat},a<(rP p).length→b<(rP p).length→TC (DU (zi8 (cn (gP p)) t) t.h t.w) a b→Ab p a b:=fun x y h=>(Ab.iff x y).2 (h.mono fun _ _=>DU.sub hi)
 constructor
 ·intro h
  have hne:zi8 (cn (gP p)) t i j≠zi8 (cn (gP p)) t i' j':=fun e=>(Lf.only hp ha hb h).1 (by rw [e]at h ⊢; exact h)
  rcases zu5 hP h1 h2 h3 h4 hne with k | k | k | k
  ·exact k
  ·exact absurd (gl hb ha k) (Lf.only hp ha hb h).1
  ·exact absurd (gu ha hb k) (Lf.only hp ha hb h).2.1
  exact absurd (gu hb ha k) (Lf.only hp ha hb h).2.2
 intro h
 have hne:zi8 (cn (gP p)) t i j≠zi8 (cn (gP p)) t i' j':=fun e=>(Ab.only hp ha hb h).1 (by rw [e]at h ⊢; exact h)
 rcases zu5 hP h1 h2 h3 h4 hne with k | k | k | k
 ·exact absurd (gl ha hb k) (Ab.only hp ha hb h).2.1
 ·exact absurd (gl hb ha k) (Ab.only hp ha hb h).2.2
 ·exact k
 exact absurd (gu hb ha k) (Ab.only hp ha hb h).1
theorem zz0 (hp:zbo p=true):∀ (n:Nat) {t:Pt},Whole (zal p) p.length (zao p).length t→t.h*t.w≤n→Sp (Lf p) (Ab p) (Rms p t)→∃ x,zdi (zal p) t=some x
 | 0,t,hw,hn',_=>by have:=Nat.mul_pos hw.inn.1 hw.inn.2.1; omega
 | n+1,t,hw,hn',hsp=>by
  have hpl:=zdw hp
  have hi:=hw.inn
  have hP:=(znb hp).sub hi
  have hin:=hi
  unfold Pt.In at hin
  have sc:∀ i j,i<t.h→j<t.w→(zi8 (cn (gP p)) t i j:Int)=zal p (t.r+i) (t.c+j):=fun i j a b=>zfs hpl (by omega) (by omega)
  have srm:∀ i j,i<t.h→j<t.w→Rms p t (zi8 (cn (gP p)) t i j):=fun i j a b=>⟨t.r+i,t.c+j,by omega,by omega,by omega,by omega,(sc i j a b).symm⟩
  have rsc:∀ v,Rms p t v→∃ i j,i<t.h∧j<t.w∧zi8 (cn (gP p)) t i j=v:=by
   rintro v ⟨a,c,e1,e2,e3,e4,e5⟩
   refine ⟨a - t.r,c - t.c,by omega,by omega,?_⟩
   have:=sc (a - t.r) (c - t.c) (by omega) (by omega)
   rw [show t.r+(a - t.r)=a by omega,show t.c+(c - t.c)=c by omega]at this
   omega
  cases h1:zww (zal p) t with
  | true=>exact ⟨_,zjq hi h1⟩
  | false =>
   have hcut:∃ q,zeb (zal p) t=some q:=by
    cases hq:zeb (zal p) t with
    | some q=>exact ⟨q,rfl⟩
    | none =>
     exfalso
     obtain ⟨nu,nl⟩:=zr3.1 hq
     have hno:¬ ∀ i j,i<t.h→j<t.w→zal p (t.r+i) (t.c+j)=zal p t.r t.c:=fun hc=>by rw [zoy.2 hc]at h1; cases h1
     cases hsp with
     | one a ha hu =>
      apply hno
      intro i j hi' hj'
      have e1:=hu _ (srm i j hi' hj')
      have e2:=hu _ (srm 0 0 (by omega) (by omega))
      have f1:=sc i j hi' hj'
      have f2:=sc 0 0 (by omega) (by omega)
      simp only[Nat.add_zero]at f2
      omega
     | left B hb hnb hl _ _ =>
      obtain ⟨a,ha,hba⟩:=hb
      obtain ⟨b,hb',hbb⟩:=hnb
      obtain ⟨i0,j0,g1,g2,rfl⟩:=rsc a ha
      obtain ⟨i1,j1,g3,g4,rfl⟩:=rsc b hb'
      obtain ⟨k,k1,k2,k3,_⟩:=zwn hP (by omega) (P:=B) ⟨i0,j0,g1,g2,hba⟩ ⟨i1,j1,g3,g4,hbb⟩ fun i j i' j' q1 q2 q3 q4 q5 q6=>(zxg hp hi q1 q2 q3 q4).1 (hl _ _ (srm i j q1 q2) q5 (srm i' j' q3 q4) q6)
      have:=nu k k1 k2
      rw [Bool.eq_false_iff,ne_eq,zu4]at this
      apply this
      intro i hi' e
      apply k3 i hi'
      have f1:=sc i (k - 1) hi' (by omega)
      have f2:=sc i k hi' k2
      rw [show t.c+(k - 1)=t.c+k - 1 by omega]at f1
      omega
     | up B hb hnb hl _ _ =>
      obtain ⟨a,ha,hba⟩:=hb
      obtain ⟨b,hb',hbb⟩:=hnb
      obtain ⟨i0,j0,g1,g2,rfl⟩:=rsc a ha
      obtain ⟨i1,j1,g3,g4,rfl⟩:=rsc b hb'
      obtain ⟨k,k1,k2,k3,_⟩:=zwn hP.ex (by omega) (P:=B) ⟨j0,i0,g2,g1,hba⟩ ⟨j1,i1,g4,g3,hbb⟩ fun j i j' i' q2 q1 q4 q3 q5 q6=>(zxg hp hi q1 q2 q3 q4).2 (hl _ _ (srm i j q1 q2) q5 (srm i' j' q3 q4) q6)
      have:=nl k k1 k2
      rw [Bool.eq_false_iff,ne_eq,zu3]at this
      apply this
      intro j hj' e
      apply k3 j hj'
      have f1:=sc (k - 1) j (by omega) hj'
      have f2:=sc k j k2 hj'
      rw [show t.r+(k - 1)=t.r+k - 1 by omega]at f1
      simp only[tr]
      omega
   obtain ⟨q,hq⟩:=hcut
   obtain ⟨i1,i2,a1,a2⟩:=hi.cut hq
   obtain ⟨w1,w2⟩:=hw.cut (zh1 hpl) hq
   have hc:=z7x hpl hw hq
   have n1:∃ a,Rms p (t.one q) a:=by
    unfold Pt.In at i1
    have:=zej hpl (i:=(t.one q).r) (j:=(t.one q).c) (by omega) (by omega)
    exact ⟨(zal p (t.one q).r (t.one q).c).toNat,(t.one q).r,(t.one q).c,by omega,by omega,by omega,by omega,by omega⟩
   have n2:∃ a,Rms p (t.two q) a:=by
    unfold Pt.In at i2
    have:=zej hpl (i:=(t.two q).r) (j:=(t.two q).c) (by omega) (by omega)
    exact ⟨(zal p (t.two q).r (t.two q).c).toNat,(t.two q).r,(t.two q).c,by omega,by omega,by omega,by omega,by omega⟩
   obtain ⟨x1,hx1⟩:=zz0 hp n w1 (by omega) (hsp.sub (fun a ha=>(((hc a).1).2 ha).1) n1)
   obtain ⟨x2,hx2⟩:=zz0 hp n w2 (by omega) (hsp.sub (fun a ha=>(((hc a).2).2 ha).1) n2)
   exact ⟨_,by rw [zhh hi h1 hq,hx1,hx2]⟩
def PL (l:List Int) (i j:Nat):Prop:=i<j∧zd2 l i<zd2 l j
def PU (l:List Int) (i j:Nat):Prop:=j<i∧¬ zd2 l j<zd2 l i
theorem zhx (hp:zbw p=true) (v:Nat):Rms p ⟨0,0,p.length,(zao p).length⟩ v↔v<(rP p).length:=by
 constructor
 ·exact yfm hp (zrl hp).inn
 intro hv
 obtain ⟨i,j,hi,hj,e⟩:=zq5 hv
 have:=zfs hp hi hj
 exact ⟨i,j,Nat.zero_le _,by simpa using hi,Nat.zero_le _,by simpa using hj,by omega⟩
theorem z9j (hp:zbo p=true):(∃ x,zdi (zal p) ⟨0,0,p.length,(zao p).length⟩=some x)↔Sp (PL (zd5 p)) (PU (zd5 p)) (· < (zd5 p).length):=by
 have hpl:=zdw hp
 have hw:=zrl hpl
 have hn:(zd5 p).length=(rP p).length:=zey
 have hx:∀ i,i<(rP p).length→zd2 (zd5 p) i=xI p i:=fun i hi=>zgh (ya6 hp hi)
 have step:Sp (Lf p) (Ab p) (Rms p ⟨0,0,p.length,(zao p).length⟩)↔Sp (PL (zd5 p)) (PU (zd5 p)) (· < (zd5 p).length):=by
  constructor
  ·intro h
   refine h.map (zhr p) (fun i hi=>(zhx hpl _).2 (zel hp (by omega)).1) (fun a ha=>?_) (fun i j hi hj e=>?_) (fun i j hi hj hl=>?_) fun i j hi hj hl=>?_
   ·have ha:=(zhx hpl a).1 ha
    exact ⟨ahK p true a,by rw [hn]; exact zno hp ha,zis hp ha⟩
   ·have h1:=(zel hp (i:=i) (by omega)).2.1
    have h2:=(zel hp (i:=j) (by omega)).2.1
    rw [e]at h1; omega
   ·have h1:=zel hp (i:=i) (by omega)
    have:=zqf hp h1.1 (i:=j) (by omega) hl
    rw [h1.2.1]at this
    unfold PL
    rw [hx i (by omega),hx j (by omega)]; exact this
   have h1:=zel hp (i:=j) (by omega)
   have:=zpd hp h1.1 (i:=i) (by omega) hl
   rw [h1.2.1]at this
   unfold PU
   rw [hx i (by omega),hx j (by omega)]; exact this
  intro h
  refine h.map (ahK p true) (fun a ha=>by rw [hn]; exact zno hp ((zhx hpl a).1 ha)) (fun i hi=>?_) (fun a b ha hb e=>ztt hp ((zhx hpl a).1 ha) ((zhx hpl b).1 hb) e) (fun a b ha hb hl=>?_) fun a b ha hb hl=>?_
  ·have h1:=zel hp (i:=i) (by omega)
   exact ⟨zhr p i,(zhx hpl _).2 h1.1,h1.2.1⟩
  ·have ha:=(zhx hpl a).1 ha
   have hb:=(zhx hpl b).1 hb
   obtain ⟨h1,h2⟩:=hl
   have l2:=zno (below:=true) hp hb
   rw [hx _ (by omega),hx _ l2]at h2
   have:=(z82 hp h1 l2).1 h2
   rw [zis hp ha,zis hp hb]at this
   exact this
  have ha:=(zhx hpl a).1 ha
  have hb:=(zhx hpl b).1 hb
  obtain ⟨h1,h2⟩:=hl
  have l2:=zno (below:=true) hp ha
  rw [hx _ (by omega),hx _ l2]at h2
  have:=(z82 hp h1 l2).2 h2
  rw [zis hp ha,zis hp hb]at this
  exact this
 rw [← step]
 exact ⟨fun ⟨x,hx⟩=>zz4 hp _ hw (qR _) hx,fun h=>zz0 hp _ hw (qR _) h⟩
end
end
section
theorem TC.flip {R:Nat→Nat→Prop} {P:Nat→Prop} {a d:Nat} (h:TC R a d) (ha:P a) (hd:¬ P d):∃ u v,(u=a∨TC R a u)∧R u v∧(v=d∨TC R v d)∧P u∧¬ P v:=by
 induction h with
 | one h=>exact ⟨_,_,.inl rfl,h,.inl rfl,ha,hd⟩
 | tail h k ih =>
  rename_i b d
  by_cases hb:P b
  ·exact ⟨b,d,.inr h,k,.inl rfl,hb,hd⟩
  obtain ⟨u,v,h1,h2,h3,h4,h5⟩:=ih hb
  refine ⟨u,v,h1,h2,?_,h4,h5⟩
  rcases h3 with rfl | h3
  ·exact .inr (.one k)
  exact .inr (.tail h3 k)
section
variable {c:Nat→Nat→Nat} {H W:Nat}
theorem DU.rows (h:Pl c H W) {u v:Nat} (hd:DU c H W u v) {i j i' j':Nat} (hi:i<H) (hj:j<W) (hi':i'<H) (hj':j'<W) (hu:c i j=u) (hv:c i' j'=v):i<i':=by
 obtain ⟨l,j1,j2,a1,a2,a3,a4,a5,a6⟩:=hd
 have k1:i≤l:=by
  refine Nat.le_of_not_lt fun hlt=>a4 j1 (by omega) (by omega) ?_
  have:=h.rect (i:=i) (j:=j) (i':=l) (j':=j1) (l+1) j1 hi (by omega) hj a2 (by rw [hu,a5]) (by omega) (by omega) (by omega) (by omega)
  rw [this,hu,a5]
 have k2:l+1≤i':=by
  refine Nat.le_of_not_lt fun hlt=>a4 j2 (by omega) (by omega) ?_
  have:=h.rect (i:=i') (j:=j') (i':=l+1) (j':=j2) l j2 hi' (by omega) hj' a3 (by rw [hv,a6]) (by omega) (by omega) (by omega) (by omega)
  rw [this,hv,a6]
 omega
theorem TCU.rows (h:Pl c H W) {u v:Nat} (hd:TC (DU c H W) u v):∀ {i j i' j':Nat},i<H→j<W→i'<H→j'<W→c i j=u→c i' j'=v→i<i':=by
 induction hd with
 | one hd=>exact DU.rows h hd
 | tail _ k ih =>
  intro i j i' j' hi hj hi' hj' hu hv
  obtain ⟨l,j1,j2,a1,a2,a3,a4,a5,a6⟩:=id k
  have h1:=ih hi hj (show l<H by omega) a2 hu a5.symm
  have h2:=DU.rows h k (show l<H by omega) a2 hi' hj' a5.symm hv
  omega
theorem z2c {i j1 j2:Nat} (hi:i<H) (h1:j1≤j2) (h2:j2<W):c i j1=c i j2∨TC (DL c H W) (c i j1) (c i j2):=by
 by_cases e:c i j1=c i j2
 ·exact .inl e
 exact .inr (zit hi h1 h2 e)
theorem ybv (h:Pl c H W) {a b x d:Nat} (hxb:DU c H W x b) (hxa:TC (DU c H W) x a) (hdb:TC (DU c H W) d b) (had:TC (DL c H W) a d) (n1:¬ TC (DL c H W) a x) (n2:¬ TC (DL c H W) b d):False:=by
 obtain ⟨i,j1,j2,a1,a2,a3,a4,a5,a6⟩:=id hxb
 have hap:∃ r s,r<H∧s<W∧c r s=a∧i+1≤r:=by
  obtain ⟨u,hu,j,r1,r2,b1,b2,b3,b4,b5,b6⟩:∃ v,(v=d∨TC (DL c H W) v d)∧DL c H W a v:=by
   clear hxa n1
   induction had with
   | one k=>exact ⟨_,.inl rfl,k⟩
   | tail k1 k2 ih =>
    clear ih hdb n2
    rename_i b' d'
    have key:∀ {p q:Nat},TC (DL c H W) p q→∃ v,(v=q∨TC (DL c H W) v q)∧DL c H W p v:=by
     intro p q hh
     induction hh with
     | one k=>exact ⟨_,.inl rfl,k⟩
     | tail _ k ih =>
      obtain ⟨v,hv,hp⟩:=ih
      refine ⟨v,.inr ?_,hp⟩
      rcases hv with rfl | hv
      ·exact .one k
      exact .tail hv k
    exact key (.tail k1 k2)
  have:=TCU.rows h hxa (show i<H by omega) a2 b2 (show j<W by omega) a5.symm b5.symm
  exact ⟨r1,j,b2,by omega,b5.symm,this⟩
 have hdn:¬ ∃ r s,r<H∧s<W∧c r s=d∧i+1≤r:=by
  rintro ⟨r,s,q1,q2,q3,q4⟩
  have:=TCU.rows h hdb q1 q2 a1 a3 q3 a6.symm
  omega
 obtain ⟨u,v,hu,⟨j,r1,r2,b1,b2,b3,b4,b5,b6⟩,hv,⟨r,s,q1,q2,q3,q4⟩,hnv⟩:=TC.flip (P:=fun a=>∃ r s,r<H∧s<W∧c r s=a∧i+1≤r) had hap hdn
 have hr2:r2≤i:=Nat.le_of_not_lt fun hlt=>hnv ⟨r2,j+1,b3,b1,b6.symm,hlt⟩
 have left:∀ {w:Nat},TC (DL c H W) u w→TC (DL c H W) a w:=by
  intro w hw
  rcases hu with rfl | hu
  ·exact hw
  exact hu.trans hw
 have right:∀ {w:Nat},TC (DL c H W) w v→TC (DL c H W) w d:=by
  intro w hw
  rcases hv with rfl | hv
  ·exact hw
  exact hw.trans hv
 rcases Nat.lt_or_ge i r1 with hr | hr
 ·have w1:=b4 i (by omega) (by omega)
  have w2:=b4 (i+1) (by omega) (by omega)
  have hside:j<min j1 j2∨max j1 j2≤j:=by
   rcases Nat.lt_or_ge j (min j1 j2) with h1 | h1
   ·exact .inl h1
   rcases Nat.lt_or_ge j (max j1 j2) with h2 | h2
   ·exact absurd (h.plain (i:=i) (j:=j) a1 b1 w1 w2 (a4 j h1 (by omega))) (a4 (j+1) (by omega) (by omega))
   exact .inr h2
  rcases hside with hs | hs
  ·have g:DL c H W u (c i (j+1)):=⟨j,r1,i,b1,b2,by omega,fun k h1 h2=>b4 k (by omega) (by omega),b5,rfl⟩
   rcases z2c (c:=c) (W:=W) (i:=i) (j1:=j+1) (j2:=j1) (show i<H by omega) (by omega) a2 with e | e
   ·exact n1 (left (by rw [a5,← e]; exact .one g))
   exact n1 (left (by rw [a5]; exact (TC.one g).trans e))
  have g:DL c H W (c (i+1) j) v:=⟨j,i+1,r2,b1,by omega,b3,fun k h1 h2=>b4 k (by omega) (by omega),rfl,b6⟩
  rcases z2c (c:=c) (W:=W) (i:=i+1) (j1:=j2) (j2:=j) a1 (by omega) (by omega) with e | e
  ·exact n2 (right (by rw [a6,e]; exact .one g))
  exact n2 (right (by rw [a6]; exact e.trans (.one g)))
 have hj:j<W:=by omega
 have e1:c i j=u:=by
  have:=h.rect (i:=r1) (j:=j) (i':=r) (j':=s) i j b2 q1 hj q2 (by rw [← b5,q3]) (by omega) (by omega) (by omega) (by omega)
  rw [this,b5]
 have e2:c (i+1) j=u:=by
  have:=h.rect (i:=r1) (j:=j) (i':=r) (j':=s) (i+1) j b2 q1 hj q2 (by rw [← b5,q3]) (by omega) (by omega) (by omega) (by omega)
  rw [this,b5]
 have hside:j<min j1 j2∨max j1 j2<j:=by
  rcases Nat.lt_or_ge j (min j1 j2) with h1 | h1
  ·exact .inl h1
  rcases Nat.lt_or_ge (max j1 j2) j with h2 | h2
  ·exact .inr h2
  exact absurd (e1.trans e2.symm) (a4 j h1 h2)
 rcases hside with hs | hs
 ·rcases z2c (c:=c) (W:=W) (i:=i) (j1:=j) (j2:=j1) (show i<H by omega) (by omega) a2 with e | e
  ·have:=h.rect (i:=i) (j:=j1) (i':=i+1) (j':=j) (i+1) j1 (by omega) a1 a2 hj (by rw [← e,e1,e2]) (by omega) (by omega) (by omega) (by omega)
   exact a4 j1 (by omega) (by omega) this.symm
  rw [e1,← a5]at e
  exact n1 (left e)
 have hd:DL c H W u v:=⟨j,r1,r2,b1,b2,b3,b4,b5,b6⟩
 rcases z2c (c:=c) (W:=W) (i:=i+1) (j1:=j2) (j2:=j) a1 (by omega) hj with e | e
 ·have:=h.rect (i:=i+1) (j:=j2) (i':=i) (j':=j) i j2 a1 (by omega) a3 hj (by rw [e,e1,e2]) (by omega) (by omega) (by omega) (by omega)
  exact a4 j2 (by omega) (by omega) this
 rw [e2,← a6]at e
 exact n2 (right (e.trans (.one hd)))
end
section
variable {p:List Txt}
theorem DL.lt (hp:zbo p=true) {a b:Nat} (h:DL (cn (gP p)) p.length (zao p).length a b):a<(rP p).length∧b<(rP p).length:=by
 obtain ⟨j,i1,i2,h1,h2,h3,-,rfl,rfl⟩:=h
 exact ⟨zpn zft h2 (by omega),zpn zft h3 h1⟩
theorem DU.lt (hp:zbo p=true) {a b:Nat} (h:DU (cn (gP p)) p.length (zao p).length a b):a<(rP p).length∧b<(rP p).length:=by
 obtain ⟨j,i1,i2,h1,h2,h3,-,rfl,rfl⟩:=h
 exact ⟨zpn zft (by omega) h2,zpn zft h1 h3⟩
theorem z7b (hp:zbo p=true) {a b d:Nat} (hab:a<b) (hbd:b+1<d) (hd:d<(rP p).length) :
  ¬ (xI p d<xI p b∧xI p (b+1)<xI p a∧xI p a<xI p d)∧¬ (xI p b<xI p d∧xI p a<xI p (b+1)∧xI p d<xI p a):=by
 have hP:=znb hp
 have rA:=(zel hp (i:=a) (by omega)).1
 have rB:=zel hp (i:=b) (by omega)
 have rX:=zel hp (i:=b+1) (by omega)
 have rD:=(zel hp (i:=d) (by omega)).1
 constructor
 ·rintro ⟨h1,h2,h3⟩
  have o1:Ab p (zhr p (b+1)) (zhr p b):=(z82 hp (show b<b+1 by omega) (by omega)).2 (by omega)
  have o2:Ab p (zhr p (b+1)) (zhr p a):=(z82 hp (show a<b+1 by omega) (by omega)).2 (by omega)
  have o3:Ab p (zhr p d) (zhr p b):=(z82 hp (show b<d by omega) (by omega)).2 (by omega)
  have o4:Lf p (zhr p a) (zhr p d):=(z82 hp (show a<d by omega) (by omega)).1 h3
  have u:DU (cn (gP p)) p.length (zao p).length (zhr p (b+1)) (zhr p b):=by
   obtain ⟨m,hm,hmb⟩:=((Ab.iff rX.1 rB.1).1 o1).last
   rcases hm with rfl | hm
   ·exact hmb
   exfalso
   have hml:=(DU.lt hp hmb).1
   have k1:=zpd hp hml (i:=b+1) (by omega) ((Ab.iff rX.1 hml).2 hm)
   have hmk:Ab p (zhr p (ahK p true m)) (zhr p b):=by rw [zis hp hml]; exact (Ab.iff hml rB.1).2 (.one hmb)
   have k2:=zpd hp rB.1 (i:=ahK p true m) (zno hp hml) hmk
   rw [rB.2.1]at k2
   omega
  exact ybv hP u ((Ab.iff rX.1 rA).1 o2) ((Ab.iff rD rB.1).1 o3) ((Lf.iff rA rD).1 o4) (fun h=>(Ab.only hp rX.1 rA o2).2.2 ((Lf.iff rA rX.1).2 h)) fun h=>(Ab.only hp rD rB.1 o3).2.2 ((Lf.iff rB.1 rD).2 h)
 rintro ⟨h1,h2,h3⟩
 have o1:Lf p (zhr p b) (zhr p (b+1)):=(z82 hp (show b<b+1 by omega) (by omega)).1 (by omega)
 have o2:Lf p (zhr p b) (zhr p d):=(z82 hp (show b<d by omega) (by omega)).1 h1
 have o3:Lf p (zhr p a) (zhr p (b+1)):=(z82 hp (show a<b+1 by omega) (by omega)).1 h2
 have o4:Ab p (zhr p d) (zhr p a):=(z82 hp (show a<d by omega) (by omega)).2 (by omega)
 have u:DL (cn (gP p)) p.length (zao p).length (zhr p b) (zhr p (b+1)):=by
  obtain ⟨m,hm,hmb⟩:=((Lf.iff rB.1 rX.1).1 o1).last
  rcases hm with rfl | hm
  ·exact hmb
  exfalso
  have hml:=(DL.lt hp hmb).1
  have k1:=zqf hp hml (i:=b+1) (by omega) ((Lf.iff hml rX.1).2 (.one hmb))
  have hmk:Lf p (zhr p b) (zhr p (ahK p true m)):=by rw [zis hp hml]; exact (Lf.iff rB.1 hml).2 hm
  have k2:=zqf hp rB.1 (i:=ahK p true m) (zno hp hml) hmk
  rw [rB.2.1]at k2
  omega
 exact ybv hP.ex (a:=zhr p d) (b:=zhr p (b+1)) (x:=zhr p b) (d:=zhr p a) u ((Lf.iff rB.1 rD).1 o2) ((Lf.iff rA rX.1).1 o3) ((Ab.iff rD rA).1 o4) (fun h=>(Lf.only hp rB.1 rD o2).2.2 ((Ab.iff rD rB.1).2 h)) fun h=>(Lf.only hp rA rX.1 o3).2.2 ((Ab.iff rX.1 rA).2 h)
end
end
section
def Tight (a b c d:Int):Prop:=(c<a∧a<d∧d<b)∨(b<d∧d<a∧a<c)
def Avoid (v:Nat→Int) (A:Nat→Prop):Prop:=∀ a b c d,A a→A b→A c→A d→a<b→b<c→c<d→¬ Tight (v a) (v b) (v c) (v d)
def Inj (v:Nat→Int) (A:Nat→Prop):Prop:=∀ a b,A a→A b→v a=v b→a=b
def LS (v:Nat→Int) (A B:Nat→Prop):Prop:=(∃ a,A a∧B a)∧(∃ a,A a∧¬ B a)∧∀ a b,A a→B a→A b→¬ B b→a<b∧v a<v b
def DS (v:Nat→Int) (A B:Nat→Prop):Prop:=(∃ a,A a∧B a)∧(∃ a,A a∧¬ B a)∧∀ a b,A a→B a→A b→¬ B b→a<b∧v b<v a
theorem LS.neg {v:Nat→Int} {A B:Nat→Prop} (h:LS (fun i => -v i) A B):DS v A B :=
 ⟨h.1,h.2.1,fun a b h1 h2 h3 h4=>by have:=h.2.2 a b h1 h2 h3 h4; simp only at this; omega⟩
theorem DS.neg {v:Nat→Int} {A B:Nat→Prop} (h:DS (fun i => -v i) A B):LS v A B :=
 ⟨h.1,h.2.1,fun a b h1 h2 h3 h4=>by have:=h.2.2 a b h1 h2 h3 h4; simp only at this; omega⟩
theorem DS.pos {v:Nat→Int} {A B:Nat→Prop} (h:DS v A B):LS (fun i => -v i) A B :=
 ⟨h.1,h.2.1,fun a b h1 h2 h3 h4=>by have:=h.2.2 a b h1 h2 h3 h4; refine ⟨this.1,?_⟩; show -v a < -v b; omega⟩
theorem Avoid.neg {v:Nat→Int} {A:Nat→Prop} (h:Avoid v A):Avoid (fun i => -v i) A:=fun a b c d h1 h2 h3 h4 h5 h6 h7 k =>
 h a b c d h1 h2 h3 h4 h5 h6 h7 (by unfold Tight at k ⊢; simp only at k; omega)
theorem Inj.neg {v:Nat→Int} {A:Nat→Prop} (h:Inj v A):Inj (fun i => -v i) A:=fun a b h1 h2 h3=>h a b h1 h2 (by simp only at h3; omega)
theorem Avoid.sub {v:Nat→Int} {A A':Nat→Prop} (h:Avoid v A) (k:∀ a,A' a→A a):Avoid v A':=fun a b c d h1 h2 h3 h4=>h a b c d (k a h1) (k b h2) (k c h3) (k d h4)
theorem Inj.sub {v:Nat→Int} {A A':Nat→Prop} (h:Inj v A) (k:∀ a,A' a→A a):Inj v A':=fun a b h1 h2=>h a b (k a h1) (k b h2)
theorem z0s {v:Nat→Int} {A:Nat→Prop} {m:Nat} (hm:A m) (hA:∀ i,A i→i<m+1) (hi:Inj v A) (ha:Avoid v A)
  (ih:∀ k,k≤m→∀ A',(∀ i,A' i→i<k)→(∃ a b,A' a∧A' b∧a≠b)→(∀ a,A' a→A a)→(∃ B,LS v A' B)∨∃ B,DS v A' B)
  {B0:Nat→Prop} (h0:LS v (fun a=>A a∧a<m) B0):(∃ B,LS v A B)∨∃ B,DS v A B:=by
 obtain ⟨k,hk,⟨B,hB,hBk⟩,hmin⟩:=zlu (P:=fun k=>∃ B,LS v (fun a=>A a∧a<m) B∧∀ a,A a→a<m→B a→a<k) (n:=m) ⟨B0,h0,fun a _ h _=>h⟩
 obtain ⟨⟨b0,hb0,hb0'⟩,⟨q,hq,hq'⟩,hall⟩:=hB
 have hlt:∀ {a},A a→a≠m→a<m:=fun h1 h2=>by have:=hA _ h1; omega
 by_cases h1:∀ x,A x→x<m→B x→v x<v m
 ·refine .inl ⟨fun a=>B a∧a<m,⟨b0,hb0.1,hb0',hb0.2⟩,⟨m,hm,fun h=>Nat.lt_irrefl _ h.2⟩,fun a b g1 g2 g3 g4=>?_⟩
  by_cases hb:b=m
  ·subst hb; exact ⟨g2.2,h1 a g1 g2.2 g2.1⟩
  exact hall a b ⟨g1,g2.2⟩ g2.1 ⟨g3,hlt g3 hb⟩ fun h=>g4 ⟨h,hlt g3 hb⟩
 obtain ⟨w,hw⟩:=Classical.not_forall.1 h1
 simp only[Classical.not_imp]at hw
 obtain ⟨w1,w2,w3,w4⟩:=hw
 have hwm:v m<v w:=by
  have:v w≠v m:=fun e=>by have:=hi w m w1 hm e; omega
  omega
 by_cases h2:∀ x,A x→x<m→v m<v x
 ·refine .inr ⟨fun a=>a<m,⟨w,w1,w2⟩,⟨m,hm,Nat.lt_irrefl _⟩,fun a b g1 g2 g3 g4=>?_⟩
  obtain rfl:b=m:=Classical.byContradiction fun h=>g4 (hlt g3 h)
  exact ⟨g2,h2 a g1 g2⟩
 obtain ⟨u,hu⟩:=Classical.not_forall.1 h2
 simp only[Classical.not_imp]at hu
 obtain ⟨u1,u2,u3⟩:=hu
 have hum:v u<v m:=by
  have:v u≠v m:=fun e=>by have:=hi u m u1 hm e; omega
  omega
 have huB:B u:=Classical.byContradiction fun h=>by
  have:=hall w u ⟨w1,w2⟩ w3 ⟨u1,u2⟩ h
  omega
 rcases ih k hk (fun a=>(A a∧a<m)∧B a) (fun i h=>hBk i h.1.1 h.1.2 h.2) ⟨u,w,⟨⟨u1,u2⟩,huB⟩,⟨⟨w1,w2⟩,w3⟩,fun e=>by subst e; omega⟩ (fun a h=>h.1.1) with ⟨X,⟨x0,hx0,hx0'⟩,⟨y0,hy0,hy0'⟩,hX⟩ | ⟨X,⟨x0,hx0,hx0'⟩,⟨y0,hy0,hy0'⟩,hX⟩
 ·refine absurd ⟨fun a=>B a∧X a,⟨⟨x0,hx0.1,hx0.2,hx0'⟩,⟨y0,hy0.1,fun h=>hy0' h.2⟩,fun a b g1 g2 g3 g4=>?_⟩,fun a g1 g2 g3=>(hX a y0 ⟨⟨g1,g2⟩,g3.1⟩ g3.2 hy0 hy0').1⟩ (hmin y0 (hBk y0 hy0.1.1 hy0.1.2 hy0.2))
  by_cases hb:B b
  ·exact hX a b ⟨g1,g2.1⟩ g2.2 ⟨g3,hb⟩ fun h=>g4 ⟨hb,h⟩
  exact hall a b g1 g2.1 g3 hb
 exfalso
 obtain ⟨x,y,hx,hx',hy,hy',e1,e2⟩:∃ x y,((A x∧x<m)∧B x)∧X x∧((A y∧y<m)∧B y)∧¬ X y∧v y<v m∧v m<v x:=by
  by_cases hXu:X u
  ·have hXw:X w:=Classical.byContradiction fun h=>by
    have:=hX u w ⟨⟨u1,u2⟩,huB⟩ hXu ⟨⟨w1,w2⟩,w3⟩ h
    omega
   have:=hX u y0 ⟨⟨u1,u2⟩,huB⟩ hXu hy0 hy0'
   exact ⟨w,y0,⟨⟨w1,w2⟩,w3⟩,hXw,hy0,hy0',by omega,hwm⟩
  by_cases hXw:X w
  ·exact ⟨w,u,⟨⟨w1,w2⟩,w3⟩,hXw,⟨⟨u1,u2⟩,huB⟩,hXu,hum,hwm⟩
  have:=hX x0 w hx0 hx0' ⟨⟨w1,w2⟩,w3⟩ hXw
  exact ⟨x0,u,hx0,hx0',⟨⟨u1,u2⟩,huB⟩,hXu,hum,by omega⟩
 have f1:=hX x y hx hx' hy hy'
 have f2:=hall x q hx.1 hx.2 hq hq'
 have f3:=hall y q hy.1 hy.2 hq hq'
 exact ha x y q m hx.1.1 hy.1.1 hq.1 hm f1.1 f3.1 hq.2 (.inr ⟨e1,e2,f2.2⟩)
theorem yco:∀ (m:Nat) (v:Nat→Int) (A:Nat→Prop),(∀ i,A i→i<m)→(∃ a b,A a∧A b∧a≠b)→Inj v A→Avoid v A→(∃ B,LS v A B)∨∃ B,DS v A B:=by
 intro m
 induction m using Nat.strongRecOn with
 | _ m ih =>
  intro v A hA h2 hi ha
  match m,hA,ih with
  | 0,hA,_=>obtain ⟨a,b,h,-⟩:=h2; exact absurd (hA a h) (by omega)
  | m+1,hA,ih =>
   by_cases hm:A m
   ·by_cases h3:∃ a b,(A a∧a<m)∧(A b∧b<m)∧a≠b
    ·have ihv:∀ k,k≤m→∀ A',(∀ i,A' i→i<k)→(∃ a b,A' a∧A' b∧a≠b)→(∀ a,A' a→A a)→(∃ B,LS v A' B)∨∃ B,DS v A' B:=fun k hk A' q1 q2 q3=>ih k (by omega) v A' q1 q2 (hi.sub q3) (ha.sub q3)
     rcases ih m (by omega) v (fun a=>A a∧a<m) (fun i h=>h.2) h3 (hi.sub fun a h=>h.1) (ha.sub fun a h=>h.1) with ⟨B,hB⟩ | ⟨B,hB⟩
     ·exact z0s hm hA hi ha ihv hB
     have ihn:∀ k,k≤m→∀ A',(∀ i,A' i→i<k)→(∃ a b,A' a∧A' b∧a≠b)→(∀ a,A' a→A a)→(∃ B,LS (fun i => -v i) A' B)∨∃ B,DS (fun i => -v i) A' B:=fun k hk A' q1 q2 q3=>ih k (by omega) (fun i => -v i) A' q1 q2 (hi.sub q3).neg (ha.sub q3).neg
     rcases z0s hm hA hi.neg ha.neg ihn hB.pos with ⟨B,h⟩ | ⟨B,h⟩
     ·exact .inr ⟨B,h.neg⟩
     exact .inl ⟨B,h.neg⟩
    obtain ⟨u,hu,hum⟩:∃ u,A u∧u≠m:=by
     obtain ⟨a,b,h4,h5,h6⟩:=h2
     by_cases ham:a=m
     ·exact ⟨b,h5,fun e=>h6 (ham.trans e.symm)⟩
     exact ⟨a,h4,ham⟩
    have hul:u<m:=by have:=hA u hu; omega
    have only:∀ x,A x→x≠m→x=u:=fun x hx hxm=>Classical.byContradiction fun hne=>h3 ⟨x,u,⟨hx,by have:=hA x hx; omega⟩,⟨hu,hul⟩,hne⟩
    rcases Int.lt_or_le (v u) (v m) with hv | hv
    ·refine .inl ⟨fun a=>a=u,⟨u,hu,rfl⟩,⟨m,hm,fun e=>hum e.symm⟩,fun a b g1 g2 g3 g4=>?_⟩
     obtain rfl:b=m:=Classical.byContradiction fun h=>g4 (only b g3 h)
     rw [g2]; exact ⟨hul,hv⟩
    have hne:v u≠v m:=fun e=>hum (hi u m hu hm e)
    refine .inr ⟨fun a=>a=u,⟨u,hu,rfl⟩,⟨m,hm,fun e=>hum e.symm⟩,fun a b g1 g2 g3 g4=>?_⟩
    obtain rfl:b=m:=Classical.byContradiction fun h=>g4 (only b g3 h)
    rw [g2]; exact ⟨hul,by omega⟩
   exact ih m (by omega) v A (fun i h=>by have:=hA i h; have:i≠m:=fun e=>hm (e ▸ h); omega) h2 hi ha
section
variable {l:List Int}
theorem z8g:∀ (N lo hi:Nat) {A:Nat→Prop},hi - lo≤N→(∀ i,A i→lo≤i∧i<hi)→(∃ a,A a)→Inj (zd2 l) A→Avoid (zd2 l) A→Sp (PL l) (PU l) A
 | 0,lo,hi,A,h,hA,⟨a,ha⟩,_,_=>by have:=hA a ha; omega
 | N+1,lo,hi,A,h,hA,⟨a,ha⟩,hj,hv=>by
  by_cases h1:∀ b,A b→b=a
  ·exact .one a ha h1
  obtain ⟨b,hb⟩:=Classical.not_forall.1 h1
  simp only[Classical.not_imp]at hb
  rcases yco hi (zd2 l) A (fun i h=>(hA i h).2) ⟨b,a,hb.1,ha,hb.2⟩ hj hv with ⟨B,⟨x,hx,hx'⟩,⟨y,hy,hy'⟩,hB⟩ | ⟨B,⟨x,hx,hx'⟩,⟨y,hy,hy'⟩,hB⟩
  ·have p1:=hA x hx
   have p2:=hA y hy
   have p3:=hB x y hx hx' hy hy'
   exact .left B ⟨x,hx,hx'⟩ ⟨y,hy,hy'⟩ (fun a b h1 h2 h3 h4=>hB a b h1 h2 h3 h4)
    (z8g N lo y (by omega) (fun i h=>⟨(hA i h.1).1,(hB i y h.1 h.2 hy hy').1⟩) ⟨x,hx,hx'⟩ (hj.sub fun a h=>h.1) (hv.sub fun a h=>h.1))
    (z8g N (x+1) hi (by omega) (fun i h=>⟨(hB x i hx hx' h.1 h.2).1,(hA i h.1).2⟩) ⟨y,hy,hy'⟩ (hj.sub fun a h=>h.1) (hv.sub fun a h=>h.1))
  have p1:=hA x hx
  have p2:=hA y hy
  have p3:=hB x y hx hx' hy hy'
  refine .up (fun a=>¬ B a) ⟨y,hy,hy'⟩ ⟨x,hx,fun h=>h hx'⟩ (fun a b h1 h2 h3 h4=>?_)
   (z8g N (x+1) hi (by omega) (fun i h=>⟨(hB x i hx hx' h.1 h.2).1,(hA i h.1).2⟩) ⟨y,hy,hy'⟩ (hj.sub fun a h=>h.1) (hv.sub fun a h=>h.1))
   (z8g N lo y (by omega) (fun i h=>⟨(hA i h.1).1,(hB i y h.1 (Classical.byContradiction h.2) hy hy').1⟩) ⟨x,hx,fun h=>h hx'⟩ (hj.sub fun a h=>h.1) (hv.sub fun a h=>h.1))
  have:=hB b a h3 (Classical.byContradiction h4) h1 h2
  exact ⟨this.1,by omega⟩
theorem yap {A:Nat→Prop} (h:Sp (PL l) (PU l) A):Avoid (zd2 l) A:=by
 induction h with
 | one a ha hu =>
  intro a b c d h1 h2 _ _ h3 _ _ _
  have:=hu a h1; have:=hu b h2; omega
 | left B _ _ hl _ _ i1 i2 =>
  intro a b c d ha hb hc hd hab hbc hcd
  have key:∀ x y,_→_→B x→¬ B y→x<y∧zd2 l x<zd2 l y:=fun x y h1 h2 h3 h4=>hl x y h1 h3 h2 h4
  by_cases hD:B d
  ·have hC:B c:=Classical.byContradiction fun h=>by have:=key d c hd hc hD h; omega
   have hB:B b:=Classical.byContradiction fun h=>by have:=key d b hd hb hD h; omega
   have hA:B a:=Classical.byContradiction fun h=>by have:=key d a hd ha hD h; omega
   exact i1 a b c d ⟨ha,hA⟩ ⟨hb,hB⟩ ⟨hc,hC⟩ ⟨hd,hD⟩ hab hbc hcd
  by_cases hA:B a
  ·have k1:=key a d ha hd hA hD
   unfold Tight
   by_cases hB:B b
   ·have k2:=key b d hb hd hB hD
    by_cases hC:B c
    ·have k3:=key c d hc hd hC hD; omega
    have k3:=key a c ha hc hA hC; have k4:=key b c hb hc hB hC; omega
   have k2:=key a b ha hb hA hB
   by_cases hC:B c
   ·have k3:=key c b hc hb hC hB; omega
   have k3:=key a c ha hc hA hC; omega
  have hB:¬ B b:=fun h=>by have:=key b a hb ha h hA; omega
  have hC:¬ B c:=fun h=>by have:=key c a hc ha h hA; omega
  exact i2 a b c d ⟨ha,hA⟩ ⟨hb,hB⟩ ⟨hc,hC⟩ ⟨hd,hD⟩ hab hbc hcd
 | up B _ _ hl _ _ i1 i2 =>
  intro a b c d ha hb hc hd hab hbc hcd
  have key:∀ x y,_→_→B x→¬ B y→y<x∧zd2 l x≤zd2 l y:=fun x y h1 h2 h3 h4=>by have:=hl x y h1 h3 h2 h4; exact ⟨this.1,by have:=this.2; omega⟩
  by_cases hA:B a
  ·have hB:B b:=Classical.byContradiction fun h=>by have:=key a b ha hb hA h; omega
   have hC:B c:=Classical.byContradiction fun h=>by have:=key a c ha hc hA h; omega
   have hD:B d:=Classical.byContradiction fun h=>by have:=key a d ha hd hA h; omega
   exact i1 a b c d ⟨ha,hA⟩ ⟨hb,hB⟩ ⟨hc,hC⟩ ⟨hd,hD⟩ hab hbc hcd
  by_cases hD:B d
  ·have k1:=key d a hd ha hD hA
   unfold Tight
   by_cases hB:B b
   ·have k2:=key b a hb ha hB hA
    by_cases hC:B c
    ·have k3:=key c a hc ha hC hA; omega
    have k3:=key b c hb hc hB hC; omega
   have k2:=key d b hd hb hD hB
   by_cases hC:B c
   ·have k3:=key c a hc ha hC hA; have k4:=key c b hc hb hC hB; omega
   have k3:=key d c hd hc hD hC; omega
  have hB:¬ B b:=fun h=>by have:=key b d hb hd h hD; omega
  have hC:¬ B c:=fun h=>by have:=key c d hc hd h hD; omega
  exact i2 a b c d ⟨ha,hA⟩ ⟨hb,hB⟩ ⟨hc,hC⟩ ⟨hd,hD⟩ hab hbc hcd
end
end

def zlk (p:List Txt):Pt:=⟨0,0,p.length,(zao p).length⟩
def yee (p:List Txt):Bool:=zbw p && (zdi (zal p) (zlk p)).isSome
section
def zrh (a b c d:Int):Bool:=(decide (b>max a d) && decide (c<min a d) && decide (a<d)) || (decide (b<min a d) && decide (c>max a d) && decide (a>d))
def zfr (a b c d:Int):Bool:=(decide (c<a) && decide (a<d) && decide (d<b)) || (decide (b<d) && decide (d<a) && decide (a<c))
theorem ztg {a b c d:Int}:zfr a b c d=true↔Tight a b c d:=by
 unfold zfr Tight
 simp only[Bool.or_eq_true,qB,decide_eq_true_eq,and_assoc]
def Fine (n:Nat) (bad:Nat→Nat→Nat→Nat→Bool):Prop:=∀ x y z w,x<y→y<z→z<w→w<n→bad x y z w=false
def z43 (l:List Int) (x y z w:Nat):Bool:=decide (y+1=z) && zrh (zd2 l x) (zd2 l y) (zd2 l z) (zd2 l w)
def ybh (l:List Int) (x y z w:Nat):Bool:=zfr (zd2 l x) (zd2 l y) (zd2 l z) (zd2 l w)
section
variable {p:List Txt}
theorem zib (hp:zbo p=true) {i:Nat} (hi:i<(rP p).length):zd2 (zd5 p) i=xI p i:=zgh (ya6 hp hi)
theorem ycc (hp:zbo p=true) {i j:Nat} (hi:i<(rP p).length) (hj:j<(rP p).length) (h:xI p i=xI p j):i=j:=by
 obtain ⟨a1,a2,-⟩:=zel hp hi
 obtain ⟨b1,b2,-⟩:=zel hp hj
 unfold xI at h
 have:=ztt (below:=false) hp a1 b1 (by omega)
 rw [this]at a2
 omega
theorem z7c (hp:zbo p=true):Fine (zd5 p).length (z43 (zd5 p)):=by
 intro x y z w h1 h2 h3 h4
 rw [zey]at h4
 unfold z43
 rw [zib hp (by omega),zib hp (by omega),zib hp (by omega),zib hp h4]
 by_cases e:y+1=z
 ·subst e
  obtain ⟨k1,k2⟩:=z7b hp h1 h3 h4
  have:zrh (xI p x) (xI p y) (xI p (y+1)) (xI p w)=false:=by
   rw [Bool.eq_false_iff]
   intro h
   unfold zrh at h
   simp only[Bool.or_eq_true,qB,decide_eq_true_eq]at h
   rcases h with ⟨⟨q1,q2⟩,q3⟩ | ⟨⟨q1,q2⟩,q3⟩
   ·exact k1 ⟨by omega,by omega,q3⟩
   exact k2 ⟨by omega,by omega,q3⟩
  rw [this,Bool.and_false]
 rw [decide_eq_false e,Bool.false_and]
theorem z29 {l:List Int}:Fine l.length (ybh l)↔Avoid (zd2 l) (· < l.length):=by
 constructor
 ·intro h a b c d ha hb hc hd h1 h2 h3 k
  have:=h a b c d h1 h2 h3 hd
  unfold ybh at this
  rw [ztg.2 k]at this; cases this
 intro h x y z w h1 h2 h3 h4
 unfold ybh
 rw [Bool.eq_false_iff]
 intro k
 exact h x y z w (by omega) (by omega) (by omega) h4 h1 h2 h3 (ztg.1 k)
theorem z6k (hp:zbo p=true):Fine (zd5 p).length (ybh (zd5 p))↔yee p=true:=by
 have hn:=zey (p:=p)
 have hn1:1≤(rP p).length:=by
  have hsm:=zce (zeu (zdw hp))
  obtain ⟨row0,h0,hm0⟩:=zag hsm.1
  have hw:=zfk (zeu (zdw hp)) h0
  rw [← zc1 h0]at hw
  have:=zpn zft (g:=gP p) (i:=0) (j:=0) (nh:=p.length) (nw:=(zao p).length) (n:=(rP p).length) hsm.1 hw
  omega
 rw [z29]
 have hc:yee p=true↔∃ x,zdi (zal p) ⟨0,0,p.length,(zao p).length⟩=some x:=by
  unfold yee zlk
  rw [zdw hp,Bool.true_and,Option.isSome_iff_exists]
 rw [hc,z9j hp]
 constructor
 ·intro h
  refine z8g (zd5 p).length 0 (zd5 p).length (by omega) (fun i hi=>⟨Nat.zero_le _,hi⟩) ⟨0,by omega⟩ (fun a b ha hb e=>?_) h
  rw [zib hp (by omega),zib hp (by omega)]at e
  exact ycc hp (by omega) (by omega) e
 exact yap
end
end
theorem and3 (p q:Bool):p=false∨(p=true∧q=false)∨(p=true∧q=true):=by cases p <;> cases q <;> simp
theorem yed (p q r:Bool):p=false∨(p=true∧q=false)∨(p=true∧q=true∧r=false)∨(p=true∧q=true∧r=true):=by cases p <;> cases q <;> cases r <;> simp
theorem zyi (a b c d:Int):PC Tryz.prog 69 [(.agg [.int .i64 a,.int .i64 b,.int .i64 c,.int .i64 d])] (.bool (zrh a b c d)) true:=by
 refine PC.of ⟨Tryz.func69,by kernel_rfl,rfl,by kernel_rfl⟩ zap mixed (by show 1≤Tryz.f69.ntmps; decide) ?_
 refine W.r fun K hK=>?_
 simp(disch:=omega)only[↓RU,RV,RH,↓reduceIte,qE,reduceCtorEq,if_pos,↓RS,RG,qA,qM,qL,zat,zaa]
 apply hK;clear hK K
 refine W.seq_draw (by kernel_rfl) fun K hK=>?_
 simp(disch:=omega)only[↓RU,RV,RH,↓reduceIte,qE,reduceCtorEq,if_pos,zt4,zm5,↓RS,RG,qA,qM,qL,zat,zaa,Int.toNat_zero,Nat.zero_mul,qZ,qM,Nat.zero_add,Nat.mul_one,List.getElem?_cons_zero,List.getElem?_cons_succ]
 apply hK;clear hK K
 refine W.r fun K hK=>?_
 rcases yed (decide (b>max a d)) (decide (c<min a d)) (decide (a<d)) with g1 | ⟨g1,g2⟩ | ⟨g1,g2,g3⟩ | ⟨g1,g2,g3⟩
 ·skip
  simp(disch:=omega)only[↓RU,RV,RH,↓reduceIte,qE,reduceCtorEq,if_pos,w64,↓RS,RG,qA,qM,qL,zat,zaa,Int.toNat_zero,Nat.zero_mul,qZ,qM,Nat.zero_add,Nat.mul_one,List.getElem?_cons_zero,List.getElem?_cons_succ,g1]
  apply hK;clear hK K
  refine W.r fun K hK=>?_
  rcases yed (decide (b<min a d)) (decide (c>max a d)) (decide (a>d)) with f1 | ⟨f1,f2⟩ | ⟨f1,f2,f3⟩ | ⟨f1,f2,f3⟩
  ·skip
   simp(disch:=omega)only[↓RU,RV,RH,↓reduceIte,qE,reduceCtorEq,if_pos,w64,↓RS,RG,qA,qM,qL,zat,zaa,Int.toNat_zero,Nat.zero_mul,qZ,qM,Nat.zero_add,Nat.mul_one,List.getElem?_cons_zero,List.getElem?_cons_succ,f1]
   apply hK;clear hK K
   refine W.r fun K hK=>?_
   simp(disch:=omega)only[↓RU,RV,RH,↓reduceIte,qE,reduceCtorEq,if_pos,↓RS,RG,qA,qM,qL,Int.toNat_zero,Nat.zero_mul,qZ,qM,Nat.zero_add,Nat.mul_one,List.getElem?_cons_zero,List.getElem?_cons_succ]
   apply hK;clear hK K
   refine W.ret ?_
   refine Br rfl ?_
   simp only[zrh, *,Bool.and_true,Bool.and_false,Bool.false_and,Bool.true_and,Bool.or_false,Bool.false_or,Bool.true_or]
   rfl
  ·skip
   simp(disch:=omega)only[↓RU,RV,RH,↓reduceIte,qE,reduceCtorEq,if_pos,w64,↓RS,RG,qA,qM,qL,zat,zaa,Int.toNat_zero,Nat.zero_mul,qZ,qM,Nat.zero_add,Nat.mul_one,List.getElem?_cons_zero,List.getElem?_cons_succ,f1,f2]
   apply hK;clear hK K
   refine W.r fun K hK=>?_
   simp(disch:=omega)only[↓RU,RV,RH,↓reduceIte,qE,reduceCtorEq,if_pos,↓RS,RG,qA,qM,qL,Int.toNat_zero,Nat.zero_mul,qZ,qM,Nat.zero_add,Nat.mul_one,List.getElem?_cons_zero,List.getElem?_cons_succ]
   apply hK;clear hK K
   refine W.ret ?_
   refine Br rfl ?_
   simp only[zrh, *,Bool.and_true,Bool.and_false,Bool.false_and,Bool.true_and,Bool.or_false,Bool.false_or,Bool.true_or]
   rfl
  ·skip
   simp(disch:=omega)only[↓RU,RV,RH,↓reduceIte,qE,reduceCtorEq,if_pos,w64,↓RS,RG,qA,qM,qL,zat,zaa,Int.toNat_zero,Nat.zero_mul,qZ,qM,Nat.zero_add,Nat.mul_one,List.getElem?_cons_zero,List.getElem?_cons_succ,f1,f2,f3]
   apply hK;clear hK K
   refine W.r fun K hK=>?_
   simp(disch:=omega)only[↓RU,RV,RH,↓reduceIte,qE,reduceCtorEq,if_pos,↓RS,RG,qA,qM,qL,Int.toNat_zero,Nat.zero_mul,qZ,qM,Nat.zero_add,Nat.mul_one,List.getElem?_cons_zero,List.getElem?_cons_succ]
   apply hK;clear hK K
   refine W.ret ?_
   refine Br rfl ?_
   simp only[zrh, *,Bool.and_true,Bool.and_false,Bool.false_and,Bool.true_and,Bool.or_false,Bool.false_or,Bool.true_or]
   rfl
  skip
  simp(disch:=omega)only[↓RU,RV,RH,↓reduceIte,qE,reduceCtorEq,if_pos,w64,↓RS,RG,qA,qM,qL,zat,zaa,Int.toNat_zero,Nat.zero_mul,qZ,qM,Nat.zero_add,Nat.mul_one,List.getElem?_cons_zero,List.getElem?_cons_succ,f1,f2,f3]
  apply hK;clear hK K
  refine W.r fun K hK=>?_
  simp(disch:=omega)only[↓RU,RV,RH,↓reduceIte,qE,reduceCtorEq,if_pos,↓RS,RG,qA,qM,qL,Int.toNat_zero,Nat.zero_mul,qZ,qM,Nat.zero_add,Nat.mul_one,List.getElem?_cons_zero,List.getElem?_cons_succ]
  apply hK;clear hK K
  refine W.ret ?_
  refine Br rfl ?_
  simp only[zrh, *,Bool.and_true,Bool.and_false,Bool.false_and,Bool.true_and,Bool.or_false,Bool.false_or,Bool.true_or]
  rfl
 ·skip
  simp(disch:=omega)only[↓RU,RV,RH,↓reduceIte,qE,reduceCtorEq,if_pos,w64,↓RS,RG,qA,qM,qL,zat,zaa,Int.toNat_zero,Nat.zero_mul,qZ,qM,Nat.zero_add,Nat.mul_one,List.getElem?_cons_zero,List.getElem?_cons_succ,g1,g2]
  apply hK;clear hK K
  refine W.r fun K hK=>?_
  rcases yed (decide (b<min a d)) (decide (c>max a d)) (decide (a>d)) with f1 | ⟨f1,f2⟩ | ⟨f1,f2,f3⟩ | ⟨f1,f2,f3⟩
  ·skip
   simp(disch:=omega)only[↓RU,RV,RH,↓reduceIte,qE,reduceCtorEq,if_pos,w64,↓RS,RG,qA,qM,qL,zat,zaa,Int.toNat_zero,Nat.zero_mul,qZ,qM,Nat.zero_add,Nat.mul_one,List.getElem?_cons_zero,List.getElem?_cons_succ,f1]
   apply hK;clear hK K
   refine W.r fun K hK=>?_
   simp(disch:=omega)only[↓RU,RV,RH,↓reduceIte,qE,reduceCtorEq,if_pos,↓RS,RG,qA,qM,qL,Int.toNat_zero,Nat.zero_mul,qZ,qM,Nat.zero_add,Nat.mul_one,List.getElem?_cons_zero,List.getElem?_cons_succ]
   apply hK;clear hK K
   refine W.ret ?_
   refine Br rfl ?_
   simp only[zrh, *,Bool.and_true,Bool.and_false,Bool.false_and,Bool.true_and,Bool.or_false,Bool.false_or,Bool.true_or]
   rfl
  ·skip
   simp(disch:=omega)only[↓RU,RV,RH,↓reduceIte,qE,reduceCtorEq,if_pos,w64,↓RS,RG,qA,qM,qL,zat,zaa,Int.toNat_zero,Nat.zero_mul,qZ,qM,Nat.zero_add,Nat.mul_one,List.getElem?_cons_zero,List.getElem?_cons_succ,f1,f2]
   apply hK;clear hK K
   refine W.r fun K hK=>?_
   simp(disch:=omega)only[↓RU,RV,RH,↓reduceIte,qE,reduceCtorEq,if_pos,↓RS,RG,qA,qM,qL,Int.toNat_zero,Nat.zero_mul,qZ,qM,Nat.zero_add,Nat.mul_one,List.getElem?_cons_zero,List.getElem?_cons_succ]
   apply hK;clear hK K
   refine W.ret ?_
   refine Br rfl ?_
   simp only[zrh, *,Bool.and_true,Bool.and_false,Bool.false_and,Bool.true_and,Bool.or_false,Bool.false_or,Bool.true_or]
   rfl
  ·skip
   simp(disch:=omega)only[↓RU,RV,RH,↓reduceIte,qE,reduceCtorEq,if_pos,w64,↓RS,RG,qA,qM,qL,zat,zaa,Int.toNat_zero,Nat.zero_mul,qZ,qM,Nat.zero_add,Nat.mul_one,List.getElem?_cons_zero,List.getElem?_cons_succ,f1,f2,f3]
   apply hK;clear hK K
   refine W.r fun K hK=>?_
   simp(disch:=omega)only[↓RU,RV,RH,↓reduceIte,qE,reduceCtorEq,if_pos,↓RS,RG,qA,qM,qL,Int.toNat_zero,Nat.zero_mul,qZ,qM,Nat.zero_add,Nat.mul_one,List.getElem?_cons_zero,List.getElem?_cons_succ]
   apply hK;clear hK K
   refine W.ret ?_
   refine Br rfl ?_
   simp only[zrh, *,Bool.and_true,Bool.and_false,Bool.false_and,Bool.true_and,Bool.or_false,Bool.false_or,Bool.true_or]
   rfl
  skip
  simp(disch:=omega)only[↓RU,RV,RH,↓reduceIte,qE,reduceCtorEq,if_pos,w64,↓RS,RG,qA,qM,qL,zat,zaa,Int.toNat_zero,Nat.zero_mul,qZ,qM,Nat.zero_add,Nat.mul_one,List.getElem?_cons_zero,List.getElem?_cons_succ,f1,f2,f3]
  apply hK;clear hK K
  refine W.r fun K hK=>?_
  simp(disch:=omega)only[↓RU,RV,RH,↓reduceIte,qE,reduceCtorEq,if_pos,↓RS,RG,qA,qM,qL,Int.toNat_zero,Nat.zero_mul,qZ,qM,Nat.zero_add,Nat.mul_one,List.getElem?_cons_zero,List.getElem?_cons_succ]
  apply hK;clear hK K
  refine W.ret ?_
  refine Br rfl ?_
  simp only[zrh, *,Bool.and_true,Bool.and_false,Bool.false_and,Bool.true_and,Bool.or_false,Bool.false_or,Bool.true_or]
  rfl
 ·skip
  simp(disch:=omega)only[↓RU,RV,RH,↓reduceIte,qE,reduceCtorEq,if_pos,w64,↓RS,RG,qA,qM,qL,zat,zaa,Int.toNat_zero,Nat.zero_mul,qZ,qM,Nat.zero_add,Nat.mul_one,List.getElem?_cons_zero,List.getElem?_cons_succ,g1,g2,g3]
  apply hK;clear hK K
  refine W.r fun K hK=>?_
  rcases yed (decide (b<min a d)) (decide (c>max a d)) (decide (a>d)) with f1 | ⟨f1,f2⟩ | ⟨f1,f2,f3⟩ | ⟨f1,f2,f3⟩
  ·skip
   simp(disch:=omega)only[↓RU,RV,RH,↓reduceIte,qE,reduceCtorEq,if_pos,w64,↓RS,RG,qA,qM,qL,zat,zaa,Int.toNat_zero,Nat.zero_mul,qZ,qM,Nat.zero_add,Nat.mul_one,List.getElem?_cons_zero,List.getElem?_cons_succ,f1]
   apply hK;clear hK K
   refine W.r fun K hK=>?_
   simp(disch:=omega)only[↓RU,RV,RH,↓reduceIte,qE,reduceCtorEq,if_pos,↓RS,RG,qA,qM,qL,Int.toNat_zero,Nat.zero_mul,qZ,qM,Nat.zero_add,Nat.mul_one,List.getElem?_cons_zero,List.getElem?_cons_succ]
   apply hK;clear hK K
   refine W.ret ?_
   refine Br rfl ?_
   simp only[zrh, *,Bool.and_true,Bool.and_false,Bool.false_and,Bool.true_and,Bool.or_false,Bool.false_or,Bool.true_or]
   rfl
  ·skip
   simp(disch:=omega)only[↓RU,RV,RH,↓reduceIte,qE,reduceCtorEq,if_pos,w64,↓RS,RG,qA,qM,qL,zat,zaa,Int.toNat_zero,Nat.zero_mul,qZ,qM,Nat.zero_add,Nat.mul_one,List.getElem?_cons_zero,List.getElem?_cons_succ,f1,f2]
   apply hK;clear hK K
   refine W.r fun K hK=>?_
   simp(disch:=omega)only[↓RU,RV,RH,↓reduceIte,qE,reduceCtorEq,if_pos,↓RS,RG,qA,qM,qL,Int.toNat_zero,Nat.zero_mul,qZ,qM,Nat.zero_add,Nat.mul_one,List.getElem?_cons_zero,List.getElem?_cons_succ]
   apply hK;clear hK K
   refine W.ret ?_
   refine Br rfl ?_
   simp only[zrh, *,Bool.and_true,Bool.and_false,Bool.false_and,Bool.true_and,Bool.or_false,Bool.false_or,Bool.true_or]
   rfl
  ·skip
   simp(disch:=omega)only[↓RU,RV,RH,↓reduceIte,qE,reduceCtorEq,if_pos,w64,↓RS,RG,qA,qM,qL,zat,zaa,Int.toNat_zero,Nat.zero_mul,qZ,qM,Nat.zero_add,Nat.mul_one,List.getElem?_cons_zero,List.getElem?_cons_succ,f1,f2,f3]
   apply hK;clear hK K
   refine W.r fun K hK=>?_
   simp(disch:=omega)only[↓RU,RV,RH,↓reduceIte,qE,reduceCtorEq,if_pos,↓RS,RG,qA,qM,qL,Int.toNat_zero,Nat.zero_mul,qZ,qM,Nat.zero_add,Nat.mul_one,List.getElem?_cons_zero,List.getElem?_cons_succ]
   apply hK;clear hK K
   refine W.ret ?_
   refine Br rfl ?_
   simp only[zrh, *,Bool.and_true,Bool.and_false,Bool.false_and,Bool.true_and,Bool.or_false,Bool.false_or,Bool.true_or]
   rfl
  skip
  simp(disch:=omega)only[↓RU,RV,RH,↓reduceIte,qE,reduceCtorEq,if_pos,w64,↓RS,RG,qA,qM,qL,zat,zaa,Int.toNat_zero,Nat.zero_mul,qZ,qM,Nat.zero_add,Nat.mul_one,List.getElem?_cons_zero,List.getElem?_cons_succ,f1,f2,f3]
  apply hK;clear hK K
  refine W.r fun K hK=>?_
  simp(disch:=omega)only[↓RU,RV,RH,↓reduceIte,qE,reduceCtorEq,if_pos,↓RS,RG,qA,qM,qL,Int.toNat_zero,Nat.zero_mul,qZ,qM,Nat.zero_add,Nat.mul_one,List.getElem?_cons_zero,List.getElem?_cons_succ]
  apply hK;clear hK K
  refine W.ret ?_
  refine Br rfl ?_
  simp only[zrh, *,Bool.and_true,Bool.and_false,Bool.false_and,Bool.true_and,Bool.or_false,Bool.false_or,Bool.true_or]
  rfl
 skip
 simp(disch:=omega)only[↓RU,RV,RH,↓reduceIte,qE,reduceCtorEq,if_pos,w64,↓RS,RG,qA,qM,qL,zat,zaa,Int.toNat_zero,Nat.zero_mul,qZ,qM,Nat.zero_add,Nat.mul_one,List.getElem?_cons_zero,List.getElem?_cons_succ,g1,g2,g3]
 apply hK;clear hK K
 refine W.r fun K hK=>?_
 rcases yed (decide (b<min a d)) (decide (c>max a d)) (decide (a>d)) with f1 | ⟨f1,f2⟩ | ⟨f1,f2,f3⟩ | ⟨f1,f2,f3⟩
 ·skip
  simp(disch:=omega)only[↓RU,RV,RH,↓reduceIte,qE,reduceCtorEq,if_pos,w64,↓RS,RG,qA,qM,qL,zat,zaa,Int.toNat_zero,Nat.zero_mul,qZ,qM,Nat.zero_add,Nat.mul_one,List.getElem?_cons_zero,List.getElem?_cons_succ,f1]
  apply hK;clear hK K
  refine W.r fun K hK=>?_
  simp(disch:=omega)only[↓RU,RV,RH,↓reduceIte,qE,reduceCtorEq,if_pos,↓RS,RG,qA,qM,qL,Int.toNat_zero,Nat.zero_mul,qZ,qM,Nat.zero_add,Nat.mul_one,List.getElem?_cons_zero,List.getElem?_cons_succ]
  apply hK;clear hK K
  refine W.ret ?_
  refine Br rfl ?_
  simp only[zrh, *,Bool.and_true,Bool.and_false,Bool.false_and,Bool.true_and,Bool.or_false,Bool.false_or,Bool.true_or]
  rfl
 ·skip
  simp(disch:=omega)only[↓RU,RV,RH,↓reduceIte,qE,reduceCtorEq,if_pos,w64,↓RS,RG,qA,qM,qL,zat,zaa,Int.toNat_zero,Nat.zero_mul,qZ,qM,Nat.zero_add,Nat.mul_one,List.getElem?_cons_zero,List.getElem?_cons_succ,f1,f2]
  apply hK;clear hK K
  refine W.r fun K hK=>?_
  simp(disch:=omega)only[↓RU,RV,RH,↓reduceIte,qE,reduceCtorEq,if_pos,↓RS,RG,qA,qM,qL,Int.toNat_zero,Nat.zero_mul,qZ,qM,Nat.zero_add,Nat.mul_one,List.getElem?_cons_zero,List.getElem?_cons_succ]
  apply hK;clear hK K
  refine W.ret ?_
  refine Br rfl ?_
  simp only[zrh, *,Bool.and_true,Bool.and_false,Bool.false_and,Bool.true_and,Bool.or_false,Bool.false_or,Bool.true_or]
  rfl
 ·skip
  simp(disch:=omega)only[↓RU,RV,RH,↓reduceIte,qE,reduceCtorEq,if_pos,w64,↓RS,RG,qA,qM,qL,zat,zaa,Int.toNat_zero,Nat.zero_mul,qZ,qM,Nat.zero_add,Nat.mul_one,List.getElem?_cons_zero,List.getElem?_cons_succ,f1,f2,f3]
  apply hK;clear hK K
  refine W.r fun K hK=>?_
  simp(disch:=omega)only[↓RU,RV,RH,↓reduceIte,qE,reduceCtorEq,if_pos,↓RS,RG,qA,qM,qL,Int.toNat_zero,Nat.zero_mul,qZ,qM,Nat.zero_add,Nat.mul_one,List.getElem?_cons_zero,List.getElem?_cons_succ]
  apply hK;clear hK K
  refine W.ret ?_
  refine Br rfl ?_
  simp only[zrh, *,Bool.and_true,Bool.and_false,Bool.false_and,Bool.true_and,Bool.or_false,Bool.false_or,Bool.true_or]
  rfl
 skip
 simp(disch:=omega)only[↓RU,RV,RH,↓reduceIte,qE,reduceCtorEq,if_pos,w64,↓RS,RG,qA,qM,qL,zat,zaa,Int.toNat_zero,Nat.zero_mul,qZ,qM,Nat.zero_add,Nat.mul_one,List.getElem?_cons_zero,List.getElem?_cons_succ,f1,f2,f3]
 apply hK;clear hK K
 refine W.r fun K hK=>?_
 simp(disch:=omega)only[↓RU,RV,RH,↓reduceIte,qE,reduceCtorEq,if_pos,↓RS,RG,qA,qM,qL,Int.toNat_zero,Nat.zero_mul,qZ,qM,Nat.zero_add,Nat.mul_one,List.getElem?_cons_zero,List.getElem?_cons_succ]
 apply hK;clear hK K
 refine W.ret ?_
 refine Br rfl ?_
 simp only[zrh, *,Bool.and_true,Bool.and_false,Bool.false_and,Bool.true_and,Bool.or_false,Bool.false_or,Bool.true_or]
 rfl
theorem z2t (a b c d:Int):PC Tryz.prog 70 [(.agg [.int .i64 a,.int .i64 b,.int .i64 c,.int .i64 d])] (.bool (zfr a b c d)) true:=by
 refine PC.of ⟨Tryz.func70,by kernel_rfl,rfl,by kernel_rfl⟩ zap mixed (by show 1≤Tryz.f70.ntmps; decide) ?_
 refine W.r fun K hK=>?_
 simp(disch:=omega)only[↓RU,RV,RH,↓reduceIte,qE,reduceCtorEq,if_pos,↓RS,RG,qA,qM,qL,zat,zaa]
 apply hK;clear hK K
 refine W.r fun K hK=>?_
 rcases yed (decide (c<a)) (decide (a<d)) (decide (d<b)) with g1 | ⟨g1,g2⟩ | ⟨g1,g2,g3⟩ | ⟨g1,g2,g3⟩ <;> rcases and3 (decide (b<d)) (decide (d<a)) with f1 | ⟨f1,f2⟩ | ⟨f1,f2⟩
 ·skip
  simp(disch:=omega)only[↓RU,RV,RH,↓reduceIte,qE,reduceCtorEq,if_pos,w64,↓RS,RG,qA,qM,qL,zat,zaa,Int.toNat_zero,Nat.zero_mul,qZ,qM,Nat.zero_add,Nat.mul_one,List.getElem?_cons_zero,List.getElem?_cons_succ,g1,f1]
  apply hK;clear hK K
  refine W.ret ?_
  refine Br rfl ?_
  simp only[zfr, *,Bool.and_true,Bool.and_false,Bool.false_and,Bool.true_and,Bool.or_false,Bool.false_or,Bool.true_or]
  rfl
 ·skip
  simp(disch:=omega)only[↓RU,RV,RH,↓reduceIte,qE,reduceCtorEq,if_pos,w64,↓RS,RG,qA,qM,qL,zat,zaa,Int.toNat_zero,Nat.zero_mul,qZ,qM,Nat.zero_add,Nat.mul_one,List.getElem?_cons_zero,List.getElem?_cons_succ,g1,f1,f2]
  apply hK;clear hK K
  refine W.ret ?_
  refine Br rfl ?_
  simp only[zfr, *,Bool.and_true,Bool.and_false,Bool.false_and,Bool.true_and,Bool.or_false,Bool.false_or,Bool.true_or]
  rfl
 ·skip
  simp(disch:=omega)only[↓RU,RV,RH,↓reduceIte,qE,reduceCtorEq,if_pos,w64,↓RS,RG,qA,qM,qL,zat,zaa,Int.toNat_zero,Nat.zero_mul,qZ,qM,Nat.zero_add,Nat.mul_one,List.getElem?_cons_zero,List.getElem?_cons_succ,g1,f1,f2]
  apply hK;clear hK K
  refine W.ret ?_
  refine Br rfl ?_
  simp only[zfr, *,Bool.and_true,Bool.and_false,Bool.false_and,Bool.true_and,Bool.or_false,Bool.false_or,Bool.true_or]
  rfl
 ·skip
  simp(disch:=omega)only[↓RU,RV,RH,↓reduceIte,qE,reduceCtorEq,if_pos,w64,↓RS,RG,qA,qM,qL,zat,zaa,Int.toNat_zero,Nat.zero_mul,qZ,qM,Nat.zero_add,Nat.mul_one,List.getElem?_cons_zero,List.getElem?_cons_succ,g1,g2,f1]
  apply hK;clear hK K
  refine W.ret ?_
  refine Br rfl ?_
  simp only[zfr, *,Bool.and_true,Bool.and_false,Bool.false_and,Bool.true_and,Bool.or_false,Bool.false_or,Bool.true_or]
  rfl
 ·skip
  simp(disch:=omega)only[↓RU,RV,RH,↓reduceIte,qE,reduceCtorEq,if_pos,w64,↓RS,RG,qA,qM,qL,zat,zaa,Int.toNat_zero,Nat.zero_mul,qZ,qM,Nat.zero_add,Nat.mul_one,List.getElem?_cons_zero,List.getElem?_cons_succ,g1,g2,f1,f2]
  apply hK;clear hK K
  refine W.ret ?_
  refine Br rfl ?_
  simp only[zfr, *,Bool.and_true,Bool.and_false,Bool.false_and,Bool.true_and,Bool.or_false,Bool.false_or,Bool.true_or]
  rfl
 ·skip
  simp(disch:=omega)only[↓RU,RV,RH,↓reduceIte,qE,reduceCtorEq,if_pos,w64,↓RS,RG,qA,qM,qL,zat,zaa,Int.toNat_zero,Nat.zero_mul,qZ,qM,Nat.zero_add,Nat.mul_one,List.getElem?_cons_zero,List.getElem?_cons_succ,g1,g2,f1,f2]
  apply hK;clear hK K
  refine W.ret ?_
  refine Br rfl ?_
  simp only[zfr, *,Bool.and_true,Bool.and_false,Bool.false_and,Bool.true_and,Bool.or_false,Bool.false_or,Bool.true_or]
  rfl
 ·skip
  simp(disch:=omega)only[↓RU,RV,RH,↓reduceIte,qE,reduceCtorEq,if_pos,w64,↓RS,RG,qA,qM,qL,zat,zaa,Int.toNat_zero,Nat.zero_mul,qZ,qM,Nat.zero_add,Nat.mul_one,List.getElem?_cons_zero,List.getElem?_cons_succ,g1,g2,g3,f1]
  apply hK;clear hK K
  refine W.ret ?_
  refine Br rfl ?_
  simp only[zfr, *,Bool.and_true,Bool.and_false,Bool.false_and,Bool.true_and,Bool.or_false,Bool.false_or,Bool.true_or]
  rfl
 ·skip
  simp(disch:=omega)only[↓RU,RV,RH,↓reduceIte,qE,reduceCtorEq,if_pos,w64,↓RS,RG,qA,qM,qL,zat,zaa,Int.toNat_zero,Nat.zero_mul,qZ,qM,Nat.zero_add,Nat.mul_one,List.getElem?_cons_zero,List.getElem?_cons_succ,g1,g2,g3,f1,f2]
  apply hK;clear hK K
  refine W.ret ?_
  refine Br rfl ?_
  simp only[zfr, *,Bool.and_true,Bool.and_false,Bool.false_and,Bool.true_and,Bool.or_false,Bool.false_or,Bool.true_or]
  rfl
 ·skip
  simp(disch:=omega)only[↓RU,RV,RH,↓reduceIte,qE,reduceCtorEq,if_pos,w64,↓RS,RG,qA,qM,qL,zat,zaa,Int.toNat_zero,Nat.zero_mul,qZ,qM,Nat.zero_add,Nat.mul_one,List.getElem?_cons_zero,List.getElem?_cons_succ,g1,g2,g3,f1,f2]
  apply hK;clear hK K
  refine W.ret ?_
  refine Br rfl ?_
  simp only[zfr, *,Bool.and_true,Bool.and_false,Bool.false_and,Bool.true_and,Bool.or_false,Bool.false_or,Bool.true_or]
  rfl
 ·skip
  simp(disch:=omega)only[↓RU,RV,RH,↓reduceIte,qE,reduceCtorEq,if_pos,w64,↓RS,RG,qA,qM,qL,zat,zaa,Int.toNat_zero,Nat.zero_mul,qZ,qM,Nat.zero_add,Nat.mul_one,List.getElem?_cons_zero,List.getElem?_cons_succ,g1,g2,g3,f1]
  apply hK;clear hK K
  refine W.ret ?_
  refine Br rfl ?_
  simp only[zfr, *,Bool.and_true,Bool.and_false,Bool.false_and,Bool.true_and,Bool.or_false,Bool.false_or,Bool.true_or]
  rfl
 ·skip
  simp(disch:=omega)only[↓RU,RV,RH,↓reduceIte,qE,reduceCtorEq,if_pos,w64,↓RS,RG,qA,qM,qL,zat,zaa,Int.toNat_zero,Nat.zero_mul,qZ,qM,Nat.zero_add,Nat.mul_one,List.getElem?_cons_zero,List.getElem?_cons_succ,g1,g2,g3,f1,f2]
  apply hK;clear hK K
  refine W.ret ?_
  refine Br rfl ?_
  simp only[zfr, *,Bool.and_true,Bool.and_false,Bool.false_and,Bool.true_and,Bool.or_false,Bool.false_or,Bool.true_or]
  rfl
 skip
 simp(disch:=omega)only[↓RU,RV,RH,↓reduceIte,qE,reduceCtorEq,if_pos,w64,↓RS,RG,qA,qM,qL,zat,zaa,Int.toNat_zero,Nat.zero_mul,qZ,qM,Nat.zero_add,Nat.mul_one,List.getElem?_cons_zero,List.getElem?_cons_succ,g1,g2,g3,f1,f2]
 apply hK;clear hK K
 refine W.ret ?_
 refine Br rfl ?_
 simp only[zfr, *,Bool.and_true,Bool.and_false,Bool.false_and,Bool.true_and,Bool.or_false,Bool.false_or,Bool.true_or]
 rfl
theorem z07 (l:List Int):PC Tryz.prog 68 [eInts l] (.fn 92 [.ip [eInts l] 0]) false:=by
 refine PC.of ⟨Tryz.func68,by kernel_rfl,rfl,by kernel_rfl⟩ zap mixed (by show 1≤Tryz.f68.ntmps; decide) ?_
 refine W.r fun K hK=>?_
 simp(disch:=omega)only[↓RU,RV,RH,↓reduceIte,qE,reduceCtorEq,if_pos,↓RS,RG,qA,qM,qL,zab,zaa]
 apply hK;clear hK K
 refine W.r fun K hK=>?_
 simp(disch:=omega)only[↓RU,RV,RH,↓reduceIte,qE,reduceCtorEq,if_pos,↓RS,RG,qA,qM,qL]
 apply hK;clear hK K
 refine W.ret ?_
 refine Br rfl ?_
 rfl
theorem zwc {l:List Int} (hl:l.length≤1000) (bad:Nat→Nat→Nat→Nat→Bool) (lb:Nat) (oa ob oa2 ob2:Ob) (tk:Nat) (hy:∀ x y z u:Nat,x<y→y<z→z<u→u<l.length→∀ t2,tk≤t2→Ey Tryz.prog lb [.agg [.int .i64 x,.int .i64 y,.int .i64 z,.int .i64 u],.agg [.int .i64 (zd2 l x),.int .i64 (zd2 l y),.int .i64 (zd2 l z),.int .i64 (zd2 l u)]] ⟨[oa,ob],t2⟩ fun v S=>v = .bool (!bad x y z u)∧∃ t3,t2≤t3∧S=if bad x y z u then ⟨[oa2,ob2],t3⟩ else ⟨[oa,ob],t3⟩):Ev Tryz.prog 92 [.yl lb,.ip [eInts l] 0] ⟨[oa,ob],tk⟩ fun v S=>(∃ t2,Fine l.length bad∧S=⟨[oa,ob],t2⟩)∨∃ t2,¬ Fine l.length bad∧S=⟨[oa2,ob2],t2⟩:=by
 refine Ev.of ⟨Tryz.func92,by kernel_rfl,rfl,by kernel_rfl⟩ zap mixed (by show 2≤Tryz.f92.ntmps; decide) ?_
 refine W.r fun K hK=>?_
 simp(disch:=omega)only[↓RU,RV,RH,↓reduceIte,qE,reduceCtorEq,if_pos,↓RS,RG,qA,qM,qL,zab,zaa]
 apply hK;clear hK K
 refine W.block ?_
 refine W.loop [0,1,8,9] (fun n vs S=>∃ x t0:Nat,n=l.length - x∧x≤l.length∧(∀ x2 y z u,x2<y→y<z→z<u→u<l.length→x2<x→bad x2 y z u=false)∧tk≤t0∧vs=[.yl lb,.ip [eInts l] 0,.int .i64 l.length,.int .i64 x]∧S=⟨[oa,ob],t0⟩) l.length ?_ ?_
 ·refine ⟨2,0,tk,rfl,Nat.zero_le _,?_,qR _,?_,rfl⟩
  ·intros; omega
  simp [Env.put,Env.of,zaf]
 rintro n vs S - ⟨x,t0,rfl,h_x,F0,ht0,rfl,rfl⟩
 refine W.r fun K hK=>?_
 simp(disch:=omega)only[↓RU,RV,RH,↓reduceIte,qE,reduceCtorEq,if_pos,w64,↓RS,RG,qA,qM,qL,zaa]
 apply hK;clear hK K
 refine W.seq ?_
 refine W.cond rfl (fun h0=>?_) (fun h0=>?_)
 ·try simp only[RL]at h0
  obtain ⟨vx,hvx,-⟩:=zag (show x<l.length by omega)
  refine W.skip ?_
  refine xn ?_
  refine W.seq ?_
  refine W.block ?_
  refine W.r fun K hK=>?_
  simp(disch:=omega)only[↓RU,RV,RH,↓reduceIte,qE,reduceCtorEq,if_pos,↓RS,RG,qA,qM,qL]
  apply hK;clear hK K
  refine W.r fun K hK=>?_
  simp(disch:=omega)only[↓RU,RV,RH,↓reduceIte,qE,reduceCtorEq,if_pos,w64,↓RS,RG,qA,qM,qL,zaa]
  apply hK;clear hK K
  refine W.block ?_
  refine W.loop [0,1,8,9,3,4] (fun n vs S=>∃ y t1:Nat,n=l.length - y∧(x+1)≤y∧y≤l.length∧(∀ y2 z u,x<y2→y2<z→z<u→u<l.length→y2<y→bad x y2 z u=false)∧tk≤t1∧vs=[.yl lb,.ip [eInts l] 0,.int .i64 l.length,.int .i64 x,.int .i64 x,.int .i64 y]∧S=⟨[oa,ob],t1⟩) (l.length - (x+1)) ?_ ?_
  ·refine ⟨2,(x+1),t0,rfl,qR _,by omega,?_,ht0,?_,rfl⟩
   ·intros; omega
   simp [Env.put,Env.of,zaf]
  rintro n vs S - ⟨y,t1,rfl,h_ly,h_y,F1,ht1,rfl,rfl⟩
  refine W.seq ?_
  refine W.r fun K hK=>?_
  simp(disch:=omega)only[↓RU,RV,RH,↓reduceIte,qE,reduceCtorEq,if_pos,w64,↓RS,RG,qA,qM,qL,zab,zaa]
  apply hK;clear hK K
  refine W.cond rfl (fun h1=>?_) (fun h1=>?_)
  ·try simp only[RL]at h1
   obtain ⟨vy,hvy,-⟩:=zag (show y<l.length by omega)
   refine W.skip ?_
   refine xn ?_
   refine W.seq ?_
   refine W.block ?_
   refine W.r fun K hK=>?_
   simp(disch:=omega)only[↓RU,RV,RH,↓reduceIte,qE,reduceCtorEq,if_pos,w64,↓RS,RG,qA,qM,qL,zaa]
   apply hK;clear hK K
   refine W.block ?_
   refine W.loop [0,1,8,9,3,4,5] (fun n vs S=>∃ z t2:Nat,n=l.length - z∧(y+1)≤z∧z≤l.length∧(∀ z2 u,y<z2→z2<u→u<l.length→z2<z→bad x y z2 u=false)∧tk≤t2∧vs=[.yl lb,.ip [eInts l] 0,.int .i64 l.length,.int .i64 x,.int .i64 x,.int .i64 y,.int .i64 z]∧S=⟨[oa,ob],t2⟩) (l.length - (y+1)) ?_ ?_
   ·refine ⟨2,(y+1),t1,rfl,qR _,by omega,?_,ht1,?_,rfl⟩
    ·intros; omega
    simp [Env.put,Env.of,zaf]
   rintro n vs S - ⟨z,t2,rfl,h_lz,h_z,F2,ht2,rfl,rfl⟩
   refine W.seq ?_
   refine W.r fun K hK=>?_
   simp(disch:=omega)only[↓RU,RV,RH,↓reduceIte,qE,reduceCtorEq,if_pos,w64,↓RS,RG,qA,qM,qL,zab,zaa]
   apply hK;clear hK K
   refine W.cond rfl (fun h2=>?_) (fun h2=>?_)
   ·try simp only[RL]at h2
    obtain ⟨vz,hvz,-⟩:=zag (show z<l.length by omega)
    refine W.skip ?_
    refine xn ?_
    refine W.seq ?_
    refine W.block ?_
    refine W.r fun K hK=>?_
    simp(disch:=omega)only[↓RU,RV,RH,↓reduceIte,qE,reduceCtorEq,if_pos,w64,↓RS,RG,qA,qM,qL,zaa]
    apply hK;clear hK K
    refine W.block ?_
    refine W.loop [0,1,8,9,3,4,5,6] (fun n vs S=>∃ u t3:Nat,n=l.length - u∧(z+1)≤u∧u≤l.length∧(∀ u2,z<u2→u2<l.length→u2<u→bad x y z u2=false)∧tk≤t3∧vs=[.yl lb,.ip [eInts l] 0,.int .i64 l.length,.int .i64 x,.int .i64 x,.int .i64 y,.int .i64 z,.int .i64 u]∧S=⟨[oa,ob],t3⟩) (l.length - (z+1)) ?_ ?_
    ·refine ⟨2,(z+1),t2,rfl,qR _,by omega,?_,ht2,?_,rfl⟩
     ·intros; omega
     simp [Env.put,Env.of,zaf]
    rintro n vs S - ⟨u,t3,rfl,h_lu,h_u,F3,ht3,rfl,rfl⟩
    refine W.seq ?_
    refine W.r fun K hK=>?_
    simp(disch:=omega)only[↓RU,RV,RH,↓reduceIte,qE,reduceCtorEq,if_pos,w64,↓RS,RG,qA,qM,qL,zab,zaa]
    apply hK;clear hK K
    refine W.cond rfl (fun h3=>?_) (fun h3=>?_)
    ·try simp only[RL]at h3
     obtain ⟨vu,hvu,-⟩:=zag (show u<l.length by omega)
     refine W.skip ?_
     refine xn ?_
     refine W.seq ?_
     refine W.block ?_
     refine W.seq_drawE (by kernel_rfl) fun K hK=>?_
     cases hb:bad x y z u
     ·skip
      have hyy:=hy x y z u (by omega) (by omega) (by omega) (by omega) t3 ht3
      rw [zgh hvx,zgh hvy,zgh hvz,zgh hvu]at hyy
      simp only[hb,Bool.not_false,qF,if_false]at hyy
      simp(disch:=omega)only[↓RU,RV,RH,↓reduceIte,qE,reduceCtorEq,if_pos,qN,↓RS,RG,qA,qM,qL,zat,zab,zaa,hvx,hvy,hvz,hvu]
      refine ztp.ey (hyy) ?_
      rintro _ _ ⟨rfl,t4,ht4,rfl⟩
      simp(disch:=omega)only[↓RU,RV,RH,↓reduceIte,qE,reduceCtorEq,if_pos,qN,↓RS,RG,qA,qM,qL,zat,zab,zaa,hvx,hvy,hvz,hvu]
      apply hK;clear hK K
      refine W.cond rfl (fun h4=>?_) (fun h4=>?_)
      ·try simp only[RL]at h4
       exact absurd h4 (by simp)
      try simp only[RL]at h4
      refine W.skip ?_
      refine XbN ?_
      refine xn ?_
      refine W.k fun K hK=>?_
      simp(disch:=omega)only[↓RU,RV,RH,↓reduceIte,qE,reduceCtorEq,if_pos,w64,↓RS,RG,qA,qM,qL,zaa]
      apply hK;clear hK K
      refine xn ?_
      refine ⟨l.length - (u+1),by omega,2,u+1,t4,rfl,by omega,by omega,?_,by omega,?_,rfl⟩
      ·intro u2 k1 k2 hlt
       rcases Nat.lt_succ_iff_lt_or_eq.1 hlt with hlt | rfl
       ·exact F3 u2 k1 k2 hlt
       exact hb
      simp [Env.put,Env.of]
     skip
     have hyy:=hy x y z u (by omega) (by omega) (by omega) (by omega) t3 ht3
     rw [zgh hvx,zgh hvy,zgh hvz,zgh hvu]at hyy
     simp only[hb,Bool.not_true,if_true]at hyy
     simp(disch:=omega)only[↓RU,RV,RH,↓reduceIte,qE,reduceCtorEq,if_pos,qN,↓RS,RG,qA,qM,qL,zat,zab,zaa,hvx,hvy,hvz,hvu]
     refine ztp.ey (hyy) ?_
     rintro _ _ ⟨rfl,t4,ht4,rfl⟩
     simp(disch:=omega)only[↓RU,RV,RH,↓reduceIte,qE,reduceCtorEq,if_pos,qN,↓RS,RG,qA,qM,qL,zat,zab,zaa,hvx,hvy,hvz,hvu]
     apply hK;clear hK K
     refine W.cond rfl (fun h4=>?_) (fun h4=>?_)
     ·try simp only[RL]at h4
      refine W.ret ?_
      refine XBlock.ret ?_
      refine XThen.ret ?_
      refine XThen.ret ?_
      refine XBlock.ret ?_
      refine XBlock.ret ?_
      refine XThen.ret ?_
      refine XThen.ret ?_
      refine XBlock.ret ?_
      refine XBlock.ret ?_
      refine XThen.ret ?_
      refine XThen.ret ?_
      refine XBlock.ret ?_
      refine XBlock.ret ?_
      refine XThen.ret ?_
      refine XThen.ret ?_
      refine XBlock.ret ?_
      refine Br rfl ?_
      exact ⟨2,.inr ⟨_,(fun hf=>by have:=hf x y z u (by omega) (by omega) (by omega) (by omega); rw [hb]at this; cases this),rfl⟩⟩
     try simp only[RL]at h4
     exact absurd h4 (by simp)
    try simp only[RL]at h3
    obtain rfl:u=l.length:=by omega
    refine W.exit ?_
    refine xe ?_
    refine xe ?_
    refine XBlock.hit ?_
    refine XbN ?_
    refine xn ?_
    refine W.k fun K hK=>?_
    simp(disch:=omega)only[↓RU,RV,RH,↓reduceIte,qE,reduceCtorEq,if_pos,w64,↓RS,RG,qA,qM,qL,zaa]
    apply hK;clear hK K
    refine xn ?_
    refine ⟨l.length - (z+1),by omega,2,z+1,t3,rfl,by omega,by omega,?_,ht3,?_,rfl⟩
    ·intro z2 u k1 k2 k3 hlt
     rcases Nat.lt_succ_iff_lt_or_eq.1 hlt with hlt | rfl
     ·exact F2 z2 u k1 k2 k3 hlt
     exact F3 u k2 k3 (by omega)
    simp [Env.put,Env.of]
   try simp only[RL]at h2
   obtain rfl:z=l.length:=by omega
   refine W.exit ?_
   refine xe ?_
   refine xe ?_
   refine XBlock.hit ?_
   refine XbN ?_
   refine xn ?_
   refine W.k fun K hK=>?_
   simp(disch:=omega)only[↓RU,RV,RH,↓reduceIte,qE,reduceCtorEq,if_pos,w64,↓RS,RG,qA,qM,qL,zaa]
   apply hK;clear hK K
   refine xn ?_
   refine ⟨l.length - (y+1),by omega,2,y+1,t2,rfl,by omega,by omega,?_,ht2,?_,rfl⟩
   ·intro y2 z u k1 k2 k3 k4 hlt
    rcases Nat.lt_succ_iff_lt_or_eq.1 hlt with hlt | rfl
    ·exact F1 y2 z u k1 k2 k3 k4 hlt
    exact F2 z u k2 k3 k4 (by omega)
   simp [Env.put,Env.of]
  try simp only[RL]at h1
  obtain rfl:y=l.length:=by omega
  refine W.exit ?_
  refine xe ?_
  refine xe ?_
  refine XBlock.hit ?_
  refine XbN ?_
  refine xn ?_
  refine W.k fun K hK=>?_
  simp(disch:=omega)only[↓RU,RV,RH,↓reduceIte,qE,reduceCtorEq,if_pos,w64,↓RS,RG,qA,qM,qL,zaa]
  apply hK;clear hK K
  refine xn ?_
  refine ⟨l.length - (x+1),by omega,2,x+1,t1,rfl,by omega,?_,ht1,?_,rfl⟩
  ·intro x2 y z u k1 k2 k3 k4 hlt
   rcases Nat.lt_succ_iff_lt_or_eq.1 hlt with hlt | rfl
   ·exact F0 x2 y z u k1 k2 k3 k4 hlt
   exact F1 y z u k1 k2 k3 k4 (by omega)
  simp [Env.put,Env.of]
 try simp only[RL]at h0
 obtain rfl:x=l.length:=by omega
 refine W.exit ?_
 refine xe ?_
 refine xe ?_
 refine XBlock.hit ?_
 refine zfe.norm rfl ?_
 exact ⟨2,.inl ⟨_,fun x y z u h1 h2 h3 h4=>F0 x y z u h1 h2 h3 h4 (by omega),rfl⟩⟩
theorem z9x {q:List Int} (hq:q.length≤1000) {fv:Bool} (hfv:fv=true↔Fine q.length (ybh q)):PC Tryz.prog 41 [eInts q] (.bool fv) true:=by
 refine PC.ofV ⟨Tryz.func41,by kernel_rfl,rfl,by kernel_rfl⟩ zap mixed (by show 1≤Tryz.f41.ntmps; decide) ?_
 refine V.seq_region fun K hK=>?_
 simp(disch:=omega)only[↓RU,RV,RH,↓reduceIte,qE,reduceCtorEq,if_pos,↓RS,RG,qA,qM,qL,zah]
 apply hK;clear hK K
 refine V.seq ?_
 refine V.seq_region fun K hK=>?_
 simp(disch:=omega)only[↓RU,RV,RH,↓reduceIte,qE,reduceCtorEq,if_pos,qN,↓RS,RG,qA,qM,qL]
 refine zad.pc (z07 q) rfl (.inr rfl) ?_
 simp(disch:=omega)only[↓RU,RV,RH,↓reduceIte,qE,reduceCtorEq,if_pos,qN,↓RS,RG,qA,qM,qL]
 apply hK;clear hK K
 refine V.block ?_
 refine V.rangeFunc [2] rfl fun l r hr hst hpd=>?_
 have hrr:({ r with state := .ready,pending:=none }:Loop)=r:=by cases r; simp only at hst hpd; subst hst; subst hpd; rfl
 refine ⟨_,zwc hq (ybh q) l _ _ (.arr 0 4 1 [.bool false]) (.lp 1 l ({ r with state := .done,pending:=some .ret },[2]) [.ref 0 0 0]) _ (fun x y z u h1 h2 h3 h4 t2 ht2=>?_),?_⟩
 ·refine Ey.of (o:=1) zap mixed rfl hr hst rfl ?_
  change W _ _ _ _ (Env.put (Env.put (Env.of [2] [.ref 0 0 0]) (some 7) (.agg [.int .i64 x,.int .i64 y,.int .i64 z,.int .i64 u])) (some 8) (.agg [.int .i64 (zd2 q x),.int .i64 (zd2 q y),.int .i64 (zd2 q z),.int .i64 (zd2 q u)])) _
  refine W.k fun K hK=>?_
  simp(disch:=omega)only[↓RU,RV,RH,↓reduceIte,qE,reduceCtorEq,if_pos,↓RS,RG,qA,qM,qL,zat,zaa]
  apply hK;clear hK K
  refine xn ⟨_,_,_,_,rfl,hst,?_⟩
  simp only[List.set_cons_succ,List.set_cons_zero]
  refine W.block ?_
  refine W.r fun K hK=>?_
  cases hb:ybh q x y z u
  ·skip
   have hb2:zfr (zd2 q x) (zd2 q y) (zd2 q z) (zd2 q u)=false:=hb
   simp(disch:=omega)only[↓RU,RV,RH,↓reduceIte,qE,reduceCtorEq,if_pos,qN,↓RS,RG,qA,qM,qL,zat,zaa,hb2]
   refine zad.pc (z2t _ _ _ _) rfl (.inl rfl) ?_
   simp(disch:=omega)only[↓RU,RV,RH,↓reduceIte,qE,reduceCtorEq,if_pos,qN,↓RS,RG,qA,qM,qL,zat,zaa,hb2]
   apply hK;clear hK K
   refine W.cond rfl (fun h0=>?_) (fun h0=>?_)
   ·try simp only[RL]at h0
    exact absurd h0 (by simp)
   try simp only[RL]at h0
   refine W.skip ?_
   refine XbN ?_
   refine ⟨_,_,_,_,2,rfl,?_⟩
   simp only[hb,Bool.not_false,qF,if_false]
   refine ⟨trivial,_,?_,congrArg (fun r=>(⟨[_,.lp 1 l (r,[2]) _],_⟩:Store)) hrr⟩
   first | exact Nat.le_add_right _ 1 | exact Nat.le_add_right _ 2
  skip
  have hb2:zfr (zd2 q x) (zd2 q y) (zd2 q z) (zd2 q u)=true:=hb
  simp(disch:=omega)only[↓RU,RV,RH,↓reduceIte,qE,reduceCtorEq,if_pos,qN,↓RS,RG,qA,qM,qL,zat,zaa,hb2]
  refine zad.pc (z2t _ _ _ _) rfl (.inl rfl) ?_
  simp(disch:=omega)only[↓RU,RV,RH,↓reduceIte,qE,reduceCtorEq,if_pos,qN,↓RS,RG,qA,qM,qL,zat,zaa,hb2]
  apply hK;clear hK K
  refine W.cond rfl (fun h0=>?_) (fun h0=>?_)
  ·try simp only[RL]at h0
   refine W.r fun K hK=>?_
   simp(disch:=omega)only[↓RU,RV,RH,↓reduceIte,qE,reduceCtorEq,if_pos,↓RS,RG,qA,qM,qL,zah]
   apply hK;clear hK K
   refine W.ret ?_
   refine XBlock.ret ?_
   refine ⟨_,_,_,_,2,rfl,?_⟩
   simp only[hb,Bool.not_true,if_true]
   refine ⟨trivial,_,?_,rfl⟩
   first | exact Nat.le_add_right _ 1 | exact Nat.le_add_right _ 2
  try simp only[RL]at h0
  exact absurd h0 (by simp)
 rintro v S2 (⟨t2,hq2,rfl⟩ | ⟨t2,hq2,rfl⟩)
 ·skip
  refine ⟨_,_,_,_,.normal,rfl,by rw [hst]; simp,by rw [hpd]; rfl,?_⟩
  change XBlock _ _ _ _ ⟨[_],_⟩
  refine XbN ?_
  refine xn ?_
  refine W.v ?_
  refine W.r fun K hK=>?_
  simp(disch:=omega)only[↓RU,RV,RH,↓reduceIte,qE,reduceCtorEq,if_pos,↓RS,RG,qA,qM,qL,zah]
  apply hK;clear hK K
  refine W.ret ?_
  refine Br rfl ?_
  rw [hfv.2 hq2]
  rfl
 skip
 refine ⟨_,_,_,_,.ret,rfl,by simp,rfl,?_⟩
 change XBlock _ _ _ _ ⟨[_],_⟩
 refine XBlock.ret ?_
 refine XThen.ret ?_
 refine Br rfl ?_
 rw [show fv=false by cases fv with | false=>rfl | true=>exact absurd (hfv.1 rfl) hq2]
 rfl
theorem ycs {q:List Int} (hq:q.length≤1000) {fv:Bool} (hfv:fv=true↔Fine q.length (z43 q)):PC Tryz.prog 40 [eInts q] (.bool fv) true:=by
 refine PC.ofV ⟨Tryz.func40,by kernel_rfl,rfl,by kernel_rfl⟩ zap mixed (by show 1≤Tryz.f40.ntmps; decide) ?_
 refine V.seq_region fun K hK=>?_
 simp(disch:=omega)only[↓RU,RV,RH,↓reduceIte,qE,reduceCtorEq,if_pos,↓RS,RG,qA,qM,qL,zah]
 apply hK;clear hK K
 refine V.seq ?_
 refine V.seq_region fun K hK=>?_
 simp(disch:=omega)only[↓RU,RV,RH,↓reduceIte,qE,reduceCtorEq,if_pos,qN,↓RS,RG,qA,qM,qL]
 refine zad.pc (z07 q) rfl (.inr rfl) ?_
 simp(disch:=omega)only[↓RU,RV,RH,↓reduceIte,qE,reduceCtorEq,if_pos,qN,↓RS,RG,qA,qM,qL]
 apply hK;clear hK K
 refine V.block ?_
 refine V.rangeFunc [2] rfl fun l r hr hst hpd=>?_
 have hrr:({ r with state := .ready,pending:=none }:Loop)=r:=by cases r; simp only at hst hpd; subst hst; subst hpd; rfl
 refine ⟨_,zwc hq (z43 q) l _ _ (.arr 0 4 1 [.bool false]) (.lp 1 l ({ r with state := .done,pending:=some .ret },[2]) [.ref 0 0 0]) _ (fun x y z u h1 h2 h3 h4 t2 ht2=>?_),?_⟩
 ·refine Ey.of (o:=1) zap mixed rfl hr hst rfl ?_
  change W _ _ _ _ (Env.put (Env.put (Env.of [2] [.ref 0 0 0]) (some 7) (.agg [.int .i64 x,.int .i64 y,.int .i64 z,.int .i64 u])) (some 8) (.agg [.int .i64 (zd2 q x),.int .i64 (zd2 q y),.int .i64 (zd2 q z),.int .i64 (zd2 q u)])) _
  refine W.r fun K hK=>?_
  simp(disch:=omega)only[↓RU,RV,RH,↓reduceIte,qE,reduceCtorEq,if_pos,↓RS,RG,qA,qM,qL,zat,zaa]
  apply hK;clear hK K
  refine W.k fun K hK=>?_
  simp(disch:=omega)only[↓RU,RV,RH,↓reduceIte,qE,reduceCtorEq,if_pos,↓RS,RG,qA,qM,qL,zat,zaa]
  apply hK;clear hK K
  refine xn ⟨_,_,_,_,rfl,hst,?_⟩
  simp only[List.set_cons_succ,List.set_cons_zero]
  refine W.block ?_
  refine W.r fun K hK=>?_
  rcases (show ¬ (y+1=z)∨(y+1=z∧zrh (zd2 q x) (zd2 q y) (zd2 q z) (zd2 q u)=false)∨(y+1=z∧zrh (zd2 q x) (zd2 q y) (zd2 q z) (zd2 q u)=true) by by_cases h:y+1=z <;> cases zrh (zd2 q x) (zd2 q y) (zd2 q z) (zd2 q u) <;> simp [h]) with hyz | ⟨hyz,hu⟩ | ⟨hyz,hu⟩
  ·skip
   have hb:z43 q x y z u=false:=by unfold z43; rw [decide_eq_false hyz,Bool.false_and]
   have e1:((y:Int)+1 == (z:Int))=false:=by simp; omega
   simp(disch:=omega)only[↓RU,RV,RH,↓reduceIte,qE,reduceCtorEq,if_pos,w64,qN,↓RS,RG,qA,qM,qL,zat,zaa,Int.toNat_zero,Nat.zero_mul,qZ,qM,Nat.zero_add,Nat.mul_one,List.getElem?_cons_zero,List.getElem?_cons_succ,e1]
   apply hK;clear hK K
   refine W.cond rfl (fun h0=>?_) (fun h0=>?_)
   ·try simp only[RL]at h0
    exact absurd h0 (by simp)
   try simp only[RL]at h0
   refine W.skip ?_
   refine XbN ?_
   refine ⟨_,_,_,_,2,rfl,?_⟩
   simp only[hb,Bool.not_false,qF,if_false]
   refine ⟨trivial,_,?_,congrArg (fun r=>(⟨[_,.lp 1 l (r,[2]) _],_⟩:Store)) hrr⟩
   first | exact Nat.le_add_right _ 1 | exact Nat.le_add_right _ 2
  ·skip
   have hb:z43 q x y z u=false:=by unfold z43; rw [hu,Bool.and_false]
   have e1:((y:Int)+1 == (z:Int))=true:=by simp; omega
   simp(disch:=omega)only[↓RU,RV,RH,↓reduceIte,qE,reduceCtorEq,if_pos,w64,qN,↓RS,RG,qA,qM,qL,zat,zaa,Int.toNat_zero,Nat.zero_mul,qZ,qM,Nat.zero_add,Nat.mul_one,List.getElem?_cons_zero,List.getElem?_cons_succ,e1,hu]
   refine zad.pc (zyi _ _ _ _) rfl (.inl rfl) ?_
   simp(disch:=omega)only[↓RU,RV,RH,↓reduceIte,qE,reduceCtorEq,if_pos,w64,qN,↓RS,RG,qA,qM,qL,zat,zaa,Int.toNat_zero,Nat.zero_mul,qZ,qM,Nat.zero_add,Nat.mul_one,List.getElem?_cons_zero,List.getElem?_cons_succ,e1,hu]
   apply hK;clear hK K
   refine W.cond rfl (fun h0=>?_) (fun h0=>?_)
   ·try simp only[RL]at h0
    exact absurd h0 (by simp)
   try simp only[RL]at h0
   refine W.skip ?_
   refine XbN ?_
   refine ⟨_,_,_,_,2,rfl,?_⟩
   simp only[hb,Bool.not_false,qF,if_false]
   refine ⟨trivial,_,?_,congrArg (fun r=>(⟨[_,.lp 1 l (r,[2]) _],_⟩:Store)) hrr⟩
   first | exact Nat.le_add_right _ 1 | exact Nat.le_add_right _ 2
  skip
  have hb:z43 q x y z u=true:=by unfold z43; rw [hu,decide_eq_true hyz]; rfl
  have e1:((y:Int)+1 == (z:Int))=true:=by simp; omega
  simp(disch:=omega)only[↓RU,RV,RH,↓reduceIte,qE,reduceCtorEq,if_pos,w64,qN,↓RS,RG,qA,qM,qL,zat,zaa,Int.toNat_zero,Nat.zero_mul,qZ,qM,Nat.zero_add,Nat.mul_one,List.getElem?_cons_zero,List.getElem?_cons_succ,e1,hu]
  refine zad.pc (zyi _ _ _ _) rfl (.inl rfl) ?_
  simp(disch:=omega)only[↓RU,RV,RH,↓reduceIte,qE,reduceCtorEq,if_pos,w64,qN,↓RS,RG,qA,qM,qL,zat,zaa,Int.toNat_zero,Nat.zero_mul,qZ,qM,Nat.zero_add,Nat.mul_one,List.getElem?_cons_zero,List.getElem?_cons_succ,e1,hu]
  apply hK;clear hK K
  refine W.cond rfl (fun h0=>?_) (fun h0=>?_)
  ·try simp only[RL]at h0
   refine W.r fun K hK=>?_
   simp(disch:=omega)only[↓RU,RV,RH,↓reduceIte,qE,reduceCtorEq,if_pos,↓RS,RG,qA,qM,qL,zah]
   apply hK;clear hK K
   refine W.ret ?_
   refine XBlock.ret ?_
   refine ⟨_,_,_,_,2,rfl,?_⟩
   simp only[hb,Bool.not_true,if_true]
   refine ⟨trivial,_,?_,rfl⟩
   first | exact Nat.le_add_right _ 1 | exact Nat.le_add_right _ 2
  try simp only[RL]at h0
  exact absurd h0 (by simp)
 rintro v S2 (⟨t2,hq2,rfl⟩ | ⟨t2,hq2,rfl⟩)
 ·skip
  refine ⟨_,_,_,_,.normal,rfl,by rw [hst]; simp,by rw [hpd]; rfl,?_⟩
  change XBlock _ _ _ _ ⟨[_],_⟩
  refine XbN ?_
  refine xn ?_
  refine W.v ?_
  refine W.r fun K hK=>?_
  simp(disch:=omega)only[↓RU,RV,RH,↓reduceIte,qE,reduceCtorEq,if_pos,↓RS,RG,qA,qM,qL,zah]
  apply hK;clear hK K
  refine W.ret ?_
  refine Br rfl ?_
  rw [hfv.2 hq2]
  rfl
 skip
 refine ⟨_,_,_,_,.ret,rfl,by simp,rfl,?_⟩
 change XBlock _ _ _ _ ⟨[_],_⟩
 refine XBlock.ret ?_
 refine XThen.ret ?_
 refine Br rfl ?_
 rw [show fv=false by cases fv with | false=>rfl | true=>exact absurd (hfv.1 rfl) hq2]
 rfl
theorem zyy {q:List Int} (hl:q.length<2147483648) {x:Int} {i:Nat} (hx:q[i]?=some x) (hi:∀ (j:Nat),j<i→q[j]?≠some x):PC Tryz.prog 61 [eInts q,.int .i64 x] (.bool true) true:=by
 have hd:decide ((i:Int) ≥ 0)=true:=decide_eq_true (by omega)
 refine PC.of ⟨Tryz.func61,by kernel_rfl,rfl,by kernel_rfl⟩ zap mixed (by show 2≤Tryz.f61.ntmps; decide) ?_
 refine W.r fun K hK=>?_
 simp(disch:=omega)only[↓RU,RV,RH,↓reduceIte,qE,reduceCtorEq,if_pos]
 apply hK;clear hK K
 refine W.r fun K hK=>?_
 simp(disch:=omega)only[↓RU,RV,RH,↓reduceIte,qE,reduceCtorEq,if_pos,qN,w64,zaa,hd]
 refine zad.pc (zsj hl hx hi) rfl (.inl rfl) ?_
 simp(disch:=omega)only[↓RU,RV,RH,↓reduceIte,qE,reduceCtorEq,if_pos,qN,w64,zaa,hd]
 apply hK;clear hK K
 refine W.ret ?_
 refine Br rfl ?_
 rfl
theorem zxi {q:List Int} (hl1:1≤q.length) (hl7:q.length≤7) (hq:∀ i:Nat,i<q.length→∃ j:Nat,q[j]?=some (i:Int)∧∀ k,k<j→q[k]?≠some (i:Int)):PC Tryz.prog 39 [eInts q] (.bool true) true:=by
 have hd1:decide ((q.length:Int)<1)=false:=decide_eq_false (by omega)
 have hd2:decide ((q.length:Int)>7)=false:=decide_eq_false (by omega)
 refine PC.of ⟨Tryz.func39,by kernel_rfl,rfl,by kernel_rfl⟩ zap mixed (by show 1≤Tryz.f39.ntmps; decide) ?_
 refine W.r fun K hK=>?_
 simp(disch:=omega)only[↓RU,RV,RH,↓reduceIte,qE,reduceCtorEq,if_pos]
 apply hK;clear hK K
 refine W.seq ?_
 refine W.r fun K hK=>?_
 simp(disch:=omega)only[↓RU,RV,RH,↓reduceIte,qE,reduceCtorEq,if_pos,w64,zab,zaa,hd1,hd2]
 apply hK;clear hK K
 refine W.cond rfl (fun h0=>?_) (fun h0=>?_)
 ·try simp only[RL]at h0
  exact absurd h0 (by simp)
 try simp only[RL]at h0
 refine W.skip ?_
 refine xn ?_
 refine W.seq ?_
 refine W.r fun K hK=>?_
 simp(disch:=omega)only[↓RU,RV,RH,↓reduceIte,qE,reduceCtorEq,if_pos,zab,zaa]
 apply hK;clear hK K
 refine W.block ?_
 refine W.loop [0,13,14] (fun n vs S=>∃ i:Nat,n=q.length - i∧i≤q.length∧vs=[eInts q,.int .i64 q.length,.int .i64 i]∧S=⟨[],0⟩) (q.length) ?_ ?_
 ·refine ⟨0,0,rfl,Nat.zero_le _,?_,rfl⟩
  simp [Env.put,Env.of,zaf]
 rintro n vs S - ⟨i,rfl,h_i,rfl,rfl⟩
 refine W.r fun K hK=>?_
 simp(disch:=omega)only[↓RU,RV,RH,↓reduceIte,qE,reduceCtorEq,if_pos,w64,zaa]
 apply hK;clear hK K
 refine W.seq ?_
 refine W.cond rfl (fun h1=>?_) (fun h1=>?_)
 ·try simp only[RL]at h1
  obtain ⟨j,hj,hj2⟩:=hq i (by omega)
  refine W.skip ?_
  refine xn ?_
  refine W.seq ?_
  refine W.block ?_
  refine W.r fun K hK=>?_
  simp(disch:=omega)only[↓RU,RV,RH,↓reduceIte,qE,reduceCtorEq,if_pos]
  apply hK;clear hK K
  refine W.r fun K hK=>?_
  simp(disch:=omega)only[↓RU,RV,RH,↓reduceIte,qE,reduceCtorEq,if_pos,qN]
  refine zad.pc (zyy (by omega) hj hj2) rfl (.inl rfl) ?_
  simp(disch:=omega)only[↓RU,RV,RH,↓reduceIte,qE,reduceCtorEq,if_pos,qN]
  apply hK;clear hK K
  refine W.cond rfl (fun h2=>?_) (fun h2=>?_)
  ·try simp only[RL]at h2
   exact absurd h2 (by simp)
  try simp only[RL]at h2
  refine W.skip ?_
  refine XbN ?_
  refine xn ?_
  refine W.k fun K hK=>?_
  simp(disch:=omega)only[↓RU,RV,RH,↓reduceIte,qE,reduceCtorEq,if_pos,w64,zaa]
  apply hK;clear hK K
  refine xn ?_
  refine ⟨q.length - (i+1),by omega,0,i+1,rfl,by omega,?_,rfl⟩
  simp [Env.put,Env.of]
 try simp only[RL]at h1
 obtain rfl:i=q.length:=by omega
 refine W.exit ?_
 refine xe ?_
 refine xe ?_
 refine XBlock.hit ?_
 refine xn ?_
 refine W.r fun K hK=>?_
 simp(disch:=omega)only[↓RU,RV,RH,↓reduceIte,qE,reduceCtorEq,if_pos]
 apply hK;clear hK K
 refine W.ret ?_
 refine Br rfl ?_
 rfl
theorem zzg {q:List Int} (hl1:1≤q.length) (hl7:q.length≤7) (hq:∀ i:Nat,i<q.length→∃ j:Nat,q[j]?=some (i:Int)∧∀ k,k<j→q[k]?≠some (i:Int)) {fv:Bool} (hfv:fv=true↔Fine q.length (z43 q)):PC Tryz.prog 17 [eInts q] (.bool fv) true:=by
 refine PC.of ⟨Tryz.func17,by kernel_rfl,rfl,by kernel_rfl⟩ zap mixed (by show 1≤Tryz.f17.ntmps; decide) ?_
 refine W.r fun K hK=>?_
 simp(disch:=omega)only[↓RU,RV,RH,↓reduceIte,qE,reduceCtorEq,if_pos]
 apply hK;clear hK K
 refine W.r fun K hK=>?_
 simp(disch:=omega)only[↓RU,RV,RH,↓reduceIte,qE,reduceCtorEq,if_pos,qN]
 refine zad.pc (zxi hl1 hl7 hq) rfl (.inl rfl) ?_
 simp(disch:=omega)only[↓RU,RV,RH,↓reduceIte,qE,reduceCtorEq,if_pos,qN]
 refine zad.pc (ycs (by omega) hfv) rfl (.inl rfl) ?_
 simp(disch:=omega)only[↓RU,RV,RH,↓reduceIte,qE,reduceCtorEq,if_pos,qN]
 apply hK;clear hK K
 refine W.ret ?_
 refine Br rfl ?_
 rfl
theorem zxj {q:List Int} (hl1:1≤q.length) (hl7:q.length≤7) (hq:∀ i:Nat,i<q.length→∃ j:Nat,q[j]?=some (i:Int)∧∀ k,k<j→q[k]?≠some (i:Int)) {fv:Bool} (hfv:fv=true↔Fine q.length (ybh q)):PC Tryz.prog 18 [eInts q] (.bool fv) true:=by
 refine PC.of ⟨Tryz.func18,by kernel_rfl,rfl,by kernel_rfl⟩ zap mixed (by show 1≤Tryz.f18.ntmps; decide) ?_
 refine W.r fun K hK=>?_
 simp(disch:=omega)only[↓RU,RV,RH,↓reduceIte,qE,reduceCtorEq,if_pos]
 apply hK;clear hK K
 refine W.r fun K hK=>?_
 simp(disch:=omega)only[↓RU,RV,RH,↓reduceIte,qE,reduceCtorEq,if_pos,qN]
 refine zad.pc (zxi hl1 hl7 hq) rfl (.inl rfl) ?_
 simp(disch:=omega)only[↓RU,RV,RH,↓reduceIte,qE,reduceCtorEq,if_pos,qN]
 refine zad.pc (z9x (by omega) hfv) rfl (.inl rfl) ?_
 simp(disch:=omega)only[↓RU,RV,RH,↓reduceIte,qE,reduceCtorEq,if_pos,qN]
 apply hK;clear hK K
 refine W.ret ?_
 refine Br rfl ?_
 rfl
def zol {α:Type} (enc:α→PV) (zero:PV) (room:Int→α) (cut:Bool→α→α→α):Option CT→PV
 | some x => .tup [enc (x.fold room cut),.bool true]
 | none => .tup [zero,.bool false]
theorem zlq {α:Type} {enc:α→PV} {zero:PV} {room:Int→α} {cut:Bool→α→α→α} (o:Option CT):∃ v b,zol enc zero room cut o = .tup [v,.bool b]:=by
 cases o with
 | none=>exact ⟨_,_,rfl⟩
 | some x=>exact ⟨_,_,rfl⟩
theorem z4m (a b:Option CT):a=none∨(∃ x,a=some x∧b=none)∨∃ x y,a=some x∧b=some y:=by
 cases a <;> cases b <;> simp
theorem zj4 {p:List Txt} (hp:zbw p=true):(rP p).length≤9∧∀ b∈rP p,b.Fit:=by
 have hN:=zc6 hp
 have h1:=hN.rooms
 have h2:za2 p≤9:=by unfold zbw at hp; simp only[qB,decide_eq_true_eq]at hp; exact hp.1.2
 have hsm:=zce hN.hg
 obtain ⟨row0,hr0,hm0⟩:=zag hsm.1
 have hh:=zc1 hr0
 have hw6:=hsm.2.2 row0 hm0
 have hw1:=zfk hN.hg hr0
 rw [← hh]at hw6 hw1
 have hok:=(zga (g:=zcf p) hw6 hw1 p.length hsm.2.1).1
 rw [← z7n]at hok
 exact ⟨by omega,hok.2⟩
theorem z10 {p:List Txt} (hp:zbw p=true) {t:Pt} (h:t.In p.length (zao p).length):t.rect.Fit:=by
 have hg:=zzi hp
 obtain ⟨g1,g2,g3,g4⟩:=hg.2.2
 unfold Pt.In at h
 simp only[Rect.Fit,Pt.rect]
 omega
def z9c (a:Int):Txt:=(Utf8.encode (65+a)).data.toList
theorem ycj {a:Int} (h0:0≤a) (h1:a<9):(z9c a).length≤4:=by
 obtain ⟨n,rfl⟩:=Int.eq_ofNat_of_zero_le h0
 have:n=0∨n=1∨n=2∨n=3∨n=4∨n=5∨n=6∨n=7∨n=8:=by omega
 rcases this with rfl | rfl | rfl | rfl | rfl | rfl | rfl | rfl | rfl <;> decide +kernel
theorem z6l (lv:Bool):(if lv then [(104:UInt8)] else [118]).length=1:=by cases lv <;> rfl
def z9d (lv:Bool) (x y:Txt):Txt:=(if lv then [104] else [118])++x++y
theorem z0j {x:CT} (h:∀ a∈x.leaves,0≤a∧a<9):(x.fold z9c z9d).length+1≤5*x.leaves.length:=by
 induction x with
 | leaf a=>have:=h a (by simp [CT.leaves]); have:=ycj this.1 this.2; simp only[CT.fold,CT.leaves,List.length_singleton]; omega
 | node lv x y h1 h2 =>
  have k1:=h1 fun a ha=>h a (by simp [CT.leaves,ha])
  have k2:=h2 fun a ha=>h a (by simp [CT.leaves,ha])
  have p1:=x.pos
  have p2:=y.pos
  have e:(if lv then [(104:UInt8)] else [118]).length=1:=z6l lv
  simp only[CT.fold,CT.leaves,z9d,List.length_append,e] at *
  omega
theorem w32r {x:Int} (h1:0≤x) (h2:x<1000):IntKind.i32.wrap x=x:=by
 simp [IntKind.wrap,IntKind.bits,IntKind.signed]; omega
theorem zqd {p:List Txt} (hp:zbw p=true) {t:Pt} (hw:Whole (zal p) p.length (zao p).length t) {x:CT} (hx:zdi (zal p) t=some x):(∀ a∈x.leaves,0≤a∧a<(rP p).length)∧x.leaves.length≤9:=by
 obtain ⟨h1,h2,h3⟩:=zfz (zh1 hp) _ hw (qR _) hx
 have hin:=hw.inn
 unfold Pt.In at hin
 have hb:∀ a∈x.leaves,0≤a∧a<(rP p).length:=by
  intro a ha
  obtain ⟨i,j,e1,e2,e3,e4,e5⟩:=(h2 a).1 ha
  have:=zej hp (i:=i) (j:=j) (by omega) (by omega)
  omega
 have:=zuc h1 hb
 have:=(zj4 hp).1
 exact ⟨hb,by omega⟩
theorem zwb {p:List Txt} (hp:zbw p=true) {rf cf:FuncId} {rc cc:List PV} (hr9:∀ S,rc.mapM (reify S true 9)=some rc) (hr10:∀ S,rc.mapM (reify S true 10)=some rc) (hc9:∀ S,cc.mapM (reify S true 9)=some cc) (hc10:∀ S,cc.mapM (reify S true 10)=some cc)
  {room:Int→Txt} {cut:Bool→Txt→Txt→Txt} (hroom:∀ a:Int,0≤a→a<(rP p).length→PC Tryz.prog rf (.int .i64 a::rc) ((fun x:Txt=>PV.str x) (room a)) true)
  (hcut:∀ (t:Pt) q x y,Whole (zal p) p.length (zao p).length t→zeb (zal p) t=some q→zdi (zal p) (t.one q)=some x→zdi (zal p) (t.two q)=some y→PC Tryz.prog cf (z0w (gP p) (rP p) t q::(fun x:Txt=>PV.str x) (x.fold room cut)::(fun x:Txt=>PV.str x) (y.fold room cut)::cc) ((fun x:Txt=>PV.str x) (cut q.1 (x.fold room cut) (y.fold room cut))) true) {t:Pt} (hw:Whole (zal p) p.length (zao p).length t) (ih:∀ t':Pt,Whole (zal p) p.length (zao p).length t'→t'.h*t'.w<t.h*t.w→PC Tryz.prog 94 [zik (gP p) (rP p) t'.rect,.fn rf rc,.fn cf cc] (zol (fun x:Txt=>PV.str x) (.str []) room cut (zdi (zal p) t')) true):PC Tryz.prog 94 [zik (gP p) (rP p) t.rect,.fn rf rc,.fn cf cc] (zol (fun x:Txt=>PV.str x) (.str []) room cut (zdi (zal p) t)) true:=by
 have hin:=hw.inn
 unfold Pt.In at hin
 obtain ⟨hn9,hfit⟩:=zj4 hp
 have hv:0≤zal p t.r t.c∧zal p t.r t.c<(rP p).length:=zej hp (by omega) (by omega)
 change PC _ _ [.agg [za3 (gP p) (rP p),.int .i64 t.r,.int .i64 t.c,.int .i64 t.h,.int .i64 t.w],.fn rf rc,.fn cf cc] _ _
 refine PC.of ⟨Tryz.func94,by kernel_rfl,rfl,by kernel_rfl⟩ zap mixed (by show 3≤Tryz.f94.ntmps; decide) ?_
 refine W.r fun K hK=>?_
 simp(disch:=omega)only[↓RU,RV,RH,↓reduceIte,qE,reduceCtorEq,if_pos,↓RS,RG,qA,qM,qL,ty7,zck,za7,zaa,zcl,za8]
 apply hK;clear hK K
 refine W.r fun K hK=>?_
 simp(disch:=omega)only[↓RU,RV,RH,↓reduceIte,qE,reduceCtorEq,if_pos,↓RS,RG,qA,qM,qL]
 apply hK;clear hK K
 refine W.seq ?_
 refine W.r fun K hK=>?_
 cases h1:zww (zal p) t
 ·skip
  have hmore:=yag hp hw h1
  have hL:=z6j (gP p) (by omega) hfit (z10 hp hw.inn)
  simp(disch:=omega)only[↓RU,RV,RH,↓reduceIte,qE,reduceCtorEq,if_pos,qN,↓RS,RG,qA,qM,qL,ty7,zck,za7,zaa,zcl,za8]
  refine zad.pc (hL) rfl (.inl rfl) ?_
  simp(disch:=omega)only[↓RU,RV,RH,↓reduceIte,qE,reduceCtorEq,if_pos,qN,↓RS,RG,qA,qM,qL,ty7,zck,za7,zaa,zcl,za8]
  apply hK;clear hK K
  refine W.r fun K hK=>?_
  simp(disch:=omega)only[↓RU,RV,RH,↓reduceIte,qE,reduceCtorEq,if_pos,w64,↓RS,RG,qA,qM,qL,zab,zaa]
  apply hK;clear hK K
  refine W.cond rfl (fun h0=>?_) (fun h0=>?_)
  ·try simp only[RL]at h0
   exfalso; omega
  try simp only[RL]at h0
  refine W.skip ?_
  refine xn ?_
  refine W.r fun K hK=>?_
  rcases hq:zeb (zal p) t with _ | q
  ·skip
   have hF:PC Tryz.prog 114 [zik (gP p) (rP p) t.rect] (.tup [.agg [.bool false,.nilp,.int .i64 0,.int .i64 0,.int .i64 0,.int .i64 0,.nilp,.int .i64 0,.int .i64 0,.int .i64 0,.int .i64 0],.bool false]) false:=by have h:=z05 hp hw.inn; simp only[zwa,hq]at h; exact h
   simp(disch:=omega)only[↓RU,RV,RH,↓reduceIte,qE,reduceCtorEq,if_pos,qN,↓RS,RG,qA,qM,qL,ty7,zah,zck,zhi,za7,zaa,zcl,zhj,za8]
   refine zad.pc (hF) rfl (.inr rfl) ?_
   simp(disch:=omega)only[↓RU,RV,RH,↓reduceIte,qE,reduceCtorEq,if_pos,qN,↓RS,RG,qA,qM,qL,ty7,zah,zck,zhi,za7,zaa,zcl,zhj,za8]
   apply hK;clear hK K
   refine W.seq ?_
   refine W.r fun K hK=>?_
   simp(disch:=omega)only[↓RU,RV,RH,↓reduceIte,qE,reduceCtorEq,if_pos,↓RS,RG,qA,qM,qL]
   apply hK;clear hK K
   refine W.cond rfl (fun h2=>?_) (fun h2=>?_)
   ·try simp only[RL]at h2
    refine W.r fun K hK=>?_
    simp(disch:=omega)only[↓RU,RV,RH,↓reduceIte,qE,reduceCtorEq,if_pos,↓RS,RG,qA,qM,qL]
    apply hK;clear hK K
    refine W.ret ?_
    refine XThen.ret ?_
    refine Br rfl ?_
    rw [zj9 hw.inn h1 hq]
    rfl
   try simp only[RL]at h2
   exact absurd h2 (by simp)
  skip
  have hF:PC Tryz.prog 114 [zik (gP p) (rP p) t.rect] (.tup [.agg [.bool q.1,za3 (gP p) (rP p),.int .i64 (t.one q).r,.int .i64 (t.one q).c,.int .i64 (t.one q).h,.int .i64 (t.one q).w,za3 (gP p) (rP p),.int .i64 (t.two q).r,.int .i64 (t.two q).c,.int .i64 (t.two q).h,.int .i64 (t.two q).w],.bool true]) false:=by have h:=z05 hp hw.inn; simp only[zwa,hq]at h; exact h
  obtain ⟨i1,i2,a1,a2⟩:=hw.inn.cut hq
  obtain ⟨w1,w2⟩:=hw.cut (zh1 hp) hq
  simp(disch:=omega)only[↓RU,RV,RH,↓reduceIte,qE,reduceCtorEq,if_pos,qN,↓RS,RG,qA,qM,qL,ty7,zah,zck,zhi,za7,zaa,zcl,zhj,za8]
  refine zad.pc (hF) rfl (.inr rfl) ?_
  simp(disch:=omega)only[↓RU,RV,RH,↓reduceIte,qE,reduceCtorEq,if_pos,qN,↓RS,RG,qA,qM,qL,ty7,zah,zck,zhi,za7,zaa,zcl,zhj,za8]
  apply hK;clear hK K
  refine W.seq ?_
  refine W.r fun K hK=>?_
  simp(disch:=omega)only[↓RU,RV,RH,↓reduceIte,qE,reduceCtorEq,if_pos,↓RS,RG,qA,qM,qL]
  apply hK;clear hK K
  refine W.cond rfl (fun h2=>?_) (fun h2=>?_)
  ·try simp only[RL]at h2
   exact absurd h2 (by simp)
  try simp only[RL]at h2
  refine W.skip ?_
  refine xn ?_
  refine W.r fun K hK=>?_
  obtain hx1 | ⟨x1,hx1,hx2⟩ | ⟨x1,x2,hx1,hx2⟩:=z4m (zdi (zal p) (t.one q)) (zdi (zal p) (t.two q))
  ·skip
   have hI1:=ih (t.one q) w1 a1
   have hI2:=ih (t.two q) w2 a2
   simp only[zol,hx1]at hI1
   obtain ⟨v2,b2,e2⟩:=zlq (enc:=(fun x:Txt=>PV.str x)) (zero:=(.str [])) (room:=room) (cut:=cut) (zdi (zal p) (t.two q))
   rw [e2]at hI2
   simp(disch:=omega)only[↓RU,RV,RH,↓reduceIte,qE,reduceCtorEq,if_pos,qN,↓RS,RG,qA,qM,qL,ty7,zah,zck,zhi,za7,zaa,zcl,zhj,za8]
   refine zad.pc (hI1) (zch rfl (zch (by rw [zev,hr9]; rfl) (zch (by rw [zev,hc9]; rfl) rfl))) (.inl rfl) ?_
   simp(disch:=omega)only[↓RU,RV,RH,↓reduceIte,qE,reduceCtorEq,if_pos,qN,↓RS,RG,qA,qM,qL,ty7,zah,zck,zhi,za7,zaa,zcl,zhj,za8]
   apply hK;clear hK K
   refine W.r fun K hK=>?_
   simp(disch:=omega)only[↓RU,RV,RH,↓reduceIte,qE,reduceCtorEq,if_pos,qN,↓RS,RG,qA,qM,qL,ty7,zah,zck,zhi,za7,zaa,zcl,zhj,za8]
   refine zad.pc (hI2) (zch rfl (zch (by rw [zev,hr9]; rfl) (zch (by rw [zev,hc9]; rfl) rfl))) (.inl rfl) ?_
   simp(disch:=omega)only[↓RU,RV,RH,↓reduceIte,qE,reduceCtorEq,if_pos,qN,↓RS,RG,qA,qM,qL,ty7,zah,zck,zhi,za7,zaa,zcl,zhj,za8]
   apply hK;clear hK K
   refine W.seq ?_
   refine W.r fun K hK=>?_
   simp(disch:=omega)only[↓RU,RV,RH,↓reduceIte,qE,reduceCtorEq,if_pos,↓RS,RG,qA,qM,qL]
   apply hK;clear hK K
   refine W.cond rfl (fun h3=>?_) (fun h3=>?_)
   ·try simp only[RL]at h3
    refine W.r fun K hK=>?_
    simp(disch:=omega)only[↓RU,RV,RH,↓reduceIte,qE,reduceCtorEq,if_pos,↓RS,RG,qA,qM,qL]
    apply hK;clear hK K
    refine W.ret ?_
    refine XThen.ret ?_
    refine Br rfl ?_
    rw [zhh hw.inn h1 hq,hx1]
    rfl
   try simp only[RL]at h3
   exact absurd h3 (by simp)
  ·skip
   have hI1:=ih (t.one q) w1 a1
   have hI2:=ih (t.two q) w2 a2
   simp only[zol,hx1]at hI1
   simp only[zol,hx2]at hI2
   simp(disch:=omega)only[↓RU,RV,RH,↓reduceIte,qE,reduceCtorEq,if_pos,qN,↓RS,RG,qA,qM,qL,ty7,zah,zck,zhi,za7,zaa,zcl,zhj,za8]
   refine zad.pc (hI1) (zch rfl (zch (by rw [zev,hr9]; rfl) (zch (by rw [zev,hc9]; rfl) rfl))) (.inl rfl) ?_
   simp(disch:=omega)only[↓RU,RV,RH,↓reduceIte,qE,reduceCtorEq,if_pos,qN,↓RS,RG,qA,qM,qL,ty7,zah,zck,zhi,za7,zaa,zcl,zhj,za8]
   apply hK;clear hK K
   refine W.r fun K hK=>?_
   simp(disch:=omega)only[↓RU,RV,RH,↓reduceIte,qE,reduceCtorEq,if_pos,qN,↓RS,RG,qA,qM,qL,ty7,zah,zck,zhi,za7,zaa,zcl,zhj,za8]
   refine zad.pc (hI2) (zch rfl (zch (by rw [zev,hr9]; rfl) (zch (by rw [zev,hc9]; rfl) rfl))) (.inl rfl) ?_
   simp(disch:=omega)only[↓RU,RV,RH,↓reduceIte,qE,reduceCtorEq,if_pos,qN,↓RS,RG,qA,qM,qL,ty7,zah,zck,zhi,za7,zaa,zcl,zhj,za8]
   apply hK;clear hK K
   refine W.seq ?_
   refine W.r fun K hK=>?_
   simp(disch:=omega)only[↓RU,RV,RH,↓reduceIte,qE,reduceCtorEq,if_pos,↓RS,RG,qA,qM,qL]
   apply hK;clear hK K
   refine W.cond rfl (fun h3=>?_) (fun h3=>?_)
   ·try simp only[RL]at h3
    refine W.r fun K hK=>?_
    simp(disch:=omega)only[↓RU,RV,RH,↓reduceIte,qE,reduceCtorEq,if_pos,↓RS,RG,qA,qM,qL]
    apply hK;clear hK K
    refine W.ret ?_
    refine XThen.ret ?_
    refine Br rfl ?_
    rw [zhh hw.inn h1 hq,hx1,hx2]
    rfl
   try simp only[RL]at h3
   exact absurd h3 (by simp)
  skip
  have hI1:=ih (t.one q) w1 a1
  have hI2:=ih (t.two q) w2 a2
  simp only[zol,hx1]at hI1
  simp only[zol,hx2]at hI2
  simp(disch:=omega)only[↓RU,RV,RH,↓reduceIte,qE,reduceCtorEq,if_pos,qN,↓RS,RG,qA,qM,qL,ty7,zah,zck,zhi,za7,zaa,zcl,zhj,za8]
  refine zad.pc (hI1) (zch rfl (zch (by rw [zev,hr9]; rfl) (zch (by rw [zev,hc9]; rfl) rfl))) (.inl rfl) ?_
  simp(disch:=omega)only[↓RU,RV,RH,↓reduceIte,qE,reduceCtorEq,if_pos,qN,↓RS,RG,qA,qM,qL,ty7,zah,zck,zhi,za7,zaa,zcl,zhj,za8]
  apply hK;clear hK K
  refine W.r fun K hK=>?_
  simp(disch:=omega)only[↓RU,RV,RH,↓reduceIte,qE,reduceCtorEq,if_pos,qN,↓RS,RG,qA,qM,qL,ty7,zah,zck,zhi,za7,zaa,zcl,zhj,za8]
  refine zad.pc (hI2) (zch rfl (zch (by rw [zev,hr9]; rfl) (zch (by rw [zev,hc9]; rfl) rfl))) (.inl rfl) ?_
  simp(disch:=omega)only[↓RU,RV,RH,↓reduceIte,qE,reduceCtorEq,if_pos,qN,↓RS,RG,qA,qM,qL,ty7,zah,zck,zhi,za7,zaa,zcl,zhj,za8]
  apply hK;clear hK K
  refine W.seq ?_
  refine W.r fun K hK=>?_
  simp(disch:=omega)only[↓RU,RV,RH,↓reduceIte,qE,reduceCtorEq,if_pos,↓RS,RG,qA,qM,qL]
  apply hK;clear hK K
  refine W.cond rfl (fun h3=>?_) (fun h3=>?_)
  ·try simp only[RL]at h3
   exact absurd h3 (by simp)
  try simp only[RL]at h3
  refine W.skip ?_
  refine xn ?_
  refine W.r fun K hK=>?_
  simp(disch:=omega)only[↓RU,RV,RH,↓reduceIte,qE,reduceCtorEq,if_pos,qN,↓RS,RG,qA,qM,qL,ty7,zah,zck,zhi,za7,zaa,zcl,zhj,za8]
  refine zad.pc (hcut t q x1 x2 hw hq hx1 hx2) (zch rfl (zch rfl (zch rfl (hc10 _)))) (.inl rfl) ?_
  simp(disch:=omega)only[↓RU,RV,RH,↓reduceIte,qE,reduceCtorEq,if_pos,qN,↓RS,RG,qA,qM,qL,ty7,zah,zck,zhi,za7,zaa,zcl,zhj,za8]
  apply hK;clear hK K
  refine W.ret ?_
  refine Br rfl ?_
  rw [zhh hw.inn h1 hq,hx1,hx2]
  rfl
 skip
 have hL:PC Tryz.prog 113 [zik (gP p) (rP p) t.rect] (.sl [.int .i64 (zal p t.r t.c)] 1) true:=by have h:=z6j (gP p) (by omega) hfit (z10 hp hw.inn); rw [ydr hp hw h1]at h; exact h
 have hv:=zej hp (i:=t.r) (j:=t.c) (by omega) (by omega)
 simp(disch:=omega)only[↓RU,RV,RH,↓reduceIte,qE,reduceCtorEq,if_pos,qN,↓RS,RG,qA,qM,qL,ty7,zck,za7,zaa,zcl,za8]
 refine zad.pc (hL) rfl (.inl rfl) ?_
 simp(disch:=omega)only[↓RU,RV,RH,↓reduceIte,qE,reduceCtorEq,if_pos,qN,↓RS,RG,qA,qM,qL,ty7,zck,za7,zaa,zcl,za8]
 apply hK;clear hK K
 refine W.r fun K hK=>?_
 simp(disch:=omega)only[↓RU,RV,RH,↓reduceIte,qE,reduceCtorEq,if_pos,w64,↓RS,RG,qA,qM,qL,zab,zaa]
 apply hK;clear hK K
 refine W.cond rfl (fun h0=>?_) (fun h0=>?_)
 ·try simp only[RL]at h0
  refine W.r fun K hK=>?_
  simp(disch:=omega)only[↓RU,RV,RH,↓reduceIte,qE,reduceCtorEq,if_pos,qN,↓RS,RG,qA,qM,qL,zab,zaa,Int.toNat_zero,Nat.zero_mul,qZ,List.getElem?_cons_zero]
  refine zad.pc (hroom _ hv.1 hv.2) (zch rfl (hr10 _)) (.inl rfl) ?_
  simp(disch:=omega)only[↓RU,RV,RH,↓reduceIte,qE,reduceCtorEq,if_pos,qN,↓RS,RG,qA,qM,qL,zab,zaa,Int.toNat_zero,Nat.zero_mul,qZ,List.getElem?_cons_zero]
  apply hK;clear hK K
  refine W.ret ?_
  refine XThen.ret ?_
  refine Br rfl ?_
  rw [zjq hw.inn h1]
  rfl
 try simp only[RL]at h0
 exact absurd h0 (by simp)
theorem zn1 {p:List Txt} (hp:zbw p=true) {rf cf:FuncId} {rc cc:List PV} (hr9:∀ S,rc.mapM (reify S true 9)=some rc) (hr10:∀ S,rc.mapM (reify S true 10)=some rc) (hc9:∀ S,cc.mapM (reify S true 9)=some cc) (hc10:∀ S,cc.mapM (reify S true 10)=some cc)
  {room:Int→Txt} {cut:Bool→Txt→Txt→Txt} (hroom:∀ a:Int,0≤a→a<(rP p).length→PC Tryz.prog rf (.int .i64 a::rc) ((fun x:Txt=>PV.str x) (room a)) true)
  (hcut:∀ (t:Pt) q x y,Whole (zal p) p.length (zao p).length t→zeb (zal p) t=some q→zdi (zal p) (t.one q)=some x→zdi (zal p) (t.two q)=some y→PC Tryz.prog cf (z0w (gP p) (rP p) t q::(fun x:Txt=>PV.str x) (x.fold room cut)::(fun x:Txt=>PV.str x) (y.fold room cut)::cc) ((fun x:Txt=>PV.str x) (cut q.1 (x.fold room cut) (y.fold room cut))) true):∀ (n:Nat) {t:Pt},t.h*t.w≤n→Whole (zal p) p.length (zao p).length t→PC Tryz.prog 94 [zik (gP p) (rP p) t.rect,.fn rf rc,.fn cf cc] (zol (fun x:Txt=>PV.str x) (.str []) room cut (zdi (zal p) t)) true
 | 0,t,hn,hw=>by have:=Nat.mul_pos hw.inn.1 hw.inn.2.1; omega
 | n+1,t,hn,hw=>zwb hp hr9 hr10 hc9 hc10 hroom hcut hw fun t' hw' ha=>zn1 hp hr9 hr10 hc9 hc10 hroom hcut n (by omega) hw'
theorem yaq {a:Int} (h0:0≤a) (h1:a<9):PC Tryz.prog 93 [.int .i64 a] (.str (z9c a)) true:=by
 refine PC.of ⟨Tryz.func93,by kernel_rfl,rfl,by kernel_rfl⟩ zap mixed (by show 1≤Tryz.f93.ntmps; decide) ?_
 refine W.r fun K hK=>?_
 simp(disch:=omega)only[↓RU,RV,RH,↓reduceIte,qE,reduceCtorEq,if_pos,w32r]
 apply hK;clear hK K
 refine W.r fun K hK=>?_
 simp(disch:=omega)only[↓RU,RV,RH,↓reduceIte,qE,reduceCtorEq,if_pos,w64,w64,zaa,yd7,zac,w32r]
 apply hK;clear hK K
 refine W.ret ?_
 refine Br rfl ?_
 rfl
theorem z6i (g:List (List Int)) (rs:List Rect) (lv:Bool) (a b:Rect):PC Tryz.prog 96 [.agg (zqv g rs lv a b)] (.str (if lv then [104] else [118])) true:=by
 simp only[zqv,Rect.cells]
 refine PC.of ⟨Tryz.func96,by kernel_rfl,rfl,by kernel_rfl⟩ zap mixed (by show 1≤Tryz.f96.ntmps; decide) ?_
 refine W.r fun K hK=>?_
 simp(disch:=omega)only[↓RU,RV,RH,↓reduceIte,qE,reduceCtorEq,if_pos,↓RS,RG,qA,qM,qL,ty7,zah,zck,zhi,za7,zaa,zcl,zhj,za8]
 apply hK;clear hK K
 refine W.seq ?_
 refine W.r fun K hK=>?_
 simp(disch:=omega)only[↓RU,RV,RH,↓reduceIte,qE,reduceCtorEq,if_pos,↓RS,RG,qA,qM,qL,ty7,zah,zck,zhi,za7,zaa,zcl,zhj,za8]
 apply hK;clear hK K
 refine W.cond rfl (fun h0=>?_) (fun h0=>?_)
 ·try simp only[RL]at h0
  refine W.r fun K hK=>?_
  simp(disch:=omega)only[↓RU,RV,RH,↓reduceIte,qE,reduceCtorEq,if_pos,↓RS,RG,qA,qM,qL]
  apply hK;clear hK K
  refine W.ret ?_
  refine XThen.ret ?_
  refine Br rfl ?_
  subst h0
  rfl
 try simp only[RL]at h0
 refine W.skip ?_
 refine xn ?_
 refine W.r fun K hK=>?_
 simp(disch:=omega)only[↓RU,RV,RH,↓reduceIte,qE,reduceCtorEq,if_pos,↓RS,RG,qA,qM,qL]
 apply hK;clear hK K
 refine W.ret ?_
 refine Br rfl ?_
 subst h0
 rfl
theorem z2r {lv:Bool} {b:List UInt8} (h:b.length+1≤9223372036854775807):zvh .add (if lv then [104] else [118]) b=some (.str ((if lv then [104] else [118])++b)):=if_pos (by rw [z6l]; omega)
theorem z2s {lv:Bool} {b d:List UInt8} (h:b.length+1+d.length≤9223372036854775807):zvh .add ((if lv then [104] else [118])++b) d=some (.str ((if lv then [104] else [118])++b++d)):=if_pos (by rw [List.length_append,z6l]; omega)
theorem yar (g:List (List Int)) (rs:List Rect) (lv:Bool) (a b:Rect) {x y:Txt} (hx:x.length≤10000) (hy:y.length≤10000):PC Tryz.prog 95 [.agg (zqv g rs lv a b),.str x,.str y] (.str (z9d lv x y)) true:=by
 have hL:=z6i g rs lv a b
 simp only[zqv,Rect.cells]at hL ⊢
 skip
 refine PC.of ⟨Tryz.func95,by kernel_rfl,rfl,by kernel_rfl⟩ zap mixed (by show 3≤Tryz.f95.ntmps; decide) ?_
 refine W.r fun K hK=>?_
 simp(disch:=omega)only[↓RU,RV,RH,↓reduceIte,qE,reduceCtorEq,if_pos,↓RS,RG,qA,qM,qL,ty7,zah,zck,zhi,za7,zaa,zcl,zhj,za8]
 apply hK;clear hK K
 refine W.r fun K hK=>?_
 simp(disch:=omega)only[↓RU,RV,RH,↓reduceIte,qE,reduceCtorEq,if_pos,qN,w64,↓RS,RG,qA,qM,qL,ty7,zah,zck,zhi,za7,zaa,zac,zcl,zhj,za8,z2r,z2s]
 refine zad.pc (hL) rfl (.inl rfl) ?_
 simp(disch:=omega)only[↓RU,RV,RH,↓reduceIte,qE,reduceCtorEq,if_pos,qN,w64,↓RS,RG,qA,qM,qL,ty7,zah,zck,zhi,za7,zaa,zac,zcl,zhj,za8,z2r,z2s]
 apply hK;clear hK K
 refine W.ret ?_
 refine Br rfl ?_
 rfl
theorem zyz {p:List Txt} (hp:zbw p=true):PC Tryz.prog 72 [zik (gP p) (rP p) (zlk p).rect] (zol (fun x:Txt=>PV.str x) (.str []) z9c z9d (zdi (zal p) (zlk p))) true:=by
 have hT:PC Tryz.prog 94 [zik (gP p) (rP p) (zlk p).rect,.fn 93 [],.fn 95 []] (zol (fun x:Txt=>PV.str x) (.str []) z9c z9d (zdi (zal p) (zlk p))) true:=by
  refine zn1 hp (rf:=93) (cf:=95) (rc:=[]) (cc:=[]) (fun _=>rfl) (fun _=>rfl) (fun _=>rfl) (fun _=>rfl) (fun a h1 h2=>yaq h1 (by have:=(zj4 hp).1; omega)) (fun t q x y hw hq hx hy=>?_) _ (qR _) (zrl hp)
  obtain ⟨w1,w2⟩:=hw.cut (zh1 hp) hq
  have b1:=zqd hp w1 hx
  have b2:=zqd hp w2 hy
  have n9:=(zj4 hp).1
  have c1:=z0j (x:=x) fun a ha=>by have:=b1.1 a ha; omega
  have c2:=z0j (x:=y) fun a ha=>by have:=b2.1 a ha; omega
  exact yar (gP p) (rP p) q.1 (t.one q).rect (t.two q).rect (by omega) (by omega)
 obtain ⟨v2,b2,e2⟩:=zlq (enc:=fun x:Txt=>PV.str x) (zero := .str []) (room:=z9c) (cut:=z9d) (zdi (zal p) (zlk p))
 have hs:∃ s:Txt,v2 = .str s:=by cases h:(zdi (zal p) (zlk p)) <;> rw [h]at e2 <;> cases e2 <;> exact ⟨_,rfl⟩
 obtain ⟨s,rfl⟩:=hs
 rw [e2]at hT ⊢
 simp only[zik,Pt.rect,Rect.cells]at hT ⊢
 refine PC.of ⟨Tryz.func72,by kernel_rfl,rfl,by kernel_rfl⟩ zap mixed (by show 1≤Tryz.f72.ntmps; decide) ?_
 refine W.r fun K hK=>?_
 simp(disch:=omega)only[↓RU,RV,RH,↓reduceIte,qE,reduceCtorEq,if_pos,↓RS,RG,qA,qM,qL,ty7,zck,za7,zaa,zcl,za8]
 apply hK;clear hK K
 refine W.r fun K hK=>?_
 simp(disch:=omega)only[↓RU,RV,RH,↓reduceIte,qE,reduceCtorEq,if_pos,↓RS,RG,qA,qM,qL]
 apply hK;clear hK K
 refine W.r fun K hK=>?_
 simp(disch:=omega)only[↓RU,RV,RH,↓reduceIte,qE,reduceCtorEq,if_pos,qN,↓RS,RG,qA,qM,qL,ty7,zck,za7,zaa,zcl,za8]
 refine zad.pc (hT) rfl (.inl rfl) ?_
 simp(disch:=omega)only[↓RU,RV,RH,↓reduceIte,qE,reduceCtorEq,if_pos,qN,↓RS,RG,qA,qM,qL,ty7,zck,za7,zaa,zcl,za8]
 apply hK;clear hK K
 refine W.ret ?_
 refine Br rfl ?_
 rfl
theorem z8x {p:List Txt} (hp:zbw p=true):PC Tryz.prog 71 [za3 (gP p) (rP p)] (zik (gP p) (rP p) (zlk p).rect) false:=by
 have hg:=zzi hp
 obtain ⟨row,h1,h2,-⟩:=hg.at_ (i:=0) (j:=0) (by have:=hg.2.2; omega) (by have:=hg.2.2; omega)
 have h:=ya2 h1 (rP p)
 rw [hg.1,h2]at h
 exact h
theorem z26 {p:List Txt} (hs:Sm p):PC Tryz.prog 42 [zav p] (zol (fun x:Txt=>PV.str x) (.str []) z9c z9d (if zbw p then (zdi (zal p) (zlk p)) else none)) true:=by
 obtain ⟨x,hx,hxy,hxr⟩:=zse hs
 rw [zg7]at hx hxy
 refine PC.of ⟨Tryz.func42,by kernel_rfl,rfl,by kernel_rfl⟩ zap mixed (by show 1≤Tryz.f42.ntmps; decide) ?_
 refine W.r fun K hK=>?_
 simp(disch:=omega)only[↓RU,RV,RH,↓reduceIte,qE,reduceCtorEq,if_pos,↓RS,RG,qA,qM,qL]
 apply hK;clear hK K
 refine W.r fun K hK=>?_
 simp(disch:=omega)only[↓RU,RV,RH,↓reduceIte,qE,reduceCtorEq,if_pos,qN,↓RS,RG,qA,qM,qL]
 refine zad.pc (hx) rfl (.inr rfl) ?_
 simp(disch:=omega)only[↓RU,RV,RH,↓reduceIte,qE,reduceCtorEq,if_pos,qN,↓RS,RG,qA,qM,qL]
 apply hK;clear hK K
 refine W.seq ?_
 refine W.r fun K hK=>?_
 simp(disch:=omega)only[↓RU,RV,RH,↓reduceIte,qE,reduceCtorEq,if_pos,↓RS,RG,qA,qM,qL]
 apply hK;clear hK K
 refine W.cond rfl (fun h0=>?_) (fun h0=>?_)
 ·skip
  have hp:zbw p=false:=by simpa using h0
  refine W.r fun K hK=>?_
  simp(disch:=omega)only[↓RU,RV,RH,↓reduceIte,qE,reduceCtorEq,if_pos,↓RS,RG,qA,qM,qL]
  apply hK;clear hK K
  refine W.ret ?_
  refine XThen.ret ?_
  refine Br rfl ?_
  rw [hp]
  rfl
 skip
 have hp:zbw p=true:=by simpa using h0
 obtain rfl:=hxy hp
 have hT:=zyz hp
 obtain ⟨v2,b2,e2⟩:=zlq (enc:=fun x:Txt=>PV.str x) (zero := .str []) (room:=z9c) (cut:=z9d) (zdi (zal p) (zlk p))
 have hs2:∃ s:Txt,v2 = .str s:=by cases h:(zdi (zal p) (zlk p)) <;> rw [h]at e2 <;> cases e2 <;> exact ⟨_,rfl⟩
 obtain ⟨s,rfl⟩:=hs2
 rw [e2]at hT
 refine W.skip ?_
 refine xn ?_
 refine W.r fun K hK=>?_
 simp(disch:=omega)only[↓RU,RV,RH,↓reduceIte,qE,reduceCtorEq,if_pos,qN,↓RS,RG,qA,qM,qL]
 refine zad.pc (z8x hp) rfl (.inr rfl) ?_
 simp(disch:=omega)only[↓RU,RV,RH,↓reduceIte,qE,reduceCtorEq,if_pos,qN,↓RS,RG,qA,qM,qL]
 refine zad.pc (hT) rfl (.inl rfl) ?_
 simp(disch:=omega)only[↓RU,RV,RH,↓reduceIte,qE,reduceCtorEq,if_pos,qN,↓RS,RG,qA,qM,qL]
 apply hK;clear hK K
 refine W.ret ?_
 refine Br rfl ?_
 rw [hp,if_pos rfl,e2]
 rfl
theorem z9i {p:List Txt} (hs:Sm p):PC Tryz.prog 19 [zav p] (.bool (yee p)) true:=by
 have hT:=z26 hs
 obtain ⟨v2,b2,e2⟩:=zlq (enc:=fun x:Txt=>PV.str x) (zero := .str []) (room:=z9c) (cut:=z9d) (if zbw p then (zdi (zal p) (zlk p)) else none)
 have hb:b2=yee p:=by
  unfold yee
  cases hp:zbw p with
  | false=>rw [hp]at e2; cases e2; rfl
  | true=>rw [hp]at e2; cases h:(zdi (zal p) (zlk p)) <;> simp only[if_true,h]at e2 <;> cases e2 <;> rfl
 rw [e2]at hT
 refine PC.of ⟨Tryz.func19,by kernel_rfl,rfl,by kernel_rfl⟩ zap mixed (by show 1≤Tryz.f19.ntmps; decide) ?_
 refine W.r fun K hK=>?_
 simp(disch:=omega)only[↓RU,RV,RH,↓reduceIte,qE,reduceCtorEq,if_pos]
 apply hK;clear hK K
 refine W.r fun K hK=>?_
 simp(disch:=omega)only[↓RU,RV,RH,↓reduceIte,qE,reduceCtorEq,if_pos,qN]
 refine zad.pc (hT) rfl (.inl rfl) ?_
 simp(disch:=omega)only[↓RU,RV,RH,↓reduceIte,qE,reduceCtorEq,if_pos,qN]
 apply hK;clear hK K
 refine W.r fun K hK=>?_
 simp(disch:=omega)only[↓RU,RV,RH,↓reduceIte,qE,reduceCtorEq,if_pos]
 apply hK;clear hK K
 refine W.ret ?_
 refine Br rfl ?_
 rw [← hb]
 rfl

structure Made (c:Nat→Nat→Nat) (H W:Nat) (g:List (List Int)):Prop where
 gw:GW g H W
 ok:okS g=true
 full:zlr g=true
 plan:zbw (nm g)=true
 ren:Ren c H W (nm g)
theorem ydj {p:List Txt} (hv:zds p=true):PC Tryz.prog 28 [.agg [zhn (lfM p),zhn (abM p)]] (eInts (zd5 p)) true:=PN.ints0 (ydk hv) rfl zey
def ifL (b:Bool) (l:List Int):List Int:=if b then l else []
theorem z7d {p:List Txt} {b:Bool} (h:zds p=b):zbo p=b:=by rw [← ze8]; exact h
theorem zqc {p:List Txt} (hs:Sm p) (hp:zbo p=true) (below:Bool):PC Tryz.prog 44 [zav p,.bool below] (eInts (srt p below)) true:=PN.ints0 (zy9 hs hp below) rfl ziu
theorem zwy {p:List Txt} (hs:Sm p) (hv:zds p=false):PC Tryz.prog 14 [zav p] (.tup [eInts [],.bool false]) false:=by
 refine PC.of ⟨Tryz.func14,by kernel_rfl,rfl,by kernel_rfl⟩ zap mixed (by show 1≤Tryz.f14.ntmps; decide) ?_
 refine W.r fun K hK=>?_
 simp(disch:=omega)only[↓RU,RV,RH,↓reduceIte,qE,reduceCtorEq,if_pos,↓RS,RG,qA,qM,qL]
 apply hK;clear hK K
 refine W.r fun K hK=>?_
 simp(disch:=omega)only[↓RU,RV,RH,↓reduceIte,qE,reduceCtorEq,if_pos,qN,↓RS,RG,qA,qM,qL,ty0,ty2,zah,zgx,ze0,zgy]
 refine zad.pc (zze hs hv) rfl (.inr rfl) ?_
 simp(disch:=omega)only[↓RU,RV,RH,↓reduceIte,qE,reduceCtorEq,if_pos,qN,↓RS,RG,qA,qM,qL,ty0,ty2,zah,zgx,ze0,zgy]
 apply hK;clear hK K
 refine W.seq ?_
 refine W.r fun K hK=>?_
 simp(disch:=omega)only[↓RU,RV,RH,↓reduceIte,qE,reduceCtorEq,if_pos,↓RS,RG,qA,qM,qL]
 apply hK;clear hK K
 refine W.cond rfl (fun h=>?_) (fun h=>?_)
 ·try simp only[RL]at h
  refine W.r fun K hK=>?_
  simp(disch:=omega)only[↓RU,RV,RH,↓reduceIte,qE,reduceCtorEq,if_pos,↓RS,RG,qA,qM,qL]
  apply hK;clear hK K
  refine W.ret ?_
  refine XThen.ret ?_
  refine Br rfl ?_
  rfl
 try simp only[RL]at h
 exact absurd h (by simp)
theorem zuh {p:List Txt} (hs:Sm p) (hv:zds p=true):PC Tryz.prog 14 [zav p] (.tup [eInts (zd5 p),.bool true]) false:=by
 refine PC.of ⟨Tryz.func14,by kernel_rfl,rfl,by kernel_rfl⟩ zap mixed (by show 1≤Tryz.f14.ntmps; decide) ?_
 refine W.r fun K hK=>?_
 simp(disch:=omega)only[↓RU,RV,RH,↓reduceIte,qE,reduceCtorEq,if_pos,↓RS,RG,qA,qM,qL]
 apply hK;clear hK K
 refine W.r fun K hK=>?_
 simp(disch:=omega)only[↓RU,RV,RH,↓reduceIte,qE,reduceCtorEq,if_pos,qN,↓RS,RG,qA,qM,qL,ty0,ty2,zah,zgx,ze0,zgy]
 refine zad.pc (zw0 hs hv) rfl (.inr rfl) ?_
 simp(disch:=omega)only[↓RU,RV,RH,↓reduceIte,qE,reduceCtorEq,if_pos,qN,↓RS,RG,qA,qM,qL,ty0,ty2,zah,zgx,ze0,zgy]
 apply hK;clear hK K
 refine W.seq ?_
 refine W.r fun K hK=>?_
 simp(disch:=omega)only[↓RU,RV,RH,↓reduceIte,qE,reduceCtorEq,if_pos,↓RS,RG,qA,qM,qL]
 apply hK;clear hK K
 refine W.cond rfl (fun h=>?_) (fun h=>?_)
 ·try simp only[RL]at h
  exact absurd h (by simp)
 try simp only[RL]at h
 refine W.skip ?_
 refine xn ?_
 refine W.r fun K hK=>?_
 simp(disch:=omega)only[↓RU,RV,RH,↓reduceIte,qE,reduceCtorEq,if_pos,qN,↓RS,RG,qA,qM,qL,ty0,ty2,zah,zgx,ze0,zgy]
 refine zad.pc (ydj hv) rfl (.inl rfl) ?_
 simp(disch:=omega)only[↓RU,RV,RH,↓reduceIte,qE,reduceCtorEq,if_pos,qN,↓RS,RG,qA,qM,qL,ty0,ty2,zah,zgx,ze0,zgy]
 apply hK;clear hK K
 refine W.ret ?_
 refine Br rfl ?_
 rfl
theorem zwz {p:List Txt} (hs:Sm p):PC Tryz.prog 14 [zav p] (.tup [eInts (ifL (zds p) (zd5 p)),.bool (zds p)]) false:=by
 cases hv:zds p with
 | false=>exact zwy hs hv
 | true=>exact zuh hs hv
theorem z6b {p:List Txt} (hs:Sm p) (hp:zbo p=true):PC Tryz.prog 21 [zav p] (eInts (zd5 p)) true:=by
 obtain ⟨hg,hr,hn9,hn1,-,-⟩:=zs1 hp
 have hl1:=ziu (p:=p) (below:=false)
 have hl2:=ziu (p:=p) (below:=true)
 have hpl:=zey (p:=p)
 refine PC.of ⟨Tryz.func21,by kernel_rfl,rfl,by kernel_rfl⟩ zap mixed (by show 1≤Tryz.f21.ntmps; decide) ?_
 refine W.r fun K hK=>?_
 simp(disch:=omega)only[↓RU,RV,RH,↓reduceIte,qE,reduceCtorEq,if_pos,↓RS,RG,qA,qM,qL]
 apply hK;clear hK K
 refine W.r fun K hK=>?_
 simp(disch:=omega)only[↓RU,RV,RH,↓reduceIte,qE,reduceCtorEq,if_pos,qN,↓RS,RG,qA,qM,qL]
 refine zad.pc (zqc hs hp false) rfl (.inl rfl) ?_
 simp(disch:=omega)only[↓RU,RV,RH,↓reduceIte,qE,reduceCtorEq,if_pos,qN,↓RS,RG,qA,qM,qL]
 apply hK;clear hK K
 refine W.r fun K hK=>?_
 simp(disch:=omega)only[↓RU,RV,RH,↓reduceIte,qE,reduceCtorEq,if_pos,qN,↓RS,RG,qA,qM,qL]
 refine zad.pc (zqc hs hp true) rfl (.inl rfl) ?_
 simp(disch:=omega)only[↓RU,RV,RH,↓reduceIte,qE,reduceCtorEq,if_pos,qN,↓RS,RG,qA,qM,qL]
 apply hK;clear hK K
 refine W.r fun K hK=>?_
 simp(disch:=omega)only[↓RU,RV,RH,↓reduceIte,qE,reduceCtorEq,if_pos,↓RS,RG,qA,qM,qL,zab,zaa,hl1,ze3,zes]
 apply hK;clear hK K
 refine W.seq ?_
 refine W.r fun K hK=>?_
 simp(disch:=omega)only[↓RU,RV,RH,↓reduceIte,qE,reduceCtorEq,if_pos,↓RS,RG,qA,qM,qL]
 apply hK;clear hK K
 refine W.block ?_
 refine W.loop [3,4,5,6] (fun n vs S=>∃ i t tv:Nat,n=(rP p).length - i∧i≤(rP p).length∧vs=[eInts (srt p false),eInts (srt p true),.loc 0 t 0 (rP p).length,.int .i64 i]∧S=⟨[.arr t 3 1 ((z99 p i).map (.int .i64))],tv⟩) (rP p).length ?_ ?_
 ·refine ⟨1,0,0,1,rfl,by omega,?_,rfl⟩
  simp [Env.put,Env.of,zaf]
 rintro n vs S - ⟨i,t,tv,rfl,h_i,rfl,rfl⟩
 refine W.seq ?_
 refine W.r fun K hK=>?_
 simp(disch:=omega)only[↓RU,RV,RH,↓reduceIte,qE,reduceCtorEq,if_pos,w64,↓RS,RG,qA,qM,qL,zab,zaa]
 apply hK;clear hK K
 refine W.cond rfl (fun h=>?_) (fun h=>?_)
 ·try simp only[RL]at h
  obtain ⟨a,ha,ha2,hsa⟩:=znj (below:=false) hp (show i<(rP p).length by omega)
  have hpl2:=zo3 (p:=p) i
  refine W.skip ?_
  refine xn ?_
  refine W.seq ?_
  refine W.block ?_
  refine W.k fun K hK=>?_
  simp(disch:=omega)only[↓RU,RV,RH,↓reduceIte,qE,reduceCtorEq,if_pos,↓RS,RG,qA,qM,qL,zab,zaa,hsa,hpl2,zb5,zd6,Int.toNat_natCast]
  apply hK;clear hK K
  refine XbN ?_
  refine xn ?_
  refine W.k fun K hK=>?_
  simp(disch:=omega)only[↓RU,RV,RH,↓reduceIte,qE,reduceCtorEq,if_pos,w64,↓RS,RG,qA,qM,qL,zaa]
  apply hK;clear hK K
  refine xn ?_
  refine ⟨(rP p).length - (i+1),by omega,1,i+1,t,tv,rfl,by omega,?_,?_⟩
  ·simp [Env.put,Env.of]
  simp only[zbe,z99,zgh hsa,Int.toNat_natCast]; rfl
 try simp only[RL]at h
 obtain rfl:i=(rP p).length:=by omega
 have hpl2:=zo3 (p:=p) (rP p).length
 refine W.exit ?_
 refine xe ?_
 refine xe ?_
 refine XBlock.hit ?_
 refine xn ?_
 refine W.r fun K hK=>?_
 simp(disch:=omega)only[↓RU,RV,RH,↓reduceIte,qE,reduceCtorEq,if_pos,↓RS,RG,qA,qM,qL,zab,zaa]
 apply hK;clear hK K
 refine W.seq ?_
 refine W.r fun K hK=>?_
 simp(disch:=omega)only[↓RU,RV,RH,↓reduceIte,qE,reduceCtorEq,if_pos,↓RS,RG,qA,qM,qL]
 apply hK;clear hK K
 refine W.block ?_
 refine W.loop [4,5,7,8] (fun n vs S=>∃ k vo tk2:Nat,n=(rP p).length - k∧k≤(rP p).length∧vs=[eInts (srt p true),.loc 0 t 0 (rP p).length,.loc 1 vo 0 k,.int .i64 k]∧S=⟨[.arr t 3 1 ((z99 p (rP p).length).map (.int .i64)),.arr vo 3 1 (((zd5 p).take k).map (.int .i64))],tk2⟩) (rP p).length ?_ ?_
 ·refine ⟨2,0,tv,tv+1,rfl,by omega,?_,by simp [zbe]⟩
  simp [Env.put,Env.of]
 rintro n vs S - ⟨k,vo,tk2,rfl,h_k,rfl,rfl⟩
 refine W.seq ?_
 refine W.r fun K hK=>?_
 simp(disch:=omega)only[↓RU,RV,RH,↓reduceIte,qE,reduceCtorEq,if_pos,w64,↓RS,RG,qA,qM,qL,zab,zaa]
 apply hK;clear hK K
 refine W.cond rfl (fun h1=>?_) (fun h1=>?_)
 ·try simp only[RL]at h1
  obtain ⟨b,hb,hb2,hsb⟩:=znj (below:=true) hp (show k<(rP p).length by omega)
  have hpa:=zo1 hp hsb
  have hpc:=z7g hp (rP p).length (qR _) b hb (zno hp hb)
  have hol:(((zd5 p).take k)).length=k:=by rw [List.length_take]; omega
  refine W.skip ?_
  refine xn ?_
  refine W.seq ?_
  refine W.block ?_
  refine W.k fun K hK=>?_
  simp(disch:=omega)only[↓RU,RV,RH,↓reduceIte,qE,reduceCtorEq,if_pos,↓RS,RG,qA,qM,qL,zab,zaa,hsb,hpc,hpl2,tk_i hol,Int.toNat_natCast]
  apply hK;clear hK K
  refine XbN ?_
  refine xn ?_
  refine W.k fun K hK=>?_
  simp(disch:=omega)only[↓RU,RV,RH,↓reduceIte,qE,reduceCtorEq,if_pos,w64,↓RS,RG,qA,qM,qL,zaa]
  apply hK;clear hK K
  refine xn ?_
  refine ⟨(rP p).length - (k+1),by omega,2,k+1,tk2+1,tk2+2,rfl,by omega,?_,?_⟩
  ·simp [Env.put,Env.of,zmn]
  simp only[zbe,tk hpa,List.map_append,← List.map_take]; simp [zmn]
 try simp only[RL]at h1
 obtain rfl:k=(rP p).length:=by omega
 refine W.exit ?_
 refine xe ?_
 refine xe ?_
 refine XBlock.hit ?_
 refine xn ?_
 refine W.r fun K hK=>?_
 simp(disch:=omega)only[↓RU,RV,RH,↓reduceIte,qE,reduceCtorEq,if_pos,↓RS,RG,qA,qM,qL]
 apply hK;clear hK K
 refine W.ret ?_
 refine Br rfl ?_
 rw [qT (by omega)]
 exact ((zcv (k:=9) rfl (by simp [hpl]) (zjy _)).trans (by rw [← hpl]))
theorem zuz {p:List Txt} (hs:Sm p):PC Tryz.prog 15 [zav p] (.tup [eInts (ifL (zbo p) (zd5 p)),.bool (zbo p)]) false:=by
 refine PC.of ⟨Tryz.func15,by kernel_rfl,rfl,by kernel_rfl⟩ zap mixed (by show 1≤Tryz.f15.ntmps; decide) ?_
 refine W.r fun K hK=>?_
 simp(disch:=omega)only[↓RU,RV,RH,↓reduceIte,qE,reduceCtorEq,if_pos,↓RS,RG,qA,qM,qL]
 apply hK;clear hK K
 refine W.seq ?_
 refine W.r fun K hK=>?_
 simp(disch:=omega)only[↓RU,RV,RH,↓reduceIte,qE,reduceCtorEq,if_pos,qN,↓RS,RG,qA,qM,qL]
 refine zad.pc (z3o hs) rfl (.inl rfl) ?_
 simp(disch:=omega)only[↓RU,RV,RH,↓reduceIte,qE,reduceCtorEq,if_pos,qN,↓RS,RG,qA,qM,qL]
 apply hK;clear hK K
 refine W.cond rfl (fun h0=>?_) (fun h0=>?_)
 ·try simp only[RL]at h0
  have h:zbo p=false:=by simpa using h0
  refine W.r fun K hK=>?_
  simp(disch:=omega)only[↓RU,RV,RH,↓reduceIte,qE,reduceCtorEq,if_pos,↓RS,RG,qA,qM,qL,zab,zaa]
  apply hK;clear hK K
  refine W.ret ?_
  refine XThen.ret ?_
  refine Br rfl ?_
  rw [h]
  rfl
 try simp only[RL]at h0
 have h:zbo p=true:=by simpa using h0
 refine W.skip ?_
 refine xn ?_
 refine W.r fun K hK=>?_
 simp(disch:=omega)only[↓RU,RV,RH,↓reduceIte,qE,reduceCtorEq,if_pos,qN,↓RS,RG,qA,qM,qL]
 refine zad.pc (z6b hs h) rfl (.inl rfl) ?_
 simp(disch:=omega)only[↓RU,RV,RH,↓reduceIte,qE,reduceCtorEq,if_pos,qN,↓RS,RG,qA,qM,qL]
 apply hK;clear hK K
 refine W.ret ?_
 refine Br rfl ?_
 rw [h]
 rfl
theorem ye9 {l:List Int}:ifL true l=l:=rfl
theorem ye8 {l:List Int}:ifL false l=[]:=rfl
theorem z11 {p:List Txt} (hp:zbo p=true):∀ i:Nat,i<(zd5 p).length→∃ j:Nat,(zd5 p)[j]?=some (i:Int)∧∀ k,k<j→(zd5 p)[k]?≠some (i:Int):=by
 intro i hi
 rw [zey]at hi
 obtain ⟨a,ha,hai,-⟩:=znj (below:=false) hp hi
 have hj:=zo1 hp (z2p (below:=true) hp ha)
 rw [hai]at hj
 refine ⟨_,hj,fun k hk e=>?_⟩
 have h1:=zb0 hj
 have h2:=zb0 e
 rw [zey]at h1 h2
 rw [ya6 hp h1]at hj
 rw [ya6 hp h2]at e
 have:=ycc hp h1 h2 ((Option.some.inj hj).trans (Option.some.inj e).symm)
 omega
theorem zxh {code:Txt} (hcode:code.length≤9223372036854775807):PC Tryz.prog 5 [eBy code] (.bool true) true:=by
 refine PC.of ⟨Tryz.func5,by kernel_rfl,rfl,by kernel_rfl⟩ zap mixed (by show 1≤Tryz.f5.ntmps; decide) ?_
 refine W.r fun K hK=>?_
 simp(disch:=omega)only[↓RU,RV,RH,↓reduceIte,qE,reduceCtorEq,if_pos,↓RS,RG,qA,qM,qL]
 apply hK;clear hK K
 refine W.seq ?_
 refine W.r fun K hK=>?_
 simp(disch:=omega)only[↓RU,RV,RH,↓reduceIte,qE,reduceCtorEq,if_pos,w64,↓RS,RG,qA,qM,qL,ty6,zaa,zen]
 apply hK;clear hK K
 refine W.cond rfl (fun h0=>?_) (fun h0=>?_)
 ·try simp only[RL]at h0
  refine W.r fun K hK=>?_
  simp(disch:=omega)only[↓RU,RV,RH,↓reduceIte,qE,reduceCtorEq,if_pos,↓RS,RG,qA,qM,qL]
  apply hK;clear hK K
  refine W.ret ?_
  refine XThen.ret ?_
  refine Br rfl ?_
  rfl
 try simp only[RL]at h0
 have hcl:code.length≤1048576:=by omega
 refine W.skip ?_
 refine xn ?_
 refine W.r fun K hK=>?_
 simp(disch:=omega)only[↓RU,RV,RH,↓reduceIte,qE,reduceCtorEq,if_pos,qN,↓RS,RG,qA,qM,qL]
 refine zad.ev (zok hcl) ?_
 rintro _ _ ⟨p,t,hs,rfl,rfl⟩
 simp(disch:=omega)only[↓RU,RV,RH,↓reduceIte,qE,reduceCtorEq,if_pos,qN,↓RS,RG,qA,qM,qL]
 apply hK;clear hK K
 have hI:zbo p=zds p:=ze8.symm
 refine W.r fun K hK=>?_
 simp(disch:=omega)only[↓RU,RV,RH,↓reduceIte,qE,reduceCtorEq,if_pos,qN,↓RS,RG,qA,qM,qL]
 refine zad.pc (zwz hs) rfl (.inr rfl) ?_
 simp(disch:=omega)only[↓RU,RV,RH,↓reduceIte,qE,reduceCtorEq,if_pos,qN,↓RS,RG,qA,qM,qL]
 apply hK;clear hK K
 refine W.r fun K hK=>?_
 simp(disch:=omega)only[↓RU,RV,RH,↓reduceIte,qE,reduceCtorEq,if_pos,qN,↓RS,RG,qA,qM,qL]
 refine zad.pc (zuz hs) rfl (.inr rfl) ?_
 simp(disch:=omega)only[↓RU,RV,RH,↓reduceIte,qE,reduceCtorEq,if_pos,qN,↓RS,RG,qA,qM,qL]
 apply hK;clear hK K
 rw [hI]
 refine W.seq ?_
 refine W.r fun K hK=>?_
 cases hv:zds p
 ·skip
  simp(disch:=omega)only[↓RU,RV,RH,↓reduceIte,qE,reduceCtorEq,if_pos,w64,qN,↓RS,RG,qA,qM,qL,zah,zjj,qO,bne_self_eq_false,beq_self_eq_true,Bool.not_true,Bool.not_false,decide_true,hv,ye8]
  refine zad.pc (zk5 (p:=([]:List Int)) (q:=([]:List Int)) (by simp) (by simp)) rfl (.inl rfl) ?_
  simp(disch:=omega)only[↓RU,RV,RH,↓reduceIte,qE,reduceCtorEq,if_pos,w64,qN,↓RS,RG,qA,qM,qL,zah,zjj,qO,bne_self_eq_false,beq_self_eq_true,Bool.not_true,Bool.not_false,decide_true,hv,ye8]
  apply hK;clear hK K
  refine W.cond rfl (fun h1=>?_) (fun h1=>?_)
  ·try simp only[RL]at h1
   refine W.r fun K hK=>?_
   simp(disch:=omega)only[↓RU,RV,RH,↓reduceIte,qE,reduceCtorEq,if_pos,w64,qN,↓RS,RG,qA,qM,qL,zah,zjj,qO,bne_self_eq_false,beq_self_eq_true,Bool.not_true,Bool.not_false,decide_true]
   refine zad.pc (zk5 (p:=([]:List Int)) (q:=([]:List Int)) (by simp) (by simp)) rfl (.inl rfl) ?_
   simp(disch:=omega)only[↓RU,RV,RH,↓reduceIte,qE,reduceCtorEq,if_pos,w64,qN,↓RS,RG,qA,qM,qL,zah,zjj,qO,bne_self_eq_false,beq_self_eq_true,Bool.not_true,Bool.not_false,decide_true]
   apply hK;clear hK K
   refine W.ret ?_
   refine XThen.ret ?_
   refine Br rfl ?_
   rfl
  try simp only[RL]at h1
  exact absurd h1 (by simp)
 skip
 have hsl:(zd5 p).length≤9:=by rw [zey]; exact zji (zjk hv).1
 simp(disch:=omega)only[↓RU,RV,RH,↓reduceIte,qE,reduceCtorEq,if_pos,w64,qN,↓RS,RG,qA,qM,qL,zah,zjj,qO,bne_self_eq_false,beq_self_eq_true,Bool.not_true,Bool.not_false,decide_true,hv,ye9]
 refine zad.pc (zk5 (p:=zd5 p) (q:=zd5 p) (by omega) (by omega)) rfl (.inl rfl) ?_
 simp(disch:=omega)only[↓RU,RV,RH,↓reduceIte,qE,reduceCtorEq,if_pos,w64,qN,↓RS,RG,qA,qM,qL,zah,zjj,qO,bne_self_eq_false,beq_self_eq_true,Bool.not_true,Bool.not_false,decide_true,hv,ye9]
 apply hK;clear hK K
 refine W.cond rfl (fun h1=>?_) (fun h1=>?_)
 ·try simp only[RL]at h1
  exact absurd h1 (by simp)
 try simp only[RL]at h1
 have hp:=z7d hv
 have hpl:=zey (p:=p)
 have hn1:=zh9 (zjk hv).1
 refine W.skip ?_
 refine xn ?_
 refine W.r fun K hK=>?_
 by_cases h7:(zd5 p).length≤7
 ·skip
  have d7:decide (((zd5 p).length:Int)>7)=false:=decide_eq_false (by omega)
  simp(disch:=omega)only[↓RU,RV,RH,↓reduceIte,qE,reduceCtorEq,if_pos,w64,qN,↓RS,RG,qA,qM,qL,zab,zah,zaa,zjj,qO,bne_self_eq_false,beq_self_eq_true,Bool.not_true,Bool.not_false,decide_true,d7,beq_self_eq_true]
  refine zad.pc (zzg (fv:=true) (by omega) h7 (z11 hp) ⟨fun _=>z7c hp,fun _=>rfl⟩) rfl (.inl rfl) ?_
  simp(disch:=omega)only[↓RU,RV,RH,↓reduceIte,qE,reduceCtorEq,if_pos,w64,qN,↓RS,RG,qA,qM,qL,zab,zah,zaa,zjj,qO,bne_self_eq_false,beq_self_eq_true,Bool.not_true,Bool.not_false,decide_true,d7,beq_self_eq_true]
  refine zad.pc (zxj (by omega) h7 (z11 hp) (z6k hp).symm) rfl (.inl rfl) ?_
  simp(disch:=omega)only[↓RU,RV,RH,↓reduceIte,qE,reduceCtorEq,if_pos,w64,qN,↓RS,RG,qA,qM,qL,zab,zah,zaa,zjj,qO,bne_self_eq_false,beq_self_eq_true,Bool.not_true,Bool.not_false,decide_true,d7,beq_self_eq_true]
  refine zad.pc (z9i hs) rfl (.inl rfl) ?_
  simp(disch:=omega)only[↓RU,RV,RH,↓reduceIte,qE,reduceCtorEq,if_pos,w64,qN,↓RS,RG,qA,qM,qL,zab,zah,zaa,zjj,qO,bne_self_eq_false,beq_self_eq_true,Bool.not_true,Bool.not_false,decide_true,d7,beq_self_eq_true]
  apply hK;clear hK K
  refine W.ret ?_
  refine Br rfl ?_
  rfl
 skip
 have d7:decide (((zd5 p).length:Int)>7)=true:=decide_eq_true (by omega)
 simp(disch:=omega)only[↓RU,RV,RH,↓reduceIte,qE,reduceCtorEq,if_pos,w64,qN,↓RS,RG,qA,qM,qL,zab,zah,zaa,zjj,qO,bne_self_eq_false,beq_self_eq_true,Bool.not_true,Bool.not_false,decide_true,d7]
 apply hK;clear hK K
 refine W.ret ?_
 refine Br rfl ?_
 rfl
end Fw
end Go.Proofs.YtjnbmmjpibpkhaaGreat
namespace Go.Proofs.YtjnbmmjpibpkhaaGreat
open Go Go.ChangeShapes Go.WideShapes Go.ChangeAt Go.RowKit Fw
theorem Tryz.ownRne:ownKnob Tryz.prog.godebug=none:=by kernel_rfl
theorem Tryz.laidOutRne:laidOutB Tryz.prog=true:=by kernel_rfl
set_option maxRecDepth 100000 in
theorem rne_lifted (os:Os) (started:os.Started) (H:Type) (enc:TypeId × Value→H) :
  ReturnsInHanded {} Tryz.checked os 5 .any (Rows.fnPermFairSpec.pre6 enc Tryz.prog Tryz.f5 Rows.fnPermFairRow.domain false) (Rows.fnPermFairSpec.post enc Tryz.prog Tryz.f5 false true false false):=by
 refine returnsInHanded_of_change (C:=Tryz.checked) Tryz.ownRne started (by kernel_rfl) Tryz.func5
  (ChangeSpec.witness6 (enc:=enc) (C:=Tryz.checked) false ⟨#[],#[.slice none 0 0],[]⟩ 8 (by kernel_rfl) (by kernel_rfl) (by kernel_rfl) (by kernel_rfl)) ?_
 intro W base args ds gs before hval0 hW hcnd _
 have hval:∀ (j:Nat) t v,Tryz.f5.params[j]?=some t→args[j]?=some v→Value.okWide Tryz.prog W .any base t v:=hval0
 have hW':=hW
 obtain ⟨p,q,hA0,hV,rfl,hfz,hnd⟩:=hW
 have hA:DataW.TrodAll enc Tryz.prog W 0 (fun _=>true) true Tryz.f5.params.toList args.toList ds p:=hA0
 rw [Tryz.params5]at hA hval
 obtain ⟨v0,d0,rfl,rfl,h0⟩:=trodAll_one hA
 obtain ⟨rfl,rfl⟩:=trodVars_none hV
 obtain ⟨l0,i0,b0⟩:=yax (hval 0 _ v0 rfl rfl) h0
 have hlt:∀ x∈p,x.block<W.heap.size:=fun x hx=>hW'.lt x (by simp [hx])
 refine ((zxh b0).run (fun b=>b<W.heap.size) W #[v0] (fun _ h=>h) rfl ?_).mono ?_
 ·rintro (_ | i) p c hp hc
  ·cases hp; cases hc; exact i0
  simp at hp
 rintro e W' ⟨cv,rfl,⟨hB,_⟩,hr⟩
 have hcv:cv = .bool true:=by cases hr; rfl
 subst hcv
 have t0:=Below.trod Tryz.laidOutRne (by kernel_rfl) (of_decide_eq_true (by kernel_rfl)) h0 hB fun x hx=>hlt x (by simp [hx])
 refine ⟨_,rfl,_,_,_,[],p,[],hW',?_,?_,?_,hB.frame _,fun h=>by cases h⟩
 ·exact trodAll_mk1 (shut_bool Tryz.underlying4 true)
 ·rw [Tryz.params5]; exact trodAll_mk1 t0
 trivial
theorem rne_holds:Rows.FnPermFairSaid :=
 OpenClaim.holds_of_wide 5 Tryz.f5 rfl rfl rfl rfl rfl rfl rfl ⟨rfl,rfl,rfl,rfl,rfl⟩ rfl rfl rfl rfl rfl (by kernel_rfl) Tryz.func5 (by kernel_rfl)
  (of_decide_eq_true (by kernel_rfl)) (by unfold Func.isWrapper; first | (rw [if_pos (by decide +kernel)]; kernel_rfl) | (rw [if_neg (by decide +kernel)]; exact ⟨rfl,rfl⟩))
  (fun os started H enc _=>rne_lifted os started H enc)
end Go.Proofs.YtjnbmmjpibpkhaaGreat
