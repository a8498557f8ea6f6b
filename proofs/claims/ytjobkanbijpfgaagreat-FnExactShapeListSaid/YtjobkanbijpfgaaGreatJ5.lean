/- The program's ShapeList answers as the specification's, for all arguments, in rows of its own: the statement FnExactShapeList. No condition. -/
import Derived.Test.YtjobkanbijpfgaaGreatJ4
import Derived.Test.YtjobkanbijpfgaaGreatJ3
set_option linter.all false
namespace Go.Proofs.YtjobkanbijpfgaaGreat
namespace Fw
open Go
open Nat renaming reduceEqDiff → qE, reduceLeDiff → qL, reduceAdd → qA, reduceMul → qM, le_refl → qR
open List renaming append_nil → qN, mapM_append → qP, mapM_cons → qC, mapM_map → qU, range_succ → qS, take_of_length_le → qT
open Bool renaming and_eq_true → qB, false_eq_true → qF
open Option renaming map_some → qO, map_eq_some_iff → qI
open Int renaming reduceToNat → qZ
theorem zlg {p:List Txt} (hs:Sm p) {ws ht:List Int} (hw:ws.length≤1048576) (hh:ht.length≤1048576) (hg:zde p ws ht=true) (ht0:(zct (zao p) (zd7 p))=none):PC Tryz.prog 20 [za1 p,eInts ws,eInts ht] (.tup [.sl [] 0,.bool false]) true:=by
 obtain ⟨hp,g2,g3,g4,g5,hnv⟩:=zd9 hg
 have hSh:=zee hs hw hh
 rw [hg,hnv,if_pos rfl]at hSh
 have hF:PC Tryz.prog 60 [zft (gP p) (rP p) (zd7 p).rect,.fn 58 [.ip [eInts ws] 0,.ip [eInts ht] 0],.fn 61 []] (.tup [.sl [] 0,.bool false]) false:=by
  have h:PC Tryz.prog 60 [zft (gP p) (rP p) (zd7 p).rect,.fn 58 [.ip [eInts ws] 0,.ip [eInts ht] 0],.fn 61 []] (zlw zd8 (.sl [] 0) (zto ws ht) z7v (zct (zao p) (zd7 p))) false:=by
   refine zfb hp (rf:=58) (cf:=61) (rc:=[.ip [eInts ws] 0,.ip [eInts ht] 0]) (cc:=[]) (fun _=>rfl) (fun _=>rfl) (fun _=>rfl) (fun _=>rfl) (room:=zto ws ht) (cut:=z7v) (fun a h1 h2=>?_) (fun t q x y hw hq hx hy=>?_) _ (qR _) (zfi hp)
   ·obtain ⟨x,hx,-⟩:=zaf (show a.toNat<ws.length by omega)
    obtain ⟨y,hy,-⟩:=zaf (show a.toNat<ht.length by omega)
    have:=(zf0 h1 hx hy).old
    rw [show zto ws ht a=pareto [(x,y),(y,x)] by unfold zto; rw [zgc hx,zgc hy]]
    exact this
   obtain ⟨w1,w2⟩:=hw.cut (zid hp) hq
   have b1:=zc0 hp g2 g3 g4 g5 w1 hx
   have b2:=zc0 hp g2 g3 g4 g5 w2 hy
   exact (zf1 (lv:=q.1) b1.1 b2.1 (by have:=b1.2.1; omega) (by have:=b2.2.1; omega) b1.2.2 b2.2.2).old
  rw [ht0]at h
  exact h
 refine PC.of ⟨Tryz.func20,by kernel_rfl,rfl,by kernel_rfl⟩ za4 mixed (by show 3≤Tryz.f20.ntmps; decide) ?_
 refine W.r fun K hK=>?_
 simp(disch:=omega)only[↓RU,RV,RH,↓reduceIte,qE,reduceCtorEq,if_pos,↓RS,RG,qA,qM,qL,zab,zaa]
 apply hK;clear hK K
 refine W.r fun K hK=>?_
 simp(disch:=omega)only[↓RU,RV,RH,↓reduceIte,qE,reduceCtorEq,if_pos,qN,↓RS,RG,qA,qM,qL,zab,zaa]
 refine zag.pc (hSh) rfl (.inr rfl) ?_
 simp(disch:=omega)only[↓RU,RV,RH,↓reduceIte,qE,reduceCtorEq,if_pos,qN,↓RS,RG,qA,qM,qL,zab,zaa]
 apply hK;clear hK K
 refine W.seq ?_
 refine W.r fun K hK=>?_
 simp(disch:=omega)only[↓RU,RV,RH,↓reduceIte,qE,reduceCtorEq,if_pos,↓RS,RG,qA,qM,qL]
 apply hK;clear hK K
 refine W.cond rfl (fun h0=>?_) (fun h0=>?_)
 ·try simp only[RL]at h0
  exact absurd h0 (by simp)
 try simp only[RL]at h0
 refine W.skip ?_
 refine xn ?_
 refine W.joinZ [8,10] (fun vs S=>∃ tk:Nat,vs=[zaw (gP p) (rP p),.fn 58 [.ip [eInts ws] 0,.ip [eInts ht] 0]]∧S=⟨[],tk⟩) ?_ ?_
 ·
  refine W.k fun K hK=>?_
  simp(disch:=omega)only[↓RU,RV,RH,↓reduceIte,qE,reduceCtorEq,if_pos,↓RS,RG,qA,qM,qL]
  apply hK;clear hK K
  refine xn ?_
  refine ⟨0,[zaw (gP p) (rP p),.fn 58 [.ip [eInts ws] 0,.ip [eInts ht] 0]],⟨[],2⟩,?_,?_,2,rfl,rfl⟩
  ·simp [-qU,Store.frz,zcn,zcx,zbe,zb7,zca,zb6,zcw,zbq,zbt,zbr,zbd,zbf,zcb,zbs,zb8,zbp,Env.put,Env.of,zad,zb9,qP,qC,frz,rfz,Store.cellsOf,zaw,eInts]
  simp [-qU,Store.frz,zcn,zcx,zbe,zb7,zca,zb6,zcw,zbq,zbt,zbr,zbd,zbf,zcb,zbs,zb8,zbp,Env.put,Env.of,zad,zb9,qP,qC]
 rintro vs S - ⟨tk,rfl,rfl⟩
 refine W.r fun K hK=>?_
 simp(disch:=omega)only[↓RU,RV,RH,↓reduceIte,qE,reduceCtorEq,if_pos,qN,↓RS,RG,qA,qM,qL]
 refine zag.pc (zlp hp) rfl (.inr rfl) ?_
 simp(disch:=omega)only[↓RU,RV,RH,↓reduceIte,qE,reduceCtorEq,if_pos,qN,↓RS,RG,qA,qM,qL]
 refine zag.pc (hF) rfl (.inr rfl) ?_
 simp(disch:=omega)only[↓RU,RV,RH,↓reduceIte,qE,reduceCtorEq,if_pos,qN,↓RS,RG,qA,qM,qL]
 apply hK;clear hK K
 refine W.r fun K hK=>?_
 simp(disch:=omega)only[↓RU,RV,RH,↓reduceIte,qE,reduceCtorEq,if_pos,qN,↓RS,RG,qA,qM,qL]
 refine zag.pc (zq3) rfl (.inl rfl) ?_
 simp(disch:=omega)only[↓RU,RV,RH,↓reduceIte,qE,reduceCtorEq,if_pos,qN,↓RS,RG,qA,qM,qL]
 apply hK;clear hK K
 refine W.ret ?_
 refine Br rfl ?_
 rfl
theorem zlf {p:List Txt} (hs:Sm p) {ws ht:List Int} (hw:ws.length≤1048576) (hh:ht.length≤1048576) (hv:zde p ws ht=false):PC Tryz.prog 20 [za1 p,eInts ws,eInts ht] (.tup [.sl [] 0,.bool false]) true:=by
 refine PC.of ⟨Tryz.func20,by kernel_rfl,rfl,by kernel_rfl⟩ za4 mixed (by show 3≤Tryz.f20.ntmps; decide) ?_
 refine W.r fun K hK=>?_
 simp(disch:=omega)only[↓RU,RV,RH,↓reduceIte,qE,reduceCtorEq,if_pos,↓RS,RG,qA,qM,qL,zab,zaa]
 apply hK;clear hK K
 refine W.r fun K hK=>?_
 cases hnv:zd1 p [ws,ht]
 ·skip
  have hSh:=zee hs hw hh
  rw [hv,hnv]at hSh
  simp only[qF,if_false]at hSh
  simp(disch:=omega)only[↓RU,RV,RH,↓reduceIte,qE,reduceCtorEq,if_pos,qN,↓RS,RG,qA,qM,qL,zab,zaa]
  refine zag.pc (hSh) rfl (.inr rfl) ?_
  simp(disch:=omega)only[↓RU,RV,RH,↓reduceIte,qE,reduceCtorEq,if_pos,qN,↓RS,RG,qA,qM,qL,zab,zaa]
  apply hK;clear hK K
  refine W.seq ?_
  refine W.r fun K hK=>?_
  simp(disch:=omega)only[↓RU,RV,RH,↓reduceIte,qE,reduceCtorEq,if_pos,↓RS,RG,qA,qM,qL]
  apply hK;clear hK K
  refine W.cond rfl (fun h0=>?_) (fun h0=>?_)
  ·try simp only[RL]at h0
   refine W.r fun K hK=>?_
   simp(disch:=omega)only[↓RU,RV,RH,↓reduceIte,qE,reduceCtorEq,if_pos,↓RS,RG,qA,qM,qL]
   apply hK;clear hK K
   refine W.ret ?_
   refine XThen.ret ?_
   refine Br rfl ?_
   rfl
  try simp only[RL]at h0
  exact absurd h0 (by simp)
 skip
 have hSh:=zee hs hw hh
 rw [hv,hnv]at hSh
 simp only[if_true]at hSh
 simp(disch:=omega)only[↓RU,RV,RH,↓reduceIte,qE,reduceCtorEq,if_pos,qN,↓RS,RG,qA,qM,qL,zab,zaa]
 refine zag.pc (hSh) rfl (.inr rfl) ?_
 simp(disch:=omega)only[↓RU,RV,RH,↓reduceIte,qE,reduceCtorEq,if_pos,qN,↓RS,RG,qA,qM,qL,zab,zaa]
 apply hK;clear hK K
 refine W.seq ?_
 refine W.r fun K hK=>?_
 simp(disch:=omega)only[↓RU,RV,RH,↓reduceIte,qE,reduceCtorEq,if_pos,↓RS,RG,qA,qM,qL]
 apply hK;clear hK K
 refine W.cond rfl (fun h0=>?_) (fun h0=>?_)
 ·try simp only[RL]at h0
  refine W.r fun K hK=>?_
  simp(disch:=omega)only[↓RU,RV,RH,↓reduceIte,qE,reduceCtorEq,if_pos,↓RS,RG,qA,qM,qL]
  apply hK;clear hK K
  refine W.ret ?_
  refine XThen.ret ?_
  refine Br rfl ?_
  rfl
 try simp only[RL]at h0
 exact absurd h0 (by simp)
theorem znl {p:List Txt} (hs:Sm p) {ws ht:List Int} (hw:ws.length≤1048576) (hh:ht.length≤1048576) (hv:bcB p ws ht=false):PC Tryz.prog 20 [za1 p,eInts ws,eInts ht] (.tup [.sl [] 0,.bool false]) true:=by
 cases hg:zde p ws ht with
 | false=>exact zlf hs hw hh hg
 | true =>
  cases hx:zct (zao p) (zd7 p) with
  | none=>exact zlg hs hw hh hg hx
  | some x=>unfold bcB at hv; rw [hg,hx]at hv; cases hv
theorem zjk {p:List Txt} (hs:Sm p) {ws ht:List Int} (hw:ws.length≤1048576) (hh:ht.length≤1048576):PC Tryz.prog 20 [za1 p,eInts ws,eInts ht] (.tup [zdu (bcV p ws ht),.bool (bcB p ws ht)]) false:=by
 cases hg:zde p ws ht with
 | false =>
  have hb:bcB p ws ht=false:=by unfold bcB; rw [hg]; rfl
  rw [zmq hb,hb]
  exact zs5 hs hw hh hg
 | true =>
  cases hx:zct (zao p) (zd7 p) with
  | none =>
   have hb:bcB p ws ht=false:=by unfold bcB; rw [hg,hx]; rfl
   rw [zmq hb,hb]
   exact zs6 hs hw hh hg hx
  | some x =>
   have h:=zs7 hs hw hh hg hx
   rw [show bcB p ws ht=true by unfold bcB; rw [hg,hx]; rfl,show bcV p ws ht=zg2 ws ht x by unfold bcV; rw [hg,if_pos rfl,hx]]
   exact h
theorem zj2 {p:List Txt} (hs:Sm p) {ws ht:List Int} (hw:ws.length≤1048576) (hh:ht.length≤1048576) (hv:bcB p ws ht=true):PN Tryz.prog 20 [za1 p,eInts ws,eInts ht] (.tup [.loc 0 0 0 (bcV p ws ht).length,.bool true]) (.arr 0 24 1 (lc2 1 0 (bcV p ws ht).length)::zni 0 (zb2 (bcV p ws ht))) false:=by
 obtain ⟨x,hg,hx,e,-⟩:=zog hv
 rw [e]
 exact zqc hs hw hh hg hx
theorem zsz {v t:Nat} {rows:List (List Int)} {a b c d:Ob}:∀ (j:Nat) r,rows[j]?=some r→(⟨a::b::c::d::zni v rows,t⟩:Store).obs[4+j]?=some (.arr v 3 1 (r.map (.int .i64))):=fun j r h=>by
 show (a::b::c::d::zni v rows)[4+j]?=_
 rw [show 4+j=j+1+1+1+1 by omega]
 simp [zni,h]
theorem zpv {p:List Txt} (hl:p.length≤9223372036854775807) (hr:∀ r∈p,r.length≤9223372036854775807) (ws ht:List Int) (hv:bcB p ws ht=false):PC Tryz.prog 5 [za1 p,eInts ws,eInts ht] (.bool true) true:=by
 refine PC.of ⟨Tryz.func5,by kernel_rfl,rfl,by kernel_rfl⟩ za4 mixed (by show 3≤Tryz.f5.ntmps; decide) ?_
 refine W.r fun K hK=>?_
 simp(disch:=omega)only[↓RU,RV,RH,↓reduceIte,qE,reduceCtorEq,if_pos,↓RS,RG,qA,qM,qL]
 apply hK;clear hK K
 refine W.seq ?_
 refine W.r fun K hK=>?_
 simp(disch:=omega)only[↓RU,RV,RH,↓reduceIte,qE,reduceCtorEq,if_pos,w64,↓RS,RG,qA,qM,qL,zab,zaa]
 apply hK;clear hK K
 refine W.cond rfl (fun h0=>?_) (fun h0=>?_)
 ·try simp only[RL]at h0
  refine W.r fun K hK=>?_
  simp(disch:=omega)only[↓RU,RV,RH,↓reduceIte,qE,reduceCtorEq,if_pos,↓RS,RG,qA,qM,qL]
  apply hK;clear hK K
  refine W.ret ?_
  refine XThen.ret ?_
  refine Br rfl ?_
  rfl
 try simp only[RL]at h0
 refine W.skip ?_
 refine xn ?_
 refine W.seq ?_
 refine W.r fun K hK=>?_
 simp(disch:=omega)only[↓RU,RV,RH,↓reduceIte,qE,reduceCtorEq,if_pos,w64,↓RS,RG,qA,qM,qL,zab,zaa]
 apply hK;clear hK K
 refine W.cond rfl (fun h2=>?_) (fun h2=>?_)
 ·try simp only[RL]at h2
  refine W.r fun K hK=>?_
  simp(disch:=omega)only[↓RU,RV,RH,↓reduceIte,qE,reduceCtorEq,if_pos,↓RS,RG,qA,qM,qL]
  apply hK;clear hK K
  refine W.ret ?_
  refine XThen.ret ?_
  refine Br rfl ?_
  rfl
 try simp only[RL]at h2
 have hwl:ws.length≤1048576:=by omega
 have hhl:ht.length≤1048576:=by omega
 have hbn:=zmq hv
 refine W.skip ?_
 refine xn ?_
 refine W.r fun K hK=>?_
 simp(disch:=omega)only[↓RU,RV,RH,↓reduceIte,qE,reduceCtorEq,if_pos,↓RS,RG,qA,qM,qL]
 apply hK;clear hK K
 refine W.r fun K hK=>?_
 simp(disch:=omega)only[↓RU,RV,RH,↓reduceIte,qE,reduceCtorEq,if_pos,qN,↓RS,RG,qA,qM,qL]
 refine zag.pc (zne hl hr (left:=1048576) (by omega) (by omega)) rfl (.inl rfl) ?_
 simp(disch:=omega)only[↓RU,RV,RH,↓reduceIte,qE,reduceCtorEq,if_pos,qN,↓RS,RG,qA,qM,qL]
 apply hK;clear hK K
 refine W.seq ?_
 refine W.r fun K hK=>?_
 simp(disch:=omega)only[↓RU,RV,RH,↓reduceIte,qE,reduceCtorEq,if_pos,w64,↓RS,RG,qA,qM,qL,zaa]
 apply hK;clear hK K
 refine W.cond rfl (fun h3=>?_) (fun h3=>?_)
 ·try simp only[RL]at h3
  refine W.r fun K hK=>?_
  simp(disch:=omega)only[↓RU,RV,RH,↓reduceIte,qE,reduceCtorEq,if_pos,↓RS,RG,qA,qM,qL]
  apply hK;clear hK K
  refine W.ret ?_
  refine XThen.ret ?_
  refine Br rfl ?_
  rfl
 try simp only[RL]at h3
 have hs:Sm p:=ych (Int.le_refl _) (by omega)
 have hs1:=hs.1
 have hPc:=zjk hs hwl hhl
 have hSp:=zla hs hwl hhl
 rw [zmq hv,hv]at hPc hSp
 have hNo:=znl hs hwl hhl hv
 refine W.skip ?_
 refine xn ?_
 refine W.r fun K hK=>?_
 simp(disch:=omega)only[↓RU,RV,RH,↓reduceIte,qE,reduceCtorEq,if_pos,qN,↓RS,RG,qA,qM,qL]
 refine zag.pc (zeg hs1) rfl (.inl rfl) ?_
 simp(disch:=omega)only[↓RU,RV,RH,↓reduceIte,qE,reduceCtorEq,if_pos,qN,↓RS,RG,qA,qM,qL]
 refine zag.pc (zdg hwl) rfl (.inl rfl) ?_
 simp(disch:=omega)only[↓RU,RV,RH,↓reduceIte,qE,reduceCtorEq,if_pos,qN,↓RS,RG,qA,qM,qL]
 refine zag.pc (zdg hhl) rfl (.inl rfl) ?_
 simp(disch:=omega)only[↓RU,RV,RH,↓reduceIte,qE,reduceCtorEq,if_pos,qN,↓RS,RG,qA,qM,qL]
 refine zag.pc (hSp) rfl (.inr rfl) ?_
 simp(disch:=omega)only[↓RU,RV,RH,↓reduceIte,qE,reduceCtorEq,if_pos,qN,↓RS,RG,qA,qM,qL,hv,hbn]
 apply hK;clear hK K
 refine W.r fun K hK=>?_
 simp(disch:=omega)only[↓RU,RV,RH,↓reduceIte,qE,reduceCtorEq,if_pos,qN,↓RS,RG,qA,qM,qL]
 refine zag.pn (zin hs1) rfl (.inl rfl) ?_
 simp(disch:=omega)only[↓RU,RV,RH,↓reduceIte,qE,reduceCtorEq,if_pos,qN,↓RS,RG,qA,qM,qL,RN]
 apply hK;clear hK K
 refine W.r fun K hK=>?_
 simp(disch:=omega)only[↓RU,RV,RH,↓reduceIte,qE,reduceCtorEq,if_pos,qN,↓RS,RG,qA,qM,qL]
 refine zag.pn (zim hwl) rfl (.inl rfl) ?_
 simp(disch:=omega)only[↓RU,RV,RH,↓reduceIte,qE,reduceCtorEq,if_pos,qN,↓RS,RG,qA,qM,qL,RN]
 apply hK;clear hK K
 refine W.r fun K hK=>?_
 simp(disch:=omega)only[↓RU,RV,RH,↓reduceIte,qE,reduceCtorEq,if_pos,qN,↓RS,RG,qA,qM,qL]
 refine zag.pn (zim hhl) rfl (.inl rfl) ?_
 simp(disch:=omega)only[↓RU,RV,RH,↓reduceIte,qE,reduceCtorEq,if_pos,qN,↓RS,RG,qA,qM,qL,RN]
 apply hK;clear hK K
 refine W.r fun K hK=>?_
 simp(disch:=omega)only[↓RU,RV,RH,↓reduceIte,qE,reduceCtorEq,if_pos,qN,↓RS,RG,qA,qM,qL]
 refine zag.pc (hNo) (zaj (zbc (k:=9) rfl (by simp) (zem _)) (zaj (zbc (k:=9) rfl (by simp) (zdw _)) (zaj (zbc (k:=9) rfl (by simp) (zdw _)) rfl))) (.inl rfl) ?_
 simp(disch:=omega)only[↓RU,RV,RH,↓reduceIte,qE,reduceCtorEq,if_pos,qN,↓RS,RG,qA,qM,qL]
 apply hK;clear hK K
 refine W.seq ?_
 refine W.r fun K hK=>?_
 simp(disch:=omega)only[↓RU,RV,RH,↓reduceIte,qE,reduceCtorEq,if_pos,qN,w64,↓RS,RG,qA,qM,qL,zbm]
 refine zag.pc (zf2 (l:=[]) (by simp)) rfl (.inl rfl) ?_
 simp(disch:=omega)only[↓RU,RV,RH,↓reduceIte,qE,reduceCtorEq,if_pos,qN,w64,↓RS,RG,qA,qM,qL,zbm,decide_true,Bool.not_true,bne_self_eq_false]
 apply hK;clear hK K
 refine W.cond rfl (fun h4=>?_) (fun h4=>?_)
 ·try simp only[RL]at h4
  first | (exfalso; omega) | exact absurd h4 (by simp)
 try simp only[RL]at h4
 refine W.skip ?_
 refine xn ?_
 refine W.seq ?_
 refine W.r fun K hK=>?_
 simp(disch:=omega)only[↓RU,RV,RH,↓reduceIte,qE,reduceCtorEq,if_pos,qN,↓RS,RG,qA,qM,qL]
 refine zag.pc (zeg hs1) rfl (.inl rfl) ?_
 simp(disch:=omega)only[↓RU,RV,RH,↓reduceIte,qE,reduceCtorEq,if_pos,qN,↓RS,RG,qA,qM,qL]
 refine zag.pc (zmy (p:=p) (q:=p) (by omega) (by omega)) (zaj (zbc (k:=9) rfl (by simp) (zem _)) (zaj rfl rfl)) (.inl rfl) ?_
 simp(disch:=omega)only[↓RU,RV,RH,↓reduceIte,qE,reduceCtorEq,if_pos,qN,↓RS,RG,qA,qM,qL]
 apply hK;clear hK K
 refine W.cond rfl (fun h5=>?_) (fun h5=>?_)
 ·try simp only[RL]at h5
  first | (exfalso; omega) | exact absurd h5 (by simp)
 try simp only[RL]at h5
 refine W.skip ?_
 refine xn ?_
 refine W.seq ?_
 refine W.r fun K hK=>?_
 simp(disch:=omega)only[↓RU,RV,RH,↓reduceIte,qE,reduceCtorEq,if_pos,qN,↓RS,RG,qA,qM,qL]
 refine zag.pc (zdg hwl) rfl (.inl rfl) ?_
 simp(disch:=omega)only[↓RU,RV,RH,↓reduceIte,qE,reduceCtorEq,if_pos,qN,↓RS,RG,qA,qM,qL]
 refine zag.pc (zh7 (p:=ws) (q:=ws) (by omega) (by omega)) (zaj (zbc (k:=9) rfl (by simp) (zdw _)) (zaj rfl rfl)) (.inl rfl) ?_
 simp(disch:=omega)only[↓RU,RV,RH,↓reduceIte,qE,reduceCtorEq,if_pos,qN,↓RS,RG,qA,qM,qL]
 apply hK;clear hK K
 refine W.cond rfl (fun h6=>?_) (fun h6=>?_)
 ·try simp only[RL]at h6
  first | (exfalso; omega) | exact absurd h6 (by simp)
 try simp only[RL]at h6
 refine W.skip ?_
 refine xn ?_
 refine W.seq ?_
 refine W.r fun K hK=>?_
 simp(disch:=omega)only[↓RU,RV,RH,↓reduceIte,qE,reduceCtorEq,if_pos,qN,↓RS,RG,qA,qM,qL]
 refine zag.pc (zdg hhl) rfl (.inl rfl) ?_
 simp(disch:=omega)only[↓RU,RV,RH,↓reduceIte,qE,reduceCtorEq,if_pos,qN,↓RS,RG,qA,qM,qL]
 refine zag.pc (zh7 (p:=ht) (q:=ht) (by omega) (by omega)) (zaj (zbc (k:=9) rfl (by simp) (zdw _)) (zaj rfl rfl)) (.inl rfl) ?_
 simp(disch:=omega)only[↓RU,RV,RH,↓reduceIte,qE,reduceCtorEq,if_pos,qN,↓RS,RG,qA,qM,qL]
 apply hK;clear hK K
 refine W.cond rfl (fun h7=>?_) (fun h7=>?_)
 ·try simp only[RL]at h7
  first | (exfalso; omega) | exact absurd h7 (by simp)
 try simp only[RL]at h7
 refine W.skip ?_
 refine xn ?_
 refine W.r fun K hK=>?_
 simp(disch:=omega)only[↓RU,RV,RH,↓reduceIte,qE,reduceCtorEq,if_pos,↓RS,RG,qA,qM,qL]
 apply hK;clear hK K
 refine W.r fun K hK=>?_
 simp(disch:=omega)only[↓RU,RV,RH,↓reduceIte,qE,reduceCtorEq,if_pos,qN,↓RS,RG,qA,qM,qL]
 refine zag.ev (zjg (F:=[]) (R:=_) (l:=p) hs1 (k0:=1) (by omega) (by omega)) ?_
 rintro _ _ ⟨rfl,t1,ht1,rfl⟩
 simp(disch:=omega)only[↓RU,RV,RH,↓reduceIte,qE,reduceCtorEq,if_pos,qN,↓RS,RG,qA,qM,qL,List.nil_append,List.cons_append,qN]
 apply hK;clear hK K
 refine W.r fun K hK=>?_
 simp(disch:=omega)only[↓RU,RV,RH,↓reduceIte,qE,reduceCtorEq,if_pos,qN,↓RS,RG,qA,qM,qL]
 refine zag.ev (zge (F:=[_]) (R:=_) (l:=ws) hwl (k0:=1+(p.length:Int)) (by omega) (by omega)) ?_
 rintro _ _ ⟨rfl,t2,ht2,hd2,rfl⟩
 simp(disch:=omega)only[↓RU,RV,RH,↓reduceIte,qE,reduceCtorEq,if_pos,qN,↓RS,RG,qA,qM,qL,List.nil_append,List.cons_append,qN]
 apply hK;clear hK K
 refine W.r fun K hK=>?_
 simp(disch:=omega)only[↓RU,RV,RH,↓reduceIte,qE,reduceCtorEq,if_pos,qN,↓RS,RG,qA,qM,qL]
 refine zag.ev (zge (F:=[_,_]) (R:=_) (l:=ht) hhl (k0:=1+(p.length:Int)+(ws.length:Int)) (by omega) (by omega)) ?_
 rintro _ _ ⟨rfl,t3,ht3,hd3,rfl⟩
 simp(disch:=omega)only[↓RU,RV,RH,↓reduceIte,qE,reduceCtorEq,if_pos,qN,↓RS,RG,qA,qM,qL,List.nil_append,List.cons_append,qN]
 apply hK;clear hK K
 refine W.seq ?_
 refine W.r fun K hK=>?_
 have hk0:decide ((1+(p.length:Int)+(ws.length:Int)+(ht.length:Int))<0)=false:=by simp; omega
 simp(disch:=omega)only[↓RU,RV,RH,↓reduceIte,qE,reduceCtorEq,if_pos,w64,qN,↓RS,RG,qA,qM,qL,zbm,zaa,hk0]
 refine zag.pc (zf2 (l:=[]) (by simp)) rfl (.inl rfl) ?_
 simp(disch:=omega)only[↓RU,RV,RH,↓reduceIte,qE,reduceCtorEq,if_pos,w64,qN,↓RS,RG,qA,qM,qL,zbm,zaa,hk0,decide_true,Bool.not_true,bne_self_eq_false]
 apply hK;clear hK K
 refine W.cond rfl (fun h8=>?_) (fun h8=>?_)
 ·try simp only[RL]at h8
  first | (exfalso; omega) | exact absurd h8 (by simp)
 try simp only[RL]at h8
 refine W.skip ?_
 refine xn ?_
 refine W.r fun K hK=>?_
 simp(disch:=omega)only[↓RU,RV,RH,↓reduceIte,qE,reduceCtorEq,if_pos,↓RS,RG,qA,qM,qL]
 apply hK;clear hK K
 refine W.r fun K hK=>?_
 simp(disch:=omega)only[↓RU,RV,RH,↓reduceIte,qE,reduceCtorEq,if_pos,qN,↓RS,RG,qA,qM,qL]
 refine zag.pc (zsh 1) rfl (.inl rfl) ?_
 simp(disch:=omega)only[↓RU,RV,RH,↓reduceIte,qE,reduceCtorEq,if_pos,qN,↓RS,RG,qA,qM,qL]
 apply hK;clear hK K
 refine W.r fun K hK=>?_
 simp(disch:=omega)only[↓RU,RV,RH,↓reduceIte,qE,reduceCtorEq,if_pos,↓RS,RG,qA,qM,qL]
 apply hK;clear hK K
 refine W.r fun K hK=>?_
 simp(disch:=omega)only[↓RU,RV,RH,↓reduceIte,qE,reduceCtorEq,if_pos,qN,↓RS,RG,qA,qM,qL]
 refine zag.pc (zgt (k0:=1) (m:=0) (by omega) (by omega) (by omega)) rfl (.inl rfl) ?_
 simp(disch:=omega)only[↓RU,RV,RH,↓reduceIte,qE,reduceCtorEq,if_pos,qN,↓RS,RG,qA,qM,qL]
 apply hK;clear hK K
 refine W.seq ?_
 refine W.r fun K hK=>?_
 simp(disch:=omega)only[↓RU,RV,RH,↓reduceIte,qE,reduceCtorEq,if_pos,w64,↓RS,RG,qA,qM,qL,zaa]
 apply hK;clear hK K
 refine W.cond rfl (fun h9=>?_) (fun h9=>?_)
 ·try simp only[RL]at h9
  first | (exfalso; omega) | exact absurd h9 (by simp)
 try simp only[RL]at h9
 refine W.skip ?_
 refine xn ?_
 refine W.seq ?_
 refine W.r fun K hK=>?_
 simp(disch:=omega)only[↓RU,RV,RH,↓reduceIte,qE,reduceCtorEq,if_pos,w64,↓RS,RG,qA,qM,qL,zaa]
 apply hK;clear hK K
 refine W.cond rfl (fun h10=>?_) (fun h10=>?_)
 ·try simp only[RL]at h10
  first | (exfalso; omega) | exact absurd h10 (by simp)
 try simp only[RL]at h10
 refine W.skip ?_
 refine xn ?_
 refine W.r fun K hK=>?_
 simp(disch:=omega)only[↓RU,RV,RH,↓reduceIte,qE,reduceCtorEq,if_pos,qN,↓RS,RG,qA,qM,qL]
 refine zag.pc (zeg hs1) rfl (.inl rfl) ?_
 simp(disch:=omega)only[↓RU,RV,RH,↓reduceIte,qE,reduceCtorEq,if_pos,qN,↓RS,RG,qA,qM,qL]
 refine zag.pc (zdg hwl) rfl (.inl rfl) ?_
 simp(disch:=omega)only[↓RU,RV,RH,↓reduceIte,qE,reduceCtorEq,if_pos,qN,↓RS,RG,qA,qM,qL]
 refine zag.pc (zdg hhl) rfl (.inl rfl) ?_
 simp(disch:=omega)only[↓RU,RV,RH,↓reduceIte,qE,reduceCtorEq,if_pos,qN,↓RS,RG,qA,qM,qL]
 refine zag.pc (hPc) rfl (.inr rfl) ?_
 simp(disch:=omega)only[↓RU,RV,RH,↓reduceIte,qE,reduceCtorEq,if_pos,qN,↓RS,RG,qA,qM,qL,hv,hbn]
 apply hK;clear hK K
 refine W.seq ?_
 refine W.r fun K hK=>?_
 simp(disch:=omega)only[↓RU,RV,RH,↓reduceIte,qE,reduceCtorEq,if_pos,qN,w64,↓RS,RG,qA,qM,qL,zbm]
 refine zag.pc (zf2 (l:=[]) (by simp)) rfl (.inl rfl) ?_
 simp(disch:=omega)only[↓RU,RV,RH,↓reduceIte,qE,reduceCtorEq,if_pos,qN,w64,↓RS,RG,qA,qM,qL,zbm,decide_true,Bool.not_true,bne_self_eq_false]
 apply hK;clear hK K
 refine W.cond rfl (fun h11=>?_) (fun h11=>?_)
 ·try simp only[RL]at h11
  first | (exfalso; omega) | exact absurd h11 (by simp)
 try simp only[RL]at h11
 refine W.skip ?_
 refine xn ?_
 refine W.r fun K hK=>?_
 simp(disch:=omega)only[↓RU,RV,RH,↓reduceIte,qE,reduceCtorEq,if_pos,↓RS,RG,qA,qM,qL]
 apply hK;clear hK K
 refine W.r fun K hK=>?_
 simp(disch:=omega)only[↓RU,RV,RH,↓reduceIte,qE,reduceCtorEq,if_pos,qN,↓RS,RG,qA,qM,qL]
 refine zag.pc (zgt (k0:=1) (m:=0) (by omega) (by omega) (by omega)) rfl (.inl rfl) ?_
 simp(disch:=omega)only[↓RU,RV,RH,↓reduceIte,qE,reduceCtorEq,if_pos,qN,↓RS,RG,qA,qM,qL]
 apply hK;clear hK K
 refine W.seq ?_
 refine W.r fun K hK=>?_
 simp(disch:=omega)only[↓RU,RV,RH,↓reduceIte,qE,reduceCtorEq,if_pos,w64,↓RS,RG,qA,qM,qL,zaa]
 apply hK;clear hK K
 refine W.cond rfl (fun h12=>?_) (fun h12=>?_)
 ·try simp only[RL]at h12
  first | (exfalso; omega) | exact absurd h12 (by simp)
 try simp only[RL]at h12
 refine W.skip ?_
 refine xn ?_
 refine W.seq ?_
 refine W.r fun K hK=>?_
 simp(disch:=omega)only[↓RU,RV,RH,↓reduceIte,qE,reduceCtorEq,if_pos,w64,↓RS,RG,qA,qM,qL,zaa]
 apply hK;clear hK K
 refine W.cond rfl (fun h13=>?_) (fun h13=>?_)
 ·try simp only[RL]at h13
  first | (exfalso; omega) | exact absurd h13 (by simp)
 try simp only[RL]at h13
 refine W.skip ?_
 refine xn ?_
 refine W.r fun K hK=>?_
 simp(disch:=omega)only[↓RU,RV,RH,↓reduceIte,qE,reduceCtorEq,if_pos,↓RS,RG,qA,qM,qL]
 apply hK;clear hK K
 refine W.ret ?_
 refine Br rfl ?_
 rfl
theorem znk {p:List Txt} (hl:p.length≤9223372036854775807) (hr:∀ r∈p,r.length≤9223372036854775807) (ws ht:List Int) (hv:bcB p ws ht=true):PC Tryz.prog 5 [za1 p,eInts ws,eInts ht] (.bool true) true:=by
 refine PC.of ⟨Tryz.func5,by kernel_rfl,rfl,by kernel_rfl⟩ za4 mixed (by show 3≤Tryz.f5.ntmps; decide) ?_
 refine W.r fun K hK=>?_
 simp(disch:=omega)only[↓RU,RV,RH,↓reduceIte,qE,reduceCtorEq,if_pos,↓RS,RG,qA,qM,qL]
 apply hK;clear hK K
 refine W.seq ?_
 refine W.r fun K hK=>?_
 simp(disch:=omega)only[↓RU,RV,RH,↓reduceIte,qE,reduceCtorEq,if_pos,w64,↓RS,RG,qA,qM,qL,zab,zaa]
 apply hK;clear hK K
 refine W.cond rfl (fun h0=>?_) (fun h0=>?_)
 ·try simp only[RL]at h0
  refine W.r fun K hK=>?_
  simp(disch:=omega)only[↓RU,RV,RH,↓reduceIte,qE,reduceCtorEq,if_pos,↓RS,RG,qA,qM,qL]
  apply hK;clear hK K
  refine W.ret ?_
  refine XThen.ret ?_
  refine Br rfl ?_
  rfl
 try simp only[RL]at h0
 refine W.skip ?_
 refine xn ?_
 refine W.seq ?_
 refine W.r fun K hK=>?_
 simp(disch:=omega)only[↓RU,RV,RH,↓reduceIte,qE,reduceCtorEq,if_pos,w64,↓RS,RG,qA,qM,qL,zab,zaa]
 apply hK;clear hK K
 refine W.cond rfl (fun h2=>?_) (fun h2=>?_)
 ·try simp only[RL]at h2
  refine W.r fun K hK=>?_
  simp(disch:=omega)only[↓RU,RV,RH,↓reduceIte,qE,reduceCtorEq,if_pos,↓RS,RG,qA,qM,qL]
  apply hK;clear hK K
  refine W.ret ?_
  refine XThen.ret ?_
  refine Br rfl ?_
  rfl
 try simp only[RL]at h2
 have hwl:ws.length≤1048576:=by omega
 have hhl:ht.length≤1048576:=by omega
 have hbl:=z9m (p:=p) (ws:=ws) (ht:=ht)
 refine W.skip ?_
 refine xn ?_
 refine W.r fun K hK=>?_
 simp(disch:=omega)only[↓RU,RV,RH,↓reduceIte,qE,reduceCtorEq,if_pos,↓RS,RG,qA,qM,qL]
 apply hK;clear hK K
 refine W.r fun K hK=>?_
 simp(disch:=omega)only[↓RU,RV,RH,↓reduceIte,qE,reduceCtorEq,if_pos,qN,↓RS,RG,qA,qM,qL]
 refine zag.pc (zne hl hr (left:=1048576) (by omega) (by omega)) rfl (.inl rfl) ?_
 simp(disch:=omega)only[↓RU,RV,RH,↓reduceIte,qE,reduceCtorEq,if_pos,qN,↓RS,RG,qA,qM,qL]
 apply hK;clear hK K
 refine W.seq ?_
 refine W.r fun K hK=>?_
 simp(disch:=omega)only[↓RU,RV,RH,↓reduceIte,qE,reduceCtorEq,if_pos,w64,↓RS,RG,qA,qM,qL,zaa]
 apply hK;clear hK K
 refine W.cond rfl (fun h3=>?_) (fun h3=>?_)
 ·try simp only[RL]at h3
  refine W.r fun K hK=>?_
  simp(disch:=omega)only[↓RU,RV,RH,↓reduceIte,qE,reduceCtorEq,if_pos,↓RS,RG,qA,qM,qL]
  apply hK;clear hK K
  refine W.ret ?_
  refine XThen.ret ?_
  refine Br rfl ?_
  rfl
 try simp only[RL]at h3
 have hs:Sm p:=ych (Int.le_refl _) (by omega)
 have hs1:=hs.1
 have hLive:=zj2 hs hwl hhl hv
 have hPc:=zjk hs hwl hhl
 rw [hv]at hPc
 have hSp:=zla hs hwl hhl
 rw [hv]at hSp
 have hlen:=(zog hv).choose_spec.2.2.2
 refine W.skip ?_
 refine xn ?_
 refine W.r fun K hK=>?_
 simp(disch:=omega)only[↓RU,RV,RH,↓reduceIte,qE,reduceCtorEq,if_pos,qN,↓RS,RG,qA,qM,qL]
 refine zag.pc (zeg hs1) rfl (.inl rfl) ?_
 simp(disch:=omega)only[↓RU,RV,RH,↓reduceIte,qE,reduceCtorEq,if_pos,qN,↓RS,RG,qA,qM,qL]
 refine zag.pc (zdg hwl) rfl (.inl rfl) ?_
 simp(disch:=omega)only[↓RU,RV,RH,↓reduceIte,qE,reduceCtorEq,if_pos,qN,↓RS,RG,qA,qM,qL]
 refine zag.pc (zdg hhl) rfl (.inl rfl) ?_
 simp(disch:=omega)only[↓RU,RV,RH,↓reduceIte,qE,reduceCtorEq,if_pos,qN,↓RS,RG,qA,qM,qL]
 refine zag.pc (hSp) rfl (.inr rfl) ?_
 simp(disch:=omega)only[↓RU,RV,RH,↓reduceIte,qE,reduceCtorEq,if_pos,qN,↓RS,RG,qA,qM,qL,hv]
 apply hK;clear hK K
 refine W.r fun K hK=>?_
 simp(disch:=omega)only[↓RU,RV,RH,↓reduceIte,qE,reduceCtorEq,if_pos,qN,↓RS,RG,qA,qM,qL]
 refine zag.pn (zin hs1) rfl (.inl rfl) ?_
 simp(disch:=omega)only[↓RU,RV,RH,↓reduceIte,qE,reduceCtorEq,if_pos,qN,↓RS,RG,qA,qM,qL,RN]
 apply hK;clear hK K
 refine W.r fun K hK=>?_
 simp(disch:=omega)only[↓RU,RV,RH,↓reduceIte,qE,reduceCtorEq,if_pos,qN,↓RS,RG,qA,qM,qL]
 refine zag.pn (zim hwl) rfl (.inl rfl) ?_
 simp(disch:=omega)only[↓RU,RV,RH,↓reduceIte,qE,reduceCtorEq,if_pos,qN,↓RS,RG,qA,qM,qL,RN]
 apply hK;clear hK K
 refine W.r fun K hK=>?_
 simp(disch:=omega)only[↓RU,RV,RH,↓reduceIte,qE,reduceCtorEq,if_pos,qN,↓RS,RG,qA,qM,qL]
 refine zag.pn (zim hhl) rfl (.inl rfl) ?_
 simp(disch:=omega)only[↓RU,RV,RH,↓reduceIte,qE,reduceCtorEq,if_pos,qN,↓RS,RG,qA,qM,qL,RN]
 apply hK;clear hK K
 refine W.r fun K hK=>?_
 simp(disch:=omega)only[↓RU,RV,RH,↓reduceIte,qE,reduceCtorEq,if_pos,qN,↓RS,RG,qA,qM,qL]
 refine zag.pn (hLive) (zaj (zbc (k:=9) rfl (by simp) (zem _)) (zaj (zbc (k:=9) rfl (by simp) (zdw _)) (zaj (zbc (k:=9) rfl (by simp) (zdw _)) rfl))) (.inl rfl) ?_
 simp(disch:=omega)only[↓RU,RV,RH,↓reduceIte,qE,reduceCtorEq,if_pos,qN,↓RS,RG,qA,qM,qL,ycn,yba,List.map_cons,zln,RN]
 apply hK;clear hK K
 refine W.seq ?_
 refine W.r fun K hK=>?_
 simp(disch:=omega)only[↓RU,RV,RH,↓reduceIte,qE,reduceCtorEq,if_pos,qN,w64,↓RS,RG,qA,qM,qL,zbm]
 refine zag.pc (zf2 (l:=(bcV p ws ht)) (by omega)) (zaj (zi0 (rows:=zb2 (bcV p ws ht)) rfl zcm.symm zs0 zsz) rfl) (.inl rfl) ?_
 simp(disch:=omega)only[↓RU,RV,RH,↓reduceIte,qE,reduceCtorEq,if_pos,qN,w64,↓RS,RG,qA,qM,qL,zbm,decide_true,Bool.not_true,bne_self_eq_false]
 apply hK;clear hK K
 refine W.cond rfl (fun h4=>?_) (fun h4=>?_)
 ·try simp only[RL]at h4
  first | (exfalso; omega) | exact absurd h4 (by simp)
 try simp only[RL]at h4
 refine W.skip ?_
 refine xn ?_
 refine W.seq ?_
 refine W.r fun K hK=>?_
 simp(disch:=omega)only[↓RU,RV,RH,↓reduceIte,qE,reduceCtorEq,if_pos,qN,↓RS,RG,qA,qM,qL]
 refine zag.pc (zeg hs1) rfl (.inl rfl) ?_
 simp(disch:=omega)only[↓RU,RV,RH,↓reduceIte,qE,reduceCtorEq,if_pos,qN,↓RS,RG,qA,qM,qL]
 refine zag.pc (zmy (p:=p) (q:=p) (by omega) (by omega)) (zaj (zbc (k:=9) rfl (by simp) (zem _)) (zaj rfl rfl)) (.inl rfl) ?_
 simp(disch:=omega)only[↓RU,RV,RH,↓reduceIte,qE,reduceCtorEq,if_pos,qN,↓RS,RG,qA,qM,qL]
 apply hK;clear hK K
 refine W.cond rfl (fun h5=>?_) (fun h5=>?_)
 ·try simp only[RL]at h5
  first | (exfalso; omega) | exact absurd h5 (by simp)
 try simp only[RL]at h5
 refine W.skip ?_
 refine xn ?_
 refine W.seq ?_
 refine W.r fun K hK=>?_
 simp(disch:=omega)only[↓RU,RV,RH,↓reduceIte,qE,reduceCtorEq,if_pos,qN,↓RS,RG,qA,qM,qL]
 refine zag.pc (zdg hwl) rfl (.inl rfl) ?_
 simp(disch:=omega)only[↓RU,RV,RH,↓reduceIte,qE,reduceCtorEq,if_pos,qN,↓RS,RG,qA,qM,qL]
 refine zag.pc (zh7 (p:=ws) (q:=ws) (by omega) (by omega)) (zaj (zbc (k:=9) rfl (by simp) (zdw _)) (zaj rfl rfl)) (.inl rfl) ?_
 simp(disch:=omega)only[↓RU,RV,RH,↓reduceIte,qE,reduceCtorEq,if_pos,qN,↓RS,RG,qA,qM,qL]
 apply hK;clear hK K
 refine W.cond rfl (fun h6=>?_) (fun h6=>?_)
 ·try simp only[RL]at h6
  first | (exfalso; omega) | exact absurd h6 (by simp)
 try simp only[RL]at h6
 refine W.skip ?_
 refine xn ?_
 refine W.seq ?_
 refine W.r fun K hK=>?_
 simp(disch:=omega)only[↓RU,RV,RH,↓reduceIte,qE,reduceCtorEq,if_pos,qN,↓RS,RG,qA,qM,qL]
 refine zag.pc (zdg hhl) rfl (.inl rfl) ?_
 simp(disch:=omega)only[↓RU,RV,RH,↓reduceIte,qE,reduceCtorEq,if_pos,qN,↓RS,RG,qA,qM,qL]
 refine zag.pc (zh7 (p:=ht) (q:=ht) (by omega) (by omega)) (zaj (zbc (k:=9) rfl (by simp) (zdw _)) (zaj rfl rfl)) (.inl rfl) ?_
 simp(disch:=omega)only[↓RU,RV,RH,↓reduceIte,qE,reduceCtorEq,if_pos,qN,↓RS,RG,qA,qM,qL]
 apply hK;clear hK K
 refine W.cond rfl (fun h7=>?_) (fun h7=>?_)
 ·try simp only[RL]at h7
  first | (exfalso; omega) | exact absurd h7 (by simp)
 try simp only[RL]at h7
 refine W.skip ?_
 refine xn ?_
 refine W.r fun K hK=>?_
 simp(disch:=omega)only[↓RU,RV,RH,↓reduceIte,qE,reduceCtorEq,if_pos,↓RS,RG,qA,qM,qL]
 apply hK;clear hK K
 refine W.r fun K hK=>?_
 simp(disch:=omega)only[↓RU,RV,RH,↓reduceIte,qE,reduceCtorEq,if_pos,qN,↓RS,RG,qA,qM,qL]
 refine zag.ev (zjg (F:=[]) (R:=_) (l:=p) hs1 (k0:=1) (by omega) (by omega)) ?_
 rintro _ _ ⟨rfl,t1,ht1,rfl⟩
 simp(disch:=omega)only[↓RU,RV,RH,↓reduceIte,qE,reduceCtorEq,if_pos,qN,↓RS,RG,qA,qM,qL,List.nil_append,List.cons_append,qN]
 apply hK;clear hK K
 refine W.r fun K hK=>?_
 simp(disch:=omega)only[↓RU,RV,RH,↓reduceIte,qE,reduceCtorEq,if_pos,qN,↓RS,RG,qA,qM,qL]
 refine zag.ev (zge (F:=[_]) (R:=_) (l:=ws) hwl (k0:=1+(p.length:Int)) (by omega) (by omega)) ?_
 rintro _ _ ⟨rfl,t2,ht2,hd2,rfl⟩
 simp(disch:=omega)only[↓RU,RV,RH,↓reduceIte,qE,reduceCtorEq,if_pos,qN,↓RS,RG,qA,qM,qL,List.nil_append,List.cons_append,qN]
 apply hK;clear hK K
 refine W.r fun K hK=>?_
 simp(disch:=omega)only[↓RU,RV,RH,↓reduceIte,qE,reduceCtorEq,if_pos,qN,↓RS,RG,qA,qM,qL]
 refine zag.ev (zge (F:=[_,_]) (R:=_) (l:=ht) hhl (k0:=1+(p.length:Int)+(ws.length:Int)) (by omega) (by omega)) ?_
 rintro _ _ ⟨rfl,t3,ht3,hd3,rfl⟩
 simp(disch:=omega)only[↓RU,RV,RH,↓reduceIte,qE,reduceCtorEq,if_pos,qN,↓RS,RG,qA,qM,qL,List.nil_append,List.cons_append,qN]
 apply hK;clear hK K
 refine W.seq ?_
 refine W.r fun K hK=>?_
 have hk0:decide ((1+(p.length:Int)+(ws.length:Int)+(ht.length:Int))<0)=false:=by simp; omega
 simp(disch:=omega)only[↓RU,RV,RH,↓reduceIte,qE,reduceCtorEq,if_pos,w64,qN,↓RS,RG,qA,qM,qL,zbm,zaa,hk0]
 refine zag.pc (zf2 (l:=(bcV p ws ht)) (by omega)) (zaj (zi0 (rows:=zb2 (bcV p ws ht)) rfl zcm.symm zs0 zsz) rfl) (.inl rfl) ?_
 simp(disch:=omega)only[↓RU,RV,RH,↓reduceIte,qE,reduceCtorEq,if_pos,w64,qN,↓RS,RG,qA,qM,qL,zbm,zaa,hk0,decide_true,Bool.not_true,bne_self_eq_false]
 apply hK;clear hK K
 refine W.cond rfl (fun h8=>?_) (fun h8=>?_)
 ·try simp only[RL]at h8
  first | (exfalso; omega) | exact absurd h8 (by simp)
 try simp only[RL]at h8
 refine W.skip ?_
 refine xn ?_
 refine W.r fun K hK=>?_
 simp(disch:=omega)only[↓RU,RV,RH,↓reduceIte,qE,reduceCtorEq,if_pos,↓RS,RG,qA,qM,qL]
 apply hK;clear hK K
 refine W.r fun K hK=>?_
 simp(disch:=omega)only[↓RU,RV,RH,↓reduceIte,qE,reduceCtorEq,if_pos,qN,↓RS,RG,qA,qM,qL]
 refine zag.ev (zuw (F:=[_,_,_]) (l:=(bcV p ws ht)) (by omega) (k0:=1) (by omega) (by omega)) ?_
 rintro _ _ ⟨rfl,rfl⟩
 simp(disch:=omega)only[↓RU,RV,RH,↓reduceIte,qE,reduceCtorEq,if_pos,qN,↓RS,RG,qA,qM,qL,List.nil_append,List.cons_append,qN]
 apply hK;clear hK K
 refine W.r fun K hK=>?_
 simp(disch:=omega)only[↓RU,RV,RH,↓reduceIte,qE,reduceCtorEq,if_pos,↓RS,RG,qA,qM,qL]
 apply hK;clear hK K
 refine W.r fun K hK=>?_
 simp(disch:=omega)only[↓RU,RV,RH,↓reduceIte,qE,reduceCtorEq,if_pos,qN,↓RS,RG,qA,qM,qL]
 refine zag.pc (zgt (k0:=1) (m:=(bcV p ws ht).length) (by omega) (by omega) (by omega)) (zaj (zi0 (rows:=mkR 1 (bcV p ws ht).length) rfl zsj.symm z3l zsz) rfl) (.inl rfl) ?_
 simp(disch:=omega)only[↓RU,RV,RH,↓reduceIte,qE,reduceCtorEq,if_pos,qN,↓RS,RG,qA,qM,qL]
 apply hK;clear hK K
 refine W.seq ?_
 refine W.r fun K hK=>?_
 simp(disch:=omega)only[↓RU,RV,RH,↓reduceIte,qE,reduceCtorEq,if_pos,w64,↓RS,RG,qA,qM,qL,zaa]
 apply hK;clear hK K
 refine W.cond rfl (fun h9=>?_) (fun h9=>?_)
 ·try simp only[RL]at h9
  first | (exfalso; omega) | exact absurd h9 (by simp)
 try simp only[RL]at h9
 refine W.skip ?_
 refine xn ?_
 refine W.seq ?_
 refine W.r fun K hK=>?_
 simp(disch:=omega)only[↓RU,RV,RH,↓reduceIte,qE,reduceCtorEq,if_pos,w64,↓RS,RG,qA,qM,qL,zaa]
 apply hK;clear hK K
 refine W.cond rfl (fun h10=>?_) (fun h10=>?_)
 ·try simp only[RL]at h10
  first | (exfalso; omega) | exact absurd h10 (by simp)
 try simp only[RL]at h10
 refine W.skip ?_
 refine xn ?_
 refine W.r fun K hK=>?_
 simp(disch:=omega)only[↓RU,RV,RH,↓reduceIte,qE,reduceCtorEq,if_pos,qN,↓RS,RG,qA,qM,qL]
 refine zag.pc (zeg hs1) rfl (.inl rfl) ?_
 simp(disch:=omega)only[↓RU,RV,RH,↓reduceIte,qE,reduceCtorEq,if_pos,qN,↓RS,RG,qA,qM,qL]
 refine zag.pc (zdg hwl) rfl (.inl rfl) ?_
 simp(disch:=omega)only[↓RU,RV,RH,↓reduceIte,qE,reduceCtorEq,if_pos,qN,↓RS,RG,qA,qM,qL]
 refine zag.pc (zdg hhl) rfl (.inl rfl) ?_
 simp(disch:=omega)only[↓RU,RV,RH,↓reduceIte,qE,reduceCtorEq,if_pos,qN,↓RS,RG,qA,qM,qL]
 refine zag.pc (hPc) rfl (.inr rfl) ?_
 simp(disch:=omega)only[↓RU,RV,RH,↓reduceIte,qE,reduceCtorEq,if_pos,qN,↓RS,RG,qA,qM,qL,hv]
 apply hK;clear hK K
 refine W.seq ?_
 refine W.r fun K hK=>?_
 simp(disch:=omega)only[↓RU,RV,RH,↓reduceIte,qE,reduceCtorEq,if_pos,qN,w64,↓RS,RG,qA,qM,qL,zbm]
 refine zag.pc (zf2 (l:=(bcV p ws ht)) (by omega)) (zaj rfl (zaj rfl rfl)) (.inl rfl) ?_
 simp(disch:=omega)only[↓RU,RV,RH,↓reduceIte,qE,reduceCtorEq,if_pos,qN,w64,↓RS,RG,qA,qM,qL,zbm,decide_true,Bool.not_true,bne_self_eq_false]
 apply hK;clear hK K
 refine W.cond rfl (fun h11=>?_) (fun h11=>?_)
 ·try simp only[RL]at h11
  first | (exfalso; omega) | exact absurd h11 (by simp)
 try simp only[RL]at h11
 refine W.skip ?_
 refine xn ?_
 refine W.r fun K hK=>?_
 simp(disch:=omega)only[↓RU,RV,RH,↓reduceIte,qE,reduceCtorEq,if_pos,↓RS,RG,qA,qM,qL]
 apply hK;clear hK K
 refine W.r fun K hK=>?_
 simp(disch:=omega)only[↓RU,RV,RH,↓reduceIte,qE,reduceCtorEq,if_pos,qN,↓RS,RG,qA,qM,qL]
 refine zag.pc (zgt (k0:=1) (m:=(bcV p ws ht).length) (by omega) (by omega) (by omega)) (zaj (zi0 (rows:=mkR 1 (bcV p ws ht).length) rfl zsj.symm z3l zsz) rfl) (.inl rfl) ?_
 simp(disch:=omega)only[↓RU,RV,RH,↓reduceIte,qE,reduceCtorEq,if_pos,qN,↓RS,RG,qA,qM,qL]
 apply hK;clear hK K
 refine W.seq ?_
 refine W.r fun K hK=>?_
 simp(disch:=omega)only[↓RU,RV,RH,↓reduceIte,qE,reduceCtorEq,if_pos,w64,↓RS,RG,qA,qM,qL,zaa]
 apply hK;clear hK K
 refine W.cond rfl (fun h12=>?_) (fun h12=>?_)
 ·try simp only[RL]at h12
  first | (exfalso; omega) | exact absurd h12 (by simp)
 try simp only[RL]at h12
 refine W.skip ?_
 refine xn ?_
 refine W.seq ?_
 refine W.r fun K hK=>?_
 simp(disch:=omega)only[↓RU,RV,RH,↓reduceIte,qE,reduceCtorEq,if_pos,w64,↓RS,RG,qA,qM,qL,zaa]
 apply hK;clear hK K
 refine W.cond rfl (fun h13=>?_) (fun h13=>?_)
 ·try simp only[RL]at h13
  first | (exfalso; omega) | exact absurd h13 (by simp)
 try simp only[RL]at h13
 refine W.skip ?_
 refine xn ?_
 refine W.r fun K hK=>?_
 simp(disch:=omega)only[↓RU,RV,RH,↓reduceIte,qE,reduceCtorEq,if_pos,↓RS,RG,qA,qM,qL]
 apply hK;clear hK K
 refine W.ret ?_
 refine Br rfl ?_
 rfl
theorem zuq {p:List Txt} (hl:p.length≤9223372036854775807) (hr:∀ r∈p,r.length≤9223372036854775807) (ws ht:List Int):PC Tryz.prog 5 [za1 p,eInts ws,eInts ht] (.bool true) true:=by
 cases hv:bcB p ws ht with
 | false=>exact zpv hl hr ws ht hv
 | true=>exact znk hl hr ws ht hv
end Fw
end Go.Proofs.YtjobkanbijpfgaaGreat
namespace Go.Proofs.YtjobkanbijpfgaaGreat
open Go Go.ChangeShapes Go.WideShapes Go.ChangeAt Go.RowKit Fw
theorem Tryz.ownRnc:ownKnob Tryz.prog.godebug=none:=by kernel_rfl
theorem Tryz.laidOutRnc:laidOutB Tryz.prog=true:=by kernel_rfl
set_option maxRecDepth 100000 in
theorem rnc_lifted (os:Os) (started:os.Started) (H:Type) (enc:TypeId × Value→H) :
  ReturnsInHanded {} Tryz.checked os 5 .any (Rows.fnExactShapeListSpec.pre6 enc Tryz.prog Tryz.f5 Rows.fnExactShapeListRow.domain false) (Rows.fnExactShapeListSpec.post enc Tryz.prog Tryz.f5 false true false false):=by
 refine returnsInHanded_of_change (C:=Tryz.checked) Tryz.ownRnc started (by kernel_rfl) Tryz.func5
  (ChangeSpec.witness6 (enc:=enc) (C:=Tryz.checked) false ⟨#[],#[.slice none 0 0,.slice none 0 0,.slice none 0 0],[]⟩ 8 (by kernel_rfl) (by kernel_rfl) (by kernel_rfl) (by kernel_rfl)) ?_
 intro W base args ds gs before hval0 hW hcnd _
 have hval:∀ (j:Nat) t v,Tryz.f5.params[j]?=some t→args[j]?=some v→Value.okWide Tryz.prog W .any base t v:=hval0
 have hW':=hW
 obtain ⟨p,q,hA0,hV,rfl,hfz,hnd⟩:=hW
 have hA:DataW.TrodAll enc Tryz.prog W 0 (fun _=>true) true Tryz.f5.params.toList args.toList ds p:=hA0
 rw [Tryz.params5]at hA hval
 obtain ⟨v0,v1,v2,d0,d1,d2,p0,p1,p2,rfl,rfl,rfl,h0,h1,h2⟩:=trodAll_three hA
 obtain ⟨rfl,rfl⟩:=trodVars_none hV
 obtain ⟨l0,i0,b0,c0⟩:=ybb (hval 0 _ v0 rfl rfl) h0
 obtain ⟨l1,i1⟩:=z52 (hval 1 _ v1 rfl rfl) h1
 obtain ⟨l2,i2⟩:=z52 (hval 2 _ v2 rfl rfl) h2
 have hlt:∀ x∈p0++p1++p2,x.block<W.heap.size:=fun x hx=>hW'.lt x (by simp only[List.mem_append]at hx ⊢; simp [hx])
 refine ((zuq b0 c0 l1 l2).run (fun b=>b<W.heap.size) W #[v0,v1,v2] (fun _ h=>h) rfl ?_).mono ?_
 ·rintro (_ | _ | _ | i) p c hp hc
  ·cases hp; cases hc; exact i0
  ·cases hp; cases hc; exact i1
  ·cases hp; cases hc; exact i2
  simp at hp
 rintro e W' ⟨cv,rfl,⟨hB,_⟩,hr⟩
 have hcv:cv = .bool true:=by cases hr; rfl
 subst hcv
 have t0:=Below.trod Tryz.laidOutRnc (by kernel_rfl) (of_decide_eq_true (by kernel_rfl)) h0 hB fun x hx=>hlt x (by simp [hx])
 have t1:=Below.trod Tryz.laidOutRnc (by kernel_rfl) (of_decide_eq_true (by kernel_rfl)) h1 hB fun x hx=>hlt x (by simp [hx])
 have t2:=Below.trod Tryz.laidOutRnc (by kernel_rfl) (of_decide_eq_true (by kernel_rfl)) h2 hB fun x hx=>hlt x (by simp [hx])
 refine ⟨_,rfl,_,_,_,[],p0++(p1++p2),[],hW',?_,?_,?_,hB.frame _,fun h=>by cases h⟩
 ·exact trodAll_mk1 (shut_bool Tryz.underlying4 true)
 ·rw [Tryz.params5]; exact trodAll_mk3 t0 t1 t2
 trivial
theorem rnc_holds:Rows.FnExactShapeListSaid :=
 OpenClaim.holds_of_wide 5 Tryz.f5 rfl rfl rfl rfl rfl rfl rfl ⟨rfl,rfl,rfl,rfl,rfl⟩ rfl rfl rfl rfl rfl (by kernel_rfl) Tryz.func5 (by kernel_rfl)
  (of_decide_eq_true (by kernel_rfl)) (by unfold Func.isWrapper; first | (rw [if_pos (by decide +kernel)]; kernel_rfl) | (rw [if_neg (by decide +kernel)]; exact ⟨rfl,rfl⟩))
  (fun os started H enc _=>rnc_lifted os started H enc)
end Go.Proofs.YtjobkanbijpfgaaGreat
