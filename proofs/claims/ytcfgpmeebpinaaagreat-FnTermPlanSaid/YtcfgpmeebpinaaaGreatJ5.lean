/- Plans of terms are plain and cuttable, and turned with a sign in front: the law FnTermPlan answers true for all codes. No condition. -/
import Derived.Test.YtcfgpmeebpinaaaGreatJ4
import Derived.Test.YtcfgpmeebpinaaaGreatJ3
import Derived.Test.YtcfgpmeebpinaaaGreatJ2
import Derived.Test.YtcfgpmeebpinaaaGreatJ1
set_option linter.all false
namespace Go.Proofs.YtcfgpmeebpinaaaGreat
namespace Fw
open Go
open Nat renaming reduceEqDiff → qE, reduceLeDiff → qL, reduceAdd → qA, reduceMul → qM, le_refl → qR
open List renaming append_nil → qN, mapM_append → qP, mapM_cons → qC, mapM_map → qU, range_succ → qS, take_of_length_le → qT
open Bool renaming and_eq_true → qB, false_eq_true → qF
open Option renaming map_some → qO, map_eq_some_iff → qI
open Int renaming reduceToNat → qZ
theorem z0k {s:Txt} (hs:s.length≤1048576):∀ (f k:Nat),s.length<f+k→k≤s.length+1→PC Tryz.prog 64 [.str s,.int .i64 k] (rdV f s k) false:=by
 intro f
 induction f with
 | zero =>
  intro k hk hk2
  have e:rdV 0 s k=rdV 1 s k:=by
   unfold rdV
   rw [show rdS 1 s k=(.o,0) by simp only[rdS]; rw [List.getElem?_eq_none (by omega)]]; rfl
  rw [e]
  exact zos hs (f:=0) (by omega) hk2 fun k2 h2=>absurd h2.2.2 (by omega)
 | succ f ih=>intro k hk hk2; exact zos hs hk hk2 fun k2 h2=>ih k2 h2.1 h2.2.1
def ofU (s:Txt):Tm:=if s.length>60∨s.count 111>7 then .o else (rdS (s.length+1) s 0).1
theorem z9a {s:Txt} {t:Tm} (h:ofT s=some t):ofU s=t:=by
 obtain ⟨h1,h2,h3,h4,h5⟩:=zum h
 unfold ofU
 rw [if_neg (by omega)]
 have:=z9f (s.length+1) s 0
 rw [List.drop_zero,h5]at this
 exact this.1
theorem zse {s:Txt} (h1:s.length≤60) (h2:s.count 111≤7):(ofT s).isSome=(decide (0<(rdS (s.length+1) s 0).2) && decide ((rdS (s.length+1) s 0).2=s.length)):=by
 have h:=z9f (s.length+1) s 0
 rw [List.drop_zero]at h
 unfold ofT
 rw [if_neg (by omega)]
 cases hr:rd (s.length+1) s with
 | none=>rw [hr]at h; simp only at h ⊢; rw [h]; rfl
 | some q =>
  obtain ⟨t,r⟩:=q
  rw [hr]at h
  simp only at h
  obtain ⟨-,k1,k2,k3⟩:=h
  rw [decide_eq_true (show 0<(rdS (s.length+1) s 0).2 by omega),Bool.true_and]
  cases r with
  | nil =>
   have:=congrArg List.length k3
   rw [List.length_drop,List.length_nil]at this
   rw [decide_eq_true (by omega)]; rfl
  | cons c r =>
   have:=congrArg List.length k3
   rw [List.length_drop,List.length_cons]at this
   rw [decide_eq_false (by omega)]; rfl
def ofV (s:Txt):PV := .tup [.agg (eS (ofU s)),.bool (ofT s).isSome]
def ppA:Option (List Txt)→PV
 | some p=>zaz p
 | none => .sl [] 0
def ppR (o:Option (List Txt)):PV := .tup [ppA o,.bool o.isSome]
theorem zk2 {p:List Txt}:ppA (some p)=zaz p:=rfl
theorem znr:ppA none = .sl [] 0:=rfl
theorem z9q (s:Txt):tpR s=ppR (tpV s):=by unfold tpR; cases tpV s <;> rfl
theorem zhc {p:List Txt} (hp:zak p=true):1≤p.length∧p.length≤100∧(∀ r∈p,r.length=(zad p).length)∧(zad p).length≤100∧Sm p:=by
 obtain ⟨a1,a2,a3,a4,-⟩:=zai hp
 exact ⟨a1,by omega,(zb6 hp).w,by omega,Sm.grid (zc0 (zbi hp))⟩
theorem z68 (s:Txt) (hs:s.length≤1048576):PC Tryz.prog 27 [.str s] (ofV s) false:=by
 refine PC.of ⟨Tryz.func27,by kernel_rfl,rfl,by kernel_rfl⟩ zav mixed (by show 1≤Tryz.f27.ntmps; decide) ?_
 refine W.r fun K hK=>?_
 simp(disch:=omega)only[↓RU,RV,RH,↓reduceIte,qE,reduceCtorEq,if_pos,↓RS,RG,qA,qM,qL,ty4,zed,zee,za0]
 apply hK;clear hK K
 refine W.seq ?_
 refine W.r fun K hK=>?_
 rcases (show 60<s.length∨(s.length≤60∧7<s.count 111)∨(s.length≤60∧s.count 111≤7) by omega) with q1 | ⟨q1,q2⟩ | ⟨q1,q2⟩
 ·skip
  have d1:decide ((s.length:Int)>60)=true:=decide_eq_true (by omega)
  simp(disch:=omega)only[↓RU,RV,RH,↓reduceIte,qE,reduceCtorEq,if_pos,w64,qN,↓RS,RG,qA,qM,qL,zaa,zab,d1]
  apply hK;clear hK K
  refine W.cond rfl (fun h0=>?_) (fun h0=>?_)
  ·try simp only[RL]at h0
   have qf:s.length>60∨s.count 111>7 := .inl q1
   refine W.r fun K hK=>?_
   simp(disch:=omega)only[↓RU,RV,RH,↓reduceIte,qE,reduceCtorEq,if_pos,↓RS,RG,qA,qM,qL,ty4,zed,zee,za0]
   apply hK;clear hK K
   refine W.ret ?_
   refine XThen.ret ?_
   refine Br rfl ?_
   rw [show ofV s = .tup [.agg (eS .o),.bool false] by unfold ofV ofU; rw [if_pos qf,zsd qf]; rfl]
   rfl
  try simp only[RL]at h0
  exact absurd h0 (by simp)
 ·skip
  have d1:decide ((s.length:Int)>60)=false:=decide_eq_false (by omega)
  have d2:decide (((s.count 111:Nat):Int)>7)=true:=decide_eq_true (by omega)
  simp(disch:=omega)only[↓RU,RV,RH,↓reduceIte,qE,reduceCtorEq,if_pos,w64,qN,↓RS,RG,qA,qM,qL,zaa,zab,d1,d2]
  refine zae.pc (zot s hs) rfl (.inl rfl) ?_
  simp(disch:=omega)only[↓RU,RV,RH,↓reduceIte,qE,reduceCtorEq,if_pos,w64,qN,↓RS,RG,qA,qM,qL,zaa,zab,d1,d2]
  apply hK;clear hK K
  refine W.cond rfl (fun h0=>?_) (fun h0=>?_)
  ·try simp only[RL]at h0
   have qf:s.length>60∨s.count 111>7 := .inr q2
   refine W.r fun K hK=>?_
   simp(disch:=omega)only[↓RU,RV,RH,↓reduceIte,qE,reduceCtorEq,if_pos,↓RS,RG,qA,qM,qL,ty4,zed,zee,za0]
   apply hK;clear hK K
   refine W.ret ?_
   refine XThen.ret ?_
   refine Br rfl ?_
   rw [show ofV s = .tup [.agg (eS .o),.bool false] by unfold ofV ofU; rw [if_pos qf,zsd qf]; rfl]
   rfl
  try simp only[RL]at h0
  exact absurd h0 (by simp)
 skip
 have d1:decide ((s.length:Int)>60)=false:=decide_eq_false (by omega)
 have d2:decide (((s.count 111:Nat):Int)>7)=false:=decide_eq_false (by omega)
 simp(disch:=omega)only[↓RU,RV,RH,↓reduceIte,qE,reduceCtorEq,if_pos,w64,qN,↓RS,RG,qA,qM,qL,zaa,zab,d1,d2]
 refine zae.pc (zot s hs) rfl (.inl rfl) ?_
 simp(disch:=omega)only[↓RU,RV,RH,↓reduceIte,qE,reduceCtorEq,if_pos,w64,qN,↓RS,RG,qA,qM,qL,zaa,zab,d1,d2]
 apply hK;clear hK K
 refine W.cond rfl (fun h0=>?_) (fun h0=>?_)
 ·try simp only[RL]at h0
  exact absurd h0 (by simp)
 try simp only[RL]at h0
 have qn:¬ (s.length>60∨s.count 111>7):=by omega
 refine W.skip ?_
 refine xn ?_
 refine W.r fun K hK=>?_
 obtain ⟨u,e,hue⟩:∃ u e,rdS (s.length+1) s 0=(u,e):=⟨_,_,rfl⟩
 have hI:PC Tryz.prog 64 [.str s,.int .i64 0] _ false:=z0k hs (s.length+1) 0 (by omega) (by omega)
 unfold rdV at hI
 rw [hue]at hI
 obtain ⟨cu,us,un,hus⟩:=zi9 u
 simp only[hus]at hI
 simp(disch:=omega)only[↓RU,RV,RH,↓reduceIte,qE,reduceCtorEq,if_pos,qN,↓RS,RG,qA,qM,qL,ty4,zed,zee,za0,Int.toNat_zero,Nat.zero_mul,qZ,qM,Nat.zero_add,Nat.mul_one,List.getElem?_cons_zero,List.getElem?_cons_succ]
 refine zae.pc (hI) rfl (.inr rfl) ?_
 simp(disch:=omega)only[↓RU,RV,RH,↓reduceIte,qE,reduceCtorEq,if_pos,qN,↓RS,RG,qA,qM,qL,ty4,zed,zee,za0,Int.toNat_zero,Nat.zero_mul,qZ,qM,Nat.zero_add,Nat.mul_one,List.getElem?_cons_zero,List.getElem?_cons_succ]
 apply hK;clear hK K
 refine W.r fun K hK=>?_
 rcases (show e=0∨(0<e∧e=s.length)∨(0<e∧e≠s.length) by omega) with e0 | ⟨e0,e1⟩ | ⟨e0,e1⟩
 ·skip
  have ze:decide ((e:Int)>0)=false:=decide_eq_false (by omega)
  have hbb:(decide (0<e) && decide (e=s.length))=false:=by rw [decide_eq_false (by omega)]; rfl
  simp(disch:=omega)only[↓RU,RV,RH,↓reduceIte,qE,reduceCtorEq,if_pos,w64,↓RS,RG,qA,qM,qL,ty4,zaa,zed,zab,zee,za0,Int.toNat_zero,Nat.zero_mul,qZ,qM,Nat.zero_add,Nat.mul_one,List.getElem?_cons_zero,List.getElem?_cons_succ,ze]
  apply hK;clear hK K
  refine W.ret ?_
  refine Br rfl ?_
  rw [show ofV s = .tup [.agg [eB cu,.sl us un],.bool false] by unfold ofV ofU; rw [if_neg qn,zse q1 q2,hue]; simp only[hbb]; rw [hus]]
  rfl
 ·skip
  have ze:decide ((e:Int)>0)=true:=decide_eq_true (by omega)
  have f1:((e:Int) == (s.length:Int))=true:=by rw [beq_iff_eq]; omega
  have hbb:(decide (0<e) && decide (e=s.length))=true:=by rw [decide_eq_true e0,decide_eq_true e1]; rfl
  simp(disch:=omega)only[↓RU,RV,RH,↓reduceIte,qE,reduceCtorEq,if_pos,w64,↓RS,RG,qA,qM,qL,ty4,zaa,zed,zab,zee,za0,Int.toNat_zero,Nat.zero_mul,qZ,qM,Nat.zero_add,Nat.mul_one,List.getElem?_cons_zero,List.getElem?_cons_succ,ze,f1]
  apply hK;clear hK K
  refine W.ret ?_
  refine Br rfl ?_
  rw [show ofV s = .tup [.agg [eB cu,.sl us un],.bool true] by unfold ofV ofU; rw [if_neg qn,zse q1 q2,hue]; simp only[hbb]; rw [hus]]
  rfl
 skip
 have ze:decide ((e:Int)>0)=true:=decide_eq_true (by omega)
 have f1:((e:Int) == (s.length:Int))=false:=by rw [beq_eq_false_iff_ne]; omega
 have hbb:(decide (0<e) && decide (e=s.length))=false:=by rw [decide_eq_false e1,Bool.and_false]
 simp(disch:=omega)only[↓RU,RV,RH,↓reduceIte,qE,reduceCtorEq,if_pos,w64,↓RS,RG,qA,qM,qL,ty4,zaa,zed,zab,zee,za0,Int.toNat_zero,Nat.zero_mul,qZ,qM,Nat.zero_add,Nat.mul_one,List.getElem?_cons_zero,List.getElem?_cons_succ,ze,f1]
 apply hK;clear hK K
 refine W.ret ?_
 refine Br rfl ?_
 rw [show ofV s = .tup [.agg [eB cu,.sl us un],.bool false] by unfold ofV ofU; rw [if_neg qn,zse q1 q2,hue]; simp only[hbb]; rw [hus]]
 rfl
theorem z3d  : PC Tryz.prog 29 [.agg (eS .o)] (ppR (zbp .o)) true:=by
 simp only[eS]
 have d1:((111:Int) == 111)=true:=rfl
 refine PC.of ⟨Tryz.func29,by kernel_rfl,rfl,by kernel_rfl⟩ zav mixed (by show 1≤Tryz.f29.ntmps; decide) ?_
 refine W.r fun K hK=>?_
 simp(disch:=omega)only[↓RU,RV,RH,↓reduceIte,qE,reduceCtorEq,if_pos,↓RS,RG,qA,qM,qL,ty4,zed,zee,za0]
 apply hK;clear hK K
 refine W.seq ?_
 refine W.r fun K hK=>?_
 simp(disch:=omega)only[↓RU,RV,RH,↓reduceIte,qE,reduceCtorEq,if_pos,w64,↓RS,RG,qA,qM,qL,ty4,zed,zee,za0,Int.toNat_zero,Nat.zero_mul,qZ,qM,Nat.zero_add,Nat.mul_one,List.getElem?_cons_zero,List.getElem?_cons_succ,d1]
 apply hK;clear hK K
 refine W.cond rfl (fun h0=>?_) (fun h0=>?_)
 ·try simp only[RL]at h0
  refine W.r fun K hK=>?_
  simp(disch:=omega)only[↓RU,RV,RH,↓reduceIte,qE,reduceCtorEq,if_pos,↓RS,RG,qA,qM,qL,ty5,zab]
  apply hK;clear hK K
  refine W.ret ?_
  refine XThen.ret ?_
  refine Br rfl ?_
  rfl
 try simp only[RL]at h0
 exact absurd h0 (by simp)
theorem z0j {c:UInt8} {t:Tm} (hc:c=62∨c=94) (hok:t.ok) (h7:t.n≤7) (ih:PC Tryz.prog 29 [.agg (eS t)] (ppR (zbp t)) false):PC Tryz.prog 29 [.agg (eS (.un c t))] (ppR (zbp (.un c t))) false:=by
 obtain ⟨cu,us,un,hus⟩:=zi9 t
 simp only[eS,hus]
 rw [hus]at ih
 have d0:((c.toNat:Int) == 111)=false:=by rcases hc with rfl | rfl <;> rfl
 refine PC.of ⟨Tryz.func29,by kernel_rfl,rfl,by kernel_rfl⟩ zav mixed (by show 1≤Tryz.f29.ntmps; decide) ?_
 refine W.r fun K hK=>?_
 simp(disch:=omega)only[↓RU,RV,RH,↓reduceIte,qE,reduceCtorEq,if_pos,↓RS,RG,qA,qM,qL,ty4,zed,zee,za0]
 apply hK;clear hK K
 refine W.seq ?_
 refine W.r fun K hK=>?_
 simp(disch:=omega)only[↓RU,RV,RH,↓reduceIte,qE,reduceCtorEq,if_pos,w64,↓RS,RG,qA,qM,qL,ty4,zed,zee,za0,Int.toNat_zero,Nat.zero_mul,qZ,qM,Nat.zero_add,Nat.mul_one,List.getElem?_cons_zero,List.getElem?_cons_succ,d0]
 apply hK;clear hK K
 refine W.cond rfl (fun h0=>?_) (fun h0=>?_)
 ·try simp only[RL]at h0
  exact absurd h0 (by simp)
 try simp only[RL]at h0
 refine W.skip ?_
 refine xn ?_
 refine W.r fun K hK=>?_
 simp(disch:=omega)only[↓RU,RV,RH,↓reduceIte,qE,reduceCtorEq,if_pos,qN,↓RS,RG,qA,qM,qL,ty4,zed,zee,za0,Int.toNat_zero,Nat.zero_mul,qZ,qM,Nat.zero_add,Nat.mul_one,List.getElem?_cons_zero,List.getElem?_cons_succ,ppR]
 refine zae.pc (ih) rfl (.inr rfl) ?_
 simp(disch:=omega)only[↓RU,RV,RH,↓reduceIte,qE,reduceCtorEq,if_pos,qN,↓RS,RG,qA,qM,qL,ty4,zed,zee,za0,Int.toNat_zero,Nat.zero_mul,qZ,qM,Nat.zero_add,Nat.mul_one,List.getElem?_cons_zero,List.getElem?_cons_succ,ppR]
 apply hK;clear hK K
 refine W.seq ?_
 refine W.r fun K hK=>?_
 rcases hp:zbp t with _ | p
 ·skip
  simp only[znr]
  simp(disch:=omega)only[↓RU,RV,RH,↓reduceIte,qE,reduceCtorEq,if_pos,↓RS,RG,qA,qM,qL,Option.isSome_none,Bool.not_false]
  apply hK;clear hK K
  refine W.cond rfl (fun h1=>?_) (fun h1=>?_)
  ·try simp only[RL]at h1
   refine W.r fun K hK=>?_
   simp(disch:=omega)only[↓RU,RV,RH,↓reduceIte,qE,reduceCtorEq,if_pos,qN,↓RS,RG,qA,qM,qL]
   refine zae.pc (zft) rfl (.inl rfl) ?_
   simp(disch:=omega)only[↓RU,RV,RH,↓reduceIte,qE,reduceCtorEq,if_pos,qN,↓RS,RG,qA,qM,qL]
   apply hK;clear hK K
   refine W.ret ?_
   refine XThen.ret ?_
   refine Br rfl ?_
   rw [show zbp (.un c t)=none by rw [zbp,hp]; rfl]
   rfl
  try simp only[RL]at h1
  exact absurd h1 (by simp)
 skip
 simp only[zk2]
 have hpl:=(ze3 hok (by omega) hp).1
 obtain ⟨b1,b2,b3,b4,b5⟩:=zhc hpl
 simp(disch:=omega)only[↓RU,RV,RH,↓reduceIte,qE,reduceCtorEq,if_pos,↓RS,RG,qA,qM,qL,Option.isSome_some,Bool.not_true]
 apply hK;clear hK K
 refine W.cond rfl (fun h1=>?_) (fun h1=>?_)
 ·try simp only[RL]at h1
  exact absurd h1 (by simp)
 try simp only[RL]at h1
 refine W.skip ?_
 refine xn ?_
 refine W.seq ?_
 refine W.r fun K hK=>?_
 rcases hc with hcc | hcc
 ·skip
  have d1:((c.toNat:Int) == 62)=true:=by rw [hcc]; rfl
  simp(disch:=omega)only[↓RU,RV,RH,↓reduceIte,qE,reduceCtorEq,if_pos,w64,↓RS,RG,qA,qM,qL,ty4,zed,zee,za0,Int.toNat_zero,Nat.zero_mul,qZ,qM,Nat.zero_add,Nat.mul_one,List.getElem?_cons_zero,List.getElem?_cons_succ,d1]
  apply hK;clear hK K
  refine W.cond rfl (fun h2=>?_) (fun h2=>?_)
  ·try simp only[RL]at h2
   refine W.r fun K hK=>?_
   simp(disch:=omega)only[↓RU,RV,RH,↓reduceIte,qE,reduceCtorEq,if_pos,qN,↓RS,RG,qA,qM,qL]
   refine zae.pc (z3g b1 b2 b3 b4) rfl (.inr rfl) ?_
   simp(disch:=omega)only[↓RU,RV,RH,↓reduceIte,qE,reduceCtorEq,if_pos,qN,↓RS,RG,qA,qM,qL]
   apply hK;clear hK K
   refine W.ret ?_
   refine XThen.ret ?_
   refine Br rfl ?_
   rw [show zbp (.un c t)=some (names (zp6 p)) by rw [zbp,hp,qO,if_pos hcc,z8d hpl]]
   rfl
  try simp only[RL]at h2
  exact absurd h2 (by simp)
 skip
 have d1:((c.toNat:Int) == 62)=false:=by rw [hcc]; rfl
 have d2:((c.toNat:Int) == 94)=true:=by rw [hcc]; rfl
 simp(disch:=omega)only[↓RU,RV,RH,↓reduceIte,qE,reduceCtorEq,if_pos,w64,↓RS,RG,qA,qM,qL,ty4,zed,zee,za0,Int.toNat_zero,Nat.zero_mul,qZ,qM,Nat.zero_add,Nat.mul_one,List.getElem?_cons_zero,List.getElem?_cons_succ,d1]
 apply hK;clear hK K
 refine W.cond rfl (fun h2=>?_) (fun h2=>?_)
 ·try simp only[RL]at h2
  exact absurd h2 (by simp)
 try simp only[RL]at h2
 refine W.skip ?_
 refine xn ?_
 refine W.seq ?_
 refine W.r fun K hK=>?_
 simp(disch:=omega)only[↓RU,RV,RH,↓reduceIte,qE,reduceCtorEq,if_pos,w64,↓RS,RG,qA,qM,qL,ty4,zed,zee,za0,Int.toNat_zero,Nat.zero_mul,qZ,qM,Nat.zero_add,Nat.mul_one,List.getElem?_cons_zero,List.getElem?_cons_succ,d2]
 apply hK;clear hK K
 refine W.cond rfl (fun h3=>?_) (fun h3=>?_)
 ·try simp only[RL]at h3
  refine W.r fun K hK=>?_
  simp(disch:=omega)only[↓RU,RV,RH,↓reduceIte,qE,reduceCtorEq,if_pos,qN,↓RS,RG,qA,qM,qL]
  refine zae.pc (z3e b1 b2 b3 b4) rfl (.inr rfl) ?_
  simp(disch:=omega)only[↓RU,RV,RH,↓reduceIte,qE,reduceCtorEq,if_pos,qN,↓RS,RG,qA,qM,qL]
  apply hK;clear hK K
  refine W.ret ?_
  refine XThen.ret ?_
  refine Br rfl ?_
  rw [show zbp (.un c t)=some (names (zhp p)) by rw [zbp,hp,qO,if_neg (by rw [hcc]; decide),z6w hpl]]
  rfl
 try simp only[RL]at h3
 exact absurd h3 (by simp)
theorem zwv {c:UInt8} {a b:Tm} (hc:c=124∨c=45) (k1:a.ok) (k2:b.ok) (h7:a.n+b.n≤7) (i1:PC Tryz.prog 29 [.agg (eS a)] (ppR (zbp a)) false) (i2:PC Tryz.prog 29 [.agg (eS b)] (ppR (zbp b)) false):PC Tryz.prog 29 [.agg (eS (.bin c a b))] (ppR (zbp (.bin c a b))) false:=by
 obtain ⟨cu,us,un,hus⟩:=zi9 a
 obtain ⟨cv,vs,vn,hvs⟩:=zi9 b
 simp only[eS,hus,hvs,List.cons_append,List.nil_append]
 rw [hus]at i1
 rw [hvs]at i2
 have d0:((c.toNat:Int) == 111)=false:=by rcases hc with rfl | rfl <;> rfl
 have d1:((c.toNat:Int) == 62)=false:=by rcases hc with rfl | rfl <;> rfl
 have d2:((c.toNat:Int) == 94)=false:=by rcases hc with rfl | rfl <;> rfl
 refine PC.of ⟨Tryz.func29,by kernel_rfl,rfl,by kernel_rfl⟩ zav mixed (by show 1≤Tryz.f29.ntmps; decide) ?_
 refine W.r fun K hK=>?_
 simp(disch:=omega)only[↓RU,RV,RH,↓reduceIte,qE,reduceCtorEq,if_pos,↓RS,RG,qA,qM,qL,ty4,zed,zee,za0]
 apply hK;clear hK K
 refine W.seq ?_
 refine W.r fun K hK=>?_
 simp(disch:=omega)only[↓RU,RV,RH,↓reduceIte,qE,reduceCtorEq,if_pos,w64,↓RS,RG,qA,qM,qL,ty4,zed,zee,za0,Int.toNat_zero,Nat.zero_mul,qZ,qM,Nat.zero_add,Nat.mul_one,List.getElem?_cons_zero,List.getElem?_cons_succ,d0]
 apply hK;clear hK K
 refine W.cond rfl (fun h0=>?_) (fun h0=>?_)
 ·try simp only[RL]at h0
  exact absurd h0 (by simp)
 try simp only[RL]at h0
 refine W.skip ?_
 refine xn ?_
 refine W.r fun K hK=>?_
 simp(disch:=omega)only[↓RU,RV,RH,↓reduceIte,qE,reduceCtorEq,if_pos,qN,↓RS,RG,qA,qM,qL,ty4,zed,zee,za0,Int.toNat_zero,Nat.zero_mul,qZ,qM,Nat.zero_add,Nat.mul_one,List.getElem?_cons_zero,List.getElem?_cons_succ,ppR]
 refine zae.pc (i1) rfl (.inr rfl) ?_
 simp(disch:=omega)only[↓RU,RV,RH,↓reduceIte,qE,reduceCtorEq,if_pos,qN,↓RS,RG,qA,qM,qL,ty4,zed,zee,za0,Int.toNat_zero,Nat.zero_mul,qZ,qM,Nat.zero_add,Nat.mul_one,List.getElem?_cons_zero,List.getElem?_cons_succ,ppR]
 apply hK;clear hK K
 refine W.seq ?_
 refine W.r fun K hK=>?_
 rcases hp:zbp a with _ | p
 ·skip
  simp only[znr]
  simp(disch:=omega)only[↓RU,RV,RH,↓reduceIte,qE,reduceCtorEq,if_pos,↓RS,RG,qA,qM,qL,Option.isSome_none,Bool.not_false]
  apply hK;clear hK K
  refine W.cond rfl (fun h1=>?_) (fun h1=>?_)
  ·try simp only[RL]at h1
   refine W.r fun K hK=>?_
   simp(disch:=omega)only[↓RU,RV,RH,↓reduceIte,qE,reduceCtorEq,if_pos,qN,↓RS,RG,qA,qM,qL]
   refine zae.pc (zft) rfl (.inl rfl) ?_
   simp(disch:=omega)only[↓RU,RV,RH,↓reduceIte,qE,reduceCtorEq,if_pos,qN,↓RS,RG,qA,qM,qL]
   apply hK;clear hK K
   refine W.ret ?_
   refine XThen.ret ?_
   refine Br rfl ?_
   rw [show zbp (.bin c a b)=none by rw [zbp,hp]; rfl]
   rfl
  try simp only[RL]at h1
  exact absurd h1 (by simp)
 skip
 simp only[zk2]
 have hpn:=ze3 k1 (by omega) hp
 have hpl:=hpn.1
 obtain ⟨b1,b2,b3,b4,b5⟩:=zhc hpl
 simp(disch:=omega)only[↓RU,RV,RH,↓reduceIte,qE,reduceCtorEq,if_pos,↓RS,RG,qA,qM,qL,Option.isSome_some,Bool.not_true]
 apply hK;clear hK K
 refine W.cond rfl (fun h1=>?_) (fun h1=>?_)
 ·try simp only[RL]at h1
  exact absurd h1 (by simp)
 try simp only[RL]at h1
 refine W.skip ?_
 refine xn ?_
 refine W.seq ?_
 refine W.r fun K hK=>?_
 simp(disch:=omega)only[↓RU,RV,RH,↓reduceIte,qE,reduceCtorEq,if_pos,w64,↓RS,RG,qA,qM,qL,ty4,zed,zee,za0,Int.toNat_zero,Nat.zero_mul,qZ,qM,Nat.zero_add,Nat.mul_one,List.getElem?_cons_zero,List.getElem?_cons_succ,d1]
 apply hK;clear hK K
 refine W.cond rfl (fun h2=>?_) (fun h2=>?_)
 ·try simp only[RL]at h2
  exact absurd h2 (by simp)
 try simp only[RL]at h2
 refine W.skip ?_
 refine xn ?_
 refine W.seq ?_
 refine W.r fun K hK=>?_
 simp(disch:=omega)only[↓RU,RV,RH,↓reduceIte,qE,reduceCtorEq,if_pos,w64,↓RS,RG,qA,qM,qL,ty4,zed,zee,za0,Int.toNat_zero,Nat.zero_mul,qZ,qM,Nat.zero_add,Nat.mul_one,List.getElem?_cons_zero,List.getElem?_cons_succ,d2]
 apply hK;clear hK K
 refine W.cond rfl (fun h3=>?_) (fun h3=>?_)
 ·try simp only[RL]at h3
  exact absurd h3 (by simp)
 try simp only[RL]at h3
 refine W.skip ?_
 refine xn ?_
 refine W.r fun K hK=>?_
 simp(disch:=omega)only[↓RU,RV,RH,↓reduceIte,qE,reduceCtorEq,if_pos,qN,↓RS,RG,qA,qM,qL,ty4,zed,zee,za0,Int.toNat_zero,Nat.zero_mul,qZ,qM,Nat.zero_add,Nat.mul_one,List.getElem?_cons_zero,List.getElem?_cons_succ,ppR]
 refine zae.pc (i2) rfl (.inr rfl) ?_
 simp(disch:=omega)only[↓RU,RV,RH,↓reduceIte,qE,reduceCtorEq,if_pos,qN,↓RS,RG,qA,qM,qL,ty4,zed,zee,za0,Int.toNat_zero,Nat.zero_mul,qZ,qM,Nat.zero_add,Nat.mul_one,List.getElem?_cons_zero,List.getElem?_cons_succ,ppR]
 apply hK;clear hK K
 refine W.seq ?_
 refine W.r fun K hK=>?_
 rcases hq:zbp b with _ | q
 ·skip
  simp only[znr]
  simp(disch:=omega)only[↓RU,RV,RH,↓reduceIte,qE,reduceCtorEq,if_pos,↓RS,RG,qA,qM,qL,Option.isSome_none,Bool.not_false]
  apply hK;clear hK K
  refine W.cond rfl (fun h4=>?_) (fun h4=>?_)
  ·try simp only[RL]at h4
   refine W.r fun K hK=>?_
   simp(disch:=omega)only[↓RU,RV,RH,↓reduceIte,qE,reduceCtorEq,if_pos,qN,↓RS,RG,qA,qM,qL]
   refine zae.pc (zft) rfl (.inl rfl) ?_
   simp(disch:=omega)only[↓RU,RV,RH,↓reduceIte,qE,reduceCtorEq,if_pos,qN,↓RS,RG,qA,qM,qL]
   apply hK;clear hK K
   refine W.ret ?_
   refine XThen.ret ?_
   refine Br rfl ?_
   rw [show zbp (.bin c a b)=none by rw [zbp,hp,Option.bind_some,hq]; rfl]
   rfl
  try simp only[RL]at h4
  exact absurd h4 (by simp)
 skip
 simp only[zk2]
 have hqn:=ze3 k2 (by omega) hq
 have hql:=hqn.1
 obtain ⟨g1,g2,g3,g4,g5⟩:=zhc hql
 have hj:=z5e hc hpl hql (by omega)
 obtain ⟨a1,a2,a3,a4,-⟩:=zai hpl
 obtain ⟨e1,e2,e3,e4,-⟩:=zai hql
 simp(disch:=omega)only[↓RU,RV,RH,↓reduceIte,qE,reduceCtorEq,if_pos,↓RS,RG,qA,qM,qL,Option.isSome_some,Bool.not_true]
 apply hK;clear hK K
 refine W.cond rfl (fun h4=>?_) (fun h4=>?_)
 ·try simp only[RL]at h4
  exact absurd h4 (by simp)
 try simp only[RL]at h4
 refine W.skip ?_
 refine xn ?_
 refine W.seq ?_
 refine W.r fun K hK=>?_
 rcases hc with hcc | hcc
 ·skip
  have d3:((c.toNat:Int) == 124)=true:=by rw [hcc]; rfl
  rw [if_pos hcc]at hj
  simp(disch:=omega)only[↓RU,RV,RH,↓reduceIte,qE,reduceCtorEq,if_pos,w64,↓RS,RG,qA,qM,qL,ty4,zed,zee,za0,Int.toNat_zero,Nat.zero_mul,qZ,qM,Nat.zero_add,Nat.mul_one,List.getElem?_cons_zero,List.getElem?_cons_succ,d3]
  apply hK;clear hK K
  refine W.cond rfl (fun h5=>?_) (fun h5=>?_)
  ·try simp only[RL]at h5
   refine W.r fun K hK=>?_
   have sb:=zh5 (zg2 (zb6 hpl) (zb6 hql) b1 g1)
   have hsn:Sm (names (zi2 p q)):=z1d (by rw [sb.h]; omega) sb.w (by omega)
   simp(disch:=omega)only[↓RU,RV,RH,↓reduceIte,qE,reduceCtorEq,if_pos,qN,↓RS,RG,qA,qM,qL]
   refine zae.pc (zmt b1 b2 b3 b4 g1 g2 g3 g4) rfl (.inr rfl) ?_
   simp(disch:=omega)only[↓RU,RV,RH,↓reduceIte,qE,reduceCtorEq,if_pos,qN,↓RS,RG,qA,qM,qL]
   refine zae.pc (zub hsn) rfl (.inr rfl) ?_
   simp(disch:=omega)only[↓RU,RV,RH,↓reduceIte,qE,reduceCtorEq,if_pos,qN,↓RS,RG,qA,qM,qL]
   apply hK;clear hK K
   refine W.ret ?_
   refine XThen.ret ?_
   refine Br rfl ?_
   rw [show zbp (.bin c a b)=zjq c p q by rw [zbp,hp,Option.bind_some,hq,Option.bind_some]]
   rw [hj]
   cases zjq c p q <;> rfl
  try simp only[RL]at h5
  exact absurd h5 (by simp)
 skip
 have d3:((c.toNat:Int) == 124)=false:=by rw [hcc]; rfl
 rw [if_neg (by rw [hcc]; decide)]at hj
 simp(disch:=omega)only[↓RU,RV,RH,↓reduceIte,qE,reduceCtorEq,if_pos,w64,↓RS,RG,qA,qM,qL,ty4,zed,zee,za0,Int.toNat_zero,Nat.zero_mul,qZ,qM,Nat.zero_add,Nat.mul_one,List.getElem?_cons_zero,List.getElem?_cons_succ,d3]
 apply hK;clear hK K
 refine W.cond rfl (fun h5=>?_) (fun h5=>?_)
 ·try simp only[RL]at h5
  exact absurd h5 (by simp)
 try simp only[RL]at h5
 refine W.skip ?_
 refine xn ?_
 refine W.r fun K hK=>?_
 have tp:=zec (zb6 hpl) b1
 have tq:=zec (zb6 hql) g1
 have sb:=zh5 (zg2 tp tq a3 e3)
 have sbt:=zec sb (by omega)
 have hsn:Sm (names (zi2 (zb2 p) (zb2 q))):=z1d (by rw [sb.h]; omega) sb.w (by omega)
 have hst:Sm (zb2 (names (zi2 (zb2 p) (zb2 q)))):=z1d (by rw [sbt.h]; omega) sbt.w (by omega)
 have tph:=tp.h
 have tqh:=tq.h
 simp(disch:=omega)only[↓RU,RV,RH,↓reduceIte,qE,reduceCtorEq,if_pos,qN,↓RS,RG,qA,qM,qL]
 refine zae.pc (zjs b5 (by omega) b2 b3 b4) rfl (.inl rfl) ?_
 simp(disch:=omega)only[↓RU,RV,RH,↓reduceIte,qE,reduceCtorEq,if_pos,qN,↓RS,RG,qA,qM,qL]
 refine zae.pc (zjs g5 (by omega) g2 g3 g4) rfl (.inl rfl) ?_
 simp(disch:=omega)only[↓RU,RV,RH,↓reduceIte,qE,reduceCtorEq,if_pos,qN,↓RS,RG,qA,qM,qL]
 refine zae.pc (zmt (p:=zb2 p) (q:=zb2 q) (by omega) (by omega) tp.w b2 (by omega) (by omega) tq.w g2) rfl (.inr rfl) ?_
 simp(disch:=omega)only[↓RU,RV,RH,↓reduceIte,qE,reduceCtorEq,if_pos,qN,↓RS,RG,qA,qM,qL]
 refine zae.pc (zjs hsn (by rw [sb.h]; omega) (by rw [sb.h]; omega) sb.w (by omega)) rfl (.inl rfl) ?_
 simp(disch:=omega)only[↓RU,RV,RH,↓reduceIte,qE,reduceCtorEq,if_pos,qN,↓RS,RG,qA,qM,qL]
 refine zae.pc (zub hst) rfl (.inr rfl) ?_
 simp(disch:=omega)only[↓RU,RV,RH,↓reduceIte,qE,reduceCtorEq,if_pos,qN,↓RS,RG,qA,qM,qL]
 apply hK;clear hK K
 refine W.ret ?_
 refine Br rfl ?_
 rw [show zbp (.bin c a b)=zjq c p q by rw [zbp,hp,Option.bind_some,hq,Option.bind_some]]
 rw [hj]
 cases zjq c p q <;> rfl
theorem z0i:∀ t:Tm,t.ok→t.n≤7→PC Tryz.prog 29 [.agg (eS t)] (ppR (zbp t)) false:=by
 intro t
 induction t with
 | o=>intro _ _; exact z3d.old
 | un c t ih=>intro h h7; exact z0j h.1 h.2 h7 (ih h.2 h7)
 | bin m a b i1 i2 =>
  intro h h7
  have pa:=a.pos
  have pb:=b.pos
  simp only[Tm.n]at h7
  exact zwv h.1 h.2.1 h.2.2 h7 (i1 h.2.1 (by omega)) (i2 h.2.2 (by omega))
theorem zvo (s:Txt) (hs:s.length≤1048576):PC Tryz.prog 8 [.str s] (ppR (tpV s)) false:=by
 obtain ⟨cu,us,un,hus⟩:=zi9 (ofU s)
 have hO:=z68 s hs
 unfold ofV at hO
 rw [hus]at hO
 refine PC.of ⟨Tryz.func8,by kernel_rfl,rfl,by kernel_rfl⟩ zav mixed (by show 1≤Tryz.f8.ntmps; decide) ?_
 refine W.r fun K hK=>?_
 simp(disch:=omega)only[↓RU,RV,RH,↓reduceIte,qE,reduceCtorEq,if_pos,↓RS,RG,qA,qM,qL]
 apply hK;clear hK K
 refine W.r fun K hK=>?_
 simp(disch:=omega)only[↓RU,RV,RH,↓reduceIte,qE,reduceCtorEq,if_pos,qN,↓RS,RG,qA,qM,qL,ty4,zed,zee,za0,Int.toNat_zero,Nat.zero_mul,qZ,qM,Nat.zero_add,Nat.mul_one,List.getElem?_cons_zero,List.getElem?_cons_succ]
 refine zae.pc (hO) rfl (.inr rfl) ?_
 simp(disch:=omega)only[↓RU,RV,RH,↓reduceIte,qE,reduceCtorEq,if_pos,qN,↓RS,RG,qA,qM,qL,ty4,zed,zee,za0,Int.toNat_zero,Nat.zero_mul,qZ,qM,Nat.zero_add,Nat.mul_one,List.getElem?_cons_zero,List.getElem?_cons_succ]
 apply hK;clear hK K
 refine W.seq ?_
 refine W.r fun K hK=>?_
 rcases ho:ofT s with _ | t
 ·skip
  simp(disch:=omega)only[↓RU,RV,RH,↓reduceIte,qE,reduceCtorEq,if_pos,↓RS,RG,qA,qM,qL,Option.isSome_none,Bool.not_false]
  apply hK;clear hK K
  refine W.cond rfl (fun h0=>?_) (fun h0=>?_)
  ·try simp only[RL]at h0
   refine W.r fun K hK=>?_
   simp(disch:=omega)only[↓RU,RV,RH,↓reduceIte,qE,reduceCtorEq,if_pos,qN,↓RS,RG,qA,qM,qL]
   refine zae.pc (zft) rfl (.inl rfl) ?_
   simp(disch:=omega)only[↓RU,RV,RH,↓reduceIte,qE,reduceCtorEq,if_pos,qN,↓RS,RG,qA,qM,qL]
   apply hK;clear hK K
   refine W.ret ?_
   refine XThen.ret ?_
   refine Br rfl ?_
   rw [show tpV s=none by unfold tpV; rw [ho]; rfl]
   rfl
  try simp only[RL]at h0
  exact absurd h0 (by simp)
 skip
 have hok:=zum ho
 have hP:=z0i t hok.1 hok.2.1
 rw [← z9a ho,hus,z9a ho]at hP
 simp(disch:=omega)only[↓RU,RV,RH,↓reduceIte,qE,reduceCtorEq,if_pos,↓RS,RG,qA,qM,qL,Option.isSome_some,Bool.not_true]
 apply hK;clear hK K
 refine W.cond rfl (fun h0=>?_) (fun h0=>?_)
 ·try simp only[RL]at h0
  exact absurd h0 (by simp)
 try simp only[RL]at h0
 refine W.skip ?_
 refine xn ?_
 refine W.r fun K hK=>?_
 simp(disch:=omega)only[↓RU,RV,RH,↓reduceIte,qE,reduceCtorEq,if_pos,qN,↓RS,RG,qA,qM,qL,ty4,zed,zee,za0,Int.toNat_zero,Nat.zero_mul,qZ,qM,Nat.zero_add,Nat.mul_one,List.getElem?_cons_zero,List.getElem?_cons_succ,ppR]
 refine zae.pc (hP) rfl (.inr rfl) ?_
 simp(disch:=omega)only[↓RU,RV,RH,↓reduceIte,qE,reduceCtorEq,if_pos,qN,↓RS,RG,qA,qM,qL,ty4,zed,zee,za0,Int.toNat_zero,Nat.zero_mul,qZ,qM,Nat.zero_add,Nat.mul_one,List.getElem?_cons_zero,List.getElem?_cons_succ,ppR]
 apply hK;clear hK K
 refine W.ret ?_
 refine Br rfl ?_
 rw [show tpV s=zbp t by unfold tpV; rw [ho]; rfl]
 cases zbp t <;> rfl
theorem zyp {k:Nat}:(1:Int)+(k:Int)=((1+k:Nat):Int):=by omega
theorem mem2 {a b s:Txt} (h:s∈[a,b]) {n:Nat} (ha:a.length≤n) (hb:b.length≤n):s.length≤n:=by
 simp only[List.mem_cons,List.not_mem_nil,or_false]at h
 rcases h with rfl | rfl <;> assumption
theorem zr7 {l:List Txt} {n:Nat} (hl:l.all (fun a=>decide (a.length≤n))=true) {s:Txt} (h:s∈l):s.length≤n:=by
 rw [List.all_eq_true]at hl
 exact of_decide_eq_true (hl s h)
theorem z97 {code:Txt} {n:Nat}:Bel n (eBy code) := .sl _ _
theorem zww {code:Txt} {vr m:Nat} (hc:code.length≤1048576) (h1:1≤m) (h6:m≤10) (ih:∀ m2:Nat,m2<m→1≤m2→∀ q:Nat,q+6*m2≤900000→∀ t,Ev Tryz.prog 98 [.ref 0 vr 0,.int .i64 m2] ⟨[.arr vr 131 2 [eBy code,.int .i64 (q:Int)]],t⟩ fun v S=>∃ (s:Txt) (q2 t2:Nat),v = .str s∧s.length+5≤8*m2∧q2+4≤q+6*m2∧S=⟨[.arr vr 131 2 [eBy code,.int .i64 (q2:Int)]],t2⟩) (q:Nat) (hq:q+6*m≤900000) (t:Nat):Ev Tryz.prog 98 [.ref 0 vr 0,.int .i64 m] ⟨[.arr vr 131 2 [eBy code,.int .i64 (q:Int)]],t⟩ fun v S=>∃ (s:Txt) (q2 t2:Nat),v = .str s∧s.length+5≤8*m∧q2+4≤q+6*m∧S=⟨[.arr vr 131 2 [eBy code,.int .i64 (q2:Int)]],t2⟩:=by
 refine Ev.of ⟨Tryz.func98,by kernel_rfl,rfl,by kernel_rfl⟩ zav mixed (by show 2≤Tryz.f98.ntmps; decide) ?_
 refine W.r fun K hK=>?_
 simp(disch:=omega)only[↓RU,RV,RH,↓reduceIte,qE,reduceCtorEq,if_pos,↓RS,RG,qA,qM,qL]
 apply hK;clear hK K
 refine W.r fun K hK=>?_
 simp(disch:=omega)only[↓RU,RV,RH,↓reduceIte,qE,reduceCtorEq,if_pos,↓RS,RG,qA,qM,qL]
 apply hK;clear hK K
 refine W.join [0,5] (fun vs S=>∃ (s:Txt) (q2 t2:Nat),s.length+7≤8*m∧q2+6≤q+6*m∧vs=[.ref 0 vr 0,.str s]∧S=⟨[.arr vr 131 2 [eBy code,.int .i64 (q2:Int)]],t2⟩) ?_ ?_
 ·
  refine W.r fun K hK=>?_
  simp(disch:=omega)only[↓RU,RV,RH,↓reduceIte,qE,reduceCtorEq,if_pos,w64,↓RS,RG,qA,qM,qL,zaa]
  apply hK;clear hK K
  refine W.cond rfl (fun h0=>?_) (fun h0=>?_)
  ·try simp only[RL]at h0
   refine W.r fun K hK=>?_
   simp(disch:=omega)only[↓RU,RV,RH,↓reduceIte,qE,reduceCtorEq,if_pos,w64,qN,↓RS,RG,qA,qM,qL,zaa]
   refine zae.ev (zo7 (q:=q) (R:=[]) hc (by omega) ((m:Int) - 1) (by omega) (by omega)) ?_
   rintro _ _ ⟨k,rfl,-,hk,rfl⟩
   have hk2:=hk (by omega)
   simp(disch:=omega)only[↓RU,RV,RH,↓reduceIte,qE,reduceCtorEq,if_pos,w64,qN,↓RS,RG,qA,qM,qL,zaa,zyp]
   apply hK;clear hK K
   refine W.k fun K hK=>?_
   simp(disch:=omega)only[↓RU,RV,RH,↓reduceIte,qE,reduceCtorEq,if_pos,qN,w64,↓RS,RG,qA,qM,qL,ty5,zaa,zab,zev]
   refine zae.ev (ih (1+k) (by omega) (by omega) (q+1) (by omega) _) ?_
   rintro _ _ ⟨a,qa,ta,rfl,ha,hqa,rfl⟩
   have l1:(40::a:Txt).length=a.length+1:=by simp
   have l0:([40]:Txt).length=1:=rfl
   simp(disch:=omega)only[↓RU,RV,RH,↓reduceIte,qE,reduceCtorEq,if_pos,qN,w64,↓RS,RG,qA,qM,qL,ty5,zaa,zab,zev]
   refine zae.ev (z7f (q:=qa) (l:=[[124],[45]]) (R:=[]) hc (by omega) (by simp) (by simp)) ?_
   rintro _ _ ⟨sg,hsg,rfl,rfl⟩
   have hsl:sg.length≤1:=zr7 (by decide) hsg
   have l2:(40::a++sg:Txt).length=a.length+1+sg.length:=by simp; omega
   have l2b:(40::(a++sg):Txt).length=a.length+1+sg.length:=by simp; omega
   simp(disch:=omega)only[↓RU,RV,RH,↓reduceIte,qE,reduceCtorEq,if_pos,qN,w64,↓RS,RG,qA,qM,qL,ty5,zaa,zab,zev,show ((m:Int) - ((1+k:Nat):Int))=((m - (1+k):Nat):Int) from by omega]
   refine zae.ev ((ih (m - (1+k)) (by omega) (by omega) (qa+1) (by omega) (ta+1)).frame (fun v S hJ=>by obtain ⟨s,q2,t2,rfl,-,-,rfl⟩:=hJ; exact ⟨rfl,.str _,by intro ob hob; simp only[List.mem_singleton]at hob; subst hob; intro c hc; simp only[List.mem_cons,List.not_mem_nil,or_false]at hc; rcases hc with rfl | rfl; exact z97; exact .int _ _⟩) [.arr ta 9 1 ([([124]:Txt),[45]].map .str)]) ?_
   rintro _ _ ⟨S1,⟨b,qb,tb,rfl,hb,hqb,rfl⟩,rfl⟩
   have l3:(40::a++sg++b:Txt).length=a.length+1+sg.length+b.length:=by simp; omega
   have l3b:(40::(a++sg++b):Txt).length=a.length+1+sg.length+b.length:=by simp; omega
   have l3c:(40::(a++sg)++b:Txt).length=a.length+1+sg.length+b.length:=by simp; omega
   have l41:([41]:Txt).length=1:=rfl
   simp(disch:=omega)only[↓RU,RV,RH,↓reduceIte,qE,reduceCtorEq,if_pos,qN,w64,↓RS,RG,qA,qM,qL,ty5,zaa,zab,zev]
   apply hK;clear hK K
   refine xn ?_
   refine ⟨1,40::a++sg++b++[41],qb,tb,?_,?_,?_,rfl⟩
   ·simp only[List.length_append,List.length_cons,List.length_nil]; omega
   ·omega
   simp [Env.put,Env.of,zaj]
  try simp only[RL]at h0
  refine W.skip ?_
  refine xn ?_
  refine ⟨1,[111],q,t,by simp; omega,by omega,?_,rfl⟩
  simp [Env.put,Env.of,zaj]
 rintro vs S - ⟨s,q2,t2,hs,hq2,rfl,rfl⟩
 refine W.seq ?_
 refine W.r fun K hK=>?_
 simp(disch:=omega)only[↓RU,RV,RH,↓reduceIte,qE,reduceCtorEq,if_pos,qN,w64,↓RS,RG,qA,qM,qL,zaa]
 refine zae.ev (zo7 (q:=q2) (R:=[]) hc (by omega) 6 (by omega) (by omega)) ?_
 rintro _ _ ⟨k,rfl,-,-,rfl⟩
 simp(disch:=omega)only[↓RU,RV,RH,↓reduceIte,qE,reduceCtorEq,if_pos,qN,w64,↓RS,RG,qA,qM,qL,zaa]
 apply hK;clear hK K
 refine W.cond rfl (fun h1x=>?_) (fun h1x=>?_)
 ·try simp only[RL]at h1x
  refine W.r fun K hK=>?_
  simp(disch:=omega)only[↓RU,RV,RH,↓reduceIte,qE,reduceCtorEq,if_pos,qN,w64,↓RS,RG,qA,qM,qL,ty5,zab,zev]
  refine zae.ev (z7f (q:=q2+1) (l:=[[62],[94],[62,62],[94,62]]) (R:=[]) hc (by omega) (by simp) (by simp)) ?_
  rintro _ _ ⟨sg,hsg,rfl,rfl⟩
  have hsl:sg.length≤2:=zr7 (by decide) hsg
  simp(disch:=omega)only[↓RU,RV,RH,↓reduceIte,qE,reduceCtorEq,if_pos,qN,w64,↓RS,RG,qA,qM,qL,ty5,zab,zev]
  apply hK;clear hK K
  refine W.ret ?_
  refine XThen.ret ?_
  refine Br rfl ?_
  refine ⟨1,sg++s,q2+2,_,rfl,?_,?_,rfl⟩
  ·rw [List.length_append]; omega
  omega
 try simp only[RL]at h1x
 refine W.skip ?_
 refine xn ?_
 refine W.r fun K hK=>?_
 simp(disch:=omega)only[↓RU,RV,RH,↓reduceIte,qE,reduceCtorEq,if_pos,↓RS,RG,qA,qM,qL]
 apply hK;clear hK K
 refine W.ret ?_
 refine Br rfl ?_
 exact ⟨1,s,q2+1,_,rfl,by omega,by omega,rfl⟩
theorem z0o {code:Txt} {vr:Nat} (hc:code.length≤1048576):∀ m:Nat,1≤m→m≤10→∀ q:Nat,q+6*m≤900000→∀ t,Ev Tryz.prog 98 [.ref 0 vr 0,.int .i64 m] ⟨[.arr vr 131 2 [eBy code,.int .i64 (q:Int)]],t⟩ fun v S=>∃ (s:Txt) (q2 t2:Nat),v = .str s∧s.length+5≤8*m∧q2+4≤q+6*m∧S=⟨[.arr vr 131 2 [eBy code,.int .i64 (q2:Int)]],t2⟩:=by
 intro m
 induction m using Nat.strongRecOn with
 | _ m ih =>
  intro h1 h6 q hq t
  exact zww hc h1 h6 (fun m2 h2 h3 q hq t=>ih m2 h2 h3 (by omega) q hq t) q hq t
theorem z0p {code:Txt} {vr t:Nat} (hc:code.length≤1048576):Ev Tryz.prog 53 [.ref 0 vr 0] ⟨[.arr vr 131 2 [eBy code,.int .i64 ((0:Nat):Int)]],t⟩ fun v S=>∃ (s:Txt) (t2:Nat),v = .str s∧s.length≤100∧S=⟨[],t2⟩:=by
 refine Ev.of ⟨Tryz.func53,by kernel_rfl,rfl,by kernel_rfl⟩ zav mixed (by show 1≤Tryz.f53.ntmps; decide) ?_
 refine W.r fun K hK=>?_
 simp(disch:=omega)only[↓RU,RV,RH,↓reduceIte,qE,reduceCtorEq,if_pos,↓RS,RG,qA,qM,qL]
 apply hK;clear hK K
 refine W.r fun K hK=>?_
 simp(disch:=omega)only[↓RU,RV,RH,↓reduceIte,qE,reduceCtorEq,if_pos,qN,w64,↓RS,RG,qA,qM,qL,zaa]
 refine zae.ev (zo7 (q:=0) (R:=[]) hc (by omega) 6 (by omega) (by omega)) ?_
 rintro _ _ ⟨k,rfl,-,hk,rfl⟩
 have hk2:=hk (by omega)
 simp(disch:=omega)only[↓RU,RV,RH,↓reduceIte,qE,reduceCtorEq,if_pos,qN,w64,↓RS,RG,qA,qM,qL,zaa,zyp]
 refine zae.ev (z0o hc (1+k) (by omega) (by omega) (0+1) (by omega) _) ?_
 rintro _ _ ⟨s,q2,t2,rfl,hs,hq2,rfl⟩
 simp(disch:=omega)only[↓RU,RV,RH,↓reduceIte,qE,reduceCtorEq,if_pos,qN,w64,↓RS,RG,qA,qM,qL,zaa]
 apply hK;clear hK K
 refine W.seq ?_
 refine W.r fun K hK=>?_
 simp(disch:=omega)only[↓RU,RV,RH,↓reduceIte,qE,reduceCtorEq,if_pos,qN,↓RS,RG,qA,qM,qL]
 refine zae.ev (zo7 (q:=q2) (R:=[]) hc (by omega) 24 (by omega) (by omega)) ?_
 rintro _ _ ⟨k2,rfl,-,-,rfl⟩
 simp(disch:=omega)only[↓RU,RV,RH,↓reduceIte,qE,reduceCtorEq,if_pos,qN,↓RS,RG,qA,qM,qL]
 apply hK;clear hK K
 refine W.block ?_
 refine W.r fun K hK=>?_
 simp(disch:=omega)only[↓RU,RV,RH,↓reduceIte,qE,reduceCtorEq,if_pos,w64,↓RS,RG,qA,qM,qL,zaa]
 apply hK;clear hK K
 refine W.cond rfl (fun h0=>?_) (fun h0=>?_)
 ·try simp only[RL]at h0
  refine W.r fun K hK=>?_
  simp(disch:=omega)only[↓RU,RV,RH,↓reduceIte,qE,reduceCtorEq,if_pos,qN,w64,↓RS,RG,qA,qM,qL,ty5,zab,zev]
  refine zae.ev (z7f (q:=q2+1) (l:=[[41],[111],[124]]) (R:=[]) hc (by omega) (by simp) (by simp)) ?_
  rintro _ _ ⟨sg,hsg,rfl,rfl⟩
  have hsl:sg.length≤1:=zr7 (by decide) hsg
  simp(disch:=omega)only[↓RU,RV,RH,↓reduceIte,qE,reduceCtorEq,if_pos,qN,w64,↓RS,RG,qA,qM,qL,ty5,zab,zev]
  apply hK;clear hK K
  refine W.ret ?_
  refine XBlock.ret ?_
  refine XThen.ret ?_
  refine Br rfl ?_
  exact ⟨0,s++sg,_,rfl,by rw [List.length_append]; omega,rfl⟩
 try simp only[RL]at h0
 refine W.r fun K hK=>?_
 simp(disch:=omega)only[↓RU,RV,RH,↓reduceIte,qE,reduceCtorEq,if_pos,w64,↓RS,RG,qA,qM,qL,zaa]
 apply hK;clear hK K
 refine W.cond rfl (fun h1=>?_) (fun h1=>?_)
 ·try simp only[RL]at h1
  refine W.r fun K hK=>?_
  simp(disch:=omega)only[↓RU,RV,RH,↓reduceIte,qE,reduceCtorEq,if_pos,qN,↓RS,RG,qA,qM,qL,ty5,zab,zev]
  refine zae.ev (z7f (q:=q2+1) (l:=[[],[120],[40,111,41],[40,111,124,111],[62],[40,111,124,40,111,124,40,111,124,40,111,124,40,111,124,40,111,124,40,111,124,111,41,41,41,41,41,41,41],[40,40,111,124,111,41,124,40,111,124,111,41,41]]) (R:=[]) hc (by omega) (by simp) (by simp)) ?_
  rintro _ _ ⟨sg,hsg,rfl,rfl⟩
  have hsl:sg.length≤36:=zr7 (by decide) hsg
  simp(disch:=omega)only[↓RU,RV,RH,↓reduceIte,qE,reduceCtorEq,if_pos,qN,↓RS,RG,qA,qM,qL,ty5,zab,zev]
  apply hK;clear hK K
  refine W.ret ?_
  refine XBlock.ret ?_
  refine XThen.ret ?_
  refine Br rfl ?_
  exact ⟨0,sg,_,rfl,by omega,rfl⟩
 try simp only[RL]at h1
 refine W.skip ?_
 refine XbN ?_
 refine xn ?_
 refine W.r fun K hK=>?_
 simp(disch:=omega)only[↓RU,RV,RH,↓reduceIte,qE,reduceCtorEq,if_pos,↓RS,RG,qA,qM,qL]
 apply hK;clear hK K
 refine W.ret ?_
 refine Br rfl ?_
 exact ⟨0,s,_,rfl,by omega,rfl⟩
theorem z0q {code:Txt} (hc:code.length≤1048576):Ev Tryz.prog 23 [eBy code] ⟨[],0⟩ fun v S=>∃ (s:Txt) (t2:Nat),v = .str s∧s.length≤100∧S=⟨[],t2⟩:=by
 refine Ev.of ⟨Tryz.func23,by kernel_rfl,rfl,by kernel_rfl⟩ zav mixed (by show 1≤Tryz.f23.ntmps; decide) ?_
 refine W.r fun K hK=>?_
 simp(disch:=omega)only[↓RU,RV,RH,↓reduceIte,qE,reduceCtorEq,if_pos,↓RS,RG,qA,qM,qL]
 apply hK;clear hK K
 refine W.r fun K hK=>?_
 simp(disch:=omega)only[↓RU,RV,RH,↓reduceIte,qE,reduceCtorEq,if_pos,qN,↓RS,RG,qA,qM,qL,rdO]
 refine zae.pn (z3i hc) rfl (.inr rfl) ?_
 simp(disch:=omega)only[↓RU,RV,RH,↓reduceIte,qE,reduceCtorEq,if_pos,qN,↓RS,RG,qA,qM,qL,rdO,rdO,RN]
 have hc2:(code.take 2000).length≤1048576:=by rw [List.length_take]; omega
 refine zae.ev (z0p hc2) ?_
 rintro _ _ ⟨s,t,rfl,hs,rfl⟩
 simp(disch:=omega)only[↓RU,RV,RH,↓reduceIte,qE,reduceCtorEq,if_pos,qN,↓RS,RG,qA,qM,qL,rdO]
 apply hK;clear hK K
 refine W.ret ?_
 refine Br rfl ?_
 exact ⟨0,s,_,rfl,hs,rfl⟩
theorem zn9 {code:Txt} (hc:code.length≤1048576):Ev Tryz.prog 6 [eBy code] ⟨[],0⟩ fun v S=>∃ (s:Txt) (t2:Nat),v = .str s∧s.length≤100∧S=⟨[],t2⟩:=by
 refine Ev.of ⟨Tryz.func6,by kernel_rfl,rfl,by kernel_rfl⟩ zav mixed (by show 1≤Tryz.f6.ntmps; decide) ?_
 refine W.r fun K hK=>?_
 simp(disch:=omega)only[↓RU,RV,RH,↓reduceIte,qE,reduceCtorEq,if_pos,↓RS,RG,qA,qM,qL]
 apply hK;clear hK K
 refine W.r fun K hK=>?_
 simp(disch:=omega)only[↓RU,RV,RH,↓reduceIte,qE,reduceCtorEq,if_pos,qN,↓RS,RG,qA,qM,qL]
 refine zae.ev (z0q hc) ?_
 rintro _ _ ⟨s,t,rfl,hs,rfl⟩
 simp(disch:=omega)only[↓RU,RV,RH,↓reduceIte,qE,reduceCtorEq,if_pos,qN,↓RS,RG,qA,qM,qL]
 apply hK;clear hK K
 refine W.ret ?_
 refine Br rfl ?_
 exact ⟨0,s,_,rfl,hs,rfl⟩
def zm9 {α:Type} (enc:α→PV) (zero:PV) (room:Int→α) (cut:Bool→α→α→α):Option CT→PV
 | some x => .tup [enc (x.fold room cut),.bool true]
 | none => .tup [zero,.bool false]
theorem zki {α:Type} {enc:α→PV} {zero:PV} {room:Int→α} {cut:Bool→α→α→α} (o:Option CT):∃ v b,zm9 enc zero room cut o = .tup [v,.bool b]:=by
 cases o with
 | none=>exact ⟨_,_,rfl⟩
 | some x=>exact ⟨_,_,rfl⟩
theorem z1i (a b:Option CT):a=none∨(∃ x,a=some x∧b=none)∨∃ x y,a=some x∧b=some y:=by
 cases a <;> cases b <;> simp
theorem ziu {p:List Txt} (hp:zbx p=true):(rP p).length≤9∧∀ b∈rP p,b.Fit:=by
 have hN:=zbw hp
 have h1:=hN.rooms
 have h2:zct p≤9:=by unfold zbx at hp; simp only[qB,decide_eq_true_eq]at hp; exact hp.1.2
 have hsm:=zdz hN.hg
 obtain ⟨row0,hr0,hm0⟩:=zag hsm.1
 have hh:=zd7 hr0
 have hw6:=hsm.2.2 row0 hm0
 have hw1:=zpg hN.hg hr0
 rw [← hh]at hw6 hw1
 have hok:=(zg0 (g:=za5 p) hw6 hw1 p.length hsm.2.1).1
 rw [← z7v]at hok
 exact ⟨by omega,hok.2⟩
theorem zy3 {p:List Txt} (hp:zbx p=true) {t:Pt} (h:t.In p.length (zad p).length):t.rect.Fit:=by
 have hg:=zw0 hp
 obtain ⟨g1,g2,g3,g4⟩:=hg.2.2
 unfold Pt.In at h
 simp only[Rect.Fit,Pt.rect]
 omega
def z6p (a:Int):Txt:=(Utf8.encode (65+a)).data.toList
theorem yab {a:Int} (h0:0≤a) (h1:a<9):(z6p a).length≤4:=by
 obtain ⟨n,rfl⟩:=Int.eq_ofNat_of_zero_le h0
 have:n=0∨n=1∨n=2∨n=3∨n=4∨n=5∨n=6∨n=7∨n=8:=by omega
 rcases this with rfl | rfl | rfl | rfl | rfl | rfl | rfl | rfl | rfl <;> decide +kernel
theorem z3r (lv:Bool):(if lv then [(104:UInt8)] else [118]).length=1:=by cases lv <;> rfl
def z6q (lv:Bool) (x y:Txt):Txt:=(if lv then [104] else [118])++x++y
theorem zxs {x:CT} (h:∀ a∈x.leaves,0≤a∧a<9):(x.fold z6p z6q).length+1≤5*x.leaves.length:=by
 induction x with
 | leaf a=>have:=h a (by simp [CT.leaves]); have:=yab this.1 this.2; simp only[CT.fold,CT.leaves,List.length_singleton]; omega
 | node lv x y h1 h2 =>
  have k1:=h1 fun a ha=>h a (by simp [CT.leaves,ha])
  have k2:=h2 fun a ha=>h a (by simp [CT.leaves,ha])
  have p1:=x.pos
  have p2:=y.pos
  have e:(if lv then [(104:UInt8)] else [118]).length=1:=z3r lv
  simp only[CT.fold,CT.leaves,z6q,List.length_append,e] at *
  omega
theorem w32r {x:Int} (h1:0≤x) (h2:x<1000):IntKind.i32.wrap x=x:=by
 simp [IntKind.wrap,IntKind.bits,IntKind.signed]; omega
theorem zov {p:List Txt} (hp:zbx p=true) {t:Pt} (hw:Whole (zam p) p.length (zad p).length t) {x:CT} (hx:zck (zam p) t=some x):(∀ a∈x.leaves,0≤a∧a<(rP p).length)∧x.leaves.length≤9:=by
 obtain ⟨h1,h2,h3⟩:=zew (zgp hp) _ hw (qR _) hx
 have hin:=hw.inn
 unfold Pt.In at hin
 have hb:∀ a∈x.leaves,0≤a∧a<(rP p).length:=by
  intro a ha
  obtain ⟨i,j,e1,e2,e3,e4,e5⟩:=(h2 a).1 ha
  have:=zc9 hp (i:=i) (j:=j) (by omega) (by omega)
  omega
 have:=zsc h1 hb
 have:=(ziu hp).1
 exact ⟨hb,by omega⟩
theorem zt3 {p:List Txt} (hp:zbx p=true) {rf cf:FuncId} {rc cc:List PV} (hr9:∀ S,rc.mapM (reify S true 9)=some rc) (hr10:∀ S,rc.mapM (reify S true 10)=some rc) (hc9:∀ S,cc.mapM (reify S true 9)=some cc) (hc10:∀ S,cc.mapM (reify S true 10)=some cc)
  {room:Int→Txt} {cut:Bool→Txt→Txt→Txt} (hroom:∀ a:Int,0≤a→a<(rP p).length→PC Tryz.prog rf (.int .i64 a::rc) ((fun x:Txt=>PV.str x) (room a)) true)
  (hcut:∀ (t:Pt) q x y,Whole (zam p) p.length (zad p).length t→zc2 (zam p) t=some q→zck (zam p) (t.one q)=some x→zck (zam p) (t.two q)=some y→PC Tryz.prog cf (zx3 (gP p) (rP p) t q::(fun x:Txt=>PV.str x) (x.fold room cut)::(fun x:Txt=>PV.str x) (y.fold room cut)::cc) ((fun x:Txt=>PV.str x) (cut q.1 (x.fold room cut) (y.fold room cut))) true) {t:Pt} (hw:Whole (zam p) p.length (zad p).length t) (ih:∀ t':Pt,Whole (zam p) p.length (zad p).length t'→t'.h*t'.w<t.h*t.w→PC Tryz.prog 121 [zg5 (gP p) (rP p) t'.rect,.fn rf rc,.fn cf cc] (zm9 (fun x:Txt=>PV.str x) (.str []) room cut (zck (zam p) t')) true):PC Tryz.prog 121 [zg5 (gP p) (rP p) t.rect,.fn rf rc,.fn cf cc] (zm9 (fun x:Txt=>PV.str x) (.str []) room cut (zck (zam p) t)) true:=by
 have hin:=hw.inn
 unfold Pt.In at hin
 obtain ⟨hn9,hfit⟩:=ziu hp
 have hv:0≤zam p t.r t.c∧zam p t.r t.c<(rP p).length:=zc9 hp (by omega) (by omega)
 change PC _ _ [.agg [zap (gP p) (rP p),.int .i64 t.r,.int .i64 t.c,.int .i64 t.h,.int .i64 t.w],.fn rf rc,.fn cf cc] _ _
 refine PC.of ⟨Tryz.func121,by kernel_rfl,rfl,by kernel_rfl⟩ zav mixed (by show 3≤Tryz.f121.ntmps; decide) ?_
 refine W.r fun K hK=>?_
 simp(disch:=omega)only[↓RU,RV,RH,↓reduceIte,qE,reduceCtorEq,if_pos,↓RS,RG,qA,qM,qL,ty7,zbf,zas,zaa,zbg,zat]
 apply hK;clear hK K
 refine W.r fun K hK=>?_
 simp(disch:=omega)only[↓RU,RV,RH,↓reduceIte,qE,reduceCtorEq,if_pos,↓RS,RG,qA,qM,qL]
 apply hK;clear hK K
 refine W.seq ?_
 refine W.r fun K hK=>?_
 cases h1:zun (zam p) t
 ·skip
  have hmore:=z70 hp hw h1
  have hL:=z3p (gP p) (by omega) hfit (zy3 hp hw.inn)
  simp(disch:=omega)only[↓RU,RV,RH,↓reduceIte,qE,reduceCtorEq,if_pos,qN,↓RS,RG,qA,qM,qL,ty7,zbf,zas,zaa,zbg,zat]
  refine zae.pc (hL) rfl (.inl rfl) ?_
  simp(disch:=omega)only[↓RU,RV,RH,↓reduceIte,qE,reduceCtorEq,if_pos,qN,↓RS,RG,qA,qM,qL,ty7,zbf,zas,zaa,zbg,zat]
  apply hK;clear hK K
  refine W.r fun K hK=>?_
  simp(disch:=omega)only[↓RU,RV,RH,↓reduceIte,qE,reduceCtorEq,if_pos,w64,↓RS,RG,qA,qM,qL,zaf,zaa]
  apply hK;clear hK K
  refine W.cond rfl (fun h0=>?_) (fun h0=>?_)
  ·try simp only[RL]at h0
   exfalso; omega
  try simp only[RL]at h0
  refine W.skip ?_
  refine xn ?_
  refine W.r fun K hK=>?_
  rcases hq:zc2 (zam p) t with _ | q
  ·skip
   have hF:PC Tryz.prog 92 [zg5 (gP p) (rP p) t.rect] (.tup [.agg [.bool false,.nilp,.int .i64 0,.int .i64 0,.int .i64 0,.int .i64 0,.nilp,.int .i64 0,.int .i64 0,.int .i64 0,.int .i64 0],.bool false]) false:=by have h:=zyc hp hw.inn; simp only[zt2,hq]at h; exact h
   simp(disch:=omega)only[↓RU,RV,RH,↓reduceIte,qE,reduceCtorEq,if_pos,qN,↓RS,RG,qA,qM,qL,ty7,za6,zbf,zf3,zas,zaa,zbg,zf4,zat]
   refine zae.pc (hF) rfl (.inr rfl) ?_
   simp(disch:=omega)only[↓RU,RV,RH,↓reduceIte,qE,reduceCtorEq,if_pos,qN,↓RS,RG,qA,qM,qL,ty7,za6,zbf,zf3,zas,zaa,zbg,zf4,zat]
   apply hK;clear hK K
   refine W.seq ?_
   refine W.r fun K hK=>?_
   simp(disch:=omega)only[↓RU,RV,RH,↓reduceIte,qE,reduceCtorEq,if_pos,↓RS,RG,qA,qM,qL]
   apply hK;clear hK K
   refine W.cond rfl (fun h2=>?_) (fun h2=>?_)
   ·try simp only[RL]at h2
    refine W.r fun K hK=>?_
    simp(disch:=omega)only[↓RU,RV,RH,↓reduceIte,qE,reduceCtorEq,if_pos,↓RS,RG,qA,qM,qL]
    apply hK;clear hK K
    refine W.ret ?_
    refine XThen.ret ?_
    refine Br rfl ?_
    rw [ziz hw.inn h1 hq]
    rfl
   try simp only[RL]at h2
   exact absurd h2 (by simp)
  skip
  have hF:PC Tryz.prog 92 [zg5 (gP p) (rP p) t.rect] (.tup [.agg [.bool q.1,zap (gP p) (rP p),.int .i64 (t.one q).r,.int .i64 (t.one q).c,.int .i64 (t.one q).h,.int .i64 (t.one q).w,zap (gP p) (rP p),.int .i64 (t.two q).r,.int .i64 (t.two q).c,.int .i64 (t.two q).h,.int .i64 (t.two q).w],.bool true]) false:=by have h:=zyc hp hw.inn; simp only[zt2,hq]at h; exact h
  obtain ⟨i1,i2,a1,a2⟩:=hw.inn.cut hq
  obtain ⟨w1,w2⟩:=hw.cut (zgp hp) hq
  simp(disch:=omega)only[↓RU,RV,RH,↓reduceIte,qE,reduceCtorEq,if_pos,qN,↓RS,RG,qA,qM,qL,ty7,za6,zbf,zf3,zas,zaa,zbg,zf4,zat]
  refine zae.pc (hF) rfl (.inr rfl) ?_
  simp(disch:=omega)only[↓RU,RV,RH,↓reduceIte,qE,reduceCtorEq,if_pos,qN,↓RS,RG,qA,qM,qL,ty7,za6,zbf,zf3,zas,zaa,zbg,zf4,zat]
  apply hK;clear hK K
  refine W.seq ?_
  refine W.r fun K hK=>?_
  simp(disch:=omega)only[↓RU,RV,RH,↓reduceIte,qE,reduceCtorEq,if_pos,↓RS,RG,qA,qM,qL]
  apply hK;clear hK K
  refine W.cond rfl (fun h2=>?_) (fun h2=>?_)
  ·try simp only[RL]at h2
   exact absurd h2 (by simp)
  try simp only[RL]at h2
  refine W.skip ?_
  refine xn ?_
  refine W.r fun K hK=>?_
  obtain hx1 | ⟨x1,hx1,hx2⟩ | ⟨x1,x2,hx1,hx2⟩:=z1i (zck (zam p) (t.one q)) (zck (zam p) (t.two q))
  ·skip
   have hI1:=ih (t.one q) w1 a1
   have hI2:=ih (t.two q) w2 a2
   simp only[zm9,hx1]at hI1
   obtain ⟨v2,b2,e2⟩:=zki (enc:=(fun x:Txt=>PV.str x)) (zero:=(.str [])) (room:=room) (cut:=cut) (zck (zam p) (t.two q))
   rw [e2]at hI2
   simp(disch:=omega)only[↓RU,RV,RH,↓reduceIte,qE,reduceCtorEq,if_pos,qN,↓RS,RG,qA,qM,qL,ty7,za6,zbf,zf3,zas,zaa,zbg,zf4,zat]
   refine zae.pc (hI1) (zax rfl (zax (by rw [zdi,hr9]; rfl) (zax (by rw [zdi,hc9]; rfl) rfl))) (.inl rfl) ?_
   simp(disch:=omega)only[↓RU,RV,RH,↓reduceIte,qE,reduceCtorEq,if_pos,qN,↓RS,RG,qA,qM,qL,ty7,za6,zbf,zf3,zas,zaa,zbg,zf4,zat]
   apply hK;clear hK K
   refine W.r fun K hK=>?_
   simp(disch:=omega)only[↓RU,RV,RH,↓reduceIte,qE,reduceCtorEq,if_pos,qN,↓RS,RG,qA,qM,qL,ty7,za6,zbf,zf3,zas,zaa,zbg,zf4,zat]
   refine zae.pc (hI2) (zax rfl (zax (by rw [zdi,hr9]; rfl) (zax (by rw [zdi,hc9]; rfl) rfl))) (.inl rfl) ?_
   simp(disch:=omega)only[↓RU,RV,RH,↓reduceIte,qE,reduceCtorEq,if_pos,qN,↓RS,RG,qA,qM,qL,ty7,za6,zbf,zf3,zas,zaa,zbg,zf4,zat]
   apply hK;clear hK K
   refine W.seq ?_
   refine W.r fun K hK=>?_
   simp(disch:=omega)only[↓RU,RV,RH,↓reduceIte,qE,reduceCtorEq,if_pos,↓RS,RG,qA,qM,qL]
   apply hK;clear hK K
   refine W.cond rfl (fun h3=>?_) (fun h3=>?_)
   ·try simp only[RL]at h3
    refine W.r fun K hK=>?_
    simp(disch:=omega)only[↓RU,RV,RH,↓reduceIte,qE,reduceCtorEq,if_pos,↓RS,RG,qA,qM,qL]
    apply hK;clear hK K
    refine W.ret ?_
    refine XThen.ret ?_
    refine Br rfl ?_
    rw [zf2 hw.inn h1 hq,hx1]
    rfl
   try simp only[RL]at h3
   exact absurd h3 (by simp)
  ·skip
   have hI1:=ih (t.one q) w1 a1
   have hI2:=ih (t.two q) w2 a2
   simp only[zm9,hx1]at hI1
   simp only[zm9,hx2]at hI2
   simp(disch:=omega)only[↓RU,RV,RH,↓reduceIte,qE,reduceCtorEq,if_pos,qN,↓RS,RG,qA,qM,qL,ty7,za6,zbf,zf3,zas,zaa,zbg,zf4,zat]
   refine zae.pc (hI1) (zax rfl (zax (by rw [zdi,hr9]; rfl) (zax (by rw [zdi,hc9]; rfl) rfl))) (.inl rfl) ?_
   simp(disch:=omega)only[↓RU,RV,RH,↓reduceIte,qE,reduceCtorEq,if_pos,qN,↓RS,RG,qA,qM,qL,ty7,za6,zbf,zf3,zas,zaa,zbg,zf4,zat]
   apply hK;clear hK K
   refine W.r fun K hK=>?_
   simp(disch:=omega)only[↓RU,RV,RH,↓reduceIte,qE,reduceCtorEq,if_pos,qN,↓RS,RG,qA,qM,qL,ty7,za6,zbf,zf3,zas,zaa,zbg,zf4,zat]
   refine zae.pc (hI2) (zax rfl (zax (by rw [zdi,hr9]; rfl) (zax (by rw [zdi,hc9]; rfl) rfl))) (.inl rfl) ?_
   simp(disch:=omega)only[↓RU,RV,RH,↓reduceIte,qE,reduceCtorEq,if_pos,qN,↓RS,RG,qA,qM,qL,ty7,za6,zbf,zf3,zas,zaa,zbg,zf4,zat]
   apply hK;clear hK K
   refine W.seq ?_
   refine W.r fun K hK=>?_
   simp(disch:=omega)only[↓RU,RV,RH,↓reduceIte,qE,reduceCtorEq,if_pos,↓RS,RG,qA,qM,qL]
   apply hK;clear hK K
   refine W.cond rfl (fun h3=>?_) (fun h3=>?_)
   ·try simp only[RL]at h3
    refine W.r fun K hK=>?_
    simp(disch:=omega)only[↓RU,RV,RH,↓reduceIte,qE,reduceCtorEq,if_pos,↓RS,RG,qA,qM,qL]
    apply hK;clear hK K
    refine W.ret ?_
    refine XThen.ret ?_
    refine Br rfl ?_
    rw [zf2 hw.inn h1 hq,hx1,hx2]
    rfl
   try simp only[RL]at h3
   exact absurd h3 (by simp)
  skip
  have hI1:=ih (t.one q) w1 a1
  have hI2:=ih (t.two q) w2 a2
  simp only[zm9,hx1]at hI1
  simp only[zm9,hx2]at hI2
  simp(disch:=omega)only[↓RU,RV,RH,↓reduceIte,qE,reduceCtorEq,if_pos,qN,↓RS,RG,qA,qM,qL,ty7,za6,zbf,zf3,zas,zaa,zbg,zf4,zat]
  refine zae.pc (hI1) (zax rfl (zax (by rw [zdi,hr9]; rfl) (zax (by rw [zdi,hc9]; rfl) rfl))) (.inl rfl) ?_
  simp(disch:=omega)only[↓RU,RV,RH,↓reduceIte,qE,reduceCtorEq,if_pos,qN,↓RS,RG,qA,qM,qL,ty7,za6,zbf,zf3,zas,zaa,zbg,zf4,zat]
  apply hK;clear hK K
  refine W.r fun K hK=>?_
  simp(disch:=omega)only[↓RU,RV,RH,↓reduceIte,qE,reduceCtorEq,if_pos,qN,↓RS,RG,qA,qM,qL,ty7,za6,zbf,zf3,zas,zaa,zbg,zf4,zat]
  refine zae.pc (hI2) (zax rfl (zax (by rw [zdi,hr9]; rfl) (zax (by rw [zdi,hc9]; rfl) rfl))) (.inl rfl) ?_
  simp(disch:=omega)only[↓RU,RV,RH,↓reduceIte,qE,reduceCtorEq,if_pos,qN,↓RS,RG,qA,qM,qL,ty7,za6,zbf,zf3,zas,zaa,zbg,zf4,zat]
  apply hK;clear hK K
  refine W.seq ?_
  refine W.r fun K hK=>?_
  simp(disch:=omega)only[↓RU,RV,RH,↓reduceIte,qE,reduceCtorEq,if_pos,↓RS,RG,qA,qM,qL]
  apply hK;clear hK K
  refine W.cond rfl (fun h3=>?_) (fun h3=>?_)
  ·try simp only[RL]at h3
   exact absurd h3 (by simp)
  try simp only[RL]at h3
  refine W.skip ?_
  refine xn ?_
  refine W.r fun K hK=>?_
  simp(disch:=omega)only[↓RU,RV,RH,↓reduceIte,qE,reduceCtorEq,if_pos,qN,↓RS,RG,qA,qM,qL,ty7,za6,zbf,zf3,zas,zaa,zbg,zf4,zat]
  refine zae.pc (hcut t q x1 x2 hw hq hx1 hx2) (zax rfl (zax rfl (zax rfl (hc10 _)))) (.inl rfl) ?_
  simp(disch:=omega)only[↓RU,RV,RH,↓reduceIte,qE,reduceCtorEq,if_pos,qN,↓RS,RG,qA,qM,qL,ty7,za6,zbf,zf3,zas,zaa,zbg,zf4,zat]
  apply hK;clear hK K
  refine W.ret ?_
  refine Br rfl ?_
  rw [zf2 hw.inn h1 hq,hx1,hx2]
  rfl
 skip
 have hL:PC Tryz.prog 91 [zg5 (gP p) (rP p) t.rect] (.sl [.int .i64 (zam p t.r t.c)] 1) true:=by have h:=z3p (gP p) (by omega) hfit (zy3 hp hw.inn); rw [ybc hp hw h1]at h; exact h
 have hv:=zc9 hp (i:=t.r) (j:=t.c) (by omega) (by omega)
 simp(disch:=omega)only[↓RU,RV,RH,↓reduceIte,qE,reduceCtorEq,if_pos,qN,↓RS,RG,qA,qM,qL,ty7,zbf,zas,zaa,zbg,zat]
 refine zae.pc (hL) rfl (.inl rfl) ?_
 simp(disch:=omega)only[↓RU,RV,RH,↓reduceIte,qE,reduceCtorEq,if_pos,qN,↓RS,RG,qA,qM,qL,ty7,zbf,zas,zaa,zbg,zat]
 apply hK;clear hK K
 refine W.r fun K hK=>?_
 simp(disch:=omega)only[↓RU,RV,RH,↓reduceIte,qE,reduceCtorEq,if_pos,w64,↓RS,RG,qA,qM,qL,zaf,zaa]
 apply hK;clear hK K
 refine W.cond rfl (fun h0=>?_) (fun h0=>?_)
 ·try simp only[RL]at h0
  refine W.r fun K hK=>?_
  simp(disch:=omega)only[↓RU,RV,RH,↓reduceIte,qE,reduceCtorEq,if_pos,qN,↓RS,RG,qA,qM,qL,zaf,zaa,Int.toNat_zero,Nat.zero_mul,qZ,List.getElem?_cons_zero]
  refine zae.pc (hroom _ hv.1 hv.2) (zax rfl (hr10 _)) (.inl rfl) ?_
  simp(disch:=omega)only[↓RU,RV,RH,↓reduceIte,qE,reduceCtorEq,if_pos,qN,↓RS,RG,qA,qM,qL,zaf,zaa,Int.toNat_zero,Nat.zero_mul,qZ,List.getElem?_cons_zero]
  apply hK;clear hK K
  refine W.ret ?_
  refine XThen.ret ?_
  refine Br rfl ?_
  rw [zie hw.inn h1]
  rfl
 try simp only[RL]at h0
 exact absurd h0 (by simp)
theorem zmr {p:List Txt} (hp:zbx p=true) {rf cf:FuncId} {rc cc:List PV} (hr9:∀ S,rc.mapM (reify S true 9)=some rc) (hr10:∀ S,rc.mapM (reify S true 10)=some rc) (hc9:∀ S,cc.mapM (reify S true 9)=some cc) (hc10:∀ S,cc.mapM (reify S true 10)=some cc)
  {room:Int→Txt} {cut:Bool→Txt→Txt→Txt} (hroom:∀ a:Int,0≤a→a<(rP p).length→PC Tryz.prog rf (.int .i64 a::rc) ((fun x:Txt=>PV.str x) (room a)) true)
  (hcut:∀ (t:Pt) q x y,Whole (zam p) p.length (zad p).length t→zc2 (zam p) t=some q→zck (zam p) (t.one q)=some x→zck (zam p) (t.two q)=some y→PC Tryz.prog cf (zx3 (gP p) (rP p) t q::(fun x:Txt=>PV.str x) (x.fold room cut)::(fun x:Txt=>PV.str x) (y.fold room cut)::cc) ((fun x:Txt=>PV.str x) (cut q.1 (x.fold room cut) (y.fold room cut))) true):∀ (n:Nat) {t:Pt},t.h*t.w≤n→Whole (zam p) p.length (zad p).length t→PC Tryz.prog 121 [zg5 (gP p) (rP p) t.rect,.fn rf rc,.fn cf cc] (zm9 (fun x:Txt=>PV.str x) (.str []) room cut (zck (zam p) t)) true
 | 0,t,hn,hw=>by have:=Nat.mul_pos hw.inn.1 hw.inn.2.1; omega
 | n+1,t,hn,hw=>zt3 hp hr9 hr10 hc9 hc10 hroom hcut hw fun t' hw' ha=>zmr hp hr9 hr10 hc9 hc10 hroom hcut n (by omega) hw'
theorem z8a {a:Int} (h0:0≤a) (h1:a<9):PC Tryz.prog 120 [.int .i64 a] (.str (z6p a)) true:=by
 refine PC.of ⟨Tryz.func120,by kernel_rfl,rfl,by kernel_rfl⟩ zav mixed (by show 1≤Tryz.f120.ntmps; decide) ?_
 refine W.r fun K hK=>?_
 simp(disch:=omega)only[↓RU,RV,RH,↓reduceIte,qE,reduceCtorEq,if_pos,w32r]
 apply hK;clear hK K
 refine W.r fun K hK=>?_
 simp(disch:=omega)only[↓RU,RV,RH,↓reduceIte,qE,reduceCtorEq,if_pos,w64,w64,zaa,yby,zab,w32r]
 apply hK;clear hK K
 refine W.ret ?_
 refine Br rfl ?_
 rfl
theorem z3n (g:List (List Int)) (rs:List Rect) (lv:Bool) (a b:Rect):PC Tryz.prog 123 [.agg (zo6 g rs lv a b)] (.str (if lv then [104] else [118])) true:=by
 simp only[zo6,Rect.cells]
 refine PC.of ⟨Tryz.func123,by kernel_rfl,rfl,by kernel_rfl⟩ zav mixed (by show 1≤Tryz.f123.ntmps; decide) ?_
 refine W.r fun K hK=>?_
 simp(disch:=omega)only[↓RU,RV,RH,↓reduceIte,qE,reduceCtorEq,if_pos,↓RS,RG,qA,qM,qL,ty7,za6,zbf,zf3,zas,zaa,zbg,zf4,zat]
 apply hK;clear hK K
 refine W.seq ?_
 refine W.r fun K hK=>?_
 simp(disch:=omega)only[↓RU,RV,RH,↓reduceIte,qE,reduceCtorEq,if_pos,↓RS,RG,qA,qM,qL,ty7,za6,zbf,zf3,zas,zaa,zbg,zf4,zat]
 apply hK;clear hK K
 refine W.cond rfl (fun h0=>?_) (fun h0=>?_)
 ·try simp only[RL]at h0
  refine W.r fun K hK=>?_
  simp(disch:=omega)only[↓RU,RV,RH,↓reduceIte,qE,reduceCtorEq,if_pos,↓RS,RG,qA,qM,qL]
  apply hK;clear hK K
  refine W.ret ?_
  refine XThen.ret ?_
  refine Br rfl ?_
  subst h0
  rfl
 try simp only[RL]at h0
 refine W.skip ?_
 refine xn ?_
 refine W.r fun K hK=>?_
 simp(disch:=omega)only[↓RU,RV,RH,↓reduceIte,qE,reduceCtorEq,if_pos,↓RS,RG,qA,qM,qL]
 apply hK;clear hK K
 refine W.ret ?_
 refine Br rfl ?_
 subst h0
 rfl
theorem zzv {lv:Bool} {b:List UInt8} (h:b.length+1≤9223372036854775807):z7m .add (if lv then [104] else [118]) b=some (.str ((if lv then [104] else [118])++b)):=if_pos (by rw [z3r]; omega)
theorem zzw {lv:Bool} {b d:List UInt8} (h:b.length+1+d.length≤9223372036854775807):z7m .add ((if lv then [104] else [118])++b) d=some (.str ((if lv then [104] else [118])++b++d)):=if_pos (by rw [List.length_append,z3r]; omega)
theorem z8b (g:List (List Int)) (rs:List Rect) (lv:Bool) (a b:Rect) {x y:Txt} (hx:x.length≤10000) (hy:y.length≤10000):PC Tryz.prog 122 [.agg (zo6 g rs lv a b),.str x,.str y] (.str (z6q lv x y)) true:=by
 have hL:=z3n g rs lv a b
 simp only[zo6,Rect.cells]at hL ⊢
 skip
 refine PC.of ⟨Tryz.func122,by kernel_rfl,rfl,by kernel_rfl⟩ zav mixed (by show 3≤Tryz.f122.ntmps; decide) ?_
 refine W.r fun K hK=>?_
 simp(disch:=omega)only[↓RU,RV,RH,↓reduceIte,qE,reduceCtorEq,if_pos,↓RS,RG,qA,qM,qL,ty7,za6,zbf,zf3,zas,zaa,zbg,zf4,zat]
 apply hK;clear hK K
 refine W.r fun K hK=>?_
 simp(disch:=omega)only[↓RU,RV,RH,↓reduceIte,qE,reduceCtorEq,if_pos,qN,w64,↓RS,RG,qA,qM,qL,ty7,za6,zbf,zf3,zas,zaa,zab,zbg,zf4,zat,zzv,zzw]
 refine zae.pc (hL) rfl (.inl rfl) ?_
 simp(disch:=omega)only[↓RU,RV,RH,↓reduceIte,qE,reduceCtorEq,if_pos,qN,w64,↓RS,RG,qA,qM,qL,ty7,za6,zbf,zf3,zas,zaa,zab,zbg,zf4,zat,zzv,zzw]
 apply hK;clear hK K
 refine W.ret ?_
 refine Br rfl ?_
 rfl
theorem zwf {p:List Txt} (hp:zbx p=true):PC Tryz.prog 76 [zg5 (gP p) (rP p) (zj8 p).rect] (zm9 (fun x:Txt=>PV.str x) (.str []) z6p z6q (zck (zam p) (zj8 p))) true:=by
 have hT:PC Tryz.prog 121 [zg5 (gP p) (rP p) (zj8 p).rect,.fn 120 [],.fn 122 []] (zm9 (fun x:Txt=>PV.str x) (.str []) z6p z6q (zck (zam p) (zj8 p))) true:=by
  refine zmr hp (rf:=120) (cf:=122) (rc:=[]) (cc:=[]) (fun _=>rfl) (fun _=>rfl) (fun _=>rfl) (fun _=>rfl) (fun a h1 h2=>z8a h1 (by have:=(ziu hp).1; omega)) (fun t q x y hw hq hx hy=>?_) _ (qR _) (zpt hp)
  obtain ⟨w1,w2⟩:=hw.cut (zgp hp) hq
  have b1:=zov hp w1 hx
  have b2:=zov hp w2 hy
  have n9:=(ziu hp).1
  have c1:=zxs (x:=x) fun a ha=>by have:=b1.1 a ha; omega
  have c2:=zxs (x:=y) fun a ha=>by have:=b2.1 a ha; omega
  exact z8b (gP p) (rP p) q.1 (t.one q).rect (t.two q).rect (by omega) (by omega)
 obtain ⟨v2,b2,e2⟩:=zki (enc:=fun x:Txt=>PV.str x) (zero := .str []) (room:=z6p) (cut:=z6q) (zck (zam p) (zj8 p))
 have hs:∃ s:Txt,v2 = .str s:=by cases h:(zck (zam p) (zj8 p)) <;> rw [h]at e2 <;> cases e2 <;> exact ⟨_,rfl⟩
 obtain ⟨s,rfl⟩:=hs
 rw [e2]at hT ⊢
 simp only[zg5,Pt.rect,Rect.cells]at hT ⊢
 refine PC.of ⟨Tryz.func76,by kernel_rfl,rfl,by kernel_rfl⟩ zav mixed (by show 1≤Tryz.f76.ntmps; decide) ?_
 refine W.r fun K hK=>?_
 simp(disch:=omega)only[↓RU,RV,RH,↓reduceIte,qE,reduceCtorEq,if_pos,↓RS,RG,qA,qM,qL,ty7,zbf,zas,zaa,zbg,zat]
 apply hK;clear hK K
 refine W.r fun K hK=>?_
 simp(disch:=omega)only[↓RU,RV,RH,↓reduceIte,qE,reduceCtorEq,if_pos,↓RS,RG,qA,qM,qL]
 apply hK;clear hK K
 refine W.r fun K hK=>?_
 simp(disch:=omega)only[↓RU,RV,RH,↓reduceIte,qE,reduceCtorEq,if_pos,qN,↓RS,RG,qA,qM,qL,ty7,zbf,zas,zaa,zbg,zat]
 refine zae.pc (hT) rfl (.inl rfl) ?_
 simp(disch:=omega)only[↓RU,RV,RH,↓reduceIte,qE,reduceCtorEq,if_pos,qN,↓RS,RG,qA,qM,qL,ty7,zbf,zas,zaa,zbg,zat]
 apply hK;clear hK K
 refine W.ret ?_
 refine Br rfl ?_
 rfl
theorem z57 {p:List Txt} (hp:zbx p=true):PC Tryz.prog 45 [zap (gP p) (rP p)] (zg5 (gP p) (rP p) (zj8 p).rect) false:=by
 have hg:=zw0 hp
 obtain ⟨row,h1,h2,-⟩:=hg.at_ (i:=0) (j:=0) (by have:=hg.2.2; omega) (by have:=hg.2.2; omega)
 have h:=z8k h1 (rP p)
 rw [hg.1,h2]at h
 exact h
theorem zz8 {p:List Txt} (hs:Sm p):PC Tryz.prog 33 [zaz p] (zm9 (fun x:Txt=>PV.str x) (.str []) z6p z6q (if zbx p then (zck (zam p) (zj8 p)) else none)) true:=by
 obtain ⟨x,hx,hxy,hxr⟩:=zlr hs
 rw [zda]at hx hxy
 refine PC.of ⟨Tryz.func33,by kernel_rfl,rfl,by kernel_rfl⟩ zav mixed (by show 1≤Tryz.f33.ntmps; decide) ?_
 refine W.r fun K hK=>?_
 simp(disch:=omega)only[↓RU,RV,RH,↓reduceIte,qE,reduceCtorEq,if_pos,↓RS,RG,qA,qM,qL]
 apply hK;clear hK K
 refine W.r fun K hK=>?_
 simp(disch:=omega)only[↓RU,RV,RH,↓reduceIte,qE,reduceCtorEq,if_pos,qN,↓RS,RG,qA,qM,qL]
 refine zae.pc (hx) rfl (.inr rfl) ?_
 simp(disch:=omega)only[↓RU,RV,RH,↓reduceIte,qE,reduceCtorEq,if_pos,qN,↓RS,RG,qA,qM,qL]
 apply hK;clear hK K
 refine W.seq ?_
 refine W.r fun K hK=>?_
 simp(disch:=omega)only[↓RU,RV,RH,↓reduceIte,qE,reduceCtorEq,if_pos,↓RS,RG,qA,qM,qL]
 apply hK;clear hK K
 refine W.cond rfl (fun h0=>?_) (fun h0=>?_)
 ·skip
  have hp:zbx p=false:=by simpa using h0
  refine W.r fun K hK=>?_
  simp(disch:=omega)only[↓RU,RV,RH,↓reduceIte,qE,reduceCtorEq,if_pos,↓RS,RG,qA,qM,qL]
  apply hK;clear hK K
  refine W.ret ?_
  refine XThen.ret ?_
  refine Br rfl ?_
  rw [hp]
  rfl
 skip
 have hp:zbx p=true:=by simpa using h0
 obtain rfl:=hxy hp
 have hT:=zwf hp
 obtain ⟨v2,b2,e2⟩:=zki (enc:=fun x:Txt=>PV.str x) (zero := .str []) (room:=z6p) (cut:=z6q) (zck (zam p) (zj8 p))
 have hs2:∃ s:Txt,v2 = .str s:=by cases h:(zck (zam p) (zj8 p)) <;> rw [h]at e2 <;> cases e2 <;> exact ⟨_,rfl⟩
 obtain ⟨s,rfl⟩:=hs2
 rw [e2]at hT
 refine W.skip ?_
 refine xn ?_
 refine W.r fun K hK=>?_
 simp(disch:=omega)only[↓RU,RV,RH,↓reduceIte,qE,reduceCtorEq,if_pos,qN,↓RS,RG,qA,qM,qL]
 refine zae.pc (z57 hp) rfl (.inr rfl) ?_
 simp(disch:=omega)only[↓RU,RV,RH,↓reduceIte,qE,reduceCtorEq,if_pos,qN,↓RS,RG,qA,qM,qL]
 refine zae.pc (hT) rfl (.inl rfl) ?_
 simp(disch:=omega)only[↓RU,RV,RH,↓reduceIte,qE,reduceCtorEq,if_pos,qN,↓RS,RG,qA,qM,qL]
 apply hK;clear hK K
 refine W.ret ?_
 refine Br rfl ?_
 rw [hp,if_pos rfl,e2]
 rfl
theorem zxz {p:List Txt} (hs:Sm p):PC Tryz.prog 12 [zaz p] (.bool (yad p)) true:=by
 have hT:=zz8 hs
 obtain ⟨v2,b2,e2⟩:=zki (enc:=fun x:Txt=>PV.str x) (zero := .str []) (room:=z6p) (cut:=z6q) (if zbx p then (zck (zam p) (zj8 p)) else none)
 have hb:b2=yad p:=by
  unfold yad
  cases hp:zbx p with
  | false=>rw [hp]at e2; cases e2; rfl
  | true=>rw [hp]at e2; cases h:(zck (zam p) (zj8 p)) <;> simp only[if_true,h]at e2 <;> cases e2 <;> rfl
 rw [e2]at hT
 refine PC.of ⟨Tryz.func12,by kernel_rfl,rfl,by kernel_rfl⟩ zav mixed (by show 1≤Tryz.f12.ntmps; decide) ?_
 refine W.r fun K hK=>?_
 simp(disch:=omega)only[↓RU,RV,RH,↓reduceIte,qE,reduceCtorEq,if_pos]
 apply hK;clear hK K
 refine W.r fun K hK=>?_
 simp(disch:=omega)only[↓RU,RV,RH,↓reduceIte,qE,reduceCtorEq,if_pos,qN]
 refine zae.pc (hT) rfl (.inl rfl) ?_
 simp(disch:=omega)only[↓RU,RV,RH,↓reduceIte,qE,reduceCtorEq,if_pos,qN]
 apply hK;clear hK K
 refine W.r fun K hK=>?_
 simp(disch:=omega)only[↓RU,RV,RH,↓reduceIte,qE,reduceCtorEq,if_pos]
 apply hK;clear hK K
 refine W.ret ?_
 refine Br rfl ?_
 rw [← hb]
 rfl




theorem zgv {S:Store} {a b:Bool}:pEq tab S 4 (.bool a) (.bool b)=some (a == b):=rfl


section
section
variable {n:Nat} {M X:List (List Bool)}
def rvB (M:List (List Bool)) (a:Nat) (X:List (List Bool)) (b:Nat):List (List Bool):=z6a X b a (zci M a b)
def rvA (n:Nat) (M:List (List Bool)) (X:List (List Bool)) (a:Nat):List (List Bool):=(List.range n).foldl (rvB M a) X
def rv (n:Nat) (M:List (List Bool)):List (List Bool):=(List.range n).foldl (rvA n M) (zfo n)
end
end




theorem zgi {p q:List Txt} (hs:Sm p):PC Tryz.prog 9 [zaz p,zaz q] (.bool (decide (p=q))) true:=by
 have hp:=hs.rows
 have hr:=hs.cols
 refine PC.of ⟨Tryz.func9,by kernel_rfl,rfl,by kernel_rfl⟩ zav mixed (by show 2≤Tryz.f9.ntmps; decide) ?_
 refine W.r fun K hK=>?_
 simp(disch:=omega)only[↓RU,RV,RH,↓reduceIte,qE,reduceCtorEq,if_pos]
 apply hK;clear hK K
 refine W.seq ?_
 refine W.r fun K hK=>?_
 simp(disch:=omega)only[↓RU,RV,RH,↓reduceIte,qE,reduceCtorEq,if_pos,w64,ty5,zaa,zab]
 apply hK;clear hK K
 refine W.cond rfl (fun h0=>?_) (fun h0=>?_)
 ·try simp only[RL]at h0
  skip
  refine W.r fun K hK=>?_
  simp(disch:=omega)only[↓RU,RV,RH,↓reduceIte,qE,reduceCtorEq,if_pos]
  apply hK;clear hK K
  refine W.ret ?_
  refine XThen.ret ?_
  refine Br rfl ?_
  have:p≠q:=fun e=>h0 (by rw [e])
  simp [this]; rfl
 try simp only[RL]at h0
 refine W.skip ?_
 refine xn ?_
 refine W.seq ?_
 refine W.r fun K hK=>?_
 simp(disch:=omega)only[↓RU,RV,RH,↓reduceIte,qE,reduceCtorEq,if_pos]
 apply hK;clear hK K
 refine W.block ?_
 refine W.loop [0,1,5] (fun n vs S=>∃ i:Nat,n=p.length - i∧i≤p.length∧(p.take i=q.take i)∧vs=[zaz p,zaz q,.int .i64 i]∧S=⟨[],0⟩) (p.length) ?_ ?_
 ·refine ⟨0,0,rfl,Nat.zero_le _,rfl,?_,rfl⟩
  simp [Env.put,Env.of,zaj]
 rintro n vs S - ⟨i,rfl,h_i,hq,rfl,rfl⟩
 refine W.seq ?_
 refine W.r fun K hK=>?_
 simp(disch:=omega)only[↓RU,RV,RH,↓reduceIte,qE,reduceCtorEq,if_pos,w64,ty5,zaa,zab]
 apply hK;clear hK K
 refine W.cond rfl (fun h1=>?_) (fun h1=>?_)
 ·try simp only[RL]at h1
  obtain ⟨row,hrow,hrm⟩:=zag (show i<p.length by omega)
  obtain ⟨row2,hrow2,-⟩:=zag (show i<q.length by omega)
  refine W.skip ?_
  refine xn ?_
  refine W.seq ?_
  refine W.block ?_
  refine W.seq_draw (by kernel_rfl) fun K hK=>?_
  simp(disch:=omega)only[↓RU,RV,RH,↓reduceIte,qE,reduceCtorEq,if_pos,w64,ty5,zab,hrow,hrow2,z7m]
  apply hK;clear hK K
  refine W.cond rfl (fun h2=>?_) (fun h2=>?_)
  ·try simp only[RL]at h2
   refine W.r fun K hK=>?_
   simp(disch:=omega)only[↓RU,RV,RH,↓reduceIte,qE,reduceCtorEq,if_pos]
   apply hK;clear hK K
   refine W.ret ?_
   refine XBlock.ret ?_
   refine XThen.ret ?_
   refine XThen.ret ?_
   refine XBlock.ret ?_
   refine XThen.ret ?_
   refine Br rfl ?_
   have:p≠q:=fun e=>h2 (by rw [e,hrow2]at hrow; exact (Option.some.inj hrow).symm)
   simp [this]; rfl
  try simp only[RL]at h2
  refine W.skip ?_
  refine XbN ?_
  refine xn ?_
  refine W.k fun K hK=>?_
  simp(disch:=omega)only[↓RU,RV,RH,↓reduceIte,qE,reduceCtorEq,if_pos,w64,zaa]
  apply hK;clear hK K
  refine xn ?_
  refine ⟨p.length - (i+1),by omega,0,i+1,rfl,by omega,by rw [tk hrow,tk hrow2,hq,h2],?_,rfl⟩
  simp [Env.put,Env.of]
 try simp only[RL]at h1
 refine W.exit ?_
 refine xe ?_
 refine xe ?_
 refine XBlock.hit ?_
 refine xn ?_
 refine W.r fun K hK=>?_
 simp(disch:=omega)only[↓RU,RV,RH,↓reduceIte,qE,reduceCtorEq,if_pos]
 apply hK;clear hK K
 refine W.ret ?_
 refine Br rfl ?_
 have hip:i=p.length:=by omega
 have h0n:p.length=q.length:=by omega
 have:p=q:=by rw [hip,List.take_length,h0n,List.take_length]at hq; exact hq
 simp [this]; rfl
theorem zm3 {p:List Txt} (hs:Sm p):PC Tryz.prog 11 [zaz p] (.bool (zfu p)) true:=by
 obtain ⟨x,hx,hxy,hxr⟩:=z00 hs
 refine PC.of ⟨Tryz.func11,by kernel_rfl,rfl,by kernel_rfl⟩ zav mixed (by show 1≤Tryz.f11.ntmps; decide) ?_
 refine W.r fun K hK=>?_
 simp(disch:=omega)only[↓RU,RV,RH,↓reduceIte,qE,reduceCtorEq,if_pos,↓RS,RG,qA,qM,qL]
 apply hK;clear hK K
 refine W.r fun K hK=>?_
 simp(disch:=omega)only[↓RU,RV,RH,↓reduceIte,qE,reduceCtorEq,if_pos,qN,↓RS,RG,qA,qM,qL]
 refine zae.pc (hx) rfl (.inr rfl) ?_
 simp(disch:=omega)only[↓RU,RV,RH,↓reduceIte,qE,reduceCtorEq,if_pos,qN,↓RS,RG,qA,qM,qL]
 apply hK;clear hK K
 refine W.r fun K hK=>?_
 simp(disch:=omega)only[↓RU,RV,RH,↓reduceIte,qE,reduceCtorEq,if_pos,↓RS,RG,qA,qM,qL]
 apply hK;clear hK K
 refine W.ret ?_
 refine Br rfl ?_
 rfl
theorem zvv {code:Txt} (hcode:code.length≤9223372036854775807):PC Tryz.prog 3 [eBy code] (.bool true) true:=by
 refine PC.of ⟨Tryz.func3,by kernel_rfl,rfl,by kernel_rfl⟩ zav mixed (by show 1≤Tryz.f3.ntmps; decide) ?_
 refine W.r fun K hK=>?_
 simp(disch:=omega)only[↓RU,RV,RH,↓reduceIte,qE,reduceCtorEq,if_pos,↓RS,RG,qA,qM,qL]
 apply hK;clear hK K
 refine W.seq ?_
 refine W.r fun K hK=>?_
 simp(disch:=omega)only[↓RU,RV,RH,↓reduceIte,qE,reduceCtorEq,if_pos,w64,↓RS,RG,qA,qM,qL,ty6,zaa,za0]
 apply hK;clear hK K
 refine W.cond rfl (fun h0=>?_) (fun h0=>?_)
 ·try simp only[RL]at h0
  refine W.r fun K hK=>?_
  simp(disch:=omega)only[↓RU,RV,RH,↓reduceIte,qE,reduceCtorEq,if_pos,↓RS,RG,qA,qM,qL]
  apply hK;clear hK K
  refine W.ret ?_
  refine XThen.ret ?_
  refine Br rfl ?_
  rfl
 try simp only[RL]at h0
 have hcl:code.length≤1048576:=by omega
 refine W.skip ?_
 refine xn ?_
 refine W.r fun K hK=>?_
 simp(disch:=omega)only[↓RU,RV,RH,↓reduceIte,qE,reduceCtorEq,if_pos,qN,↓RS,RG,qA,qM,qL]
 refine zae.ev (zn9 hcl) ?_
 rintro _ _ ⟨s,t,rfl,hs,rfl⟩
 simp(disch:=omega)only[↓RU,RV,RH,↓reduceIte,qE,reduceCtorEq,if_pos,qN,↓RS,RG,qA,qM,qL]
 apply hK;clear hK K
 refine W.r fun K hK=>?_
 have hT:=zpp s (by omega)
 rw [z9q]at hT
 simp(disch:=omega)only[↓RU,RV,RH,↓reduceIte,qE,reduceCtorEq,if_pos,qN,↓RS,RG,qA,qM,qL,ppR]
 refine zae.pc (hT) rfl (.inr rfl) ?_
 simp(disch:=omega)only[↓RU,RV,RH,↓reduceIte,qE,reduceCtorEq,if_pos,qN,↓RS,RG,qA,qM,qL,ppR]
 apply hK;clear hK K
 refine W.r fun K hK=>?_
 simp(disch:=omega)only[↓RU,RV,RH,↓reduceIte,qE,reduceCtorEq,if_pos,qN,↓RS,RG,qA,qM,qL,ppR]
 refine zae.pc (zvo s (by omega)) rfl (.inr rfl) ?_
 simp(disch:=omega)only[↓RU,RV,RH,↓reduceIte,qE,reduceCtorEq,if_pos,qN,↓RS,RG,qA,qM,qL,ppR]
 apply hK;clear hK K
 refine W.seq ?_
 refine W.r fun K hK=>?_
 rcases hv:tpV s with _ | p
 ·skip
  simp only[znr,Option.isSome_none]
  simp(disch:=omega)only[↓RU,RV,RH,↓reduceIte,qE,reduceCtorEq,if_pos,w64,qN,↓RS,RG,qA,qM,qL,za6,zgv,qO,bne_self_eq_false,beq_self_eq_true,Bool.not_true,Bool.not_false,decide_true]
  refine zae.pc (zgi (p:=([]:List Txt)) (q:=([]:List Txt)) ⟨by simp,by simp⟩) rfl (.inl rfl) ?_
  simp(disch:=omega)only[↓RU,RV,RH,↓reduceIte,qE,reduceCtorEq,if_pos,w64,qN,↓RS,RG,qA,qM,qL,za6,zgv,qO,bne_self_eq_false,beq_self_eq_true,Bool.not_true,Bool.not_false,decide_true]
  apply hK;clear hK K
  refine W.cond rfl (fun h1=>?_) (fun h1=>?_)
  ·try simp only[RL]at h1
   refine W.r fun K hK=>?_
   simp(disch:=omega)only[↓RU,RV,RH,↓reduceIte,qE,reduceCtorEq,if_pos,w64,qN,↓RS,RG,qA,qM,qL,za6,zgv,qO,bne_self_eq_false,beq_self_eq_true,Bool.not_true,Bool.not_false,decide_true]
   refine zae.pc (zgi (p:=([]:List Txt)) (q:=([]:List Txt)) ⟨by simp,by simp⟩) rfl (.inl rfl) ?_
   simp(disch:=omega)only[↓RU,RV,RH,↓reduceIte,qE,reduceCtorEq,if_pos,w64,qN,↓RS,RG,qA,qM,qL,za6,zgv,qO,bne_self_eq_false,beq_self_eq_true,Bool.not_true,Bool.not_false,decide_true]
   apply hK;clear hK K
   refine W.ret ?_
   refine XThen.ret ?_
   refine Br rfl ?_
   rfl
  try simp only[RL]at h1
  exact absurd h1 (by simp)
 skip
 simp only[zk2,Option.isSome_some]
 obtain ⟨u,-,-,hpl,-,-,hcut⟩:=z9r hv
 obtain ⟨b1,b2,b3,b4,b5⟩:=zhc hpl
 have hm:=zif hpl
 simp(disch:=omega)only[↓RU,RV,RH,↓reduceIte,qE,reduceCtorEq,if_pos,w64,qN,↓RS,RG,qA,qM,qL,za6,zgv,qO,bne_self_eq_false,beq_self_eq_true,Bool.not_true,Bool.not_false,decide_true]
 refine zae.pc (zgi (p:=p) (q:=p) b5) rfl (.inl rfl) ?_
 simp(disch:=omega)only[↓RU,RV,RH,↓reduceIte,qE,reduceCtorEq,if_pos,w64,qN,↓RS,RG,qA,qM,qL,za6,zgv,qO,bne_self_eq_false,beq_self_eq_true,Bool.not_true,Bool.not_false,decide_true]
 apply hK;clear hK K
 refine W.cond rfl (fun h1=>?_) (fun h1=>?_)
 ·try simp only[RL]at h1
  exact absurd h1 (by simp)
 try simp only[RL]at h1
 refine W.skip ?_
 refine xn ?_
 refine W.r fun K hK=>?_
 simp(disch:=omega)only[↓RU,RV,RH,↓reduceIte,qE,reduceCtorEq,if_pos,qN,↓RS,RG,qA,qM,qL]
 refine zae.pc (zwz b5 hpl) rfl (.inr rfl) ?_
 simp(disch:=omega)only[↓RU,RV,RH,↓reduceIte,qE,reduceCtorEq,if_pos,qN,↓RS,RG,qA,qM,qL]
 apply hK;clear hK K
 refine W.r fun K hK=>?_
 have hT2:=zpp (62::s) (by rw [List.length_cons]; omega)
 rw [z9q]at hT2
 have l62:([62]:Txt).length=1:=rfl
 simp(disch:=omega)only[↓RU,RV,RH,↓reduceIte,qE,reduceCtorEq,if_pos,w64,qN,↓RS,RG,qA,qM,qL,zab,zev]
 refine zae.pc (hT2) rfl (.inr rfl) ?_
 simp(disch:=omega)only[↓RU,RV,RH,↓reduceIte,qE,reduceCtorEq,if_pos,w64,qN,↓RS,RG,qA,qM,qL,zab,zev,ppR]
 apply hK;clear hK K
 refine W.r fun K hK=>?_
 have hpi:zfu p=true:=by rw [zh6]; exact hpl
 by_cases h59:s.length≤59
 ·skip
  have d59:decide ((s.length:Int)>59)=false:=decide_eq_false (by omega)
  rw [z8c hv h59]
  simp only[zk2,Option.isSome_some]
  simp(disch:=omega)only[↓RU,RV,RH,↓reduceIte,qE,reduceCtorEq,if_pos,qN,w64,↓RS,RG,qA,qM,qL,zaa,zab,zgv,qO,bne_self_eq_false,beq_self_eq_true,Bool.not_true,Bool.not_false,decide_true,d59,hpi,hcut]
  refine zae.pc (zm3 b5) rfl (.inl rfl) ?_
  simp(disch:=omega)only[↓RU,RV,RH,↓reduceIte,qE,reduceCtorEq,if_pos,qN,w64,↓RS,RG,qA,qM,qL,zaa,zab,zgv,qO,bne_self_eq_false,beq_self_eq_true,Bool.not_true,Bool.not_false,decide_true,d59,hpi,hcut]
  refine zae.pc (zxz b5) rfl (.inl rfl) ?_
  simp(disch:=omega)only[↓RU,RV,RH,↓reduceIte,qE,reduceCtorEq,if_pos,qN,w64,↓RS,RG,qA,qM,qL,zaa,zab,zgv,qO,bne_self_eq_false,beq_self_eq_true,Bool.not_true,Bool.not_false,decide_true,d59,hpi,hcut]
  refine zae.pc (zgi (p:=nm (zl8 p)) (q:=nm (zl8 p)) hm.sm) rfl (.inl rfl) ?_
  simp(disch:=omega)only[↓RU,RV,RH,↓reduceIte,qE,reduceCtorEq,if_pos,qN,w64,↓RS,RG,qA,qM,qL,zaa,zab,zgv,qO,bne_self_eq_false,beq_self_eq_true,Bool.not_true,Bool.not_false,decide_true,d59,hpi,hcut]
  apply hK;clear hK K
  refine W.ret ?_
  refine Br rfl ?_
  rfl
 skip
 have d59:decide ((s.length:Int)>59)=true:=decide_eq_true (by omega)
 simp(disch:=omega)only[↓RU,RV,RH,↓reduceIte,qE,reduceCtorEq,if_pos,qN,w64,↓RS,RG,qA,qM,qL,zaa,zab,zgv,qO,bne_self_eq_false,beq_self_eq_true,Bool.not_true,Bool.not_false,decide_true,d59,hpi,hcut]
 refine zae.pc (zm3 b5) rfl (.inl rfl) ?_
 simp(disch:=omega)only[↓RU,RV,RH,↓reduceIte,qE,reduceCtorEq,if_pos,qN,w64,↓RS,RG,qA,qM,qL,zaa,zab,zgv,qO,bne_self_eq_false,beq_self_eq_true,Bool.not_true,Bool.not_false,decide_true,d59,hpi,hcut]
 refine zae.pc (zxz b5) rfl (.inl rfl) ?_
 simp(disch:=omega)only[↓RU,RV,RH,↓reduceIte,qE,reduceCtorEq,if_pos,qN,w64,↓RS,RG,qA,qM,qL,zaa,zab,zgv,qO,bne_self_eq_false,beq_self_eq_true,Bool.not_true,Bool.not_false,decide_true,d59,hpi,hcut]
 apply hK;clear hK K
 refine W.ret ?_
 refine Br rfl ?_
 rfl
end Fw
end Go.Proofs.YtcfgpmeebpinaaaGreat
namespace Go.Proofs.YtcfgpmeebpinaaaGreat
open Go Go.ChangeShapes Go.WideShapes Go.ChangeAt Go.RowKit Fw
theorem Tryz.ownRoa:ownKnob Tryz.prog.godebug=none:=by kernel_rfl
theorem Tryz.laidOutRoa:laidOutB Tryz.prog=true:=by kernel_rfl
set_option maxRecDepth 100000 in
theorem roa_lifted (os:Os) (started:os.Started) (H:Type) (enc:TypeId × Value→H) :
  ReturnsInHanded {} Tryz.checked os 3 .any (Rows.fnTermPlanSpec.pre6 enc Tryz.prog Tryz.f3 Rows.fnTermPlanRow.domain false) (Rows.fnTermPlanSpec.post enc Tryz.prog Tryz.f3 false true false false):=by
 refine returnsInHanded_of_change (C:=Tryz.checked) Tryz.ownRoa started (by kernel_rfl) Tryz.func3
  (ChangeSpec.witness6 (enc:=enc) (C:=Tryz.checked) false ⟨#[],#[.slice none 0 0],[]⟩ 8 (by kernel_rfl) (by kernel_rfl) (by kernel_rfl) (by kernel_rfl)) ?_
 intro W base args ds gs before hval0 hW hcnd _
 have hval:∀ (j:Nat) t v,Tryz.f3.params[j]?=some t→args[j]?=some v→Value.okWide Tryz.prog W .any base t v:=hval0
 have hW':=hW
 obtain ⟨p,q,hA0,hV,rfl,hfz,hnd⟩:=hW
 have hA:DataW.TrodAll enc Tryz.prog W 0 (fun _=>true) true Tryz.f3.params.toList args.toList ds p:=hA0
 rw [Tryz.params3]at hA hval
 obtain ⟨v0,d0,rfl,rfl,h0⟩:=trodAll_one hA
 obtain ⟨rfl,rfl⟩:=trodVars_none hV
 obtain ⟨l0,i0,b0⟩:=z8j (hval 0 _ v0 rfl rfl) h0
 have hlt:∀ x∈p,x.block<W.heap.size:=fun x hx=>hW'.lt x (by simp [hx])
 refine ((zvv b0).run (fun b=>b<W.heap.size) W #[v0] (fun _ h=>h) rfl ?_).mono ?_
 ·rintro (_ | i) p c hp hc
  ·cases hp; cases hc; exact i0
  simp at hp
 rintro e W' ⟨cv,rfl,⟨hB,_⟩,hr⟩
 have hcv:cv = .bool true:=by cases hr; rfl
 subst hcv
 have t0:=Below.trod Tryz.laidOutRoa (by kernel_rfl) (of_decide_eq_true (by kernel_rfl)) h0 hB fun x hx=>hlt x (by simp [hx])
 refine ⟨_,rfl,_,_,_,[],p,[],hW',?_,?_,?_,hB.frame _,fun h=>by cases h⟩
 ·exact trodAll_mk1 (shut_bool Tryz.underlying4 true)
 ·rw [Tryz.params3]; exact trodAll_mk1 t0
 trivial
theorem roa_holds:Rows.FnTermPlanSaid :=
 OpenClaim.holds_of_wide 3 Tryz.f3 rfl rfl rfl rfl rfl rfl rfl ⟨rfl,rfl,rfl,rfl,rfl⟩ rfl rfl rfl rfl rfl (by kernel_rfl) Tryz.func3 (by kernel_rfl)
  (of_decide_eq_true (by kernel_rfl)) (by unfold Func.isWrapper; first | (rw [if_pos (by decide +kernel)]; kernel_rfl) | (rw [if_neg (by decide +kernel)]; exact ⟨rfl,rfl⟩))
  (fun os started H enc _=>roa_lifted os started H enc)
end Go.Proofs.YtcfgpmeebpinaaaGreat
