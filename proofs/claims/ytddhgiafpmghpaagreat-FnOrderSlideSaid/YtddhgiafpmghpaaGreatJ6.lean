/- Plans are among those that have their permutation, and as many have the turned plan's: the law FnOrderSlide answers true for all codes. No condition. -/
import Derived.Test.YtddhgiafpmghpaaGreatJ5
import Derived.Test.YtddhgiafpmghpaaGreatJ3
set_option linter.all false
namespace Go.Proofs.YtddhgiafpmghpaaGreat
namespace Fw
open Go
open Nat renaming reduceEqDiff → qE, reduceLeDiff → qL, reduceAdd → qA, reduceMul → qM, le_refl → qR
open List renaming append_nil → qN, mapM_append → qP, mapM_cons → qC, mapM_map → qU, range_succ → qS, take_of_length_le → qT
open Bool renaming and_eq_true → qB, false_eq_true → qF
open Option renaming map_some → qO, map_eq_some_iff → qI
open Int renaming reduceToNat → qZ
theorem zr1 {p:List Txt} {L:List (List Txt)} (hL:L.length≤1000000000):L.foldl (slN p) 0=((L.countP (zh2 (zca p)):Nat):Int):=by
 have key:∀ i,i≤L.length→(L.take i).foldl (slN p) 0=(((L.take i).countP (zh2 (zca p)):Nat):Int):=by
  intro i
  induction i with
  | zero=>intro _; rfl
  | succ i ih =>
   intro h
   obtain ⟨h1,h2⟩:=zr0 (p:=p) hL i (by omega)
   obtain ⟨q,hq,-⟩:=zae (show i<L.length by omega)
   rw [tk hq,List.foldl_append,List.foldl_cons,List.foldl_nil,zvw h1 (by omega),ih (by omega),List.countP_append,List.countP_singleton]
   split <;> simp
 have:=key L.length (qR _)
 rwa [List.take_length]at this
theorem z2l {p q:List Txt} (hp:zb1 p=true) (hq:zb1 q=true) (hl:q.length=p.length) (hw:(zag q).length=(zag p).length)
  (h:∀ i j i' j',i<p.length→j<(zag p).length→i'<p.length→j'<(zag p).length→(zby p i j=zby p i' j'↔zby q i j=zby q i' j')):p=q:=by
 have nmp:∀ {x:List Txt},zb1 x=true→nm (za7 x)=x:=fun {x} hx=>by
  rw [← ybc (zek hx)]
  have:=hx
  unfold zb1 at this
  simp only[qB,decide_eq_true_eq]at this
  exact this.1.1.2
 have hg1:=z2u (zek hp)
 have hg2:=z2u (zek hq)
 rw [hl,hw]at hg2
 have s1:=zu0 (zek hp)
 have s2:=zu0 (zek hq)
 rw [hl,hw]at s2
 rw [← nmp hp,← nmp hq]
 refine yfd hg1 hg2 fun i j i' j' hi hj hi' hj'=>?_
 have:=h i j i' j' hi hj hi' hj'
 rw [zn0 s1 hi hj,zn0 s1 hi' hj',zn0 s2 hi hj,zn0 s2 hi' hj']
 simp only[zjw]at this
 omega
structure TurnOf (p t:List Txt):Prop where
 plan:zb1 t=true
 h:t.length=(zag p).length
 w:(zag t).length=p.length
 pat:∀ i j i' j',i<(zag p).length→j<p.length→i'<(zag p).length→j'<p.length→(zby t i j=zby t i' j'↔zby p (p.length - 1 - j) i=zby p (p.length - 1 - j') i')
theorem zlp {p:List Txt} (hp:za3 p=true):TurnOf p (nm (zht p)):=by
 have m:=zie hp
 refine ⟨m.plan,m.ren.hl,m.ren.wl,fun i j i' j' hi hj hi' hj'=>?_⟩
 have h:=m.ren.pat i j i' j' hi hj hi' hj'
 have a1:=zgw m.plan (i:=i) (j:=j) (by rw [m.ren.hl]; exact hi) (by rw [m.ren.wl]; exact hj)
 have a2:=zgw m.plan (i:=i') (j:=j') (by rw [m.ren.hl]; exact hi') (by rw [m.ren.wl]; exact hj')
 have b1:=zgw (zc0 hp) (i:=p.length - 1 - j) (j:=i) (by omega) hi
 have b2:=zgw (zc0 hp) (i:=p.length - 1 - j') (j:=i') (by omega) hi'
 unfold tr fl at h
 omega
theorem TurnOf.back {p t u:List Txt} (hp:zb1 p=true) (hu:zb1 u=true) (h:TurnOf p t) (k:TurnOf u t):p=u:=by
 have e1:u.length=p.length:=by rw [← h.w,k.w]
 have e2:(zag u).length=(zag p).length:=by rw [← h.h,k.h]
 refine z2l hp hu e1 e2 fun i j i' j' hi hj hi' hj'=>?_
 have a:=h.pat j (p.length - 1 - i) j' (p.length - 1 - i') hj (by omega) hj' (by omega)
 have b:=k.pat j (p.length - 1 - i) j' (p.length - 1 - i') (by omega) (by omega) (by omega) (by omega)
 rw [show p.length - 1 - (p.length - 1 - i)=i by omega,show p.length - 1 - (p.length - 1 - i')=i' by omega]at a
 rw [e1,show p.length - 1 - (p.length - 1 - i)=i by omega,show p.length - 1 - (p.length - 1 - i')=i' by omega]at b
 rw [← a,b]
theorem TurnOf.four {p a b c d:List Txt} (hp:zb1 p=true) (h1:TurnOf p a) (h2:TurnOf a b) (h3:TurnOf b c) (h4:TurnOf c d):d=p:=by
 have ea:=h1.h; have wa:=h1.w; have eb:=h2.h; have wb:=h2.w; have ec:=h3.h; have wc:=h3.w; have ed:=h4.h; have wd:=h4.w
 refine z2l h4.plan hp (by omega) (by omega) fun i j i' j' hi hj hi' hj'=>?_
 rw [h4.pat i j i' j' (by omega) (by omega) (by omega) (by omega),h3.pat _ _ _ _ (by omega) (by omega) (by omega) (by omega),h2.pat _ _ _ _ (by omega) (by omega) (by omega) (by omega),h1.pat _ _ _ _ (by omega) (by omega) (by omega) (by omega)]
 rw [show p.length - 1 - (b.length - 1 - i)=i by omega,show p.length - 1 - (b.length - 1 - i')=i' by omega,show a.length - 1 - (c.length - 1 - j)=j by omega,show a.length - 1 - (c.length - 1 - j')=j' by omega]
theorem ybd {α:Type} {l:List α} (h:l.Nodup) {a b:Nat} {v:α} (ha:l[a]?=some v) (hb:l[b]?=some v):a=b:=by
 obtain ⟨p1,q1⟩:=List.getElem?_eq_some_iff.1 ha
 obtain ⟨p2,q2⟩:=List.getElem?_eq_some_iff.1 hb
 have h2:=List.pairwise_iff_getElem.1 h
 rcases Nat.lt_trichotomy a b with e | e | e
 ·exact absurd (q1.trans q2.symm) (h2 a b p1 p2 e)
 ·exact e
 exact absurd (q2.trans q1.symm) (h2 b a p2 p1 e)
theorem yhb {α β:Type} [BEq β] [LawfulBEq β] {l1:List α} {l2:List β} (f:α→β) (n1:l1.Nodup) (hi:∀ a∈l1,∀ b∈l1,f a=f b→a=b) (hm:∀ a∈l1,f a∈l2):l1.length≤l2.length:=by
 have hx:∀ k,k<l1.length→∃ a,l1[k]?=some a∧a∈l1:=fun k hk=>zae hk
 let σ:Nat→Nat:=fun k=>match l1[k]? with | some a=>l2.idxOf (f a) | none=>0
 have hσ:∀ k a,l1[k]?=some a→σ k=l2.idxOf (f a):=fun k a h=>by simp only[σ,h]
 refine yiw (σ:=σ) (fun k hk=>?_) (fun k k2 hk hk2 e=>?_)
 ·obtain ⟨a,ha,hm1⟩:=hx k hk
  rw [hσ k a ha]
  exact List.idxOf_lt_length_of_mem (hm a hm1)
 obtain ⟨a,ha,hm1⟩:=hx k hk
 obtain ⟨b,hb,hm2⟩:=hx k2 hk2
 rw [hσ k a ha,hσ k2 b hb]at e
 have e1:=List.getElem_idxOf (List.idxOf_lt_length_of_mem (hm a hm1))
 have e2:=List.getElem_idxOf (List.idxOf_lt_length_of_mem (hm b hm2))
 have e3:f a=f b:=by
  rw [← e1,← e2]
  congr 1
 have:=hi a hm1 b hm2 e3
 subst this
 exact ybd n1 ha hb
theorem zpx {p:List Txt} (hp:za3 p=true) (h9:p.length*(zag p).length≤9) :
  (zdx p.length (zag p).length).countP (zh2 (zca p))≤(zdx (zag p).length p.length).countP (zh2 (zca (nm (zht p)))):=by
 have hg:=zhi (zc0 hp)
 obtain ⟨-,-,g1,g2,g3,g4⟩:=hg
 rw [List.countP_eq_length_filter,List.countP_eq_length_filter]
 have facts:∀ q∈(zdx p.length (zag p).length).filter (zh2 (zca p)),za3 q=true∧q.length=p.length∧(zag q).length=(zag p).length∧zca q=zca p:=by
  intro q hq
  obtain ⟨h1,h2⟩:=List.mem_filter.1 hq
  obtain ⟨h3,h4⟩:=zts h9 g1 g2 g3 g4 h1
  unfold zh2 at h2
  rw [qB,decide_eq_true_eq,zbl]at h2
  exact ⟨h2.1,h4.h,h4.hd g1,h2.2⟩
 refine yhb (fun q=>nm (zht q)) ((z4l h9).filter _) (fun q hq u hu e=>?_) fun q hq=>?_
 ·have a:=zlp (facts q hq).1
  have b:=zlp (facts u hu).1
  rw [← e]at b
  exact a.back (zc0 (facts q hq).1) (zc0 (facts u hu).1) b
 obtain ⟨f1,f2,f3,f4⟩:=facts q hq
 have t:=zlp f1
 have m1:=zie f1
 have m2:=zie hp
 obtain ⟨s,-,i1⟩:=zu1 f1 m1.plan m1.ren
 obtain ⟨u,-,i2⟩:=zu1 hp m2.plan m2.ren
 have e:=z9u i1 i2 f1 hp f4
 refine List.mem_filter.2 ⟨?_,?_⟩
 ·have hin:=z2m t.plan (by rw [t.h,t.w,f2,f3,Nat.mul_comm]; exact h9)
  rw [t.h,t.w,f2,f3]at hin
  exact hin
 unfold zh2
 rw [zbl,i1.pl,e,decide_eq_true rfl]; rfl
theorem zn9 {p:List Txt} (hp:za3 p=true):za3 (nm (zht p))=true:=by
 have m:=zie hp
 obtain ⟨s,-,i⟩:=zu1 hp m.plan m.ren
 exact i.pl
theorem z48 {p:List Txt} (hb:zix p=true):zix (nm (zht p))=true∧zkx (nm (zht p))=zkx p∧1≤zkx p:=by
 have hb0:=hb
 unfold zix at hb
 rw [qB,decide_eq_true_eq,zbl]at hb
 obtain ⟨hp,h9⟩:=hb
 have t:=zlp hp
 have hp2:=zn9 hp
 have t2:=zlp hp2
 have hp3:=zn9 hp2
 have t3:=zlp hp3
 have hp4:=zn9 hp3
 have t4:=zlp hp4
 have e4:=t.four (zc0 hp) t2 t3 t4
 have h92:(nm (zht p)).length*(zag (nm (zht p))).length≤9:=by rw [t.h,t.w,Nat.mul_comm]; exact h9
 have h93:(nm (zht (nm (zht p)))).length*(zag (nm (zht (nm (zht p))))).length≤9:=by rw [t2.h,t2.w,Nat.mul_comm]; exact h92
 have h94:(nm (zht (nm (zht (nm (zht p)))))).length*(zag (nm (zht (nm (zht (nm (zht p))))))).length≤9:=by rw [t3.h,t3.w,Nat.mul_comm]; exact h93
 have l1:=zpx hp h9
 have l2:=zpx hp2 h92
 have l3:=zpx hp3 h93
 have l4:=zpx hp4 h94
 rw [e4]at l4
 have d1:=t.h; have d2:=t.w; have d3:=t2.h; have d4:=t2.w; have d5:=t3.h; have d6:=t3.w
 rw [d1,d2]at l2
 rw [d3,d4,d1,d2]at l3
 rw [d5,d6,d3,d4,d1,d2]at l4
 have hB:zix (nm (zht p))=true:=by unfold zix; rw [zbl,hp2,decide_eq_true h92]; rfl
 refine ⟨hB,?_,?_⟩
 ·unfold zkx
  rw [hB,hb0,if_pos rfl,if_pos rfl,zr1 (Nat.le_trans (z0v h92) (by omega)),zr1 (Nat.le_trans (z0v h9) (by omega)),d1,d2]
  omega
 unfold zkx
 rw [hb0,if_pos rfl,zr1 (Nat.le_trans (z0v h9) (by omega))]
 have hin:=z2m (zc0 hp) h9
 have:0<(zdx p.length (zag p).length).countP (zh2 (zca p)):=by
  rw [List.countP_pos_iff]
  refine ⟨p,hin,?_⟩
  unfold zh2
  rw [zbl,hp,decide_eq_true rfl]; rfl
 omega
theorem zwo {code:Txt} (hc:code.length≤1048576):Ev Tryz.prog 13 [eBy code] ⟨[],0⟩ fun v S=>∃ (p:List Txt) (t:Nat),Sm p∧v=zak p∧S=⟨[],t⟩:=by
 refine Ev.of ⟨Tryz.func13,by kernel_rfl,rfl,by kernel_rfl⟩ zan mixed (by show 1≤Tryz.f13.ntmps; decide) ?_
 refine W.r fun K hK=>?_
 simp(disch:=omega)only[↓RU,RV,RH,↓reduceIte,qE,reduceCtorEq,if_pos,↓RS,RG,qA,qM,qL]
 apply hK;clear hK K
 refine W.r fun K hK=>?_
 simp(disch:=omega)only[↓RU,RV,RH,↓reduceIte,qE,reduceCtorEq,if_pos,qN,↓RS,RG,qA,qM,qL,rdO]
 refine zad.pn (z7e hc) rfl (.inr rfl) ?_
 simp(disch:=omega)only[↓RU,RV,RH,↓reduceIte,qE,reduceCtorEq,if_pos,qN,↓RS,RG,qA,qM,qL,rdO,rdO,RN]
 apply hK;clear hK K
 refine W.r fun K hK=>?_
 have hc2:(code.take 2000).length≤1048576:=by rw [List.length_take]; omega
 generalize code.take 2000=code2 at hc2 ⊢
 simp(disch:=omega)only[↓RU,RV,RH,↓reduceIte,qE,reduceCtorEq,if_pos,qN,w64,↓RS,RG,qA,qM,qL,zaa]
 refine zad.ev (zfp (q:=0) hc2 (by omega) 24 (by omega) (by omega)) ?_
 rintro _ _ ⟨k,rfl,hkz,hk,rfl⟩
 have hkb:=hk (by omega)
 simp(disch:=omega)only[↓RU,RV,RH,↓reduceIte,qE,reduceCtorEq,if_pos,qN,w64,↓RS,RG,qA,qM,qL,zaa,yhu,tw0]
 rw [show (3:Int)+((k / 23:Nat):Int)=((3+k / 23:Nat):Int) by omega]
 refine zad.ev (zz2 (q:=0+1) (code:=code2) hc2 (by omega) (rows:=3) (cols:=3+k / 23) (by omega) (by omega) (by omega) (by omega)) ?_
 rintro _ _ ⟨p,q,t,rfl,hs,hl,hq,rfl⟩
 simp(disch:=omega)only[↓RU,RV,RH,↓reduceIte,qE,reduceCtorEq,if_pos,qN,w64,↓RS,RG,qA,qM,qL,zaa]
 apply hK;clear hK K
 refine W.ret ?_
 refine Br rfl ?_
 exact ⟨0,p,_,hs,rfl,rfl⟩
theorem zse {code:Txt} (hcode:code.length≤9223372036854775807):PC Tryz.prog 4 [eBy code] (.bool true) true:=by
 refine PC.of ⟨Tryz.func4,by kernel_rfl,rfl,by kernel_rfl⟩ zan mixed (by show 1≤Tryz.f4.ntmps; decide) ?_
 refine W.r fun K hK=>?_
 simp(disch:=omega)only[↓RU,RV,RH,↓reduceIte,qE,reduceCtorEq,if_pos,↓RS,RG,qA,qM,qL]
 apply hK;clear hK K
 refine W.seq ?_
 refine W.r fun K hK=>?_
 simp(disch:=omega)only[↓RU,RV,RH,↓reduceIte,qE,reduceCtorEq,if_pos,w64,↓RS,RG,qA,qM,qL,ty7,zaa,zd3]
 apply hK;clear hK K
 refine W.cond rfl (fun h0=>?_) (fun h0=>?_)
 ·try simp only[RL]at h0
  refine W.r fun K hK=>?_
  simp(disch:=omega)only[↓RU,RV,RH,↓reduceIte,qE,reduceCtorEq,if_pos,↓RS,RG,qA,qM,qL]
  apply hK;clear hK K
  refine W.ret ?_
  refine XThen.ret ?_
  refine Br rfl ?_
  rfl
 try simp only[RL]at h0
 have hcl:code.length≤1048576:=by omega
 refine W.skip ?_
 refine xn ?_
 refine W.r fun K hK=>?_
 simp(disch:=omega)only[↓RU,RV,RH,↓reduceIte,qE,reduceCtorEq,if_pos,qN,↓RS,RG,qA,qM,qL]
 refine zad.ev (zwo hcl) ?_
 rintro _ _ ⟨p,t,hs,rfl,rfl⟩
 simp(disch:=omega)only[↓RU,RV,RH,↓reduceIte,qE,reduceCtorEq,if_pos,qN,↓RS,RG,qA,qM,qL]
 apply hK;clear hK K
 refine W.r fun K hK=>?_
 simp(disch:=omega)only[↓RU,RV,RH,↓reduceIte,qE,reduceCtorEq,if_pos,qN,↓RS,RG,qA,qM,qL]
 refine zad.pc (z3f hs) rfl (.inl rfl) ?_
 simp(disch:=omega)only[↓RU,RV,RH,↓reduceIte,qE,reduceCtorEq,if_pos,qN,↓RS,RG,qA,qM,qL]
 apply hK;clear hK K
 refine W.r fun K hK=>?_
 simp(disch:=omega)only[↓RU,RV,RH,↓reduceIte,qE,reduceCtorEq,if_pos,qN,↓RS,RG,qA,qM,qL]
 refine zad.pc (z87 hs) rfl (.inl rfl) ?_
 simp(disch:=omega)only[↓RU,RV,RH,↓reduceIte,qE,reduceCtorEq,if_pos,qN,↓RS,RG,qA,qM,qL]
 apply hK;clear hK K
 refine W.seq ?_
 refine W.r fun K hK=>?_
 cases hv:zix p
 ·skip
  simp(disch:=omega)only[↓RU,RV,RH,↓reduceIte,qE,reduceCtorEq,if_pos,w64,↓RS,RG,qA,qM,qL,zat,zaa,z18,qO,bne_self_eq_false,beq_self_eq_true,Bool.not_true,Bool.not_false,decide_true,hv]
  apply hK;clear hK K
  refine W.cond rfl (fun h1=>?_) (fun h1=>?_)
  ·try simp only[RL]at h1
   refine W.r fun K hK=>?_
   simp(disch:=omega)only[↓RU,RV,RH,↓reduceIte,qE,reduceCtorEq,if_pos,w64,↓RS,RG,qA,qM,qL,zat,zaa,z18,qO,bne_self_eq_false,beq_self_eq_true,Bool.not_true,Bool.not_false,decide_true]
   apply hK;clear hK K
   refine W.ret ?_
   refine XThen.ret ?_
   refine Br rfl ?_
   rfl
  try simp only[RL]at h1
  exact absurd h1 (by simp)
 skip
 simp(disch:=omega)only[↓RU,RV,RH,↓reduceIte,qE,reduceCtorEq,if_pos,w64,↓RS,RG,qA,qM,qL,zat,zaa,z18,qO,bne_self_eq_false,beq_self_eq_true,Bool.not_true,Bool.not_false,decide_true,hv]
 apply hK;clear hK K
 refine W.cond rfl (fun h1=>?_) (fun h1=>?_)
 ·try simp only[RL]at h1
  exact absurd h1 (by simp)
 try simp only[RL]at h1
 obtain ⟨s1,s2,s3⟩:=z48 hv
 have hp:za3 p=true:=by
     have:=hv
     unfold zix at this
     rw [qB,zbl]at this
     exact this.1
 have hsm:=(zie hp).sm
 refine W.skip ?_
 refine xn ?_
 refine W.r fun K hK=>?_
 simp(disch:=omega)only[↓RU,RV,RH,↓reduceIte,qE,reduceCtorEq,if_pos,qN,↓RS,RG,qA,qM,qL]
 refine zad.pc (zz8 hs hp) rfl (.inr rfl) ?_
 simp(disch:=omega)only[↓RU,RV,RH,↓reduceIte,qE,reduceCtorEq,if_pos,qN,↓RS,RG,qA,qM,qL]
 apply hK;clear hK K
 refine W.r fun K hK=>?_
 simp(disch:=omega)only[↓RU,RV,RH,↓reduceIte,qE,reduceCtorEq,if_pos,qN,↓RS,RG,qA,qM,qL]
 refine zad.pc (z3f hsm) rfl (.inl rfl) ?_
 simp(disch:=omega)only[↓RU,RV,RH,↓reduceIte,qE,reduceCtorEq,if_pos,qN,↓RS,RG,qA,qM,qL]
 apply hK;clear hK K
 refine W.r fun K hK=>?_
 have hge:decide (zkx p ≥ 1)=true:=decide_eq_true s3
 simp(disch:=omega)only[↓RU,RV,RH,↓reduceIte,qE,reduceCtorEq,if_pos,w64,↓RS,RG,qA,qM,qL,zaa,z18,qO,bne_self_eq_false,beq_self_eq_true,Bool.not_true,Bool.not_false,decide_true,s1,s2,hge,beq_self_eq_true]
 apply hK;clear hK K
 refine W.ret ?_
 refine Br rfl ?_
 rfl
end Fw
end Go.Proofs.YtddhgiafpmghpaaGreat
namespace Go.Proofs.YtddhgiafpmghpaaGreat
open Go Go.ChangeShapes Go.WideShapes Go.ChangeAt Go.RowKit Fw
theorem Tryz.ownRsb:ownKnob Tryz.prog.godebug=none:=by kernel_rfl
theorem Tryz.laidOutRsb:laidOutB Tryz.prog=true:=by kernel_rfl
set_option maxRecDepth 100000 in
theorem rsb_lifted (os:Os) (started:os.Started) (H:Type) (enc:TypeId × Value→H) :
  ReturnsInHanded {} Tryz.checked os 4 .any (Rows.fnOrderSlideSpec.pre6 enc Tryz.prog Tryz.f4 Rows.fnOrderSlideRow.domain false) (Rows.fnOrderSlideSpec.post enc Tryz.prog Tryz.f4 false true false false):=by
 refine returnsInHanded_of_change (C:=Tryz.checked) Tryz.ownRsb started (by kernel_rfl) Tryz.func4
  (ChangeSpec.witness6 (enc:=enc) (C:=Tryz.checked) false ⟨#[],#[.slice none 0 0],[]⟩ 8 (by kernel_rfl) (by kernel_rfl) (by kernel_rfl) (by kernel_rfl)) ?_
 intro W base args ds gs before hval0 hW hcnd _
 have hval:∀ (j:Nat) t v,Tryz.f4.params[j]?=some t→args[j]?=some v→Value.okWide Tryz.prog W .any base t v:=hval0
 have hW':=hW
 obtain ⟨p,q,hA0,hV,rfl,hfz,hnd⟩:=hW
 have hA:DataW.TrodAll enc Tryz.prog W 0 (fun _=>true) true Tryz.f4.params.toList args.toList ds p:=hA0
 rw [Tryz.params4]at hA hval
 obtain ⟨v0,d0,rfl,rfl,h0⟩:=trodAll_one hA
 obtain ⟨rfl,rfl⟩:=trodVars_none hV
 obtain ⟨l0,i0,b0⟩:=yce (hval 0 _ v0 rfl rfl) h0
 have hlt:∀ x∈p,x.block<W.heap.size:=fun x hx=>hW'.lt x (by simp [hx])
 refine ((zse b0).run (fun b=>b<W.heap.size) W #[v0] (fun _ h=>h) rfl ?_).mono ?_
 ·rintro (_ | i) p c hp hc
  ·cases hp; cases hc; exact i0
  simp at hp
 rintro e W' ⟨cv,rfl,⟨hB,_⟩,hr⟩
 have hcv:cv = .bool true:=by cases hr; rfl
 subst hcv
 have t0:=Below.trod Tryz.laidOutRsb (by kernel_rfl) (of_decide_eq_true (by kernel_rfl)) h0 hB fun x hx=>hlt x (by simp [hx])
 refine ⟨_,rfl,_,_,_,[],p,[],hW',?_,?_,?_,hB.frame _,fun h=>by cases h⟩
 ·exact trodAll_mk1 (shut_bool Tryz.underlying4 true)
 ·rw [Tryz.params4]; exact trodAll_mk1 t0
 trivial
theorem rsb_holds:Rows.FnOrderSlideSaid :=
 OpenClaim.holds_of_wide 4 Tryz.f4 rfl rfl rfl rfl rfl rfl rfl ⟨rfl,rfl,rfl,rfl,rfl⟩ rfl rfl rfl rfl rfl (by kernel_rfl) Tryz.func4 (by kernel_rfl)
  (of_decide_eq_true (by kernel_rfl)) (by unfold Func.isWrapper; first | (rw [if_pos (by decide +kernel)]; kernel_rfl) | (rw [if_neg (by decide +kernel)]; exact ⟨rfl,rfl⟩))
  (fun os started H enc _=>rsb_lifted os started H enc)
end Go.Proofs.YtddhgiafpmghpaaGreat
