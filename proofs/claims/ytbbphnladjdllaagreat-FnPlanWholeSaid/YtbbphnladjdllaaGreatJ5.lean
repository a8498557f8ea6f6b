/- Parts of the framework and of the proof: The framework, part hb: a region in which two variables are made, either of them ahead of the other; The cuts of a part, and the first one, gone through; Cuts in the specification, gone through; Texts along cuts and widths along cuts in the specification, gone through; What comes of parts along first cuts, gone through; Parts that are stuck: the program, gone through; Is a plan cuttable: the program, gone through; Cuts, crosses, plans and lines, gone through; Plans that are cut, in plain words; Orders of two rooms, gone through; Sorting by a function, gone through; Sizes by the program, gone through; Sizes, gone through; the small functions of the statements; Marks, gone through; Places and slack by the specification, gone through; A relation the other way round, place by place; Places and slack by the program, gone through; Rooms in order by the program, gone through; The first and the second order, gone through; The orders by the specification, gone through; The framework, part z: a region in which the bytes of a text become a new row that is written later; Drawing: the reader, gone through; Plans cut in two, gone through; Drawing plans, gone through; Drawing plans, gone through, continued; Drawing needs, gone through; Areas, gone through; The law of areas, gone through; The laws of left and above, gone through; The law of places, gone through; Permutations by the program and by the specification, gone through; Cuts and orders: what lies on the two sides of a cut; widths along cuts are least widths; Plans that are cuttable, by the orders of their rooms; so by their permutations. -/
import Derived.Test.YtbbphnladjdllaaGreatJ4
import Derived.Test.YtbbphnladjdllaaGreatJ2
import Derived.Test.YtbbphnladjdllaaGreatJ3
import Derived.Test.YtbbphnladjdllaaGreatJ1
import Derived.Lib.ConvBytes
set_option linter.all false
namespace Go.Proofs.YtbbphnladjdllaaGreat
namespace Fw
open Go
open Nat renaming reduceEqDiff → qE, reduceLeDiff → qL, reduceAdd → qA, reduceMul → qM, le_refl → qR
open List renaming append_nil → qN, mapM_append → qP, mapM_cons → qC, mapM_map → qU, range_succ → qS, take_of_length_le → qT
open Bool renaming and_eq_true → qB, false_eq_true → qF
open Option renaming map_some → qO, map_eq_some_iff → qI
open Int renaming reduceToNat → qZ
section
section
variable {P:Program} {T:Tab} {F0:Nat→Prop} {G0:GSt} {w0:World} {N:Nat}
theorem z94 {e:Env} {S:Store} {o:Op} (hc:∀ c,o ≠ .call c) {K1 K2:PV→Store→Prop} (h1:pOp P T e S o K1) (h2:pOp P T e S o K2):pOp P T e S o fun v S'=>K1 v S'∧K2 v S':=by
 cases o with
 | call c=>exact absurd rfl (hc c)
 | alloc t=>exact ⟨h1.1,h1.2,h2.2⟩
 | box t x=>exact ⟨h1.1,h1.2.1,h1.2.2.1,h1.2.2.2,h2.2.2.2⟩
 | buildSlice t n ps =>
  simp only[pOp]at h1 h2 ⊢
  split at h1
  ·rename_i et hk
   rw [hk]at h2
   simp only at h2 ⊢
   refine ⟨h1.1,h1.2.1,?_⟩
   have h1:=h1.2.2
   have h2:=h2.2.2
   split at h1
   ·rename_i cells hf
    rw [hf]at h2
    simp only at h2 ⊢
    exact ⟨h1.1,h1.2,h2.2⟩
   exact h1.elim
  exact h1.elim
 | makeSlice t l c =>
  simp only[pOp]at h1 h2 ⊢
  split at h1
  ·rename_i et q l' q' c' hk e1 e2
   rw [hk,e1,e2]at h2
   simp only at h2 ⊢
   exact ⟨h1.1,h1.2.1,h1.2.2.1,h1.2.2.2.1,h1.2.2.2.2,h2.2.2.2.2⟩
  exact h1.elim
 | makeMap t r=>exact ⟨h1.1,h1.2,h2.2⟩
 | store t a x =>
  simp only[pOp]at h1 h2 ⊢
  split at h1
  ·rename_i o ver off ha
   rw [ha]at h2
   simp only at h2 ⊢
   split at h1
   ·rename_i v et sz cells ho
    rw [ho]at h2
    simp only at h2 ⊢
    exact ⟨h1.1,h1.2.1,h1.2.2.1,h1.2.2.2.1,h1.2.2.2.2.1,h1.2.2.2.2.2,h2.2.2.2.2.2⟩
   exact h1.elim
  exact h1.elim
 | mapUpdate t m k x =>
  simp only[pOp]at h1 h2 ⊢
  split at h1
  ·rename_i kt vt o ver hk hm
   rw [hk,hm]at h2
   simp only at h2 ⊢
   split at h1
   ·rename_i v es ho
    rw [ho]at h2
    simp only at h2 ⊢
    refine ⟨h1.1,h1.2.1,?_⟩
    have h1:=h1.2.2
    have h2:=h2.2.2
    split at h1
    ·rename_i hf; rw [hf]at h2; exact ⟨h1,h2⟩
    ·rename_i hf; rw [hf]at h2; exact ⟨h1,h2⟩
    exact h1.elim
   exact h1.elim
  exact h1.elim
 | insert t m k x =>
  simp only[pOp]at h1 h2 ⊢
  split at h1
  ·rename_i kt vt o ver hk hm
   rw [hk,hm]at h2
   simp only at h2 ⊢
   split at h1
   ·rename_i v es ho
    rw [ho]at h2
    simp only at h2 ⊢
    refine ⟨h1.1,h1.2.1,?_⟩
    have h1:=h1.2.2
    have h2:=h2.2.2
    split at h1
    ·rename_i hf; rw [hf]at h2; exact ⟨h1,h2⟩
    ·rename_i hf; rw [hf]at h2; exact ⟨h1,h2⟩
    exact h1.elim
   exact h1.elim
  exact h1.elim
 | _ =>
  simp only[pOp]at h1 h2 ⊢
  rw [zmj]at h1 h2 ⊢
  obtain ⟨v,e1,k1⟩:=h1
  obtain ⟨v',e2,k2⟩:=h2
  rw [e1]at e2
  cases e2
  exact ⟨v,e1,k1,k2⟩
theorem z55 {ops:Array Oper} {o:Oper} {e:Env} {y1 n1 y2 n2:Prop} (h1:zdw ops o e y1 n1) (h2:zdw ops o e y2 n2):zdw ops o e (y1∧y2) (n1∧n2):=by
 unfold zdw at *
 split at h1
 ·rename_i h; rw [h]at h2; exact ⟨h1,h2⟩
 ·rename_i h; rw [h]at h2; exact ⟨h1,h2⟩
 exact h1.elim
theorem yb6 {R:Option Nat} {nn:Nat} (hT:zby P T) {ops:Array Oper} {effs pend keep:List Nat} {Q:Env→Store→Prop} {i:Nat} {r1 r2:List Nat} {e:Env} {F:Nat→Prop} {G:GSt} {a:Act} {w:World}
  (hnc:∀ o:Oper,ops[i]?=some o→∀ c,o.op ≠ .call c)
  (h1:zdg P T ops effs pend keep Q (i::r1) e G.er) (h2:zdg P T ops effs pend keep Q (i::r2) e G.er) (hi:Inv F G w) (he:zfi w.heap F G e a) (hn:Next F0 G0 w0 F G w) (hs:a.tmps.size=N) (hd:Marks w0 a.defers w)
  (hdst:∀ o∈ops.toList,∀ d,o.dst=some d→d<N) {Qx:Exit→Act→World→Prop} {K:Act→World→Prop}
  (hK:∀ e' F' G' a' w',zdg P T ops effs pend keep Q r1 e' G'.er→zdg P T ops effs pend keep Q r2 e' G'.er→Inv F' G' w'→zfi w'.heap F' G' e' a'→Next F0 G0 w0 F' G' w'→a'.tmps.size=N→Marks w0 a'.defers w'→K a' w') :
  wpOpIn (fnc R) nn P ops Qx i K a w:=by
 simp only[zdg]at h1 h2
 unfold wpOpIn
 cases ho:ops[i]? with
 | none=>rw [ho]at h1; exact h1.elim
 | some o =>
  rw [ho]at h1 h2
  have hnc:=hnc o ho
  have hd1:∀ t,o.dst=some t→t<a.tmps.size:=fun t ht=>by
   rw [hs]; exact hdst o (List.mem_of_getElem? (i:=i) (by simpa using ho)) t ht
  simp only at h1 h2 ⊢
  rcases zih he (z55 h1 h2) with ⟨hw,h1,h2⟩ | ⟨hw,h1,h2⟩
  ·rw [if_pos hw]
   split at h1
   ·rename_i hc
    rw [if_pos hc]at h2
    refine zj2 hT hi he (z94 hnc h1 h2) ?_
    intro v cv F' G' w' hk i1 i2 i3
    exact hK _ _ _ _ _ hk.1.2 hk.2.2 i1 ((he.next hi i2).put _ hd1 i3) (hn.trans i2) (by rw [zgd]; exact hs) (by rw [zdv]; exact hd.next hi i2)
   ·rename_i hc
    rw [if_neg hc]at h2
    rw [zc0]at h1 h2
    obtain ⟨v,f1,_,f3⟩:=h1
    obtain ⟨v',g1,_,g3⟩:=h2
    have hv:v=v':=by
     have hop:=z94 hnc (zrb f1) (zrb g1)
     have key:∀ {op:Op},(∀ c,op ≠ .call c)→pFl P T G.er e op v→pFl P T G.er e op v'→v=v':=by
      intro op hc a1 a2
      cases op with
      | call c=>exact absurd rfl (hc c)
      | _=>exact Option.some.inj (a1.symm.trans a2)
     exact key hnc f1 g1
    subst hv
    refine zj2 hT hi he (zrb f1) ?_
    rintro v' cv F' G' w' ⟨rfl,hS⟩ i1 i2 i3
    exact hK _ _ _ _ _ (by rw [hS]; exact f3) (by rw [hS]; exact g3) i1 ((he.next hi i2).put _ hd1 i3) (hn.trans i2) (by rw [zgd]; exact hs) (by rw [zdv]; exact hd.next hi i2)
  rw [if_neg (by simp [hw])]
  exact ⟨fun _ _=>trivial,hK _ _ _ _ _ h1 h2 hi (zna hi he _ hd1) hn (by rw [zgd]; exact hs) (by rw [zdv]; exact hd)⟩
theorem z79 {R:Option Nat} {nn:Nat} (hT:zby P T) {ops:Array Oper} {effs pend keep:List Nat} {Q:Env→Store→Prop} (hdst:∀ o∈ops.toList,∀ d,o.dst=some d→d<N)
  (hdep:∀ (i:Nat) o,ops[i]?=some o→∀ e∈o.after.toList,Region.binds .any e=true→e.on<ops.size) {x0 y0:Nat} (hxy:x0≠y0) (hno1:((prs ops).getD x0 0).testBit y0=false) (hno2:((prs ops).getD y0 0).testBit x0=false)
  (hnc:∀ (i:Nat) (o:Oper),ops[i]?=some o→∀ c,o.op ≠ .call c) :
  ∀ (fuel:Nat) (listed:Array Bool) (l l':List Nat) {e:Env} {F:Nat→Prop} {G:GSt} {a:Act} {w:World},l.length=fuel→l'.length=fuel→x0∈l→y0∈l →
   l.Pairwise (fun x i=>zgs ops (prs ops) effs pend x i=true∨(x=x0∧i=y0))→l'.Pairwise (fun x i=>zgs ops (prs ops) effs pend x i=true∨(x=y0∧i=x0))→l.Nodup→l'.Nodup→(∀ x∈l,((prs ops).getD x 0).testBit x=false) →
   listed.size=ops.size→(∀ i,i∈l↔i<ops.size∧listed.getD i true=false)→(∀ i,i∈l'↔i<ops.size∧listed.getD i true=false) →
   (∀ i x,listed.getD i false=true→((prs ops).getD i 0).testBit x=true→x<ops.size→listed.getD x true=true) →
   zdg P T ops effs pend keep Q l e G.er→zdg P T ops effs pend keep Q l' e G.er→Inv F G w→zfi w.heap F G e a→Next F0 G0 w0 F G w→a.tmps.size=N→Marks w0 a.defers w →
   wpAnyIn (fnc R) nn P .any ops (Sto F0 G0 w0 N (Nrm Q)) fuel listed a w:=by
 intro fuel
 induction fuel with
 | zero =>
  intro listed l l' e F G a w hl hl' hx0 hy0 hp hp' hnd hnd' hself hsz hmem hmem' hcl h h' hi he hn hs hd
  have hl0:l=[]:=List.eq_nil_of_length_eq_zero hl
  subst hl0
  simp at hx0
 | succ fuel ih =>
  intro listed l l' e F G a w hl hl' hx0 hy0 hp hp' hnd hnd' hself hsz hmem hmem' hcl h h' hi he hn hs hd
  have hmm:∀ i,i∈l↔i∈l':=fun i=>(hmem i).trans (hmem' i).symm
  have bound:∀ i x,((prs ops).getD i 0).testBit x=true→x<ops.size:=by
   have key:∀ n i x,i<n→((prs ops).getD i 0).testBit x=true→x<ops.size:=by
    intro n
    induction n with
    | zero=>intro i x h; omega
    | succ n ihn =>
     intro i x hin hx
     obtain ⟨o,ho,ed,h1,h2,h3⟩:=zik hx
     rcases h3 with rfl | ⟨h3,h4⟩
     ·exact hdep i o ho ed h1 h2
     exact ihn ed.on x (by omega) h4
   exact fun i x=>key (i+1) i x (Nat.lt_succ_self _)
  have facts:∀ i,i∈Region.ready .any ops listed→i∈l∧∃ q,ops[i]?=some q∧∀ e∈q.after.toList,Region.binds .any e=true→listed.getD e.on false=true:=by
   intro i hr
   unfold Region.ready at hr
   rw [List.mem_filter]at hr
   obtain ⟨h1,h2⟩:=hr
   have hlt:i<ops.size:=by simpa using h1
   rw [Array.getElem?_eq_getElem hlt]at h2
   simp only[qO,Option.getD_some,qB,Bool.not_eq_true']at h2
   refine ⟨(hmem i).2 ⟨hlt,h2.1⟩,ops[i],Array.getElem?_eq_getElem hlt,fun e he hb=>?_⟩
   have:=h2.2
   rw [Array.all_eq_true_iff_forall_mem]at this
   have:=this e (by simpa using he)
   simpa [hb] using this
  have preds:∀ i,i∈Region.ready .any ops listed→∀ x,((prs ops).getD i 0).testBit x=true→listed.getD x true=true:=by
   intro i hr x hx
   obtain ⟨_,q,hq,hdeps⟩:=facts i hr
   have hxl:=bound i x hx
   obtain ⟨o,ho,ed,h1,h2,h3⟩:=zik hx
   rw [hq]at ho
   cases ho
   have hl1:=hdeps ed h1 h2
   rcases h3 with rfl | ⟨_,h3⟩
   ·have hlt:ed.on<listed.size:=by rw [hsz]; exact hxl
    rw [Array.getD_eq_getD_getElem?,Array.getElem?_eq_getElem hlt]at hl1 ⊢
    exact hl1
   exact hcl _ _ hl1 h3 hxl
  refine ⟨fun hr0=>?_,fun i hr=>?_⟩
  ·exfalso
   cases l with
   | nil=>simp at hl
   | cons x l =>
    have hx:=(hmem x).1 (by simp)
    have hready:x∈Region.ready .any ops listed:=by
     unfold Region.ready
     rw [List.mem_filter]
     refine ⟨by simpa using hx.1,?_⟩
     rw [Array.getElem?_eq_getElem hx.1]
     simp only[qO,Option.getD_some,qB,Bool.not_eq_true']
     refine ⟨hx.2,?_⟩
     rw [Array.all_eq_true_iff_forall_mem]
     intro ed hed
     cases hb:Region.binds .any ed with
     | false=>simp
     | true =>
      have hon:=hdep x _ (Array.getElem?_eq_getElem hx.1) ed (by simpa using hed) hb
      have hbit:=ztw (Array.getElem?_eq_getElem hx.1) (by simpa using hed) hb
      cases hq:listed.getD ed.on true with
      | true =>
       have hlt:ed.on<listed.size:=by rw [hsz]; exact hon
       rw [Array.getD_eq_getD_getElem?,Array.getElem?_eq_getElem hlt]at hq ⊢
       simpa using hq
      | false =>
       exfalso
       have hm:=(hmem ed.on).2 ⟨hon,hq⟩
       rcases List.mem_cons.1 hm with he1 | hm
       ·have:=hself x (by simp)
        rw [he1]at hbit
        rw [hbit]at this
        cases this
       rcases List.rel_of_pairwise_cons hp hm with this | ⟨e1,e2⟩
       ·unfold zgs at this
        rw [hbit]at this
        simp at this
       rw [e1,e2,hno1]at hbit; cases hbit
    rw [hr0]at hready
    simp at hready
  obtain ⟨hil,q,hq,_⟩:=facts i hr
  have hil':=(hmm i).1 hil
  obtain ⟨l1,l2,rfl⟩:=List.append_of_mem hil
  obtain ⟨l3,l4,rfl⟩:=List.append_of_mem hil'
  have good:∀ x,x∈l1++i::l2→zgs ops (prs ops) effs pend x i=true→∃ p,ops[x]?=some p∧effs.contains x=false∧Oper.apart ops p q=true∧(effs.contains i=true→(pend.contains x=true∧pend.contains i=false)∨zm1 p.op=true):=by
   intro x hx hpair
   have hxm:=(hmem x).1 hx
   have hnb:((prs ops).getD i 0).testBit x=false:=by
    cases hb:((prs ops).getD i 0).testBit x with
    | false=>rfl
    | true=>have:=preds i hr x hb; rw [hxm.2]at this; cases this
   unfold zgs at hpair
   rw [hnb,hq,Array.getElem?_eq_getElem hxm.1]at hpair
   simp only[Bool.false_or,qB,Bool.not_eq_true',Bool.or_eq_true]at hpair
   refine ⟨ops[x],Array.getElem?_eq_getElem hxm.1,hpair.2.1.1,hpair.2.1.2,fun hc=>?_⟩
   rcases hpair.2.2 with (h1 | h1) | h1
   ·rw [hc]at h1; cases h1
   ·exact .inl h1
   exact .inr h1
  have hlt:i<ops.size:=((hmem i).1 hil).1
  have hgetD:∀ j d,(listed.setIfInBounds i true).getD j d=if j=i then true else listed.getD j d:=by
   intro j d
   rw [Array.getD_eq_getD_getElem?,Array.getD_eq_getD_getElem?]
   by_cases hj:j=i
   ·subst hj; simp [hsz,hlt]
   rw [Array.getElem?_setIfInBounds_ne (Ne.symm hj),if_neg hj]
  have nmem:∀ {m1 m2:List Nat},(m1++i::m2).Nodup→i ∉ m1++m2:=by
   intro m1 m2 hnd hm
   have:=List.nodup_append.1 hnd
   rcases List.mem_append.1 hm with h1 | h1
   ·exact this.2.2 i h1 i (by simp) rfl
   exact (List.nodup_cons.1 this.2.1).1 h1
  have nlist:∀ {m1 m2:List Nat},(m1++i::m2).Nodup→(∀ j,j∈m1++i::m2↔j<ops.size∧listed.getD j true=false)→∀ j,j∈m1++m2↔j<ops.size∧(listed.setIfInBounds i true).getD j true=false:=by
   intro m1 m2 hnd hm j
   rw [hgetD]
   by_cases hj:j=i
   ·subst hj
    rw [if_pos rfl]
    exact ⟨fun h=>(nmem hnd h).elim,fun h=>(by cases h.2)⟩
   rw [if_neg hj,← hm j]
   simp [hj]
  have ncl:∀ (j x:Nat),(listed.setIfInBounds i true).getD j false=true→((prs ops).getD j 0).testBit x=true→x<ops.size→(listed.setIfInBounds i true).getD x true=true:=by
   intro j x h1 h2 h3
   rw [hgetD]at h1 ⊢
   by_cases hx:x=i
   ·rw [if_pos hx]
   rw [if_neg hx]
   by_cases hj:j=i
   ·subst hj; exact preds j hr x h2
   rw [if_neg hj]at h1; exact hcl j x h1 h2 h3
  by_cases ix:i=x0
  ·subst ix
   have hfront:=zfe hq l1 (fun x hx=>good x (by simp [hx]) (by
    rcases (List.pairwise_append.1 hp).2.2 x hx i (by simp) with h1 | ⟨e1,e2⟩
    ·exact h1
    exact absurd e2 hxy)) h
   refine zmh hT hfront hi he hn hs hd hdst ?_
   intro e' F' G' a' w' k1 k2 k3 k4 k5 k6
   refine zlx hT hdst hdep _ _ (l1++l2) (by simp at hl ⊢; omega) ?_ (hnd.sublist (by simp)) (fun x hx=>hself x (by rcases List.mem_append.1 hx with h9 | h9 <;> simp [h9])) (by simp [hsz]) (nlist hnd hmem) ncl k1 k2 k3 k4 k5 k6
   refine (hp.sublist (by simp)).imp_of_mem (S:=fun x i=>zgs ops (prs ops) effs pend x i=true) fun {x y} hx hy hh=>?_
   rcases hh with h1 | ⟨e1,e2⟩
   ·exact h1
   exact absurd (e1 ▸ hx) (nmem hnd)
  by_cases iy:i=y0
  ·subst iy
   have hfront:=zfe hq l3 (fun x hx=>good x ((hmm x).2 (by simp [hx])) (by
    rcases (List.pairwise_append.1 hp').2.2 x hx i (by simp) with h1 | ⟨e1,e2⟩
    ·exact h1
    exact absurd e2 ix)) h'
   refine zmh hT hfront hi he hn hs hd hdst ?_
   intro e' F' G' a' w' k1 k2 k3 k4 k5 k6
   refine zlx hT hdst hdep _ _ (l3++l4) (by simp at hl' ⊢; omega) ?_ (hnd'.sublist (by simp)) (fun x hx=>hself x ((hmm x).2 (by rcases List.mem_append.1 hx with h9 | h9 <;> simp [h9]))) (by simp [hsz]) (nlist hnd' hmem') ncl k1 k2 k3 k4 k5 k6
   refine (hp'.sublist (by simp)).imp_of_mem (S:=fun x i=>zgs ops (prs ops) effs pend x i=true) fun {x y} hx hy hh=>?_
   rcases hh with h1 | ⟨e1,e2⟩
   ·exact h1
   exact absurd (e1 ▸ hx) (nmem hnd')
  have hf1:=zfe hq l1 (fun x hx=>good x (by simp [hx]) (by
   rcases (List.pairwise_append.1 hp).2.2 x hx i (by simp) with h1 | ⟨e1,e2⟩
   ·exact h1
   exact absurd e2 iy)) h
  have hf2:=zfe hq l3 (fun x hx=>good x ((hmm x).2 (by simp [hx])) (by
   rcases (List.pairwise_append.1 hp').2.2 x hx i (by simp) with h1 | ⟨e1,e2⟩
   ·exact h1
   exact absurd e2 ix)) h'
  refine yb6 hT (hnc i) hf1 hf2 hi he hn hs hd hdst ?_
  intro e' F' G' a' w' k1 k1' k2 k3 k4 k5 k6
  have hx1:x0∈l1++l2:=by have:=hx0; simp only[List.mem_append,List.mem_cons]at this ⊢; rcases this with h9 | h9 | h9 <;> first | exact .inl h9 | exact .inr h9 | exact absurd h9.symm ix
  have hy1:y0∈l1++l2:=by have:=hy0; simp only[List.mem_append,List.mem_cons]at this ⊢; rcases this with h9 | h9 | h9 <;> first | exact .inl h9 | exact .inr h9 | exact absurd h9.symm iy
  exact ih _ (l1++l2) (l3++l4) (by simp at hl ⊢; omega) (by simp at hl' ⊢; omega) hx1 hy1 (hp.sublist (by simp)) (hp'.sublist (by simp)) (hnd.sublist (by simp)) (hnd'.sublist (by simp)) (fun x hx=>hself x (by rcases List.mem_append.1 hx with h9 | h9 <;> simp [h9])) (by simp [hsz])
   (nlist hnd hmem) (nlist hnd' hmem') ncl k1 k1' k2 k3 k4 k5 k6
def z7n (ops:Array Oper) (l l' effs pend:List Nat) (a b:Nat):Bool :=
 let B:=prs ops
 zk6 (fun x i=>zgs ops B effs pend x i || (x == a && i == b)) l && zk6 (fun x i=>zgs ops B effs pend x i || (x == b && i == a)) l' && l.length == ops.size && l'.length == ops.size && l.all (fun x=>decide (x<ops.size) && !(B.getD x 0).testBit x) && l'.all (fun x=>decide (x<ops.size)) &&
 ((List.range ops.size).all l.contains) && ((List.range ops.size).all l'.contains) && (ops.toList.all fun o=>o.after.toList.all fun e => !Region.binds .any e || decide (e.on<ops.size)) &&
 !(a == b) && l.contains a && l.contains b && !(B.getD a 0).testBit b && !(B.getD b 0).testBit a && ops.toList.all fun o=>match o.op with | .call _=>false | _=>true
theorem W.region_two {Q:Exit→Env→Store→Prop} {e:Env} {S:Store} {id:Nat} {ops:Array Oper} (l l' effs pend keep:List Nat) (a b:Nat) (hc:z7n ops l l' effs pend a b=true) (h:zdg P T ops effs pend keep (Q .normal) l e S) (h':zdg P T ops effs pend keep (Q .normal) l' e S) :
  W P T (.region id ops true) Q e S:=by
 refine ⟨?_⟩
 intro hT hm F0 G0 w0 N F G act w h3 h4 h5 h6 h7 h8 h9 R nn
 subst h3
 unfold z7n at hc
 simp only[qB,beq_iff_eq,List.all_eq_true,decide_eq_true_eq,Bool.not_eq_true',List.contains_eq_mem,List.mem_range,Bool.or_eq_true,beq_eq_false_iff_ne]at hc
 obtain ⟨⟨⟨⟨⟨⟨⟨⟨⟨⟨⟨⟨⟨⟨c1,c1'⟩,c2⟩,c2'⟩,c3⟩,c3'⟩,c4⟩,c4'⟩,c5⟩,c6⟩,c7⟩,c8⟩,c9⟩,c10⟩,c11⟩:=hc
 obtain ⟨p1,p2⟩:=zgi c1
 obtain ⟨p1',p2'⟩:=zgi c1'
 have hin:∀ i,i<ops.size↔i<ops.size∧(Array.replicate ops.size false).getD i true=false:=by
  intro i
  constructor
  ·intro hi; refine ⟨hi,?_⟩; rw [Array.getD_eq_getD_getElem?]; simp [hi]
  exact fun h=>h.1
 refine wpIn_mono (wpIn_region_any hm (z79 (Q:=Q .normal) hT (zuw h9) ?_ c6 c9 c10 ?_ ops.size (Array.replicate ops.size false) l l' c2 c2' (by simpa using c7) (by simpa using c8) (p1.imp fun h=>by simpa using h) (p1'.imp fun h=>by simpa using h) p2 p2' (fun x hx=>(c3 x hx).2) (by simp) ?_ ?_ ?_ h h' (h4.drew) h5 (h6.drew) h7 h8)) z3l
 ·intro i o ho ed hed hb
  have hmem:o∈ops.toList:=by
   have:=Array.mem_of_getElem? ho
   simpa using this
  have:=c5 o hmem ed hed
  rw [hb]at this
  simpa using this
 ·intro i o ho c hcc
  have hmem:o∈ops.toList:=by
   have:=Array.mem_of_getElem? ho
   simpa using this
  have:=c11 o hmem
  rw [hcc]at this
  simp at this
 ·exact fun i=>⟨fun hi=>(hin i).1 (c3 i hi).1,fun hi=>c4 i hi.1⟩
 ·exact fun i=>⟨fun hi=>(hin i).1 (c3' i hi),fun hi=>c4' i hi.1⟩
 intro i x hx
 rw [Array.getD_eq_getD_getElem?]at hx
 simp only[Array.getElem?_replicate]at hx
 split at hx <;> cases hx
theorem zqg {all:List Oper} {effs pend:List Nat} {K:Env→Store→Prop} (heff:∀ (i:Nat) (o:Oper),all[i]?=some o→effs.contains i=false→zdz o.op=true) {x:Nat} {cs:List PV} {off:Nat}
  (hx:∀ (i:Nat) (o:Oper),all[i]?=some o→o.dst≠some x) (hpe:∀ (i:Nat) (o:Oper),all[i]?=some o→pend.contains i=true→∃ t,o.op = .load t (.tmp x)):∀ (r:List Nat) (l:List Oper) {e:Env} {S:Store},e x = .ip cs off→r.map (all[·]?)=l.map some →
  zbq false P T (dsts all) l e S K→zdg P T all.toArray effs pend [] K r e S
 | [],l,e,S,_,hl,h=>by
  cases l with
  | nil=>exact h
  | cons o l=>simp at hl
 | i::r,l,e,S,hex,hl,h=>by
  cases l with
  | nil=>simp at hl
  | cons o l =>
   simp only[List.map_cons,List.cons.injEq]at hl
   obtain ⟨ho,hl⟩:=hl
   have hput:∀ v,(e.put o.dst v) x = .ip cs off:=fun v=>by
    have:=hx i o ho
    cases hd:o.dst with
    | none=>exact hex
    | some d=>rw [zvt,if_neg (fun e1=>this (by rw [hd,e1]))]; exact hex
   unfold zbq at h
   simp only[zdg,List.getElem?_toArray,ho]
   rw [zjd]at h
   unfold zdw
   split at h
   ·rename_i hg
    rw [hg]
    simp only
    split
    ·exact zey (fun v S' hv=>⟨.inr (by intro o ho; cases ho),zqg heff hx hpe r l (hput v) hl hv⟩) (zjm h)
    rename_i hc
    have:=zj1 (heff i o ho (by simpa using hc)) h
    rw [zc0]at this ⊢
    obtain ⟨v,h1,h2⟩:=this
    refine ⟨v,h1,?_,zqg heff hx hpe r l (hput v) hl h2⟩
    split
    ·rename_i hp
     obtain ⟨t,ht⟩:=hpe i o ho hp
     intro S' _
     rw [ht]at h1 ⊢
     simp only[pFl,zd2,z8e,hex,zsj]at h1 ⊢
     exact h1
    trivial
   ·rename_i hg; rw [hg]; exact zqg heff hx hpe r l (hput _) hl h
   exact h.elim
def ykh (l:List Oper) (effs pend:List Nat) (x:Nat):Bool :=
 l.all (fun o=>o.dst != some x) && (l.zipIdx.all fun q => !pend.contains q.2 || (match q.1.op with | .load _ (.tmp y)=>y == x | _=>false))
theorem W.draw_two {Q:Exit→Env→Store→Prop} {e:Env} {S:Store} {id:Nat} {l r1 r2:List Oper} (l1 l2 pend:List Nat) (a b x:Nat) {cs:List PV} {off:Nat} (hex:e x = .ip cs off) (hc:z7n l.toArray l1 l2 (zcc l 0) pend a b=true) (ho:ykh l (zcc l 0) pend x=true)
  (hr:l1.map (l[·]?)=r1.map some) (hr2:l2.map (l[·]?)=r2.map some)
  (h1:∀ K:Env→Store→Prop,(∀ e S,Q .normal e S→K e S)→zbq false P T (dsts l) r1 e S K) (h2:∀ K:Env→Store→Prop,(∀ e S,Q .normal e S→K e S)→zbq false P T (dsts l) r2 e S K):W P T (.region id l.toArray true) Q e S:=by
 unfold ykh at ho
 simp only[qB,List.all_eq_true,bne_iff_ne,Bool.or_eq_true,Bool.not_eq_true']at ho
 have heff:∀ (i:Nat) (o:Oper),l[i]?=some o→(zcc l 0).contains i=false→zdz o.op=true:=by
  intro i o hio hc
  have:=zig l 0 i o hio
  rw [Nat.zero_add]at this
  cases hf:zdz o.op with
  | true=>rfl
  | false=>have:=this.2 hf; simp at hc; exact absurd this hc
 have hx:∀ (i:Nat) (o:Oper),l[i]?=some o→o.dst≠some x:=fun i o hio=>ho.1 o (List.mem_of_getElem? hio)
 have hpe:∀ (i:Nat) (o:Oper),l[i]?=some o→pend.contains i=true→∃ t,o.op = .load t (.tmp x):=by
  intro i o hio hp
  rcases ho.2 (o,i) (List.mem_of_getElem? (i:=i) (by simp [List.getElem?_zipIdx,hio])) with h | h
  ·rw [hp]at h; cases h
  simp only at h
  split at h
  ·rename_i t y hop; exact ⟨t,by rw [hop,beq_iff_eq.1 h]⟩
  cases h
 exact W.region_two l1 l2 (zcc l 0) pend [] a b hc (zqg heff hx hpe _ _ hex hr (h1 _ fun _ _ h=>h)) (zqg heff hx hpe _ _ hex hr2 (h2 _ fun _ _ h=>h))
end
end
theorem zah {a b:Nat}:((a+b:Nat):Int) - (a:Int)=(b:Int):=by omega
theorem z1o {p:List Txt} (hp:zbk p=true):GW (gP p) p.length (zag p).length:=by
 rw [← zc3]at hp
 simp only[zeb,qB]at hp
 have:=zx8 hp.1
 rwa [zfy]at this
theorem ydb {p:List Txt} (hp:zbk p=true) {t:Pt} (ht:t.In p.length (zag p).length) (l:Nat) (a b c d:Ob) (tk:Nat) (B C D:Bool × Nat→Ob)
  (hy:∀ q,zdc (zaf p) t=some q→∀ (x y:Ob) (tk2:Nat),tk≤tk2→Ey Tryz.prog l [z2v (gP p) (rP p) t q] ⟨[a,b,c,d,x,y],tk2⟩ fun v S=>v = .bool false∧∃ tk3,S=⟨[a,B q,C q,D q,x,y],tk3⟩):Ev Tryz.prog 124 [.yl l,.ip (zar (gP p) (rP p)::t.rect.cells) 0] ⟨[a,b,c,d],tk⟩ fun v S=>(∃ tk2,zdc (zaf p) t=none∧S=⟨[a,b,c,d],tk2⟩)∨∃ q tk2,zdc (zaf p) t=some q∧S=⟨[a,B q,C q,D q],tk2⟩:=by
 have hsm:=zbo (zde hp)
 obtain ⟨t1,t2,t3,t4⟩:=id ht
 have hgw:=z1o hp
 obtain ⟨g1,g2,g3,g4⟩:=hgw.2.2
 simp only[Pt.rect,Rect.cells]
 refine Ev.of ⟨Tryz.func124,by kernel_rfl,rfl,by kernel_rfl⟩ zav mixed (by show 2≤Tryz.f124.ntmps; decide) ?_
 refine W.seq ?_
 refine W.r fun K hK=>?_
 simp(disch:=omega)only[↓RU,RW,↓reduceIte,qE,reduceCtorEq,iP,w64,↓RS,RG,qA,qM,qL,ty7,zbr,za7,zaa,zbs,za8,zah]
 apply hK;clear hK K
 refine W.block ?_
 refine W.loop [0,1,3] (fun n vs S=>∃ k tk2:Nat,n=t.w - k∧1≤k∧k≤t.w∧(∀ j,1≤j→j<k→thU (zaf p) t j=false)∧tk≤tk2∧vs=[.yl l,.ip [zar (gP p) (rP p),.int .i64 t.r,.int .i64 t.c,.int .i64 t.h,.int .i64 t.w] 0,.int .i64 ((t.c+k:Nat):Int)]∧S=⟨[a,b,c,d],tk2⟩) (t.w - 1) ?_ ?_
 ·refine ⟨4,1,_,rfl,by omega,by omega,fun j _ _=>by omega,qR _,?_,rfl⟩
  simp [Env.put,Env.of,zai]
 rintro n vs S - ⟨k,tk2,rfl,hk1,h_k,hall,htk,rfl,rfl⟩
 refine W.seq ?_
 refine W.r fun K hK=>?_
 simp(disch:=omega)only[↓RU,RW,↓reduceIte,qE,reduceCtorEq,iP,w64,↓RS,RG,qA,qM,qL,ty7,zbr,za7,zaa,zbs,za8,zah]
 apply hK;clear hK K
 refine W.cond rfl (fun h=>?_) (fun h=>?_)
 ·try simp only[RL]at h
  have hgu:=yls hp ht hk1 (show k<t.w by omega)
  have e1:((t.w:Nat):Int) - ((k:Nat):Int)=((t.w - k:Nat):Int):=by omega
  refine W.skip ?_
  refine xn ?_
  refine W.seq ?_
  refine W.block ?_
  refine W.seq (W.draw_two (r1:=[_,_,_,_,_,_]) (r2:=[_,_,_,_,_,_]) [0,1,2,3,4,5] [0,1,3,2,4,5] [0,1] 2 3 1 rfl (by kernel_rfl) (by kernel_rfl) rfl rfl (fun K hK=>?_) (fun K hK=>?_))
  ·simp(disch:=omega)only[↓RU,RW,↓reduceIte,qE,reduceCtorEq,iP,↓RS,RG,qA,qM,qL,ty7,zbr,za7,zaa,zbs,za8,zah]
   apply hK;clear hK K
   refine xn ?_
   refine W.r fun K hK=>?_
   simp(disch:=omega)only[↓RU,RW,↓reduceIte,qE,reduceCtorEq,iP,w64,↓RS,RG,qA,qM,qL,ty7,zbr,za7,zaa,zbs,za8,zah]
   apply hK;clear hK K
   refine W.seq_pk 11 [some 34,some 35,some 36,some 37,some 38,some 39] [4] (by decide) (by kernel_rfl) fun K hK=>?_
   simp only[List.take_succ_cons,List.take_zero,List.drop_succ_cons,List.drop_zero]
   refine zbj rfl ?_
   simp(disch:=omega)only[↓RU,RW,↓reduceIte,qE,reduceCtorEq,iP,w64,↓RS,RG,qA,qM,qL,ty7,zbr,za7,zaa,zbs,za8,zah,e1,zat,za3]
   refine za4 (.ip [zar (gP p) (rP p),.int .i64 t.r,.int .i64 t.c,.int .i64 t.h,.int .i64 t.w] 1) rfl rfl rfl (fun S' hS=>?_) ?_
   ·skip
    have k4:=(hS 4 (by decide)).trans (show _=some _ from rfl)
    simp(disch:=omega)only[↓RU,RW,↓reduceIte,qE,reduceCtorEq,iP,w64,↓RS,RG,qA,qM,qL,ty7,zbr,za7,zaa,zbs,za8,zah,e1,zbz,zcr,zef,zeg,k4]
   refine za4 (.ip [zar (gP p) (rP p),.int .i64 t.r,.int .i64 t.c,.int .i64 t.h,.int .i64 t.w] 4) rfl rfl rfl (fun S' hS=>?_) ?_
   ·skip
    have k4:=(hS 4 (by decide)).trans (show _=some _ from rfl)
    simp(disch:=omega)only[↓RU,RW,↓reduceIte,qE,reduceCtorEq,iP,w64,↓RS,RG,qA,qM,qL,ty7,zbr,za7,zaa,zbs,za8,zah,e1,zbz,zcr,zef,zeg,k4]
   refine za4 (.int .i64 t.w) rfl rfl rfl (fun S' hS=>?_) ?_
   ·skip
    have k4:=(hS 4 (by decide)).trans (show _=some _ from rfl)
    simp(disch:=omega)only[↓RU,RW,↓reduceIte,qE,reduceCtorEq,iP,w64,↓RS,RG,qA,qM,qL,ty7,zbr,za7,zaa,zbs,za8,zah,e1,zbz,zcr,zef,zeg,k4]
   refine za4 (.ref 4 tk2 1) rfl rfl rfl (fun S' hS=>?_) ?_
   ·skip
    have k4:=(hS 4 (by decide)).trans (show _=some _ from rfl)
    simp(disch:=omega)only[↓RU,RW,↓reduceIte,qE,reduceCtorEq,iP,w64,↓RS,RG,qA,qM,qL,ty7,zbr,za7,zaa,zbs,za8,zah,e1,zbz,zcr,zef,zeg,k4]
   refine za4 (.ref 4 tk2 4) rfl rfl rfl (fun S' hS=>?_) ?_
   ·skip
    have k4:=(hS 4 (by decide)).trans (show _=some _ from rfl)
    simp(disch:=omega)only[↓RU,RW,↓reduceIte,qE,reduceCtorEq,iP,w64,↓RS,RG,qA,qM,qL,ty7,zbr,za7,zaa,zbs,za8,zah,e1,zbz,zcr,zef,zeg,k4]
   refine za4 (.int .i64 k) rfl rfl rfl (fun S' hS=>?_) ?_
   ·skip
    have k4:=(hS 4 (by decide)).trans (show _=some _ from rfl)
    simp(disch:=omega)only[↓RU,RW,↓reduceIte,qE,reduceCtorEq,iP,w64,↓RS,RG,qA,qM,qL,ty7,zbr,za7,zaa,zbs,za8,zah,e1,zbz,zcr,zef,zeg,k4]
   refine zbj rfl ?_
   simp(disch:=omega)only[↓RU,RW,↓reduceIte,qE,reduceCtorEq,iP,w64,↓RS,RG,qA,qM,qL,ty7,zbr,za7,zaa,zbs,za8,zah,e1,zat,za3]
   refine zbj rfl ?_
   simp(disch:=omega)only[↓RU,RW,↓reduceIte,qE,reduceCtorEq,iP,w64,↓RS,RG,qA,qM,qL,ty7,zbr,za7,zaa,zbs,za8,zah,e1,zat,za3]
   refine zbj rfl ?_
   simp(disch:=omega)only[↓RU,RW,↓reduceIte,qE,reduceCtorEq,iP,w64,↓RS,RG,qA,qM,qL,ty7,zbr,za7,zaa,zbs,za8,zah,e1,zat,za3]
   refine zbj rfl ?_
   simp(disch:=omega)only[↓RU,RW,↓reduceIte,qE,reduceCtorEq,iP,w64,↓RS,RG,qA,qM,qL,ty7,zbr,za7,zaa,zbs,za8,zah,e1,zat,za3]
   refine zgh ?_
   simp(disch:=omega)only[↓RU,RW,↓reduceIte,qE,reduceCtorEq,iP,w64,↓RS,RG,qA,qM,qL,ty7,zbr,za7,zaa,zbs,za8,zah,e1]
   apply hK;clear hK K
   refine W.r fun K hK=>?_
   cases hth:thU (zaf p) t k
   ·skip
    simp(disch:=omega)only[↓RU,RW,↓reduceIte,qE,reduceCtorEq,iP,qN,↓RS,RG,qA,qM,qL,ty7,zad,zbr,zfw,za7,zaa,zbs,zfx,za8,zah,hgu,hth]
    refine zac.pc (zfg hgw (rP p) ht (level:=false) (line:=t.c+k) (by omega) (by simp; omega)) rfl (.inl rfl) ?_
    simp(disch:=omega)only[↓RU,RW,↓reduceIte,qE,reduceCtorEq,iP,qN,↓RS,RG,qA,qM,qL,ty7,zad,zbr,zfw,za7,zaa,zbs,zfx,za8,zah,hgu,hth]
    apply hK;clear hK K
    refine W.cond rfl (fun h1=>?_) (fun h1=>?_)
    ·try simp only[RL]at h1
     exact absurd h1 (by simp)
    try simp only[RL]at h1
    refine W.skip ?_
    refine XbN ?_
    refine xn ?_
    refine W.k fun K hK=>?_
    simp(disch:=omega)only[↓RU,RW,↓reduceIte,qE,reduceCtorEq,iP,w64,↓RS,RG,qA,qM,qL,zaa,zah]
    apply hK;clear hK K
    refine xn ?_
    refine ⟨t.w - (k+1),by omega,4,k+1,_,rfl,by omega,by omega,fun j j1 j2=>?_,?_,?_,rfl⟩
    ·rcases Nat.lt_succ_iff_lt_or_eq.1 j2 with h | rfl
     ·exact hall j j1 h
     exact hth
    ·exact Nat.le_trans htk (Nat.le_add_right _ 2)
    simp [Env.put,Env.of]; omega
   skip
   have hq:zdc (zaf p) t=some (false,k):=by unfold zdc; rw [zfm.2 ⟨hk1,by omega,hth,hall⟩]
   simp(disch:=omega)only[↓RU,RW,↓reduceIte,qE,reduceCtorEq,iP,qN,↓RS,RG,qA,qM,qL,ty7,zad,zbr,zfw,za7,zaa,zbs,zfx,za8,zah,hgu,hth]
   refine zac.pc (zfg hgw (rP p) ht (level:=false) (line:=t.c+k) (by omega) (by simp; omega)) rfl (.inl rfl) ?_
   simp(disch:=omega)only[↓RU,RW,↓reduceIte,qE,reduceCtorEq,iP,qN,↓RS,RG,qA,qM,qL,ty7,zad,zbr,zfw,za7,zaa,zbs,zfx,za8,zah,hgu,hth]
   refine zui.ey (hy _ hq _ _ _ (Nat.le_trans htk (Nat.le_add_right _ 2))) ?_
   rintro _ _ ⟨rfl,tk3,rfl⟩
   simp(disch:=omega)only[↓RU,RW,↓reduceIte,qE,reduceCtorEq,iP,qN,↓RS,RG,qA,qM,qL,ty7,zad,zbr,zfw,za7,zaa,zbs,zfx,za8,zah,hgu,hth]
   apply hK;clear hK K
   refine W.cond rfl (fun h1=>?_) (fun h1=>?_)
   ·try simp only[RL]at h1
    refine W.ret ?_
    refine XBlock.ret ?_
    refine XThen.ret ?_
    refine XThen.ret ?_
    refine XBlock.ret ?_
    refine XThen.ret ?_
    refine Br rfl ?_
    exact ⟨4,.inr ⟨_,_,hq,rfl⟩⟩
   try simp only[RL]at h1
   exact absurd h1 (by simp)
  simp(disch:=omega)only[↓RU,RW,↓reduceIte,qE,reduceCtorEq,iP,↓RS,RG,qA,qM,qL,ty7,zbr,za7,zaa,zbs,za8,zah]
  apply hK;clear hK K
  refine xn ?_
  refine W.r fun K hK=>?_
  simp(disch:=omega)only[↓RU,RW,↓reduceIte,qE,reduceCtorEq,iP,w64,↓RS,RG,qA,qM,qL,ty7,zbr,za7,zaa,zbs,za8,zah]
  apply hK;clear hK K
  refine W.seq_pk 11 [some 34,some 35,some 36,some 37,some 38,some 39] [5] (by decide) (by kernel_rfl) fun K hK=>?_
  simp only[List.take_succ_cons,List.take_zero,List.drop_succ_cons,List.drop_zero]
  refine zbj rfl ?_
  simp(disch:=omega)only[↓RU,RW,↓reduceIte,qE,reduceCtorEq,iP,w64,↓RS,RG,qA,qM,qL,ty7,zbr,za7,zaa,zbs,za8,zah,e1,zat,za3]
  refine za4 (.ip [zar (gP p) (rP p),.int .i64 t.r,.int .i64 t.c,.int .i64 t.h,.int .i64 t.w] 1) rfl rfl rfl (fun S' hS=>?_) ?_
  ·skip
   have k5:=(hS 5 (by decide)).trans (show _=some _ from rfl)
   simp(disch:=omega)only[↓RU,RW,↓reduceIte,qE,reduceCtorEq,iP,w64,↓RS,RG,qA,qM,qL,ty7,zbr,za7,zaa,zbs,za8,zah,e1,zbz,zcr,zef,zeg,k5]
  refine za4 (.ip [zar (gP p) (rP p),.int .i64 t.r,.int .i64 t.c,.int .i64 t.h,.int .i64 t.w] 4) rfl rfl rfl (fun S' hS=>?_) ?_
  ·skip
   have k5:=(hS 5 (by decide)).trans (show _=some _ from rfl)
   simp(disch:=omega)only[↓RU,RW,↓reduceIte,qE,reduceCtorEq,iP,w64,↓RS,RG,qA,qM,qL,ty7,zbr,za7,zaa,zbs,za8,zah,e1,zbz,zcr,zef,zeg,k5]
  refine za4 (.int .i64 t.w) rfl rfl rfl (fun S' hS=>?_) ?_
  ·skip
   have k5:=(hS 5 (by decide)).trans (show _=some _ from rfl)
   simp(disch:=omega)only[↓RU,RW,↓reduceIte,qE,reduceCtorEq,iP,w64,↓RS,RG,qA,qM,qL,ty7,zbr,za7,zaa,zbs,za8,zah,e1,zbz,zcr,zef,zeg,k5]
  refine za4 (.ref 5 (tk2+1) 1) rfl rfl rfl (fun S' hS=>?_) ?_
  ·skip
   have k5:=(hS 5 (by decide)).trans (show _=some _ from rfl)
   simp(disch:=omega)only[↓RU,RW,↓reduceIte,qE,reduceCtorEq,iP,w64,↓RS,RG,qA,qM,qL,ty7,zbr,za7,zaa,zbs,za8,zah,e1,zbz,zcr,zef,zeg,k5]
  refine za4 (.ref 5 (tk2+1) 4) rfl rfl rfl (fun S' hS=>?_) ?_
  ·skip
   have k5:=(hS 5 (by decide)).trans (show _=some _ from rfl)
   simp(disch:=omega)only[↓RU,RW,↓reduceIte,qE,reduceCtorEq,iP,w64,↓RS,RG,qA,qM,qL,ty7,zbr,za7,zaa,zbs,za8,zah,e1,zbz,zcr,zef,zeg,k5]
  refine za4 (.int .i64 k) rfl rfl rfl (fun S' hS=>?_) ?_
  ·skip
   have k5:=(hS 5 (by decide)).trans (show _=some _ from rfl)
   simp(disch:=omega)only[↓RU,RW,↓reduceIte,qE,reduceCtorEq,iP,w64,↓RS,RG,qA,qM,qL,ty7,zbr,za7,zaa,zbs,za8,zah,e1,zbz,zcr,zef,zeg,k5]
  refine zbj rfl ?_
  simp(disch:=omega)only[↓RU,RW,↓reduceIte,qE,reduceCtorEq,iP,w64,↓RS,RG,qA,qM,qL,ty7,zbr,za7,zaa,zbs,za8,zah,e1,zat,za3]
  refine zbj rfl ?_
  simp(disch:=omega)only[↓RU,RW,↓reduceIte,qE,reduceCtorEq,iP,w64,↓RS,RG,qA,qM,qL,ty7,zbr,za7,zaa,zbs,za8,zah,e1,zat,za3]
  refine zbj rfl ?_
  simp(disch:=omega)only[↓RU,RW,↓reduceIte,qE,reduceCtorEq,iP,w64,↓RS,RG,qA,qM,qL,ty7,zbr,za7,zaa,zbs,za8,zah,e1,zat,za3]
  refine zbj rfl ?_
  simp(disch:=omega)only[↓RU,RW,↓reduceIte,qE,reduceCtorEq,iP,w64,↓RS,RG,qA,qM,qL,ty7,zbr,za7,zaa,zbs,za8,zah,e1,zat,za3]
  refine zgh ?_
  simp(disch:=omega)only[↓RU,RW,↓reduceIte,qE,reduceCtorEq,iP,w64,↓RS,RG,qA,qM,qL,ty7,zbr,za7,zaa,zbs,za8,zah,e1]
  apply hK;clear hK K
  refine W.r fun K hK=>?_
  cases hth:thU (zaf p) t k
  ·skip
   simp(disch:=omega)only[↓RU,RW,↓reduceIte,qE,reduceCtorEq,iP,qN,↓RS,RG,qA,qM,qL,ty7,zad,zbr,zfw,za7,zaa,zbs,zfx,za8,zah,hgu,hth]
   refine zac.pc (zfg hgw (rP p) ht (level:=false) (line:=t.c+k) (by omega) (by simp; omega)) rfl (.inl rfl) ?_
   simp(disch:=omega)only[↓RU,RW,↓reduceIte,qE,reduceCtorEq,iP,qN,↓RS,RG,qA,qM,qL,ty7,zad,zbr,zfw,za7,zaa,zbs,zfx,za8,zah,hgu,hth]
   apply hK;clear hK K
   refine W.cond rfl (fun h1=>?_) (fun h1=>?_)
   ·try simp only[RL]at h1
    exact absurd h1 (by simp)
   try simp only[RL]at h1
   refine W.skip ?_
   refine XbN ?_
   refine xn ?_
   refine W.k fun K hK=>?_
   simp(disch:=omega)only[↓RU,RW,↓reduceIte,qE,reduceCtorEq,iP,w64,↓RS,RG,qA,qM,qL,zaa,zah]
   apply hK;clear hK K
   refine xn ?_
   refine ⟨t.w - (k+1),by omega,4,k+1,_,rfl,by omega,by omega,fun j j1 j2=>?_,?_,?_,rfl⟩
   ·rcases Nat.lt_succ_iff_lt_or_eq.1 j2 with h | rfl
    ·exact hall j j1 h
    exact hth
   ·exact Nat.le_trans htk (Nat.le_add_right _ 2)
   simp [Env.put,Env.of]; omega
  skip
  have hq:zdc (zaf p) t=some (false,k):=by unfold zdc; rw [zfm.2 ⟨hk1,by omega,hth,hall⟩]
  simp(disch:=omega)only[↓RU,RW,↓reduceIte,qE,reduceCtorEq,iP,qN,↓RS,RG,qA,qM,qL,ty7,zad,zbr,zfw,za7,zaa,zbs,zfx,za8,zah,hgu,hth]
  refine zac.pc (zfg hgw (rP p) ht (level:=false) (line:=t.c+k) (by omega) (by simp; omega)) rfl (.inl rfl) ?_
  simp(disch:=omega)only[↓RU,RW,↓reduceIte,qE,reduceCtorEq,iP,qN,↓RS,RG,qA,qM,qL,ty7,zad,zbr,zfw,za7,zaa,zbs,zfx,za8,zah,hgu,hth]
  refine zui.ey (hy _ hq _ _ _ (Nat.le_trans htk (Nat.le_add_right _ 2))) ?_
  rintro _ _ ⟨rfl,tk3,rfl⟩
  simp(disch:=omega)only[↓RU,RW,↓reduceIte,qE,reduceCtorEq,iP,qN,↓RS,RG,qA,qM,qL,ty7,zad,zbr,zfw,za7,zaa,zbs,zfx,za8,zah,hgu,hth]
  apply hK;clear hK K
  refine W.cond rfl (fun h1=>?_) (fun h1=>?_)
  ·try simp only[RL]at h1
   refine W.ret ?_
   refine XBlock.ret ?_
   refine XThen.ret ?_
   refine XThen.ret ?_
   refine XBlock.ret ?_
   refine XThen.ret ?_
   refine Br rfl ?_
   exact ⟨4,.inr ⟨_,_,hq,rfl⟩⟩
  try simp only[RL]at h1
  exact absurd h1 (by simp)
 try simp only[RL]at h
 obtain rfl:k=t.w:=by omega
 refine W.exit ?_
 refine xe ?_
 refine xe ?_
 refine XBlock.hit ?_
 refine xn ?_
 refine W.r fun K hK=>?_
 simp(disch:=omega)only[↓RU,RW,↓reduceIte,qE,reduceCtorEq,iP,w64,↓RS,RG,qA,qM,qL,ty7,zbr,za7,zaa,zbs,za8,zah]
 apply hK;clear hK K
 refine W.block ?_
 refine W.loop [0,1,6] (fun n vs S=>∃ k tk2:Nat,n=t.h - k∧1≤k∧k≤t.h∧(∀ j,1≤j→j<k→thL (zaf p) t j=false)∧tk≤tk2∧vs=[.yl l,.ip [zar (gP p) (rP p),.int .i64 t.r,.int .i64 t.c,.int .i64 t.h,.int .i64 t.w] 0,.int .i64 ((t.r+k:Nat):Int)]∧S=⟨[a,b,c,d],tk2⟩) (t.h - 1) ?_ ?_
 ·refine ⟨4,1,_,rfl,by omega,by omega,fun j _ _=>by omega,htk,?_,rfl⟩
  simp [Env.put,Env.of,zai]
 rintro n vs S - ⟨k,tk2,rfl,hk1,h_k,hall2,htk,rfl,rfl⟩
 refine W.seq ?_
 refine W.r fun K hK=>?_
 simp(disch:=omega)only[↓RU,RW,↓reduceIte,qE,reduceCtorEq,iP,w64,↓RS,RG,qA,qM,qL,ty7,zbr,za7,zaa,zbs,za8,zah]
 apply hK;clear hK K
 refine W.cond rfl (fun h=>?_) (fun h=>?_)
 ·try simp only[RL]at h
  have hgu:=ylr hp ht hk1 (show k<t.h by omega)
  have e1:((t.h:Nat):Int) - ((k:Nat):Int)=((t.h - k:Nat):Int):=by omega
  refine W.skip ?_
  refine xn ?_
  refine W.seq ?_
  refine W.block ?_
  refine W.seq (W.draw_two (r1:=[_,_,_,_,_,_]) (r2:=[_,_,_,_,_,_]) [0,1,2,3,4,5] [0,1,3,2,4,5] [0,1] 2 3 1 rfl (by kernel_rfl) (by kernel_rfl) rfl rfl (fun K hK=>?_) (fun K hK=>?_))
  ·simp(disch:=omega)only[↓RU,RW,↓reduceIte,qE,reduceCtorEq,iP,↓RS,RG,qA,qM,qL,ty7,zbr,za7,zaa,zbs,za8,zah]
   apply hK;clear hK K
   refine xn ?_
   refine W.r fun K hK=>?_
   simp(disch:=omega)only[↓RU,RW,↓reduceIte,qE,reduceCtorEq,iP,w64,↓RS,RG,qA,qM,qL,ty7,zbr,za7,zaa,zbs,za8,zah]
   apply hK;clear hK K
   refine W.seq_pk 11 [some 81,some 82,some 83,some 84,some 85,some 86] [4] (by decide) (by kernel_rfl) fun K hK=>?_
   simp only[List.take_succ_cons,List.take_zero,List.drop_succ_cons,List.drop_zero]
   refine zbj rfl ?_
   simp(disch:=omega)only[↓RU,RW,↓reduceIte,qE,reduceCtorEq,iP,w64,↓RS,RG,qA,qM,qL,ty7,zbr,za7,zaa,zbs,za8,zah,e1,zat,za3]
   refine za4 (.ip [zar (gP p) (rP p),.int .i64 t.r,.int .i64 t.c,.int .i64 t.h,.int .i64 t.w] 1) rfl rfl rfl (fun S' hS=>?_) ?_
   ·skip
    have k4:=(hS 4 (by decide)).trans (show _=some _ from rfl)
    simp(disch:=omega)only[↓RU,RW,↓reduceIte,qE,reduceCtorEq,iP,w64,↓RS,RG,qA,qM,qL,ty7,zbr,za7,zaa,zbs,za8,zah,e1,zbz,zcr,zef,zeg,k4]
   refine za4 (.ip [zar (gP p) (rP p),.int .i64 t.r,.int .i64 t.c,.int .i64 t.h,.int .i64 t.w] 3) rfl rfl rfl (fun S' hS=>?_) ?_
   ·skip
    have k4:=(hS 4 (by decide)).trans (show _=some _ from rfl)
    simp(disch:=omega)only[↓RU,RW,↓reduceIte,qE,reduceCtorEq,iP,w64,↓RS,RG,qA,qM,qL,ty7,zbr,za7,zaa,zbs,za8,zah,e1,zbz,zcr,zef,zeg,k4]
   refine za4 (.int .i64 t.h) rfl rfl rfl (fun S' hS=>?_) ?_
   ·skip
    have k4:=(hS 4 (by decide)).trans (show _=some _ from rfl)
    simp(disch:=omega)only[↓RU,RW,↓reduceIte,qE,reduceCtorEq,iP,w64,↓RS,RG,qA,qM,qL,ty7,zbr,za7,zaa,zbs,za8,zah,e1,zbz,zcr,zef,zeg,k4]
   refine za4 (.ref 4 tk2 1) rfl rfl rfl (fun S' hS=>?_) ?_
   ·skip
    have k4:=(hS 4 (by decide)).trans (show _=some _ from rfl)
    simp(disch:=omega)only[↓RU,RW,↓reduceIte,qE,reduceCtorEq,iP,w64,↓RS,RG,qA,qM,qL,ty7,zbr,za7,zaa,zbs,za8,zah,e1,zbz,zcr,zef,zeg,k4]
   refine za4 (.ref 4 tk2 3) rfl rfl rfl (fun S' hS=>?_) ?_
   ·skip
    have k4:=(hS 4 (by decide)).trans (show _=some _ from rfl)
    simp(disch:=omega)only[↓RU,RW,↓reduceIte,qE,reduceCtorEq,iP,w64,↓RS,RG,qA,qM,qL,ty7,zbr,za7,zaa,zbs,za8,zah,e1,zbz,zcr,zef,zeg,k4]
   refine za4 (.int .i64 k) rfl rfl rfl (fun S' hS=>?_) ?_
   ·skip
    have k4:=(hS 4 (by decide)).trans (show _=some _ from rfl)
    simp(disch:=omega)only[↓RU,RW,↓reduceIte,qE,reduceCtorEq,iP,w64,↓RS,RG,qA,qM,qL,ty7,zbr,za7,zaa,zbs,za8,zah,e1,zbz,zcr,zef,zeg,k4]
   refine zbj rfl ?_
   simp(disch:=omega)only[↓RU,RW,↓reduceIte,qE,reduceCtorEq,iP,w64,↓RS,RG,qA,qM,qL,ty7,zbr,za7,zaa,zbs,za8,zah,e1,zat,za3]
   refine zbj rfl ?_
   simp(disch:=omega)only[↓RU,RW,↓reduceIte,qE,reduceCtorEq,iP,w64,↓RS,RG,qA,qM,qL,ty7,zbr,za7,zaa,zbs,za8,zah,e1,zat,za3]
   refine zbj rfl ?_
   simp(disch:=omega)only[↓RU,RW,↓reduceIte,qE,reduceCtorEq,iP,w64,↓RS,RG,qA,qM,qL,ty7,zbr,za7,zaa,zbs,za8,zah,e1,zat,za3]
   refine zbj rfl ?_
   simp(disch:=omega)only[↓RU,RW,↓reduceIte,qE,reduceCtorEq,iP,w64,↓RS,RG,qA,qM,qL,ty7,zbr,za7,zaa,zbs,za8,zah,e1,zat,za3]
   refine zgh ?_
   simp(disch:=omega)only[↓RU,RW,↓reduceIte,qE,reduceCtorEq,iP,w64,↓RS,RG,qA,qM,qL,ty7,zbr,za7,zaa,zbs,za8,zah,e1]
   apply hK;clear hK K
   refine W.r fun K hK=>?_
   cases hth:thL (zaf p) t k
   ·skip
    simp(disch:=omega)only[↓RU,RW,↓reduceIte,qE,reduceCtorEq,iP,qN,↓RS,RG,qA,qM,qL,ty7,zad,zbr,zfw,za7,zaa,zbs,zfx,za8,zah,hgu,hth]
    refine zac.pc (zfg hgw (rP p) ht (level:=true) (line:=t.r+k) (by omega) (by simp; omega)) rfl (.inl rfl) ?_
    simp(disch:=omega)only[↓RU,RW,↓reduceIte,qE,reduceCtorEq,iP,qN,↓RS,RG,qA,qM,qL,ty7,zad,zbr,zfw,za7,zaa,zbs,zfx,za8,zah,hgu,hth]
    apply hK;clear hK K
    refine W.cond rfl (fun h1=>?_) (fun h1=>?_)
    ·try simp only[RL]at h1
     exact absurd h1 (by simp)
    try simp only[RL]at h1
    refine W.skip ?_
    refine XbN ?_
    refine xn ?_
    refine W.k fun K hK=>?_
    simp(disch:=omega)only[↓RU,RW,↓reduceIte,qE,reduceCtorEq,iP,w64,↓RS,RG,qA,qM,qL,zaa,zah]
    apply hK;clear hK K
    refine xn ?_
    refine ⟨t.h - (k+1),by omega,4,k+1,_,rfl,by omega,by omega,fun j j1 j2=>?_,?_,?_,rfl⟩
    ·rcases Nat.lt_succ_iff_lt_or_eq.1 j2 with h | rfl
     ·exact hall2 j j1 h
     exact hth
    ·exact Nat.le_trans htk (Nat.le_add_right _ 2)
    simp [Env.put,Env.of]; omega
   skip
   have hq:zdc (zaf p) t=some (true,k):=by unfold zdc; rw [zh4.2 hall,zfm.2 ⟨hk1,by omega,hth,hall2⟩]
   simp(disch:=omega)only[↓RU,RW,↓reduceIte,qE,reduceCtorEq,iP,qN,↓RS,RG,qA,qM,qL,ty7,zad,zbr,zfw,za7,zaa,zbs,zfx,za8,zah,hgu,hth]
   refine zac.pc (zfg hgw (rP p) ht (level:=true) (line:=t.r+k) (by omega) (by simp; omega)) rfl (.inl rfl) ?_
   simp(disch:=omega)only[↓RU,RW,↓reduceIte,qE,reduceCtorEq,iP,qN,↓RS,RG,qA,qM,qL,ty7,zad,zbr,zfw,za7,zaa,zbs,zfx,za8,zah,hgu,hth]
   refine zui.ey (hy _ hq _ _ _ (Nat.le_trans htk (Nat.le_add_right _ 2))) ?_
   rintro _ _ ⟨rfl,tk3,rfl⟩
   simp(disch:=omega)only[↓RU,RW,↓reduceIte,qE,reduceCtorEq,iP,qN,↓RS,RG,qA,qM,qL,ty7,zad,zbr,zfw,za7,zaa,zbs,zfx,za8,zah,hgu,hth]
   apply hK;clear hK K
   refine W.cond rfl (fun h1=>?_) (fun h1=>?_)
   ·try simp only[RL]at h1
    refine W.ret ?_
    refine XBlock.ret ?_
    refine XThen.ret ?_
    refine XThen.ret ?_
    refine XBlock.ret ?_
    refine Br rfl ?_
    exact ⟨4,.inr ⟨_,_,hq,rfl⟩⟩
   try simp only[RL]at h1
   exact absurd h1 (by simp)
  simp(disch:=omega)only[↓RU,RW,↓reduceIte,qE,reduceCtorEq,iP,↓RS,RG,qA,qM,qL,ty7,zbr,za7,zaa,zbs,za8,zah]
  apply hK;clear hK K
  refine xn ?_
  refine W.r fun K hK=>?_
  simp(disch:=omega)only[↓RU,RW,↓reduceIte,qE,reduceCtorEq,iP,w64,↓RS,RG,qA,qM,qL,ty7,zbr,za7,zaa,zbs,za8,zah]
  apply hK;clear hK K
  refine W.seq_pk 11 [some 81,some 82,some 83,some 84,some 85,some 86] [5] (by decide) (by kernel_rfl) fun K hK=>?_
  simp only[List.take_succ_cons,List.take_zero,List.drop_succ_cons,List.drop_zero]
  refine zbj rfl ?_
  simp(disch:=omega)only[↓RU,RW,↓reduceIte,qE,reduceCtorEq,iP,w64,↓RS,RG,qA,qM,qL,ty7,zbr,za7,zaa,zbs,za8,zah,e1,zat,za3]
  refine za4 (.ip [zar (gP p) (rP p),.int .i64 t.r,.int .i64 t.c,.int .i64 t.h,.int .i64 t.w] 1) rfl rfl rfl (fun S' hS=>?_) ?_
  ·skip
   have k5:=(hS 5 (by decide)).trans (show _=some _ from rfl)
   simp(disch:=omega)only[↓RU,RW,↓reduceIte,qE,reduceCtorEq,iP,w64,↓RS,RG,qA,qM,qL,ty7,zbr,za7,zaa,zbs,za8,zah,e1,zbz,zcr,zef,zeg,k5]
  refine za4 (.ip [zar (gP p) (rP p),.int .i64 t.r,.int .i64 t.c,.int .i64 t.h,.int .i64 t.w] 3) rfl rfl rfl (fun S' hS=>?_) ?_
  ·skip
   have k5:=(hS 5 (by decide)).trans (show _=some _ from rfl)
   simp(disch:=omega)only[↓RU,RW,↓reduceIte,qE,reduceCtorEq,iP,w64,↓RS,RG,qA,qM,qL,ty7,zbr,za7,zaa,zbs,za8,zah,e1,zbz,zcr,zef,zeg,k5]
  refine za4 (.int .i64 t.h) rfl rfl rfl (fun S' hS=>?_) ?_
  ·skip
   have k5:=(hS 5 (by decide)).trans (show _=some _ from rfl)
   simp(disch:=omega)only[↓RU,RW,↓reduceIte,qE,reduceCtorEq,iP,w64,↓RS,RG,qA,qM,qL,ty7,zbr,za7,zaa,zbs,za8,zah,e1,zbz,zcr,zef,zeg,k5]
  refine za4 (.ref 5 (tk2+1) 1) rfl rfl rfl (fun S' hS=>?_) ?_
  ·skip
   have k5:=(hS 5 (by decide)).trans (show _=some _ from rfl)
   simp(disch:=omega)only[↓RU,RW,↓reduceIte,qE,reduceCtorEq,iP,w64,↓RS,RG,qA,qM,qL,ty7,zbr,za7,zaa,zbs,za8,zah,e1,zbz,zcr,zef,zeg,k5]
  refine za4 (.ref 5 (tk2+1) 3) rfl rfl rfl (fun S' hS=>?_) ?_
  ·skip
   have k5:=(hS 5 (by decide)).trans (show _=some _ from rfl)
   simp(disch:=omega)only[↓RU,RW,↓reduceIte,qE,reduceCtorEq,iP,w64,↓RS,RG,qA,qM,qL,ty7,zbr,za7,zaa,zbs,za8,zah,e1,zbz,zcr,zef,zeg,k5]
  refine za4 (.int .i64 k) rfl rfl rfl (fun S' hS=>?_) ?_
  ·skip
   have k5:=(hS 5 (by decide)).trans (show _=some _ from rfl)
   simp(disch:=omega)only[↓RU,RW,↓reduceIte,qE,reduceCtorEq,iP,w64,↓RS,RG,qA,qM,qL,ty7,zbr,za7,zaa,zbs,za8,zah,e1,zbz,zcr,zef,zeg,k5]
  refine zbj rfl ?_
  simp(disch:=omega)only[↓RU,RW,↓reduceIte,qE,reduceCtorEq,iP,w64,↓RS,RG,qA,qM,qL,ty7,zbr,za7,zaa,zbs,za8,zah,e1,zat,za3]
  refine zbj rfl ?_
  simp(disch:=omega)only[↓RU,RW,↓reduceIte,qE,reduceCtorEq,iP,w64,↓RS,RG,qA,qM,qL,ty7,zbr,za7,zaa,zbs,za8,zah,e1,zat,za3]
  refine zbj rfl ?_
  simp(disch:=omega)only[↓RU,RW,↓reduceIte,qE,reduceCtorEq,iP,w64,↓RS,RG,qA,qM,qL,ty7,zbr,za7,zaa,zbs,za8,zah,e1,zat,za3]
  refine zbj rfl ?_
  simp(disch:=omega)only[↓RU,RW,↓reduceIte,qE,reduceCtorEq,iP,w64,↓RS,RG,qA,qM,qL,ty7,zbr,za7,zaa,zbs,za8,zah,e1,zat,za3]
  refine zgh ?_
  simp(disch:=omega)only[↓RU,RW,↓reduceIte,qE,reduceCtorEq,iP,w64,↓RS,RG,qA,qM,qL,ty7,zbr,za7,zaa,zbs,za8,zah,e1]
  apply hK;clear hK K
  refine W.r fun K hK=>?_
  cases hth:thL (zaf p) t k
  ·skip
   simp(disch:=omega)only[↓RU,RW,↓reduceIte,qE,reduceCtorEq,iP,qN,↓RS,RG,qA,qM,qL,ty7,zad,zbr,zfw,za7,zaa,zbs,zfx,za8,zah,hgu,hth]
   refine zac.pc (zfg hgw (rP p) ht (level:=true) (line:=t.r+k) (by omega) (by simp; omega)) rfl (.inl rfl) ?_
   simp(disch:=omega)only[↓RU,RW,↓reduceIte,qE,reduceCtorEq,iP,qN,↓RS,RG,qA,qM,qL,ty7,zad,zbr,zfw,za7,zaa,zbs,zfx,za8,zah,hgu,hth]
   apply hK;clear hK K
   refine W.cond rfl (fun h1=>?_) (fun h1=>?_)
   ·try simp only[RL]at h1
    exact absurd h1 (by simp)
   try simp only[RL]at h1
   refine W.skip ?_
   refine XbN ?_
   refine xn ?_
   refine W.k fun K hK=>?_
   simp(disch:=omega)only[↓RU,RW,↓reduceIte,qE,reduceCtorEq,iP,w64,↓RS,RG,qA,qM,qL,zaa,zah]
   apply hK;clear hK K
   refine xn ?_
   refine ⟨t.h - (k+1),by omega,4,k+1,_,rfl,by omega,by omega,fun j j1 j2=>?_,?_,?_,rfl⟩
   ·rcases Nat.lt_succ_iff_lt_or_eq.1 j2 with h | rfl
    ·exact hall2 j j1 h
    exact hth
   ·exact Nat.le_trans htk (Nat.le_add_right _ 2)
   simp [Env.put,Env.of]; omega
  skip
  have hq:zdc (zaf p) t=some (true,k):=by unfold zdc; rw [zh4.2 hall,zfm.2 ⟨hk1,by omega,hth,hall2⟩]
  simp(disch:=omega)only[↓RU,RW,↓reduceIte,qE,reduceCtorEq,iP,qN,↓RS,RG,qA,qM,qL,ty7,zad,zbr,zfw,za7,zaa,zbs,zfx,za8,zah,hgu,hth]
  refine zac.pc (zfg hgw (rP p) ht (level:=true) (line:=t.r+k) (by omega) (by simp; omega)) rfl (.inl rfl) ?_
  simp(disch:=omega)only[↓RU,RW,↓reduceIte,qE,reduceCtorEq,iP,qN,↓RS,RG,qA,qM,qL,ty7,zad,zbr,zfw,za7,zaa,zbs,zfx,za8,zah,hgu,hth]
  refine zui.ey (hy _ hq _ _ _ (Nat.le_trans htk (Nat.le_add_right _ 2))) ?_
  rintro _ _ ⟨rfl,tk3,rfl⟩
  simp(disch:=omega)only[↓RU,RW,↓reduceIte,qE,reduceCtorEq,iP,qN,↓RS,RG,qA,qM,qL,ty7,zad,zbr,zfw,za7,zaa,zbs,zfx,za8,zah,hgu,hth]
  apply hK;clear hK K
  refine W.cond rfl (fun h1=>?_) (fun h1=>?_)
  ·try simp only[RL]at h1
   refine W.ret ?_
   refine XBlock.ret ?_
   refine XThen.ret ?_
   refine XThen.ret ?_
   refine XBlock.ret ?_
   refine Br rfl ?_
   exact ⟨4,.inr ⟨_,_,hq,rfl⟩⟩
  try simp only[RL]at h1
  exact absurd h1 (by simp)
 try simp only[RL]at h
 obtain rfl:k=t.h:=by omega
 refine W.exit ?_
 refine xe ?_
 refine xe ?_
 refine XBlock.hit ?_
 refine zfj.norm rfl ?_
 exact ⟨4,.inl ⟨_,znk.2 ⟨hall,hall2⟩,rfl⟩⟩
def yh6:PV := .agg [.bool false,.nilp,.int .i64 0,.int .i64 0,.int .i64 0,.int .i64 0,.nilp,.int .i64 0,.int .i64 0,.int .i64 0,.int .i64 0]
def zqo (p:List Txt) (t:Pt):PV:=match zdc (zaf p) t with | some q => .tup [z2v (gP p) (rP p) t q,.bool true] | none => .tup [yh6,.bool false]
theorem zpg {p:List Txt} (hp:zbk p=true) {t:Pt} (ht:t.In p.length (zag p).length):PC Tryz.prog 70 [zfb (gP p) (rP p) t.rect] (zqo p t) false:=by
 simp only[zfb,Pt.rect,Rect.cells]
 refine PC.ofV ⟨Tryz.func70,by kernel_rfl,rfl,by kernel_rfl⟩ zav mixed (by show 1≤Tryz.f70.ntmps; decide) ?_
 refine V.seq_region fun K hK=>?_
 simp(disch:=omega)only[↓RU,RW,↓reduceIte,qE,reduceCtorEq,iP,↓RS,RG,qA,qM,qL,ty7,zad,zbr,zfw,za7,zaa,zbs,zfx,za8]
 apply hK;clear hK K
 refine V.seq ?_
 refine V.seq_region fun K hK=>?_
 simp(disch:=omega)only[↓RU,RW,↓reduceIte,qE,reduceCtorEq,iP,qN,↓RS,RG,qA,qM,qL,ty7,zbr,za7,zaa,zbs,za8]
 refine zac.pc (yg5 (gP p) (rP p) t.rect) rfl (.inr rfl) ?_
 simp(disch:=omega)only[↓RU,RW,↓reduceIte,qE,reduceCtorEq,iP,qN,↓RS,RG,qA,qM,qL,ty7,zbr,za7,zaa,zbs,za8]
 apply hK;clear hK K
 refine V.block ?_
 refine V.rangeFunc [2,3] rfl fun l r hr hst hpd=>?_
 refine ⟨_,ydb hp ht l _ _ _ _ _ (fun q => .arr 1 87 11 [.bool q.1,zar (gP p) (rP p),.int .i64 (t.one q).r,.int .i64 (t.one q).c,.int .i64 (t.one q).h,.int .i64 (t.one q).w,zar (gP p) (rP p),.int .i64 (t.two q).r,.int .i64 (t.two q).c,.int .i64 (t.two q).h,.int .i64 (t.two q).w]) (fun _ => .arr 2 4 1 [.bool true]) (fun _ => .lp 3 l ({ r with state := .done,pending:=some .ret },[2,3]) [.ref 1 1 0,.ref 2 2 0]) (fun q hq x y tk2 htk=>?_),?_⟩
 ·refine Ey.of (o:=3) zav mixed rfl hr hst rfl ?_
  change W _ _ _ _ (Env.put (Env.of [2,3] [.ref 1 1 0,.ref 2 2 0]) (some 7) (.agg [.bool q.1,zar (gP p) (rP p),.int .i64 (t.one q).r,.int .i64 (t.one q).c,.int .i64 (t.one q).h,.int .i64 (t.one q).w,zar (gP p) (rP p),.int .i64 (t.two q).r,.int .i64 (t.two q).c,.int .i64 (t.two q).h,.int .i64 (t.two q).w])) _
  refine W.k fun K hK=>?_
  simp(disch:=omega)only[↓RU,RW,↓reduceIte,qE,reduceCtorEq,iP,↓RS,RG,qA,qM,qL,ty7,zad,zbr,zfw,za7,zaa,zbs,zfx,za8]
  apply hK;clear hK K
  refine xn ⟨_,_,_,_,rfl,hst,?_⟩
  simp only[List.set_cons_succ,List.set_cons_zero]
  refine W.block ?_
  refine W.r fun K hK=>?_
  simp(disch:=omega)only[↓RU,RW,↓reduceIte,qE,reduceCtorEq,iP,↓RS,RG,qA,qM,qL,ty7,zad,zbr,zfw,za7,zaa,zbs,zfx,za8]
  apply hK;clear hK K
  refine W.ret ?_
  refine XBlock.ret ?_
  exact ⟨_,_,_,_,6,rfl,rfl,_,rfl⟩
 rintro v S2 (⟨tk2,hq,rfl⟩ | ⟨q,tk2,hq,rfl⟩)
 ·skip
  refine ⟨_,_,_,_,.normal,rfl,by rw [hst]; simp,by rw [hpd]; rfl,?_⟩
  change XBlock _ _ _ _ ⟨[_,_,_],_⟩
  refine XbN ?_
  refine xn ?_
  refine W.v ?_
  refine W.r fun K hK=>?_
  simp(disch:=omega)only[↓RU,RW,↓reduceIte,qE,reduceCtorEq,iP,↓RS,RG,qA,qM,qL,ty7,zad,zbr,zfw,za7,zaa,zbs,zfx,za8]
  apply hK;clear hK K
  refine W.ret ?_
  refine Br rfl ?_
  simp only[zqo,hq]
  rfl
 skip
 refine ⟨_,_,_,_,.ret,rfl,by simp,rfl,?_⟩
 change XBlock _ _ _ _ ⟨[_,_,_],_⟩
 refine XBlock.ret ?_
 refine XThen.ret ?_
 refine Br rfl ?_
 simp only[zqo,hq]
 rfl
theorem ydp {p:List Txt} (hs:Sm p) (hg:zcx p=true):PC Tryz.prog 61 [zbi p] (.bool (yf9 p)) true:=by
 have hp:=hs.rows
 have hsm:=zbo hg
 obtain ⟨row0,hrow0,hrm0⟩:=zaj hsm.1
 have hhd:=zcf hrow0
 have hw6:=hsm.2.2 row0 hrm0
 have hw1:=zfr hg hrow0
 obtain ⟨c0,hc0,-⟩:=zaj (show 0<row0.length by omega)
 have hone:yf9 p=p.all (fun row=>row.all fun c=>decide (c=c0)):=by simp [yf9,hhd,hc0]
 refine PC.of ⟨Tryz.func61,by kernel_rfl,rfl,by kernel_rfl⟩ zav mixed (by show 1≤Tryz.f61.ntmps; decide) ?_
 refine W.r fun K hK=>?_
 simp(disch:=omega)only[↓RU,RW,↓reduceIte,qE,reduceCtorEq,iP]
 apply hK;clear hK K
 refine W.seq ?_
 refine W.r fun K hK=>?_
 simp(disch:=omega)only[↓RU,RW,↓reduceIte,qE,reduceCtorEq,iP]
 apply hK;clear hK K
 refine W.block ?_
 refine W.loop [0,3] (fun n vs S=>∃ i:Nat,n=p.length - i∧i≤p.length∧((p.take i).all (fun row=>row.all fun c=>decide (c=c0))=true)∧vs=[zbi p,.int .i64 i]∧S=⟨[],0⟩) (p.length) ?_ ?_
 ·refine ⟨0,0,rfl,Nat.zero_le _,rfl,?_,rfl⟩
  simp [Env.put,Env.of,zai]
 rintro n vs S - ⟨i,rfl,h_i,hall,rfl,rfl⟩
 refine W.seq ?_
 refine W.r fun K hK=>?_
 simp(disch:=omega)only[↓RU,RW,↓reduceIte,qE,reduceCtorEq,iP,w64,ty5,zaa,zal]
 apply hK;clear hK K
 refine W.cond rfl (fun h=>?_) (fun h=>?_)
 ·try simp only[RL]at h
  obtain ⟨row,hrow,hrm⟩:=zaj (show i<p.length by omega)
  have hrl:=hsm.2.2 row hrm
  refine W.skip ?_
  refine xn ?_
  refine W.seq ?_
  refine W.block ?_
  refine W.r fun K hK=>?_
  simp(disch:=omega)only[↓RU,RW,↓reduceIte,qE,reduceCtorEq,iP]
  apply hK;clear hK K
  refine W.block ?_
  refine W.loop [0,3,4] (fun n vs S=>∃ k:Nat,n=row.length - k∧k≤row.length∧((row.take k).all (fun c=>decide (c=c0))=true)∧vs=[zbi p,.int .i64 i,.int .i64 k]∧S=⟨[],0⟩) (row.length) ?_ ?_
  ·refine ⟨0,0,rfl,Nat.zero_le _,rfl,?_,rfl⟩
   simp [Env.put,Env.of]
  rintro n vs S - ⟨k,rfl,h_k,hr2,rfl,rfl⟩
  refine W.seq ?_
  refine W.r fun K hK=>?_
  simp(disch:=omega)only[↓RU,RW,↓reduceIte,qE,reduceCtorEq,iP,w64,ty5,zaa,zal,hrow]
  apply hK;clear hK K
  refine W.cond rfl (fun h1=>?_) (fun h1=>?_)
  ·try simp only[RL]at h1
   obtain ⟨c,hc,hcm⟩:=zaj (show k<row.length by omega)
   refine W.skip ?_
   refine xn ?_
   refine W.seq ?_
   refine W.block ?_
   refine W.seq_draw (by kernel_rfl) fun K hK=>?_
   simp(disch:=omega)only[↓RU,RW,↓reduceIte,qE,reduceCtorEq,iP,w64,ty5,zal,zhv,hrow,hc,hrow0,hc0,Int.toNat_zero,Nat.zero_mul,qZ]
   apply hK;clear hK K
   refine W.cond rfl (fun h2=>?_) (fun h2=>?_)
   ·try simp only[RL]at h2
    have hne:¬ c=c0:=by rintro rfl; simp at h2
    refine W.r fun K hK=>?_
    simp(disch:=omega)only[↓RU,RW,↓reduceIte,qE,reduceCtorEq,iP]
    apply hK;clear hK K
    refine W.ret ?_
    refine XBlock.ret ?_
    refine XThen.ret ?_
    refine XThen.ret ?_
    refine XBlock.ret ?_
    refine XBlock.ret ?_
    refine XThen.ret ?_
    refine XThen.ret ?_
    refine XBlock.ret ?_
    refine XThen.ret ?_
    refine Br rfl ?_
    have:yf9 p=false:=by rw [hone,List.all_eq_false]; exact ⟨row,hrm,by simp only[Bool.not_eq_true,List.all_eq_false]; exact ⟨c,hcm,by simpa using hne⟩⟩
    rw [this]
    rfl
   try simp only[RL]at h2
   have heq:c=c0:=by simpa [ye0] using h2
   refine W.skip ?_
   refine XbN ?_
   refine xn ?_
   refine W.k fun K hK=>?_
   simp(disch:=omega)only[↓RU,RW,↓reduceIte,qE,reduceCtorEq,iP,w64,zaa]
   apply hK;clear hK K
   refine xn ?_
   refine ⟨row.length - (k+1),by omega,0,k+1,rfl,by omega,zsr hc hr2 (decide_eq_true heq),?_,rfl⟩
   simp [Env.put,Env.of]
  try simp only[RL]at h1
  have hrk:k=row.length:=by omega
  rw [hrk,List.take_length]at hr2
  refine W.exit ?_
  refine xe ?_
  refine xe ?_
  refine XBlock.hit ?_
  refine XbN ?_
  refine xn ?_
  refine W.k fun K hK=>?_
  simp(disch:=omega)only[↓RU,RW,↓reduceIte,qE,reduceCtorEq,iP,w64,zaa]
  apply hK;clear hK K
  refine xn ?_
  refine ⟨p.length - (i+1),by omega,0,i+1,rfl,by omega,zsr hrow hall hr2,?_,rfl⟩
  simp [Env.put,Env.of]
 try simp only[RL]at h
 refine W.exit ?_
 refine xe ?_
 refine xe ?_
 refine XBlock.hit ?_
 refine xn ?_
 refine W.r fun K hK=>?_
 simp(disch:=omega)only[↓RU,RW,↓reduceIte,qE,reduceCtorEq,iP]
 apply hK;clear hK K
 refine W.ret ?_
 refine Br rfl ?_
 have hip:i=p.length:=by omega
 rw [hip,List.take_length]at hall
 rw [hone,hall]
 rfl
theorem zu8 {p:List Txt} (hs:Sm p) (hg:zcx p=true):PC Tryz.prog 62 [zbi p] (.tup [.int .i64 (ycj p).1,.int .i64 (ycj p).2]) true:=by
 have hp:=hs.rows
 have hsm:=zbo hg
 obtain ⟨row0,hrow0,hrm0⟩:=zaj hsm.1
 have hhd:=zcf hrow0
 have hw6:=hsm.2.2 row0 hrm0
 have hw1:=zfr hg hrow0
 obtain ⟨c0,hc0,-⟩:=zaj (show 0<row0.length by omega)
 have hgt:=z6w hg
 have hst:=Sm.grid hgt
 have hsmt:=zbo hgt
 have htl:=zfu (p:=p)
 have hth:=zkd (p:=p) (by rw [hhd]; omega)
 have hul:(uprights p).length≤100:=by have h1:=znc p (zag p).length; have h2:(p.length+1)*(zag p).length≤7*6:=Nat.mul_le_mul (by omega) (by rw [hhd]; omega); unfold uprights; omega
 have hvl:(uprights (zcq p)).length≤100:=by have h1:=znc (zcq p) (zag (zcq p)).length; have h2:((zcq p).length+1)*(zag (zcq p)).length≤7*6:=Nat.mul_le_mul (by omega) (by omega); unfold uprights; omega
 refine PC.of ⟨Tryz.func62,by kernel_rfl,rfl,by kernel_rfl⟩ zav mixed (by show 1≤Tryz.f62.ntmps; decide) ?_
 refine W.r fun K hK=>?_
 simp(disch:=omega)only[↓RU,RW,↓reduceIte,qE,reduceCtorEq,iP]
 apply hK;clear hK K
 refine W.r fun K hK=>?_
 simp(disch:=omega)only[↓RU,RW,↓reduceIte,qE,reduceCtorEq,iP,qN]
 refine zac.pc (zou hs hg) rfl (.inr rfl) ?_
 simp(disch:=omega)only[↓RU,RW,↓reduceIte,qE,reduceCtorEq,iP,qN]
 apply hK;clear hK K
 refine W.seq ?_
 refine W.r fun K hK=>?_
 simp(disch:=omega)only[↓RU,RW,↓reduceIte,qE,reduceCtorEq,iP]
 apply hK;clear hK K
 refine W.block ?_
 refine W.loop [0,4,5] (fun n vs S=>∃ i:Nat,n=(uprights p).length - i∧i≤(uprights p).length∧(((uprights p).take i).find? (zd0 p.length)=none)∧vs=[zbi p,.sl ((uprights p).map eInts) (uprights p).length,.int .i64 i]∧S=⟨[],0⟩) ((uprights p).length) ?_ ?_
 ·refine ⟨0,0,rfl,Nat.zero_le _,rfl,?_,rfl⟩
  simp [Env.put,Env.of,zai]
 rintro n vs S - ⟨i,rfl,h_i,hno,rfl,rfl⟩
 refine W.seq ?_
 refine W.r fun K hK=>?_
 simp(disch:=omega)only[↓RU,RW,↓reduceIte,qE,reduceCtorEq,iP,w64,ty1,zab,zaa]
 apply hK;clear hK K
 refine W.cond rfl (fun h=>?_) (fun h=>?_)
 ·try simp only[RL]at h
  obtain ⟨u,hu,hum⟩:=zaj (show i<(uprights p).length by omega)
  obtain ⟨k,f,l,rfl,hk⟩:=ygo hum
  refine W.skip ?_
  refine xn ?_
  refine W.seq ?_
  refine W.block ?_
  refine W.r fun K hK=>?_
  simp(disch:=omega)only[↓RU,RW,↓reduceIte,qE,reduceCtorEq,iP,w64,ty1,zab,ty5,zaa,zal,hu]
  apply hK;clear hK K
  refine W.cond rfl (fun h1=>?_) (fun h1=>?_)
  ·try simp only[RL]at h1
   have hlong:zd0 p.length [(k:Int),(f:Int),(l:Int)]=true:=by simp [zd0,zcw]; omega
   refine W.seq_draw (by kernel_rfl) fun K hK=>?_
   simp(disch:=omega)only[↓RU,RW,↓reduceIte,qE,reduceCtorEq,iP,ty1,zab,zaa,hu]
   apply hK;clear hK K
   refine W.ret ?_
   refine XBlock.ret ?_
   refine XThen.ret ?_
   refine XThen.ret ?_
   refine XBlock.ret ?_
   refine XThen.ret ?_
   refine Br rfl ?_
   rw [show ycj p=(0,(k:Int)) by unfold ycj; rw [zxm hu hno hlong]; rfl]
   rfl
  try simp only[RL]at h1
  have hlong:zd0 p.length [(k:Int),(f:Int),(l:Int)]=false:=by simp [zd0,zcw]; omega
  refine W.skip ?_
  refine XbN ?_
  refine xn ?_
  refine W.k fun K hK=>?_
  simp(disch:=omega)only[↓RU,RW,↓reduceIte,qE,reduceCtorEq,iP,w64,zaa]
  apply hK;clear hK K
  refine xn ?_
  refine ⟨(uprights p).length - (i+1),by omega,0,i+1,rfl,by omega,zop hu hno hlong,?_,rfl⟩
  simp [Env.put,Env.of]
 try simp only[RL]at h
 have hip:i=(uprights p).length:=by omega
 rw [hip,List.take_length]at hno
 refine W.exit ?_
 refine xe ?_
 refine xe ?_
 refine XBlock.hit ?_
 refine xn ?_
 refine W.r fun K hK=>?_
 simp(disch:=omega)only[↓RU,RW,↓reduceIte,qE,reduceCtorEq,iP,qN]
 refine zac.pc (z5u hs hg) rfl (.inl rfl) ?_
 simp(disch:=omega)only[↓RU,RW,↓reduceIte,qE,reduceCtorEq,iP,qN]
 refine zac.pc (zou hst hgt) rfl (.inr rfl) ?_
 simp(disch:=omega)only[↓RU,RW,↓reduceIte,qE,reduceCtorEq,iP,qN]
 apply hK;clear hK K
 refine W.seq ?_
 refine W.r fun K hK=>?_
 simp(disch:=omega)only[↓RU,RW,↓reduceIte,qE,reduceCtorEq,iP]
 apply hK;clear hK K
 refine W.block ?_
 refine W.loop [0,6,7] (fun n vs S=>∃ i:Nat,n=(uprights (zcq p)).length - i∧i≤(uprights (zcq p)).length∧(((uprights (zcq p)).take i).find? (zd0 (zag p).length)=none)∧vs=[zbi p,.sl ((uprights (zcq p)).map eInts) (uprights (zcq p)).length,.int .i64 i]∧S=⟨[],0⟩) ((uprights (zcq p)).length) ?_ ?_
 ·refine ⟨0,0,rfl,Nat.zero_le _,rfl,?_,rfl⟩
  simp [Env.put,Env.of,zai]
 rintro n vs S - ⟨i,rfl,h_i,hno2,rfl,rfl⟩
 refine W.seq ?_
 refine W.r fun K hK=>?_
 simp(disch:=omega)only[↓RU,RW,↓reduceIte,qE,reduceCtorEq,iP,w64,ty1,zab,zaa]
 apply hK;clear hK K
 refine W.cond rfl (fun h=>?_) (fun h=>?_)
 ·try simp only[RL]at h
  obtain ⟨u,hu,hum⟩:=zaj (show i<(uprights (zcq p)).length by omega)
  obtain ⟨k,f,l,rfl,hk⟩:=ygo hum
  refine W.skip ?_
  refine xn ?_
  refine W.seq ?_
  refine W.block ?_
  refine W.seq_draw (by kernel_rfl) fun K hK=>?_
  simp(disch:=omega)only[↓RU,RW,↓reduceIte,qE,reduceCtorEq,iP,w64,ty1,zab,ty5,zaa,zal,hu,hrow0,Int.toNat_zero,Nat.zero_mul,qZ]
  apply hK;clear hK K
  refine W.cond rfl (fun h1=>?_) (fun h1=>?_)
  ·try simp only[RL]at h1
   have hlong:zd0 (zag p).length [(k:Int),(f:Int),(l:Int)]=true:=by simp [zd0,zcw,hhd]; omega
   refine W.seq_draw (by kernel_rfl) fun K hK=>?_
   simp(disch:=omega)only[↓RU,RW,↓reduceIte,qE,reduceCtorEq,iP,ty1,zab,zaa,hu]
   apply hK;clear hK K
   refine W.ret ?_
   refine XBlock.ret ?_
   refine XThen.ret ?_
   refine XThen.ret ?_
   refine XBlock.ret ?_
   refine XThen.ret ?_
   refine Br rfl ?_
   rw [show ycj p=(1,(k:Int)) by unfold ycj; rw [hno,zxm hu hno2 hlong]; rfl]
   rfl
  try simp only[RL]at h1
  have hlong:zd0 (zag p).length [(k:Int),(f:Int),(l:Int)]=false:=by simp [zd0,zcw,hhd]; omega
  refine W.skip ?_
  refine XbN ?_
  refine xn ?_
  refine W.k fun K hK=>?_
  simp(disch:=omega)only[↓RU,RW,↓reduceIte,qE,reduceCtorEq,iP,w64,zaa]
  apply hK;clear hK K
  refine xn ?_
  refine ⟨(uprights (zcq p)).length - (i+1),by omega,0,i+1,rfl,by omega,zop hu hno2 hlong,?_,rfl⟩
  simp [Env.put,Env.of]
 try simp only[RL]at h
 have hip:i=(uprights (zcq p)).length:=by omega
 rw [hip,List.take_length]at hno2
 refine W.exit ?_
 refine xe ?_
 refine xe ?_
 refine XBlock.hit ?_
 refine xn ?_
 refine W.r fun K hK=>?_
 simp(disch:=omega)only[↓RU,RW,↓reduceIte,qE,reduceCtorEq,iP]
 apply hK;clear hK K
 refine W.ret ?_
 refine Br rfl ?_
 rw [show ycj p=(0,0) by unfold ycj; rw [hno,hno2]]
 rfl
theorem yib {p:List Txt} {i k:Nat} {row:Txt} (h:p[i]?=some row):zgx (p.take (i+1)) (false,k)=zgx (p.take i) (false,k)++[row.take k]:=by simp [zgx,tk h]
theorem yic {p:List Txt} {i k:Nat} {row:Txt} (h:p[i]?=some row):zgy (p.take (i+1)) (false,k)=zgy (p.take i) (false,k)++[row.drop k]:=by simp [zgy,tk h]
theorem z98 {p:List Txt} {i k:Nat} {row:Txt} (h:p[i]?=some row):zgx (p.take (i+1)) (true,k)=if i<k then zgx (p.take i) (true,k)++[row] else zgx (p.take i) (true,k):=by
 have hl:=(List.getElem?_eq_some_iff.1 h).1
 simp only[zgx,if_true,List.take_take]
 split
 ·rw [Nat.min_eq_right (by omega),Nat.min_eq_right (by omega),tk h]
 rw [Nat.min_eq_left (by omega),Nat.min_eq_left (by omega)]
theorem z99 {p:List Txt} {i k:Nat} {row:Txt} (h:p[i]?=some row):zgy (p.take (i+1)) (true,k)=if i<k then zgy (p.take i) (true,k) else zgy (p.take i) (true,k)++[row]:=by
 have hl:=(List.getElem?_eq_some_iff.1 h).1
 simp only[zgy,if_true]
 split
 ·rw [List.drop_of_length_le (by simp; omega),List.drop_of_length_le (by simp; omega)]
 rw [tk h,List.drop_append_of_le_length (by simp; omega)]
theorem z32 {p:List Txt} {q:Bool × Nat} (i:Nat):(zgx (p.take i) q).length≤i∧(zgy (p.take i) q).length≤i:=by
 obtain ⟨lv,k⟩:=q
 cases lv <;> simp [zgx,zgy] <;> omega
theorem z1e {p:List Txt} (hs:Sm p) (hg:zcx p=true) {k:Nat} (hk:k≤(zag p).length):PC Tryz.prog 63 [zbi p,.int .i64 0,.int .i64 k] (.tup [zbi (zgx p (false,k)),zbi (zgy p (false,k))]) true:=by
 have hp:=hs.rows
 have hsm:=zbo hg
 obtain ⟨row0,hrow0,hrm0⟩:=zaj hsm.1
 have hhd:=zcf hrow0
 have hw6:=hsm.2.2 row0 hrm0
 have hw1:=zfr hg hrow0
 rw [hhd]at hk
 refine PC.of ⟨Tryz.func63,by kernel_rfl,rfl,by kernel_rfl⟩ zav mixed (by show 3≤Tryz.f63.ntmps; decide) ?_
 refine W.r fun K hK=>?_
 simp(disch:=omega)only[↓RU,RW,↓reduceIte,qE,reduceCtorEq,iP,↓RS,RG,qA,qM,qL]
 apply hK;clear hK K
 refine W.r fun K hK=>?_
 simp(disch:=omega)only[↓RU,RW,↓reduceIte,qE,reduceCtorEq,iP,↓RS,RG,qA,qM,qL,ty5,zal]
 apply hK;clear hK K
 refine W.r fun K hK=>?_
 simp(disch:=omega)only[↓RU,RW,↓reduceIte,qE,reduceCtorEq,iP,↓RS,RG,qA,qM,qL,ty5,zal]
 apply hK;clear hK K
 refine W.seq ?_
 refine W.r fun K hK=>?_
 simp(disch:=omega)only[↓RU,RW,↓reduceIte,qE,reduceCtorEq,iP,↓RS,RG,qA,qM,qL]
 apply hK;clear hK K
 refine W.block ?_
 refine W.loop [0,1,2,8,9,10] (fun n vs S=>∃ i v0 v1 tk:Nat,n=p.length - i∧i≤p.length∧vs=[zbi p,.int .i64 0,.int .i64 k,.loc 0 v0 0 (zgx (p.take i) (false,k)).length,.loc 1 v1 0 (zgy (p.take i) (false,k)).length,.int .i64 i]∧S=⟨[.arr v0 9 1 ((zgx (p.take i) (false,k)).map .str),.arr v1 9 1 ((zgy (p.take i) (false,k)).map .str)],tk⟩) p.length ?_ ?_
 ·refine ⟨2,0,0,1,2,rfl,Nat.zero_le _,?_,?_⟩
  ·simp [Env.put,Env.of,zai,zgx,zgy]
  simp [zgx,zgy,Store.take]
 rintro n vs S - ⟨i,v0,v1,tk,rfl,h_i,rfl,rfl⟩
 refine W.seq ?_
 refine W.r fun K hK=>?_
 simp(disch:=omega)only[↓RU,RW,↓reduceIte,qE,reduceCtorEq,iP,w64,↓RS,RG,qA,qM,qL,ty5,zaa,zal]
 apply hK;clear hK K
 refine W.cond rfl (fun h=>?_) (fun h=>?_)
 ·try simp only[RL]at h
  obtain ⟨row,hrow,hrm⟩:=zaj (show i<p.length by omega)
  have hrl:=hsm.2.2 row hrm
  have hrw:=zew hg hrow
  rw [hhd]at hrw
  have hpl:=z32 (p:=p) (q:=(false,k)) i
  generalize hA:zgx (p.take i) (false,k)=A at hpl
  generalize hB:zgy (p.take i) (false,k)=B at hpl
  refine W.skip ?_
  refine xn ?_
  refine W.seq ?_
  refine W.block ?_
  refine W.block ?_
  refine W.r fun K hK=>?_
  simp(disch:=omega)only[↓RU,RW,↓reduceIte,qE,reduceCtorEq,iP,w64,↓RS,RG,qA,qM,qL,zaa]
  apply hK;clear hK K
  refine W.cond rfl (fun h1=>?_) (fun h1=>?_)
  ·try simp only[RL]at h1
   refine W.r fun K hK=>?_
   simp(disch:=omega)only[↓RU,RW,↓reduceIte,qE,reduceCtorEq,iP,Option.map_none,↓RS,RG,qA,qM,qL,ty5,zal,hrow,List.drop_zero]
   apply hK;clear hK K
   refine W.k fun K hK=>?_
   simp(disch:=omega)only[↓RU,RW,↓reduceIte,qE,reduceCtorEq,iP,Option.map_none,↓RS,RG,qA,qM,qL,ty5,zal,hrow,List.take_length]
   apply hK;clear hK K
   refine XbN ?_
   refine XbN ?_
   refine xn ?_
   refine W.k fun K hK=>?_
   simp(disch:=omega)only[↓RU,RW,↓reduceIte,qE,reduceCtorEq,iP,w64,↓RS,RG,qA,qM,qL,zaa]
   apply hK;clear hK K
   refine xn ?_
   refine ⟨p.length - (i+1),by omega,2,i+1,(tk+1),(tk+3),(tk+4),rfl,by omega,?_,?_⟩
   all_goals rw [yib hrow,yic hrow,hA,hB]
   all_goals simp [Env.put,Env.of,zcs,hA,hB,Store.take]
  try simp only[RL]at h1
  exact absurd h1 (by simp)
 try simp only[RL]at h
 obtain rfl:i=p.length:=by omega
 rw [List.take_length]
 refine W.exit ?_
 refine xe ?_
 refine xe ?_
 refine XBlock.hit ?_
 refine xn ?_
 refine W.r fun K hK=>?_
 simp(disch:=omega)only[↓RU,RW,↓reduceIte,qE,reduceCtorEq,iP,↓RS,RG,qA,qM,qL]
 apply hK;clear hK K
 refine W.ret ?_
 refine Br rfl ?_
 exact congrArg (Option.map PV.tup) (za5 (zce (k:=8) rfl (by simp) (zii _)) (za5 (zce (k:=8) rfl (by simp) (zii _)) rfl))
theorem z1d {p:List Txt} (hs:Sm p) (hg:zcx p=true) {k:Nat} (hk:k≤p.length):PC Tryz.prog 63 [zbi p,.int .i64 1,.int .i64 k] (.tup [zbi (zgx p (true,k)),zbi (zgy p (true,k))]) true:=by
 have hp:=hs.rows
 have hsm:=zbo hg
 obtain ⟨row0,hrow0,hrm0⟩:=zaj hsm.1
 have hhd:=zcf hrow0
 have hw6:=hsm.2.2 row0 hrm0
 have hw1:=zfr hg hrow0
 skip
 refine PC.of ⟨Tryz.func63,by kernel_rfl,rfl,by kernel_rfl⟩ zav mixed (by show 3≤Tryz.f63.ntmps; decide) ?_
 refine W.r fun K hK=>?_
 simp(disch:=omega)only[↓RU,RW,↓reduceIte,qE,reduceCtorEq,iP,↓RS,RG,qA,qM,qL]
 apply hK;clear hK K
 refine W.r fun K hK=>?_
 simp(disch:=omega)only[↓RU,RW,↓reduceIte,qE,reduceCtorEq,iP,↓RS,RG,qA,qM,qL,ty5,zal]
 apply hK;clear hK K
 refine W.r fun K hK=>?_
 simp(disch:=omega)only[↓RU,RW,↓reduceIte,qE,reduceCtorEq,iP,↓RS,RG,qA,qM,qL,ty5,zal]
 apply hK;clear hK K
 refine W.seq ?_
 refine W.r fun K hK=>?_
 simp(disch:=omega)only[↓RU,RW,↓reduceIte,qE,reduceCtorEq,iP,↓RS,RG,qA,qM,qL]
 apply hK;clear hK K
 refine W.block ?_
 refine W.loop [0,1,2,8,9,10] (fun n vs S=>∃ i v0 v1 tk:Nat,n=p.length - i∧i≤p.length∧vs=[zbi p,.int .i64 1,.int .i64 k,.loc 0 v0 0 (zgx (p.take i) (true,k)).length,.loc 1 v1 0 (zgy (p.take i) (true,k)).length,.int .i64 i]∧S=⟨[.arr v0 9 1 ((zgx (p.take i) (true,k)).map .str),.arr v1 9 1 ((zgy (p.take i) (true,k)).map .str)],tk⟩) p.length ?_ ?_
 ·refine ⟨2,0,0,1,2,rfl,Nat.zero_le _,?_,?_⟩
  ·simp [Env.put,Env.of,zai,zgx,zgy]
  simp [zgx,zgy,Store.take]
 rintro n vs S - ⟨i,v0,v1,tk,rfl,h_i,rfl,rfl⟩
 refine W.seq ?_
 refine W.r fun K hK=>?_
 simp(disch:=omega)only[↓RU,RW,↓reduceIte,qE,reduceCtorEq,iP,w64,↓RS,RG,qA,qM,qL,ty5,zaa,zal]
 apply hK;clear hK K
 refine W.cond rfl (fun h=>?_) (fun h=>?_)
 ·try simp only[RL]at h
  obtain ⟨row,hrow,hrm⟩:=zaj (show i<p.length by omega)
  have hrl:=hsm.2.2 row hrm
  have hrw:=zew hg hrow
  rw [hhd]at hrw
  have hpl:=z32 (p:=p) (q:=(true,k)) i
  generalize hA:zgx (p.take i) (true,k)=A at hpl
  generalize hB:zgy (p.take i) (true,k)=B at hpl
  refine W.skip ?_
  refine xn ?_
  refine W.seq ?_
  refine W.block ?_
  refine W.block ?_
  refine W.r fun K hK=>?_
  simp(disch:=omega)only[↓RU,RW,↓reduceIte,qE,reduceCtorEq,iP,w64,↓RS,RG,qA,qM,qL,zaa]
  apply hK;clear hK K
  refine W.cond rfl (fun h1=>?_) (fun h1=>?_)
  ·try simp only[RL]at h1
   exact absurd h1 (by simp)
  ·try simp only[RL]at h1
   refine W.r fun K hK=>?_
   simp(disch:=omega)only[↓RU,RW,↓reduceIte,qE,reduceCtorEq,iP,w64,↓RS,RG,qA,qM,qL,zaa]
   apply hK;clear hK K
   refine W.cond rfl (fun h2=>?_) (fun h2=>?_)
   ·try simp only[RL]at h2
    refine W.k fun K hK=>?_
    simp(disch:=omega)only[↓RU,RW,↓reduceIte,qE,reduceCtorEq,iP,↓RS,RG,qA,qM,qL,ty5,zal,hrow]
    apply hK;clear hK K
    refine XbN ?_
    refine XbN ?_
    refine xn ?_
    refine W.k fun K hK=>?_
    simp(disch:=omega)only[↓RU,RW,↓reduceIte,qE,reduceCtorEq,iP,w64,↓RS,RG,qA,qM,qL,zaa]
    apply hK;clear hK K
    refine xn ?_
    refine ⟨p.length - (i+1),by omega,2,i+1,(tk+1),v1,(tk+2),rfl,by omega,?_,?_⟩
    all_goals rw [z98 hrow,z99 hrow,if_pos (show i<k by omega),if_pos (show i<k by omega),hA,hB]
    all_goals simp [Env.put,Env.of,zcs,hA,hB,Store.take]
   ·try simp only[RL]at h2
    refine W.k fun K hK=>?_
    simp(disch:=omega)only[↓RU,RW,↓reduceIte,qE,reduceCtorEq,iP,↓RS,RG,qA,qM,qL,ty5,zal,hrow]
    apply hK;clear hK K
    refine XbN ?_
    refine XbN ?_
    refine xn ?_
    refine W.k fun K hK=>?_
    simp(disch:=omega)only[↓RU,RW,↓reduceIte,qE,reduceCtorEq,iP,w64,↓RS,RG,qA,qM,qL,zaa]
    apply hK;clear hK K
    refine xn ?_
    refine ⟨p.length - (i+1),by omega,2,i+1,v0,(tk+1),(tk+2),rfl,by omega,?_,?_⟩
    all_goals rw [z98 hrow,z99 hrow,if_neg (show ¬ i<k by omega),if_neg (show ¬ i<k by omega),hA,hB]
    all_goals simp [Env.put,Env.of,zcs,hA,hB,Store.take]
 try simp only[RL]at h
 obtain rfl:i=p.length:=by omega
 rw [List.take_length]
 refine W.exit ?_
 refine xe ?_
 refine xe ?_
 refine XBlock.hit ?_
 refine xn ?_
 refine W.r fun K hK=>?_
 simp(disch:=omega)only[↓RU,RW,↓reduceIte,qE,reduceCtorEq,iP,↓RS,RG,qA,qM,qL]
 apply hK;clear hK K
 refine W.ret ?_
 refine Br rfl ?_
 exact congrArg (Option.map PV.tup) (za5 (zce (k:=8) rfl (by simp) (zii _)) (za5 (zce (k:=8) rfl (by simp) (zii _)) rfl))
theorem zpt {c:UInt8} {b:List UInt8} (h:b.length+1≤9223372036854775807):yck .add [c] b=some (.str (c::b)):=if_pos (by simp; omega)
theorem zpu {c:UInt8} {b d:List UInt8} (h:b.length+1+d.length≤9223372036854775807):yck .add (c::b) d=some (.str (c::b++d)):=if_pos (by simp; omega)
theorem z88 {p:List Txt} (hg:zcx p=true) {t:Pt} (hi:t.In p.length (zag p).length) (ih:∀ t':Pt,t'.In p.length (zag p).length→t'.h*t'.w<t.h*t.w→PC Tryz.prog 35 [zbi (sub p t')] (.tup [.str (zr8 (zaf p) t').1,.bool (zr8 (zaf p) t').2]) true):PC Tryz.prog 35 [zbi (sub p t)] (.tup [.str (zr8 (zaf p) t).1,.bool (zr8 (zaf p) t).2]) true:=by
 have hg2:=yeu hg hi
 have hs2:=Sm.grid hg2
 have hl2:=zoa hi
 have hh2:=zzt hg hi
 have hib:=hi
 unfold Pt.In at hib
 obtain ⟨row0,hrow0,hq0,hl0,-⟩:=zlg hg hi (i:=0) hi.1
 obtain ⟨c0,hc0,hlet⟩:=zl4 hg hrow0 (k:=t.c+0) (by omega)
 have hqc:=(zid (row:=row0) (t:=t) hib.2.1).trans hc0
 have hz0:zaf p t.r t.c=(c0.toNat:Int) - 97:=zcy (by simpa using hrow0) (by simpa using hc0)
 simp only[zda,qB,decide_eq_true_eq]at hlet
 have hcq:=yc9 hg hi
 refine PC.of ⟨Tryz.func35,by kernel_rfl,rfl,by kernel_rfl⟩ zav mixed (by show 1≤Tryz.f35.ntmps; decide) ?_
 refine W.r fun K hK=>?_
 simp(disch:=omega)only[↓RU,RW,↓reduceIte,qE,reduceCtorEq,iP,↓RS,RG,qA,qM,qL,w8]
 apply hK;clear hK K
 refine W.seq ?_
 refine W.r fun K hK=>?_
 simp(disch:=omega)only[↓RU,RW,↓reduceIte,qE,reduceCtorEq,iP,qN,↓RS,RG,qA,qM,qL,w8]
 refine zac.pc (ydp hs2 hg2) rfl (.inl rfl) ?_
 simp(disch:=omega)only[↓RU,RW,↓reduceIte,qE,reduceCtorEq,iP,qN,↓RS,RG,qA,qM,qL,w8]
 apply hK;clear hK K
 refine W.cond rfl (fun h0=>?_) (fun h0=>?_)
 ·skip
  have h0:yf9 (sub p t)=true:=h0
  rw [z3m hg hi]at h0
  refine W.r fun K hK=>?_
  simp(disch:=omega)only[↓RU,RW,↓reduceIte,qE,reduceCtorEq,iP,w64,w64,↓RS,RG,qA,qM,qL,ty5,ty6,zal,zhv,w8,hq0,hqc,Int.toNat_zero,Nat.zero_mul,qZ]
  apply hK;clear hK K
  refine W.ret ?_
  refine XThen.ret ?_
  refine Br rfl ?_
  rw [z42 hi h0,hz0]
  rfl
 skip
 have h0:yf9 (sub p t)=false:=h0
 rw [z3m hg hi]at h0
 refine W.skip ?_
 refine xn ?_
 refine W.r fun K hK=>?_
 rcases hq:zdc (zaf p) t with _ | ⟨_ | _,k⟩
 ·skip
  rw [hq]at hcq
  simp only at hcq
  simp(disch:=omega)only[↓RU,RW,↓reduceIte,qE,reduceCtorEq,iP,qN,↓RS,RG,qA,qM,qL,w8,hcq]
  refine zac.pc (zu8 hs2 hg2) rfl (.inl rfl) ?_
  simp(disch:=omega)only[↓RU,RW,↓reduceIte,qE,reduceCtorEq,iP,qN,↓RS,RG,qA,qM,qL,w8,hcq]
  apply hK;clear hK K
  refine W.seq ?_
  refine W.r fun K hK=>?_
  simp(disch:=omega)only[↓RU,RW,↓reduceIte,qE,reduceCtorEq,iP,w64,↓RS,RG,qA,qM,qL,zaa,w8]
  apply hK;clear hK K
  refine W.cond rfl (fun h1=>?_) (fun h1=>?_)
  ·try simp only[RL]at h1
   refine W.r fun K hK=>?_
   simp(disch:=omega)only[↓RU,RW,↓reduceIte,qE,reduceCtorEq,iP,↓RS,RG,qA,qM,qL,w8]
   apply hK;clear hK K
   refine W.ret ?_
   refine XThen.ret ?_
   refine Br rfl ?_
   rw [zz5 hi h0 hq]
   rfl
  try simp only[RL]at h1
  exact absurd h1 (by simp)
 ·skip
  rw [hq]at hcq
  simp only[qF,if_false]at hcq
  obtain ⟨i1,i2,a1,a2⟩:=hi.cut hq
  have hck:=zeu hq
  simp only[qF,if_false]at hck
  simp(disch:=omega)only[↓RU,RW,↓reduceIte,qE,reduceCtorEq,iP,qN,↓RS,RG,qA,qM,qL,w8,hcq]
  refine zac.pc (zu8 hs2 hg2) rfl (.inl rfl) ?_
  simp(disch:=omega)only[↓RU,RW,↓reduceIte,qE,reduceCtorEq,iP,qN,↓RS,RG,qA,qM,qL,w8,hcq]
  apply hK;clear hK K
  refine W.seq ?_
  refine W.r fun K hK=>?_
  simp(disch:=omega)only[↓RU,RW,↓reduceIte,qE,reduceCtorEq,iP,w64,↓RS,RG,qA,qM,qL,zaa,w8]
  apply hK;clear hK K
  refine W.cond rfl (fun h1=>?_) (fun h1=>?_)
  ·try simp only[RL]at h1
   exact absurd h1 (by simp; omega)
  try simp only[RL]at h1
  refine W.skip ?_
  refine xn ?_
  refine W.r fun K hK=>?_
  have hP:=z1e hs2 hg2 (k:=k) (by rw [hh2]; omega)
  rw [ybs (q:=(false,k)) (by simp; omega),ybt (q:=(false,k)) (by simp; omega)]at hP
  simp(disch:=omega)only[↓RU,RW,↓reduceIte,qE,reduceCtorEq,iP,qN,↓RS,RG,qA,qM,qL,w8]
  refine zac.pc (hP) rfl (.inl rfl) ?_
  simp(disch:=omega)only[↓RU,RW,↓reduceIte,qE,reduceCtorEq,iP,qN,↓RS,RG,qA,qM,qL,w8]
  apply hK;clear hK K
  refine W.r fun K hK=>?_
  simp(disch:=omega)only[↓RU,RW,↓reduceIte,qE,reduceCtorEq,iP,qN,↓RS,RG,qA,qM,qL,w8]
  refine zac.pc (ih (t.one (false,k)) i1 a1) rfl (.inl rfl) ?_
  simp(disch:=omega)only[↓RU,RW,↓reduceIte,qE,reduceCtorEq,iP,qN,↓RS,RG,qA,qM,qL,w8]
  apply hK;clear hK K
  refine W.r fun K hK=>?_
  simp(disch:=omega)only[↓RU,RW,↓reduceIte,qE,reduceCtorEq,iP,qN,↓RS,RG,qA,qM,qL,w8]
  refine zac.pc (ih (t.two (false,k)) i2 a2) rfl (.inl rfl) ?_
  simp(disch:=omega)only[↓RU,RW,↓reduceIte,qE,reduceCtorEq,iP,qN,↓RS,RG,qA,qM,qL,w8]
  apply hK;clear hK K
  refine W.r fun K hK=>?_
  have f1:=(zhh (z:=zaf p) _ i1 (qR _)).1
  have f2:=(zhh (z:=zaf p) _ i2 (qR _)).1
  have f3:t.h*t.w≤6*6:=Nat.mul_le_mul (by have:=zbo hg; omega) (by have:=(zbo hg2).2.2 _ (List.mem_of_getElem? hq0); omega)
  cases hb:(zr8 (zaf p) (t.one (false,k))).2
  ·skip
   simp(disch:=omega)only[↓RU,RW,↓reduceIte,qE,reduceCtorEq,iP,w64,Option.map_none,↓RS,RG,qA,qM,qL,zaa,zal,w8,zpt,zpu,Int.reduceAdd,qZ,List.take_succ_cons,List.take_zero,List.drop_zero,List.drop_succ_cons,List.length_append,List.length_cons,List.length_nil,hb]
   apply hK;clear hK K
   refine W.ret ?_
   refine Br rfl ?_
   rw [zm9 hi h0 hq,hb]
   rfl
  skip
  simp(disch:=omega)only[↓RU,RW,↓reduceIte,qE,reduceCtorEq,iP,w64,Option.map_none,↓RS,RG,qA,qM,qL,zaa,zal,w8,zpt,zpu,Int.reduceAdd,qZ,List.take_succ_cons,List.take_zero,List.drop_zero,List.drop_succ_cons,List.length_append,List.length_cons,List.length_nil,hb]
  apply hK;clear hK K
  refine W.ret ?_
  refine Br rfl ?_
  rw [zm9 hi h0 hq,hb]
  rfl
 skip
 rw [hq]at hcq
 simp only[if_true]at hcq
 obtain ⟨i1,i2,a1,a2⟩:=hi.cut hq
 have hck:=zeu hq
 simp only[if_true]at hck
 simp(disch:=omega)only[↓RU,RW,↓reduceIte,qE,reduceCtorEq,iP,qN,↓RS,RG,qA,qM,qL,w8,hcq]
 refine zac.pc (zu8 hs2 hg2) rfl (.inl rfl) ?_
 simp(disch:=omega)only[↓RU,RW,↓reduceIte,qE,reduceCtorEq,iP,qN,↓RS,RG,qA,qM,qL,w8,hcq]
 apply hK;clear hK K
 refine W.seq ?_
 refine W.r fun K hK=>?_
 simp(disch:=omega)only[↓RU,RW,↓reduceIte,qE,reduceCtorEq,iP,w64,↓RS,RG,qA,qM,qL,zaa,w8]
 apply hK;clear hK K
 refine W.cond rfl (fun h1=>?_) (fun h1=>?_)
 ·try simp only[RL]at h1
  exact absurd h1 (by simp; omega)
 try simp only[RL]at h1
 refine W.skip ?_
 refine xn ?_
 refine W.r fun K hK=>?_
 have hP:=z1d hs2 hg2 (k:=k) (by rw [hl2]; omega)
 rw [ybs (q:=(true,k)) (by simp; omega),ybt (q:=(true,k)) (by simp; omega)]at hP
 simp(disch:=omega)only[↓RU,RW,↓reduceIte,qE,reduceCtorEq,iP,qN,↓RS,RG,qA,qM,qL,w8]
 refine zac.pc (hP) rfl (.inl rfl) ?_
 simp(disch:=omega)only[↓RU,RW,↓reduceIte,qE,reduceCtorEq,iP,qN,↓RS,RG,qA,qM,qL,w8]
 apply hK;clear hK K
 refine W.r fun K hK=>?_
 simp(disch:=omega)only[↓RU,RW,↓reduceIte,qE,reduceCtorEq,iP,qN,↓RS,RG,qA,qM,qL,w8]
 refine zac.pc (ih (t.one (true,k)) i1 a1) rfl (.inl rfl) ?_
 simp(disch:=omega)only[↓RU,RW,↓reduceIte,qE,reduceCtorEq,iP,qN,↓RS,RG,qA,qM,qL,w8]
 apply hK;clear hK K
 refine W.r fun K hK=>?_
 simp(disch:=omega)only[↓RU,RW,↓reduceIte,qE,reduceCtorEq,iP,qN,↓RS,RG,qA,qM,qL,w8]
 refine zac.pc (ih (t.two (true,k)) i2 a2) rfl (.inl rfl) ?_
 simp(disch:=omega)only[↓RU,RW,↓reduceIte,qE,reduceCtorEq,iP,qN,↓RS,RG,qA,qM,qL,w8]
 apply hK;clear hK K
 refine W.r fun K hK=>?_
 have f1:=(zhh (z:=zaf p) _ i1 (qR _)).1
 have f2:=(zhh (z:=zaf p) _ i2 (qR _)).1
 have f3:t.h*t.w≤6*6:=Nat.mul_le_mul (by have:=zbo hg; omega) (by have:=(zbo hg2).2.2 _ (List.mem_of_getElem? hq0); omega)
 cases hb:(zr8 (zaf p) (t.one (true,k))).2
 ·skip
  simp(disch:=omega)only[↓RU,RW,↓reduceIte,qE,reduceCtorEq,iP,w64,Option.map_none,↓RS,RG,qA,qM,qL,zaa,zal,w8,zpt,zpu,Int.reduceAdd,qZ,List.take_succ_cons,List.take_zero,List.drop_zero,List.drop_succ_cons,List.length_append,List.length_cons,List.length_nil,hb]
  apply hK;clear hK K
  refine W.ret ?_
  refine Br rfl ?_
  rw [zm9 hi h0 hq,hb]
  rfl
 skip
 simp(disch:=omega)only[↓RU,RW,↓reduceIte,qE,reduceCtorEq,iP,w64,Option.map_none,↓RS,RG,qA,qM,qL,zaa,zal,w8,zpt,zpu,Int.reduceAdd,qZ,List.take_succ_cons,List.take_zero,List.drop_zero,List.drop_succ_cons,List.length_append,List.length_cons,List.length_nil,hb]
 apply hK;clear hK K
 refine W.ret ?_
 refine Br rfl ?_
 rw [zm9 hi h0 hq,hb]
 rfl
theorem zxw {p:List Txt} (hg:zcx p=true):∀ (n:Nat) {t:Pt},t.h*t.w≤n→t.In p.length (zag p).length→PC Tryz.prog 35 [zbi (sub p t)] (.tup [.str (zr8 (zaf p) t).1,.bool (zr8 (zaf p) t).2]) true
 | 0,t,hn,hi=>by have:=Nat.mul_pos hi.1 hi.2.1; omega
 | n+1,t,hn,hi=>z88 hg hi fun t' hi' ha=>zxw hg n (by omega) hi'
def zf1 (p:List Txt):Pt:=⟨0,0,p.length,(zag p).length⟩
theorem yiy {p:List Txt} (hg:zcx p=true):sub p (zf1 p)=p:=by
 unfold sub zf1
 simp only[List.drop_zero,List.take_length]
 conv=>rhs; rw [← List.map_id p]
 refine List.map_congr_left fun row hrow=>?_
 simp only[zjq,List.drop_zero,id_eq]
 rw [qT (by rw [zl5 hg row hrow]; exact qR _)]
theorem yfh {p:List Txt} (hg:zcx p=true):(zf1 p).In p.length (zag p).length:=by
 have hsm:=zbo hg
 obtain ⟨row0,h0,hm0⟩:=zaj hsm.1
 have hw:=zfr hg h0
 rw [← zcf h0]at hw
 exact ⟨hsm.1,hw,by simp [zf1],by simp [zf1]⟩
def zur (p:List Txt):Bool:=zbk p && (zck (zaf p) (zf1 p)).isSome
theorem zzk {p:List Txt} (hs:Sm p):PC Tryz.prog 11 [zbi p] (.bool (zur p)) true:=by
 refine PC.of ⟨Tryz.func11,by kernel_rfl,rfl,by kernel_rfl⟩ zav mixed (by show 1≤Tryz.f11.ntmps; decide) ?_
 refine W.r fun K hK=>?_
 simp(disch:=omega)only[↓RU,RW,↓reduceIte,qE,reduceCtorEq,iP]
 apply hK;clear hK K
 refine W.seq ?_
 refine W.r fun K hK=>?_
 simp(disch:=omega)only[↓RU,RW,↓reduceIte,qE,reduceCtorEq,iP,qN]
 refine zac.pc (zn4 hs) rfl (.inl rfl) ?_
 simp(disch:=omega)only[↓RU,RW,↓reduceIte,qE,reduceCtorEq,iP,qN]
 apply hK;clear hK K
 refine W.cond rfl (fun h0=>?_) (fun h0=>?_)
 ·skip
  have h0:zbk p=false:=by simpa using h0
  refine W.r fun K hK=>?_
  simp(disch:=omega)only[↓RU,RW,↓reduceIte,qE,reduceCtorEq,iP]
  apply hK;clear hK K
  refine W.ret ?_
  refine XThen.ret ?_
  refine Br rfl ?_
  rw [show zur p=false by simp [zur,h0]]
  rfl
 skip
 have h0:zbk p=true:=by simpa using h0
 have hg:=zde h0
 have hT:=zxw hg _ (qR _) (yfh hg)
 rw [yiy hg,(zhh (z:=zaf p) _ (yfh hg) (qR _)).2]at hT
 refine W.skip ?_
 refine xn ?_
 refine W.r fun K hK=>?_
 simp(disch:=omega)only[↓RU,RW,↓reduceIte,qE,reduceCtorEq,iP,qN]
 refine zac.pc (hT) rfl (.inl rfl) ?_
 simp(disch:=omega)only[↓RU,RW,↓reduceIte,qE,reduceCtorEq,iP,qN]
 apply hK;clear hK K
 refine W.r fun K hK=>?_
 simp(disch:=omega)only[↓RU,RW,↓reduceIte,qE,reduceCtorEq,iP]
 apply hK;clear hK K
 refine W.ret ?_
 refine Br rfl ?_
 rw [show zur p=(zck (zaf p) (zf1 p)).isSome by simp [zur,h0]]
 rfl
def zo7 {α:Type} (enc:α→PV) (zero:PV) (room:Int→α) (cut:Bool→α→α→α):Option CT→PV
 | some x => .tup [enc (x.fold room cut),.bool true]
 | none => .tup [zero,.bool false]
theorem zl1 {α:Type} {enc:α→PV} {zero:PV} {room:Int→α} {cut:Bool→α→α→α} (o:Option CT):∃ v b,zo7 enc zero room cut o = .tup [v,.bool b]:=by
 cases o with
 | none=>exact ⟨_,_,rfl⟩
 | some x=>exact ⟨_,_,rfl⟩
theorem z6x (a b:Option CT):a=none∨(∃ x,a=some x∧b=none)∨∃ x y,a=some x∧b=some y:=by
 cases a <;> cases b <;> simp
theorem zg4 {p:List Txt} (hp:zbk p=true):(rP p).length≤9∧∀ b∈rP p,b.Fit:=by
 have hN:=zb6 hp
 have h1:=hN.rooms
 have h2:zdt p≤9:=by unfold zbk at hp; simp only[qB,decide_eq_true_eq]at hp; exact hp.1.2
 have hsm:=zbo hN.hg
 obtain ⟨row0,hr0,hm0⟩:=zaj hsm.1
 have hh:=zcf hr0
 have hw6:=hsm.2.2 row0 hm0
 have hw1:=zfr hN.hg hr0
 rw [← hh]at hw6 hw1
 have hok:=(zgm (g:=zbm p) hw6 hw1 p.length hsm.2.1).1
 rw [← yal]at hok
 exact ⟨by omega,hok.2⟩
theorem zpn {p:List Txt} (hp:zbk p=true) {t:Pt} (h:t.In p.length (zag p).length):t.rect.Fit:=by
 have hg:=z1o hp
 obtain ⟨g1,g2,g3,g4⟩:=hg.2.2
 unfold Pt.In at h
 simp only[Rect.Fit,Pt.rect]
 omega
section
def zkw (z:Nat→Nat→Int):Nat→Pt→Option Pt
 | 0,_=>none
 | f+1,t=>if zlp z t then none else
  match zdc z t with
  | none=>some t
  | some q=>match zkw z f (t.one q) with
   | some s=>some s
   | none=>zkw z f (t.two q)
theorem zkc {z:Nat→Nat→Int} {H W:Nat}:∀ (n:Nat) {t:Pt} {f g:Nat},t.In H W→t.h*t.w≤n→t.h*t.w≤f→t.h*t.w≤g→zkw z f t=zkw z g t
 | 0,t,f,g,hi,hn,_,_=>by have:=Nat.mul_pos hi.1 hi.2.1; omega
 | n+1,t,f,g,hi,hn,hf,hg=>by
  have:=Nat.mul_pos hi.1 hi.2.1
  obtain ⟨f,rfl⟩:∃ f',f=f'+1:=⟨f - 1,by omega⟩
  obtain ⟨g,rfl⟩:∃ g',g=g'+1:=⟨g - 1,by omega⟩
  simp only[zkw]
  split
  ·rfl
  cases hc:zdc z t with
  | none=>rfl
  | some q =>
   obtain ⟨i1,i2,a1,a2⟩:=hi.cut hc
   simp only
   rw [zkc n i1 (f:=f) (g:=g) (by omega) (by omega) (by omega),zkc n i2 (f:=f) (g:=g) (by omega) (by omega) (by omega)]
def ze1 (z:Nat→Nat→Int) (t:Pt):Option Pt:=zkw z (t.h*t.w) t
section
variable {z:Nat→Nat→Int} {H W:Nat} {t:Pt}
theorem zn8 (h:t.In H W) (h1:zlp z t=true):ze1 z t=none:=by
 unfold ze1; rw [zgu h,zkw,if_pos h1]
theorem zle (h:t.In H W) (h1:zlp z t=false) (h2:zdc z t=none):ze1 z t=some t:=by
 unfold ze1; rw [zgu h,zkw,h1,h2]; rfl
theorem zic (h:t.In H W) (h1:zlp z t=false) {q:Bool × Nat} (h2:zdc z t=some q):ze1 z t=match ze1 z (t.one q) with | some s=>some s | none=>ze1 z (t.two q):=by
 obtain ⟨i1,i2,a1,a2⟩:=h.cut h2
 have:=zgu h
 rw [show ze1 z t=zkw z ((t.h*t.w - 1)+1) t by unfold ze1; rw [← this]]
 simp only[zkw,h1,h2,qF,if_false]
 unfold ze1
 rw [zkc (z:=z) _ i1 (qR _) (f:=t.h*t.w - 1) (g:=(t.one q).h*(t.one q).w) (by omega) (qR _),zkc (z:=z) _ i2 (qR _) (f:=t.h*t.w - 1) (g:=(t.two q).h*(t.two q).w) (by omega) (qR _)]
theorem zn9:∀ (n:Nat) {t:Pt},t.In H W→t.h*t.w≤n→(ze1 z t).isSome=(zck z t).isNone
 | 0,t,hi,hn=>by have:=Nat.mul_pos hi.1 hi.2.1; omega
 | n+1,t,hi,hn=>by
  cases h1:zlp z t with
  | true=>rw [zn8 hi h1,zhg hi h1]; rfl
  | false =>
   cases hc:zdc z t with
   | none=>rw [zle hi h1 hc,zg5 hi h1 hc]; rfl
   | some q =>
    obtain ⟨i1,i2,a1,a2⟩:=hi.cut hc
    have b1:=zn9 n i1 (by omega)
    have b2:=zn9 n i2 (by omega)
    rw [zic hi h1 hc,zfv hi h1 hc]
    cases h3:ze1 z (t.one q) with
    | some s =>
     rw [h3]at b1
     cases h4:zck z (t.one q) with
     | none=>rfl
     | some x=>rw [h4]at b1; cases b1
    | none =>
     rw [h3]at b1
     cases h4:zck z (t.one q) with
     | none=>rw [h4]at b1; cases b1
     | some x =>
      simp only
      rw [b2]
      cases zck z (t.two q) <;> rfl
theorem zlf (hz:yco z H W):∀ (n:Nat) {t s:Pt},Whole z H W t→t.h*t.w≤n→ze1 z t=some s→Whole z H W s∧zlp z s=false
 | 0,t,s,hw,hn,_=>by have:=Nat.mul_pos hw.inn.1 hw.inn.2.1; omega
 | n+1,t,s,hw,hn,hs=>by
  cases h1:zlp z t with
  | true=>rw [zn8 hw.inn h1]at hs; cases hs
  | false =>
   cases hc:zdc z t with
   | none=>rw [zle hw.inn h1 hc]at hs; cases hs; exact ⟨hw,h1⟩
   | some q =>
    obtain ⟨i1,i2,a1,a2⟩:=hw.inn.cut hc
    obtain ⟨w1,w2⟩:=hw.cut hz hc
    rw [zic hw.inn h1 hc]at hs
    cases h3:ze1 z (t.one q) with
    | some s'=>rw [h3]at hs; cases hs; exact zlf hz n w1 (by omega) h3
    | none=>rw [h3]at hs; exact zlf hz n w2 (by omega) hs
end
def yer (p:List Txt):Option Pt→PV
 | some s => .tup [zfb (gP p) (rP p) s.rect,.bool true]
 | none => .tup [.agg [.nilp,.int .i64 0,.int .i64 0,.int .i64 0,.int .i64 0],.bool false]
theorem yct {p:List Txt} (hp:zbk p=true) {t:Pt} (hw:Whole (zaf p) p.length (zag p).length t):PC Tryz.prog 69 [zfb (gP p) (rP p) t.rect] (.bool (zlp (zaf p) t)) true:=by
 obtain ⟨hn9,hfit⟩:=zg4 hp
 have hL:=zvb (gP p) (by omega) hfit (zpn hp hw.inn)
 simp only[zfb,Pt.rect,Rect.cells]at hL ⊢
 refine PC.of ⟨Tryz.func69,by kernel_rfl,rfl,by kernel_rfl⟩ zav mixed (by show 1≤Tryz.f69.ntmps; decide) ?_
 refine W.r fun K hK=>?_
 simp(disch:=omega)only[↓RU,RW,↓reduceIte,qE,reduceCtorEq,iP,↓RS,RG,qA,qM,qL,ty7,zbr,za7,zaa,zbs,za8]
 apply hK;clear hK K
 refine W.r fun K hK=>?_
 cases h1:zlp (zaf p) t
 ·skip
  have hmore:=z4d hp hw h1
  simp only[Pt.rect]at hmore
  have hd:(((rms (rP p) ⟨t.r,t.c,t.h,t.w⟩).length:Int) == 1)=false:=by rw [beq_eq_false_iff_ne]; omega
  simp(disch:=omega)only[↓RU,RW,↓reduceIte,qE,reduceCtorEq,iP,qN,w64,↓RS,RG,qA,qM,qL,zab,ty7,zbr,za7,zaa,zbs,za8,hd]
  refine zac.pc (hL) rfl (.inl rfl) ?_
  simp(disch:=omega)only[↓RU,RW,↓reduceIte,qE,reduceCtorEq,iP,qN,w64,↓RS,RG,qA,qM,qL,zab,ty7,zbr,za7,zaa,zbs,za8,hd]
  apply hK;clear hK K
  refine W.ret ?_
  refine Br rfl ?_
  rw [h1]
  rfl
 skip
 have hone:=yaz hp hw h1
 simp only[Pt.rect]at hone
 rw [hone]at hL
 have hd:((1:Int) == 1)=true:=rfl
 simp(disch:=omega)only[↓RU,RW,↓reduceIte,qE,reduceCtorEq,iP,qN,w64,↓RS,RG,qA,qM,qL,zab,ty7,zbr,za7,zaa,zbs,za8,hd]
 refine zac.pc (hL) rfl (.inl rfl) ?_
 simp(disch:=omega)only[↓RU,RW,↓reduceIte,qE,reduceCtorEq,iP,qN,w64,↓RS,RG,qA,qM,qL,zab,ty7,zbr,za7,zaa,zbs,za8,hd]
 apply hK;clear hK K
 refine W.ret ?_
 refine Br rfl ?_
 rw [h1]
 rfl
theorem yet {p:List Txt} (hp:zbk p=true) {t:Pt} (hw:Whole (zaf p) p.length (zag p).length t) (ih:∀ t':Pt,Whole (zaf p) p.length (zag p).length t'→t'.h*t'.w<t.h*t.w→PC Tryz.prog 41 [zfb (gP p) (rP p) t'.rect] (yer p (ze1 (zaf p) t')) false):PC Tryz.prog 41 [zfb (gP p) (rP p) t.rect] (yer p (ze1 (zaf p) t)) false:=by
 have hAl:=yct hp hw
 simp only[zfb,Pt.rect,Rect.cells]at hAl
 change PC _ _ [.agg [zar (gP p) (rP p),.int .i64 t.r,.int .i64 t.c,.int .i64 t.h,.int .i64 t.w]] _ _
 refine PC.of ⟨Tryz.func41,by kernel_rfl,rfl,by kernel_rfl⟩ zav mixed (by show 1≤Tryz.f41.ntmps; decide) ?_
 refine W.r fun K hK=>?_
 simp(disch:=omega)only[↓RU,RW,↓reduceIte,qE,reduceCtorEq,iP,↓RS,RG,qA,qM,qL,ty7,zbr,za7,zaa,zbs,za8]
 apply hK;clear hK K
 refine W.seq ?_
 refine W.r fun K hK=>?_
 cases h1:zlp (zaf p) t
 ·skip
  rw [h1]at hAl
  simp(disch:=omega)only[↓RU,RW,↓reduceIte,qE,reduceCtorEq,iP,qN,↓RS,RG,qA,qM,qL,ty7,zbr,za7,zaa,zbs,za8]
  refine zac.pc (hAl) rfl (.inl rfl) ?_
  simp(disch:=omega)only[↓RU,RW,↓reduceIte,qE,reduceCtorEq,iP,qN,↓RS,RG,qA,qM,qL,ty7,zbr,za7,zaa,zbs,za8]
  apply hK;clear hK K
  refine W.cond rfl (fun h0=>?_) (fun h0=>?_)
  ·try simp only[RL]at h0
   exact absurd h0 (by simp)
  try simp only[RL]at h0
  refine W.skip ?_
  refine xn ?_
  refine W.r fun K hK=>?_
  rcases hq:zdc (zaf p) t with _ | q
  ·skip
   have hF:PC Tryz.prog 70 [.agg [zar (gP p) (rP p),.int .i64 t.r,.int .i64 t.c,.int .i64 t.h,.int .i64 t.w]] (.tup [.agg [.bool false,.nilp,.int .i64 0,.int .i64 0,.int .i64 0,.int .i64 0,.nilp,.int .i64 0,.int .i64 0,.int .i64 0,.int .i64 0],.bool false]) false:=by have h:=zpg hp hw.inn; simp only[zqo,hq]at h; exact h
   simp(disch:=omega)only[↓RU,RW,↓reduceIte,qE,reduceCtorEq,iP,qN,↓RS,RG,qA,qM,qL,ty7,zad,zbr,zfw,za7,zaa,zbs,zfx,za8]
   refine zac.pc (hF) rfl (.inr rfl) ?_
   simp(disch:=omega)only[↓RU,RW,↓reduceIte,qE,reduceCtorEq,iP,qN,↓RS,RG,qA,qM,qL,ty7,zad,zbr,zfw,za7,zaa,zbs,zfx,za8]
   apply hK;clear hK K
   refine W.seq ?_
   refine W.r fun K hK=>?_
   simp(disch:=omega)only[↓RU,RW,↓reduceIte,qE,reduceCtorEq,iP,↓RS,RG,qA,qM,qL]
   apply hK;clear hK K
   refine W.cond rfl (fun h2=>?_) (fun h2=>?_)
   ·try simp only[RL]at h2
    refine W.r fun K hK=>?_
    simp(disch:=omega)only[↓RU,RW,↓reduceIte,qE,reduceCtorEq,iP,↓RS,RG,qA,qM,qL,ty7,zbr,za7,zaa,zbs,za8]
    apply hK;clear hK K
    refine W.ret ?_
    refine XThen.ret ?_
    refine Br rfl ?_
    rw [zle hw.inn h1 hq]
    rfl
   try simp only[RL]at h2
   exact absurd h2 (by simp)
  skip
  have hF:PC Tryz.prog 70 [.agg [zar (gP p) (rP p),.int .i64 t.r,.int .i64 t.c,.int .i64 t.h,.int .i64 t.w]] (.tup [.agg [.bool q.1,zar (gP p) (rP p),.int .i64 (t.one q).r,.int .i64 (t.one q).c,.int .i64 (t.one q).h,.int .i64 (t.one q).w,zar (gP p) (rP p),.int .i64 (t.two q).r,.int .i64 (t.two q).c,.int .i64 (t.two q).h,.int .i64 (t.two q).w],.bool true]) false:=by have h:=zpg hp hw.inn; simp only[zqo,hq]at h; exact h
  obtain ⟨i1,i2,a1,a2⟩:=hw.inn.cut hq
  obtain ⟨w1,w2⟩:=hw.cut (ze3 hp) hq
  have hI1:=ih (t.one q) w1 a1
  have hI2:=ih (t.two q) w2 a2
  simp only[zfb,Pt.rect,Rect.cells]at hI1 hI2
  simp(disch:=omega)only[↓RU,RW,↓reduceIte,qE,reduceCtorEq,iP,qN,↓RS,RG,qA,qM,qL,ty7,zad,zbr,zfw,za7,zaa,zbs,zfx,za8]
  refine zac.pc (hF) rfl (.inr rfl) ?_
  simp(disch:=omega)only[↓RU,RW,↓reduceIte,qE,reduceCtorEq,iP,qN,↓RS,RG,qA,qM,qL,ty7,zad,zbr,zfw,za7,zaa,zbs,zfx,za8]
  apply hK;clear hK K
  refine W.seq ?_
  refine W.r fun K hK=>?_
  simp(disch:=omega)only[↓RU,RW,↓reduceIte,qE,reduceCtorEq,iP,↓RS,RG,qA,qM,qL]
  apply hK;clear hK K
  refine W.cond rfl (fun h2=>?_) (fun h2=>?_)
  ·try simp only[RL]at h2
   exact absurd h2 (by simp)
  try simp only[RL]at h2
  refine W.skip ?_
  refine xn ?_
  refine W.seq ?_
  refine W.r fun K hK=>?_
  rcases hs1:ze1 (zaf p) (t.one q) with _ | s1
  ·skip
   rw [hs1]at hI1
   simp only[yer]at hI1
   simp(disch:=omega)only[↓RU,RW,↓reduceIte,qE,reduceCtorEq,iP,qN,↓RS,RG,qA,qM,qL,ty7,zad,zbr,zfw,za7,zaa,zbs,zfx,za8]
   refine zac.pc (hI1) rfl (.inr rfl) ?_
   simp(disch:=omega)only[↓RU,RW,↓reduceIte,qE,reduceCtorEq,iP,qN,↓RS,RG,qA,qM,qL,ty7,zad,zbr,zfw,za7,zaa,zbs,zfx,za8]
   apply hK;clear hK K
   refine W.r fun K hK=>?_
   simp(disch:=omega)only[↓RU,RW,↓reduceIte,qE,reduceCtorEq,iP,↓RS,RG,qA,qM,qL]
   apply hK;clear hK K
   refine W.cond rfl (fun h3=>?_) (fun h3=>?_)
   ·try simp only[RL]at h3
    exact absurd h3 (by simp)
   try simp only[RL]at h3
   refine W.skip ?_
   refine xn ?_
   refine W.r fun K hK=>?_
   rcases hs2:ze1 (zaf p) (t.two q) with _ | s2
   ·skip
    rw [hs2]at hI2
    simp only[yer]at hI2
    simp(disch:=omega)only[↓RU,RW,↓reduceIte,qE,reduceCtorEq,iP,qN,↓RS,RG,qA,qM,qL,ty7,zad,zbr,zfw,za7,zaa,zbs,zfx,za8]
    refine zac.pc (hI2) rfl (.inr rfl) ?_
    simp(disch:=omega)only[↓RU,RW,↓reduceIte,qE,reduceCtorEq,iP,qN,↓RS,RG,qA,qM,qL,ty7,zad,zbr,zfw,za7,zaa,zbs,zfx,za8]
    apply hK;clear hK K
    refine W.ret ?_
    refine Br rfl ?_
    rw [zic hw.inn h1 hq,hs1,hs2]
    rfl
   skip
   rw [hs2]at hI2
   simp only[yer,zfb,Pt.rect,Rect.cells]at hI2
   simp(disch:=omega)only[↓RU,RW,↓reduceIte,qE,reduceCtorEq,iP,qN,↓RS,RG,qA,qM,qL,ty7,zad,zbr,zfw,za7,zaa,zbs,zfx,za8]
   refine zac.pc (hI2) rfl (.inr rfl) ?_
   simp(disch:=omega)only[↓RU,RW,↓reduceIte,qE,reduceCtorEq,iP,qN,↓RS,RG,qA,qM,qL,ty7,zad,zbr,zfw,za7,zaa,zbs,zfx,za8]
   apply hK;clear hK K
   refine W.ret ?_
   refine Br rfl ?_
   rw [zic hw.inn h1 hq,hs1,hs2]
   rfl
  skip
  rw [hs1]at hI1
  simp only[yer,zfb,Pt.rect,Rect.cells]at hI1
  simp(disch:=omega)only[↓RU,RW,↓reduceIte,qE,reduceCtorEq,iP,qN,↓RS,RG,qA,qM,qL,ty7,zad,zbr,zfw,za7,zaa,zbs,zfx,za8]
  refine zac.pc (hI1) rfl (.inr rfl) ?_
  simp(disch:=omega)only[↓RU,RW,↓reduceIte,qE,reduceCtorEq,iP,qN,↓RS,RG,qA,qM,qL,ty7,zad,zbr,zfw,za7,zaa,zbs,zfx,za8]
  apply hK;clear hK K
  refine W.r fun K hK=>?_
  simp(disch:=omega)only[↓RU,RW,↓reduceIte,qE,reduceCtorEq,iP,↓RS,RG,qA,qM,qL]
  apply hK;clear hK K
  refine W.cond rfl (fun h3=>?_) (fun h3=>?_)
  ·try simp only[RL]at h3
   refine W.r fun K hK=>?_
   simp(disch:=omega)only[↓RU,RW,↓reduceIte,qE,reduceCtorEq,iP,↓RS,RG,qA,qM,qL,ty7,zbr,za7,zaa,zbs,za8]
   apply hK;clear hK K
   refine W.ret ?_
   refine XThen.ret ?_
   refine Br rfl ?_
   rw [zic hw.inn h1 hq,hs1]
   rfl
  try simp only[RL]at h3
  exact absurd h3 (by simp)
 skip
 rw [h1]at hAl
 simp(disch:=omega)only[↓RU,RW,↓reduceIte,qE,reduceCtorEq,iP,qN,↓RS,RG,qA,qM,qL,ty7,zbr,za7,zaa,zbs,za8]
 refine zac.pc (hAl) rfl (.inl rfl) ?_
 simp(disch:=omega)only[↓RU,RW,↓reduceIte,qE,reduceCtorEq,iP,qN,↓RS,RG,qA,qM,qL,ty7,zbr,za7,zaa,zbs,za8]
 apply hK;clear hK K
 refine W.cond rfl (fun h0=>?_) (fun h0=>?_)
 ·try simp only[RL]at h0
  refine W.r fun K hK=>?_
  simp(disch:=omega)only[↓RU,RW,↓reduceIte,qE,reduceCtorEq,iP,↓RS,RG,qA,qM,qL,ty7,zbr,za7,zaa,zbs,za8]
  apply hK;clear hK K
  refine W.ret ?_
  refine XThen.ret ?_
  refine Br rfl ?_
  rw [zn8 hw.inn h1]
  rfl
 try simp only[RL]at h0
 exact absurd h0 (by simp)
theorem z4y {p:List Txt} (hp:zbk p=true):∀ (n:Nat) {t:Pt},t.h*t.w≤n→Whole (zaf p) p.length (zag p).length t→PC Tryz.prog 41 [zfb (gP p) (rP p) t.rect] (yer p (ze1 (zaf p) t)) false
 | 0,t,hn,hw=>by have:=Nat.mul_pos hw.inn.1 hw.inn.2.1; omega
 | n+1,t,hn,hw=>yet hp hw fun t' hw' ha=>z4y hp n (by omega) hw'
end
def yc1 (a:Int):Txt:=(Utf8.encode (65+a)).data.toList
theorem yg0 {a:Int} (h0:0≤a) (h1:a<9):(yc1 a).length≤4:=by
 obtain ⟨n,rfl⟩:=Int.eq_ofNat_of_zero_le h0
 have:n=0∨n=1∨n=2∨n=3∨n=4∨n=5∨n=6∨n=7∨n=8:=by omega
 rcases this with rfl | rfl | rfl | rfl | rfl | rfl | rfl | rfl | rfl <;> decide +kernel
theorem z9i (lv:Bool):(if lv then [(104:UInt8)] else [118]).length=1:=by cases lv <;> rfl
def yc2 (lv:Bool) (x y:Txt):Txt:=(if lv then [104] else [118])++x++y
theorem z2j {x:CT} (h:∀ a∈x.leaves,0≤a∧a<9):(x.fold yc1 yc2).length+1≤5*x.leaves.length:=by
 induction x with
 | leaf a=>have:=h a (by simp [CT.leaves]); have:=yg0 this.1 this.2; simp only[CT.fold,CT.leaves,List.length_singleton]; omega
 | node lv x y h1 h2 =>
  have k1:=h1 fun a ha=>h a (by simp [CT.leaves,ha])
  have k2:=h2 fun a ha=>h a (by simp [CT.leaves,ha])
  have p1:=x.pos
  have p2:=y.pos
  have e:(if lv then [(104:UInt8)] else [118]).length=1:=z9i lv
  simp only[CT.fold,CT.leaves,yc2,List.length_append,e] at *
  omega
theorem w32r {x:Int} (h1:0≤x) (h2:x<1000):IntKind.i32.wrap x=x:=by
 simp [IntKind.wrap,IntKind.bits,IntKind.signed]; omega
theorem zqz {p:List Txt} (hp:zbk p=true) {t:Pt} (hw:Whole (zaf p) p.length (zag p).length t) {x:CT} (hx:zck (zaf p) t=some x):(∀ a∈x.leaves,0≤a∧a<(rP p).length)∧x.leaves.length≤9:=by
 obtain ⟨h1,h2,h3⟩:=zga (ze3 hp) _ hw (qR _) hx
 have hin:=hw.inn
 unfold Pt.In at hin
 have hb:∀ a∈x.leaves,0≤a∧a<(rP p).length:=by
  intro a ha
  obtain ⟨i,j,e1,e2,e3,e4,e5⟩:=(h2 a).1 ha
  have:=zcg hp (i:=i) (j:=j) (by omega) (by omega)
  omega
 have:=zvh h1 hb
 have:=(zg4 hp).1
 exact ⟨hb,by omega⟩
theorem zxo {p:List Txt} (hp:zbk p=true) {rf cf:FuncId} {rc cc:List PV} (hr9:∀ S,rc.mapM (reify S true 9)=some rc) (hr10:∀ S,rc.mapM (reify S true 10)=some rc) (hc9:∀ S,cc.mapM (reify S true 9)=some cc) (hc10:∀ S,cc.mapM (reify S true 10)=some cc)
  {room:Int→Txt} {cut:Bool→Txt→Txt→Txt} (hroom:∀ a:Int,0≤a→a<(rP p).length→PC Tryz.prog rf (.int .i64 a::rc) ((fun x:Txt=>PV.str x) (room a)) true)
  (hcut:∀ (t:Pt) q x y,Whole (zaf p) p.length (zag p).length t→zdc (zaf p) t=some q→zck (zaf p) (t.one q)=some x→zck (zaf p) (t.two q)=some y→PC Tryz.prog cf (z2v (gP p) (rP p) t q::(fun x:Txt=>PV.str x) (x.fold room cut)::(fun x:Txt=>PV.str x) (y.fold room cut)::cc) ((fun x:Txt=>PV.str x) (cut q.1 (x.fold room cut) (y.fold room cut))) true) {t:Pt} (hw:Whole (zaf p) p.length (zag p).length t) (ih:∀ t':Pt,Whole (zaf p) p.length (zag p).length t'→t'.h*t'.w<t.h*t.w→PC Tryz.prog 87 [zfb (gP p) (rP p) t'.rect,.fn rf rc,.fn cf cc] (zo7 (fun x:Txt=>PV.str x) (.str []) room cut (zck (zaf p) t')) true):PC Tryz.prog 87 [zfb (gP p) (rP p) t.rect,.fn rf rc,.fn cf cc] (zo7 (fun x:Txt=>PV.str x) (.str []) room cut (zck (zaf p) t)) true:=by
 have hin:=hw.inn
 unfold Pt.In at hin
 obtain ⟨hn9,hfit⟩:=zg4 hp
 have hv:0≤zaf p t.r t.c∧zaf p t.r t.c<(rP p).length:=zcg hp (by omega) (by omega)
 change PC _ _ [.agg [zar (gP p) (rP p),.int .i64 t.r,.int .i64 t.c,.int .i64 t.h,.int .i64 t.w],.fn rf rc,.fn cf cc] _ _
 refine PC.of ⟨Tryz.func87,by kernel_rfl,rfl,by kernel_rfl⟩ zav mixed (by show 3≤Tryz.f87.ntmps; decide) ?_
 refine W.r fun K hK=>?_
 simp(disch:=omega)only[↓RU,RW,↓reduceIte,qE,reduceCtorEq,iP,↓RS,RG,qA,qM,qL,ty7,zbr,za7,zaa,zbs,za8]
 apply hK;clear hK K
 refine W.r fun K hK=>?_
 simp(disch:=omega)only[↓RU,RW,↓reduceIte,qE,reduceCtorEq,iP,↓RS,RG,qA,qM,qL]
 apply hK;clear hK K
 refine W.seq ?_
 refine W.r fun K hK=>?_
 cases h1:zlp (zaf p) t
 ·skip
  have hmore:=z4d hp hw h1
  have hL:=zvb (gP p) (by omega) hfit (zpn hp hw.inn)
  simp(disch:=omega)only[↓RU,RW,↓reduceIte,qE,reduceCtorEq,iP,qN,↓RS,RG,qA,qM,qL,ty7,zbr,za7,zaa,zbs,za8]
  refine zac.pc (hL) rfl (.inl rfl) ?_
  simp(disch:=omega)only[↓RU,RW,↓reduceIte,qE,reduceCtorEq,iP,qN,↓RS,RG,qA,qM,qL,ty7,zbr,za7,zaa,zbs,za8]
  apply hK;clear hK K
  refine W.r fun K hK=>?_
  simp(disch:=omega)only[↓RU,RW,↓reduceIte,qE,reduceCtorEq,iP,w64,↓RS,RG,qA,qM,qL,zab,zaa]
  apply hK;clear hK K
  refine W.cond rfl (fun h0=>?_) (fun h0=>?_)
  ·try simp only[RL]at h0
   exfalso; omega
  try simp only[RL]at h0
  refine W.skip ?_
  refine xn ?_
  refine W.r fun K hK=>?_
  rcases hq:zdc (zaf p) t with _ | q
  ·skip
   have hF:PC Tryz.prog 70 [zfb (gP p) (rP p) t.rect] (.tup [.agg [.bool false,.nilp,.int .i64 0,.int .i64 0,.int .i64 0,.int .i64 0,.nilp,.int .i64 0,.int .i64 0,.int .i64 0,.int .i64 0],.bool false]) false:=by have h:=zpg hp hw.inn; simp only[zqo,hq]at h; exact h
   simp(disch:=omega)only[↓RU,RW,↓reduceIte,qE,reduceCtorEq,iP,qN,↓RS,RG,qA,qM,qL,ty7,zad,zbr,zfw,za7,zaa,zbs,zfx,za8]
   refine zac.pc (hF) rfl (.inr rfl) ?_
   simp(disch:=omega)only[↓RU,RW,↓reduceIte,qE,reduceCtorEq,iP,qN,↓RS,RG,qA,qM,qL,ty7,zad,zbr,zfw,za7,zaa,zbs,zfx,za8]
   apply hK;clear hK K
   refine W.seq ?_
   refine W.r fun K hK=>?_
   simp(disch:=omega)only[↓RU,RW,↓reduceIte,qE,reduceCtorEq,iP,↓RS,RG,qA,qM,qL]
   apply hK;clear hK K
   refine W.cond rfl (fun h2=>?_) (fun h2=>?_)
   ·try simp only[RL]at h2
    refine W.r fun K hK=>?_
    simp(disch:=omega)only[↓RU,RW,↓reduceIte,qE,reduceCtorEq,iP,↓RS,RG,qA,qM,qL]
    apply hK;clear hK K
    refine W.ret ?_
    refine XThen.ret ?_
    refine Br rfl ?_
    rw [zg5 hw.inn h1 hq]
    rfl
   try simp only[RL]at h2
   exact absurd h2 (by simp)
  skip
  have hF:PC Tryz.prog 70 [zfb (gP p) (rP p) t.rect] (.tup [.agg [.bool q.1,zar (gP p) (rP p),.int .i64 (t.one q).r,.int .i64 (t.one q).c,.int .i64 (t.one q).h,.int .i64 (t.one q).w,zar (gP p) (rP p),.int .i64 (t.two q).r,.int .i64 (t.two q).c,.int .i64 (t.two q).h,.int .i64 (t.two q).w],.bool true]) false:=by have h:=zpg hp hw.inn; simp only[zqo,hq]at h; exact h
  obtain ⟨i1,i2,a1,a2⟩:=hw.inn.cut hq
  obtain ⟨w1,w2⟩:=hw.cut (ze3 hp) hq
  simp(disch:=omega)only[↓RU,RW,↓reduceIte,qE,reduceCtorEq,iP,qN,↓RS,RG,qA,qM,qL,ty7,zad,zbr,zfw,za7,zaa,zbs,zfx,za8]
  refine zac.pc (hF) rfl (.inr rfl) ?_
  simp(disch:=omega)only[↓RU,RW,↓reduceIte,qE,reduceCtorEq,iP,qN,↓RS,RG,qA,qM,qL,ty7,zad,zbr,zfw,za7,zaa,zbs,zfx,za8]
  apply hK;clear hK K
  refine W.seq ?_
  refine W.r fun K hK=>?_
  simp(disch:=omega)only[↓RU,RW,↓reduceIte,qE,reduceCtorEq,iP,↓RS,RG,qA,qM,qL]
  apply hK;clear hK K
  refine W.cond rfl (fun h2=>?_) (fun h2=>?_)
  ·try simp only[RL]at h2
   exact absurd h2 (by simp)
  try simp only[RL]at h2
  refine W.skip ?_
  refine xn ?_
  refine W.r fun K hK=>?_
  obtain hx1 | ⟨x1,hx1,hx2⟩ | ⟨x1,x2,hx1,hx2⟩:=z6x (zck (zaf p) (t.one q)) (zck (zaf p) (t.two q))
  ·skip
   have hI1:=ih (t.one q) w1 a1
   have hI2:=ih (t.two q) w2 a2
   simp only[zo7,hx1]at hI1
   obtain ⟨v2,b2,e2⟩:=zl1 (enc:=(fun x:Txt=>PV.str x)) (zero:=(.str [])) (room:=room) (cut:=cut) (zck (zaf p) (t.two q))
   rw [e2]at hI2
   simp(disch:=omega)only[↓RU,RW,↓reduceIte,qE,reduceCtorEq,iP,qN,↓RS,RG,qA,qM,qL,ty7,zad,zbr,zfw,za7,zaa,zbs,zfx,za8]
   refine zac.pc (hI1) (za5 rfl (za5 (by rw [zd7,hr9]; rfl) (za5 (by rw [zd7,hc9]; rfl) rfl))) (.inl rfl) ?_
   simp(disch:=omega)only[↓RU,RW,↓reduceIte,qE,reduceCtorEq,iP,qN,↓RS,RG,qA,qM,qL,ty7,zad,zbr,zfw,za7,zaa,zbs,zfx,za8]
   apply hK;clear hK K
   refine W.r fun K hK=>?_
   simp(disch:=omega)only[↓RU,RW,↓reduceIte,qE,reduceCtorEq,iP,qN,↓RS,RG,qA,qM,qL,ty7,zad,zbr,zfw,za7,zaa,zbs,zfx,za8]
   refine zac.pc (hI2) (za5 rfl (za5 (by rw [zd7,hr9]; rfl) (za5 (by rw [zd7,hc9]; rfl) rfl))) (.inl rfl) ?_
   simp(disch:=omega)only[↓RU,RW,↓reduceIte,qE,reduceCtorEq,iP,qN,↓RS,RG,qA,qM,qL,ty7,zad,zbr,zfw,za7,zaa,zbs,zfx,za8]
   apply hK;clear hK K
   refine W.seq ?_
   refine W.r fun K hK=>?_
   simp(disch:=omega)only[↓RU,RW,↓reduceIte,qE,reduceCtorEq,iP,↓RS,RG,qA,qM,qL]
   apply hK;clear hK K
   refine W.cond rfl (fun h3=>?_) (fun h3=>?_)
   ·try simp only[RL]at h3
    refine W.r fun K hK=>?_
    simp(disch:=omega)only[↓RU,RW,↓reduceIte,qE,reduceCtorEq,iP,↓RS,RG,qA,qM,qL]
    apply hK;clear hK K
    refine W.ret ?_
    refine XThen.ret ?_
    refine Br rfl ?_
    rw [zfv hw.inn h1 hq,hx1]
    rfl
   try simp only[RL]at h3
   exact absurd h3 (by simp)
  ·skip
   have hI1:=ih (t.one q) w1 a1
   have hI2:=ih (t.two q) w2 a2
   simp only[zo7,hx1]at hI1
   simp only[zo7,hx2]at hI2
   simp(disch:=omega)only[↓RU,RW,↓reduceIte,qE,reduceCtorEq,iP,qN,↓RS,RG,qA,qM,qL,ty7,zad,zbr,zfw,za7,zaa,zbs,zfx,za8]
   refine zac.pc (hI1) (za5 rfl (za5 (by rw [zd7,hr9]; rfl) (za5 (by rw [zd7,hc9]; rfl) rfl))) (.inl rfl) ?_
   simp(disch:=omega)only[↓RU,RW,↓reduceIte,qE,reduceCtorEq,iP,qN,↓RS,RG,qA,qM,qL,ty7,zad,zbr,zfw,za7,zaa,zbs,zfx,za8]
   apply hK;clear hK K
   refine W.r fun K hK=>?_
   simp(disch:=omega)only[↓RU,RW,↓reduceIte,qE,reduceCtorEq,iP,qN,↓RS,RG,qA,qM,qL,ty7,zad,zbr,zfw,za7,zaa,zbs,zfx,za8]
   refine zac.pc (hI2) (za5 rfl (za5 (by rw [zd7,hr9]; rfl) (za5 (by rw [zd7,hc9]; rfl) rfl))) (.inl rfl) ?_
   simp(disch:=omega)only[↓RU,RW,↓reduceIte,qE,reduceCtorEq,iP,qN,↓RS,RG,qA,qM,qL,ty7,zad,zbr,zfw,za7,zaa,zbs,zfx,za8]
   apply hK;clear hK K
   refine W.seq ?_
   refine W.r fun K hK=>?_
   simp(disch:=omega)only[↓RU,RW,↓reduceIte,qE,reduceCtorEq,iP,↓RS,RG,qA,qM,qL]
   apply hK;clear hK K
   refine W.cond rfl (fun h3=>?_) (fun h3=>?_)
   ·try simp only[RL]at h3
    refine W.r fun K hK=>?_
    simp(disch:=omega)only[↓RU,RW,↓reduceIte,qE,reduceCtorEq,iP,↓RS,RG,qA,qM,qL]
    apply hK;clear hK K
    refine W.ret ?_
    refine XThen.ret ?_
    refine Br rfl ?_
    rw [zfv hw.inn h1 hq,hx1,hx2]
    rfl
   try simp only[RL]at h3
   exact absurd h3 (by simp)
  skip
  have hI1:=ih (t.one q) w1 a1
  have hI2:=ih (t.two q) w2 a2
  simp only[zo7,hx1]at hI1
  simp only[zo7,hx2]at hI2
  simp(disch:=omega)only[↓RU,RW,↓reduceIte,qE,reduceCtorEq,iP,qN,↓RS,RG,qA,qM,qL,ty7,zad,zbr,zfw,za7,zaa,zbs,zfx,za8]
  refine zac.pc (hI1) (za5 rfl (za5 (by rw [zd7,hr9]; rfl) (za5 (by rw [zd7,hc9]; rfl) rfl))) (.inl rfl) ?_
  simp(disch:=omega)only[↓RU,RW,↓reduceIte,qE,reduceCtorEq,iP,qN,↓RS,RG,qA,qM,qL,ty7,zad,zbr,zfw,za7,zaa,zbs,zfx,za8]
  apply hK;clear hK K
  refine W.r fun K hK=>?_
  simp(disch:=omega)only[↓RU,RW,↓reduceIte,qE,reduceCtorEq,iP,qN,↓RS,RG,qA,qM,qL,ty7,zad,zbr,zfw,za7,zaa,zbs,zfx,za8]
  refine zac.pc (hI2) (za5 rfl (za5 (by rw [zd7,hr9]; rfl) (za5 (by rw [zd7,hc9]; rfl) rfl))) (.inl rfl) ?_
  simp(disch:=omega)only[↓RU,RW,↓reduceIte,qE,reduceCtorEq,iP,qN,↓RS,RG,qA,qM,qL,ty7,zad,zbr,zfw,za7,zaa,zbs,zfx,za8]
  apply hK;clear hK K
  refine W.seq ?_
  refine W.r fun K hK=>?_
  simp(disch:=omega)only[↓RU,RW,↓reduceIte,qE,reduceCtorEq,iP,↓RS,RG,qA,qM,qL]
  apply hK;clear hK K
  refine W.cond rfl (fun h3=>?_) (fun h3=>?_)
  ·try simp only[RL]at h3
   exact absurd h3 (by simp)
  try simp only[RL]at h3
  refine W.skip ?_
  refine xn ?_
  refine W.r fun K hK=>?_
  simp(disch:=omega)only[↓RU,RW,↓reduceIte,qE,reduceCtorEq,iP,qN,↓RS,RG,qA,qM,qL,ty7,zad,zbr,zfw,za7,zaa,zbs,zfx,za8]
  refine zac.pc (hcut t q x1 x2 hw hq hx1 hx2) (za5 rfl (za5 rfl (za5 rfl (hc10 _)))) (.inl rfl) ?_
  simp(disch:=omega)only[↓RU,RW,↓reduceIte,qE,reduceCtorEq,iP,qN,↓RS,RG,qA,qM,qL,ty7,zad,zbr,zfw,za7,zaa,zbs,zfx,za8]
  apply hK;clear hK K
  refine W.ret ?_
  refine Br rfl ?_
  rw [zfv hw.inn h1 hq,hx1,hx2]
  rfl
 skip
 have hL:PC Tryz.prog 42 [zfb (gP p) (rP p) t.rect] (.sl [.int .i64 (zaf p t.r t.c)] 1) true:=by have h:=zvb (gP p) (by omega) hfit (zpn hp hw.inn); rw [yaz hp hw h1]at h; exact h
 have hv:=zcg hp (i:=t.r) (j:=t.c) (by omega) (by omega)
 simp(disch:=omega)only[↓RU,RW,↓reduceIte,qE,reduceCtorEq,iP,qN,↓RS,RG,qA,qM,qL,ty7,zbr,za7,zaa,zbs,za8]
 refine zac.pc (hL) rfl (.inl rfl) ?_
 simp(disch:=omega)only[↓RU,RW,↓reduceIte,qE,reduceCtorEq,iP,qN,↓RS,RG,qA,qM,qL,ty7,zbr,za7,zaa,zbs,za8]
 apply hK;clear hK K
 refine W.r fun K hK=>?_
 simp(disch:=omega)only[↓RU,RW,↓reduceIte,qE,reduceCtorEq,iP,w64,↓RS,RG,qA,qM,qL,zab,zaa]
 apply hK;clear hK K
 refine W.cond rfl (fun h0=>?_) (fun h0=>?_)
 ·try simp only[RL]at h0
  refine W.r fun K hK=>?_
  simp(disch:=omega)only[↓RU,RW,↓reduceIte,qE,reduceCtorEq,iP,qN,↓RS,RG,qA,qM,qL,zab,zaa,Int.toNat_zero,Nat.zero_mul,qZ,List.getElem?_cons_zero]
  refine zac.pc (hroom _ hv.1 hv.2) (za5 rfl (hr10 _)) (.inl rfl) ?_
  simp(disch:=omega)only[↓RU,RW,↓reduceIte,qE,reduceCtorEq,iP,qN,↓RS,RG,qA,qM,qL,zab,zaa,Int.toNat_zero,Nat.zero_mul,qZ,List.getElem?_cons_zero]
  apply hK;clear hK K
  refine W.ret ?_
  refine XThen.ret ?_
  refine Br rfl ?_
  rw [zhg hw.inn h1]
  rfl
 try simp only[RL]at h0
 exact absurd h0 (by simp)
theorem zos {p:List Txt} (hp:zbk p=true) {rf cf:FuncId} {rc cc:List PV} (hr9:∀ S,rc.mapM (reify S true 9)=some rc) (hr10:∀ S,rc.mapM (reify S true 10)=some rc) (hc9:∀ S,cc.mapM (reify S true 9)=some cc) (hc10:∀ S,cc.mapM (reify S true 10)=some cc)
  {room:Int→Txt} {cut:Bool→Txt→Txt→Txt} (hroom:∀ a:Int,0≤a→a<(rP p).length→PC Tryz.prog rf (.int .i64 a::rc) ((fun x:Txt=>PV.str x) (room a)) true)
  (hcut:∀ (t:Pt) q x y,Whole (zaf p) p.length (zag p).length t→zdc (zaf p) t=some q→zck (zaf p) (t.one q)=some x→zck (zaf p) (t.two q)=some y→PC Tryz.prog cf (z2v (gP p) (rP p) t q::(fun x:Txt=>PV.str x) (x.fold room cut)::(fun x:Txt=>PV.str x) (y.fold room cut)::cc) ((fun x:Txt=>PV.str x) (cut q.1 (x.fold room cut) (y.fold room cut))) true):∀ (n:Nat) {t:Pt},t.h*t.w≤n→Whole (zaf p) p.length (zag p).length t→PC Tryz.prog 87 [zfb (gP p) (rP p) t.rect,.fn rf rc,.fn cf cc] (zo7 (fun x:Txt=>PV.str x) (.str []) room cut (zck (zaf p) t)) true
 | 0,t,hn,hw=>by have:=Nat.mul_pos hw.inn.1 hw.inn.2.1; omega
 | n+1,t,hn,hw=>zxo hp hr9 hr10 hc9 hc10 hroom hcut hw fun t' hw' ha=>zos hp hr9 hr10 hc9 hc10 hroom hcut n (by omega) hw'
theorem yew {a:Int} (h0:0≤a) (h1:a<9):PC Tryz.prog 86 [.int .i64 a] (.str (yc1 a)) true:=by
 refine PC.of ⟨Tryz.func86,by kernel_rfl,rfl,by kernel_rfl⟩ zav mixed (by show 1≤Tryz.f86.ntmps; decide) ?_
 refine W.r fun K hK=>?_
 simp(disch:=omega)only[↓RU,RW,↓reduceIte,qE,reduceCtorEq,iP,w32r]
 apply hK;clear hK K
 refine W.r fun K hK=>?_
 simp(disch:=omega)only[↓RU,RW,↓reduceIte,qE,reduceCtorEq,iP,w64,w64,zaa,yi6,zal,w32r]
 apply hK;clear hK K
 refine W.ret ?_
 refine Br rfl ?_
 rfl
theorem z9f (g:List (List Int)) (rs:List Rect) (lv:Bool) (a b:Rect):PC Tryz.prog 89 [.agg (zrh g rs lv a b)] (.str (if lv then [104] else [118])) true:=by
 simp only[zrh,Rect.cells]
 refine PC.of ⟨Tryz.func89,by kernel_rfl,rfl,by kernel_rfl⟩ zav mixed (by show 1≤Tryz.f89.ntmps; decide) ?_
 refine W.r fun K hK=>?_
 simp(disch:=omega)only[↓RU,RW,↓reduceIte,qE,reduceCtorEq,iP,↓RS,RG,qA,qM,qL,ty7,zad,zbr,zfw,za7,zaa,zbs,zfx,za8]
 apply hK;clear hK K
 refine W.seq ?_
 refine W.r fun K hK=>?_
 simp(disch:=omega)only[↓RU,RW,↓reduceIte,qE,reduceCtorEq,iP,↓RS,RG,qA,qM,qL,ty7,zad,zbr,zfw,za7,zaa,zbs,zfx,za8]
 apply hK;clear hK K
 refine W.cond rfl (fun h0=>?_) (fun h0=>?_)
 ·try simp only[RL]at h0
  refine W.r fun K hK=>?_
  simp(disch:=omega)only[↓RU,RW,↓reduceIte,qE,reduceCtorEq,iP,↓RS,RG,qA,qM,qL]
  apply hK;clear hK K
  refine W.ret ?_
  refine XThen.ret ?_
  refine Br rfl ?_
  subst h0
  rfl
 try simp only[RL]at h0
 refine W.skip ?_
 refine xn ?_
 refine W.r fun K hK=>?_
 simp(disch:=omega)only[↓RU,RW,↓reduceIte,qE,reduceCtorEq,iP,↓RS,RG,qA,qM,qL]
 apply hK;clear hK K
 refine W.ret ?_
 refine Br rfl ?_
 subst h0
 rfl
theorem z4w {lv:Bool} {b:List UInt8} (h:b.length+1≤9223372036854775807):yck .add (if lv then [104] else [118]) b=some (.str ((if lv then [104] else [118])++b)):=if_pos (by rw [z9i]; omega)
theorem z4x {lv:Bool} {b d:List UInt8} (h:b.length+1+d.length≤9223372036854775807):yck .add ((if lv then [104] else [118])++b) d=some (.str ((if lv then [104] else [118])++b++d)):=if_pos (by rw [List.length_append,z9i]; omega)
theorem yex (g:List (List Int)) (rs:List Rect) (lv:Bool) (a b:Rect) {x y:Txt} (hx:x.length≤10000) (hy:y.length≤10000):PC Tryz.prog 88 [.agg (zrh g rs lv a b),.str x,.str y] (.str (yc2 lv x y)) true:=by
 have hL:=z9f g rs lv a b
 simp only[zrh,Rect.cells]at hL ⊢
 skip
 refine PC.of ⟨Tryz.func88,by kernel_rfl,rfl,by kernel_rfl⟩ zav mixed (by show 3≤Tryz.f88.ntmps; decide) ?_
 refine W.r fun K hK=>?_
 simp(disch:=omega)only[↓RU,RW,↓reduceIte,qE,reduceCtorEq,iP,↓RS,RG,qA,qM,qL,ty7,zad,zbr,zfw,za7,zaa,zbs,zfx,za8]
 apply hK;clear hK K
 refine W.r fun K hK=>?_
 simp(disch:=omega)only[↓RU,RW,↓reduceIte,qE,reduceCtorEq,iP,qN,w64,↓RS,RG,qA,qM,qL,ty7,zad,zbr,zfw,za7,zaa,zal,zbs,zfx,za8,z4w,z4x]
 refine zac.pc (hL) rfl (.inl rfl) ?_
 simp(disch:=omega)only[↓RU,RW,↓reduceIte,qE,reduceCtorEq,iP,qN,w64,↓RS,RG,qA,qM,qL,ty7,zad,zbr,zfw,za7,zaa,zal,zbs,zfx,za8,z4w,z4x]
 apply hK;clear hK K
 refine W.ret ?_
 refine Br rfl ?_
 rfl
theorem z0t {p:List Txt} (hp:zbk p=true):PC Tryz.prog 55 [zfb (gP p) (rP p) (zf1 p).rect] (zo7 (fun x:Txt=>PV.str x) (.str []) yc1 yc2 (zck (zaf p) (zf1 p))) true:=by
 have hT:PC Tryz.prog 87 [zfb (gP p) (rP p) (zf1 p).rect,.fn 86 [],.fn 88 []] (zo7 (fun x:Txt=>PV.str x) (.str []) yc1 yc2 (zck (zaf p) (zf1 p))) true:=by
  refine zos hp (rf:=86) (cf:=88) (rc:=[]) (cc:=[]) (fun _=>rfl) (fun _=>rfl) (fun _=>rfl) (fun _=>rfl) (fun a h1 h2=>yew h1 (by have:=(zg4 hp).1; omega)) (fun t q x y hw hq hx hy=>?_) _ (qR _) (zne hp)
  obtain ⟨w1,w2⟩:=hw.cut (ze3 hp) hq
  have b1:=zqz hp w1 hx
  have b2:=zqz hp w2 hy
  have n9:=(zg4 hp).1
  have c1:=z2j (x:=x) fun a ha=>by have:=b1.1 a ha; omega
  have c2:=z2j (x:=y) fun a ha=>by have:=b2.1 a ha; omega
  exact yex (gP p) (rP p) q.1 (t.one q).rect (t.two q).rect (by omega) (by omega)
 obtain ⟨v2,b2,e2⟩:=zl1 (enc:=fun x:Txt=>PV.str x) (zero := .str []) (room:=yc1) (cut:=yc2) (zck (zaf p) (zf1 p))
 have hs:∃ s:Txt,v2 = .str s:=by cases h:(zck (zaf p) (zf1 p)) <;> rw [h]at e2 <;> cases e2 <;> exact ⟨_,rfl⟩
 obtain ⟨s,rfl⟩:=hs
 rw [e2]at hT ⊢
 simp only[zfb,Pt.rect,Rect.cells]at hT ⊢
 refine PC.of ⟨Tryz.func55,by kernel_rfl,rfl,by kernel_rfl⟩ zav mixed (by show 1≤Tryz.f55.ntmps; decide) ?_
 refine W.r fun K hK=>?_
 simp(disch:=omega)only[↓RU,RW,↓reduceIte,qE,reduceCtorEq,iP,↓RS,RG,qA,qM,qL,ty7,zbr,za7,zaa,zbs,za8]
 apply hK;clear hK K
 refine W.r fun K hK=>?_
 simp(disch:=omega)only[↓RU,RW,↓reduceIte,qE,reduceCtorEq,iP,↓RS,RG,qA,qM,qL]
 apply hK;clear hK K
 refine W.r fun K hK=>?_
 simp(disch:=omega)only[↓RU,RW,↓reduceIte,qE,reduceCtorEq,iP,qN,↓RS,RG,qA,qM,qL,ty7,zbr,za7,zaa,zbs,za8]
 refine zac.pc (hT) rfl (.inl rfl) ?_
 simp(disch:=omega)only[↓RU,RW,↓reduceIte,qE,reduceCtorEq,iP,qN,↓RS,RG,qA,qM,qL,ty7,zbr,za7,zaa,zbs,za8]
 apply hK;clear hK K
 refine W.ret ?_
 refine Br rfl ?_
 rfl
theorem ycf {p:List Txt} (hp:zbk p=true):PC Tryz.prog 40 [zar (gP p) (rP p)] (zfb (gP p) (rP p) (zf1 p).rect) false:=by
 have hg:=z1o hp
 obtain ⟨row,h1,h2,-⟩:=hg.at_ (i:=0) (j:=0) (by have:=hg.2.2; omega) (by have:=hg.2.2; omega)
 have h:=z48 h1 (rP p)
 rw [hg.1,h2]at h
 exact h
theorem z5h {p:List Txt} (hs:Sm p):PC Tryz.prog 32 [zbi p] (zo7 (fun x:Txt=>PV.str x) (.str []) yc1 yc2 (if zbk p then (zck (zaf p) (zf1 p)) else none)) true:=by
 obtain ⟨x,hx,hxy,hxr⟩:=zdd hs
 rw [zc3]at hx hxy
 refine PC.of ⟨Tryz.func32,by kernel_rfl,rfl,by kernel_rfl⟩ zav mixed (by show 1≤Tryz.f32.ntmps; decide) ?_
 refine W.r fun K hK=>?_
 simp(disch:=omega)only[↓RU,RW,↓reduceIte,qE,reduceCtorEq,iP,↓RS,RG,qA,qM,qL]
 apply hK;clear hK K
 refine W.r fun K hK=>?_
 simp(disch:=omega)only[↓RU,RW,↓reduceIte,qE,reduceCtorEq,iP,qN,↓RS,RG,qA,qM,qL]
 refine zac.pc (hx) rfl (.inr rfl) ?_
 simp(disch:=omega)only[↓RU,RW,↓reduceIte,qE,reduceCtorEq,iP,qN,↓RS,RG,qA,qM,qL]
 apply hK;clear hK K
 refine W.seq ?_
 refine W.r fun K hK=>?_
 simp(disch:=omega)only[↓RU,RW,↓reduceIte,qE,reduceCtorEq,iP,↓RS,RG,qA,qM,qL]
 apply hK;clear hK K
 refine W.cond rfl (fun h0=>?_) (fun h0=>?_)
 ·skip
  have hp:zbk p=false:=by simpa using h0
  refine W.r fun K hK=>?_
  simp(disch:=omega)only[↓RU,RW,↓reduceIte,qE,reduceCtorEq,iP,↓RS,RG,qA,qM,qL]
  apply hK;clear hK K
  refine W.ret ?_
  refine XThen.ret ?_
  refine Br rfl ?_
  rw [hp]
  rfl
 skip
 have hp:zbk p=true:=by simpa using h0
 obtain rfl:=hxy hp
 have hT:=z0t hp
 obtain ⟨v2,b2,e2⟩:=zl1 (enc:=fun x:Txt=>PV.str x) (zero := .str []) (room:=yc1) (cut:=yc2) (zck (zaf p) (zf1 p))
 have hs2:∃ s:Txt,v2 = .str s:=by cases h:(zck (zaf p) (zf1 p)) <;> rw [h]at e2 <;> cases e2 <;> exact ⟨_,rfl⟩
 obtain ⟨s,rfl⟩:=hs2
 rw [e2]at hT
 refine W.skip ?_
 refine xn ?_
 refine W.r fun K hK=>?_
 simp(disch:=omega)only[↓RU,RW,↓reduceIte,qE,reduceCtorEq,iP,qN,↓RS,RG,qA,qM,qL]
 refine zac.pc (ycf hp) rfl (.inr rfl) ?_
 simp(disch:=omega)only[↓RU,RW,↓reduceIte,qE,reduceCtorEq,iP,qN,↓RS,RG,qA,qM,qL]
 refine zac.pc (hT) rfl (.inl rfl) ?_
 simp(disch:=omega)only[↓RU,RW,↓reduceIte,qE,reduceCtorEq,iP,qN,↓RS,RG,qA,qM,qL]
 apply hK;clear hK K
 refine W.ret ?_
 refine Br rfl ?_
 rw [hp,if_pos rfl,e2]
 rfl
theorem zus {p:List Txt} (hs:Sm p):PC Tryz.prog 9 [zbi p] (.bool (zur p)) true:=by
 have hT:=z5h hs
 obtain ⟨v2,b2,e2⟩:=zl1 (enc:=fun x:Txt=>PV.str x) (zero := .str []) (room:=yc1) (cut:=yc2) (if zbk p then (zck (zaf p) (zf1 p)) else none)
 have hb:b2=zur p:=by
  unfold zur
  cases hp:zbk p with
  | false=>rw [hp]at e2; cases e2; rfl
  | true=>rw [hp]at e2; cases h:(zck (zaf p) (zf1 p)) <;> simp only[if_true,h]at e2 <;> cases e2 <;> rfl
 rw [e2]at hT
 refine PC.of ⟨Tryz.func9,by kernel_rfl,rfl,by kernel_rfl⟩ zav mixed (by show 1≤Tryz.f9.ntmps; decide) ?_
 refine W.r fun K hK=>?_
 simp(disch:=omega)only[↓RU,RW,↓reduceIte,qE,reduceCtorEq,iP]
 apply hK;clear hK K
 refine W.r fun K hK=>?_
 simp(disch:=omega)only[↓RU,RW,↓reduceIte,qE,reduceCtorEq,iP,qN]
 refine zac.pc (hT) rfl (.inl rfl) ?_
 simp(disch:=omega)only[↓RU,RW,↓reduceIte,qE,reduceCtorEq,iP,qN]
 apply hK;clear hK K
 refine W.r fun K hK=>?_
 simp(disch:=omega)only[↓RU,RW,↓reduceIte,qE,reduceCtorEq,iP]
 apply hK;clear hK K
 refine W.ret ?_
 refine Br rfl ?_
 rw [← hb]
 rfl
def zli (f:Wall→Bool) (ws:List Wall) (k:Nat):List Int:=((List.range k).filter fun i=>match ws[i]? with | some w=>f w | none=>false).map fun i:Nat=>(i:Int)
theorem zju {f:Wall→Bool} {ws:List Wall} {k:Nat} {w:Wall} (h:ws[k]?=some w):zli f ws (k+1)=if f w then zli f ws k++[(k:Int)] else zli f ws k:=by
 unfold zli
 rw [qS,List.filter_append,List.map_append]
 cases hf:f w <;> simp [h,hf]
theorem zpz {f:Wall→Bool} {ws:List Wall} {k:Nat}:(zli f ws k).length≤k:=by
 unfold zli
 rw [List.length_map]
 exact Nat.le_trans (List.length_filter_le _ _) (by rw [List.length_range]; exact qR _)
theorem zue {f:Wall→Bool} {ws:List Wall}:∀ {k:Nat},k≤ws.length→(zli f ws k).length=(ws.take k).countP f
 | 0,_=>by simp [zli]
 | k+1,h=>by
  obtain ⟨w,hw,-⟩:=zaj (show k<ws.length by omega)
  have ih:=zue (f:=f) (ws:=ws) (k:=k) (by omega)
  rw [zju hw,tk hw,List.countP_append,List.countP_singleton,← ih]
  cases f w <;> simp
def z5g (p:List Txt):List Int:=zli (zon p.length (zag p).length) (zau (gP p) p.length (zag p).length) (zau (gP p) p.length (zag p).length).length
theorem zut {p:List Txt} (hp:zbk p=true):(z5g p).length=z71 p:=by
 unfold z5g
 rw [zue (qR _),List.take_length,z5j hp]
theorem ye7 (d:Bool) (l:List Int):(d=false∧l=[])∨(d=false∧l≠[])∨(d=true∧l=[])∨(d=true∧l≠[]):=by
 cases d <;> by_cases e:l=[] <;> simp [e]
theorem z0g {a b:Int}:(a == b)=decide (a=b):=by by_cases h:a=b <;> simp [h]
theorem yjz {g:List (List Int)} {nh nw:Nat} (hg:GW g nh nw) (rs:List Rect) {w:Wall}:PC Tryz.prog 73 [zar g rs,z8a w] (.int .i64 (if w.level then (nw:Int) else nh)) true:=by
 have hgl:=hg.1
 obtain ⟨row0,hrow0,hrl0,-⟩:=hg.at_ (i:=0) (j:=0) (by have:=hg.2.2.1; omega) (by have:=hg.2.2.2.2.1; omega)
 obtain ⟨lv,ln,fr,lg⟩:=w
 simp only[z8a,Wall.cells]
 refine PC.of ⟨Tryz.func73,by kernel_rfl,rfl,by kernel_rfl⟩ zav mixed (by show 2≤Tryz.f73.ntmps; decide) ?_
 refine W.r fun K hK=>?_
 simp(disch:=omega)only[↓RU,RW,↓reduceIte,qE,reduceCtorEq,iP,↓RS,RG,qA,qM,qL,zad,zi2,zaa,zi3]
 apply hK;clear hK K
 refine W.seq ?_
 refine W.r fun K hK=>?_
 simp(disch:=omega)only[↓RU,RW,↓reduceIte,qE,reduceCtorEq,iP,↓RS,RG,qA,qM,qL,zad,zi2,zaa,zi3]
 apply hK;clear hK K
 refine W.cond rfl (fun h0=>?_) (fun h0=>?_)
 ·try simp only[RL]at h0
  refine W.r fun K hK=>?_
  simp(disch:=omega)only[↓RU,RW,↓reduceIte,qE,reduceCtorEq,iP,qN,↓RS,RG,qA,qM,qL,hrl0]
  refine zac.pc (zir hrow0 rs) rfl (.inl rfl) ?_
  simp(disch:=omega)only[↓RU,RW,↓reduceIte,qE,reduceCtorEq,iP,qN,↓RS,RG,qA,qM,qL,hrl0]
  apply hK;clear hK K
  refine W.ret ?_
  refine XThen.ret ?_
  refine Br rfl ?_
  rw [h0]
  rfl
 try simp only[RL]at h0
 refine W.skip ?_
 refine xn ?_
 refine W.r fun K hK=>?_
 simp(disch:=omega)only[↓RU,RW,↓reduceIte,qE,reduceCtorEq,iP,qN,↓RS,RG,qA,qM,qL,hgl]
 refine zac.pc (zh1 g rs) rfl (.inl rfl) ?_
 simp(disch:=omega)only[↓RU,RW,↓reduceIte,qE,reduceCtorEq,iP,qN,↓RS,RG,qA,qM,qL,hgl]
 apply hK;clear hK K
 refine W.ret ?_
 refine Br rfl ?_
 rw [show lv=false by simpa using h0]
 rfl
theorem znl {g:List (List Int)} {nh nw:Nat} (hg:GW g nh nw) (rs:List Rect):PC Tryz.prog 43 [zar g rs] (eInts (zli (zon nh nw) (zau g nh nw) (zau g nh nw).length)) true:=by
 have hwsl:=zwl (g:=g) (nh:=nh) (nw:=nw) (i:=2) hg.2.2.2.1 hg.2.2.2.2.2
 rw [show wsI g nh nw 2=zau g nh nw from rfl]at hwsl
 refine PC.of ⟨Tryz.func43,by kernel_rfl,rfl,by kernel_rfl⟩ zav mixed (by show 1≤Tryz.f43.ntmps; decide) ?_
 refine W.r fun K hK=>?_
 simp(disch:=omega)only[↓RU,RW,↓reduceIte,qE,reduceCtorEq,iP,↓RS,RG,qA,qM,qL]
 apply hK;clear hK K
 refine W.r fun K hK=>?_
 simp(disch:=omega)only[↓RU,RW,↓reduceIte,qE,reduceCtorEq,iP,↓RS,RG,qA,qM,qL]
 apply hK;clear hK K
 refine W.seq ?_
 refine W.r fun K hK=>?_
 simp(disch:=omega)only[↓RU,RW,↓reduceIte,qE,reduceCtorEq,iP,qN,↓RS,RG,qA,qM,qL,ty4,zad,zi2,zaa,zi3]
 refine zac.pc (zwh hg rs) rfl (.inl rfl) ?_
 simp(disch:=omega)only[↓RU,RW,↓reduceIte,qE,reduceCtorEq,iP,qN,↓RS,RG,qA,qM,qL,ty4,zad,zi2,zaa,zi3]
 apply hK;clear hK K
 refine W.block ?_
 refine W.loopS [0,7,8,9,3] (fun n vs S=>∃ i v tk:Nat,n=(zau g nh nw).length - i∧i≤(zau g nh nw).length∧vs=[zar g rs,zho (zau g nh nw),.int .i64 (zau g nh nw).length,.int .i64 i,slN (zli (zon nh nw) (zau g nh nw) i) v]∧S=stN (zli (zon nh nw) (zau g nh nw) i) v tk) (zau g nh nw).length ?_ ?_
 ·refine ⟨0,[],[zar g rs,zho (zau g nh nw),.int .i64 (zau g nh nw).length,.int .i64 (0:Nat),slN [] 0],stN [] 0 1,?_,?_,0,0,1,rfl,by omega,rfl,rfl⟩
  ·simp [-qU,Env.put,Env.of,zai,za9,zae,zak,zam,zao,zbd,zbe,zb2,zbc,zaz,zbf,zb1,zb3,za1,za0,zap,zbb,zbg,zb0,zax,zaw,zan,zay,zba,zdr,qS,qP,qC,zjo]
  simp [-qU,Env.put,Env.of,zai,za9,zae,zak,zam,zao,zbd,zbe,zb2,zbc,zaz,zbf,zb1,zb3,za1,za0,zap,zbb,zbg,zb0,zax,zaw,zan,zay,zba,zdr,qS,qP,qC,zjp]
 rintro n vs S - ⟨i,v,tk,rfl,h_i,rfl,rfl⟩
 refine W.r fun K hK=>?_
 simp(disch:=omega)only[↓RU,RW,↓reduceIte,qE,reduceCtorEq,iP,w64,↓RS,RG,qA,qM,qL,zaa]
 apply hK;clear hK K
 refine W.seq ?_
 refine W.cond rfl (fun h=>?_) (fun h=>?_)
 ·try simp only[RL]at h
  obtain ⟨w,hww,hwm⟩:=zaj (show i<(zau g nh nw).length by omega)
  have hlen:=zpz (f:=(zon nh nw)) (ws:=(zau g nh nw)) (k:=i)
  generalize hl:zli (zon nh nw) (zau g nh nw) i=l at hlen
  have hE:=yjz hg rs (w:=w)
  have hde:(w.long == (if w.level then (nw:Int) else nh))=zon nh nw w:=z0g
  have hat:=yce hww
  obtain ⟨lv,ln,fr,lg⟩:=w
  simp only[z8a,Wall.cells]at hE hat hde
  refine W.skip ?_
  refine xn ?_
  refine W.seq ?_
  refine W.block ?_
  refine W.r fun K hK=>?_
  obtain ⟨hd,rfl⟩ | ⟨hd,hw⟩ | ⟨hd,rfl⟩ | ⟨hd,hw⟩:=ye7 (zon nh nw ⟨lv,ln,fr,lg⟩) l
  ·skip
   rw [zjo,zjp]
   simp(disch:=omega)only[↓RU,RW,↓reduceIte,qE,reduceCtorEq,iP,↓RS,RG,qA,qM,qL,ty4,zad,zi2,zaa,zi3,hat,zfz]
   apply hK;clear hK K
   refine W.seq_draw (by kernel_rfl) fun K hK=>?_
   simp(disch:=omega)only[↓RU,RW,↓reduceIte,qE,reduceCtorEq,iP,qN,w64,↓RS,RG,qA,qM,qL,zad,zi2,zaa,zi3,hde,hd]
   refine zac.pc (hE) rfl (.inl rfl) ?_
   simp(disch:=omega)only[↓RU,RW,↓reduceIte,qE,reduceCtorEq,iP,qN,w64,↓RS,RG,qA,qM,qL,zad,zi2,zaa,zi3,hde,hd]
   apply hK;clear hK K
   refine W.cond rfl (fun h1=>?_) (fun h1=>?_)
   ·try simp only[RL]at h1
    exact absurd h1 (by simp)
   try simp only[RL]at h1
   refine W.skip ?_
   refine XbN ?_
   refine xn ?_
   refine W.k fun K hK=>?_
   simp(disch:=omega)only[↓RU,RW,↓reduceIte,qE,reduceCtorEq,iP,w64,↓RS,RG,qA,qM,qL,zaa]
   apply hK;clear hK K
   refine xn ?_
   have hnx:(zli (zon nh nw) (zau g nh nw) (i+1))=[]:=by rw [zju hww,hl,hd]; rfl
   refine ⟨(zau g nh nw).length - (i+1),by omega,0,[],[zar g rs,zho (zau g nh nw),.int .i64 (zau g nh nw).length,.int .i64 ((i+1:Nat):Int),slN (zli (zon nh nw) (zau g nh nw) (i+1)) v],stN (zli (zon nh nw) (zau g nh nw) (i+1)) v (tk+2),?_,?_,i+1,v,(tk+2),rfl,by omega,rfl,rfl⟩
   ·rw [hnx]; simp [-qU,Env.put,Env.of,zai,za9,zae,zak,zam,zao,zbd,zbe,zb2,zbc,zaz,zbf,zb1,zb3,za1,za0,zap,zbb,zbg,zb0,zax,zaw,zan,zay,zba,zdr,qS,qP,qC,zjo]
   rw [hnx]; simp [-qU,Env.put,Env.of,zai,za9,zae,zak,zam,zao,zbd,zbe,zb2,zbc,zaz,zbf,zb1,zb3,za1,za0,zap,zbb,zbg,zb0,zax,zaw,zan,zay,zba,zdr,qS,qP,qC,zjp]
  ·skip
   rw [zku hw,zkv hw]
   simp(disch:=omega)only[↓RU,RW,↓reduceIte,qE,reduceCtorEq,iP,↓RS,RG,qA,qM,qL,ty4,zad,zi2,zaa,zi3,hat,zfz]
   apply hK;clear hK K
   refine W.seq_draw (by kernel_rfl) fun K hK=>?_
   simp(disch:=omega)only[↓RU,RW,↓reduceIte,qE,reduceCtorEq,iP,qN,w64,↓RS,RG,qA,qM,qL,zad,zi2,zaa,zi3,hde,hd]
   refine zac.pc (hE) rfl (.inl rfl) ?_
   simp(disch:=omega)only[↓RU,RW,↓reduceIte,qE,reduceCtorEq,iP,qN,w64,↓RS,RG,qA,qM,qL,zad,zi2,zaa,zi3,hde,hd]
   apply hK;clear hK K
   refine W.cond rfl (fun h1=>?_) (fun h1=>?_)
   ·try simp only[RL]at h1
    exact absurd h1 (by simp)
   try simp only[RL]at h1
   refine W.skip ?_
   refine XbN ?_
   refine xn ?_
   refine W.k fun K hK=>?_
   simp(disch:=omega)only[↓RU,RW,↓reduceIte,qE,reduceCtorEq,iP,w64,↓RS,RG,qA,qM,qL,zaa]
   apply hK;clear hK K
   refine xn ?_
   have hnx:(zli (zon nh nw) (zau g nh nw) (i+1))=l:=by rw [zju hww,hl,hd]; rfl
   refine ⟨(zau g nh nw).length - (i+1),by omega,1,[],[zar g rs,zho (zau g nh nw),.int .i64 (zau g nh nw).length,.int .i64 ((i+1:Nat):Int),slN (zli (zon nh nw) (zau g nh nw) (i+1)) v],stN (zli (zon nh nw) (zau g nh nw) (i+1)) v (tk+2),?_,?_,i+1,v,(tk+2),rfl,by omega,rfl,rfl⟩
   ·rw [hnx]; simp [-qU,Env.put,Env.of,zai,za9,zae,zak,zam,zao,zbd,zbe,zb2,zbc,zaz,zbf,zb1,zb3,za1,za0,zap,zbb,zbg,zb0,zax,zaw,zan,zay,zba,zdr,qS,qP,qC,zku hw]
   rw [hnx]; simp [-qU,Env.put,Env.of,zai,za9,zae,zak,zam,zao,zbd,zbe,zb2,zbc,zaz,zbf,zb1,zb3,za1,za0,zap,zbb,zbg,zb0,zax,zaw,zan,zay,zba,zdr,qS,qP,qC,zkv hw,zff]
  ·skip
   rw [zjo,zjp]
   simp(disch:=omega)only[↓RU,RW,↓reduceIte,qE,reduceCtorEq,iP,↓RS,RG,qA,qM,qL,ty4,zad,zi2,zaa,zi3,hat,zfz]
   apply hK;clear hK K
   refine W.seq_draw (by kernel_rfl) fun K hK=>?_
   simp(disch:=omega)only[↓RU,RW,↓reduceIte,qE,reduceCtorEq,iP,qN,w64,↓RS,RG,qA,qM,qL,zad,zi2,zaa,zi3,hde,hd]
   refine zac.pc (hE) rfl (.inl rfl) ?_
   simp(disch:=omega)only[↓RU,RW,↓reduceIte,qE,reduceCtorEq,iP,qN,w64,↓RS,RG,qA,qM,qL,zad,zi2,zaa,zi3,hde,hd]
   apply hK;clear hK K
   refine W.cond rfl (fun h1=>?_) (fun h1=>?_)
   ·try simp only[RL]at h1
    refine W.k fun K hK=>?_
    simp(disch:=omega)only[↓RU,RW,↓reduceIte,qE,reduceCtorEq,iP,↓RS,RG,qA,qM,qL,zab,zaa]
    apply hK;clear hK K
    refine XbN ?_
    refine xn ?_
    refine W.k fun K hK=>?_
    simp(disch:=omega)only[↓RU,RW,↓reduceIte,qE,reduceCtorEq,iP,w64,↓RS,RG,qA,qM,qL,zaa]
    apply hK;clear hK K
    refine xn ?_
    have hnx:(zli (zon nh nw) (zau g nh nw) (i+1))=[(i:Int)]:=by rw [zju hww,hl,hd]; rfl
    refine ⟨(zau g nh nw).length - (i+1),by omega,0,[2],[zar g rs,zho (zau g nh nw),.int .i64 (zau g nh nw).length,.int .i64 ((i+1:Nat):Int),slN (zli (zon nh nw) (zau g nh nw) (i+1)) (tk+3)],stN (zli (zon nh nw) (zau g nh nw) (i+1)) (tk+3) (tk+4),?_,?_,i+1,(tk+3),(tk+4),rfl,by omega,rfl,rfl⟩
    ·rw [hnx]; simp [-qU,Env.put,Env.of,zai,za9,zae,zak,zam,zao,zbd,zbe,zb2,zbc,zaz,zbf,zb1,zb3,za1,za0,zap,zbb,zbg,zb0,zax,zaw,zan,zay,zba,zdr,qS,qP,qC,zku]
    rw [hnx]; simp [-qU,Env.put,Env.of,zai,za9,zae,zak,zam,zao,zbd,zbe,zb2,zbc,zaz,zbf,zb1,zb3,za1,za0,zap,zbb,zbg,zb0,zax,zaw,zan,zay,zba,zdr,qS,qP,qC,zkv]
   try simp only[RL]at h1
   exact absurd h1 (by simp)
  skip
  rw [zku hw,zkv hw]
  simp(disch:=omega)only[↓RU,RW,↓reduceIte,qE,reduceCtorEq,iP,↓RS,RG,qA,qM,qL,ty4,zad,zi2,zaa,zi3,hat,zfz]
  apply hK;clear hK K
  refine W.seq_draw (by kernel_rfl) fun K hK=>?_
  simp(disch:=omega)only[↓RU,RW,↓reduceIte,qE,reduceCtorEq,iP,qN,w64,↓RS,RG,qA,qM,qL,zad,zi2,zaa,zi3,hde,hd]
  refine zac.pc (hE) rfl (.inl rfl) ?_
  simp(disch:=omega)only[↓RU,RW,↓reduceIte,qE,reduceCtorEq,iP,qN,w64,↓RS,RG,qA,qM,qL,zad,zi2,zaa,zi3,hde,hd]
  apply hK;clear hK K
  refine W.cond rfl (fun h1=>?_) (fun h1=>?_)
  ·try simp only[RL]at h1
   refine W.k fun K hK=>?_
   simp(disch:=omega)only[↓RU,RW,↓reduceIte,qE,reduceCtorEq,iP,↓RS,RG,qA,qM,qL,zab,zaa]
   apply hK;clear hK K
   refine XbN ?_
   refine xn ?_
   refine W.k fun K hK=>?_
   simp(disch:=omega)only[↓RU,RW,↓reduceIte,qE,reduceCtorEq,iP,w64,↓RS,RG,qA,qM,qL,zaa]
   apply hK;clear hK K
   refine xn ?_
   have hnx:(zli (zon nh nw) (zau g nh nw) (i+1))=l++[(i:Int)]:=by rw [zju hww,hl,hd]; rfl
   refine ⟨(zau g nh nw).length - (i+1),by omega,1,[],[zar g rs,zho (zau g nh nw),.int .i64 (zau g nh nw).length,.int .i64 ((i+1:Nat):Int),slN (zli (zon nh nw) (zau g nh nw) (i+1)) (tk+2)],stN (zli (zon nh nw) (zau g nh nw) (i+1)) (tk+2) (tk+4),?_,?_,i+1,(tk+2),(tk+4),rfl,by omega,rfl,rfl⟩
   ·rw [hnx]; simp [-qU,Env.put,Env.of,zai,za9,zae,zak,zam,zao,zbd,zbe,zb2,zbc,zaz,zbf,zb1,zb3,za1,za0,zap,zbb,zbg,zb0,zax,zaw,zan,zay,zba,zdr,qS,qP,qC,zku (l:=l++[(i:Int)]) (by simp)]
   rw [hnx]; simp [-qU,Env.put,Env.of,zai,za9,zae,zak,zam,zao,zbd,zbe,zb2,zbc,zaz,zbf,zb1,zb3,za1,za0,zap,zbb,zbg,zb0,zax,zaw,zan,zay,zba,zdr,qS,qP,qC,zkv (l:=l++[(i:Int)]) (by simp),zff]
  try simp only[RL]at h1
  exact absurd h1 (by simp)
 try simp only[RL]at h
 obtain rfl:(zau g nh nw).length=i:=by omega
 refine W.exit ?_
 refine xe ?_
 refine xe ?_
 refine XBlock.hit ?_
 refine xn ?_
 refine W.r fun K hK=>?_
 simp(disch:=omega)only[↓RU,RW,↓reduceIte,qE,reduceCtorEq,iP,↓RS,RG,qA,qM,qL]
 apply hK;clear hK K
 refine W.ret ?_
 refine Br rfl ?_
 exact zy8
theorem zsz {p:List Txt} (hs:Sm p) (hp:zbk p=true):PC Tryz.prog 18 [zbi p] (.tup [.int .i64 (z71 p),.bool true]) true:=by
 obtain ⟨-,d2,-,d4,hg,hv,h9,-⟩:=zco hp
 obtain ⟨x,hx,hxy,hxr⟩:=zdd hs
 obtain rfl:=hxy hv
 have hC:=znl hg (rP p)
 rw [show zli _ _ _=z5g p from rfl]at hC
 have hcl:=zut hp
 have hcb:=zpz (f:=zon p.length (zag p).length) (ws:=zau (gP p) p.length (zag p).length) (k:=(zau (gP p) p.length (zag p).length).length)
 rw [show zli _ _ _=z5g p from rfl]at hcb
 refine PC.of ⟨Tryz.func18,by kernel_rfl,rfl,by kernel_rfl⟩ zav mixed (by show 1≤Tryz.f18.ntmps; decide) ?_
 refine W.r fun K hK=>?_
 simp(disch:=omega)only[↓RU,RW,↓reduceIte,qE,reduceCtorEq,iP,↓RS,RG,qA,qM,qL]
 apply hK;clear hK K
 refine W.r fun K hK=>?_
 simp(disch:=omega)only[↓RU,RW,↓reduceIte,qE,reduceCtorEq,iP,qN,↓RS,RG,qA,qM,qL,hv]
 refine zac.pc (hx) rfl (.inr rfl) ?_
 simp(disch:=omega)only[↓RU,RW,↓reduceIte,qE,reduceCtorEq,iP,qN,↓RS,RG,qA,qM,qL,hv]
 apply hK;clear hK K
 refine W.seq ?_
 refine W.r fun K hK=>?_
 simp(disch:=omega)only[↓RU,RW,↓reduceIte,qE,reduceCtorEq,iP,↓RS,RG,qA,qM,qL]
 apply hK;clear hK K
 refine W.cond rfl (fun h=>?_) (fun h=>?_)
 ·try simp only[RL]at h
  exact absurd h (by simp)
 try simp only[RL]at h
 refine W.skip ?_
 refine xn ?_
 refine W.r fun K hK=>?_
 simp(disch:=omega)only[↓RU,RW,↓reduceIte,qE,reduceCtorEq,iP,qN,↓RS,RG,qA,qM,qL,zab,zaa,hcl]
 refine zac.pc (hC) rfl (.inl rfl) ?_
 simp(disch:=omega)only[↓RU,RW,↓reduceIte,qE,reduceCtorEq,iP,qN,↓RS,RG,qA,qM,qL,zab,zaa,hcl]
 apply hK;clear hK K
 refine W.ret ?_
 refine Br rfl ?_
 rfl
theorem z0r {p:List Txt} (hs:Sm p) (hp:zbk p=true) (hc:z71 p=0):PC Tryz.prog 19 [zbi p] (.tup [.int .i64 0,.bool false]) true:=by
 obtain ⟨-,d2,-,d4,hg,hv,h9,-⟩:=zco hp
 obtain ⟨x,hx,hxy,hxr⟩:=zdd hs
 obtain rfl:=hxy hv
 have hC:=znl hg (rP p)
 rw [show zli _ _ _=z5g p from rfl]at hC
 have hcl:=zut hp
 have hcb:=zpz (f:=zon p.length (zag p).length) (ws:=zau (gP p) p.length (zag p).length) (k:=(zau (gP p) p.length (zag p).length).length)
 rw [show zli _ _ _=z5g p from rfl]at hcb
 have e0:(((z5g p).length:Int) == 0)=true:=by rw [hcl,hc]; rfl
 refine PC.of ⟨Tryz.func19,by kernel_rfl,rfl,by kernel_rfl⟩ zav mixed (by show 1≤Tryz.f19.ntmps; decide) ?_
 refine W.r fun K hK=>?_
 simp(disch:=omega)only[↓RU,RW,↓reduceIte,qE,reduceCtorEq,iP,↓RS,RG,qA,qM,qL]
 apply hK;clear hK K
 refine W.r fun K hK=>?_
 simp(disch:=omega)only[↓RU,RW,↓reduceIte,qE,reduceCtorEq,iP,qN,↓RS,RG,qA,qM,qL,hv]
 refine zac.pc (hx) rfl (.inr rfl) ?_
 simp(disch:=omega)only[↓RU,RW,↓reduceIte,qE,reduceCtorEq,iP,qN,↓RS,RG,qA,qM,qL,hv]
 apply hK;clear hK K
 refine W.seq ?_
 refine W.r fun K hK=>?_
 simp(disch:=omega)only[↓RU,RW,↓reduceIte,qE,reduceCtorEq,iP,qN,w64,↓RS,RG,qA,qM,qL,zab,zaa,e0]
 refine zac.pc (hC) rfl (.inl rfl) ?_
 simp(disch:=omega)only[↓RU,RW,↓reduceIte,qE,reduceCtorEq,iP,qN,w64,↓RS,RG,qA,qM,qL,zab,zaa,e0]
 apply hK;clear hK K
 refine W.cond rfl (fun h=>?_) (fun h=>?_)
 ·try simp only[RL]at h
  refine W.r fun K hK=>?_
  simp(disch:=omega)only[↓RU,RW,↓reduceIte,qE,reduceCtorEq,iP,↓RS,RG,qA,qM,qL]
  apply hK;clear hK K
  refine W.ret ?_
  refine XThen.ret ?_
  refine Br rfl ?_
  rfl
 try simp only[RL]at h
 exact absurd h (by simp)
theorem zw4 {p:List Txt} (hs:Sm p) (hp:zbk p=true) (hc:z71 p≠0):PC Tryz.prog 19 [zbi p] (.tup [.int .i64 (zcw (z5g p) 0),.bool true]) true:=by
 obtain ⟨-,d2,-,d4,hg,hv,h9,-⟩:=zco hp
 obtain ⟨x,hx,hxy,hxr⟩:=zdd hs
 obtain rfl:=hxy hv
 have hC:=znl hg (rP p)
 rw [show zli _ _ _=z5g p from rfl]at hC
 have hcl:=zut hp
 have hcb:=zpz (f:=zon p.length (zag p).length) (ws:=zau (gP p) p.length (zag p).length) (k:=(zau (gP p) p.length (zag p).length).length)
 rw [show zli _ _ _=z5g p from rfl]at hcb
 have e0:(((z5g p).length:Int) == 0)=false:=by rw [hcl,beq_eq_false_iff_ne]; omega
 obtain ⟨y,hy,-⟩:=zaj (show 0<(z5g p).length by omega)
 rw [zf5 hy]
 refine PC.of ⟨Tryz.func19,by kernel_rfl,rfl,by kernel_rfl⟩ zav mixed (by show 1≤Tryz.f19.ntmps; decide) ?_
 refine W.r fun K hK=>?_
 simp(disch:=omega)only[↓RU,RW,↓reduceIte,qE,reduceCtorEq,iP,↓RS,RG,qA,qM,qL]
 apply hK;clear hK K
 refine W.r fun K hK=>?_
 simp(disch:=omega)only[↓RU,RW,↓reduceIte,qE,reduceCtorEq,iP,qN,↓RS,RG,qA,qM,qL,hv]
 refine zac.pc (hx) rfl (.inr rfl) ?_
 simp(disch:=omega)only[↓RU,RW,↓reduceIte,qE,reduceCtorEq,iP,qN,↓RS,RG,qA,qM,qL,hv]
 apply hK;clear hK K
 refine W.seq ?_
 refine W.r fun K hK=>?_
 simp(disch:=omega)only[↓RU,RW,↓reduceIte,qE,reduceCtorEq,iP,qN,w64,↓RS,RG,qA,qM,qL,zab,zaa,e0]
 refine zac.pc (hC) rfl (.inl rfl) ?_
 simp(disch:=omega)only[↓RU,RW,↓reduceIte,qE,reduceCtorEq,iP,qN,w64,↓RS,RG,qA,qM,qL,zab,zaa,e0]
 apply hK;clear hK K
 refine W.cond rfl (fun h=>?_) (fun h=>?_)
 ·try simp only[RL]at h
  exact absurd h (by simp)
 try simp only[RL]at h
 refine W.skip ?_
 refine xn ?_
 refine W.r fun K hK=>?_
 simp(disch:=omega)only[↓RU,RW,↓reduceIte,qE,reduceCtorEq,iP,qN,↓RS,RG,qA,qM,qL,zab,zaa,hy,Int.toNat_zero]
 refine zac.pc (hC) rfl (.inl rfl) ?_
 simp(disch:=omega)only[↓RU,RW,↓reduceIte,qE,reduceCtorEq,iP,qN,↓RS,RG,qA,qM,qL,zab,zaa,hy,Int.toNat_zero]
 apply hK;clear hK K
 refine W.ret ?_
 refine Br rfl ?_
 rfl
theorem zjt {p:List Txt} (hs:Sm p) (hp:zbk p=true):PC Tryz.prog 16 [zbi p] (.tup [.int .i64 (crs (zaf p) p.length (zag p).length),.bool true]) true:=by
 obtain ⟨-,d2,-,d4,hg,hv,h9,-⟩:=zco hp
 obtain ⟨x,hx,hxy,hxr⟩:=zdd hs
 obtain rfl:=hxy hv
 have hX:=zy0 hg (rP p) 4
 rw [yah hp]at hX
 refine PC.of ⟨Tryz.func16,by kernel_rfl,rfl,by kernel_rfl⟩ zav mixed (by show 1≤Tryz.f16.ntmps; decide) ?_
 refine W.r fun K hK=>?_
 simp(disch:=omega)only[↓RU,RW,↓reduceIte,qE,reduceCtorEq,iP,↓RS,RG,qA,qM,qL]
 apply hK;clear hK K
 refine W.r fun K hK=>?_
 simp(disch:=omega)only[↓RU,RW,↓reduceIte,qE,reduceCtorEq,iP,qN,↓RS,RG,qA,qM,qL,hv]
 refine zac.pc (hx) rfl (.inr rfl) ?_
 simp(disch:=omega)only[↓RU,RW,↓reduceIte,qE,reduceCtorEq,iP,qN,↓RS,RG,qA,qM,qL,hv]
 apply hK;clear hK K
 refine W.seq ?_
 refine W.r fun K hK=>?_
 simp(disch:=omega)only[↓RU,RW,↓reduceIte,qE,reduceCtorEq,iP,↓RS,RG,qA,qM,qL]
 apply hK;clear hK K
 refine W.cond rfl (fun h=>?_) (fun h=>?_)
 ·try simp only[RL]at h
  exact absurd h (by simp)
 try simp only[RL]at h
 refine W.skip ?_
 refine xn ?_
 refine W.r fun K hK=>?_
 simp(disch:=omega)only[↓RU,RW,↓reduceIte,qE,reduceCtorEq,iP,qN,↓RS,RG,qA,qM,qL]
 refine zac.pc (hX) rfl (.inl rfl) ?_
 simp(disch:=omega)only[↓RU,RW,↓reduceIte,qE,reduceCtorEq,iP,qN,↓RS,RG,qA,qM,qL]
 apply hK;clear hK K
 refine W.ret ?_
 refine Br rfl ?_
 rfl
theorem zyu {p:List Txt} (hs:Sm p):PC Tryz.prog 5 [zbi p] (.bool (zbk p)) true:=by
 obtain ⟨x,hx,hxy,hxr⟩:=zdd hs
 rw [zc3]at hx
 refine PC.of ⟨Tryz.func5,by kernel_rfl,rfl,by kernel_rfl⟩ zav mixed (by show 1≤Tryz.f5.ntmps; decide) ?_
 refine W.r fun K hK=>?_
 simp(disch:=omega)only[↓RU,RW,↓reduceIte,qE,reduceCtorEq,iP,↓RS,RG,qA,qM,qL]
 apply hK;clear hK K
 refine W.r fun K hK=>?_
 simp(disch:=omega)only[↓RU,RW,↓reduceIte,qE,reduceCtorEq,iP,qN,↓RS,RG,qA,qM,qL]
 refine zac.pc (hx) rfl (.inr rfl) ?_
 simp(disch:=omega)only[↓RU,RW,↓reduceIte,qE,reduceCtorEq,iP,qN,↓RS,RG,qA,qM,qL]
 apply hK;clear hK K
 refine W.r fun K hK=>?_
 simp(disch:=omega)only[↓RU,RW,↓reduceIte,qE,reduceCtorEq,iP,↓RS,RG,qA,qM,qL]
 apply hK;clear hK K
 refine W.ret ?_
 refine Br rfl ?_
 rfl
theorem zyv {p:List Txt} (hs:Sm p) (hv:zeb p=false):PC Tryz.prog 6 [zbi p] (.tup [.int .i64 0,.bool false]) true:=by
 obtain ⟨x,hx,hxy,hxr⟩:=zdd hs
 rw [hv]at hx
 refine PC.of ⟨Tryz.func6,by kernel_rfl,rfl,by kernel_rfl⟩ zav mixed (by show 1≤Tryz.f6.ntmps; decide) ?_
 refine W.r fun K hK=>?_
 simp(disch:=omega)only[↓RU,RW,↓reduceIte,qE,reduceCtorEq,iP,↓RS,RG,qA,qM,qL]
 apply hK;clear hK K
 refine W.r fun K hK=>?_
 simp(disch:=omega)only[↓RU,RW,↓reduceIte,qE,reduceCtorEq,iP,qN,↓RS,RG,qA,qM,qL]
 refine zac.pc (hx) rfl (.inr rfl) ?_
 simp(disch:=omega)only[↓RU,RW,↓reduceIte,qE,reduceCtorEq,iP,qN,↓RS,RG,qA,qM,qL]
 apply hK;clear hK K
 refine W.seq ?_
 refine W.r fun K hK=>?_
 simp(disch:=omega)only[↓RU,RW,↓reduceIte,qE,reduceCtorEq,iP,↓RS,RG,qA,qM,qL]
 apply hK;clear hK K
 refine W.cond rfl (fun h=>?_) (fun h=>?_)
 ·try simp only[RL]at h
  refine W.r fun K hK=>?_
  simp(disch:=omega)only[↓RU,RW,↓reduceIte,qE,reduceCtorEq,iP,↓RS,RG,qA,qM,qL]
  apply hK;clear hK K
  refine W.ret ?_
  refine XThen.ret ?_
  refine Br rfl ?_
  rfl
 try simp only[RL]at h
 exact absurd h (by simp)
theorem z6g {p:List Txt} (hs:Sm p) (hv:zeb p=false) {f:FuncId} {cap:List PV} (hc:∀ (S:Store) (k:Nat),cap.mapM (reify S true (k+1))=some cap):PC Tryz.prog 33 [zbi p,.fn f cap] (.tup [zbi [],.bool false]) false:=by
 obtain ⟨x,hx,hxy,hxr⟩:=zdd hs
 rw [hv]at hx
 refine PC.of ⟨Tryz.func33,by kernel_rfl,rfl,by kernel_rfl⟩ zav mixed (by show 2≤Tryz.f33.ntmps; decide) ?_
 refine W.r fun K hK=>?_
 simp(disch:=omega)only[↓RU,RW,↓reduceIte,qE,reduceCtorEq,iP,↓RS,RG,qA,qM,qL]
 apply hK;clear hK K
 refine W.r fun K hK=>?_
 simp(disch:=omega)only[↓RU,RW,↓reduceIte,qE,reduceCtorEq,iP,qN,↓RS,RG,qA,qM,qL]
 refine zac.pc (hx) rfl (.inr rfl) ?_
 simp(disch:=omega)only[↓RU,RW,↓reduceIte,qE,reduceCtorEq,iP,qN,↓RS,RG,qA,qM,qL]
 apply hK;clear hK K
 refine W.seq ?_
 refine W.r fun K hK=>?_
 simp(disch:=omega)only[↓RU,RW,↓reduceIte,qE,reduceCtorEq,iP,↓RS,RG,qA,qM,qL]
 apply hK;clear hK K
 refine W.cond rfl (fun h=>?_) (fun h=>?_)
 ·try simp only[RL]at h
  refine W.r fun K hK=>?_
  simp(disch:=omega)only[↓RU,RW,↓reduceIte,qE,reduceCtorEq,iP,↓RS,RG,qA,qM,qL]
  apply hK;clear hK K
  refine W.ret ?_
  refine XThen.ret ?_
  refine Br rfl ?_
  rfl
 try simp only[RL]at h
 exact absurd h (by simp)
theorem zyx {p:List Txt} (hs:Sm p) (hp:zbk p=true):PC Tryz.prog 14 [zbi p] (.tup [zbi (nm (yb3 p)),.bool true]) false:=by
 obtain ⟨-,-,-,-,hg,hf,-,-⟩:=zco hp
 have hm:=z41 hp
 refine PC.of ⟨Tryz.func14,by kernel_rfl,rfl,by kernel_rfl⟩ zav mixed (by show 1≤Tryz.f14.ntmps; decide) ?_
 refine W.r fun K hK=>?_
 simp(disch:=omega)only[↓RU,RW,↓reduceIte,qE,reduceCtorEq,iP,↓RS,RG,qA,qM,qL]
 apply hK;clear hK K
 refine W.r fun K hK=>?_
 simp(disch:=omega)only[↓RU,RW,↓reduceIte,qE,reduceCtorEq,iP,qN,↓RS,RG,qA,qM,qL]
 refine zac.pc (zrm (cap:=[]) hs hf (fun _ _=>rfl) hm.gw hm.ok hm.full (z5f hg (rP p))) rfl (.inr rfl) ?_
 simp(disch:=omega)only[↓RU,RW,↓reduceIte,qE,reduceCtorEq,iP,qN,↓RS,RG,qA,qM,qL]
 apply hK;clear hK K
 refine W.ret ?_
 refine Br rfl ?_
 rfl
theorem zmq {p:List Txt} (hs:Sm p) (hp:zbk p=true):PC Tryz.prog 10 [zbi p] (.tup [zbi (nm (yi5 p)),.bool true]) false:=by
 obtain ⟨-,-,-,-,hg,hf,-,-⟩:=zco hp
 have hm:=yb4 hp
 refine PC.of ⟨Tryz.func10,by kernel_rfl,rfl,by kernel_rfl⟩ zav mixed (by show 1≤Tryz.f10.ntmps; decide) ?_
 refine W.r fun K hK=>?_
 simp(disch:=omega)only[↓RU,RW,↓reduceIte,qE,reduceCtorEq,iP,↓RS,RG,qA,qM,qL]
 apply hK;clear hK K
 refine W.r fun K hK=>?_
 simp(disch:=omega)only[↓RU,RW,↓reduceIte,qE,reduceCtorEq,iP,qN,↓RS,RG,qA,qM,qL]
 refine zac.pc (zrm (cap:=[]) hs hf (fun _ _=>rfl) hm.gw hm.ok hm.full (yb5 hg (rP p))) rfl (.inr rfl) ?_
 simp(disch:=omega)only[↓RU,RW,↓reduceIte,qE,reduceCtorEq,iP,qN,↓RS,RG,qA,qM,qL]
 apply hK;clear hK K
 refine W.ret ?_
 refine Br rfl ?_
 rfl
theorem zyt {p:List Txt} (hs:Sm p) (hp:zbk p=true):PC Tryz.prog 13 [zbi p] (.tup [zbi (nm (yhe p)),.bool true]) false:=by
 obtain ⟨-,-,-,-,hg,hf,-,-⟩:=zco hp
 have hm:=z8i hp
 refine PC.of ⟨Tryz.func13,by kernel_rfl,rfl,by kernel_rfl⟩ zav mixed (by show 1≤Tryz.f13.ntmps; decide) ?_
 refine W.r fun K hK=>?_
 simp(disch:=omega)only[↓RU,RW,↓reduceIte,qE,reduceCtorEq,iP,↓RS,RG,qA,qM,qL]
 apply hK;clear hK K
 refine W.r fun K hK=>?_
 simp(disch:=omega)only[↓RU,RW,↓reduceIte,qE,reduceCtorEq,iP,qN,↓RS,RG,qA,qM,qL]
 refine zac.pc (zrm (cap:=[]) hs hf (fun _ _=>rfl) hm.gw hm.ok hm.full (z5m hg (rP p))) rfl (.inr rfl) ?_
 simp(disch:=omega)only[↓RU,RW,↓reduceIte,qE,reduceCtorEq,iP,qN,↓RS,RG,qA,qM,qL]
 apply hK;clear hK K
 refine W.ret ?_
 refine Br rfl ?_
 rfl
theorem zyy {p:List Txt} (hs:Sm p) (hp:zbk p=false):PC Tryz.prog 10 [zbi p] (.tup [zbi [],.bool false]) false:=by
 have hf:=hp
 rw [← zc3]at hf
 refine PC.of ⟨Tryz.func10,by kernel_rfl,rfl,by kernel_rfl⟩ zav mixed (by show 1≤Tryz.f10.ntmps; decide) ?_
 refine W.r fun K hK=>?_
 simp(disch:=omega)only[↓RU,RW,↓reduceIte,qE,reduceCtorEq,iP,↓RS,RG,qA,qM,qL]
 apply hK;clear hK K
 refine W.r fun K hK=>?_
 simp(disch:=omega)only[↓RU,RW,↓reduceIte,qE,reduceCtorEq,iP,qN,↓RS,RG,qA,qM,qL]
 refine zac.pc (z6g (cap:=[]) hs hf (fun _ _=>rfl)) rfl (.inr rfl) ?_
 simp(disch:=omega)only[↓RU,RW,↓reduceIte,qE,reduceCtorEq,iP,qN,↓RS,RG,qA,qM,qL]
 apply hK;clear hK K
 refine W.ret ?_
 refine Br rfl ?_
 rfl
def ybr (p:List Txt):List Int:=match ze1 (zaf p) (zf1 p) with | some s=>rms (rP p) s.rect | none=>[]
theorem zuu {p:List Txt} (hp:zbk p=true):zur p=cbP p:=by unfold zur cbP; rw [hp]; rfl
theorem z70 {p t:List Txt} (h:Turn p t):zur t=zur p:=by rw [zuu h.plan,zuu h.src,yg1 h]
theorem z0s {p:List Txt} (hs:Sm p) (hp:zbk p=true):PC Tryz.prog 17 [zbi p] (.tup [eInts (ybr p),.bool (!zur p)]) false:=by
 obtain ⟨-,d2,-,d4,hg,hv,h9,-⟩:=zco hp
 obtain ⟨x,hx,hxy,hxr⟩:=zdd hs
 obtain rfl:=hxy hv
 have hW:=zne hp
 have hS:=z4y hp _ (t:=zf1 p) (qR _) hW
 have hst:(ze1 (zaf p) (zf1 p)).isSome=(!zur p):=by
  rw [zn9 (z:=zaf p) (t:=zf1 p) _ hW.inn (qR _),zuu hp]
  show (zck (zaf p) (zf1 p)).isNone = !(zck (zaf p) (zf1 p)).isSome
  cases zck (zaf p) (zf1 p) <;> rfl
 obtain ⟨row0,hrow0,hrl0,-⟩:=hg.at_ (i:=0) (j:=0) (by have:=hg.2.2.1; omega) (by have:=hg.2.2.2.2.1; omega)
 have hwo:=z48 hrow0 (rP p)
 rw [hrl0,hg.1]at hwo
 obtain ⟨hn9,hfit⟩:=zg4 hp
 rw [← hst]
 refine PC.of ⟨Tryz.func17,by kernel_rfl,rfl,by kernel_rfl⟩ zav mixed (by show 1≤Tryz.f17.ntmps; decide) ?_
 refine W.r fun K hK=>?_
 simp(disch:=omega)only[↓RU,RW,↓reduceIte,qE,reduceCtorEq,iP,↓RS,RG,qA,qM,qL]
 apply hK;clear hK K
 refine W.r fun K hK=>?_
 simp(disch:=omega)only[↓RU,RW,↓reduceIte,qE,reduceCtorEq,iP,qN,↓RS,RG,qA,qM,qL,hv]
 refine zac.pc (hx) rfl (.inr rfl) ?_
 simp(disch:=omega)only[↓RU,RW,↓reduceIte,qE,reduceCtorEq,iP,qN,↓RS,RG,qA,qM,qL,hv]
 apply hK;clear hK K
 refine W.seq ?_
 refine W.r fun K hK=>?_
 simp(disch:=omega)only[↓RU,RW,↓reduceIte,qE,reduceCtorEq,iP,↓RS,RG,qA,qM,qL]
 apply hK;clear hK K
 refine W.cond rfl (fun h=>?_) (fun h=>?_)
 ·try simp only[RL]at h
  exact absurd h (by simp)
 try simp only[RL]at h
 refine W.skip ?_
 refine xn ?_
 refine W.r fun K hK=>?_
 rcases hq:ze1 (zaf p) (zf1 p) with _ | s
 ·skip
  rw [hq]at hS
  simp only[yer]at hS
  simp(disch:=omega)only[↓RU,RW,↓reduceIte,qE,reduceCtorEq,iP,qN,↓RS,RG,qA,qM,qL,ty7,zbr,za7,zaa,zbs,za8]
  refine zac.pc (hwo) rfl (.inr rfl) ?_
  simp(disch:=omega)only[↓RU,RW,↓reduceIte,qE,reduceCtorEq,iP,qN,↓RS,RG,qA,qM,qL,ty7,zbr,za7,zaa,zbs,za8]
  refine zac.pc (hS) rfl (.inr rfl) ?_
  simp(disch:=omega)only[↓RU,RW,↓reduceIte,qE,reduceCtorEq,iP,qN,↓RS,RG,qA,qM,qL,ty7,zbr,za7,zaa,zbs,za8]
  apply hK;clear hK K
  refine W.seq ?_
  refine W.r fun K hK=>?_
  simp(disch:=omega)only[↓RU,RW,↓reduceIte,qE,reduceCtorEq,iP,↓RS,RG,qA,qM,qL]
  apply hK;clear hK K
  refine W.cond rfl (fun h1=>?_) (fun h1=>?_)
  ·try simp only[RL]at h1
   refine W.r fun K hK=>?_
   simp(disch:=omega)only[↓RU,RW,↓reduceIte,qE,reduceCtorEq,iP,↓RS,RG,qA,qM,qL]
   apply hK;clear hK K
   refine W.ret ?_
   refine XThen.ret ?_
   refine Br rfl ?_
   unfold ybr
   rw [hq]
   rfl
  try simp only[RL]at h1
  exact absurd h1 (by simp)
 skip
 rw [hq]at hS
 simp only[yer,zfb,Pt.rect,Rect.cells]at hS
 have hw2:=(zlf (ze3 hp) _ hW (qR _) hq).1
 have hL:=zvb (gP p) (by omega) hfit (zpn hp hw2.inn)
 simp only[zfb,Pt.rect,Rect.cells]at hL
 simp(disch:=omega)only[↓RU,RW,↓reduceIte,qE,reduceCtorEq,iP,qN,↓RS,RG,qA,qM,qL,ty7,zbr,za7,zaa,zbs,za8]
 refine zac.pc (hwo) rfl (.inr rfl) ?_
 simp(disch:=omega)only[↓RU,RW,↓reduceIte,qE,reduceCtorEq,iP,qN,↓RS,RG,qA,qM,qL,ty7,zbr,za7,zaa,zbs,za8]
 refine zac.pc (hS) rfl (.inr rfl) ?_
 simp(disch:=omega)only[↓RU,RW,↓reduceIte,qE,reduceCtorEq,iP,qN,↓RS,RG,qA,qM,qL,ty7,zbr,za7,zaa,zbs,za8]
 apply hK;clear hK K
 refine W.seq ?_
 refine W.r fun K hK=>?_
 simp(disch:=omega)only[↓RU,RW,↓reduceIte,qE,reduceCtorEq,iP,↓RS,RG,qA,qM,qL]
 apply hK;clear hK K
 refine W.cond rfl (fun h1=>?_) (fun h1=>?_)
 ·try simp only[RL]at h1
  exact absurd h1 (by simp)
 try simp only[RL]at h1
 refine W.skip ?_
 refine xn ?_
 refine W.r fun K hK=>?_
 simp(disch:=omega)only[↓RU,RW,↓reduceIte,qE,reduceCtorEq,iP,qN,↓RS,RG,qA,qM,qL,ty7,zbr,za7,zaa,zbs,za8]
 refine zac.pc (hL) rfl (.inl rfl) ?_
 simp(disch:=omega)only[↓RU,RW,↓reduceIte,qE,reduceCtorEq,iP,qN,↓RS,RG,qA,qM,qL,ty7,zbr,za7,zaa,zbs,za8]
 apply hK;clear hK K
 refine W.ret ?_
 refine Br rfl ?_
 unfold ybr
 rw [hq]
 rfl
def zvc (text:Txt):Nat→List Txt × Nat
 | 0=>([],0)
 | i+1=>let s:=zvc text i; if text[i]?=some 10 then (s.1++[(text.take i).drop s.2],i+1) else s
def z3e (text:Txt):List Txt:=(zvc text text.length).1
theorem zq2 {text:Txt} {i:Nat}:zvc text (i+1)=if text[i]?=some 10 then ((zvc text i).1++[(text.take i).drop (zvc text i).2],i+1) else zvc text i:=rfl
theorem z9g {text:Txt}:∀ {i:Nat},i≤text.length→(zvc text i).1.length≤i∧(zvc text i).2≤i∧∀ r∈(zvc text i).1,r.length≤text.length
 | 0,_=>by simp [zvc]
 | i+1,h=>by
  obtain ⟨h1,h2,h3⟩:=z9g (text:=text) (i:=i) (by omega)
  rw [zq2]
  split
  ·refine ⟨by simp; omega,qR _,fun r hr=>?_⟩
   rcases List.mem_append.1 hr with hr | hr
   ·exact h3 r hr
   simp only[List.mem_singleton]at hr; subst hr; simp; omega
  exact ⟨by omega,by omega,h3⟩
theorem ydr {text:Txt} (h:text.length≤2147483647):Sm (z3e text):=by
 obtain ⟨h1,-,h3⟩:=z9g (text:=text) (qR _)
 exact ⟨by unfold z3e; omega,fun r hr=>by have:=h3 r hr; omega⟩
theorem yds {text:Txt} {i:Nat} (h:text[i]?=some 10):zvc text (i+1)=((zvc text i).1++[(text.take i).drop (zvc text i).2],i+1):=by
 rw [zq2,if_pos h]
theorem yh0 {text:Txt} {i:Nat} {c:UInt8} (h:text[i]?=some c) (hc:¬ (c.toNat:Int)=10):zvc text (i+1)=zvc text i:=by
 have:¬ text[i]?=some 10:=by rw [h]; intro e; cases e; exact hc rfl
 rw [zq2,if_neg this]
theorem z5v {text:Txt} (ht:text.length≤2147483647):PC Tryz.prog 4 [.str text] (zbi (z3e text)) true:=by
 refine PC.of ⟨Tryz.func4,by kernel_rfl,rfl,by kernel_rfl⟩ zav mixed (by show 1≤Tryz.f4.ntmps; decide) ?_
 refine W.r fun K hK=>?_
 simp(disch:=omega)only[↓RU,RW,↓reduceIte,qE,reduceCtorEq,iP,↓RS,RG,qA,qM,qL]
 apply hK;clear hK K
 refine W.r fun K hK=>?_
 simp(disch:=omega)only[↓RU,RW,↓reduceIte,qE,reduceCtorEq,iP,↓RS,RG,qA,qM,qL,ty5,zal]
 apply hK;clear hK K
 refine W.r fun K hK=>?_
 simp(disch:=omega)only[↓RU,RW,↓reduceIte,qE,reduceCtorEq,iP,↓RS,RG,qA,qM,qL]
 apply hK;clear hK K
 refine W.seq ?_
 refine W.r fun K hK=>?_
 simp(disch:=omega)only[↓RU,RW,↓reduceIte,qE,reduceCtorEq,iP,↓RS,RG,qA,qM,qL]
 apply hK;clear hK K
 refine W.block ?_
 refine W.loop [0,3,4,5] (fun n vs S=>∃ i v tk:Nat,n=text.length - i∧i≤text.length∧vs=[.str text,.loc 0 v 0 (zvc text i).1.length,.int .i64 (zvc text i).2,.int .i64 i]∧S=⟨[.arr v 9 1 ((zvc text i).1.map .str)],tk⟩) text.length ?_ ?_
 ·refine ⟨1,0,0,1,rfl,Nat.zero_le _,?_,rfl⟩
  simp [Env.put,Env.of,zai,zvc]
 rintro n vs S - ⟨i,v,tk,rfl,h_i,rfl,rfl⟩
 refine W.seq ?_
 refine W.r fun K hK=>?_
 simp(disch:=omega)only[↓RU,RW,↓reduceIte,qE,reduceCtorEq,iP,w64,↓RS,RG,qA,qM,qL,zaa,zal]
 apply hK;clear hK K
 refine W.cond rfl (fun h=>?_) (fun h=>?_)
 ·try simp only[RL]at h
  obtain ⟨c,hc,-⟩:=zaj (show i<text.length by omega)
  obtain ⟨hb1,hb2,-⟩:=z9g (text:=text) h_i
  refine W.skip ?_
  refine xn ?_
  refine W.seq ?_
  refine W.block ?_
  refine W.r fun K hK=>?_
  simp(disch:=omega)only[↓RU,RW,↓reduceIte,qE,reduceCtorEq,iP,w64,↓RS,RG,qA,qM,qL,zal,zhv,hc]
  apply hK;clear hK K
  refine W.cond rfl (fun h1=>?_) (fun h1=>?_)
  ·try simp only[RL]at h1
   have hc10:text[i]?=some 10:=by rw [hc]; congr 1; exact UInt8.toNat_inj.1 (by simpa using Int.ofNat_inj.1 (show ((c.toNat:Nat):Int)=((10:Nat):Int) from h1))
   refine W.r fun K hK=>?_
   simp(disch:=omega)only[↓RU,RW,↓reduceIte,qE,reduceCtorEq,iP,Option.map_none,↓RS,RG,qA,qM,qL,ty5,zal]
   apply hK;clear hK K
   refine W.k fun K hK=>?_
   simp(disch:=omega)only[↓RU,RW,↓reduceIte,qE,reduceCtorEq,iP,w64,↓RS,RG,qA,qM,qL,zaa]
   apply hK;clear hK K
   refine XbN ?_
   refine xn ?_
   refine W.k fun K hK=>?_
   simp(disch:=omega)only[↓RU,RW,↓reduceIte,qE,reduceCtorEq,iP,w64,↓RS,RG,qA,qM,qL,zaa]
   apply hK;clear hK K
   refine xn ?_
   refine ⟨text.length - (i+1),by omega,1,i+1,tk+1,tk+2,rfl,by omega,?_,?_⟩
   all_goals rw [yds hc10]
   all_goals simp [Env.put,Env.of,zcs]
  ·try simp only[RL]at h1
   refine W.skip ?_
   refine XbN ?_
   refine xn ?_
   refine W.k fun K hK=>?_
   simp(disch:=omega)only[↓RU,RW,↓reduceIte,qE,reduceCtorEq,iP,w64,↓RS,RG,qA,qM,qL,zaa]
   apply hK;clear hK K
   refine xn ?_
   refine ⟨text.length - (i+1),by omega,1,i+1,v,tk,rfl,by omega,?_,?_⟩
   all_goals rw [yh0 hc h1]
   all_goals simp [Env.put,Env.of,zcs]
 try simp only[RL]at h
 obtain rfl:i=text.length:=by omega
 refine W.exit ?_
 refine xe ?_
 refine xe ?_
 refine XBlock.hit ?_
 refine xn ?_
 refine W.r fun K hK=>?_
 simp(disch:=omega)only[↓RU,RW,↓reduceIte,qE,reduceCtorEq,iP,↓RS,RG,qA,qM,qL]
 apply hK;clear hK K
 refine W.ret ?_
 refine Br rfl ?_
 exact zce (k:=9) rfl (by simp) (zii _)
section
section
variable {p:List Txt} {room:Int} {s:Txt} {t l h w k:Nat}
end
end
theorem ykb {p:List Txt}:z1f (gP p) p.length (w0 (zbm p)) (rP p).length=lfM p:=by rw [zfy]; rfl
theorem yjk {p:List Txt}:zp1 (gP p) p.length (w0 (zbm p)) (rP p).length=abM p:=by rw [zfy]; rfl
theorem yf3 {p:List Txt} (h:zdx p=true):Sq (rP p).length (lfM p):=by
 obtain ⟨-,⟨_,hu⟩,-⟩:=zvp h
 rw [ykb]at hu; exact hu.sq
theorem yff {p:List Txt} (h:zdx p=true):Sq (rP p).length (abM p):=by
 obtain ⟨-,-,⟨_,hu⟩⟩:=zvp h
 rw [yjk]at hu; exact hu.sq
theorem z1k {p:List Txt} (hs:Sm p) (hv:zdx p=false):PC Tryz.prog 46 [zbi p] (.tup [.agg [.sl [] 0,.sl [] 0],.bool false]) false:=by
 obtain ⟨x,hx,hxy,hxr⟩:=znz hs
 refine PC.of ⟨Tryz.func46,by kernel_rfl,rfl,by kernel_rfl⟩ zav mixed (by show 1≤Tryz.f46.ntmps; decide) ?_
 refine W.r fun K hK=>?_
 simp(disch:=omega)only[↓RU,RW,↓reduceIte,qE,reduceCtorEq,iP,↓RS,RG,qA,qM,qL,ty0,ty2,zad,zg1,ze6,zg2]
 apply hK;clear hK K
 refine W.r fun K hK=>?_
 simp(disch:=omega)only[↓RU,RW,↓reduceIte,qE,reduceCtorEq,iP,qN,↓RS,RG,qA,qM,qL,hv]
 refine zac.pc (hx) rfl (.inr rfl) ?_
 simp(disch:=omega)only[↓RU,RW,↓reduceIte,qE,reduceCtorEq,iP,qN,↓RS,RG,qA,qM,qL,hv]
 apply hK;clear hK K
 refine W.seq ?_
 refine W.r fun K hK=>?_
 simp(disch:=omega)only[↓RU,RW,↓reduceIte,qE,reduceCtorEq,iP,↓RS,RG,qA,qM,qL]
 apply hK;clear hK K
 refine W.cond rfl (fun h=>?_) (fun h=>?_)
 ·try simp only[RL]at h
  refine W.r fun K hK=>?_
  simp(disch:=omega)only[↓RU,RW,↓reduceIte,qE,reduceCtorEq,iP,↓RS,RG,qA,qM,qL,ty0,ty2,zad,zg1,ze6,zg2]
  apply hK;clear hK K
  refine W.ret ?_
  refine XThen.ret ?_
  refine Br rfl ?_
  rfl
 try simp only[RL]at h
 exact absurd h (by simp)
theorem zyc {p:List Txt} (hs:Sm p) (hv:zdx p=true):PC Tryz.prog 46 [zbi p] (.tup [(.agg [zhn (lfM p),zhn (abM p)]),.bool true]) false:=by
 obtain ⟨x,hx,hxy,hxr⟩:=znz hs
 obtain rfl:=hxy hv
 obtain ⟨hrm,-,-⟩:=zvp hv
 have hok:=(zri hv).1
 have hg:=zx8 hok
 have hn9:=zmg hok
 have hn1:=znw hok
 refine PC.of ⟨Tryz.func46,by kernel_rfl,rfl,by kernel_rfl⟩ zav mixed (by show 1≤Tryz.f46.ntmps; decide) ?_
 refine W.r fun K hK=>?_
 simp(disch:=omega)only[↓RU,RW,↓reduceIte,qE,reduceCtorEq,iP,↓RS,RG,qA,qM,qL,ty0,ty2,zad,zg1,ze6,zg2]
 apply hK;clear hK K
 refine W.r fun K hK=>?_
 simp(disch:=omega)only[↓RU,RW,↓reduceIte,qE,reduceCtorEq,iP,qN,↓RS,RG,qA,qM,qL,hv]
 refine zac.pc (hx) rfl (.inr rfl) ?_
 simp(disch:=omega)only[↓RU,RW,↓reduceIte,qE,reduceCtorEq,iP,qN,↓RS,RG,qA,qM,qL,hv]
 apply hK;clear hK K
 refine W.seq ?_
 refine W.r fun K hK=>?_
 simp(disch:=omega)only[↓RU,RW,↓reduceIte,qE,reduceCtorEq,iP,↓RS,RG,qA,qM,qL]
 apply hK;clear hK K
 refine W.cond rfl (fun h=>?_) (fun h=>?_)
 ·try simp only[RL]at h
  exact absurd h (by simp)
 try simp only[RL]at h
 refine W.skip ?_
 refine xn ?_
 refine W.r fun K hK=>?_
 simp(disch:=omega)only[↓RU,RW,↓reduceIte,qE,reduceCtorEq,iP,qN,↓RS,RG,qA,qM,qL,ty0,ty2,zad,zg1,ze6,zg2]
 refine zac.pc (z91 hg rfl hn9 hrm) rfl (.inl rfl) ?_
 simp(disch:=omega)only[↓RU,RW,↓reduceIte,qE,reduceCtorEq,iP,qN,↓RS,RG,qA,qM,qL,ty0,ty2,zad,zg1,ze6,zg2]
 apply hK;clear hK K
 refine W.ret ?_
 refine Br rfl ?_
 rw [ykb,yjk]
 rfl
theorem zyw {p:List Txt} (hs:Sm p) (hv:zeb p=true):PC Tryz.prog 6 [zbi p] (.tup [.int .i64 (rP p).length,.bool true]) true:=by
 obtain ⟨x,hx,hxy,hxr⟩:=zdd hs
 obtain rfl:=hxy hv
 refine PC.of ⟨Tryz.func6,by kernel_rfl,rfl,by kernel_rfl⟩ zav mixed (by show 1≤Tryz.f6.ntmps; decide) ?_
 refine W.r fun K hK=>?_
 simp(disch:=omega)only[↓RU,RW,↓reduceIte,qE,reduceCtorEq,iP,↓RS,RG,qA,qM,qL]
 apply hK;clear hK K
 refine W.r fun K hK=>?_
 simp(disch:=omega)only[↓RU,RW,↓reduceIte,qE,reduceCtorEq,iP,qN,↓RS,RG,qA,qM,qL,hv]
 refine zac.pc (hx) rfl (.inr rfl) ?_
 simp(disch:=omega)only[↓RU,RW,↓reduceIte,qE,reduceCtorEq,iP,qN,↓RS,RG,qA,qM,qL,hv]
 apply hK;clear hK K
 refine W.seq ?_
 refine W.r fun K hK=>?_
 simp(disch:=omega)only[↓RU,RW,↓reduceIte,qE,reduceCtorEq,iP,↓RS,RG,qA,qM,qL]
 apply hK;clear hK K
 refine W.cond rfl (fun h=>?_) (fun h=>?_)
 ·try simp only[RL]at h
  exact absurd h (by simp)
 try simp only[RL]at h
 refine W.skip ?_
 refine xn ?_
 refine W.r fun K hK=>?_
 simp(disch:=omega)only[↓RU,RW,↓reduceIte,qE,reduceCtorEq,iP,↓RS,RG,qA,qM,qL,ty1,ty3,zab,zeo,zcl,za7,zaa,zep,za8,zbw]
 apply hK;clear hK K
 refine W.ret ?_
 refine Br rfl ?_
 rfl
theorem z5r {F R:List Ob} {ver t:Nat} {l:List Int} {f:FuncId} {cs:List PV} {cm:Int→Int→Int} {g:Int→Int} (hf:∀ x y,x∈l→y∈l→PC Tryz.prog f [.int .i64 x,.int .i64 y,.ip cs 0] (.int .i64 (cm x y)) true) (hg:∀ x y,x∈l→y∈l→(cm x y<0↔g x<g y)) (hl:l.length<2147483648) (h1:1≤l.length):Ev Tryz.prog 136 [.loc F.length ver 0 l.length,.int .i64 0,.int .i64 l.length,.fn f [.ip cs 0]] ⟨F ++ .arr ver 3 1 (l.map (.int .i64))::R,t⟩ fun v S=>v = .tup []∧∃ z:List Int,z.Perm l∧(z.map g).Pairwise (· ≤ ·)∧S=⟨F ++ .arr ver 3 1 (z.map (.int .i64))::R,t⟩:=by
 refine Ev.of ⟨Tryz.func136,by kernel_rfl,rfl,by kernel_rfl⟩ zav mixed (by show 4≤Tryz.f136.ntmps; decide) ?_
 refine W.r fun K hK=>?_
 simp(disch:=omega)only[↓RU,RW,↓reduceIte,qE,reduceCtorEq,iP,w64,↓RS,RG,qA,qM,qL,zaa,gF,zd3]
 apply hK;clear hK K
 refine W.block ?_
 refine W.loop [0,1,2,3,8] (fun n vs S=>∃ (i:Nat) (c:List Int),n=l.length - i∧1≤i∧i≤l.length∧c.Perm l∧Ord (c.map g) i∧vs=[.loc F.length ver 0 l.length,.int .i64 0,.int .i64 l.length,.fn f [.ip cs 0],.int .i64 i]∧S=⟨F ++ .arr ver 3 1 (c.map (.int .i64))::R,t⟩) (l.length - 1) ?_ ?_
 ·refine ⟨_,1,l,rfl,qR _,h1,List.Perm.refl _,Ord.one _,?_,zbh⟩
  simp [Env.put,Env.of,zai]
 rintro n vs S - ⟨i,c,rfl,hi1,h_i,hp,ho,rfl,rfl⟩
 refine W.seq ?_
 refine W.r fun K hK=>?_
 simp(disch:=omega)only[↓RU,RW,↓reduceIte,qE,reduceCtorEq,iP,w64,↓RS,RG,qA,qM,qL,zaa,gF,zd3]
 apply hK;clear hK K
 refine W.cond rfl (fun h=>?_) (fun h=>?_)
 ·try simp only[RL]at h
  refine W.skip ?_
  refine xn ?_
  refine W.seq ?_
  refine W.block ?_
  refine W.r fun K hK=>?_
  simp(disch:=omega)only[↓RU,RW,↓reduceIte,qE,reduceCtorEq,iP,↓RS,RG,qA,qM,qL,gF,zd3]
  apply hK;clear hK K
  refine W.block ?_
  refine W.loop [0,1,2,3,8,9] (fun n vs S=>∃ (j:Nat) (d:List Int),n=j+1∧j≤i∧d.Perm l∧yci (d.map g) j i∧vs=[.loc F.length ver 0 l.length,.int .i64 0,.int .i64 l.length,.fn f [.ip cs 0],.int .i64 i,.int .i64 j]∧S=⟨F ++ .arr ver 3 1 (d.map (.int .i64))::R,t⟩) (i+1) ?_ ?_
  ·refine ⟨_,i,c,rfl,qR _,hp,ho.ins,?_,zbh⟩
   simp [Env.put,Env.of]
  rintro n vs S - ⟨j,d,rfl,h_j,hq,hO,rfl,rfl⟩
  refine W.seq ?_
  refine W.seq_draw (by kernel_rfl) fun K hK=>?_
  cases hd:decide ((j:Int)>0)
  ·skip
   obtain rfl:j=0:=by simpa using hd
   simp(disch:=omega)only[↓RU,RW,↓reduceIte,qE,reduceCtorEq,iP,w64,qN,↓RS,RG,qA,qM,qL,zab,zaa,gF,zd3,hd]
   apply hK;clear hK K
   refine W.cond rfl (fun h2=>?_) (fun h2=>?_)
   ·try simp only[RL]at h2
    exact absurd h2 (by simp)
   try simp only[RL]at h2
   have hO2:Ord (d.map g) (i+1):=hO.zero
   refine W.exit ?_
   refine xe ?_
   refine xe ?_
   refine XBlock.hit ?_
   refine XbN ?_
   refine xn ?_
   refine W.k fun K hK=>?_
   simp(disch:=omega)only[↓RU,RW,↓reduceIte,qE,reduceCtorEq,iP,w64,↓RS,RG,qA,qM,qL,zaa,gF,zd3]
   apply hK;clear hK K
   refine xn ?_
   refine ⟨l.length - (i+1),by omega,_,i+1,d,rfl,by omega,by omega,hq,hO2,?_,zbh⟩
   simp [Env.put,Env.of]
  ·skip
   have hj0:j≠0:=by have:=of_decide_eq_true hd; omega
   have hdl:=hq.length_eq
   obtain ⟨x,hx,hxm⟩:=zaj (show j<d.length by omega)
   obtain ⟨y,hy,hym⟩:=zaj (show j - 1<d.length by omega)
   have hxl:=hq.mem_iff.1 hxm
   have hyl:=hq.mem_iff.1 hym
   have hxg:(d.map g)[j]?=some (g x):=by rw [List.getElem?_map,hx]; rfl
   have hyg:(d.map g)[j - 1]?=some (g y):=by rw [List.getElem?_map,hy]; rfl
   simp(disch:=omega)only[↓RU,RW,↓reduceIte,qE,reduceCtorEq,iP,w64,qN,↓RS,RG,qA,qM,qL,zab,zaa,gF,zd3,hd,hx,hy,zdk]
   refine zac.pc (hf x y hxl hyl) rfl (.inl rfl) ?_
   simp(disch:=omega)only[↓RU,RW,↓reduceIte,qE,reduceCtorEq,iP,w64,qN,↓RS,RG,qA,qM,qL,zab,zaa,gF,zd3,hd,hx,hy,zdk]
   apply hK;clear hK K
   refine W.cond rfl (fun h2=>?_) (fun h2=>?_)
   ·try simp only[RL]at h2
    have hjl:=zb5 hx
    have hsl:(d.set j y).length=d.length:=by simp
    refine W.skip ?_
    refine xn ?_
    refine W.seq ?_
    refine W.block ?_
    refine W.draw_k (by kernel_rfl) fun K hK=>?_
    simp(disch:=omega)only[↓RU,RW,↓reduceIte,qE,reduceCtorEq,iP,w64,↓RS,RG,qA,qM,qL,zab,zaa,gF,zd3,hx,hy,zdk,zb8,zdh,List.length_set]
    apply hK;clear hK K
    refine XbN ?_
    refine xn ?_
    refine W.k fun K hK=>?_
    simp(disch:=omega)only[↓RU,RW,↓reduceIte,qE,reduceCtorEq,iP,w64,↓RS,RG,qA,qM,qL,zaa,gF,zd3]
    apply hK;clear hK K
    refine xn ?_
    refine ⟨j - 1+1,by omega,_,j - 1,(d.set j y).set (j - 1) x,rfl,by omega,zzu hq hx hy,by rw [List.map_set,List.map_set]; exact hO.swap hj0 h_j hxg hyg ((hg x y hxl hyl).1 h2),?_,zbh⟩
    simp [Env.put,Env.of]; omega
   try simp only[RL]at h2
   have hO2:Ord (d.map g) (i+1):=hO.stop hxg hyg (fun q=>h2 ((hg x y hxl hyl).2 q))
   refine W.exit ?_
   refine xe ?_
   refine xe ?_
   refine XBlock.hit ?_
   refine XbN ?_
   refine xn ?_
   refine W.k fun K hK=>?_
   simp(disch:=omega)only[↓RU,RW,↓reduceIte,qE,reduceCtorEq,iP,w64,↓RS,RG,qA,qM,qL,zaa,gF,zd3]
   apply hK;clear hK K
   refine xn ?_
   refine ⟨l.length - (i+1),by omega,_,i+1,d,rfl,by omega,by omega,hq,hO2,?_,zbh⟩
   simp [Env.put,Env.of]
 try simp only[RL]at h
 obtain rfl:l.length=i:=by omega
 refine W.exit ?_
 refine xe ?_
 refine xe ?_
 refine XBlock.hit ?_
 refine zfj.norm rfl ?_
 exact ⟨_,rfl,c,hp,(by rw [← hp.length_eq]at ho; exact Ord.pair (by rw [List.length_map]; exact ho)),zbh⟩
theorem yhq  : PC Tryz.prog 123 [.int .u64 1] (.int .i64 1) true:=by
 refine PC.of ⟨Tryz.func123,by kernel_rfl,rfl,by kernel_rfl⟩ zav mixed (by show 1≤Tryz.f123.ntmps; decide) ?_
 refine W.r fun K hK=>?_
 simp(disch:=omega)only[↓RU,RW,↓reduceIte,qE,reduceCtorEq,iP]
 apply hK;clear hK K
 refine W.seq ?_
 refine W.r fun K hK=>?_
 simp(disch:=omega)only[↓RU,RW,↓reduceIte,qE,reduceCtorEq,iP,w64,zie]
 apply hK;clear hK K
 refine W.cond rfl (fun h=>?_) (fun h=>?_)
 ·try simp only[RL]at h
  exact absurd h (by decide)
 try simp only[RL]at h
 refine W.skip ?_
 refine xn ?_
 refine W.seq ?_
 refine W.r fun K hK=>?_
 simp(disch:=omega)only[↓RU,RW,↓reduceIte,qE,reduceCtorEq,iP,w64,zie]
 apply hK;clear hK K
 refine W.cond rfl (fun h1=>?_) (fun h1=>?_)
 ·try simp only[RL]at h1
  exact absurd h1 (by decide)
 try simp only[RL]at h1
 refine W.skip ?_
 refine xn ?_
 refine W.seq ?_
 refine W.r fun K hK=>?_
 simp(disch:=omega)only[↓RU,RW,↓reduceIte,qE,reduceCtorEq,iP,w64,zie]
 apply hK;clear hK K
 refine W.cond rfl (fun h2=>?_) (fun h2=>?_)
 ·try simp only[RL]at h2
  exact absurd h2 (by decide)
 try simp only[RL]at h2
 refine W.skip ?_
 refine xn ?_
 refine W.r fun K hK=>?_
 simp(disch:=omega)only[↓RU,RW,↓reduceIte,qE,reduceCtorEq,iP,w64,w64,zaa,zal,zie,zhv]
 apply hK;clear hK K
 refine W.ret ?_
 refine Br rfl ?_
 rfl
theorem ylf  : PC Tryz.prog 93 [.int .u64 1] (.int .i64 1) true:=by
 refine PC.of ⟨Tryz.func93,by kernel_rfl,rfl,by kernel_rfl⟩ zav mixed (by show 1≤Tryz.f93.ntmps; decide) ?_
 refine W.r fun K hK=>?_
 simp(disch:=omega)only[↓RU,RW,↓reduceIte,qE,reduceCtorEq,iP]
 apply hK;clear hK K
 refine W.seq ?_
 refine W.cond rfl (fun h=>?_) (fun h=>?_)
 ·try simp only[RL]at h
  exact absurd h (by decide)
 try simp only[RL]at h
 refine W.skip ?_
 refine xn ?_
 refine W.r fun K hK=>?_
 simp(disch:=omega)only[↓RU,RW,↓reduceIte,qE,reduceCtorEq,iP,qN]
 refine zac.pc (yhq) rfl (.inl rfl) ?_
 simp(disch:=omega)only[↓RU,RW,↓reduceIte,qE,reduceCtorEq,iP,qN]
 apply hK;clear hK K
 refine W.ret ?_
 refine Br rfl ?_
 rfl
theorem yhr  : PC Tryz.prog 123 [.int .u64 2] (.int .i64 2) true:=by
 refine PC.of ⟨Tryz.func123,by kernel_rfl,rfl,by kernel_rfl⟩ zav mixed (by show 1≤Tryz.f123.ntmps; decide) ?_
 refine W.r fun K hK=>?_
 simp(disch:=omega)only[↓RU,RW,↓reduceIte,qE,reduceCtorEq,iP]
 apply hK;clear hK K
 refine W.seq ?_
 refine W.r fun K hK=>?_
 simp(disch:=omega)only[↓RU,RW,↓reduceIte,qE,reduceCtorEq,iP,w64,zie]
 apply hK;clear hK K
 refine W.cond rfl (fun h=>?_) (fun h=>?_)
 ·try simp only[RL]at h
  exact absurd h (by decide)
 try simp only[RL]at h
 refine W.skip ?_
 refine xn ?_
 refine W.seq ?_
 refine W.r fun K hK=>?_
 simp(disch:=omega)only[↓RU,RW,↓reduceIte,qE,reduceCtorEq,iP,w64,zie]
 apply hK;clear hK K
 refine W.cond rfl (fun h1=>?_) (fun h1=>?_)
 ·try simp only[RL]at h1
  exact absurd h1 (by decide)
 try simp only[RL]at h1
 refine W.skip ?_
 refine xn ?_
 refine W.seq ?_
 refine W.r fun K hK=>?_
 simp(disch:=omega)only[↓RU,RW,↓reduceIte,qE,reduceCtorEq,iP,w64,zie]
 apply hK;clear hK K
 refine W.cond rfl (fun h2=>?_) (fun h2=>?_)
 ·try simp only[RL]at h2
  exact absurd h2 (by decide)
 try simp only[RL]at h2
 refine W.skip ?_
 refine xn ?_
 refine W.r fun K hK=>?_
 simp(disch:=omega)only[↓RU,RW,↓reduceIte,qE,reduceCtorEq,iP,w64,w64,zaa,zal,zie,zhv]
 apply hK;clear hK K
 refine W.ret ?_
 refine Br rfl ?_
 rfl
theorem ylg  : PC Tryz.prog 93 [.int .u64 2] (.int .i64 2) true:=by
 refine PC.of ⟨Tryz.func93,by kernel_rfl,rfl,by kernel_rfl⟩ zav mixed (by show 1≤Tryz.f93.ntmps; decide) ?_
 refine W.r fun K hK=>?_
 simp(disch:=omega)only[↓RU,RW,↓reduceIte,qE,reduceCtorEq,iP]
 apply hK;clear hK K
 refine W.seq ?_
 refine W.cond rfl (fun h=>?_) (fun h=>?_)
 ·try simp only[RL]at h
  exact absurd h (by decide)
 try simp only[RL]at h
 refine W.skip ?_
 refine xn ?_
 refine W.r fun K hK=>?_
 simp(disch:=omega)only[↓RU,RW,↓reduceIte,qE,reduceCtorEq,iP,qN]
 refine zac.pc (yhr) rfl (.inl rfl) ?_
 simp(disch:=omega)only[↓RU,RW,↓reduceIte,qE,reduceCtorEq,iP,qN]
 apply hK;clear hK K
 refine W.ret ?_
 refine Br rfl ?_
 rfl
theorem yhs  : PC Tryz.prog 123 [.int .u64 3] (.int .i64 2) true:=by
 refine PC.of ⟨Tryz.func123,by kernel_rfl,rfl,by kernel_rfl⟩ zav mixed (by show 1≤Tryz.f123.ntmps; decide) ?_
 refine W.r fun K hK=>?_
 simp(disch:=omega)only[↓RU,RW,↓reduceIte,qE,reduceCtorEq,iP]
 apply hK;clear hK K
 refine W.seq ?_
 refine W.r fun K hK=>?_
 simp(disch:=omega)only[↓RU,RW,↓reduceIte,qE,reduceCtorEq,iP,w64,zie]
 apply hK;clear hK K
 refine W.cond rfl (fun h=>?_) (fun h=>?_)
 ·try simp only[RL]at h
  exact absurd h (by decide)
 try simp only[RL]at h
 refine W.skip ?_
 refine xn ?_
 refine W.seq ?_
 refine W.r fun K hK=>?_
 simp(disch:=omega)only[↓RU,RW,↓reduceIte,qE,reduceCtorEq,iP,w64,zie]
 apply hK;clear hK K
 refine W.cond rfl (fun h1=>?_) (fun h1=>?_)
 ·try simp only[RL]at h1
  exact absurd h1 (by decide)
 try simp only[RL]at h1
 refine W.skip ?_
 refine xn ?_
 refine W.seq ?_
 refine W.r fun K hK=>?_
 simp(disch:=omega)only[↓RU,RW,↓reduceIte,qE,reduceCtorEq,iP,w64,zie]
 apply hK;clear hK K
 refine W.cond rfl (fun h2=>?_) (fun h2=>?_)
 ·try simp only[RL]at h2
  exact absurd h2 (by decide)
 try simp only[RL]at h2
 refine W.skip ?_
 refine xn ?_
 refine W.r fun K hK=>?_
 simp(disch:=omega)only[↓RU,RW,↓reduceIte,qE,reduceCtorEq,iP,w64,w64,zaa,zal,zie,zhv]
 apply hK;clear hK K
 refine W.ret ?_
 refine Br rfl ?_
 rfl
theorem ylh  : PC Tryz.prog 93 [.int .u64 3] (.int .i64 2) true:=by
 refine PC.of ⟨Tryz.func93,by kernel_rfl,rfl,by kernel_rfl⟩ zav mixed (by show 1≤Tryz.f93.ntmps; decide) ?_
 refine W.r fun K hK=>?_
 simp(disch:=omega)only[↓RU,RW,↓reduceIte,qE,reduceCtorEq,iP]
 apply hK;clear hK K
 refine W.seq ?_
 refine W.cond rfl (fun h=>?_) (fun h=>?_)
 ·try simp only[RL]at h
  exact absurd h (by decide)
 try simp only[RL]at h
 refine W.skip ?_
 refine xn ?_
 refine W.r fun K hK=>?_
 simp(disch:=omega)only[↓RU,RW,↓reduceIte,qE,reduceCtorEq,iP,qN]
 refine zac.pc (yhs) rfl (.inl rfl) ?_
 simp(disch:=omega)only[↓RU,RW,↓reduceIte,qE,reduceCtorEq,iP,qN]
 apply hK;clear hK K
 refine W.ret ?_
 refine Br rfl ?_
 rfl
theorem yht  : PC Tryz.prog 123 [.int .u64 4] (.int .i64 3) true:=by
 refine PC.of ⟨Tryz.func123,by kernel_rfl,rfl,by kernel_rfl⟩ zav mixed (by show 1≤Tryz.f123.ntmps; decide) ?_
 refine W.r fun K hK=>?_
 simp(disch:=omega)only[↓RU,RW,↓reduceIte,qE,reduceCtorEq,iP]
 apply hK;clear hK K
 refine W.seq ?_
 refine W.r fun K hK=>?_
 simp(disch:=omega)only[↓RU,RW,↓reduceIte,qE,reduceCtorEq,iP,w64,zie]
 apply hK;clear hK K
 refine W.cond rfl (fun h=>?_) (fun h=>?_)
 ·try simp only[RL]at h
  exact absurd h (by decide)
 try simp only[RL]at h
 refine W.skip ?_
 refine xn ?_
 refine W.seq ?_
 refine W.r fun K hK=>?_
 simp(disch:=omega)only[↓RU,RW,↓reduceIte,qE,reduceCtorEq,iP,w64,zie]
 apply hK;clear hK K
 refine W.cond rfl (fun h1=>?_) (fun h1=>?_)
 ·try simp only[RL]at h1
  exact absurd h1 (by decide)
 try simp only[RL]at h1
 refine W.skip ?_
 refine xn ?_
 refine W.seq ?_
 refine W.r fun K hK=>?_
 simp(disch:=omega)only[↓RU,RW,↓reduceIte,qE,reduceCtorEq,iP,w64,zie]
 apply hK;clear hK K
 refine W.cond rfl (fun h2=>?_) (fun h2=>?_)
 ·try simp only[RL]at h2
  exact absurd h2 (by decide)
 try simp only[RL]at h2
 refine W.skip ?_
 refine xn ?_
 refine W.r fun K hK=>?_
 simp(disch:=omega)only[↓RU,RW,↓reduceIte,qE,reduceCtorEq,iP,w64,w64,zaa,zal,zie,zhv]
 apply hK;clear hK K
 refine W.ret ?_
 refine Br rfl ?_
 rfl
theorem yli  : PC Tryz.prog 93 [.int .u64 4] (.int .i64 3) true:=by
 refine PC.of ⟨Tryz.func93,by kernel_rfl,rfl,by kernel_rfl⟩ zav mixed (by show 1≤Tryz.f93.ntmps; decide) ?_
 refine W.r fun K hK=>?_
 simp(disch:=omega)only[↓RU,RW,↓reduceIte,qE,reduceCtorEq,iP]
 apply hK;clear hK K
 refine W.seq ?_
 refine W.cond rfl (fun h=>?_) (fun h=>?_)
 ·try simp only[RL]at h
  exact absurd h (by decide)
 try simp only[RL]at h
 refine W.skip ?_
 refine xn ?_
 refine W.r fun K hK=>?_
 simp(disch:=omega)only[↓RU,RW,↓reduceIte,qE,reduceCtorEq,iP,qN]
 refine zac.pc (yht) rfl (.inl rfl) ?_
 simp(disch:=omega)only[↓RU,RW,↓reduceIte,qE,reduceCtorEq,iP,qN]
 apply hK;clear hK K
 refine W.ret ?_
 refine Br rfl ?_
 rfl
theorem yhu  : PC Tryz.prog 123 [.int .u64 5] (.int .i64 3) true:=by
 refine PC.of ⟨Tryz.func123,by kernel_rfl,rfl,by kernel_rfl⟩ zav mixed (by show 1≤Tryz.f123.ntmps; decide) ?_
 refine W.r fun K hK=>?_
 simp(disch:=omega)only[↓RU,RW,↓reduceIte,qE,reduceCtorEq,iP]
 apply hK;clear hK K
 refine W.seq ?_
 refine W.r fun K hK=>?_
 simp(disch:=omega)only[↓RU,RW,↓reduceIte,qE,reduceCtorEq,iP,w64,zie]
 apply hK;clear hK K
 refine W.cond rfl (fun h=>?_) (fun h=>?_)
 ·try simp only[RL]at h
  exact absurd h (by decide)
 try simp only[RL]at h
 refine W.skip ?_
 refine xn ?_
 refine W.seq ?_
 refine W.r fun K hK=>?_
 simp(disch:=omega)only[↓RU,RW,↓reduceIte,qE,reduceCtorEq,iP,w64,zie]
 apply hK;clear hK K
 refine W.cond rfl (fun h1=>?_) (fun h1=>?_)
 ·try simp only[RL]at h1
  exact absurd h1 (by decide)
 try simp only[RL]at h1
 refine W.skip ?_
 refine xn ?_
 refine W.seq ?_
 refine W.r fun K hK=>?_
 simp(disch:=omega)only[↓RU,RW,↓reduceIte,qE,reduceCtorEq,iP,w64,zie]
 apply hK;clear hK K
 refine W.cond rfl (fun h2=>?_) (fun h2=>?_)
 ·try simp only[RL]at h2
  exact absurd h2 (by decide)
 try simp only[RL]at h2
 refine W.skip ?_
 refine xn ?_
 refine W.r fun K hK=>?_
 simp(disch:=omega)only[↓RU,RW,↓reduceIte,qE,reduceCtorEq,iP,w64,w64,zaa,zal,zie,zhv]
 apply hK;clear hK K
 refine W.ret ?_
 refine Br rfl ?_
 rfl
theorem ylj  : PC Tryz.prog 93 [.int .u64 5] (.int .i64 3) true:=by
 refine PC.of ⟨Tryz.func93,by kernel_rfl,rfl,by kernel_rfl⟩ zav mixed (by show 1≤Tryz.f93.ntmps; decide) ?_
 refine W.r fun K hK=>?_
 simp(disch:=omega)only[↓RU,RW,↓reduceIte,qE,reduceCtorEq,iP]
 apply hK;clear hK K
 refine W.seq ?_
 refine W.cond rfl (fun h=>?_) (fun h=>?_)
 ·try simp only[RL]at h
  exact absurd h (by decide)
 try simp only[RL]at h
 refine W.skip ?_
 refine xn ?_
 refine W.r fun K hK=>?_
 simp(disch:=omega)only[↓RU,RW,↓reduceIte,qE,reduceCtorEq,iP,qN]
 refine zac.pc (yhu) rfl (.inl rfl) ?_
 simp(disch:=omega)only[↓RU,RW,↓reduceIte,qE,reduceCtorEq,iP,qN]
 apply hK;clear hK K
 refine W.ret ?_
 refine Br rfl ?_
 rfl
theorem yhv  : PC Tryz.prog 123 [.int .u64 6] (.int .i64 3) true:=by
 refine PC.of ⟨Tryz.func123,by kernel_rfl,rfl,by kernel_rfl⟩ zav mixed (by show 1≤Tryz.f123.ntmps; decide) ?_
 refine W.r fun K hK=>?_
 simp(disch:=omega)only[↓RU,RW,↓reduceIte,qE,reduceCtorEq,iP]
 apply hK;clear hK K
 refine W.seq ?_
 refine W.r fun K hK=>?_
 simp(disch:=omega)only[↓RU,RW,↓reduceIte,qE,reduceCtorEq,iP,w64,zie]
 apply hK;clear hK K
 refine W.cond rfl (fun h=>?_) (fun h=>?_)
 ·try simp only[RL]at h
  exact absurd h (by decide)
 try simp only[RL]at h
 refine W.skip ?_
 refine xn ?_
 refine W.seq ?_
 refine W.r fun K hK=>?_
 simp(disch:=omega)only[↓RU,RW,↓reduceIte,qE,reduceCtorEq,iP,w64,zie]
 apply hK;clear hK K
 refine W.cond rfl (fun h1=>?_) (fun h1=>?_)
 ·try simp only[RL]at h1
  exact absurd h1 (by decide)
 try simp only[RL]at h1
 refine W.skip ?_
 refine xn ?_
 refine W.seq ?_
 refine W.r fun K hK=>?_
 simp(disch:=omega)only[↓RU,RW,↓reduceIte,qE,reduceCtorEq,iP,w64,zie]
 apply hK;clear hK K
 refine W.cond rfl (fun h2=>?_) (fun h2=>?_)
 ·try simp only[RL]at h2
  exact absurd h2 (by decide)
 try simp only[RL]at h2
 refine W.skip ?_
 refine xn ?_
 refine W.r fun K hK=>?_
 simp(disch:=omega)only[↓RU,RW,↓reduceIte,qE,reduceCtorEq,iP,w64,w64,zaa,zal,zie,zhv]
 apply hK;clear hK K
 refine W.ret ?_
 refine Br rfl ?_
 rfl
theorem ylk  : PC Tryz.prog 93 [.int .u64 6] (.int .i64 3) true:=by
 refine PC.of ⟨Tryz.func93,by kernel_rfl,rfl,by kernel_rfl⟩ zav mixed (by show 1≤Tryz.f93.ntmps; decide) ?_
 refine W.r fun K hK=>?_
 simp(disch:=omega)only[↓RU,RW,↓reduceIte,qE,reduceCtorEq,iP]
 apply hK;clear hK K
 refine W.seq ?_
 refine W.cond rfl (fun h=>?_) (fun h=>?_)
 ·try simp only[RL]at h
  exact absurd h (by decide)
 try simp only[RL]at h
 refine W.skip ?_
 refine xn ?_
 refine W.r fun K hK=>?_
 simp(disch:=omega)only[↓RU,RW,↓reduceIte,qE,reduceCtorEq,iP,qN]
 refine zac.pc (yhv) rfl (.inl rfl) ?_
 simp(disch:=omega)only[↓RU,RW,↓reduceIte,qE,reduceCtorEq,iP,qN]
 apply hK;clear hK K
 refine W.ret ?_
 refine Br rfl ?_
 rfl
theorem yhw  : PC Tryz.prog 123 [.int .u64 7] (.int .i64 3) true:=by
 refine PC.of ⟨Tryz.func123,by kernel_rfl,rfl,by kernel_rfl⟩ zav mixed (by show 1≤Tryz.f123.ntmps; decide) ?_
 refine W.r fun K hK=>?_
 simp(disch:=omega)only[↓RU,RW,↓reduceIte,qE,reduceCtorEq,iP]
 apply hK;clear hK K
 refine W.seq ?_
 refine W.r fun K hK=>?_
 simp(disch:=omega)only[↓RU,RW,↓reduceIte,qE,reduceCtorEq,iP,w64,zie]
 apply hK;clear hK K
 refine W.cond rfl (fun h=>?_) (fun h=>?_)
 ·try simp only[RL]at h
  exact absurd h (by decide)
 try simp only[RL]at h
 refine W.skip ?_
 refine xn ?_
 refine W.seq ?_
 refine W.r fun K hK=>?_
 simp(disch:=omega)only[↓RU,RW,↓reduceIte,qE,reduceCtorEq,iP,w64,zie]
 apply hK;clear hK K
 refine W.cond rfl (fun h1=>?_) (fun h1=>?_)
 ·try simp only[RL]at h1
  exact absurd h1 (by decide)
 try simp only[RL]at h1
 refine W.skip ?_
 refine xn ?_
 refine W.seq ?_
 refine W.r fun K hK=>?_
 simp(disch:=omega)only[↓RU,RW,↓reduceIte,qE,reduceCtorEq,iP,w64,zie]
 apply hK;clear hK K
 refine W.cond rfl (fun h2=>?_) (fun h2=>?_)
 ·try simp only[RL]at h2
  exact absurd h2 (by decide)
 try simp only[RL]at h2
 refine W.skip ?_
 refine xn ?_
 refine W.r fun K hK=>?_
 simp(disch:=omega)only[↓RU,RW,↓reduceIte,qE,reduceCtorEq,iP,w64,w64,zaa,zal,zie,zhv]
 apply hK;clear hK K
 refine W.ret ?_
 refine Br rfl ?_
 rfl
theorem yll  : PC Tryz.prog 93 [.int .u64 7] (.int .i64 3) true:=by
 refine PC.of ⟨Tryz.func93,by kernel_rfl,rfl,by kernel_rfl⟩ zav mixed (by show 1≤Tryz.f93.ntmps; decide) ?_
 refine W.r fun K hK=>?_
 simp(disch:=omega)only[↓RU,RW,↓reduceIte,qE,reduceCtorEq,iP]
 apply hK;clear hK K
 refine W.seq ?_
 refine W.cond rfl (fun h=>?_) (fun h=>?_)
 ·try simp only[RL]at h
  exact absurd h (by decide)
 try simp only[RL]at h
 refine W.skip ?_
 refine xn ?_
 refine W.r fun K hK=>?_
 simp(disch:=omega)only[↓RU,RW,↓reduceIte,qE,reduceCtorEq,iP,qN]
 refine zac.pc (yhw) rfl (.inl rfl) ?_
 simp(disch:=omega)only[↓RU,RW,↓reduceIte,qE,reduceCtorEq,iP,qN]
 apply hK;clear hK K
 refine W.ret ?_
 refine Br rfl ?_
 rfl
theorem yhx  : PC Tryz.prog 123 [.int .u64 8] (.int .i64 4) true:=by
 refine PC.of ⟨Tryz.func123,by kernel_rfl,rfl,by kernel_rfl⟩ zav mixed (by show 1≤Tryz.f123.ntmps; decide) ?_
 refine W.r fun K hK=>?_
 simp(disch:=omega)only[↓RU,RW,↓reduceIte,qE,reduceCtorEq,iP]
 apply hK;clear hK K
 refine W.seq ?_
 refine W.r fun K hK=>?_
 simp(disch:=omega)only[↓RU,RW,↓reduceIte,qE,reduceCtorEq,iP,w64,zie]
 apply hK;clear hK K
 refine W.cond rfl (fun h=>?_) (fun h=>?_)
 ·try simp only[RL]at h
  exact absurd h (by decide)
 try simp only[RL]at h
 refine W.skip ?_
 refine xn ?_
 refine W.seq ?_
 refine W.r fun K hK=>?_
 simp(disch:=omega)only[↓RU,RW,↓reduceIte,qE,reduceCtorEq,iP,w64,zie]
 apply hK;clear hK K
 refine W.cond rfl (fun h1=>?_) (fun h1=>?_)
 ·try simp only[RL]at h1
  exact absurd h1 (by decide)
 try simp only[RL]at h1
 refine W.skip ?_
 refine xn ?_
 refine W.seq ?_
 refine W.r fun K hK=>?_
 simp(disch:=omega)only[↓RU,RW,↓reduceIte,qE,reduceCtorEq,iP,w64,zie]
 apply hK;clear hK K
 refine W.cond rfl (fun h2=>?_) (fun h2=>?_)
 ·try simp only[RL]at h2
  exact absurd h2 (by decide)
 try simp only[RL]at h2
 refine W.skip ?_
 refine xn ?_
 refine W.r fun K hK=>?_
 simp(disch:=omega)only[↓RU,RW,↓reduceIte,qE,reduceCtorEq,iP,w64,w64,zaa,zal,zie,zhv]
 apply hK;clear hK K
 refine W.ret ?_
 refine Br rfl ?_
 rfl
theorem ylm  : PC Tryz.prog 93 [.int .u64 8] (.int .i64 4) true:=by
 refine PC.of ⟨Tryz.func93,by kernel_rfl,rfl,by kernel_rfl⟩ zav mixed (by show 1≤Tryz.f93.ntmps; decide) ?_
 refine W.r fun K hK=>?_
 simp(disch:=omega)only[↓RU,RW,↓reduceIte,qE,reduceCtorEq,iP]
 apply hK;clear hK K
 refine W.seq ?_
 refine W.cond rfl (fun h=>?_) (fun h=>?_)
 ·try simp only[RL]at h
  exact absurd h (by decide)
 try simp only[RL]at h
 refine W.skip ?_
 refine xn ?_
 refine W.r fun K hK=>?_
 simp(disch:=omega)only[↓RU,RW,↓reduceIte,qE,reduceCtorEq,iP,qN]
 refine zac.pc (yhx) rfl (.inl rfl) ?_
 simp(disch:=omega)only[↓RU,RW,↓reduceIte,qE,reduceCtorEq,iP,qN]
 apply hK;clear hK K
 refine W.ret ?_
 refine Br rfl ?_
 rfl
theorem yhy  : PC Tryz.prog 123 [.int .u64 9] (.int .i64 4) true:=by
 refine PC.of ⟨Tryz.func123,by kernel_rfl,rfl,by kernel_rfl⟩ zav mixed (by show 1≤Tryz.f123.ntmps; decide) ?_
 refine W.r fun K hK=>?_
 simp(disch:=omega)only[↓RU,RW,↓reduceIte,qE,reduceCtorEq,iP]
 apply hK;clear hK K
 refine W.seq ?_
 refine W.r fun K hK=>?_
 simp(disch:=omega)only[↓RU,RW,↓reduceIte,qE,reduceCtorEq,iP,w64,zie]
 apply hK;clear hK K
 refine W.cond rfl (fun h=>?_) (fun h=>?_)
 ·try simp only[RL]at h
  exact absurd h (by decide)
 try simp only[RL]at h
 refine W.skip ?_
 refine xn ?_
 refine W.seq ?_
 refine W.r fun K hK=>?_
 simp(disch:=omega)only[↓RU,RW,↓reduceIte,qE,reduceCtorEq,iP,w64,zie]
 apply hK;clear hK K
 refine W.cond rfl (fun h1=>?_) (fun h1=>?_)
 ·try simp only[RL]at h1
  exact absurd h1 (by decide)
 try simp only[RL]at h1
 refine W.skip ?_
 refine xn ?_
 refine W.seq ?_
 refine W.r fun K hK=>?_
 simp(disch:=omega)only[↓RU,RW,↓reduceIte,qE,reduceCtorEq,iP,w64,zie]
 apply hK;clear hK K
 refine W.cond rfl (fun h2=>?_) (fun h2=>?_)
 ·try simp only[RL]at h2
  exact absurd h2 (by decide)
 try simp only[RL]at h2
 refine W.skip ?_
 refine xn ?_
 refine W.r fun K hK=>?_
 simp(disch:=omega)only[↓RU,RW,↓reduceIte,qE,reduceCtorEq,iP,w64,w64,zaa,zal,zie,zhv]
 apply hK;clear hK K
 refine W.ret ?_
 refine Br rfl ?_
 rfl
theorem yln  : PC Tryz.prog 93 [.int .u64 9] (.int .i64 4) true:=by
 refine PC.of ⟨Tryz.func93,by kernel_rfl,rfl,by kernel_rfl⟩ zav mixed (by show 1≤Tryz.f93.ntmps; decide) ?_
 refine W.r fun K hK=>?_
 simp(disch:=omega)only[↓RU,RW,↓reduceIte,qE,reduceCtorEq,iP]
 apply hK;clear hK K
 refine W.seq ?_
 refine W.cond rfl (fun h=>?_) (fun h=>?_)
 ·try simp only[RL]at h
  exact absurd h (by decide)
 try simp only[RL]at h
 refine W.skip ?_
 refine xn ?_
 refine W.r fun K hK=>?_
 simp(disch:=omega)only[↓RU,RW,↓reduceIte,qE,reduceCtorEq,iP,qN]
 refine zac.pc (yhy) rfl (.inl rfl) ?_
 simp(disch:=omega)only[↓RU,RW,↓reduceIte,qE,reduceCtorEq,iP,qN]
 apply hK;clear hK K
 refine W.ret ?_
 refine Br rfl ?_
 rfl
theorem zij {F R:List Ob} {ver t:Nat} {l:List Int} {f:FuncId} {cs:List PV} {cm:Int→Int→Int} {g:Int→Int} (hf:∀ x y,x∈l→y∈l→PC Tryz.prog f [.int .i64 x,.int .i64 y,.ip cs 0] (.int .i64 (cm x y)) true) (hg:∀ x y,x∈l→y∈l→(cm x y<0↔g x<g y)) (hl:l.length≤12) (h1:1≤l.length) (lim:Int):Ev Tryz.prog 127 [.loc F.length ver 0 l.length,.int .i64 0,.int .i64 l.length,.int .i64 lim,.fn f [.ip cs 0]] ⟨F ++ .arr ver 3 1 (l.map (.int .i64))::R,t⟩ fun v S=>v = .tup []∧∃ z:List Int,z.Perm l∧(z.map g).Pairwise (· ≤ ·)∧S=⟨F ++ .arr ver 3 1 (z.map (.int .i64))::R,t⟩:=by
 refine Ev.of ⟨Tryz.func127,by kernel_rfl,rfl,by kernel_rfl⟩ zav mixed (by show 5≤Tryz.f127.ntmps; decide) ?_
 refine W.r fun K hK=>?_
 simp(disch:=omega)only[↓RU,RW,↓reduceIte,qE,reduceCtorEq,iP,↓RS,RG,qA,qM,qL,gF,zd3]
 apply hK;clear hK K
 refine W.r fun K hK=>?_
 simp(disch:=omega)only[↓RU,RW,↓reduceIte,qE,reduceCtorEq,iP,↓RS,RG,qA,qM,qL,gF,zd3]
 apply hK;clear hK K
 refine W.block ?_
 refine W.loop [0,1,2,4] (fun n vs S=>vs=[.loc F.length ver 0 l.length,.int .i64 0,.int .i64 l.length,.fn f [.ip cs 0]]∧S=⟨F ++ .arr ver 3 1 (l.map (.int .i64))::R,t⟩) 0 ?_ ?_
 ·refine ⟨_,?_,zbh⟩
  simp [Env.put,Env.of,zai]
 rintro n vs S - ⟨rfl,rfl⟩
 refine W.block ?_
 refine W.r fun K hK=>?_
 simp(disch:=omega)only[↓RU,RW,↓reduceIte,qE,reduceCtorEq,iP,w64,↓RS,RG,qA,qM,qL,zaa,gF,zd3]
 apply hK;clear hK K
 refine W.seq ?_
 refine W.r fun K hK=>?_
 simp(disch:=omega)only[↓RU,RW,↓reduceIte,qE,reduceCtorEq,iP,w64,↓RS,RG,qA,qM,qL,zaa,gF,zd3]
 apply hK;clear hK K
 refine W.cond rfl (fun h=>?_) (fun h=>?_)
 ·try simp only[RL]at h
  refine W.r fun K hK=>?_
  simp(disch:=omega)only[↓RU,RW,↓reduceIte,qE,reduceCtorEq,iP,qN,↓RS,RG,qA,qM,qL,gF,zd3]
  refine zac.ev (z5r hf hg (by omega) h1) ?_
  rintro _ _ ⟨rfl,z,hz1,hz2,rfl⟩
  simp(disch:=omega)only[↓RU,RW,↓reduceIte,qE,reduceCtorEq,iP,qN,↓RS,RG,qA,qM,qL,gF,zd3]
  apply hK;clear hK K
  refine W.ret ?_
  refine XThen.ret ?_
  refine XBlock.ret ?_
  refine XThen.ret ?_
  refine XBlock.ret ?_
  refine Br rfl ?_
  exact ⟨_,rfl,z,hz1,hz2,zbh⟩
 try simp only[RL]at h
 exact absurd (show (l.length:Int)≤12 by omega) h
theorem yep {F R:List Ob} {ver t:Nat} {l:List Int} {f:FuncId} {cs:List PV} {cm:Int→Int→Int} {g:Int→Int} (hf:∀ x y,x∈l→y∈l→PC Tryz.prog f [.int .i64 x,.int .i64 y,.ip cs 0] (.int .i64 (cm x y)) true) (hg:∀ x y,x∈l→y∈l→(cm x y<0↔g x<g y)) (h9:l.length≤9) (h1:1≤l.length):Ev Tryz.prog 105 [.loc F.length ver 0 l.length,.fn f [.ip cs 0]] ⟨F ++ .arr ver 3 1 (l.map (.int .i64))::R,t⟩ fun v S=>v = .tup []∧∃ z:List Int,z.Perm l∧(z.map g).Pairwise (· ≤ ·)∧S=⟨F ++ .arr ver 3 1 (z.map (.int .i64))::R,t⟩:=by
 refine Ev.of ⟨Tryz.func105,by kernel_rfl,rfl,by kernel_rfl⟩ zav mixed (by show 2≤Tryz.f105.ntmps; decide) ?_
 refine W.r fun K hK=>?_
 simp(disch:=omega)only[↓RU,RW,↓reduceIte,qE,reduceCtorEq,iP,↓RS,RG,qA,qM,qL,zab,zaa,gF,zd3]
 apply hK;clear hK K
 refine W.k fun K hK=>?_
 obtain hk | hk | hk | hk | hk | hk | hk | hk | hk:l.length=1∨l.length=2∨l.length=3∨l.length=4∨l.length=5∨l.length=6∨l.length=7∨l.length=8∨l.length=9:=by omega
 ·skip
  have hw:IntKind.u64.wrap ((l.length:Nat):Int)=1:=by rw [hk]; rfl
  simp(disch:=omega)only[↓RU,RW,↓reduceIte,qE,reduceCtorEq,iP,w64,qN,↓RS,RG,qA,qM,qL,zaa,zdi,gF,zd3,hw]
  refine zac.pc (ylf) rfl (.inl rfl) ?_
  simp(disch:=omega)only[↓RU,RW,↓reduceIte,qE,reduceCtorEq,iP,w64,qN,↓RS,RG,qA,qM,qL,zaa,zdi,gF,zd3,hw]
  refine zac.ev (zij hf hg (by omega) (by omega) 1) ?_
  rintro _ _ ⟨rfl,z,hz1,hz2,rfl⟩
  simp(disch:=omega)only[↓RU,RW,↓reduceIte,qE,reduceCtorEq,iP,w64,qN,↓RS,RG,qA,qM,qL,zaa,zdi,gF,zd3,hw]
  apply hK;clear hK K
  refine zfj.norm rfl ?_
  exact ⟨_,rfl,z,hz1,hz2,zbh⟩
 ·skip
  have hw:IntKind.u64.wrap ((l.length:Nat):Int)=2:=by rw [hk]; rfl
  simp(disch:=omega)only[↓RU,RW,↓reduceIte,qE,reduceCtorEq,iP,w64,qN,↓RS,RG,qA,qM,qL,zaa,zdi,gF,zd3,hw]
  refine zac.pc (ylg) rfl (.inl rfl) ?_
  simp(disch:=omega)only[↓RU,RW,↓reduceIte,qE,reduceCtorEq,iP,w64,qN,↓RS,RG,qA,qM,qL,zaa,zdi,gF,zd3,hw]
  refine zac.ev (zij hf hg (by omega) (by omega) 2) ?_
  rintro _ _ ⟨rfl,z,hz1,hz2,rfl⟩
  simp(disch:=omega)only[↓RU,RW,↓reduceIte,qE,reduceCtorEq,iP,w64,qN,↓RS,RG,qA,qM,qL,zaa,zdi,gF,zd3,hw]
  apply hK;clear hK K
  refine zfj.norm rfl ?_
  exact ⟨_,rfl,z,hz1,hz2,zbh⟩
 ·skip
  have hw:IntKind.u64.wrap ((l.length:Nat):Int)=3:=by rw [hk]; rfl
  simp(disch:=omega)only[↓RU,RW,↓reduceIte,qE,reduceCtorEq,iP,w64,qN,↓RS,RG,qA,qM,qL,zaa,zdi,gF,zd3,hw]
  refine zac.pc (ylh) rfl (.inl rfl) ?_
  simp(disch:=omega)only[↓RU,RW,↓reduceIte,qE,reduceCtorEq,iP,w64,qN,↓RS,RG,qA,qM,qL,zaa,zdi,gF,zd3,hw]
  refine zac.ev (zij hf hg (by omega) (by omega) 2) ?_
  rintro _ _ ⟨rfl,z,hz1,hz2,rfl⟩
  simp(disch:=omega)only[↓RU,RW,↓reduceIte,qE,reduceCtorEq,iP,w64,qN,↓RS,RG,qA,qM,qL,zaa,zdi,gF,zd3,hw]
  apply hK;clear hK K
  refine zfj.norm rfl ?_
  exact ⟨_,rfl,z,hz1,hz2,zbh⟩
 ·skip
  have hw:IntKind.u64.wrap ((l.length:Nat):Int)=4:=by rw [hk]; rfl
  simp(disch:=omega)only[↓RU,RW,↓reduceIte,qE,reduceCtorEq,iP,w64,qN,↓RS,RG,qA,qM,qL,zaa,zdi,gF,zd3,hw]
  refine zac.pc (yli) rfl (.inl rfl) ?_
  simp(disch:=omega)only[↓RU,RW,↓reduceIte,qE,reduceCtorEq,iP,w64,qN,↓RS,RG,qA,qM,qL,zaa,zdi,gF,zd3,hw]
  refine zac.ev (zij hf hg (by omega) (by omega) 3) ?_
  rintro _ _ ⟨rfl,z,hz1,hz2,rfl⟩
  simp(disch:=omega)only[↓RU,RW,↓reduceIte,qE,reduceCtorEq,iP,w64,qN,↓RS,RG,qA,qM,qL,zaa,zdi,gF,zd3,hw]
  apply hK;clear hK K
  refine zfj.norm rfl ?_
  exact ⟨_,rfl,z,hz1,hz2,zbh⟩
 ·skip
  have hw:IntKind.u64.wrap ((l.length:Nat):Int)=5:=by rw [hk]; rfl
  simp(disch:=omega)only[↓RU,RW,↓reduceIte,qE,reduceCtorEq,iP,w64,qN,↓RS,RG,qA,qM,qL,zaa,zdi,gF,zd3,hw]
  refine zac.pc (ylj) rfl (.inl rfl) ?_
  simp(disch:=omega)only[↓RU,RW,↓reduceIte,qE,reduceCtorEq,iP,w64,qN,↓RS,RG,qA,qM,qL,zaa,zdi,gF,zd3,hw]
  refine zac.ev (zij hf hg (by omega) (by omega) 3) ?_
  rintro _ _ ⟨rfl,z,hz1,hz2,rfl⟩
  simp(disch:=omega)only[↓RU,RW,↓reduceIte,qE,reduceCtorEq,iP,w64,qN,↓RS,RG,qA,qM,qL,zaa,zdi,gF,zd3,hw]
  apply hK;clear hK K
  refine zfj.norm rfl ?_
  exact ⟨_,rfl,z,hz1,hz2,zbh⟩
 ·skip
  have hw:IntKind.u64.wrap ((l.length:Nat):Int)=6:=by rw [hk]; rfl
  simp(disch:=omega)only[↓RU,RW,↓reduceIte,qE,reduceCtorEq,iP,w64,qN,↓RS,RG,qA,qM,qL,zaa,zdi,gF,zd3,hw]
  refine zac.pc (ylk) rfl (.inl rfl) ?_
  simp(disch:=omega)only[↓RU,RW,↓reduceIte,qE,reduceCtorEq,iP,w64,qN,↓RS,RG,qA,qM,qL,zaa,zdi,gF,zd3,hw]
  refine zac.ev (zij hf hg (by omega) (by omega) 3) ?_
  rintro _ _ ⟨rfl,z,hz1,hz2,rfl⟩
  simp(disch:=omega)only[↓RU,RW,↓reduceIte,qE,reduceCtorEq,iP,w64,qN,↓RS,RG,qA,qM,qL,zaa,zdi,gF,zd3,hw]
  apply hK;clear hK K
  refine zfj.norm rfl ?_
  exact ⟨_,rfl,z,hz1,hz2,zbh⟩
 ·skip
  have hw:IntKind.u64.wrap ((l.length:Nat):Int)=7:=by rw [hk]; rfl
  simp(disch:=omega)only[↓RU,RW,↓reduceIte,qE,reduceCtorEq,iP,w64,qN,↓RS,RG,qA,qM,qL,zaa,zdi,gF,zd3,hw]
  refine zac.pc (yll) rfl (.inl rfl) ?_
  simp(disch:=omega)only[↓RU,RW,↓reduceIte,qE,reduceCtorEq,iP,w64,qN,↓RS,RG,qA,qM,qL,zaa,zdi,gF,zd3,hw]
  refine zac.ev (zij hf hg (by omega) (by omega) 3) ?_
  rintro _ _ ⟨rfl,z,hz1,hz2,rfl⟩
  simp(disch:=omega)only[↓RU,RW,↓reduceIte,qE,reduceCtorEq,iP,w64,qN,↓RS,RG,qA,qM,qL,zaa,zdi,gF,zd3,hw]
  apply hK;clear hK K
  refine zfj.norm rfl ?_
  exact ⟨_,rfl,z,hz1,hz2,zbh⟩
 ·skip
  have hw:IntKind.u64.wrap ((l.length:Nat):Int)=8:=by rw [hk]; rfl
  simp(disch:=omega)only[↓RU,RW,↓reduceIte,qE,reduceCtorEq,iP,w64,qN,↓RS,RG,qA,qM,qL,zaa,zdi,gF,zd3,hw]
  refine zac.pc (ylm) rfl (.inl rfl) ?_
  simp(disch:=omega)only[↓RU,RW,↓reduceIte,qE,reduceCtorEq,iP,w64,qN,↓RS,RG,qA,qM,qL,zaa,zdi,gF,zd3,hw]
  refine zac.ev (zij hf hg (by omega) (by omega) 4) ?_
  rintro _ _ ⟨rfl,z,hz1,hz2,rfl⟩
  simp(disch:=omega)only[↓RU,RW,↓reduceIte,qE,reduceCtorEq,iP,w64,qN,↓RS,RG,qA,qM,qL,zaa,zdi,gF,zd3,hw]
  apply hK;clear hK K
  refine zfj.norm rfl ?_
  exact ⟨_,rfl,z,hz1,hz2,zbh⟩
 skip
 have hw:IntKind.u64.wrap ((l.length:Nat):Int)=9:=by rw [hk]; rfl
 simp(disch:=omega)only[↓RU,RW,↓reduceIte,qE,reduceCtorEq,iP,w64,qN,↓RS,RG,qA,qM,qL,zaa,zdi,gF,zd3,hw]
 refine zac.pc (yln) rfl (.inl rfl) ?_
 simp(disch:=omega)only[↓RU,RW,↓reduceIte,qE,reduceCtorEq,iP,w64,qN,↓RS,RG,qA,qM,qL,zaa,zdi,gF,zd3,hw]
 refine zac.ev (zij hf hg (by omega) (by omega) 4) ?_
 rintro _ _ ⟨rfl,z,hz1,hz2,rfl⟩
 simp(disch:=omega)only[↓RU,RW,↓reduceIte,qE,reduceCtorEq,iP,w64,qN,↓RS,RG,qA,qM,qL,zaa,zdi,gF,zd3,hw]
 apply hK;clear hK K
 refine zfj.norm rfl ?_
 exact ⟨_,rfl,z,hz1,hz2,zbh⟩




section
section
variable {n:Nat} {M X:List (List Bool)}
def rvB (M:List (List Bool)) (a:Nat) (X:List (List Bool)) (b:Nat):List (List Bool):=z6m X b a (zcv M a b)
def rvA (n:Nat) (M:List (List Bool)) (X:List (List Bool)) (a:Nat):List (List Bool):=(List.range n).foldl (rvB M a) X
def rv (n:Nat) (M:List (List Bool)):List (List Bool):=(List.range n).foldl (rvA n M) (zcb n)
end
end
theorem ya0 {S:Store} {k f n:Nat} {sel:List Nat}:(List.replicate n (PV.int .i64 0)).mapM (rn S k sel (f+1))=some (List.replicate n (PV.int .i64 0)):=zvz (by simp [List.all_replicate,scal])
section
theorem z7e {L A:List (List Bool)} {n a b:Nat} (hL:Sq n L) (hA:Sq n A) (ha:a<n) (hb:b<n):PC Tryz.prog 78 [(.agg [zhn L,zhn A]),.int .i64 a,.int .i64 b] (.bool (zcv L a b || zcv A a b)) true:=by
 have hL1:=hL.1
 have hA1:=hA.1
 obtain ⟨row,hrow,hrl,hrb⟩:=hL.at_ ha hb
 obtain ⟨sow,hsow,hsl,hsb⟩:=hA.at_ ha hb
 refine PC.of ⟨Tryz.func78,by kernel_rfl,rfl,by kernel_rfl⟩ zav mixed (by show 3≤Tryz.f78.ntmps; decide) ?_
 refine W.r fun K hK=>?_
 simp(disch:=omega)only[↓RU,RW,↓reduceIte,qE,reduceCtorEq,iP,↓RS,RG,qA,qM,qL,ty0,ty2,zad,zg1,ze6,zg2]
 apply hK;clear hK K
 refine W.r fun K hK=>?_
 cases hc:zcv L a b
 ·skip
  rw [hc]at hrb
  simp(disch:=omega)only[↓RU,RW,↓reduceIte,qE,reduceCtorEq,iP,↓RS,RG,qA,qM,qL,ty0,ty2,zad,zg1,ze6,zg2,hrow,hrl,hrb,hsow,hsl,hsb,hL1,hA1]
  apply hK;clear hK K
  refine W.ret ?_
  refine Br rfl ?_
  rw [hc]
  rfl
 skip
 rw [hc]at hrb
 simp(disch:=omega)only[↓RU,RW,↓reduceIte,qE,reduceCtorEq,iP,↓RS,RG,qA,qM,qL,ty0,ty2,zad,zg1,ze6,zg2,hrow,hrl,hrb,hsow,hsl,hsb,hL1,hA1]
 apply hK;clear hK K
 refine W.ret ?_
 refine Br rfl ?_
 rw [hc]
 rfl
theorem zp8 {L A:List (List Bool)} {n a b:Nat} (hL:Sq n L) (hA:Sq n A) (ha:a<n) (hb:b<n):PC Tryz.prog 79 [(.agg [zhn L,zhn A]),.int .i64 a,.int .i64 b] (.bool (zcv L a b || zcv A b a)) true:=by
 have hL1:=hL.1
 have hA1:=hA.1
 obtain ⟨row,hrow,hrl,hrb⟩:=hL.at_ ha hb
 obtain ⟨sow,hsow,hsl,hsb⟩:=hA.at_ hb ha
 refine PC.of ⟨Tryz.func79,by kernel_rfl,rfl,by kernel_rfl⟩ zav mixed (by show 3≤Tryz.f79.ntmps; decide) ?_
 refine W.r fun K hK=>?_
 simp(disch:=omega)only[↓RU,RW,↓reduceIte,qE,reduceCtorEq,iP,↓RS,RG,qA,qM,qL,ty0,ty2,zad,zg1,ze6,zg2]
 apply hK;clear hK K
 refine W.r fun K hK=>?_
 cases hc:zcv L a b
 ·skip
  rw [hc]at hrb
  simp(disch:=omega)only[↓RU,RW,↓reduceIte,qE,reduceCtorEq,iP,↓RS,RG,qA,qM,qL,ty0,ty2,zad,zg1,ze6,zg2,hrow,hrl,hrb,hsow,hsl,hsb,hL1,hA1]
  apply hK;clear hK K
  refine W.ret ?_
  refine Br rfl ?_
  rw [hc]
  rfl
 skip
 rw [hc]at hrb
 simp(disch:=omega)only[↓RU,RW,↓reduceIte,qE,reduceCtorEq,iP,↓RS,RG,qA,qM,qL,ty0,ty2,zad,zg1,ze6,zg2,hrow,hrl,hrb,hsow,hsl,hsb,hL1,hA1]
 apply hK;clear hK K
 refine W.ret ?_
 refine Br rfl ?_
 rw [hc]
 rfl
def cmV (b1 b2:Bool):Int:=if b1 then -1 else if b2 then 1 else 0
theorem yju {b1 b2:Bool}:cmV b1 b2<0↔b1=true:=by cases b1 <;> cases b2 <;> simp [cmV]
theorem z6o {q:FuncId} {L A:List (List Bool)} {x y:Int} {b1 b2:Bool} (h1:PC Tryz.prog q [(.agg [zhn L,zhn A]),.int .i64 x,.int .i64 y] (.bool b1) true) (h2:PC Tryz.prog q [(.agg [zhn L,zhn A]),.int .i64 y,.int .i64 x] (.bool b2) true):PC Tryz.prog 106 [.int .i64 x,.int .i64 y,.ip [.bm q (.agg [zhn L,zhn A])] 0] (.int .i64 (cmV b1 b2)) true:=by
 refine PC.of ⟨Tryz.func106,by kernel_rfl,rfl,by kernel_rfl⟩ zav mixed (by show 3≤Tryz.f106.ntmps; decide) ?_
 refine W.r fun K hK=>?_
 simp(disch:=omega)only[↓RU,RW,↓reduceIte,qE,reduceCtorEq,iP,↓RS,RG,qA,qM,qL]
 apply hK;clear hK K
 refine W.seq ?_
 refine W.block ?_
 refine W.r fun K hK=>?_
 simp(disch:=omega)only[↓RU,RW,↓reduceIte,qE,reduceCtorEq,iP,qN,↓RS,RG,qA,qM,qL,ykw]
 refine zac.pc (h1) rfl (.inl rfl) ?_
 simp(disch:=omega)only[↓RU,RW,↓reduceIte,qE,reduceCtorEq,iP,qN,↓RS,RG,qA,qM,qL,ykw]
 apply hK;clear hK K
 refine W.cond rfl (fun k1=>?_) (fun k1=>?_)
 ·try simp only[RL]at k1
  refine W.r fun K hK=>?_
  simp(disch:=omega)only[↓RU,RW,↓reduceIte,qE,reduceCtorEq,iP,↓RS,RG,qA,qM,qL]
  apply hK;clear hK K
  refine W.ret ?_
  refine XBlock.ret ?_
  refine XThen.ret ?_
  refine Br rfl ?_
  subst k1
  rfl
 try simp only[RL]at k1
 refine W.r fun K hK=>?_
 simp(disch:=omega)only[↓RU,RW,↓reduceIte,qE,reduceCtorEq,iP,qN,↓RS,RG,qA,qM,qL,ykw]
 refine zac.pc (h2) rfl (.inl rfl) ?_
 simp(disch:=omega)only[↓RU,RW,↓reduceIte,qE,reduceCtorEq,iP,qN,↓RS,RG,qA,qM,qL,ykw]
 apply hK;clear hK K
 refine W.cond rfl (fun k2=>?_) (fun k2=>?_)
 ·try simp only[RL]at k2
  refine W.r fun K hK=>?_
  simp(disch:=omega)only[↓RU,RW,↓reduceIte,qE,reduceCtorEq,iP,↓RS,RG,qA,qM,qL]
  apply hK;clear hK K
  refine W.ret ?_
  refine XBlock.ret ?_
  refine XThen.ret ?_
  refine Br rfl ?_
  have k1:b1=false:=by simpa using k1
  subst k1
  subst k2
  rfl
 try simp only[RL]at k2
 refine W.skip ?_
 refine XbN ?_
 refine xn ?_
 refine W.r fun K hK=>?_
 simp(disch:=omega)only[↓RU,RW,↓reduceIte,qE,reduceCtorEq,iP,↓RS,RG,qA,qM,qL]
 apply hK;clear hK K
 refine W.ret ?_
 refine Br rfl ?_
 have k1:b1=false:=by simpa using k1
 have k2:b2=false:=by simpa using k2
 subst k1
 subst k2
 rfl
theorem zvq {L A:List (List Bool)}:zmr 10 (.agg [zhn L,zhn A])=true:=rfl
section
variable {S:Store} {fr:Nat→Bool} {f:Nat}
theorem yim {o ver off:Nat}:rfq S fr (f+1) (.ref o ver off)=if fr o=true then (S.cellsOf o ver).bind fun cells=>(cells.mapM (rfq S fr f)).map (.ip · off) else none:=rfl
theorem ykk {g:FuncId} {b:PV}:rfq S fr (f+1) (.bm g b)=some (.bm g b):=rfl
theorem yc3 {g:FuncId} {b:PV}:(PV.bm g b).cells=[.bm g b]:=rfl
theorem yla {g:FuncId} {b:PV}:(PV.bm g b).isCell=true:=rfl
end
theorem zzq {q:FuncId} {L A:List (List Bool)} {n:Nat} (hL:Sq n L) (h1:1≤n) (h9:n≤9) {bf:Nat→Nat→Bool} {f:Nat→Nat} (hq:∀ a b:Nat,a<n→b<n→PC Tryz.prog q [(.agg [zhn L,zhn A]),.int .i64 a,.int .i64 b] (.bool (bf a b)) true) (hf:∀ a b,a<n→b<n→(bf a b=true↔f a<f b)) {Z:List Int} (hZ:∀ z:List Int,z.Perm (rooms n)→(z.map fun x=>((f x.toNat:Nat):Int)).Pairwise (· ≤ ·)→z=Z):PN Tryz.prog 77 [(.agg [zhn L,zhn A]),.bm q (.agg [zhn L,zhn A])] (.loc 0 0 0 n) [.arr 0 3 1 (Z.map (.int .i64))] false:=by
 have hL1:=hL.1
 obtain ⟨l,hl,hln⟩:∃ l,l=rooms n∧l.length=n:=⟨_,rfl,zrs⟩
 subst hln
 have hmem:∀ x,x∈l→∃ a:Nat,x=a∧a<l.length:=fun x hx=>by rw [hl,zq4]at hx; exact ⟨x.toNat,by omega,by omega⟩
 have hcm:∀ x y,x∈l→y∈l→PC Tryz.prog 106 [.int .i64 x,.int .i64 y,.ip [.bm q (.agg [zhn L,zhn A])] 0] (.int .i64 (cmV (bf x.toNat y.toNat) (bf y.toNat x.toNat))) true:=fun x y hx hy=>by
  obtain ⟨a,rfl,ha⟩:=hmem x hx
  obtain ⟨b,rfl,hb⟩:=hmem y hy
  exact z6o (hq a b ha hb) (hq b a hb ha)
 have hlt:∀ x y,x∈l→y∈l→(cmV (bf x.toNat y.toNat) (bf y.toNat x.toNat)<0↔(fun x:Int=>((f x.toNat:Nat):Int)) x<(fun x:Int=>((f x.toNat:Nat):Int)) y):=fun x y hx hy=>by
  obtain ⟨a,rfl,ha⟩:=hmem x hx
  obtain ⟨b,rfl,hb⟩:=hmem y hy
  rw [yju,hf _ _ (by simpa using ha) (by simpa using hb)]
  simp only; omega
 refine PN.of ⟨Tryz.func77,by kernel_rfl,rfl,by kernel_rfl⟩ zav mixed (by show 2≤Tryz.f77.ntmps; decide) ?_
 refine W.r fun K hK=>?_
 simp(disch:=omega)only[↓RU,RW,↓reduceIte,qE,reduceCtorEq,iP,↓RS,RG,qA,qM,qL,ty0,ty2,zad,ykw,zg1,ze6,zg2,yc3,yla]
 apply hK;clear hK K
 refine W.joinS [3,5] (fun vs S=>∃ t tk:Nat,vs=[.ip [.bm q (.agg [zhn L,zhn A])] 0,.loc 0 t 0 l.length]∧S=⟨[.arr t 3 1 ((List.replicate l.length 0).map (.int .i64))],tk⟩) ?_ ?_
 ·
  refine W.k fun K hK=>?_
  simp(disch:=omega)only[↓RU,RW,↓reduceIte,qE,reduceCtorEq,iP,↓RS,RG,qA,qM,qL,ty0,ty2,zab,zad,zg1,ze6,zaa,zg2,hL1,ze8,zex]
  apply hK;clear hK K
  refine xn ?_
  refine ⟨0,[2],[.ip [.bm q (.agg [zhn L,zhn A])] 0,.loc 0 3 0 l.length],⟨[.arr 3 3 1 ((List.replicate l.length 0).map (.int .i64))],4⟩,?_,?_,3,4,rfl,rfl⟩
  ·simp [-qU,Env.put,Env.of,zai,za9,zae,zak,zam,zao,zbd,zbe,zb2,zbc,zaz,zbf,zb1,zb3,za1,za0,zap,zbb,zbg,zb0,zax,zaw,zan,zay,zba,zdr,qS,qP,qC,yim,ykk,Store.cellsOf]
  simp [-qU,Env.put,Env.of,zai,za9,zae,zak,zam,zao,zbd,zbe,zb2,zbc,zaz,zbf,zb1,zb3,za1,za0,zap,zbb,zbg,zb0,zax,zaw,zan,zay,zba,zdr,qS,qP,qC,ya0]
 rintro vs S - ⟨t0,tk0,rfl,rfl⟩
 refine W.seq ?_
 refine W.r fun K hK=>?_
 simp(disch:=omega)only[↓RU,RW,↓reduceIte,qE,reduceCtorEq,iP,↓RS,RG,qA,qM,qL,zab,zaa]
 apply hK;clear hK K
 refine W.block ?_
 refine W.loop [3,5,12,13] (fun n vs S=>∃ i t tk:Nat,n=l.length - i∧i≤l.length∧vs=[.ip [.bm q (.agg [zhn L,zhn A])] 0,.loc 0 t 0 l.length,.int .i64 l.length,.int .i64 i]∧S=⟨[.arr t 3 1 ((l.take i++List.replicate (l.length - i) 0).map (.int .i64))],tk⟩) l.length ?_ ?_
 ·refine ⟨1,0,t0,tk0,rfl,by omega,?_,by simp [Store.take]⟩
  simp [Env.put,Env.of,zai]
 rintro n vs S - ⟨i,t,tk,rfl,h_i,rfl,rfl⟩
 refine W.r fun K hK=>?_
 simp(disch:=omega)only[↓RU,RW,↓reduceIte,qE,reduceCtorEq,iP,w64,↓RS,RG,qA,qM,qL,zaa]
 apply hK;clear hK K
 refine W.seq ?_
 refine W.cond rfl (fun h=>?_) (fun h=>?_)
 ·try simp only[RL]at h
  have hix:l[i]?=some (i:Int):=by rw [hl]; exact zv1 (by omega)
  have hol:(l.take i++List.replicate (l.length - i) 0).length=l.length:=by simp; omega
  refine W.skip ?_
  refine xn ?_
  refine W.seq ?_
  refine W.block ?_
  refine W.r fun K hK=>?_
  simp(disch:=omega)only[↓RU,RW,↓reduceIte,qE,reduceCtorEq,iP,↓RS,RG,qA,qM,qL]
  apply hK;clear hK K
  refine W.k fun K hK=>?_
  simp(disch:=omega)only[↓RU,RW,↓reduceIte,qE,reduceCtorEq,iP,↓RS,RG,qA,qM,qL,zab,zaa,zb8,zdh,hol]
  apply hK;clear hK K
  refine XbN ?_
  refine xn ?_
  refine W.k fun K hK=>?_
  simp(disch:=omega)only[↓RU,RW,↓reduceIte,qE,reduceCtorEq,iP,w64,↓RS,RG,qA,qM,qL,zaa]
  apply hK;clear hK K
  refine xn ?_
  refine ⟨l.length - (i+1),by omega,1,i+1,t,tk,rfl,by omega,?_,?_⟩
  ·simp [Env.put,Env.of]
  simp only[zcs,zw3 hix]; rfl
 try simp only[RL]at h
 obtain rfl:l.length=i:=by omega
 rw [List.take_length,Nat.sub_self]
 simp only[List.replicate_zero,qN]
 refine W.exit ?_
 refine xe ?_
 refine xe ?_
 refine XBlock.hit ?_
 refine xn ?_
 refine W.r fun K hK=>?_
 simp(disch:=omega)only[↓RU,RW,↓reduceIte,qE,reduceCtorEq,iP,qN,↓RS,RG,qA,qM,qL]
 refine zac.ev (yep (F:=[]) (R:=[]) hcm hlt h9 h1) ?_
 rintro _ _ ⟨rfl,z,hz1,hz2,rfl⟩
 simp(disch:=omega)only[↓RU,RW,↓reduceIte,qE,reduceCtorEq,iP,qN,↓RS,RG,qA,qM,qL]
 apply hK;clear hK K
 refine W.r fun K hK=>?_
 simp(disch:=omega)only[↓RU,RW,↓reduceIte,qE,reduceCtorEq,iP,↓RS,RG,qA,qM,qL]
 apply hK;clear hK K
 refine W.ret ?_
 refine Br rfl ?_
 have e:=hZ z (by rw [← hl]; exact hz1) hz2
 subst e
 exact ybf rfl (zr1 _)
end


section
section
variable {P:Program} {T:Tab} {F:Nat→Prop} {G:GSt} {w:World} {e:Env} {a:Act} {F0:Nat→Prop} {G0:GSt} {w0:World} {N:Nat}
end
section
variable {P:Program} {T:Tab} {Q:Exit→Env→Store→Prop} {e:Env} {S:Store} {b:Code}
end
end









theorem PN.ints0 {P:Program} {f:FuncId} {args:List PV} {l:List Int} {n:Nat} {im:Bool} (h:PN P f args (.loc 0 0 0 n) [.arr 0 3 1 (l.map (.int .i64))] im) (h1:args.mapM (reify ⟨[],0⟩ true 10)=some args) (hl:l.length=n):PC P f args (eInts l) true:=by
 refine PN.pc h h1 ?_
 subst hl
 simp only[z46,List.map_cons,List.map_nil,znb,zwe,Nat.add_zero]
 exact zce (k:=9) rfl (by simp) (zmc _)
theorem z6p {p:List Txt} (hv:zdx p=true):PC Tryz.prog 77 [(.agg [zhn (lfM p),zhn (abM p)]),.bm 78 (.agg [zhn (lfM p),zhn (abM p)])] (eInts (srt p false)) true∧PC Tryz.prog 77 [(.agg [zhn (lfM p),zhn (abM p)]),.bm 79 (.agg [zhn (lfM p),zhn (abM p)])] (eInts (srt p true)) true:=by
 have hok:=(zri hv).1
 have hn9:=zmg hok
 have hn1:=znw hok
 have hlq:=yf3 hv
 have haq:=yff hv
 have hp:zcd p=true:=by rw [← zgk]; exact hv
 obtain ⟨f,hf,hi⟩:=znh hp false
 obtain ⟨g,hg,hj⟩:=znh hp true
 exact ⟨PN.ints0 (zzq (bf:=bfK p false) hlq hn1 hn9 (fun a b ha hb=>z7e hlq haq ha hb) hf (fun z h1 h2=>ybn hf hi h1 h2)) rfl zn7,
  PN.ints0 (zzq (bf:=bfK p true) hlq hn1 hn9 (fun a b ha hb=>zp8 hlq haq ha hb) hg (fun z h1 h2=>ybn hg hj h1 h2)) rfl zn7⟩
theorem ztd {l:List Int} (hl:l.length<2147483648) {x:Int} {i:Nat} (hx:l[i]?=some x) (hi:∀ (j:Nat),j<i→l[j]?≠some x):PC Tryz.prog 54 [eInts l,.int .i64 x] (.int .i64 i) true:=by
 refine PC.of ⟨Tryz.func54,by kernel_rfl,rfl,by kernel_rfl⟩ zav mixed (by show 2≤Tryz.f54.ntmps; decide) ?_
 refine W.r fun K hK=>?_
 simp(disch:=omega)only[↓RU,RW,↓reduceIte,qE,reduceCtorEq,iP]
 apply hK;clear hK K
 refine W.seq ?_
 refine W.r fun K hK=>?_
 simp(disch:=omega)only[↓RU,RW,↓reduceIte,qE,reduceCtorEq,iP,zab,zaa]
 apply hK;clear hK K
 refine W.block ?_
 refine W.loop [0,1,7,8] (fun n vs S=>∃ j:Nat,n=l.length - j∧j≤l.length∧(j≤i)∧vs=[eInts l,.int .i64 x,.int .i64 l.length,.int .i64 j]∧S=⟨[],0⟩) (l.length) ?_ ?_
 ·refine ⟨0,0,rfl,Nat.zero_le _,Nat.zero_le _,?_,rfl⟩
  simp [Env.put,Env.of,zai]
 rintro n vs S - ⟨j,rfl,h_j,hji,rfl,rfl⟩
 refine W.r fun K hK=>?_
 simp(disch:=omega)only[↓RU,RW,↓reduceIte,qE,reduceCtorEq,iP,w64,zaa]
 apply hK;clear hK K
 refine W.seq ?_
 refine W.cond rfl (fun h=>?_) (fun h=>?_)
 ·try simp only[RL]at h
  obtain ⟨y,hy,-⟩:=zaj (show j<l.length by omega)
  refine W.skip ?_
  refine xn ?_
  refine W.seq ?_
  refine W.block ?_
  refine W.r fun K hK=>?_
  simp(disch:=omega)only[↓RU,RW,↓reduceIte,qE,reduceCtorEq,iP]
  apply hK;clear hK K
  refine W.r fun K hK=>?_
  simp(disch:=omega)only[↓RU,RW,↓reduceIte,qE,reduceCtorEq,iP,w64,zab,zaa,hy]
  apply hK;clear hK K
  refine W.cond rfl (fun h1=>?_) (fun h1=>?_)
  ·try simp only[RL]at h1
   have e:x=y:=by simpa using h1
   have hij:j=i:=by
    refine Classical.byContradiction fun k=>hi j (by omega) (by rw [hy,e])
   subst hij
   refine W.r fun K hK=>?_
   simp(disch:=omega)only[↓RU,RW,↓reduceIte,qE,reduceCtorEq,iP]
   apply hK;clear hK K
   refine W.ret ?_
   refine XBlock.ret ?_
   refine XThen.ret ?_
   refine XThen.ret ?_
   refine XBlock.ret ?_
   refine XThen.ret ?_
   refine Br rfl ?_
   rfl
  try simp only[RL]at h1
  have hne:j≠i:=by rintro rfl; rw [hx]at hy; cases hy; simp at h1
  refine W.skip ?_
  refine XbN ?_
  refine xn ?_
  refine W.k fun K hK=>?_
  simp(disch:=omega)only[↓RU,RW,↓reduceIte,qE,reduceCtorEq,iP,w64,zaa]
  apply hK;clear hK K
  refine xn ?_
  refine ⟨l.length - (j+1),by omega,0,j+1,rfl,by omega,by have:=hne; omega,?_,rfl⟩
  simp [Env.put,Env.of]
 try simp only[RL]at h
 exact absurd (zb5 hx) (by omega)
theorem yie {p:List Txt} (hv:zdx p=true):PN Tryz.prog 47 [(.agg [zhn (lfM p),zhn (abM p)])] (.loc 0 0 0 (rP p).length) [.arr 0 3 1 ((zf2 p).map (.int .i64))] false:=by
 have hok:=(zri hv).1
 have hn9:=zmg hok
 have hn1:=znw hok
 have hlq:=yf3 hv
 have haq:=yff hv
 have hp:zcd p=true:=by rw [← zgk]; exact hv
 obtain ⟨hs1,hs2⟩:=z6p hv
 have hl1:=zn7 (p:=p) (below:=false)
 have hl2:=zn7 (p:=p) (below:=true)
 have hpl:=zgj (p:=p)
 refine PN.of ⟨Tryz.func47,by kernel_rfl,rfl,by kernel_rfl⟩ zav mixed (by show 1≤Tryz.f47.ntmps; decide) ?_
 refine W.r fun K hK=>?_
 simp(disch:=omega)only[↓RU,RW,↓reduceIte,qE,reduceCtorEq,iP,↓RS,RG,qA,qM,qL,ty0,ty2,zad,zg1,ze6,zg2]
 apply hK;clear hK K
 refine W.r fun K hK=>?_
 simp(disch:=omega)only[↓RU,RW,↓reduceIte,qE,reduceCtorEq,iP,qN,↓RS,RG,qA,qM,qL,ty0,ty2,zad,zg1,ze6,zg2,zvq,List.isEmpty_nil,Bool.and_self]
 refine zac.pc (hs1) rfl (.inl rfl) ?_
 simp(disch:=omega)only[↓RU,RW,↓reduceIte,qE,reduceCtorEq,iP,qN,↓RS,RG,qA,qM,qL,ty0,ty2,zad,zg1,ze6,zg2,zvq,List.isEmpty_nil,Bool.and_self]
 apply hK;clear hK K
 refine W.r fun K hK=>?_
 simp(disch:=omega)only[↓RU,RW,↓reduceIte,qE,reduceCtorEq,iP,qN,↓RS,RG,qA,qM,qL,ty0,ty2,zad,zg1,ze6,zg2,zvq,List.isEmpty_nil,Bool.and_self]
 refine zac.pc (hs2) rfl (.inl rfl) ?_
 simp(disch:=omega)only[↓RU,RW,↓reduceIte,qE,reduceCtorEq,iP,qN,↓RS,RG,qA,qM,qL,ty0,ty2,zad,zg1,ze6,zg2,zvq,List.isEmpty_nil,Bool.and_self]
 apply hK;clear hK K
 refine W.joinS [3,4,5] (fun vs S=>∃ t tk:Nat,vs=[eInts (srt p false),eInts (srt p true),.loc 0 t 0 (rP p).length]∧S=⟨[.arr t 3 1 ((List.replicate (rP p).length 0).map (.int .i64))],tk⟩) ?_ ?_
 ·
  refine W.k fun K hK=>?_
  simp(disch:=omega)only[↓RU,RW,↓reduceIte,qE,reduceCtorEq,iP,↓RS,RG,qA,qM,qL,zab,zaa,hl2,ze8,zex]
  apply hK;clear hK K
  refine xn ?_
  refine ⟨0,[1],[eInts (srt p false),eInts (srt p true),.loc 0 2 0 (rP p).length],⟨[.arr 2 3 1 ((List.replicate (rP p).length 0).map (.int .i64))],3⟩,?_,?_,2,3,rfl,rfl⟩
  ·simp [-qU,Env.put,Env.of,zai,za9,zae,zak,zam,zao,zbd,zbe,zb2,zbc,zaz,zbf,zb1,zb3,za1,za0,zap,zbb,zbg,zb0,zax,zaw,zan,zay,zba,zdr,qS,qP,qC,Store.cellsOf]
  simp [-qU,Env.put,Env.of,zai,za9,zae,zak,zam,zao,zbd,zbe,zb2,zbc,zaz,zbf,zb1,zb3,za1,za0,zap,zbb,zbg,zb0,zax,zaw,zan,zay,zba,zdr,qS,qP,qC,ya0]
 rintro vs S - ⟨t0,tk0,rfl,rfl⟩
 refine W.seq ?_
 refine W.r fun K hK=>?_
 simp(disch:=omega)only[↓RU,RW,↓reduceIte,qE,reduceCtorEq,iP,↓RS,RG,qA,qM,qL,zab,zaa]
 apply hK;clear hK K
 refine W.block ?_
 refine W.loop [3,5,19,20,21] (fun n vs S=>∃ i t tk:Nat,n=(rP p).length - i∧i≤(rP p).length∧vs=[eInts (srt p false),.loc 0 t 0 (rP p).length,eInts (srt p true),.int .i64 (rP p).length,.int .i64 i]∧S=⟨[.arr t 3 1 (((zf2 p).take i++List.replicate ((rP p).length - i) 0).map (.int .i64))],tk⟩) (rP p).length ?_ ?_
 ·refine ⟨1,0,t0,tk0,rfl,by omega,?_,by simp [Store.take]⟩
  simp [Env.put,Env.of,zai,hl2]
 rintro n vs S - ⟨i,t,tk,rfl,h_i,rfl,rfl⟩
 refine W.r fun K hK=>?_
 simp(disch:=omega)only[↓RU,RW,↓reduceIte,qE,reduceCtorEq,iP,w64,↓RS,RG,qA,qM,qL,zaa]
 apply hK;clear hK K
 refine W.seq ?_
 refine W.cond rfl (fun h=>?_) (fun h=>?_)
 ·try simp only[RL]at h
  obtain ⟨a,ha,ha2,hsa⟩:=z16 (below:=true) hp (show i<(rP p).length by omega)
  have hpa:=zvn hp hsa
  have hix:=z4t (below:=false) hp ha
  have hin:∀ j,j<ahK p false a→(srt p false)[j]?≠some (a:Int):=fun j hj k=>by
   have k1:=zb5 hix
   have k2:=zb5 k
   rw [List.getElem?_eq_getElem k1]at hix
   rw [List.getElem?_eq_getElem k2]at k
   have:=zq7 (zzr hp) k1 k2 ((Option.some.inj hix).trans (Option.some.inj k).symm)
   omega
  have hol:((zf2 p).take i++List.replicate ((rP p).length - i) 0).length=(rP p).length:=by simp [hpl]; omega
  refine W.skip ?_
  refine xn ?_
  refine W.seq ?_
  refine W.block ?_
  refine W.r fun K hK=>?_
  simp(disch:=omega)only[↓RU,RW,↓reduceIte,qE,reduceCtorEq,iP,↓RS,RG,qA,qM,qL,zab,zaa,hsa]
  apply hK;clear hK K
  refine W.k fun K hK=>?_
  simp(disch:=omega)only[↓RU,RW,↓reduceIte,qE,reduceCtorEq,iP,qN,↓RS,RG,qA,qM,qL,zab,zaa,zb8,zdh,hol]
  refine zac.pc (ztd (by omega) hix hin) rfl (.inl rfl) ?_
  simp(disch:=omega)only[↓RU,RW,↓reduceIte,qE,reduceCtorEq,iP,qN,↓RS,RG,qA,qM,qL,zab,zaa,zb8,zdh,hol]
  apply hK;clear hK K
  refine XbN ?_
  refine xn ?_
  refine W.k fun K hK=>?_
  simp(disch:=omega)only[↓RU,RW,↓reduceIte,qE,reduceCtorEq,iP,w64,↓RS,RG,qA,qM,qL,zaa]
  apply hK;clear hK K
  refine xn ?_
  refine ⟨(rP p).length - (i+1),by omega,1,i+1,t,tk,rfl,by omega,?_,?_⟩
  ·simp [Env.put,Env.of]
  rw [← hpl]; simp only[zcs,zw3 hpa]; rfl
 try simp only[RL]at h
 obtain rfl:i=(rP p).length:=by omega
 rw [qT (by omega),Nat.sub_self]
 simp only[List.replicate_zero,qN]
 refine W.exit ?_
 refine xe ?_
 refine xe ?_
 refine XBlock.hit ?_
 refine xn ?_
 refine W.r fun K hK=>?_
 simp(disch:=omega)only[↓RU,RW,↓reduceIte,qE,reduceCtorEq,iP,↓RS,RG,qA,qM,qL]
 apply hK;clear hK K
 refine W.ret ?_
 refine Br rfl ?_
 exact ybf rfl (zr1 _)
section
section
variable {c:Nat→Nat→Nat} {H W:Nat}
def zi5 (c:Nat→Nat→Nat) (t:Pt) (i j:Nat):Nat:=c (t.r+i) (t.c+j)
theorem Pl.sub (h:Pl c H W) {t:Pt} (ht:t.In H W):Pl (zi5 c t) t.h t.w:=by
 obtain ⟨t1,t2,t3,t4⟩:=ht
 constructor
 ·intro i j i' j' k l a b c' d e f1 f2 f3 f4
  exact h.rect (t.r+k) (t.c+l) (by omega) (by omega) (by omega) (by omega) e (by omega) (by omega) (by omega) (by omega)
 intro i j a b e1 e2 e3
 exact h.plain (i:=t.r+i) (j:=t.c+j) (by omega) (by omega) e1 e2 e3
theorem DL.sub {t:Pt} (ht:t.In H W) {a b:Nat} (h:DL (zi5 c t) t.h t.w a b):DL c H W a b:=by
 obtain ⟨t1,t2,t3,t4⟩:=ht
 obtain ⟨j,i1,i2,a1,a2,a3,a4,a5,a6⟩:=h
 refine ⟨t.c+j,t.r+i1,t.r+i2,by omega,by omega,by omega,fun r h1 h2=>?_,a5,a6⟩
 have:=a4 (r - t.r) (by omega) (by omega)
 simp only[zi5]at this
 rwa [show t.r+(r - t.r)=r by omega]at this
theorem DU.sub {t:Pt} (ht:t.In H W) {a b:Nat} (h:DU (zi5 c t) t.h t.w a b):DU c H W a b:=by
 obtain ⟨t1,t2,t3,t4⟩:=ht
 obtain ⟨i,j1,j2,a1,a2,a3,a4,a5,a6⟩:=h
 refine ⟨t.r+i,t.c+j1,t.c+j2,by omega,by omega,by omega,fun r h1 h2=>?_,a5,a6⟩
 have:=a4 (r - t.c) (by omega) (by omega)
 simp only[zi5]at this
 rwa [show t.c+(r - t.c)=r by omega]at this
end
section
variable {p:List Txt}
theorem z74 (hp:zcd p=true) {t:Pt} (hw:Whole (zaf p) p.length (zag p).length t) {q:Bool × Nat} (hq:zdc (zaf p) t=some q) {x y:CT} (hx:zck (zaf p) (t.one q)=some x) (hy:zck (zaf p) (t.two q)=some y) :
  ∀ a b,a∈x.leaves→b∈y.leaves→(q.1=false→Lf p a.toNat b.toNat)∧(q.1=true→Ab p a.toNat b.toNat):=by
 intro a b ha hb
 have hpl:=zee hp
 have hi:=hw.inn
 obtain ⟨i1,i2,_,_⟩:=hi.cut hq
 obtain ⟨w1,w2⟩:=hw.cut (ze3 hpl) hq
 obtain ⟨_,m1,_⟩:=zga (ze3 hpl) _ w1 (qR _) hx
 obtain ⟨_,m2,_⟩:=zga (ze3 hpl) _ w2 (qR _) hy
 obtain ⟨r1,c1,e1,e2,e3,e4,e5⟩:=(m1 a).1 ha
 obtain ⟨r2,c2,f1,f2,f3,f4,f5⟩:=(m2 b).1 hb
 have hin:=hi
 unfold Pt.In at hin i1 i2
 have hP:=(zn0 hp).sub hi
 obtain ⟨k1,k2⟩:=zeu hq
 obtain ⟨lv,k⟩:=q
 have hra:=zcg hpl (i:=r1) (j:=c1) (by omega) (by omega)
 have hrb:=zcg hpl (i:=r2) (j:=c2) (by omega) (by omega)
 have ca:=zdy hpl (i:=r1) (j:=c1) (by omega) (by omega)
 have cb:=zdy hpl (i:=r2) (j:=c2) (by omega) (by omega)
 have ha':a.toNat<(rP p).length:=by omega
 have hb':b.toNat<(rP p).length:=by omega
 have ea:cn (gP p) r1 c1=a.toNat:=by omega
 have eb:cn (gP p) r2 c2=b.toNat:=by omega
 have cz:∀ i j,i<p.length→j<(zag p).length→(cn (gP p) i j:Int)=zaf p i j:=fun i j h1 h2=>zdy hpl h1 h2
 constructor
 ·rintro rfl
  simp only[qF,if_false]at k2
  simp only[Pt.one,Pt.two,qF,if_false] at *
  have hth:=ziq.1 k2.2
  have hT:Thru (zi5 (cn (gP p)) t) t.h k:=by
   intro r hr e
   have:=hth r hr
   have g1:=cz (t.r+r) (t.c+k - 1) (by omega) (by omega)
   have g2:=cz (t.r+r) (t.c+k) (by omega) (by omega)
   simp only[zi5]at e
   rw [show t.c+(k - 1)=t.c+k - 1 by omega]at e
   omega
  have h:=zzx hP k1 k2.1 hT (i:=r1 - t.r) (j:=c1 - t.c) (i':=r2 - t.r) (j':=c2 - t.c) (by omega) (by omega) (by omega) (by omega) (by omega)
  have h2:TC (DL (cn (gP p)) p.length (zag p).length) (zi5 (cn (gP p)) t (r1 - t.r) (c1 - t.c)) (zi5 (cn (gP p)) t (r2 - t.r) (c2 - t.c)):=h.mono fun a b hd=>DL.sub hi hd
  simp only[zi5]at h2
  rw [show t.r+(r1 - t.r)=r1 by omega,show t.c+(c1 - t.c)=c1 by omega,show t.r+(r2 - t.r)=r2 by omega,show t.c+(c2 - t.c)=c2 by omega,ea,eb]at h2
  exact (Lf.iff ha' hb').2 h2
 rintro rfl
 simp only[if_true]at k2
 simp only[Pt.one,Pt.two,if_true] at *
 have hth:=zio.1 k2.2
 have hT:Thru (tr (zi5 (cn (gP p)) t)) t.w k:=by
  intro r hr e
  have:=hth r hr
  have g1:=cz (t.r+k - 1) (t.c+r) (by omega) (by omega)
  have g2:=cz (t.r+k) (t.c+r) (by omega) (by omega)
  simp only[tr,zi5]at e
  rw [show t.r+(k - 1)=t.r+k - 1 by omega]at e
  omega
 have h:=zzx hP.ex k1 k2.1 hT (i:=c1 - t.c) (j:=r1 - t.r) (i':=c2 - t.c) (j':=r2 - t.r) (by omega) (by omega) (by omega) (by omega) (by omega)
 have h2:TC (DU (cn (gP p)) p.length (zag p).length) (zi5 (cn (gP p)) t (r1 - t.r) (c1 - t.c)) (zi5 (cn (gP p)) t (r2 - t.r) (c2 - t.c)):=h.mono fun a b hd=>DU.sub hi hd.ex
 simp only[zi5]at h2
 rw [show t.r+(r1 - t.r)=r1 by omega,show t.c+(c1 - t.c)=c1 by omega,show t.r+(r2 - t.r)=r2 by omega,show t.c+(c2 - t.c)=c2 by omega,ea,eb]at h2
 exact (Ab.iff ha' hb').2 h2
end
inductive Ch (M:List (List Bool)) (ws:List Int) (a:Nat):Nat→Int→Prop
 | one:Ch M ws a a (zcw ws a)
 | snoc {b d:Nat} {s:Int}:Ch M ws a b s→zcv M b d=true→Ch M ws a d (s+zcw ws d)
section
variable {M:List (List Bool)} {ws:List Int} {n:Nat} {rk:Nat→Nat}
theorem Ch.le (hu:Up M n rk) (hsq:∀ a b,zcv M a b=true→a<n) {a b:Nat} {s:Int} (h:Ch M ws a b s):b<n→s≤HB M ws n b:=by
 induction h with
 | one=>intro hb; rw [yfe hu hb]; have:=yjr (M:=M) (ws:=ws) (n:=n) a; omega
 | snoc k hk ih =>
  intro hb
  have h1:=ih (hsq _ _ hk)
  have h2:=yjq (ws:=ws) (hsq _ _ hk) hk
  rw [yfe hu hb]; omega
end
section
variable {p:List Txt}
end
end
section
inductive Sp (L U:Nat→Nat→Prop):(Nat→Prop)→Prop
 | one {A:Nat→Prop} (a:Nat):A a→(∀ b,A b→b=a)→Sp L U A
 | left {A:Nat→Prop} (B:Nat→Prop):(∃ a,A a∧B a)→(∃ a,A a∧¬ B a)→(∀ a b,A a→B a→A b→¬ B b→L a b)→Sp L U (fun a=>A a∧B a)→Sp L U (fun a=>A a∧¬ B a)→Sp L U A
 | up {A:Nat→Prop} (B:Nat→Prop):(∃ a,A a∧B a)→(∃ a,A a∧¬ B a)→(∀ a b,A a→B a→A b→¬ B b→U a b)→Sp L U (fun a=>A a∧B a)→Sp L U (fun a=>A a∧¬ B a)→Sp L U A
theorem Sp.congr {L U:Nat→Nat→Prop} {A A':Nat→Prop} (h:Sp L U A) (e:∀ a,A a↔A' a):Sp L U A':=by
 have:A=A':=funext fun a=>propext (e a)
 rwa [← this]
theorem Sp.ne {L U:Nat→Nat→Prop} {A:Nat→Prop} (h:Sp L U A):∃ a,A a:=by
 cases h with
 | one a h _=>exact ⟨a,h⟩
 | left B h=>obtain ⟨a,h,_⟩:=h; exact ⟨a,h⟩
 | up B h=>obtain ⟨a,h,_⟩:=h; exact ⟨a,h⟩
theorem Sp.map {L U L' U':Nat→Nat→Prop} {A:Nat→Prop} (g:Nat→Nat) (h:Sp L U A):∀ {A':Nat→Prop},(∀ i,A' i→A (g i))→(∀ a,A a→∃ i,A' i∧g i=a)→(∀ i j,A' i→A' j→g i=g j→i=j) →
  (∀ i j,A' i→A' j→L (g i) (g j)→L' i j)→(∀ i j,A' i→A' j→U (g i) (g j)→U' i j)→Sp L' U' A':=by
 induction h with
 | one a ha hu =>
  intro A' h1 h2 h3 h4 h5
  obtain ⟨i,hi,e⟩:=h2 a ha
  exact .one i hi fun j hj=>h3 j i hj hi ((hu _ (h1 j hj)).trans e.symm)
 | left B hb hn hl _ _ i1 i2 =>
  intro A' h1 h2 h3 h4 h5
  refine .left (fun i=>B (g i)) ?_ ?_ (fun a b ha hba hb' hnb=>h4 a b ha hb' (hl _ _ (h1 a ha) hba (h1 b hb') hnb)) (i1 (fun i hi=>⟨h1 i hi.1,hi.2⟩) (fun a ha=>?_) (fun i j hi hj=>h3 i j hi.1 hj.1) (fun i j hi hj=>h4 i j hi.1 hj.1) fun i j hi hj=>h5 i j hi.1 hj.1)
   (i2 (fun i hi=>⟨h1 i hi.1,hi.2⟩) (fun a ha=>?_) (fun i j hi hj=>h3 i j hi.1 hj.1) (fun i j hi hj=>h4 i j hi.1 hj.1) fun i j hi hj=>h5 i j hi.1 hj.1)
  ·obtain ⟨a,ha,hb⟩:=hb; obtain ⟨i,hi,e⟩:=h2 a ha; exact ⟨i,hi,by rw [e]; exact hb⟩
  ·obtain ⟨a,ha,hb⟩:=hn; obtain ⟨i,hi,e⟩:=h2 a ha; exact ⟨i,hi,by rw [e]; exact hb⟩
  ·obtain ⟨i,hi,e⟩:=h2 a ha.1; exact ⟨i,⟨hi,by rw [e]; exact ha.2⟩,e⟩
  obtain ⟨i,hi,e⟩:=h2 a ha.1; exact ⟨i,⟨hi,by rw [e]; exact ha.2⟩,e⟩
 | up B hb hn hl _ _ i1 i2 =>
  intro A' h1 h2 h3 h4 h5
  refine .up (fun i=>B (g i)) ?_ ?_ (fun a b ha hba hb' hnb=>h5 a b ha hb' (hl _ _ (h1 a ha) hba (h1 b hb') hnb)) (i1 (fun i hi=>⟨h1 i hi.1,hi.2⟩) (fun a ha=>?_) (fun i j hi hj=>h3 i j hi.1 hj.1) (fun i j hi hj=>h4 i j hi.1 hj.1) fun i j hi hj=>h5 i j hi.1 hj.1)
   (i2 (fun i hi=>⟨h1 i hi.1,hi.2⟩) (fun a ha=>?_) (fun i j hi hj=>h3 i j hi.1 hj.1) (fun i j hi hj=>h4 i j hi.1 hj.1) fun i j hi hj=>h5 i j hi.1 hj.1)
  ·obtain ⟨a,ha,hb⟩:=hb; obtain ⟨i,hi,e⟩:=h2 a ha; exact ⟨i,hi,by rw [e]; exact hb⟩
  ·obtain ⟨a,ha,hb⟩:=hn; obtain ⟨i,hi,e⟩:=h2 a ha; exact ⟨i,hi,by rw [e]; exact hb⟩
  ·obtain ⟨i,hi,e⟩:=h2 a ha.1; exact ⟨i,⟨hi,by rw [e]; exact ha.2⟩,e⟩
  obtain ⟨i,hi,e⟩:=h2 a ha.1; exact ⟨i,⟨hi,by rw [e]; exact ha.2⟩,e⟩
theorem Sp.sub {L U:Nat→Nat→Prop} {A:Nat→Prop} (h:Sp L U A):∀ {A':Nat→Prop},(∀ a,A' a→A a)→(∃ a,A' a)→Sp L U A':=by
 induction h with
 | one a ha hu =>
  intro A' h1 ⟨b,hb⟩
  exact .one b hb fun d hd=>(hu d (h1 d hd)).trans (hu b (h1 b hb)).symm
 | left B _ _ hl _ _ i1 i2 =>
  intro A' h1 h2
  by_cases hb:∃ a,A' a∧B a
  ·by_cases hn:∃ a,A' a∧¬ B a
   ·exact .left B hb hn (fun a b ha hba hb' hnb=>hl a b (h1 a ha) hba (h1 b hb') hnb) (i1 (fun a ha=>⟨h1 a ha.1,ha.2⟩) hb) (i2 (fun a ha=>⟨h1 a ha.1,ha.2⟩) hn)
   exact i1 (fun a ha=>⟨h1 a ha,Classical.byContradiction fun h=>hn ⟨a,ha,h⟩⟩) h2
  exact i2 (fun a ha=>⟨h1 a ha,fun h=>hb ⟨a,ha,h⟩⟩) h2
 | up B _ _ hl _ _ i1 i2 =>
  intro A' h1 h2
  by_cases hb:∃ a,A' a∧B a
  ·by_cases hn:∃ a,A' a∧¬ B a
   ·exact .up B hb hn (fun a b ha hba hb' hnb=>hl a b (h1 a ha) hba (h1 b hb') hnb) (i1 (fun a ha=>⟨h1 a ha.1,ha.2⟩) hb) (i2 (fun a ha=>⟨h1 a ha.1,ha.2⟩) hn)
   exact i1 (fun a ha=>⟨h1 a ha,Classical.byContradiction fun h=>hn ⟨a,ha,h⟩⟩) h2
  exact i2 (fun a ha=>⟨h1 a ha,fun h=>hb ⟨a,ha,h⟩⟩) h2
section
variable {p:List Txt}
def Rms (p:List Txt) (t:Pt) (v:Nat):Prop:=∃ a c,t.r≤a∧a<t.r+t.h∧t.c≤c∧c<t.c+t.w∧zaf p a c=v
theorem ykm (hp:zbk p=true) {t:Pt} (h:t.In p.length (zag p).length) {v:Nat} (hv:Rms p t v):v<(rP p).length:=by
 obtain ⟨a,c,e1,e2,e3,e4,e5⟩:=hv
 unfold Pt.In at h
 have:=zcg hp (i:=a) (j:=c) (by omega) (by omega)
 omega
theorem zva (hp:zbk p=true) {t:Pt} (hw:Whole (zaf p) p.length (zag p).length t) {x:CT} (hx:zck (zaf p) t=some x) (v:Nat):(v:Int)∈x.leaves↔Rms p t v :=
 (zga (ze3 hp) _ hw (qR _) hx).2.1 v
theorem yax (hp:zbk p=true) {t:Pt} (hw:Whole (zaf p) p.length (zag p).length t) {q:Bool × Nat} (hq:zdc (zaf p) t=some q) (v:Nat) :
  (Rms p t v∧Rms p (t.one q) v↔Rms p (t.one q) v)∧(Rms p t v∧¬ Rms p (t.one q) v↔Rms p (t.two q) v):=by
 obtain ⟨w1,w2⟩:=hw.cut (ze3 hp) hq
 have i1:=w1.inn; have i2:=w2.inn; have i0:=hw.inn
 obtain ⟨k1,k2⟩:=zeu hq
 obtain ⟨lv,k⟩:=q
 have h1:Rms p (t.one (lv,k)) v→Rms p t v:=by
  rintro ⟨a,c,e1,e2,e3,e4,e5⟩
  refine ⟨a,c,?_⟩
  cases lv <;> simp only[Pt.one,qF,if_false,if_true] at * <;> exact ⟨by omega,by omega,by omega,by omega,e5⟩
 have h2:Rms p (t.two (lv,k)) v→Rms p t v∧¬ Rms p (t.one (lv,k)) v:=by
  rintro ⟨a,c,e1,e2,e3,e4,e5⟩
  refine ⟨⟨a,c,?_⟩,?_⟩
  ·cases lv <;> simp only[Pt.two,qF,if_false,if_true] at * <;> exact ⟨by omega,by omega,by omega,by omega,e5⟩
  rintro ⟨a',c',f1,f2,f3,f4,f5⟩
  unfold Pt.In at i1 i2
  have:=w1.all a' c' a c (by omega) (by omega) (by omega) (by omega) (f5.trans e5.symm) f1 f2 f3 f4
  cases lv <;> simp only[Pt.one,Pt.two,qF,if_false,if_true] at * <;> omega
 refine ⟨⟨fun h=>h.2,fun h=>⟨h1 h,h⟩⟩,⟨?_,h2⟩⟩
 rintro ⟨⟨a,c,e1,e2,e3,e4,e5⟩,hn⟩
 cases lv with
 | true =>
  simp only[Pt.one,Pt.two,if_true] at *
  rcases Nat.lt_or_ge a (t.r+k) with h | h
  ·exact absurd ⟨a,c,e1,h,e3,e4,e5⟩ hn
  exact ⟨a,c,h,by simp only; omega,e3,e4,e5⟩
 | false =>
  simp only[Pt.one,Pt.two,qF,if_false] at *
  rcases Nat.lt_or_ge c (t.c+k) with h | h
  ·exact absurd ⟨a,c,e1,e2,e3,h,e5⟩ hn
  exact ⟨a,c,e1,e2,h,by simp only; omega,e5⟩
theorem z2a (hp:zcd p=true):∀ (n:Nat) {t:Pt} {x:CT},Whole (zaf p) p.length (zag p).length t→t.h*t.w≤n→zck (zaf p) t=some x→Sp (Lf p) (Ab p) (Rms p t)
 | 0,t,x,hw,hn',_=>by have:=Nat.mul_pos hw.inn.1 hw.inn.2.1; omega
 | n+1,t,x,hw,hn',hx=>by
  have hpl:=zee hp
  have hi:=hw.inn
  cases h1:zlp (zaf p) t with
  | true =>
   have hl:=zva hpl hw (zhg hi h1)
   have hc:=zcg hpl (i:=t.r) (j:=t.c) (by unfold Pt.In at hi; omega) (by unfold Pt.In at hi; omega)
   refine .one (zaf p t.r t.c).toNat ((hl _).1 (by simp [CT.leaves]; omega)) fun b hb=>?_
   have:=(hl b).2 hb
   simp only[CT.leaves,List.mem_singleton]at this
   omega
  | false =>
   cases hq:zdc (zaf p) t with
   | none=>rw [zg5 hi h1 hq]at hx; cases hx
   | some q =>
    obtain ⟨i1,i2,a1,a2⟩:=hi.cut hq
    obtain ⟨w1,w2⟩:=hw.cut (ze3 hpl) hq
    rw [zfv hi h1 hq]at hx
    cases hx1:zck (zaf p) (t.one q) with
    | none=>rw [hx1]at hx; cases hx
    | some x1 =>
     cases hx2:zck (zaf p) (t.two q) with
     | none=>rw [hx1,hx2]at hx; cases hx
     | some x2 =>
      have s1:=z2a hp n w1 (by omega) hx1
      have s2:=z2a hp n w2 (by omega) hx2
      have hc:=yax hpl hw hq
      have hs:=z74 hp hw hq hx1 hx2
      obtain ⟨b1,hb1⟩:=s1.ne
      obtain ⟨b2,hb2⟩:=s2.ne
      have e1:=s1.congr fun a=>((hc a).1).symm
      have e2:=s2.congr fun a=>((hc a).2).symm
      have key:∀ a b,Rms p t a→Rms p (t.one q) a→Rms p t b→¬ Rms p (t.one q) b→(q.1=false→Lf p a b)∧(q.1=true→Ab p a b):=by
       intro a b _ ha hb hnb
       have:=hs a b ((zva hpl w1 hx1 a).2 ha) ((zva hpl w2 hx2 b).2 (((hc b).2).1 ⟨hb,hnb⟩))
       simpa using this
      cases hlv:q.1 with
      | false=>exact .left (Rms p (t.one q)) ⟨b1,((hc b1).1).2 hb1⟩ ⟨b2,((hc b2).2).2 hb2⟩ (fun a b h1 h2 h3 h4=>(key a b h1 h2 h3 h4).1 hlv) e1 e2
      | true=>exact .up (Rms p (t.one q)) ⟨b1,((hc b1).1).2 hb1⟩ ⟨b2,((hc b2).2).2 hb2⟩ (fun a b h1 h2 h3 h4=>(key a b h1 h2 h3 h4).2 hlv) e1 e2
theorem zyr (hp:zcd p=true) {t:Pt} (hi:t.In p.length (zag p).length) {i j i' j':Nat} (h1:i<t.h) (h2:j<t.w) (h3:i'<t.h) (h4:j'<t.w) :
  (Lf p (zi5 (cn (gP p)) t i j) (zi5 (cn (gP p)) t i' j')→TC (DL (zi5 (cn (gP p)) t) t.h t.w) (zi5 (cn (gP p)) t i j) (zi5 (cn (gP p)) t i' j')) ∧
  (Ab p (zi5 (cn (gP p)) t i j) (zi5 (cn (gP p)) t i' j')→TC (DU (zi5 (cn (gP p)) t) t.h t.w) (zi5 (cn (gP p)) t i j) (zi5 (cn (gP p)) t i' j')):=by
 have hpl:=zee hp
 have hP:=(zn0 hp).sub hi
 have hin:=hi
 unfold Pt.In at hin
 have hr:∀ i j,i<t.h→j<t.w→zi5 (cn (gP p)) t i j<(rP p).length:=by
  intro i j hi' hj'
  have:=zcg hpl (i:=t.r+i) (j:=t.c+j) (by omega) (by omega)
  have:=zdy hpl (i:=t.r+i) (j:=t.c+j) (by omega) (by omega)
  simp only[zi5]; omega
 have ha:=hr i j h1 h2
 have hb:=hr i' j' h3 h4
 have gl:∀ {a b:Nat},a<(rP p).length→b<(rP p).length→TC (DL (zi5 (cn (gP p)) t) t.h t.w) a b→Lf p a b:=fun x y h=>(Lf.iff x y).2 (h.mono fun _ _=>DL.sub hi)
 have gu:∀ {a b:Nat},a<(rP p).length→b<(rP p).length→TC (DU (zi5 (cn (gP p)) t) t.h t.w) a b→Ab p a b:=fun x y h=>(Ab.iff x y).2 (h.mono fun _ _=>DU.sub hi)
 constructor
 ·intro h
  have hne:zi5 (cn (gP p)) t i j≠zi5 (cn (gP p)) t i' j':=fun e=>(Lf.only hp ha hb h).1 (by rw [e]at h ⊢; exact h)
  rcases zwa hP h1 h2 h3 h4 hne with k | k | k | k
  ·exact k
  ·exact absurd (gl hb ha k) (Lf.only hp ha hb h).1
  ·exact absurd (gu ha hb k) (Lf.only hp ha hb h).2.1
  exact absurd (gu hb ha k) (Lf.only hp ha hb h).2.2
 intro h
 have hne:zi5 (cn (gP p)) t i j≠zi5 (cn (gP p)) t i' j':=fun e=>(Ab.only hp ha hb h).1 (by rw [e]at h ⊢; exact h)
 rcases zwa hP h1 h2 h3 h4 hne with k | k | k | k
 ·exact absurd (gl ha hb k) (Ab.only hp ha hb h).2.1
 ·exact absurd (gl hb ha k) (Ab.only hp ha hb h).2.2
 ·exact k
 exact absurd (gu hb ha k) (Ab.only hp ha hb h).1
theorem z10 (hp:zcd p=true):∀ (n:Nat) {t:Pt},Whole (zaf p) p.length (zag p).length t→t.h*t.w≤n→Sp (Lf p) (Ab p) (Rms p t)→∃ x,zck (zaf p) t=some x
 | 0,t,hw,hn',_=>by have:=Nat.mul_pos hw.inn.1 hw.inn.2.1; omega
 | n+1,t,hw,hn',hsp=>by
  have hpl:=zee hp
  have hi:=hw.inn
  have hP:=(zn0 hp).sub hi
  have hin:=hi
  unfold Pt.In at hin
  have sc:∀ i j,i<t.h→j<t.w→(zi5 (cn (gP p)) t i j:Int)=zaf p (t.r+i) (t.c+j):=fun i j a b=>zdy hpl (by omega) (by omega)
  have srm:∀ i j,i<t.h→j<t.w→Rms p t (zi5 (cn (gP p)) t i j):=fun i j a b=>⟨t.r+i,t.c+j,by omega,by omega,by omega,by omega,(sc i j a b).symm⟩
  have rsc:∀ v,Rms p t v→∃ i j,i<t.h∧j<t.w∧zi5 (cn (gP p)) t i j=v:=by
   rintro v ⟨a,c,e1,e2,e3,e4,e5⟩
   refine ⟨a - t.r,c - t.c,by omega,by omega,?_⟩
   have:=sc (a - t.r) (c - t.c) (by omega) (by omega)
   rw [show t.r+(a - t.r)=a by omega,show t.c+(c - t.c)=c by omega]at this
   omega
  cases h1:zlp (zaf p) t with
  | true=>exact ⟨_,zhg hi h1⟩
  | false =>
   have hcut:∃ q,zdc (zaf p) t=some q:=by
    cases hq:zdc (zaf p) t with
    | some q=>exact ⟨q,rfl⟩
    | none =>
     exfalso
     obtain ⟨nu,nl⟩:=znk.1 hq
     have hno:¬ ∀ i j,i<t.h→j<t.w→zaf p (t.r+i) (t.c+j)=zaf p t.r t.c:=fun hc=>by rw [zfp.2 hc]at h1; cases h1
     cases hsp with
     | one a ha hu =>
      apply hno
      intro i j hi' hj'
      have e1:=hu _ (srm i j hi' hj')
      have e2:=hu _ (srm 0 0 (by omega) (by omega))
      have f1:=sc i j hi' hj'
      have f2:=sc 0 0 (by omega) (by omega)
      simp only[Nat.add_zero]at f2
      omega
     | left B hb hnb hl _ _ =>
      obtain ⟨a,ha,hba⟩:=hb
      obtain ⟨b,hb',hbb⟩:=hnb
      obtain ⟨i0,j0,g1,g2,rfl⟩:=rsc a ha
      obtain ⟨i1,j1,g3,g4,rfl⟩:=rsc b hb'
      obtain ⟨k,k1,k2,k3,_⟩:=zxx hP (by omega) (P:=B) ⟨i0,j0,g1,g2,hba⟩ ⟨i1,j1,g3,g4,hbb⟩ fun i j i' j' q1 q2 q3 q4 q5 q6=>(zyr hp hi q1 q2 q3 q4).1 (hl _ _ (srm i j q1 q2) q5 (srm i' j' q3 q4) q6)
      have:=nu k k1 k2
      rw [Bool.eq_false_iff,ne_eq,ziq]at this
      apply this
      intro i hi' e
      apply k3 i hi'
      have f1:=sc i (k - 1) hi' (by omega)
      have f2:=sc i k hi' k2
      rw [show t.c+(k - 1)=t.c+k - 1 by omega]at f1
      omega
     | up B hb hnb hl _ _ =>
      obtain ⟨a,ha,hba⟩:=hb
      obtain ⟨b,hb',hbb⟩:=hnb
      obtain ⟨i0,j0,g1,g2,rfl⟩:=rsc a ha
      obtain ⟨i1,j1,g3,g4,rfl⟩:=rsc b hb'
      obtain ⟨k,k1,k2,k3,_⟩:=zxx hP.ex (by omega) (P:=B) ⟨j0,i0,g2,g1,hba⟩ ⟨j1,i1,g4,g3,hbb⟩ fun j i j' i' q2 q1 q4 q3 q5 q6=>(zyr hp hi q1 q2 q3 q4).2 (hl _ _ (srm i j q1 q2) q5 (srm i' j' q3 q4) q6)
      have:=nl k k1 k2
      rw [Bool.eq_false_iff,ne_eq,zio]at this
      apply this
      intro j hj' e
      apply k3 j hj'
      have f1:=sc (k - 1) j (by omega) hj'
      have f2:=sc k j k2 hj'
      rw [show t.r+(k - 1)=t.r+k - 1 by omega]at f1
      simp only[tr]
      omega
   obtain ⟨q,hq⟩:=hcut
   obtain ⟨i1,i2,a1,a2⟩:=hi.cut hq
   obtain ⟨w1,w2⟩:=hw.cut (ze3 hpl) hq
   have hc:=yax hpl hw hq
   have n1:∃ a,Rms p (t.one q) a:=by
    unfold Pt.In at i1
    have:=zcg hpl (i:=(t.one q).r) (j:=(t.one q).c) (by omega) (by omega)
    exact ⟨(zaf p (t.one q).r (t.one q).c).toNat,(t.one q).r,(t.one q).c,by omega,by omega,by omega,by omega,by omega⟩
   have n2:∃ a,Rms p (t.two q) a:=by
    unfold Pt.In at i2
    have:=zcg hpl (i:=(t.two q).r) (j:=(t.two q).c) (by omega) (by omega)
    exact ⟨(zaf p (t.two q).r (t.two q).c).toNat,(t.two q).r,(t.two q).c,by omega,by omega,by omega,by omega,by omega⟩
   obtain ⟨x1,hx1⟩:=z10 hp n w1 (by omega) (hsp.sub (fun a ha=>(((hc a).1).2 ha).1) n1)
   obtain ⟨x2,hx2⟩:=z10 hp n w2 (by omega) (hsp.sub (fun a ha=>(((hc a).2).2 ha).1) n2)
   exact ⟨_,by rw [zfv hi h1 hq,hx1,hx2]⟩
def PL (l:List Int) (i j:Nat):Prop:=i<j∧zcw l i<zcw l j
def PU (l:List Int) (i j:Nat):Prop:=j<i∧¬ zcw l j<zcw l i
theorem zhx (hp:zbk p=true) (v:Nat):Rms p ⟨0,0,p.length,(zag p).length⟩ v↔v<(rP p).length:=by
 constructor
 ·exact ykm hp (zne hp).inn
 intro hv
 obtain ⟨i,j,hi,hj,e⟩:=zrr hv
 have:=zdy hp hi hj
 exact ⟨i,j,Nat.zero_le _,by simpa using hi,Nat.zero_le _,by simpa using hj,by omega⟩
theorem yda (hp:zcd p=true):(∃ x,zck (zaf p) ⟨0,0,p.length,(zag p).length⟩=some x)↔Sp (PL (zf2 p)) (PU (zf2 p)) (· < (zf2 p).length):=by
 have hpl:=zee hp
 have hw:=zne hpl
 have hn:(zf2 p).length=(rP p).length:=zgj
 have hx:∀ i,i<(rP p).length→zcw (zf2 p) i=xI p i:=fun i hi=>zf5 (yfa hp hi)
 have step:Sp (Lf p) (Ab p) (Rms p ⟨0,0,p.length,(zag p).length⟩)↔Sp (PL (zf2 p)) (PU (zf2 p)) (· < (zf2 p).length):=by
  constructor
  ·intro h
   refine h.map (zhu p) (fun i hi=>(zhx hpl _).2 (zen hp (by omega)).1) (fun a ha=>?_) (fun i j hi hj e=>?_) (fun i j hi hj hl=>?_) fun i j hi hj hl=>?_
   ·have ha:=(zhx hpl a).1 ha
    exact ⟨ahK p true a,by rw [hn]; exact zp2 hp ha,zim hp ha⟩
   ·have h1:=(zen hp (i:=i) (by omega)).2.1
    have h2:=(zen hp (i:=j) (by omega)).2.1
    rw [e]at h1; omega
   ·have h1:=zen hp (i:=i) (by omega)
    have:=zq1 hp h1.1 (i:=j) (by omega) hl
    rw [h1.2.1]at this
    unfold PL
    rw [hx i (by omega),hx j (by omega)]; exact this
   have h1:=zen hp (i:=j) (by omega)
   have:=zp0 hp h1.1 (i:=i) (by omega) hl
   rw [h1.2.1]at this
   unfold PU
   rw [hx i (by omega),hx j (by omega)]; exact this
  intro h
  refine h.map (ahK p true) (fun a ha=>by rw [hn]; exact zp2 hp ((zhx hpl a).1 ha)) (fun i hi=>?_) (fun a b ha hb e=>z0c hp ((zhx hpl a).1 ha) ((zhx hpl b).1 hb) e) (fun a b ha hb hl=>?_) fun a b ha hb hl=>?_
  ·have h1:=zen hp (i:=i) (by omega)
   exact ⟨zhu p i,(zhx hpl _).2 h1.1,h1.2.1⟩
  ·have ha:=(zhx hpl a).1 ha
   have hb:=(zhx hpl b).1 hb
   obtain ⟨h1,h2⟩:=hl
   have l2:=zp2 (below:=true) hp hb
   rw [hx _ (by omega),hx _ l2]at h2
   have:=(ycl hp h1 l2).1 h2
   rw [zim hp ha,zim hp hb]at this
   exact this
  have ha:=(zhx hpl a).1 ha
  have hb:=(zhx hpl b).1 hb
  obtain ⟨h1,h2⟩:=hl
  have l2:=zp2 (below:=true) hp ha
  rw [hx _ (by omega),hx _ l2]at h2
  have:=(ycl hp h1 l2).2 h2
  rw [zim hp ha,zim hp hb]at this
  exact this
 rw [← step]
 exact ⟨fun ⟨x,hx⟩=>z2a hp _ hw (qR _) hx,fun h=>z10 hp _ hw (qR _) h⟩
end
end
end Fw
end Go.Proofs.YtbbphnladjdllaaGreat
