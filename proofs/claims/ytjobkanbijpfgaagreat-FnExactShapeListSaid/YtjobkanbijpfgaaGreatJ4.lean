/- Parts of the framework and of the proof: The framework, part hb: a region in which two variables are made, either of them ahead of the other; The cuts of a part, and the first one, gone through; Cuts in the specification, gone through; Cut trees, gone down; what is told along them; Texts along cuts and widths along cuts in the specification, gone through; What comes of parts along first cuts, gone through; Best shapes along cuts; The least shapes in plain words; Best shapes along cuts by the program, gone through; Is a plan cuttable: the program, gone through; All best shapes by the program, gone through; Lists of rows that may be written; What holds of all arguments holds of frozen ones; Best shapes: what the laws want; The laws of best shapes, gone through; All best shapes as rows that may be written; their marks; Widths and texts along cuts, gone through; Widths along cuts in the specification; is a plan cuttable: gone through; Best shapes along cuts: both sides, gone through; The laws of places and slack, gone through; All best shapes exactly: the law gone through; Best shapes along cuts in the specification; their exact law: gone through. -/
import Derived.Test.YtjobkanbijpfgaaGreatJ3
import Derived.Test.YtjobkanbijpfgaaGreatJ1
import Derived.Test.YtjobkanbijpfgaaGreatJ2
set_option linter.all false
namespace Go.Proofs.YtjobkanbijpfgaaGreat
namespace Fw
open Go
open Nat renaming reduceEqDiff → qE, reduceLeDiff → qL, reduceAdd → qA, reduceMul → qM, le_refl → qR
open List renaming append_nil → qN, mapM_append → qP, mapM_cons → qC, mapM_map → qU, range_succ → qS, take_of_length_le → qT
open Bool renaming and_eq_true → qB, false_eq_true → qF
open Option renaming map_some → qO, map_eq_some_iff → qI
open Int renaming reduceToNat → qZ
section
section
variable {P:Program} {T:Tab} {F0:Nat→Prop} {G0:GSt} {w0:World} {N:Nat}
theorem z33 {e:Env} {S:Store} {o:Op} (hc:∀ c,o ≠ .call c) {K1 K2:PV→Store→Prop} (h1:pOp P T e S o K1) (h2:pOp P T e S o K2):pOp P T e S o fun v S'=>K1 v S'∧K2 v S':=by
 cases o with
 | call c=>exact absurd rfl (hc c)
 | alloc t=>exact ⟨h1.1,h1.2,h2.2⟩
 | box t x=>exact ⟨h1.1,h1.2.1,h1.2.2.1,h1.2.2.2,h2.2.2.2⟩
 | buildSlice t n ps =>
  simp only[pOp]at h1 h2 ⊢
  split at h1
  ·rename_i et hk
   rw [hk]at h2
   simp only at h2 ⊢
   refine ⟨h1.1,h1.2.1,?_⟩
   have h1:=h1.2.2
   have h2:=h2.2.2
   split at h1
   ·rename_i cells hf
    rw [hf]at h2
    simp only at h2 ⊢
    exact ⟨h1.1,h1.2,h2.2⟩
   exact h1.elim
  exact h1.elim
 | makeSlice t l c =>
  simp only[pOp]at h1 h2 ⊢
  split at h1
  ·rename_i et q l' q' c' hk e1 e2
   rw [hk,e1,e2]at h2
   simp only at h2 ⊢
   exact ⟨h1.1,h1.2.1,h1.2.2.1,h1.2.2.2.1,h1.2.2.2.2,h2.2.2.2.2⟩
  exact h1.elim
 | makeMap t r=>exact ⟨h1.1,h1.2,h2.2⟩
 | store t a x =>
  simp only[pOp]at h1 h2 ⊢
  split at h1
  ·rename_i o ver off ha
   rw [ha]at h2
   simp only at h2 ⊢
   split at h1
   ·rename_i v et sz cells ho
    rw [ho]at h2
    simp only at h2 ⊢
    exact ⟨h1.1,h1.2.1,h1.2.2.1,h1.2.2.2.1,h1.2.2.2.2.1,h1.2.2.2.2.2,h2.2.2.2.2.2⟩
   exact h1.elim
  exact h1.elim
 | mapUpdate t m k x =>
  simp only[pOp]at h1 h2 ⊢
  split at h1
  ·rename_i kt vt o ver hk hm
   rw [hk,hm]at h2
   simp only at h2 ⊢
   split at h1
   ·rename_i v es ho
    rw [ho]at h2
    simp only at h2 ⊢
    refine ⟨h1.1,h1.2.1,?_⟩
    have h1:=h1.2.2
    have h2:=h2.2.2
    split at h1
    ·rename_i hf; rw [hf]at h2; exact ⟨h1,h2⟩
    ·rename_i hf; rw [hf]at h2; exact ⟨h1,h2⟩
    exact h1.elim
   exact h1.elim
  exact h1.elim
 | _ =>
  simp only[pOp]at h1 h2 ⊢
  rw [zkv]at h1 h2 ⊢
  obtain ⟨v,e1,k1⟩:=h1
  obtain ⟨v',e2,k2⟩:=h2
  rw [e1]at e2
  cases e2
  exact ⟨v,e1,k1,k2⟩
theorem z05 {ops:Array Oper} {o:Oper} {e:Env} {y1 n1 y2 n2:Prop} (h1:zet ops o e y1 n1) (h2:zet ops o e y2 n2):zet ops o e (y1∧y2) (n1∧n2):=by
 unfold zet at *
 split at h1
 ·rename_i h; rw [h]at h2; exact ⟨h1,h2⟩
 ·rename_i h; rw [h]at h2; exact ⟨h1,h2⟩
 exact h1.elim
theorem z5t {R:Option Nat} {nn:Nat} (hT:zb1 P T) {ops:Array Oper} {effs pend keep:List Nat} {Q:Env→Store→Prop} {i:Nat} {r1 r2:List Nat} {e:Env} {F:Nat→Prop} {G:GSt} {a:Act} {w:World}
  (hnc:∀ o:Oper,ops[i]?=some o→∀ c,o.op ≠ .call c)
  (h1:zc8 P T ops effs pend keep Q (i::r1) e G.er) (h2:zc8 P T ops effs pend keep Q (i::r2) e G.er) (hi:Inv F G w) (he:zeu w.heap F G e a) (hn:Next F0 G0 w0 F G w) (hs:a.tmps.size=N) (hd:Marks w0 a.defers w)
  (hdst:∀ o∈ops.toList,∀ d,o.dst=some d→d<N) {Qx:Exit→Act→World→Prop} {K:Act→World→Prop}
  (hK:∀ e' F' G' a' w',zc8 P T ops effs pend keep Q r1 e' G'.er→zc8 P T ops effs pend keep Q r2 e' G'.er→Inv F' G' w'→zeu w'.heap F' G' e' a'→Next F0 G0 w0 F' G' w'→a'.tmps.size=N→Marks w0 a'.defers w'→K a' w') :
  wpOpIn (fnc R) nn P ops Qx i K a w:=by
 simp only[zc8]at h1 h2
 unfold wpOpIn
 cases ho:ops[i]? with
 | none=>rw [ho]at h1; exact h1.elim
 | some o =>
  rw [ho]at h1 h2
  have hnc:=hnc o ho
  have hd1:∀ t,o.dst=some t→t<a.tmps.size:=fun t ht=>by
   rw [hs]; exact hdst o (List.mem_of_getElem? (i:=i) (by simpa using ho)) t ht
  simp only at h1 h2 ⊢
  rcases zju he (z05 h1 h2) with ⟨hw,h1,h2⟩ | ⟨hw,h1,h2⟩
  ·rw [if_pos hw]
   split at h1
   ·rename_i hc
    rw [if_pos hc]at h2
    refine zkt hT hi he (z33 hnc h1 h2) ?_
    intro v cv F' G' w' hk i1 i2 i3
    exact hK _ _ _ _ _ hk.1.2 hk.2.2 i1 ((he.next hi i2).put _ hd1 i3) (hn.trans i2) (by rw [zgx]; exact hs) (by rw [zdo]; exact hd.next hi i2)
   ·rename_i hc
    rw [if_neg hc]at h2
    rw [zd5]at h1 h2
    obtain ⟨v,f1,_,f3⟩:=h1
    obtain ⟨v',g1,_,g3⟩:=h2
    have hv:v=v':=by
     have hop:=z33 hnc (zsp f1) (zsp g1)
     have key:∀ {op:Op},(∀ c,op ≠ .call c)→pFl P T G.er e op v→pFl P T G.er e op v'→v=v':=by
      intro op hc a1 a2
      cases op with
      | call c=>exact absurd rfl (hc c)
      | _=>exact Option.some.inj (a1.symm.trans a2)
     exact key hnc f1 g1
    subst hv
    refine zkt hT hi he (zsp f1) ?_
    rintro v' cv F' G' w' ⟨rfl,hS⟩ i1 i2 i3
    exact hK _ _ _ _ _ (by rw [hS]; exact f3) (by rw [hS]; exact g3) i1 ((he.next hi i2).put _ hd1 i3) (hn.trans i2) (by rw [zgx]; exact hs) (by rw [zdo]; exact hd.next hi i2)
  rw [if_neg (by simp [hw])]
  exact ⟨fun _ _=>trivial,hK _ _ _ _ _ h1 h2 hi (zp1 hi he _ hd1) hn (by rw [zgx]; exact hs) (by rw [zdo]; exact hd)⟩
theorem z2e {R:Option Nat} {nn:Nat} (hT:zb1 P T) {ops:Array Oper} {effs pend keep:List Nat} {Q:Env→Store→Prop} (hdst:∀ o∈ops.toList,∀ d,o.dst=some d→d<N)
  (hdep:∀ (i:Nat) o,ops[i]?=some o→∀ e∈o.after.toList,Region.binds .any e=true→e.on<ops.size) {x0 y0:Nat} (hxy:x0≠y0) (hno1:((prs ops).getD x0 0).testBit y0=false) (hno2:((prs ops).getD y0 0).testBit x0=false)
  (hnc:∀ (i:Nat) (o:Oper),ops[i]?=some o→∀ c,o.op ≠ .call c) :
  ∀ (fuel:Nat) (listed:Array Bool) (l l':List Nat) {e:Env} {F:Nat→Prop} {G:GSt} {a:Act} {w:World},l.length=fuel→l'.length=fuel→x0∈l→y0∈l →
   l.Pairwise (fun x i=>zg9 ops (prs ops) effs pend x i=true∨(x=x0∧i=y0))→l'.Pairwise (fun x i=>zg9 ops (prs ops) effs pend x i=true∨(x=y0∧i=x0))→l.Nodup→l'.Nodup→(∀ x∈l,((prs ops).getD x 0).testBit x=false) →
   listed.size=ops.size→(∀ i,i∈l↔i<ops.size∧listed.getD i true=false)→(∀ i,i∈l'↔i<ops.size∧listed.getD i true=false) →
   (∀ i x,listed.getD i false=true→((prs ops).getD i 0).testBit x=true→x<ops.size→listed.getD x true=true) →
   zc8 P T ops effs pend keep Q l e G.er→zc8 P T ops effs pend keep Q l' e G.er→Inv F G w→zeu w.heap F G e a→Next F0 G0 w0 F G w→a.tmps.size=N→Marks w0 a.defers w →
   wpAnyIn (fnc R) nn P .any ops (Sto F0 G0 w0 N (Nrm Q)) fuel listed a w:=by
 intro fuel
 induction fuel with
 | zero =>
  intro listed l l' e F G a w hl hl' hx0 hy0 hp hp' hnd hnd' hself hsz hmem hmem' hcl h h' hi he hn hs hd
  have hl0:l=[]:=List.eq_nil_of_length_eq_zero hl
  subst hl0
  simp at hx0
 | succ fuel ih =>
  intro listed l l' e F G a w hl hl' hx0 hy0 hp hp' hnd hnd' hself hsz hmem hmem' hcl h h' hi he hn hs hd
  have hmm:∀ i,i∈l↔i∈l':=fun i=>(hmem i).trans (hmem' i).symm
  have bound:∀ i x,((prs ops).getD i 0).testBit x=true→x<ops.size:=by
   have key:∀ n i x,i<n→((prs ops).getD i 0).testBit x=true→x<ops.size:=by
    intro n
    induction n with
    | zero=>intro i x h; omega
    | succ n ihn =>
     intro i x hin hx
     obtain ⟨o,ho,ed,h1,h2,h3⟩:=zn2 hx
     rcases h3 with rfl | ⟨h3,h4⟩
     ·exact hdep i o ho ed h1 h2
     exact ihn ed.on x (by omega) h4
   exact fun i x=>key (i+1) i x (Nat.lt_succ_self _)
  have facts:∀ i,i∈Region.ready .any ops listed→i∈l∧∃ q,ops[i]?=some q∧∀ e∈q.after.toList,Region.binds .any e=true→listed.getD e.on false=true:=by
   intro i hr
   unfold Region.ready at hr
   rw [List.mem_filter]at hr
   obtain ⟨h1,h2⟩:=hr
   have hlt:i<ops.size:=by simpa using h1
   rw [Array.getElem?_eq_getElem hlt]at h2
   simp only[qO,Option.getD_some,qB,Bool.not_eq_true']at h2
   refine ⟨(hmem i).2 ⟨hlt,h2.1⟩,ops[i],Array.getElem?_eq_getElem hlt,fun e he hb=>?_⟩
   have:=h2.2
   rw [Array.all_eq_true_iff_forall_mem]at this
   have:=this e (by simpa using he)
   simpa [hb] using this
  have preds:∀ i,i∈Region.ready .any ops listed→∀ x,((prs ops).getD i 0).testBit x=true→listed.getD x true=true:=by
   intro i hr x hx
   obtain ⟨_,q,hq,hdeps⟩:=facts i hr
   have hxl:=bound i x hx
   obtain ⟨o,ho,ed,h1,h2,h3⟩:=zn2 hx
   rw [hq]at ho
   cases ho
   have hl1:=hdeps ed h1 h2
   rcases h3 with rfl | ⟨_,h3⟩
   ·have hlt:ed.on<listed.size:=by rw [hsz]; exact hxl
    rw [Array.getD_eq_getD_getElem?,Array.getElem?_eq_getElem hlt]at hl1 ⊢
    exact hl1
   exact hcl _ _ hl1 h3 hxl
  refine ⟨fun hr0=>?_,fun i hr=>?_⟩
  ·exfalso
   cases l with
   | nil=>simp at hl
   | cons x l =>
    have hx:=(hmem x).1 (by simp)
    have hready:x∈Region.ready .any ops listed:=by
     unfold Region.ready
     rw [List.mem_filter]
     refine ⟨by simpa using hx.1,?_⟩
     rw [Array.getElem?_eq_getElem hx.1]
     simp only[qO,Option.getD_some,qB,Bool.not_eq_true']
     refine ⟨hx.2,?_⟩
     rw [Array.all_eq_true_iff_forall_mem]
     intro ed hed
     cases hb:Region.binds .any ed with
     | false=>simp
     | true =>
      have hon:=hdep x _ (Array.getElem?_eq_getElem hx.1) ed (by simpa using hed) hb
      have hbit:=zrg (Array.getElem?_eq_getElem hx.1) (by simpa using hed) hb
      cases hq:listed.getD ed.on true with
      | true =>
       have hlt:ed.on<listed.size:=by rw [hsz]; exact hon
       rw [Array.getD_eq_getD_getElem?,Array.getElem?_eq_getElem hlt]at hq ⊢
       simpa using hq
      | false =>
       exfalso
       have hm:=(hmem ed.on).2 ⟨hon,hq⟩
       rcases List.mem_cons.1 hm with he1 | hm
       ·have:=hself x (by simp)
        rw [he1]at hbit
        rw [hbit]at this
        cases this
       rcases List.rel_of_pairwise_cons hp hm with this | ⟨e1,e2⟩
       ·unfold zg9 at this
        rw [hbit]at this
        simp at this
       rw [e1,e2,hno1]at hbit; cases hbit
    rw [hr0]at hready
    simp at hready
  obtain ⟨hil,q,hq,_⟩:=facts i hr
  have hil':=(hmm i).1 hil
  obtain ⟨l1,l2,rfl⟩:=List.append_of_mem hil
  obtain ⟨l3,l4,rfl⟩:=List.append_of_mem hil'
  have good:∀ x,x∈l1++i::l2→zg9 ops (prs ops) effs pend x i=true→∃ p,ops[x]?=some p∧effs.contains x=false∧Oper.apart ops p q=true∧(effs.contains i=true→(pend.contains x=true∧pend.contains i=false)∨zs1 p.op=true):=by
   intro x hx hpair
   have hxm:=(hmem x).1 hx
   have hnb:((prs ops).getD i 0).testBit x=false:=by
    cases hb:((prs ops).getD i 0).testBit x with
    | false=>rfl
    | true=>have:=preds i hr x hb; rw [hxm.2]at this; cases this
   unfold zg9 at hpair
   rw [hnb,hq,Array.getElem?_eq_getElem hxm.1]at hpair
   simp only[Bool.false_or,qB,Bool.not_eq_true',Bool.or_eq_true]at hpair
   refine ⟨ops[x],Array.getElem?_eq_getElem hxm.1,hpair.2.1.1,hpair.2.1.2,fun hc=>?_⟩
   rcases hpair.2.2 with (h1 | h1) | h1
   ·rw [hc]at h1; cases h1
   ·exact .inl h1
   exact .inr h1
  have hlt:i<ops.size:=((hmem i).1 hil).1
  have hgetD:∀ j d,(listed.setIfInBounds i true).getD j d=if j=i then true else listed.getD j d:=by
   intro j d
   rw [Array.getD_eq_getD_getElem?,Array.getD_eq_getD_getElem?]
   by_cases hj:j=i
   ·subst hj; simp [hsz,hlt]
   rw [Array.getElem?_setIfInBounds_ne (Ne.symm hj),if_neg hj]
  have nmem:∀ {m1 m2:List Nat},(m1++i::m2).Nodup→i ∉ m1++m2:=by
   intro m1 m2 hnd hm
   have:=List.nodup_append.1 hnd
   rcases List.mem_append.1 hm with h1 | h1
   ·exact this.2.2 i h1 i (by simp) rfl
   exact (List.nodup_cons.1 this.2.1).1 h1
  have nlist:∀ {m1 m2:List Nat},(m1++i::m2).Nodup→(∀ j,j∈m1++i::m2↔j<ops.size∧listed.getD j true=false)→∀ j,j∈m1++m2↔j<ops.size∧(listed.setIfInBounds i true).getD j true=false:=by
   intro m1 m2 hnd hm j
   rw [hgetD]
   by_cases hj:j=i
   ·subst hj
    rw [if_pos rfl]
    exact ⟨fun h=>(nmem hnd h).elim,fun h=>(by cases h.2)⟩
   rw [if_neg hj,← hm j]
   simp [hj]
  have ncl:∀ (j x:Nat),(listed.setIfInBounds i true).getD j false=true→((prs ops).getD j 0).testBit x=true→x<ops.size→(listed.setIfInBounds i true).getD x true=true:=by
   intro j x h1 h2 h3
   rw [hgetD]at h1 ⊢
   by_cases hx:x=i
   ·rw [if_pos hx]
   rw [if_neg hx]
   by_cases hj:j=i
   ·subst hj; exact preds j hr x h2
   rw [if_neg hj]at h1; exact hcl j x h1 h2 h3
  by_cases ix:i=x0
  ·subst ix
   have hfront:=zez hq l1 (fun x hx=>good x (by simp [hx]) (by
    rcases (List.pairwise_append.1 hp).2.2 x hx i (by simp) with h1 | ⟨e1,e2⟩
    ·exact h1
    exact absurd e2 hxy)) h
   refine zpc hT hfront hi he hn hs hd hdst ?_
   intro e' F' G' a' w' k1 k2 k3 k4 k5 k6
   refine zon hT hdst hdep _ _ (l1++l2) (by simp at hl ⊢; omega) ?_ (hnd.sublist (by simp)) (fun x hx=>hself x (by rcases List.mem_append.1 hx with h9 | h9 <;> simp [h9])) (by simp [hsz]) (nlist hnd hmem) ncl k1 k2 k3 k4 k5 k6
   refine (hp.sublist (by simp)).imp_of_mem (S:=fun x i=>zg9 ops (prs ops) effs pend x i=true) fun {x y} hx hy hh=>?_
   rcases hh with h1 | ⟨e1,e2⟩
   ·exact h1
   exact absurd (e1 ▸ hx) (nmem hnd)
  by_cases iy:i=y0
  ·subst iy
   have hfront:=zez hq l3 (fun x hx=>good x ((hmm x).2 (by simp [hx])) (by
    rcases (List.pairwise_append.1 hp').2.2 x hx i (by simp) with h1 | ⟨e1,e2⟩
    ·exact h1
    exact absurd e2 ix)) h'
   refine zpc hT hfront hi he hn hs hd hdst ?_
   intro e' F' G' a' w' k1 k2 k3 k4 k5 k6
   refine zon hT hdst hdep _ _ (l3++l4) (by simp at hl' ⊢; omega) ?_ (hnd'.sublist (by simp)) (fun x hx=>hself x ((hmm x).2 (by rcases List.mem_append.1 hx with h9 | h9 <;> simp [h9]))) (by simp [hsz]) (nlist hnd' hmem') ncl k1 k2 k3 k4 k5 k6
   refine (hp'.sublist (by simp)).imp_of_mem (S:=fun x i=>zg9 ops (prs ops) effs pend x i=true) fun {x y} hx hy hh=>?_
   rcases hh with h1 | ⟨e1,e2⟩
   ·exact h1
   exact absurd (e1 ▸ hx) (nmem hnd')
  have hf1:=zez hq l1 (fun x hx=>good x (by simp [hx]) (by
   rcases (List.pairwise_append.1 hp).2.2 x hx i (by simp) with h1 | ⟨e1,e2⟩
   ·exact h1
   exact absurd e2 iy)) h
  have hf2:=zez hq l3 (fun x hx=>good x ((hmm x).2 (by simp [hx])) (by
   rcases (List.pairwise_append.1 hp').2.2 x hx i (by simp) with h1 | ⟨e1,e2⟩
   ·exact h1
   exact absurd e2 ix)) h'
  refine z5t hT (hnc i) hf1 hf2 hi he hn hs hd hdst ?_
  intro e' F' G' a' w' k1 k1' k2 k3 k4 k5 k6
  have hx1:x0∈l1++l2:=by have:=hx0; simp only[List.mem_append,List.mem_cons]at this ⊢; rcases this with h9 | h9 | h9 <;> first | exact .inl h9 | exact .inr h9 | exact absurd h9.symm ix
  have hy1:y0∈l1++l2:=by have:=hy0; simp only[List.mem_append,List.mem_cons]at this ⊢; rcases this with h9 | h9 | h9 <;> first | exact .inl h9 | exact .inr h9 | exact absurd h9.symm iy
  exact ih _ (l1++l2) (l3++l4) (by simp at hl ⊢; omega) (by simp at hl' ⊢; omega) hx1 hy1 (hp.sublist (by simp)) (hp'.sublist (by simp)) (hnd.sublist (by simp)) (hnd'.sublist (by simp)) (fun x hx=>hself x (by rcases List.mem_append.1 hx with h9 | h9 <;> simp [h9])) (by simp [hsz])
   (nlist hnd hmem) (nlist hnd' hmem') ncl k1 k1' k2 k3 k4 k5 k6
def z14 (ops:Array Oper) (l l' effs pend:List Nat) (a b:Nat):Bool :=
 let B:=prs ops
 zl6 (fun x i=>zg9 ops B effs pend x i || (x == a && i == b)) l && zl6 (fun x i=>zg9 ops B effs pend x i || (x == b && i == a)) l' && l.length == ops.size && l'.length == ops.size && l.all (fun x=>decide (x<ops.size) && !(B.getD x 0).testBit x) && l'.all (fun x=>decide (x<ops.size)) &&
 ((List.range ops.size).all l.contains) && ((List.range ops.size).all l'.contains) && (ops.toList.all fun o=>o.after.toList.all fun e => !Region.binds .any e || decide (e.on<ops.size)) &&
 !(a == b) && l.contains a && l.contains b && !(B.getD a 0).testBit b && !(B.getD b 0).testBit a && ops.toList.all fun o=>match o.op with | .call _=>false | _=>true
theorem W.region_two {Q:Exit→Env→Store→Prop} {e:Env} {S:Store} {id:Nat} {ops:Array Oper} (l l' effs pend keep:List Nat) (a b:Nat) (hc:z14 ops l l' effs pend a b=true) (h:zc8 P T ops effs pend keep (Q .normal) l e S) (h':zc8 P T ops effs pend keep (Q .normal) l' e S) :
  W P T (.region id ops true) Q e S:=by
 refine ⟨?_⟩
 intro hT hm F0 G0 w0 N F G act w h3 h4 h5 h6 h7 h8 h9 R nn
 subst h3
 unfold z14 at hc
 simp only[qB,beq_iff_eq,List.all_eq_true,decide_eq_true_eq,Bool.not_eq_true',List.contains_eq_mem,List.mem_range,Bool.or_eq_true,beq_eq_false_iff_ne]at hc
 obtain ⟨⟨⟨⟨⟨⟨⟨⟨⟨⟨⟨⟨⟨⟨c1,c1'⟩,c2⟩,c2'⟩,c3⟩,c3'⟩,c4⟩,c4'⟩,c5⟩,c6⟩,c7⟩,c8⟩,c9⟩,c10⟩,c11⟩:=hc
 obtain ⟨p1,p2⟩:=zgw c1
 obtain ⟨p1',p2'⟩:=zgw c1'
 have hin:∀ i,i<ops.size↔i<ops.size∧(Array.replicate ops.size false).getD i true=false:=by
  intro i
  constructor
  ·intro hi; refine ⟨hi,?_⟩; rw [Array.getD_eq_getD_getElem?]; simp [hi]
  exact fun h=>h.1
 refine wpIn_mono (wpIn_region_any hm (z2e (Q:=Q .normal) hT (zwx h9) ?_ c6 c9 c10 ?_ ops.size (Array.replicate ops.size false) l l' c2 c2' (by simpa using c7) (by simpa using c8) (p1.imp fun h=>by simpa using h) (p1'.imp fun h=>by simpa using h) p2 p2' (fun x hx=>(c3 x hx).2) (by simp) ?_ ?_ ?_ h h' (h4.drew) h5 (h6.drew) h7 h8)) z3o
 ·intro i o ho ed hed hb
  have hmem:o∈ops.toList:=by
   have:=Array.mem_of_getElem? ho
   simpa using this
  have:=c5 o hmem ed hed
  rw [hb]at this
  simpa using this
 ·intro i o ho c hcc
  have hmem:o∈ops.toList:=by
   have:=Array.mem_of_getElem? ho
   simpa using this
  have:=c11 o hmem
  rw [hcc]at this
  simp at this
 ·exact fun i=>⟨fun hi=>(hin i).1 (c3 i hi).1,fun hi=>c4 i hi.1⟩
 ·exact fun i=>⟨fun hi=>(hin i).1 (c3' i hi),fun hi=>c4' i hi.1⟩
 intro i x hx
 rw [Array.getD_eq_getD_getElem?]at hx
 simp only[Array.getElem?_replicate]at hx
 split at hx <;> cases hx
theorem zop {all:List Oper} {effs pend:List Nat} {K:Env→Store→Prop} (heff:∀ (i:Nat) (o:Oper),all[i]?=some o→effs.contains i=false→zew o.op=true) {x:Nat} {cs:List PV} {off:Nat}
  (hx:∀ (i:Nat) (o:Oper),all[i]?=some o→o.dst≠some x) (hpe:∀ (i:Nat) (o:Oper),all[i]?=some o→pend.contains i=true→∃ t,o.op = .load t (.tmp x)):∀ (r:List Nat) (l:List Oper) {e:Env} {S:Store},e x = .ip cs off→r.map (all[·]?)=l.map some →
  zbu false P T (dsts all) l e S K→zc8 P T all.toArray effs pend [] K r e S
 | [],l,e,S,_,hl,h=>by
  cases l with
  | nil=>exact h
  | cons o l=>simp at hl
 | i::r,l,e,S,hex,hl,h=>by
  cases l with
  | nil=>simp at hl
  | cons o l =>
   simp only[List.map_cons,List.cons.injEq]at hl
   obtain ⟨ho,hl⟩:=hl
   have hput:∀ v,(e.put o.dst v) x = .ip cs off:=fun v=>by
    have:=hx i o ho
    cases hd:o.dst with
    | none=>exact hex
    | some d=>rw [zst,if_neg (fun e1=>this (by rw [hd,e1]))]; exact hex
   unfold zbu at h
   simp only[zc8,List.getElem?_toArray,ho]
   rw [zjs]at h
   unfold zet
   split at h
   ·rename_i hg
    rw [hg]
    simp only
    split
    ·exact zfv (fun v S' hv=>⟨.inr (by intro o ho; cases ho),zop heff hx hpe r l (hput v) hl hv⟩) (zjz h)
    rename_i hc
    have:=zki (heff i o ho (by simpa using hc)) h
    rw [zd5]at this ⊢
    obtain ⟨v,h1,h2⟩:=this
    refine ⟨v,h1,?_,zop heff hx hpe r l (hput v) hl h2⟩
    split
    ·rename_i hp
     obtain ⟨t,ht⟩:=hpe i o ho hp
     intro S' _
     rw [ht]at h1 ⊢
     simp only[pFl,zdz,z2i,hex,zsq]at h1 ⊢
     exact h1
    trivial
   ·rename_i hg; rw [hg]; exact zop heff hx hpe r l (hput _) hl h
   exact h.elim
def yb6 (l:List Oper) (effs pend:List Nat) (x:Nat):Bool :=
 l.all (fun o=>o.dst != some x) && (l.zipIdx.all fun q => !pend.contains q.2 || (match q.1.op with | .load _ (.tmp y)=>y == x | _=>false))
theorem W.draw_two {Q:Exit→Env→Store→Prop} {e:Env} {S:Store} {id:Nat} {l r1 r2:List Oper} (l1 l2 pend:List Nat) (a b x:Nat) {cs:List PV} {off:Nat} (hex:e x = .ip cs off) (hc:z14 l.toArray l1 l2 (zcg l 0) pend a b=true) (ho:yb6 l (zcg l 0) pend x=true)
  (hr:l1.map (l[·]?)=r1.map some) (hr2:l2.map (l[·]?)=r2.map some)
  (h1:∀ K:Env→Store→Prop,(∀ e S,Q .normal e S→K e S)→zbu false P T (dsts l) r1 e S K) (h2:∀ K:Env→Store→Prop,(∀ e S,Q .normal e S→K e S)→zbu false P T (dsts l) r2 e S K):W P T (.region id l.toArray true) Q e S:=by
 unfold yb6 at ho
 simp only[qB,List.all_eq_true,bne_iff_ne,Bool.or_eq_true,Bool.not_eq_true']at ho
 have heff:∀ (i:Nat) (o:Oper),l[i]?=some o→(zcg l 0).contains i=false→zew o.op=true:=by
  intro i o hio hc
  have:=zjq l 0 i o hio
  rw [Nat.zero_add]at this
  cases hf:zew o.op with
  | true=>rfl
  | false=>have:=this.2 hf; simp at hc; exact absurd this hc
 have hx:∀ (i:Nat) (o:Oper),l[i]?=some o→o.dst≠some x:=fun i o hio=>ho.1 o (List.mem_of_getElem? hio)
 have hpe:∀ (i:Nat) (o:Oper),l[i]?=some o→pend.contains i=true→∃ t,o.op = .load t (.tmp x):=by
  intro i o hio hp
  rcases ho.2 (o,i) (List.mem_of_getElem? (i:=i) (by simp [List.getElem?_zipIdx,hio])) with h | h
  ·rw [hp]at h; cases h
  simp only at h
  split at h
  ·rename_i t y hop; exact ⟨t,by rw [hop,beq_iff_eq.1 h]⟩
  cases h
 exact W.region_two l1 l2 (zcg l 0) pend [] a b hc (zop heff hx hpe _ _ hex hr (h1 _ fun _ _ h=>h)) (zop heff hx hpe _ _ hex hr2 (h2 _ fun _ _ h=>h))
end
end
theorem zae {a b:Nat}:((a+b:Nat):Int) - (a:Int)=(b:Int):=by omega
theorem zxj {p:List Txt} (hp:zcz p=true):GW (gP p) p.length (zax p).length:=by
 rw [← zhk]at hp
 simp only[zfq,qB]at hp
 have:=z3x hp.1
 rwa [zg3]at this
theorem z6n {p:List Txt} (hp:zcz p=true) {t:Pt} (ht:t.In p.length (zax p).length) (l:Nat) (a b c d:Ob) (tk:Nat) (B C D:Bool × Nat→Ob)
  (hy:∀ q,zdn (zao p) t=some q→∀ (x y:Ob) (tk2:Nat),tk≤tk2→Ey Tryz.prog l [zyq (gP p) (rP p) t q] ⟨[a,b,c,d,x,y],tk2⟩ fun v S=>v = .bool false∧∃ tk3,S=⟨[a,B q,C q,D q,x,y],tk3⟩):Ev Tryz.prog 140 [.yl l,.ip (zaw (gP p) (rP p)::t.rect.cells) 0] ⟨[a,b,c,d],tk⟩ fun v S=>(∃ tk2,zdn (zao p) t=none∧S=⟨[a,b,c,d],tk2⟩)∨∃ q tk2,zdn (zao p) t=some q∧S=⟨[a,B q,C q,D q],tk2⟩:=by
 have hsm:=zbk (zec hp)
 obtain ⟨t1,t2,t3,t4⟩:=id ht
 have hgw:=zxj hp
 obtain ⟨g1,g2,g3,g4⟩:=hgw.2.2
 simp only[Pt.rect,Rect.cells]
 refine Ev.of ⟨Tryz.func140,by kernel_rfl,rfl,by kernel_rfl⟩ za4 mixed (by show 2≤Tryz.f140.ntmps; decide) ?_
 refine W.seq ?_
 refine W.r fun K hK=>?_
 simp(disch:=omega)only[↓RU,RV,RH,↓reduceIte,qE,reduceCtorEq,if_pos,w64,↓RS,RG,qA,qM,qL,ty5,ty9,zbg,zaa,zb5,zbh,zae]
 apply hK;clear hK K
 refine W.block ?_
 refine W.loop [0,1,3] (fun n vs S=>∃ k tk2:Nat,n=t.w - k∧1≤k∧k≤t.w∧(∀ j,1≤j→j<k→thU (zao p) t j=false)∧tk≤tk2∧vs=[.yl l,.ip [zaw (gP p) (rP p),.int .i64 t.r,.int .i64 t.c,.int .i64 t.h,.int .i64 t.w] 0,.int .i64 ((t.c+k:Nat):Int)]∧S=⟨[a,b,c,d],tk2⟩) (t.w - 1) ?_ ?_
 ·refine ⟨4,1,_,rfl,by omega,by omega,fun j _ _=>by omega,qR _,?_,rfl⟩
  simp [Env.put,Env.of,zad]
 rintro n vs S - ⟨k,tk2,rfl,hk1,h_k,hall,htk,rfl,rfl⟩
 refine W.seq ?_
 refine W.r fun K hK=>?_
 simp(disch:=omega)only[↓RU,RV,RH,↓reduceIte,qE,reduceCtorEq,if_pos,w64,↓RS,RG,qA,qM,qL,ty5,ty9,zbg,zaa,zb5,zbh,zae]
 apply hK;clear hK K
 refine W.cond rfl (fun h=>?_) (fun h=>?_)
 ·try simp only[RL]at h
  have hgu:=yc1 hp ht hk1 (show k<t.w by omega)
  have e1:((t.w:Nat):Int) - ((k:Nat):Int)=((t.w - k:Nat):Int):=by omega
  refine W.skip ?_
  refine xn ?_
  refine W.seq ?_
  refine W.block ?_
  refine W.seq (W.draw_two (r1:=[_,_,_,_,_,_]) (r2:=[_,_,_,_,_,_]) [0,1,2,3,4,5] [0,1,3,2,4,5] [0,1] 2 3 1 rfl (by kernel_rfl) (by kernel_rfl) rfl rfl (fun K hK=>?_) (fun K hK=>?_))
  ·simp(disch:=omega)only[↓RU,RV,RH,↓reduceIte,qE,reduceCtorEq,if_pos,↓RS,RG,qA,qM,qL,ty5,ty9,zbg,zaa,zb5,zbh,zae]
   apply hK;clear hK K
   refine xn ?_
   refine W.r fun K hK=>?_
   simp(disch:=omega)only[↓RU,RV,RH,↓reduceIte,qE,reduceCtorEq,if_pos,w64,↓RS,RG,qA,qM,qL,ty5,ty9,zbg,zaa,zb5,zbh,zae]
   apply hK;clear hK K
   refine W.seq_pk 11 [some 34,some 35,some 36,some 37,some 38,some 39] [4] (by decide) (by kernel_rfl) fun K hK=>?_
   simp only[List.take_succ_cons,List.take_zero,List.drop_succ_cons,List.drop_zero]
   refine zbb rfl ?_
   simp(disch:=omega)only[↓RU,RV,RH,↓reduceIte,qE,reduceCtorEq,if_pos,w64,↓RS,RG,qA,qM,qL,ty5,ty9,zbg,zaa,zb5,zbh,zae,e1,zap,zaz]
   refine za0 (.ip [zaw (gP p) (rP p),.int .i64 t.r,.int .i64 t.c,.int .i64 t.h,.int .i64 t.w] 1) rfl rfl rfl (fun S' hS=>?_) ?_
   ·skip
    have k4:=(hS 4 (by decide)).trans (show _=some _ from rfl)
    simp(disch:=omega)only[↓RU,RV,RH,↓reduceIte,qE,reduceCtorEq,if_pos,w64,↓RS,RG,qA,qM,qL,ty5,ty9,zbg,zaa,zb5,zbh,zae,e1,zbv,zco,zdh,zdi,k4]
   refine za0 (.ip [zaw (gP p) (rP p),.int .i64 t.r,.int .i64 t.c,.int .i64 t.h,.int .i64 t.w] 4) rfl rfl rfl (fun S' hS=>?_) ?_
   ·skip
    have k4:=(hS 4 (by decide)).trans (show _=some _ from rfl)
    simp(disch:=omega)only[↓RU,RV,RH,↓reduceIte,qE,reduceCtorEq,if_pos,w64,↓RS,RG,qA,qM,qL,ty5,ty9,zbg,zaa,zb5,zbh,zae,e1,zbv,zco,zdh,zdi,k4]
   refine za0 (.int .i64 t.w) rfl rfl rfl (fun S' hS=>?_) ?_
   ·skip
    have k4:=(hS 4 (by decide)).trans (show _=some _ from rfl)
    simp(disch:=omega)only[↓RU,RV,RH,↓reduceIte,qE,reduceCtorEq,if_pos,w64,↓RS,RG,qA,qM,qL,ty5,ty9,zbg,zaa,zb5,zbh,zae,e1,zbv,zco,zdh,zdi,k4]
   refine za0 (.ref 4 tk2 1) rfl rfl rfl (fun S' hS=>?_) ?_
   ·skip
    have k4:=(hS 4 (by decide)).trans (show _=some _ from rfl)
    simp(disch:=omega)only[↓RU,RV,RH,↓reduceIte,qE,reduceCtorEq,if_pos,w64,↓RS,RG,qA,qM,qL,ty5,ty9,zbg,zaa,zb5,zbh,zae,e1,zbv,zco,zdh,zdi,k4]
   refine za0 (.ref 4 tk2 4) rfl rfl rfl (fun S' hS=>?_) ?_
   ·skip
    have k4:=(hS 4 (by decide)).trans (show _=some _ from rfl)
    simp(disch:=omega)only[↓RU,RV,RH,↓reduceIte,qE,reduceCtorEq,if_pos,w64,↓RS,RG,qA,qM,qL,ty5,ty9,zbg,zaa,zb5,zbh,zae,e1,zbv,zco,zdh,zdi,k4]
   refine za0 (.int .i64 k) rfl rfl rfl (fun S' hS=>?_) ?_
   ·skip
    have k4:=(hS 4 (by decide)).trans (show _=some _ from rfl)
    simp(disch:=omega)only[↓RU,RV,RH,↓reduceIte,qE,reduceCtorEq,if_pos,w64,↓RS,RG,qA,qM,qL,ty5,ty9,zbg,zaa,zb5,zbh,zae,e1,zbv,zco,zdh,zdi,k4]
   refine zbb rfl ?_
   simp(disch:=omega)only[↓RU,RV,RH,↓reduceIte,qE,reduceCtorEq,if_pos,w64,↓RS,RG,qA,qM,qL,ty5,ty9,zbg,zaa,zb5,zbh,zae,e1,zap,zaz]
   refine zbb rfl ?_
   simp(disch:=omega)only[↓RU,RV,RH,↓reduceIte,qE,reduceCtorEq,if_pos,w64,↓RS,RG,qA,qM,qL,ty5,ty9,zbg,zaa,zb5,zbh,zae,e1,zap,zaz]
   refine zbb rfl ?_
   simp(disch:=omega)only[↓RU,RV,RH,↓reduceIte,qE,reduceCtorEq,if_pos,w64,↓RS,RG,qA,qM,qL,ty5,ty9,zbg,zaa,zb5,zbh,zae,e1,zap,zaz]
   refine zbb rfl ?_
   simp(disch:=omega)only[↓RU,RV,RH,↓reduceIte,qE,reduceCtorEq,if_pos,w64,↓RS,RG,qA,qM,qL,ty5,ty9,zbg,zaa,zb5,zbh,zae,e1,zap,zaz]
   refine ze9 ?_
   simp(disch:=omega)only[↓RU,RV,RH,↓reduceIte,qE,reduceCtorEq,if_pos,w64,↓RS,RG,qA,qM,qL,ty5,ty9,zbg,zaa,zb5,zbh,zae,e1]
   apply hK;clear hK K
   refine W.r fun K hK=>?_
   cases hth:thU (zao p) t k
   ·skip
    simp(disch:=omega)only[↓RU,RV,RH,↓reduceIte,qE,reduceCtorEq,if_pos,qN,↓RS,RG,qA,qM,qL,ty5,zbm,ty9,zgp,zbg,zaa,zb5,zgq,zbh,zae,hgu,hth]
    refine zag.pc (zef hgw (rP p) ht (level:=false) (line:=t.c+k) (by omega) (by simp; omega)) rfl (.inl rfl) ?_
    simp(disch:=omega)only[↓RU,RV,RH,↓reduceIte,qE,reduceCtorEq,if_pos,qN,↓RS,RG,qA,qM,qL,ty5,zbm,ty9,zgp,zbg,zaa,zb5,zgq,zbh,zae,hgu,hth]
    apply hK;clear hK K
    refine W.cond rfl (fun h1=>?_) (fun h1=>?_)
    ·try simp only[RL]at h1
     exact absurd h1 (by simp)
    try simp only[RL]at h1
    refine W.skip ?_
    refine XbN ?_
    refine xn ?_
    refine W.k fun K hK=>?_
    simp(disch:=omega)only[↓RU,RV,RH,↓reduceIte,qE,reduceCtorEq,if_pos,w64,↓RS,RG,qA,qM,qL,zaa,zae]
    apply hK;clear hK K
    refine xn ?_
    refine ⟨t.w - (k+1),by omega,4,k+1,_,rfl,by omega,by omega,fun j j1 j2=>?_,?_,?_,rfl⟩
    ·rcases Nat.lt_succ_iff_lt_or_eq.1 j2 with h | rfl
     ·exact hall j j1 h
     exact hth
    ·exact Nat.le_trans htk (Nat.le_add_right _ 2)
    simp [Env.put,Env.of]; omega
   skip
   have hq:zdn (zao p) t=some (false,k):=by unfold zdn; rw [zel.2 ⟨hk1,by omega,hth,hall⟩]
   simp(disch:=omega)only[↓RU,RV,RH,↓reduceIte,qE,reduceCtorEq,if_pos,qN,↓RS,RG,qA,qM,qL,ty5,zbm,ty9,zgp,zbg,zaa,zb5,zgq,zbh,zae,hgu,hth]
   refine zag.pc (zef hgw (rP p) ht (level:=false) (line:=t.c+k) (by omega) (by simp; omega)) rfl (.inl rfl) ?_
   simp(disch:=omega)only[↓RU,RV,RH,↓reduceIte,qE,reduceCtorEq,if_pos,qN,↓RS,RG,qA,qM,qL,ty5,zbm,ty9,zgp,zbg,zaa,zb5,zgq,zbh,zae,hgu,hth]
   refine zwl.ey (hy _ hq _ _ _ (Nat.le_trans htk (Nat.le_add_right _ 2))) ?_
   rintro _ _ ⟨rfl,tk3,rfl⟩
   simp(disch:=omega)only[↓RU,RV,RH,↓reduceIte,qE,reduceCtorEq,if_pos,qN,↓RS,RG,qA,qM,qL,ty5,zbm,ty9,zgp,zbg,zaa,zb5,zgq,zbh,zae,hgu,hth]
   apply hK;clear hK K
   refine W.cond rfl (fun h1=>?_) (fun h1=>?_)
   ·try simp only[RL]at h1
    refine W.ret ?_
    refine XBlock.ret ?_
    refine XThen.ret ?_
    refine XThen.ret ?_
    refine XBlock.ret ?_
    refine XThen.ret ?_
    refine Br rfl ?_
    exact ⟨4,.inr ⟨_,_,hq,rfl⟩⟩
   try simp only[RL]at h1
   exact absurd h1 (by simp)
  simp(disch:=omega)only[↓RU,RV,RH,↓reduceIte,qE,reduceCtorEq,if_pos,↓RS,RG,qA,qM,qL,ty5,ty9,zbg,zaa,zb5,zbh,zae]
  apply hK;clear hK K
  refine xn ?_
  refine W.r fun K hK=>?_
  simp(disch:=omega)only[↓RU,RV,RH,↓reduceIte,qE,reduceCtorEq,if_pos,w64,↓RS,RG,qA,qM,qL,ty5,ty9,zbg,zaa,zb5,zbh,zae]
  apply hK;clear hK K
  refine W.seq_pk 11 [some 34,some 35,some 36,some 37,some 38,some 39] [5] (by decide) (by kernel_rfl) fun K hK=>?_
  simp only[List.take_succ_cons,List.take_zero,List.drop_succ_cons,List.drop_zero]
  refine zbb rfl ?_
  simp(disch:=omega)only[↓RU,RV,RH,↓reduceIte,qE,reduceCtorEq,if_pos,w64,↓RS,RG,qA,qM,qL,ty5,ty9,zbg,zaa,zb5,zbh,zae,e1,zap,zaz]
  refine za0 (.ip [zaw (gP p) (rP p),.int .i64 t.r,.int .i64 t.c,.int .i64 t.h,.int .i64 t.w] 1) rfl rfl rfl (fun S' hS=>?_) ?_
  ·skip
   have k5:=(hS 5 (by decide)).trans (show _=some _ from rfl)
   simp(disch:=omega)only[↓RU,RV,RH,↓reduceIte,qE,reduceCtorEq,if_pos,w64,↓RS,RG,qA,qM,qL,ty5,ty9,zbg,zaa,zb5,zbh,zae,e1,zbv,zco,zdh,zdi,k5]
  refine za0 (.ip [zaw (gP p) (rP p),.int .i64 t.r,.int .i64 t.c,.int .i64 t.h,.int .i64 t.w] 4) rfl rfl rfl (fun S' hS=>?_) ?_
  ·skip
   have k5:=(hS 5 (by decide)).trans (show _=some _ from rfl)
   simp(disch:=omega)only[↓RU,RV,RH,↓reduceIte,qE,reduceCtorEq,if_pos,w64,↓RS,RG,qA,qM,qL,ty5,ty9,zbg,zaa,zb5,zbh,zae,e1,zbv,zco,zdh,zdi,k5]
  refine za0 (.int .i64 t.w) rfl rfl rfl (fun S' hS=>?_) ?_
  ·skip
   have k5:=(hS 5 (by decide)).trans (show _=some _ from rfl)
   simp(disch:=omega)only[↓RU,RV,RH,↓reduceIte,qE,reduceCtorEq,if_pos,w64,↓RS,RG,qA,qM,qL,ty5,ty9,zbg,zaa,zb5,zbh,zae,e1,zbv,zco,zdh,zdi,k5]
  refine za0 (.ref 5 (tk2+1) 1) rfl rfl rfl (fun S' hS=>?_) ?_
  ·skip
   have k5:=(hS 5 (by decide)).trans (show _=some _ from rfl)
   simp(disch:=omega)only[↓RU,RV,RH,↓reduceIte,qE,reduceCtorEq,if_pos,w64,↓RS,RG,qA,qM,qL,ty5,ty9,zbg,zaa,zb5,zbh,zae,e1,zbv,zco,zdh,zdi,k5]
  refine za0 (.ref 5 (tk2+1) 4) rfl rfl rfl (fun S' hS=>?_) ?_
  ·skip
   have k5:=(hS 5 (by decide)).trans (show _=some _ from rfl)
   simp(disch:=omega)only[↓RU,RV,RH,↓reduceIte,qE,reduceCtorEq,if_pos,w64,↓RS,RG,qA,qM,qL,ty5,ty9,zbg,zaa,zb5,zbh,zae,e1,zbv,zco,zdh,zdi,k5]
  refine za0 (.int .i64 k) rfl rfl rfl (fun S' hS=>?_) ?_
  ·skip
   have k5:=(hS 5 (by decide)).trans (show _=some _ from rfl)
   simp(disch:=omega)only[↓RU,RV,RH,↓reduceIte,qE,reduceCtorEq,if_pos,w64,↓RS,RG,qA,qM,qL,ty5,ty9,zbg,zaa,zb5,zbh,zae,e1,zbv,zco,zdh,zdi,k5]
  refine zbb rfl ?_
  simp(disch:=omega)only[↓RU,RV,RH,↓reduceIte,qE,reduceCtorEq,if_pos,w64,↓RS,RG,qA,qM,qL,ty5,ty9,zbg,zaa,zb5,zbh,zae,e1,zap,zaz]
  refine zbb rfl ?_
  simp(disch:=omega)only[↓RU,RV,RH,↓reduceIte,qE,reduceCtorEq,if_pos,w64,↓RS,RG,qA,qM,qL,ty5,ty9,zbg,zaa,zb5,zbh,zae,e1,zap,zaz]
  refine zbb rfl ?_
  simp(disch:=omega)only[↓RU,RV,RH,↓reduceIte,qE,reduceCtorEq,if_pos,w64,↓RS,RG,qA,qM,qL,ty5,ty9,zbg,zaa,zb5,zbh,zae,e1,zap,zaz]
  refine zbb rfl ?_
  simp(disch:=omega)only[↓RU,RV,RH,↓reduceIte,qE,reduceCtorEq,if_pos,w64,↓RS,RG,qA,qM,qL,ty5,ty9,zbg,zaa,zb5,zbh,zae,e1,zap,zaz]
  refine ze9 ?_
  simp(disch:=omega)only[↓RU,RV,RH,↓reduceIte,qE,reduceCtorEq,if_pos,w64,↓RS,RG,qA,qM,qL,ty5,ty9,zbg,zaa,zb5,zbh,zae,e1]
  apply hK;clear hK K
  refine W.r fun K hK=>?_
  cases hth:thU (zao p) t k
  ·skip
   simp(disch:=omega)only[↓RU,RV,RH,↓reduceIte,qE,reduceCtorEq,if_pos,qN,↓RS,RG,qA,qM,qL,ty5,zbm,ty9,zgp,zbg,zaa,zb5,zgq,zbh,zae,hgu,hth]
   refine zag.pc (zef hgw (rP p) ht (level:=false) (line:=t.c+k) (by omega) (by simp; omega)) rfl (.inl rfl) ?_
   simp(disch:=omega)only[↓RU,RV,RH,↓reduceIte,qE,reduceCtorEq,if_pos,qN,↓RS,RG,qA,qM,qL,ty5,zbm,ty9,zgp,zbg,zaa,zb5,zgq,zbh,zae,hgu,hth]
   apply hK;clear hK K
   refine W.cond rfl (fun h1=>?_) (fun h1=>?_)
   ·try simp only[RL]at h1
    exact absurd h1 (by simp)
   try simp only[RL]at h1
   refine W.skip ?_
   refine XbN ?_
   refine xn ?_
   refine W.k fun K hK=>?_
   simp(disch:=omega)only[↓RU,RV,RH,↓reduceIte,qE,reduceCtorEq,if_pos,w64,↓RS,RG,qA,qM,qL,zaa,zae]
   apply hK;clear hK K
   refine xn ?_
   refine ⟨t.w - (k+1),by omega,4,k+1,_,rfl,by omega,by omega,fun j j1 j2=>?_,?_,?_,rfl⟩
   ·rcases Nat.lt_succ_iff_lt_or_eq.1 j2 with h | rfl
    ·exact hall j j1 h
    exact hth
   ·exact Nat.le_trans htk (Nat.le_add_right _ 2)
   simp [Env.put,Env.of]; omega
  skip
  have hq:zdn (zao p) t=some (false,k):=by unfold zdn; rw [zel.2 ⟨hk1,by omega,hth,hall⟩]
  simp(disch:=omega)only[↓RU,RV,RH,↓reduceIte,qE,reduceCtorEq,if_pos,qN,↓RS,RG,qA,qM,qL,ty5,zbm,ty9,zgp,zbg,zaa,zb5,zgq,zbh,zae,hgu,hth]
  refine zag.pc (zef hgw (rP p) ht (level:=false) (line:=t.c+k) (by omega) (by simp; omega)) rfl (.inl rfl) ?_
  simp(disch:=omega)only[↓RU,RV,RH,↓reduceIte,qE,reduceCtorEq,if_pos,qN,↓RS,RG,qA,qM,qL,ty5,zbm,ty9,zgp,zbg,zaa,zb5,zgq,zbh,zae,hgu,hth]
  refine zwl.ey (hy _ hq _ _ _ (Nat.le_trans htk (Nat.le_add_right _ 2))) ?_
  rintro _ _ ⟨rfl,tk3,rfl⟩
  simp(disch:=omega)only[↓RU,RV,RH,↓reduceIte,qE,reduceCtorEq,if_pos,qN,↓RS,RG,qA,qM,qL,ty5,zbm,ty9,zgp,zbg,zaa,zb5,zgq,zbh,zae,hgu,hth]
  apply hK;clear hK K
  refine W.cond rfl (fun h1=>?_) (fun h1=>?_)
  ·try simp only[RL]at h1
   refine W.ret ?_
   refine XBlock.ret ?_
   refine XThen.ret ?_
   refine XThen.ret ?_
   refine XBlock.ret ?_
   refine XThen.ret ?_
   refine Br rfl ?_
   exact ⟨4,.inr ⟨_,_,hq,rfl⟩⟩
  try simp only[RL]at h1
  exact absurd h1 (by simp)
 try simp only[RL]at h
 obtain rfl:k=t.w:=by omega
 refine W.exit ?_
 refine xe ?_
 refine xe ?_
 refine XBlock.hit ?_
 refine xn ?_
 refine W.r fun K hK=>?_
 simp(disch:=omega)only[↓RU,RV,RH,↓reduceIte,qE,reduceCtorEq,if_pos,w64,↓RS,RG,qA,qM,qL,ty5,ty9,zbg,zaa,zb5,zbh,zae]
 apply hK;clear hK K
 refine W.block ?_
 refine W.loop [0,1,6] (fun n vs S=>∃ k tk2:Nat,n=t.h - k∧1≤k∧k≤t.h∧(∀ j,1≤j→j<k→thL (zao p) t j=false)∧tk≤tk2∧vs=[.yl l,.ip [zaw (gP p) (rP p),.int .i64 t.r,.int .i64 t.c,.int .i64 t.h,.int .i64 t.w] 0,.int .i64 ((t.r+k:Nat):Int)]∧S=⟨[a,b,c,d],tk2⟩) (t.h - 1) ?_ ?_
 ·refine ⟨4,1,_,rfl,by omega,by omega,fun j _ _=>by omega,htk,?_,rfl⟩
  simp [Env.put,Env.of,zad]
 rintro n vs S - ⟨k,tk2,rfl,hk1,h_k,hall2,htk,rfl,rfl⟩
 refine W.seq ?_
 refine W.r fun K hK=>?_
 simp(disch:=omega)only[↓RU,RV,RH,↓reduceIte,qE,reduceCtorEq,if_pos,w64,↓RS,RG,qA,qM,qL,ty5,ty9,zbg,zaa,zb5,zbh,zae]
 apply hK;clear hK K
 refine W.cond rfl (fun h=>?_) (fun h=>?_)
 ·try simp only[RL]at h
  have hgu:=yc0 hp ht hk1 (show k<t.h by omega)
  have e1:((t.h:Nat):Int) - ((k:Nat):Int)=((t.h - k:Nat):Int):=by omega
  refine W.skip ?_
  refine xn ?_
  refine W.seq ?_
  refine W.block ?_
  refine W.seq (W.draw_two (r1:=[_,_,_,_,_,_]) (r2:=[_,_,_,_,_,_]) [0,1,2,3,4,5] [0,1,3,2,4,5] [0,1] 2 3 1 rfl (by kernel_rfl) (by kernel_rfl) rfl rfl (fun K hK=>?_) (fun K hK=>?_))
  ·simp(disch:=omega)only[↓RU,RV,RH,↓reduceIte,qE,reduceCtorEq,if_pos,↓RS,RG,qA,qM,qL,ty5,ty9,zbg,zaa,zb5,zbh,zae]
   apply hK;clear hK K
   refine xn ?_
   refine W.r fun K hK=>?_
   simp(disch:=omega)only[↓RU,RV,RH,↓reduceIte,qE,reduceCtorEq,if_pos,w64,↓RS,RG,qA,qM,qL,ty5,ty9,zbg,zaa,zb5,zbh,zae]
   apply hK;clear hK K
   refine W.seq_pk 11 [some 81,some 82,some 83,some 84,some 85,some 86] [4] (by decide) (by kernel_rfl) fun K hK=>?_
   simp only[List.take_succ_cons,List.take_zero,List.drop_succ_cons,List.drop_zero]
   refine zbb rfl ?_
   simp(disch:=omega)only[↓RU,RV,RH,↓reduceIte,qE,reduceCtorEq,if_pos,w64,↓RS,RG,qA,qM,qL,ty5,ty9,zbg,zaa,zb5,zbh,zae,e1,zap,zaz]
   refine za0 (.ip [zaw (gP p) (rP p),.int .i64 t.r,.int .i64 t.c,.int .i64 t.h,.int .i64 t.w] 1) rfl rfl rfl (fun S' hS=>?_) ?_
   ·skip
    have k4:=(hS 4 (by decide)).trans (show _=some _ from rfl)
    simp(disch:=omega)only[↓RU,RV,RH,↓reduceIte,qE,reduceCtorEq,if_pos,w64,↓RS,RG,qA,qM,qL,ty5,ty9,zbg,zaa,zb5,zbh,zae,e1,zbv,zco,zdh,zdi,k4]
   refine za0 (.ip [zaw (gP p) (rP p),.int .i64 t.r,.int .i64 t.c,.int .i64 t.h,.int .i64 t.w] 3) rfl rfl rfl (fun S' hS=>?_) ?_
   ·skip
    have k4:=(hS 4 (by decide)).trans (show _=some _ from rfl)
    simp(disch:=omega)only[↓RU,RV,RH,↓reduceIte,qE,reduceCtorEq,if_pos,w64,↓RS,RG,qA,qM,qL,ty5,ty9,zbg,zaa,zb5,zbh,zae,e1,zbv,zco,zdh,zdi,k4]
   refine za0 (.int .i64 t.h) rfl rfl rfl (fun S' hS=>?_) ?_
   ·skip
    have k4:=(hS 4 (by decide)).trans (show _=some _ from rfl)
    simp(disch:=omega)only[↓RU,RV,RH,↓reduceIte,qE,reduceCtorEq,if_pos,w64,↓RS,RG,qA,qM,qL,ty5,ty9,zbg,zaa,zb5,zbh,zae,e1,zbv,zco,zdh,zdi,k4]
   refine za0 (.ref 4 tk2 1) rfl rfl rfl (fun S' hS=>?_) ?_
   ·skip
    have k4:=(hS 4 (by decide)).trans (show _=some _ from rfl)
    simp(disch:=omega)only[↓RU,RV,RH,↓reduceIte,qE,reduceCtorEq,if_pos,w64,↓RS,RG,qA,qM,qL,ty5,ty9,zbg,zaa,zb5,zbh,zae,e1,zbv,zco,zdh,zdi,k4]
   refine za0 (.ref 4 tk2 3) rfl rfl rfl (fun S' hS=>?_) ?_
   ·skip
    have k4:=(hS 4 (by decide)).trans (show _=some _ from rfl)
    simp(disch:=omega)only[↓RU,RV,RH,↓reduceIte,qE,reduceCtorEq,if_pos,w64,↓RS,RG,qA,qM,qL,ty5,ty9,zbg,zaa,zb5,zbh,zae,e1,zbv,zco,zdh,zdi,k4]
   refine za0 (.int .i64 k) rfl rfl rfl (fun S' hS=>?_) ?_
   ·skip
    have k4:=(hS 4 (by decide)).trans (show _=some _ from rfl)
    simp(disch:=omega)only[↓RU,RV,RH,↓reduceIte,qE,reduceCtorEq,if_pos,w64,↓RS,RG,qA,qM,qL,ty5,ty9,zbg,zaa,zb5,zbh,zae,e1,zbv,zco,zdh,zdi,k4]
   refine zbb rfl ?_
   simp(disch:=omega)only[↓RU,RV,RH,↓reduceIte,qE,reduceCtorEq,if_pos,w64,↓RS,RG,qA,qM,qL,ty5,ty9,zbg,zaa,zb5,zbh,zae,e1,zap,zaz]
   refine zbb rfl ?_
   simp(disch:=omega)only[↓RU,RV,RH,↓reduceIte,qE,reduceCtorEq,if_pos,w64,↓RS,RG,qA,qM,qL,ty5,ty9,zbg,zaa,zb5,zbh,zae,e1,zap,zaz]
   refine zbb rfl ?_
   simp(disch:=omega)only[↓RU,RV,RH,↓reduceIte,qE,reduceCtorEq,if_pos,w64,↓RS,RG,qA,qM,qL,ty5,ty9,zbg,zaa,zb5,zbh,zae,e1,zap,zaz]
   refine zbb rfl ?_
   simp(disch:=omega)only[↓RU,RV,RH,↓reduceIte,qE,reduceCtorEq,if_pos,w64,↓RS,RG,qA,qM,qL,ty5,ty9,zbg,zaa,zb5,zbh,zae,e1,zap,zaz]
   refine ze9 ?_
   simp(disch:=omega)only[↓RU,RV,RH,↓reduceIte,qE,reduceCtorEq,if_pos,w64,↓RS,RG,qA,qM,qL,ty5,ty9,zbg,zaa,zb5,zbh,zae,e1]
   apply hK;clear hK K
   refine W.r fun K hK=>?_
   cases hth:thL (zao p) t k
   ·skip
    simp(disch:=omega)only[↓RU,RV,RH,↓reduceIte,qE,reduceCtorEq,if_pos,qN,↓RS,RG,qA,qM,qL,ty5,zbm,ty9,zgp,zbg,zaa,zb5,zgq,zbh,zae,hgu,hth]
    refine zag.pc (zef hgw (rP p) ht (level:=true) (line:=t.r+k) (by omega) (by simp; omega)) rfl (.inl rfl) ?_
    simp(disch:=omega)only[↓RU,RV,RH,↓reduceIte,qE,reduceCtorEq,if_pos,qN,↓RS,RG,qA,qM,qL,ty5,zbm,ty9,zgp,zbg,zaa,zb5,zgq,zbh,zae,hgu,hth]
    apply hK;clear hK K
    refine W.cond rfl (fun h1=>?_) (fun h1=>?_)
    ·try simp only[RL]at h1
     exact absurd h1 (by simp)
    try simp only[RL]at h1
    refine W.skip ?_
    refine XbN ?_
    refine xn ?_
    refine W.k fun K hK=>?_
    simp(disch:=omega)only[↓RU,RV,RH,↓reduceIte,qE,reduceCtorEq,if_pos,w64,↓RS,RG,qA,qM,qL,zaa,zae]
    apply hK;clear hK K
    refine xn ?_
    refine ⟨t.h - (k+1),by omega,4,k+1,_,rfl,by omega,by omega,fun j j1 j2=>?_,?_,?_,rfl⟩
    ·rcases Nat.lt_succ_iff_lt_or_eq.1 j2 with h | rfl
     ·exact hall2 j j1 h
     exact hth
    ·exact Nat.le_trans htk (Nat.le_add_right _ 2)
    simp [Env.put,Env.of]; omega
   skip
   have hq:zdn (zao p) t=some (true,k):=by unfold zdn; rw [zg6.2 hall,zel.2 ⟨hk1,by omega,hth,hall2⟩]
   simp(disch:=omega)only[↓RU,RV,RH,↓reduceIte,qE,reduceCtorEq,if_pos,qN,↓RS,RG,qA,qM,qL,ty5,zbm,ty9,zgp,zbg,zaa,zb5,zgq,zbh,zae,hgu,hth]
   refine zag.pc (zef hgw (rP p) ht (level:=true) (line:=t.r+k) (by omega) (by simp; omega)) rfl (.inl rfl) ?_
   simp(disch:=omega)only[↓RU,RV,RH,↓reduceIte,qE,reduceCtorEq,if_pos,qN,↓RS,RG,qA,qM,qL,ty5,zbm,ty9,zgp,zbg,zaa,zb5,zgq,zbh,zae,hgu,hth]
   refine zwl.ey (hy _ hq _ _ _ (Nat.le_trans htk (Nat.le_add_right _ 2))) ?_
   rintro _ _ ⟨rfl,tk3,rfl⟩
   simp(disch:=omega)only[↓RU,RV,RH,↓reduceIte,qE,reduceCtorEq,if_pos,qN,↓RS,RG,qA,qM,qL,ty5,zbm,ty9,zgp,zbg,zaa,zb5,zgq,zbh,zae,hgu,hth]
   apply hK;clear hK K
   refine W.cond rfl (fun h1=>?_) (fun h1=>?_)
   ·try simp only[RL]at h1
    refine W.ret ?_
    refine XBlock.ret ?_
    refine XThen.ret ?_
    refine XThen.ret ?_
    refine XBlock.ret ?_
    refine Br rfl ?_
    exact ⟨4,.inr ⟨_,_,hq,rfl⟩⟩
   try simp only[RL]at h1
   exact absurd h1 (by simp)
  simp(disch:=omega)only[↓RU,RV,RH,↓reduceIte,qE,reduceCtorEq,if_pos,↓RS,RG,qA,qM,qL,ty5,ty9,zbg,zaa,zb5,zbh,zae]
  apply hK;clear hK K
  refine xn ?_
  refine W.r fun K hK=>?_
  simp(disch:=omega)only[↓RU,RV,RH,↓reduceIte,qE,reduceCtorEq,if_pos,w64,↓RS,RG,qA,qM,qL,ty5,ty9,zbg,zaa,zb5,zbh,zae]
  apply hK;clear hK K
  refine W.seq_pk 11 [some 81,some 82,some 83,some 84,some 85,some 86] [5] (by decide) (by kernel_rfl) fun K hK=>?_
  simp only[List.take_succ_cons,List.take_zero,List.drop_succ_cons,List.drop_zero]
  refine zbb rfl ?_
  simp(disch:=omega)only[↓RU,RV,RH,↓reduceIte,qE,reduceCtorEq,if_pos,w64,↓RS,RG,qA,qM,qL,ty5,ty9,zbg,zaa,zb5,zbh,zae,e1,zap,zaz]
  refine za0 (.ip [zaw (gP p) (rP p),.int .i64 t.r,.int .i64 t.c,.int .i64 t.h,.int .i64 t.w] 1) rfl rfl rfl (fun S' hS=>?_) ?_
  ·skip
   have k5:=(hS 5 (by decide)).trans (show _=some _ from rfl)
   simp(disch:=omega)only[↓RU,RV,RH,↓reduceIte,qE,reduceCtorEq,if_pos,w64,↓RS,RG,qA,qM,qL,ty5,ty9,zbg,zaa,zb5,zbh,zae,e1,zbv,zco,zdh,zdi,k5]
  refine za0 (.ip [zaw (gP p) (rP p),.int .i64 t.r,.int .i64 t.c,.int .i64 t.h,.int .i64 t.w] 3) rfl rfl rfl (fun S' hS=>?_) ?_
  ·skip
   have k5:=(hS 5 (by decide)).trans (show _=some _ from rfl)
   simp(disch:=omega)only[↓RU,RV,RH,↓reduceIte,qE,reduceCtorEq,if_pos,w64,↓RS,RG,qA,qM,qL,ty5,ty9,zbg,zaa,zb5,zbh,zae,e1,zbv,zco,zdh,zdi,k5]
  refine za0 (.int .i64 t.h) rfl rfl rfl (fun S' hS=>?_) ?_
  ·skip
   have k5:=(hS 5 (by decide)).trans (show _=some _ from rfl)
   simp(disch:=omega)only[↓RU,RV,RH,↓reduceIte,qE,reduceCtorEq,if_pos,w64,↓RS,RG,qA,qM,qL,ty5,ty9,zbg,zaa,zb5,zbh,zae,e1,zbv,zco,zdh,zdi,k5]
  refine za0 (.ref 5 (tk2+1) 1) rfl rfl rfl (fun S' hS=>?_) ?_
  ·skip
   have k5:=(hS 5 (by decide)).trans (show _=some _ from rfl)
   simp(disch:=omega)only[↓RU,RV,RH,↓reduceIte,qE,reduceCtorEq,if_pos,w64,↓RS,RG,qA,qM,qL,ty5,ty9,zbg,zaa,zb5,zbh,zae,e1,zbv,zco,zdh,zdi,k5]
  refine za0 (.ref 5 (tk2+1) 3) rfl rfl rfl (fun S' hS=>?_) ?_
  ·skip
   have k5:=(hS 5 (by decide)).trans (show _=some _ from rfl)
   simp(disch:=omega)only[↓RU,RV,RH,↓reduceIte,qE,reduceCtorEq,if_pos,w64,↓RS,RG,qA,qM,qL,ty5,ty9,zbg,zaa,zb5,zbh,zae,e1,zbv,zco,zdh,zdi,k5]
  refine za0 (.int .i64 k) rfl rfl rfl (fun S' hS=>?_) ?_
  ·skip
   have k5:=(hS 5 (by decide)).trans (show _=some _ from rfl)
   simp(disch:=omega)only[↓RU,RV,RH,↓reduceIte,qE,reduceCtorEq,if_pos,w64,↓RS,RG,qA,qM,qL,ty5,ty9,zbg,zaa,zb5,zbh,zae,e1,zbv,zco,zdh,zdi,k5]
  refine zbb rfl ?_
  simp(disch:=omega)only[↓RU,RV,RH,↓reduceIte,qE,reduceCtorEq,if_pos,w64,↓RS,RG,qA,qM,qL,ty5,ty9,zbg,zaa,zb5,zbh,zae,e1,zap,zaz]
  refine zbb rfl ?_
  simp(disch:=omega)only[↓RU,RV,RH,↓reduceIte,qE,reduceCtorEq,if_pos,w64,↓RS,RG,qA,qM,qL,ty5,ty9,zbg,zaa,zb5,zbh,zae,e1,zap,zaz]
  refine zbb rfl ?_
  simp(disch:=omega)only[↓RU,RV,RH,↓reduceIte,qE,reduceCtorEq,if_pos,w64,↓RS,RG,qA,qM,qL,ty5,ty9,zbg,zaa,zb5,zbh,zae,e1,zap,zaz]
  refine zbb rfl ?_
  simp(disch:=omega)only[↓RU,RV,RH,↓reduceIte,qE,reduceCtorEq,if_pos,w64,↓RS,RG,qA,qM,qL,ty5,ty9,zbg,zaa,zb5,zbh,zae,e1,zap,zaz]
  refine ze9 ?_
  simp(disch:=omega)only[↓RU,RV,RH,↓reduceIte,qE,reduceCtorEq,if_pos,w64,↓RS,RG,qA,qM,qL,ty5,ty9,zbg,zaa,zb5,zbh,zae,e1]
  apply hK;clear hK K
  refine W.r fun K hK=>?_
  cases hth:thL (zao p) t k
  ·skip
   simp(disch:=omega)only[↓RU,RV,RH,↓reduceIte,qE,reduceCtorEq,if_pos,qN,↓RS,RG,qA,qM,qL,ty5,zbm,ty9,zgp,zbg,zaa,zb5,zgq,zbh,zae,hgu,hth]
   refine zag.pc (zef hgw (rP p) ht (level:=true) (line:=t.r+k) (by omega) (by simp; omega)) rfl (.inl rfl) ?_
   simp(disch:=omega)only[↓RU,RV,RH,↓reduceIte,qE,reduceCtorEq,if_pos,qN,↓RS,RG,qA,qM,qL,ty5,zbm,ty9,zgp,zbg,zaa,zb5,zgq,zbh,zae,hgu,hth]
   apply hK;clear hK K
   refine W.cond rfl (fun h1=>?_) (fun h1=>?_)
   ·try simp only[RL]at h1
    exact absurd h1 (by simp)
   try simp only[RL]at h1
   refine W.skip ?_
   refine XbN ?_
   refine xn ?_
   refine W.k fun K hK=>?_
   simp(disch:=omega)only[↓RU,RV,RH,↓reduceIte,qE,reduceCtorEq,if_pos,w64,↓RS,RG,qA,qM,qL,zaa,zae]
   apply hK;clear hK K
   refine xn ?_
   refine ⟨t.h - (k+1),by omega,4,k+1,_,rfl,by omega,by omega,fun j j1 j2=>?_,?_,?_,rfl⟩
   ·rcases Nat.lt_succ_iff_lt_or_eq.1 j2 with h | rfl
    ·exact hall2 j j1 h
    exact hth
   ·exact Nat.le_trans htk (Nat.le_add_right _ 2)
   simp [Env.put,Env.of]; omega
  skip
  have hq:zdn (zao p) t=some (true,k):=by unfold zdn; rw [zg6.2 hall,zel.2 ⟨hk1,by omega,hth,hall2⟩]
  simp(disch:=omega)only[↓RU,RV,RH,↓reduceIte,qE,reduceCtorEq,if_pos,qN,↓RS,RG,qA,qM,qL,ty5,zbm,ty9,zgp,zbg,zaa,zb5,zgq,zbh,zae,hgu,hth]
  refine zag.pc (zef hgw (rP p) ht (level:=true) (line:=t.r+k) (by omega) (by simp; omega)) rfl (.inl rfl) ?_
  simp(disch:=omega)only[↓RU,RV,RH,↓reduceIte,qE,reduceCtorEq,if_pos,qN,↓RS,RG,qA,qM,qL,ty5,zbm,ty9,zgp,zbg,zaa,zb5,zgq,zbh,zae,hgu,hth]
  refine zwl.ey (hy _ hq _ _ _ (Nat.le_trans htk (Nat.le_add_right _ 2))) ?_
  rintro _ _ ⟨rfl,tk3,rfl⟩
  simp(disch:=omega)only[↓RU,RV,RH,↓reduceIte,qE,reduceCtorEq,if_pos,qN,↓RS,RG,qA,qM,qL,ty5,zbm,ty9,zgp,zbg,zaa,zb5,zgq,zbh,zae,hgu,hth]
  apply hK;clear hK K
  refine W.cond rfl (fun h1=>?_) (fun h1=>?_)
  ·try simp only[RL]at h1
   refine W.ret ?_
   refine XBlock.ret ?_
   refine XThen.ret ?_
   refine XThen.ret ?_
   refine XBlock.ret ?_
   refine Br rfl ?_
   exact ⟨4,.inr ⟨_,_,hq,rfl⟩⟩
  try simp only[RL]at h1
  exact absurd h1 (by simp)
 try simp only[RL]at h
 obtain rfl:k=t.h:=by omega
 refine W.exit ?_
 refine xe ?_
 refine xe ?_
 refine XBlock.hit ?_
 refine zhi.norm rfl ?_
 exact ⟨4,.inl ⟨_,z0q.2 ⟨hall,hall2⟩,rfl⟩⟩
def z99:PV := .agg [.bool false,.nilp,.int .i64 0,.int .i64 0,.int .i64 0,.int .i64 0,.nilp,.int .i64 0,.int .i64 0,.int .i64 0,.int .i64 0]
def zug (p:List Txt) (t:Pt):PV:=match zdn (zao p) t with | some q => .tup [zyq (gP p) (rP p) t q,.bool true] | none => .tup [z99,.bool false]
theorem zyz {p:List Txt} (hp:zcz p=true) {t:Pt} (ht:t.In p.length (zax p).length):PC Tryz.prog 73 [zft (gP p) (rP p) t.rect] (zug p t) false:=by
 simp only[zft,Pt.rect,Rect.cells]
 refine PC.ofV ⟨Tryz.func73,by kernel_rfl,rfl,by kernel_rfl⟩ za4 mixed (by show 1≤Tryz.f73.ntmps; decide) ?_
 refine V.seq_region fun K hK=>?_
 simp(disch:=omega)only[↓RU,RV,RH,↓reduceIte,qE,reduceCtorEq,if_pos,↓RS,RG,qA,qM,qL,ty5,zbm,ty9,zgp,zbg,zaa,zb5,zgq,zbh]
 apply hK;clear hK K
 refine V.seq ?_
 refine V.seq_region fun K hK=>?_
 simp(disch:=omega)only[↓RU,RV,RH,↓reduceIte,qE,reduceCtorEq,if_pos,qN,↓RS,RG,qA,qM,qL,ty5,ty9,zbg,zaa,zb5,zbh]
 refine zag.pc (z9s (gP p) (rP p) t.rect) rfl (.inr rfl) ?_
 simp(disch:=omega)only[↓RU,RV,RH,↓reduceIte,qE,reduceCtorEq,if_pos,qN,↓RS,RG,qA,qM,qL,ty5,ty9,zbg,zaa,zb5,zbh]
 apply hK;clear hK K
 refine V.block ?_
 refine V.rangeFunc [2,3] rfl fun l r hr hst hpd=>?_
 refine ⟨_,z6n hp ht l _ _ _ _ _ (fun q => .arr 1 60 11 [.bool q.1,zaw (gP p) (rP p),.int .i64 (t.one q).r,.int .i64 (t.one q).c,.int .i64 (t.one q).h,.int .i64 (t.one q).w,zaw (gP p) (rP p),.int .i64 (t.two q).r,.int .i64 (t.two q).c,.int .i64 (t.two q).h,.int .i64 (t.two q).w]) (fun _ => .arr 2 4 1 [.bool true]) (fun _ => .lp 3 l ({ r with state := .done,pending:=some .ret },[2,3]) [.ref 1 1 0,.ref 2 2 0]) (fun q hq x y tk2 htk=>?_),?_⟩
 ·refine Ey.of (o:=3) za4 mixed rfl hr hst rfl ?_
  change W _ _ _ _ (Env.put (Env.of [2,3] [.ref 1 1 0,.ref 2 2 0]) (some 7) (.agg [.bool q.1,zaw (gP p) (rP p),.int .i64 (t.one q).r,.int .i64 (t.one q).c,.int .i64 (t.one q).h,.int .i64 (t.one q).w,zaw (gP p) (rP p),.int .i64 (t.two q).r,.int .i64 (t.two q).c,.int .i64 (t.two q).h,.int .i64 (t.two q).w])) _
  refine W.k fun K hK=>?_
  simp(disch:=omega)only[↓RU,RV,RH,↓reduceIte,qE,reduceCtorEq,if_pos,↓RS,RG,qA,qM,qL,ty5,zbm,ty9,zgp,zbg,zaa,zb5,zgq,zbh]
  apply hK;clear hK K
  refine xn ⟨_,_,_,_,rfl,hst,?_⟩
  simp only[List.set_cons_succ,List.set_cons_zero]
  refine W.block ?_
  refine W.r fun K hK=>?_
  simp(disch:=omega)only[↓RU,RV,RH,↓reduceIte,qE,reduceCtorEq,if_pos,↓RS,RG,qA,qM,qL,ty5,zbm,ty9,zgp,zbg,zaa,zb5,zgq,zbh]
  apply hK;clear hK K
  refine W.ret ?_
  refine XBlock.ret ?_
  exact ⟨_,_,_,_,6,rfl,rfl,_,rfl⟩
 rintro v S2 (⟨tk2,hq,rfl⟩ | ⟨q,tk2,hq,rfl⟩)
 ·skip
  refine ⟨_,_,_,_,.normal,rfl,by rw [hst]; simp,by rw [hpd]; rfl,?_⟩
  change XBlock _ _ _ _ ⟨[_,_,_],_⟩
  refine XbN ?_
  refine xn ?_
  refine W.v ?_
  refine W.r fun K hK=>?_
  simp(disch:=omega)only[↓RU,RV,RH,↓reduceIte,qE,reduceCtorEq,if_pos,↓RS,RG,qA,qM,qL,ty5,zbm,ty9,zgp,zbg,zaa,zb5,zgq,zbh]
  apply hK;clear hK K
  refine W.ret ?_
  refine Br rfl ?_
  simp only[zug,hq]
  rfl
 skip
 refine ⟨_,_,_,_,.ret,rfl,by simp,rfl,?_⟩
 change XBlock _ _ _ _ ⟨[_,_,_],_⟩
 refine XBlock.ret ?_
 refine XThen.ret ?_
 refine Br rfl ?_
 simp only[zug,hq]
 rfl
theorem zy4 {p:List Txt} (hs:Sm p) (hg:zcp p=true):PC Tryz.prog 80 [za1 p] (.bool (z57 p)) true:=by
 have hp:=hs.rows
 have hsm:=zbk hg
 obtain ⟨row0,hrow0,hrm0⟩:=zaf hsm.1
 have hhd:=zcj hrow0
 have hw6:=hsm.2.2 row0 hrm0
 have hw1:=zep hg hrow0
 obtain ⟨c0,hc0,-⟩:=zaf (show 0<row0.length by omega)
 have hone:z57 p=p.all (fun row=>row.all fun c=>decide (c=c0)):=by simp [z57,hhd,hc0]
 refine PC.of ⟨Tryz.func80,by kernel_rfl,rfl,by kernel_rfl⟩ za4 mixed (by show 1≤Tryz.f80.ntmps; decide) ?_
 refine W.r fun K hK=>?_
 simp(disch:=omega)only[↓RU,RV,RH,↓reduceIte,qE,reduceCtorEq,if_pos]
 apply hK;clear hK K
 refine W.seq ?_
 refine W.r fun K hK=>?_
 simp(disch:=omega)only[↓RU,RV,RH,↓reduceIte,qE,reduceCtorEq,if_pos]
 apply hK;clear hK K
 refine W.block ?_
 refine W.loop [0,3] (fun n vs S=>∃ i:Nat,n=p.length - i∧i≤p.length∧((p.take i).all (fun row=>row.all fun c=>decide (c=c0))=true)∧vs=[za1 p,.int .i64 i]∧S=⟨[],0⟩) (p.length) ?_ ?_
 ·refine ⟨0,0,rfl,Nat.zero_le _,rfl,?_,rfl⟩
  simp [Env.put,Env.of,zad]
 rintro n vs S - ⟨i,rfl,h_i,hall,rfl,rfl⟩
 refine W.seq ?_
 refine W.r fun K hK=>?_
 simp(disch:=omega)only[↓RU,RV,RH,↓reduceIte,qE,reduceCtorEq,if_pos,w64,ty3,zaa,zah]
 apply hK;clear hK K
 refine W.cond rfl (fun h=>?_) (fun h=>?_)
 ·try simp only[RL]at h
  obtain ⟨row,hrow,hrm⟩:=zaf (show i<p.length by omega)
  have hrl:=hsm.2.2 row hrm
  refine W.skip ?_
  refine xn ?_
  refine W.seq ?_
  refine W.block ?_
  refine W.r fun K hK=>?_
  simp(disch:=omega)only[↓RU,RV,RH,↓reduceIte,qE,reduceCtorEq,if_pos]
  apply hK;clear hK K
  refine W.block ?_
  refine W.loop [0,3,4] (fun n vs S=>∃ k:Nat,n=row.length - k∧k≤row.length∧((row.take k).all (fun c=>decide (c=c0))=true)∧vs=[za1 p,.int .i64 i,.int .i64 k]∧S=⟨[],0⟩) (row.length) ?_ ?_
  ·refine ⟨0,0,rfl,Nat.zero_le _,rfl,?_,rfl⟩
   simp [Env.put,Env.of]
  rintro n vs S - ⟨k,rfl,h_k,hr2,rfl,rfl⟩
  refine W.seq ?_
  refine W.r fun K hK=>?_
  simp(disch:=omega)only[↓RU,RV,RH,↓reduceIte,qE,reduceCtorEq,if_pos,w64,ty3,zaa,zah,hrow]
  apply hK;clear hK K
  refine W.cond rfl (fun h1=>?_) (fun h1=>?_)
  ·try simp only[RL]at h1
   obtain ⟨c,hc,hcm⟩:=zaf (show k<row.length by omega)
   refine W.skip ?_
   refine xn ?_
   refine W.seq ?_
   refine W.block ?_
   refine W.seq_draw (by kernel_rfl) fun K hK=>?_
   simp(disch:=omega)only[↓RU,RV,RH,↓reduceIte,qE,reduceCtorEq,if_pos,w64,ty3,zah,zhh,hrow,hc,hrow0,hc0,Int.toNat_zero,Nat.zero_mul,qZ]
   apply hK;clear hK K
   refine W.cond rfl (fun h2=>?_) (fun h2=>?_)
   ·try simp only[RL]at h2
    have hne:¬ c=c0:=by rintro rfl; simp at h2
    refine W.r fun K hK=>?_
    simp(disch:=omega)only[↓RU,RV,RH,↓reduceIte,qE,reduceCtorEq,if_pos]
    apply hK;clear hK K
    refine W.ret ?_
    refine XBlock.ret ?_
    refine XThen.ret ?_
    refine XThen.ret ?_
    refine XBlock.ret ?_
    refine XBlock.ret ?_
    refine XThen.ret ?_
    refine XThen.ret ?_
    refine XBlock.ret ?_
    refine XThen.ret ?_
    refine Br rfl ?_
    have:z57 p=false:=by rw [hone,List.all_eq_false]; exact ⟨row,hrm,by simp only[Bool.not_eq_true,List.all_eq_false]; exact ⟨c,hcm,by simpa using hne⟩⟩
    rw [this]
    rfl
   try simp only[RL]at h2
   have heq:c=c0:=by simpa [z72] using h2
   refine W.skip ?_
   refine XbN ?_
   refine xn ?_
   refine W.k fun K hK=>?_
   simp(disch:=omega)only[↓RU,RV,RH,↓reduceIte,qE,reduceCtorEq,if_pos,w64,zaa]
   apply hK;clear hK K
   refine xn ?_
   refine ⟨row.length - (k+1),by omega,0,k+1,rfl,by omega,zmp hc hr2 (decide_eq_true heq),?_,rfl⟩
   simp [Env.put,Env.of]
  try simp only[RL]at h1
  have hrk:k=row.length:=by omega
  rw [hrk,List.take_length]at hr2
  refine W.exit ?_
  refine xe ?_
  refine xe ?_
  refine XBlock.hit ?_
  refine XbN ?_
  refine xn ?_
  refine W.k fun K hK=>?_
  simp(disch:=omega)only[↓RU,RV,RH,↓reduceIte,qE,reduceCtorEq,if_pos,w64,zaa]
  apply hK;clear hK K
  refine xn ?_
  refine ⟨p.length - (i+1),by omega,0,i+1,rfl,by omega,zmp hrow hall hr2,?_,rfl⟩
  simp [Env.put,Env.of]
 try simp only[RL]at h
 refine W.exit ?_
 refine xe ?_
 refine xe ?_
 refine XBlock.hit ?_
 refine xn ?_
 refine W.r fun K hK=>?_
 simp(disch:=omega)only[↓RU,RV,RH,↓reduceIte,qE,reduceCtorEq,if_pos]
 apply hK;clear hK K
 refine W.ret ?_
 refine Br rfl ?_
 have hip:i=p.length:=by omega
 rw [hip,List.take_length]at hall
 rw [hone,hall]
 rfl
theorem zkq {p:List Txt} (hs:Sm p) (hg:zcp p=true):PC Tryz.prog 81 [za1 p] (.tup [.int .i64 (z56 p).1,.int .i64 (z56 p).2]) true:=by
 have hp:=hs.rows
 have hsm:=zbk hg
 obtain ⟨row0,hrow0,hrm0⟩:=zaf hsm.1
 have hhd:=zcj hrow0
 have hw6:=hsm.2.2 row0 hrm0
 have hw1:=zep hg hrow0
 obtain ⟨c0,hc0,-⟩:=zaf (show 0<row0.length by omega)
 have hgt:=z1m hg
 have hst:=Sm.grid hgt
 have hsmt:=zbk hgt
 have htl:=zhe (p:=p)
 have hth:=zlj (p:=p) (by rw [hhd]; omega)
 have hul:(uprights p).length≤100:=by have h1:=zlo p (zax p).length; have h2:(p.length+1)*(zax p).length≤7*6:=Nat.mul_le_mul (by omega) (by rw [hhd]; omega); unfold uprights; omega
 have hvl:(uprights (zcr p)).length≤100:=by have h1:=zlo (zcr p) (zax (zcr p)).length; have h2:((zcr p).length+1)*(zax (zcr p)).length≤7*6:=Nat.mul_le_mul (by omega) (by omega); unfold uprights; omega
 refine PC.of ⟨Tryz.func81,by kernel_rfl,rfl,by kernel_rfl⟩ za4 mixed (by show 1≤Tryz.f81.ntmps; decide) ?_
 refine W.r fun K hK=>?_
 simp(disch:=omega)only[↓RU,RV,RH,↓reduceIte,qE,reduceCtorEq,if_pos]
 apply hK;clear hK K
 refine W.r fun K hK=>?_
 simp(disch:=omega)only[↓RU,RV,RH,↓reduceIte,qE,reduceCtorEq,if_pos,qN]
 refine zag.pc (zm5 hs hg) rfl (.inr rfl) ?_
 simp(disch:=omega)only[↓RU,RV,RH,↓reduceIte,qE,reduceCtorEq,if_pos,qN]
 apply hK;clear hK K
 refine W.seq ?_
 refine W.r fun K hK=>?_
 simp(disch:=omega)only[↓RU,RV,RH,↓reduceIte,qE,reduceCtorEq,if_pos]
 apply hK;clear hK K
 refine W.block ?_
 refine W.loop [0,4,5] (fun n vs S=>∃ i:Nat,n=(uprights p).length - i∧i≤(uprights p).length∧(((uprights p).take i).find? (zes p.length)=none)∧vs=[za1 p,.sl ((uprights p).map eInts) (uprights p).length,.int .i64 i]∧S=⟨[],0⟩) ((uprights p).length) ?_ ?_
 ·refine ⟨0,0,rfl,Nat.zero_le _,rfl,?_,rfl⟩
  simp [Env.put,Env.of,zad]
 rintro n vs S - ⟨i,rfl,h_i,hno,rfl,rfl⟩
 refine W.seq ?_
 refine W.r fun K hK=>?_
 simp(disch:=omega)only[↓RU,RV,RH,↓reduceIte,qE,reduceCtorEq,if_pos,w64,ty0,zab,zaa]
 apply hK;clear hK K
 refine W.cond rfl (fun h=>?_) (fun h=>?_)
 ·try simp only[RL]at h
  obtain ⟨u,hu,hum⟩:=zaf (show i<(uprights p).length by omega)
  obtain ⟨k,f,l,rfl,hk⟩:=z9f hum
  refine W.skip ?_
  refine xn ?_
  refine W.seq ?_
  refine W.block ?_
  refine W.r fun K hK=>?_
  simp(disch:=omega)only[↓RU,RV,RH,↓reduceIte,qE,reduceCtorEq,if_pos,w64,ty0,zab,ty3,zaa,zah,hu]
  apply hK;clear hK K
  refine W.cond rfl (fun h1=>?_) (fun h1=>?_)
  ·try simp only[RL]at h1
   have hlong:zes p.length [(k:Int),(f:Int),(l:Int)]=true:=by simp [zes,zhg]; omega
   refine W.seq_draw (by kernel_rfl) fun K hK=>?_
   simp(disch:=omega)only[↓RU,RV,RH,↓reduceIte,qE,reduceCtorEq,if_pos,ty0,zab,zaa,hu]
   apply hK;clear hK K
   refine W.ret ?_
   refine XBlock.ret ?_
   refine XThen.ret ?_
   refine XThen.ret ?_
   refine XBlock.ret ?_
   refine XThen.ret ?_
   refine Br rfl ?_
   rw [show z56 p=(0,(k:Int)) by unfold z56; rw [zuf hu hno hlong]; rfl]
   rfl
  try simp only[RL]at h1
  have hlong:zes p.length [(k:Int),(f:Int),(l:Int)]=false:=by simp [zes,zhg]; omega
  refine W.skip ?_
  refine XbN ?_
  refine xn ?_
  refine W.k fun K hK=>?_
  simp(disch:=omega)only[↓RU,RV,RH,↓reduceIte,qE,reduceCtorEq,if_pos,w64,zaa]
  apply hK;clear hK K
  refine xn ?_
  refine ⟨(uprights p).length - (i+1),by omega,0,i+1,rfl,by omega,zm2 hu hno hlong,?_,rfl⟩
  simp [Env.put,Env.of]
 try simp only[RL]at h
 have hip:i=(uprights p).length:=by omega
 rw [hip,List.take_length]at hno
 refine W.exit ?_
 refine xe ?_
 refine xe ?_
 refine XBlock.hit ?_
 refine xn ?_
 refine W.r fun K hK=>?_
 simp(disch:=omega)only[↓RU,RV,RH,↓reduceIte,qE,reduceCtorEq,if_pos,qN]
 refine zag.pc (z0z hs hg) rfl (.inl rfl) ?_
 simp(disch:=omega)only[↓RU,RV,RH,↓reduceIte,qE,reduceCtorEq,if_pos,qN]
 refine zag.pc (zm5 hst hgt) rfl (.inr rfl) ?_
 simp(disch:=omega)only[↓RU,RV,RH,↓reduceIte,qE,reduceCtorEq,if_pos,qN]
 apply hK;clear hK K
 refine W.seq ?_
 refine W.r fun K hK=>?_
 simp(disch:=omega)only[↓RU,RV,RH,↓reduceIte,qE,reduceCtorEq,if_pos]
 apply hK;clear hK K
 refine W.block ?_
 refine W.loop [0,6,7] (fun n vs S=>∃ i:Nat,n=(uprights (zcr p)).length - i∧i≤(uprights (zcr p)).length∧(((uprights (zcr p)).take i).find? (zes (zax p).length)=none)∧vs=[za1 p,.sl ((uprights (zcr p)).map eInts) (uprights (zcr p)).length,.int .i64 i]∧S=⟨[],0⟩) ((uprights (zcr p)).length) ?_ ?_
 ·refine ⟨0,0,rfl,Nat.zero_le _,rfl,?_,rfl⟩
  simp [Env.put,Env.of,zad]
 rintro n vs S - ⟨i,rfl,h_i,hno2,rfl,rfl⟩
 refine W.seq ?_
 refine W.r fun K hK=>?_
 simp(disch:=omega)only[↓RU,RV,RH,↓reduceIte,qE,reduceCtorEq,if_pos,w64,ty0,zab,zaa]
 apply hK;clear hK K
 refine W.cond rfl (fun h=>?_) (fun h=>?_)
 ·try simp only[RL]at h
  obtain ⟨u,hu,hum⟩:=zaf (show i<(uprights (zcr p)).length by omega)
  obtain ⟨k,f,l,rfl,hk⟩:=z9f hum
  refine W.skip ?_
  refine xn ?_
  refine W.seq ?_
  refine W.block ?_
  refine W.seq_draw (by kernel_rfl) fun K hK=>?_
  simp(disch:=omega)only[↓RU,RV,RH,↓reduceIte,qE,reduceCtorEq,if_pos,w64,ty0,zab,ty3,zaa,zah,hu,hrow0,Int.toNat_zero,Nat.zero_mul,qZ]
  apply hK;clear hK K
  refine W.cond rfl (fun h1=>?_) (fun h1=>?_)
  ·try simp only[RL]at h1
   have hlong:zes (zax p).length [(k:Int),(f:Int),(l:Int)]=true:=by simp [zes,zhg,hhd]; omega
   refine W.seq_draw (by kernel_rfl) fun K hK=>?_
   simp(disch:=omega)only[↓RU,RV,RH,↓reduceIte,qE,reduceCtorEq,if_pos,ty0,zab,zaa,hu]
   apply hK;clear hK K
   refine W.ret ?_
   refine XBlock.ret ?_
   refine XThen.ret ?_
   refine XThen.ret ?_
   refine XBlock.ret ?_
   refine XThen.ret ?_
   refine Br rfl ?_
   rw [show z56 p=(1,(k:Int)) by unfold z56; rw [hno,zuf hu hno2 hlong]; rfl]
   rfl
  try simp only[RL]at h1
  have hlong:zes (zax p).length [(k:Int),(f:Int),(l:Int)]=false:=by simp [zes,zhg,hhd]; omega
  refine W.skip ?_
  refine XbN ?_
  refine xn ?_
  refine W.k fun K hK=>?_
  simp(disch:=omega)only[↓RU,RV,RH,↓reduceIte,qE,reduceCtorEq,if_pos,w64,zaa]
  apply hK;clear hK K
  refine xn ?_
  refine ⟨(uprights (zcr p)).length - (i+1),by omega,0,i+1,rfl,by omega,zm2 hu hno2 hlong,?_,rfl⟩
  simp [Env.put,Env.of]
 try simp only[RL]at h
 have hip:i=(uprights (zcr p)).length:=by omega
 rw [hip,List.take_length]at hno2
 refine W.exit ?_
 refine xe ?_
 refine xe ?_
 refine XBlock.hit ?_
 refine xn ?_
 refine W.r fun K hK=>?_
 simp(disch:=omega)only[↓RU,RV,RH,↓reduceIte,qE,reduceCtorEq,if_pos]
 apply hK;clear hK K
 refine W.ret ?_
 refine Br rfl ?_
 rw [show z56 p=(0,0) by unfold z56; rw [hno,hno2]]
 rfl
theorem yad {p:List Txt} {i k:Nat} {row:Txt} (h:p[i]?=some row):zfw (p.take (i+1)) (false,k)=zfw (p.take i) (false,k)++[row.take k]:=by simp [zfw,tk h]
theorem yae {p:List Txt} {i k:Nat} {row:Txt} (h:p[i]?=some row):zfx (p.take (i+1)) (false,k)=zfx (p.take i) (false,k)++[row.drop k]:=by simp [zfx,tk h]
theorem z38 {p:List Txt} {i k:Nat} {row:Txt} (h:p[i]?=some row):zfw (p.take (i+1)) (true,k)=if i<k then zfw (p.take i) (true,k)++[row] else zfw (p.take i) (true,k):=by
 have hl:=(List.getElem?_eq_some_iff.1 h).1
 simp only[zfw,if_true,List.take_take]
 split
 ·rw [Nat.min_eq_right (by omega),Nat.min_eq_right (by omega),tk h]
 rw [Nat.min_eq_left (by omega),Nat.min_eq_left (by omega)]
theorem z4a {p:List Txt} {i k:Nat} {row:Txt} (h:p[i]?=some row):zfx (p.take (i+1)) (true,k)=if i<k then zfx (p.take i) (true,k) else zfx (p.take i) (true,k)++[row]:=by
 have hl:=(List.getElem?_eq_some_iff.1 h).1
 simp only[zfx,if_true]
 split
 ·rw [List.drop_of_length_le (by simp; omega),List.drop_of_length_le (by simp; omega)]
 rw [tk h,List.drop_append_of_le_length (by simp; omega)]
theorem zzq {p:List Txt} {q:Bool × Nat} (i:Nat):(zfw (p.take i) q).length≤i∧(zfx (p.take i) q).length≤i:=by
 obtain ⟨lv,k⟩:=q
 cases lv <;> simp [zfw,zfx] <;> omega
theorem zo7 {p:List Txt} (hs:Sm p) (hg:zcp p=true) {k:Nat} (hk:k≤(zax p).length):PC Tryz.prog 82 [za1 p,.int .i64 0,.int .i64 k] (.tup [za1 (zfw p (false,k)),za1 (zfx p (false,k))]) true:=by
 have hp:=hs.rows
 have hsm:=zbk hg
 obtain ⟨row0,hrow0,hrm0⟩:=zaf hsm.1
 have hhd:=zcj hrow0
 have hw6:=hsm.2.2 row0 hrm0
 have hw1:=zep hg hrow0
 rw [hhd]at hk
 refine PC.of ⟨Tryz.func82,by kernel_rfl,rfl,by kernel_rfl⟩ za4 mixed (by show 3≤Tryz.f82.ntmps; decide) ?_
 refine W.r fun K hK=>?_
 simp(disch:=omega)only[↓RU,RV,RH,↓reduceIte,qE,reduceCtorEq,if_pos,↓RS,RG,qA,qM,qL]
 apply hK;clear hK K
 refine W.r fun K hK=>?_
 simp(disch:=omega)only[↓RU,RV,RH,↓reduceIte,qE,reduceCtorEq,if_pos,↓RS,RG,qA,qM,qL,ty3,zah]
 apply hK;clear hK K
 refine W.r fun K hK=>?_
 simp(disch:=omega)only[↓RU,RV,RH,↓reduceIte,qE,reduceCtorEq,if_pos,↓RS,RG,qA,qM,qL,ty3,zah]
 apply hK;clear hK K
 refine W.seq ?_
 refine W.r fun K hK=>?_
 simp(disch:=omega)only[↓RU,RV,RH,↓reduceIte,qE,reduceCtorEq,if_pos,↓RS,RG,qA,qM,qL]
 apply hK;clear hK K
 refine W.block ?_
 refine W.loop [0,1,2,8,9,10] (fun n vs S=>∃ i v0 v1 tk:Nat,n=p.length - i∧i≤p.length∧vs=[za1 p,.int .i64 0,.int .i64 k,.loc 0 v0 0 (zfw (p.take i) (false,k)).length,.loc 1 v1 0 (zfx (p.take i) (false,k)).length,.int .i64 i]∧S=⟨[.arr v0 9 1 ((zfw (p.take i) (false,k)).map .str),.arr v1 9 1 ((zfx (p.take i) (false,k)).map .str)],tk⟩) p.length ?_ ?_
 ·refine ⟨2,0,0,1,2,rfl,Nat.zero_le _,?_,?_⟩
  ·simp [Env.put,Env.of,zad,zfw,zfx]
  simp [zfw,zfx,Store.take]
 rintro n vs S - ⟨i,v0,v1,tk,rfl,h_i,rfl,rfl⟩
 refine W.seq ?_
 refine W.r fun K hK=>?_
 simp(disch:=omega)only[↓RU,RV,RH,↓reduceIte,qE,reduceCtorEq,if_pos,w64,↓RS,RG,qA,qM,qL,ty3,zaa,zah]
 apply hK;clear hK K
 refine W.cond rfl (fun h=>?_) (fun h=>?_)
 ·try simp only[RL]at h
  obtain ⟨row,hrow,hrm⟩:=zaf (show i<p.length by omega)
  have hrl:=hsm.2.2 row hrm
  have hrw:=zdv hg hrow
  rw [hhd]at hrw
  have hpl:=zzq (p:=p) (q:=(false,k)) i
  generalize hA:zfw (p.take i) (false,k)=A at hpl
  generalize hB:zfx (p.take i) (false,k)=B at hpl
  refine W.skip ?_
  refine xn ?_
  refine W.seq ?_
  refine W.block ?_
  refine W.block ?_
  refine W.r fun K hK=>?_
  simp(disch:=omega)only[↓RU,RV,RH,↓reduceIte,qE,reduceCtorEq,if_pos,w64,↓RS,RG,qA,qM,qL,zaa]
  apply hK;clear hK K
  refine W.cond rfl (fun h1=>?_) (fun h1=>?_)
  ·try simp only[RL]at h1
   refine W.r fun K hK=>?_
   simp(disch:=omega)only[↓RU,RV,RH,↓reduceIte,qE,reduceCtorEq,if_pos,Option.map_none,↓RS,RG,qA,qM,qL,ty3,zah,hrow,List.drop_zero]
   apply hK;clear hK K
   refine W.k fun K hK=>?_
   simp(disch:=omega)only[↓RU,RV,RH,↓reduceIte,qE,reduceCtorEq,if_pos,Option.map_none,↓RS,RG,qA,qM,qL,ty3,zah,hrow,List.take_length]
   apply hK;clear hK K
   refine XbN ?_
   refine XbN ?_
   refine xn ?_
   refine W.k fun K hK=>?_
   simp(disch:=omega)only[↓RU,RV,RH,↓reduceIte,qE,reduceCtorEq,if_pos,w64,↓RS,RG,qA,qM,qL,zaa]
   apply hK;clear hK K
   refine xn ?_
   refine ⟨p.length - (i+1),by omega,2,i+1,(tk+1),(tk+3),(tk+4),rfl,by omega,?_,?_⟩
   all_goals rw [yad hrow,yae hrow,hA,hB]
   all_goals simp [Env.put,Env.of,zch,hA,hB,Store.take]
  try simp only[RL]at h1
  exact absurd h1 (by simp)
 try simp only[RL]at h
 obtain rfl:i=p.length:=by omega
 rw [List.take_length]
 refine W.exit ?_
 refine xe ?_
 refine xe ?_
 refine XBlock.hit ?_
 refine xn ?_
 refine W.r fun K hK=>?_
 simp(disch:=omega)only[↓RU,RV,RH,↓reduceIte,qE,reduceCtorEq,if_pos,↓RS,RG,qA,qM,qL]
 apply hK;clear hK K
 refine W.ret ?_
 refine Br rfl ?_
 exact congrArg (Option.map PV.tup) (zaj (zbc (k:=8) rfl (by simp) (zem _)) (zaj (zbc (k:=8) rfl (by simp) (zem _)) rfl))
theorem zo6 {p:List Txt} (hs:Sm p) (hg:zcp p=true) {k:Nat} (hk:k≤p.length):PC Tryz.prog 82 [za1 p,.int .i64 1,.int .i64 k] (.tup [za1 (zfw p (true,k)),za1 (zfx p (true,k))]) true:=by
 have hp:=hs.rows
 have hsm:=zbk hg
 obtain ⟨row0,hrow0,hrm0⟩:=zaf hsm.1
 have hhd:=zcj hrow0
 have hw6:=hsm.2.2 row0 hrm0
 have hw1:=zep hg hrow0
 skip
 refine PC.of ⟨Tryz.func82,by kernel_rfl,rfl,by kernel_rfl⟩ za4 mixed (by show 3≤Tryz.f82.ntmps; decide) ?_
 refine W.r fun K hK=>?_
 simp(disch:=omega)only[↓RU,RV,RH,↓reduceIte,qE,reduceCtorEq,if_pos,↓RS,RG,qA,qM,qL]
 apply hK;clear hK K
 refine W.r fun K hK=>?_
 simp(disch:=omega)only[↓RU,RV,RH,↓reduceIte,qE,reduceCtorEq,if_pos,↓RS,RG,qA,qM,qL,ty3,zah]
 apply hK;clear hK K
 refine W.r fun K hK=>?_
 simp(disch:=omega)only[↓RU,RV,RH,↓reduceIte,qE,reduceCtorEq,if_pos,↓RS,RG,qA,qM,qL,ty3,zah]
 apply hK;clear hK K
 refine W.seq ?_
 refine W.r fun K hK=>?_
 simp(disch:=omega)only[↓RU,RV,RH,↓reduceIte,qE,reduceCtorEq,if_pos,↓RS,RG,qA,qM,qL]
 apply hK;clear hK K
 refine W.block ?_
 refine W.loop [0,1,2,8,9,10] (fun n vs S=>∃ i v0 v1 tk:Nat,n=p.length - i∧i≤p.length∧vs=[za1 p,.int .i64 1,.int .i64 k,.loc 0 v0 0 (zfw (p.take i) (true,k)).length,.loc 1 v1 0 (zfx (p.take i) (true,k)).length,.int .i64 i]∧S=⟨[.arr v0 9 1 ((zfw (p.take i) (true,k)).map .str),.arr v1 9 1 ((zfx (p.take i) (true,k)).map .str)],tk⟩) p.length ?_ ?_
 ·refine ⟨2,0,0,1,2,rfl,Nat.zero_le _,?_,?_⟩
  ·simp [Env.put,Env.of,zad,zfw,zfx]
  simp [zfw,zfx,Store.take]
 rintro n vs S - ⟨i,v0,v1,tk,rfl,h_i,rfl,rfl⟩
 refine W.seq ?_
 refine W.r fun K hK=>?_
 simp(disch:=omega)only[↓RU,RV,RH,↓reduceIte,qE,reduceCtorEq,if_pos,w64,↓RS,RG,qA,qM,qL,ty3,zaa,zah]
 apply hK;clear hK K
 refine W.cond rfl (fun h=>?_) (fun h=>?_)
 ·try simp only[RL]at h
  obtain ⟨row,hrow,hrm⟩:=zaf (show i<p.length by omega)
  have hrl:=hsm.2.2 row hrm
  have hrw:=zdv hg hrow
  rw [hhd]at hrw
  have hpl:=zzq (p:=p) (q:=(true,k)) i
  generalize hA:zfw (p.take i) (true,k)=A at hpl
  generalize hB:zfx (p.take i) (true,k)=B at hpl
  refine W.skip ?_
  refine xn ?_
  refine W.seq ?_
  refine W.block ?_
  refine W.block ?_
  refine W.r fun K hK=>?_
  simp(disch:=omega)only[↓RU,RV,RH,↓reduceIte,qE,reduceCtorEq,if_pos,w64,↓RS,RG,qA,qM,qL,zaa]
  apply hK;clear hK K
  refine W.cond rfl (fun h1=>?_) (fun h1=>?_)
  ·try simp only[RL]at h1
   exact absurd h1 (by simp)
  ·try simp only[RL]at h1
   refine W.r fun K hK=>?_
   simp(disch:=omega)only[↓RU,RV,RH,↓reduceIte,qE,reduceCtorEq,if_pos,w64,↓RS,RG,qA,qM,qL,zaa]
   apply hK;clear hK K
   refine W.cond rfl (fun h2=>?_) (fun h2=>?_)
   ·try simp only[RL]at h2
    refine W.k fun K hK=>?_
    simp(disch:=omega)only[↓RU,RV,RH,↓reduceIte,qE,reduceCtorEq,if_pos,↓RS,RG,qA,qM,qL,ty3,zah,hrow]
    apply hK;clear hK K
    refine XbN ?_
    refine XbN ?_
    refine xn ?_
    refine W.k fun K hK=>?_
    simp(disch:=omega)only[↓RU,RV,RH,↓reduceIte,qE,reduceCtorEq,if_pos,w64,↓RS,RG,qA,qM,qL,zaa]
    apply hK;clear hK K
    refine xn ?_
    refine ⟨p.length - (i+1),by omega,2,i+1,(tk+1),v1,(tk+2),rfl,by omega,?_,?_⟩
    all_goals rw [z38 hrow,z4a hrow,if_pos (show i<k by omega),if_pos (show i<k by omega),hA,hB]
    all_goals simp [Env.put,Env.of,zch,hA,hB,Store.take]
   ·try simp only[RL]at h2
    refine W.k fun K hK=>?_
    simp(disch:=omega)only[↓RU,RV,RH,↓reduceIte,qE,reduceCtorEq,if_pos,↓RS,RG,qA,qM,qL,ty3,zah,hrow]
    apply hK;clear hK K
    refine XbN ?_
    refine XbN ?_
    refine xn ?_
    refine W.k fun K hK=>?_
    simp(disch:=omega)only[↓RU,RV,RH,↓reduceIte,qE,reduceCtorEq,if_pos,w64,↓RS,RG,qA,qM,qL,zaa]
    apply hK;clear hK K
    refine xn ?_
    refine ⟨p.length - (i+1),by omega,2,i+1,v0,(tk+1),(tk+2),rfl,by omega,?_,?_⟩
    all_goals rw [z38 hrow,z4a hrow,if_neg (show ¬ i<k by omega),if_neg (show ¬ i<k by omega),hA,hB]
    all_goals simp [Env.put,Env.of,zch,hA,hB,Store.take]
 try simp only[RL]at h
 obtain rfl:i=p.length:=by omega
 rw [List.take_length]
 refine W.exit ?_
 refine xe ?_
 refine xe ?_
 refine XBlock.hit ?_
 refine xn ?_
 refine W.r fun K hK=>?_
 simp(disch:=omega)only[↓RU,RV,RH,↓reduceIte,qE,reduceCtorEq,if_pos,↓RS,RG,qA,qM,qL]
 apply hK;clear hK K
 refine W.ret ?_
 refine Br rfl ?_
 exact congrArg (Option.map PV.tup) (zaj (zbc (k:=8) rfl (by simp) (zem _)) (zaj (zbc (k:=8) rfl (by simp) (zem _)) rfl))
section
def zct (z:Nat→Nat→Int) (t:Pt):Option CT:=tree z (t.h*t.w) t
section
variable {z:Nat→Nat→Int} {H W:Nat} {t:Pt}
theorem ziq (h:t.In H W):t.h*t.w=(t.h*t.w - 1)+1:=by have:=Nat.mul_pos h.1 h.2.1; omega
theorem zlk (h:t.In H W) (h1:zwk z t=true):zct z t=some (.leaf (z t.r t.c)):=by
 unfold zct; rw [ziq h,tree,if_pos h1]
theorem zi5 (h:t.In H W) (h1:zwk z t=false) (h2:zdn z t=none):zct z t=none:=by
 unfold zct; rw [ziq h,tree,h1,h2]; rfl
theorem zdr (h:t.In H W) (h1:zwk z t=false) {q:Bool × Nat} (h2:zdn z t=some q):zct z t=match zct z (t.one q),zct z (t.two q) with | some x,some y=>some (.node q.1 x y) | _,_=>none:=by
 obtain ⟨i1,i2,a1,a2⟩:=h.cut h2
 have:=ziq h
 rw [show zct z t=tree z ((t.h*t.w - 1)+1) t by unfold zct; rw [← this]]
 simp only[tree,h1,h2,qF,if_false]
 unfold zct
 rw [zll (z:=z) _ i1 (qR _) (f:=t.h*t.w - 1) (g:=(t.one q).h*(t.one q).w) (by omega) (qR _),zll (z:=z) _ i2 (qR _) (f:=t.h*t.w - 1) (g:=(t.two q).h*(t.two q).w) (by omega) (qR _)]
 all_goals (cases tree z ((t.one q).h*(t.one q).w) (t.one q) <;> cases tree z ((t.two q).h*(t.two q).w) (t.two q) <;> rfl)
def z1s (z:Nat→Nat→Int):Nat→Pt→Txt × Bool
 | 0,_=>([],false)
 | f+1,t=>if zwk z t then ([UInt8.ofNat (z t.r t.c+65).toNat],true) else
  match zdn z t with
  | none=>([],false)
  | some q=>((if q.1 then [104] else [118])++(z1s z f (t.one q)).1++(z1s z f (t.two q)).1,(z1s z f (t.one q)).2 && (z1s z f (t.two q)).2)
theorem zob:∀ (n:Nat) {t:Pt} {f g:Nat},t.In H W→t.h*t.w≤n→t.h*t.w≤f→t.h*t.w≤g→z1s z f t=z1s z g t
 | 0,t,f,g,hi,hn,_,_=>by have:=Nat.mul_pos hi.1 hi.2.1; omega
 | n+1,t,f,g,hi,hn,hf,hg=>by
  have:=Nat.mul_pos hi.1 hi.2.1
  obtain ⟨f,rfl⟩:∃ f',f=f'+1:=⟨f - 1,by omega⟩
  obtain ⟨g,rfl⟩:∃ g',g=g'+1:=⟨g - 1,by omega⟩
  simp only[z1s]
  split
  ·rfl
  cases hc:zdn z t with
  | none=>rfl
  | some q =>
   obtain ⟨i1,i2,a1,a2⟩:=hi.cut hc
   simp only
   rw [zob n i1 (f:=f) (g:=g) (by omega) (by omega) (by omega),zob n i2 (f:=f) (g:=g) (by omega) (by omega) (by omega)]
def zp3 (z:Nat→Nat→Int) (t:Pt):Txt × Bool:=z1s z (t.h*t.w) t
theorem z0c (h:t.In H W) (h1:zwk z t=true):zp3 z t=([UInt8.ofNat (z t.r t.c+65).toNat],true):=by
 unfold zp3; rw [ziq h,z1s,if_pos h1]
theorem zwc (h:t.In H W) (h1:zwk z t=false) (h2:zdn z t=none):zp3 z t=([],false):=by
 unfold zp3; rw [ziq h,z1s,h1,h2]; rfl
theorem zlm (h:t.In H W) (h1:zwk z t=false) {q:Bool × Nat} (h2:zdn z t=some q) :
  zp3 z t=((if q.1 then [104] else [118])++(zp3 z (t.one q)).1++(zp3 z (t.two q)).1,(zp3 z (t.one q)).2 && (zp3 z (t.two q)).2):=by
 obtain ⟨i1,i2,a1,a2⟩:=h.cut h2
 have:=ziq h
 rw [show zp3 z t=z1s z ((t.h*t.w - 1)+1) t by unfold zp3; rw [← this]]
 simp only[z1s,h1,h2,qF,if_false]
 unfold zp3
 rw [zob (z:=z) _ i1 (qR _) (f:=t.h*t.w - 1) (g:=(t.one q).h*(t.one q).w) (by omega) (qR _),zob (z:=z) _ i2 (qR _) (f:=t.h*t.w - 1) (g:=(t.two q).h*(t.two q).w) (by omega) (qR _)]
theorem zyc {q:Bool × Nat} (h2:zdn z t=some q):(t.one q).h*(t.one q).w+(t.two q).h*(t.two q).w=t.h*t.w:=by
 obtain ⟨h1,h3⟩:=zeb h2
 obtain ⟨lv,k⟩:=q
 cases lv with
 | true =>
  simp only[if_true]at h3
  simp only[Pt.one,Pt.two,if_true]
  rw [← Nat.add_mul,show k+(t.h - k)=t.h by omega]
 | false =>
  simp only[qF,if_false]at h3
  simp only[Pt.one,Pt.two,qF,if_false]
  rw [← Nat.mul_add,show k+(t.w - k)=t.w by omega]
theorem zgo:∀ (n:Nat) {t:Pt},t.In H W→t.h*t.w≤n→(zp3 z t).1.length+1≤2*(t.h*t.w)∧(zp3 z t).2=(zct z t).isSome
 | 0,t,hi,hn=>by have:=Nat.mul_pos hi.1 hi.2.1; omega
 | n+1,t,hi,hn=>by
  have:=Nat.mul_pos hi.1 hi.2.1
  cases h1:zwk z t with
  | true=>rw [z0c hi h1,zlk hi h1]; simp; omega
  | false =>
   cases hc:zdn z t with
   | none=>rw [zwc hi h1 hc,zi5 hi h1 hc]; simp; omega
   | some q =>
    obtain ⟨i1,i2,a1,a2⟩:=hi.cut hc
    have ha:=zyc hc
    obtain ⟨b1,b2⟩:=zgo n i1 (by omega)
    obtain ⟨c1,c2⟩:=zgo n i2 (by omega)
    have p1:=Nat.mul_pos i1.1 i1.2.1
    rw [zlm hi h1 hc,zdr hi h1 hc]
    constructor
    ·simp only[List.length_append]
     have:(if q.1 then [(104:UInt8)] else [118]).length=1:=by split <;> rfl
     omega
    rw [b2,c2]
    cases zct z (t.one q) <;> cases zct z (t.two q) <;> rfl
def CT.leaves:CT→List Int
 | .leaf a=>[a]
 | .node _ x y=>x.leaves++y.leaves
theorem CT.pos (x:CT):1≤x.leaves.length:=by
 induction x with
 | leaf a=>simp [CT.leaves]
 | node lv x y h1 h2=>simp [CT.leaves]; omega
theorem zj6 (hz:z9h z H W):∀ (n:Nat) {t:Pt} {x:CT},Whole z H W t→t.h*t.w≤n→zct z t=some x →
  x.leaves.Nodup∧(∀ v,v∈x.leaves↔∃ a c,t.r≤a∧a<t.r+t.h∧t.c≤c∧c<t.c+t.w∧z a c=v)∧x.leaves.length≤t.h*t.w
 | 0,t,x,hw,hn,_=>by have:=Nat.mul_pos hw.inn.1 hw.inn.2.1; omega
 | n+1,t,x,hw,hn,hx=>by
  have hi:=hw.inn
  have hpos:=Nat.mul_pos hi.1 hi.2.1
  cases h1:zwk z t with
  | true =>
   rw [zlk hi h1]at hx
   cases hx
   have hall:=zny.1 h1
   refine ⟨by simp [CT.leaves],fun v=>?_,by simp [CT.leaves]; omega⟩
   simp only[CT.leaves,List.mem_singleton]
   constructor
   ·rintro rfl; exact ⟨t.r,t.c,by omega,by have:=hi.1; omega,by omega,by have:=hi.2.1; omega,rfl⟩
   rintro ⟨a,c,e1,e2,e3,e4,rfl⟩
   have:=hall (a - t.r) (c - t.c) (by omega) (by omega)
   rwa [show t.r+(a - t.r)=a by omega,show t.c+(c - t.c)=c by omega]at this
  | false =>
   cases hc:zdn z t with
   | none=>rw [zi5 hi h1 hc]at hx; cases hx
   | some q =>
    obtain ⟨i1,i2,a1,a2⟩:=hi.cut hc
    obtain ⟨w1,w2⟩:=hw.cut hz hc
    have ha:=zyc hc
    rw [zdr hi h1 hc]at hx
    cases hx1:zct z (t.one q) with
    | none=>rw [hx1]at hx; cases hx
    | some x1 =>
     cases hx2:zct z (t.two q) with
     | none=>rw [hx1,hx2]at hx; cases hx
     | some x2 =>
      rw [hx1,hx2]at hx
      cases hx
      obtain ⟨b1,b2,b3⟩:=zj6 hz n w1 (by omega) hx1
      obtain ⟨c1,c2,c3⟩:=zj6 hz n w2 (by omega) hx2
      obtain ⟨k1,k2⟩:=zeb hc
      refine ⟨?_,fun v=>?_,by simp [CT.leaves]; omega⟩
      ·simp only[CT.leaves,List.nodup_append]
       refine ⟨b1,c1,fun v hv u hu e=>?_⟩
       subst e
       obtain ⟨a,c,e1,e2,e3,e4,e5⟩:=(b2 v).1 hv
       obtain ⟨a',c',f1,f2,f3,f4,f5⟩:=(c2 v).1 hu
       have hin1:=i1; have hin2:=i2
       unfold Pt.In at hin1 hin2
       have:=w1.all a c a' c' (by omega) (by omega) (by omega) (by omega) (e5.trans f5.symm) e1 e2 e3 e4
       obtain ⟨lv,k⟩:=q
       cases lv <;> simp only[Pt.one,Pt.two,qF,if_false,if_true] at * <;> omega
      simp only[CT.leaves,List.mem_append,b2,c2]
      obtain ⟨lv,k⟩:=q
      cases lv with
      | true =>
       simp only[Pt.one,Pt.two,if_true] at *
       constructor
       ·rintro (⟨a,c,e1,e2,e3,e4,e5⟩ | ⟨a,c,e1,e2,e3,e4,e5⟩)
        ·exact ⟨a,c,e1,by omega,e3,e4,e5⟩
        exact ⟨a,c,by omega,by omega,e3,e4,e5⟩
       rintro ⟨a,c,e1,e2,e3,e4,e5⟩
       rcases Nat.lt_or_ge a (t.r+k) with h | h
       ·exact .inl ⟨a,c,e1,h,e3,e4,e5⟩
       exact .inr ⟨a,c,h,by omega,e3,e4,e5⟩
      | false =>
       simp only[Pt.one,Pt.two,qF,if_false] at *
       constructor
       ·rintro (⟨a,c,e1,e2,e3,e4,e5⟩ | ⟨a,c,e1,e2,e3,e4,e5⟩)
        ·exact ⟨a,c,e1,e2,e3,by omega,e5⟩
        exact ⟨a,c,e1,e2,by omega,by omega,e5⟩
       rintro ⟨a,c,e1,e2,e3,e4,e5⟩
       rcases Nat.lt_or_ge c (t.c+k) with h | h
       ·exact .inl ⟨a,c,e1,e2,e3,h,e5⟩
       exact .inr ⟨a,c,e1,e2,h,by omega,e5⟩
end
theorem znw:∀ {n:Nat} {l:List Int},l.Nodup→(∀ x∈l,0≤x∧x<n)→l.length≤n
 | 0,l,_,hb=>by
  cases l with
  | nil=>simp
  | cons a l=>have:=hb a (by simp); omega
 | n+1,l,h,hb=>by
  by_cases hm:(n:Int)∈l
  ·obtain ⟨l1,l2,rfl⟩:=List.append_of_mem hm
   have hnd:=List.nodup_append.1 h
   have:=znw (n:=n) (l:=l1++l2) (h.sublist (by simp)) fun x hx=>by
    have h1:=hb x (by rcases List.mem_append.1 hx with h9 | h9 <;> simp [h9])
    have h2:x≠n:=by
     rintro rfl
     rcases List.mem_append.1 hx with h9 | h9
     ·exact hnd.2.2 _ h9 _ (by simp) rfl
     exact (List.nodup_cons.1 hnd.2.1).1 h9
    omega
   simp at this ⊢; omega
  have:=znw (n:=n) h fun x hx=>by
   have h1:=hb x hx
   have h2:x≠n:=by rintro rfl; exact hm hx
   omega
  omega
end
theorem zn9 {c:UInt8} {b:List UInt8} (h:b.length+1≤9223372036854775807):z7e .add [c] b=some (.str (c::b)):=if_pos (by simp; omega)
theorem zoa {c:UInt8} {b d:List UInt8} (h:b.length+1+d.length≤9223372036854775807):z7e .add (c::b) d=some (.str (c::b++d)):=if_pos (by simp; omega)
theorem z3a {p:List Txt} (hg:zcp p=true) {t:Pt} (hi:t.In p.length (zax p).length) (ih:∀ t':Pt,t'.In p.length (zax p).length→t'.h*t'.w<t.h*t.w→PC Tryz.prog 79 [za1 (sub p t')] (.tup [.str (zp3 (zao p) t').1,.bool (zp3 (zao p) t').2]) true):PC Tryz.prog 79 [za1 (sub p t)] (.tup [.str (zp3 (zao p) t).1,.bool (zp3 (zao p) t).2]) true:=by
 have hg2:=z0b hg hi
 have hs2:=Sm.grid hg2
 have hl2:=zj3 hi
 have hh2:=zrp hg hi
 have hib:=hi
 unfold Pt.In at hib
 obtain ⟨row0,hrow0,hq0,hl0,-⟩:=zik hg hi (i:=0) hi.1
 obtain ⟨c0,hc0,hlet⟩:=ziv hg hrow0 (k:=t.c+0) (by omega)
 have hqc:=(zgn (row:=row0) (t:=t) hib.2.1).trans hc0
 have hz0:zao p t.r t.c=(c0.toNat:Int) - 97:=zc3 (by simpa using hrow0) (by simpa using hc0)
 simp only[zcs,qB,decide_eq_true_eq]at hlet
 have hcq:=zym hg hi
 refine PC.of ⟨Tryz.func79,by kernel_rfl,rfl,by kernel_rfl⟩ za4 mixed (by show 1≤Tryz.f79.ntmps; decide) ?_
 refine W.r fun K hK=>?_
 simp(disch:=omega)only[↓RU,RV,RH,↓reduceIte,qE,reduceCtorEq,if_pos,↓RS,RG,qA,qM,qL,w8]
 apply hK;clear hK K
 refine W.seq ?_
 refine W.r fun K hK=>?_
 simp(disch:=omega)only[↓RU,RV,RH,↓reduceIte,qE,reduceCtorEq,if_pos,qN,↓RS,RG,qA,qM,qL,w8]
 refine zag.pc (zy4 hs2 hg2) rfl (.inl rfl) ?_
 simp(disch:=omega)only[↓RU,RV,RH,↓reduceIte,qE,reduceCtorEq,if_pos,qN,↓RS,RG,qA,qM,qL,w8]
 apply hK;clear hK K
 refine W.cond rfl (fun h0=>?_) (fun h0=>?_)
 ·skip
  have h0:z57 (sub p t)=true:=h0
  rw [znx hg hi]at h0
  refine W.r fun K hK=>?_
  simp(disch:=omega)only[↓RU,RV,RH,↓reduceIte,qE,reduceCtorEq,if_pos,w64,w64,↓RS,RG,qA,qM,qL,ty3,ty4,zah,zhh,w8,hq0,hqc,Int.toNat_zero,Nat.zero_mul,qZ]
  apply hK;clear hK K
  refine W.ret ?_
  refine XThen.ret ?_
  refine Br rfl ?_
  rw [z0c hi h0,hz0]
  rfl
 skip
 have h0:z57 (sub p t)=false:=h0
 rw [znx hg hi]at h0
 refine W.skip ?_
 refine xn ?_
 refine W.r fun K hK=>?_
 rcases hq:zdn (zao p) t with _ | ⟨_ | _,k⟩
 ·skip
  rw [hq]at hcq
  simp only at hcq
  simp(disch:=omega)only[↓RU,RV,RH,↓reduceIte,qE,reduceCtorEq,if_pos,qN,↓RS,RG,qA,qM,qL,w8,hcq]
  refine zag.pc (zkq hs2 hg2) rfl (.inl rfl) ?_
  simp(disch:=omega)only[↓RU,RV,RH,↓reduceIte,qE,reduceCtorEq,if_pos,qN,↓RS,RG,qA,qM,qL,w8,hcq]
  apply hK;clear hK K
  refine W.seq ?_
  refine W.r fun K hK=>?_
  simp(disch:=omega)only[↓RU,RV,RH,↓reduceIte,qE,reduceCtorEq,if_pos,w64,↓RS,RG,qA,qM,qL,zaa,w8]
  apply hK;clear hK K
  refine W.cond rfl (fun h1=>?_) (fun h1=>?_)
  ·try simp only[RL]at h1
   refine W.r fun K hK=>?_
   simp(disch:=omega)only[↓RU,RV,RH,↓reduceIte,qE,reduceCtorEq,if_pos,↓RS,RG,qA,qM,qL,w8]
   apply hK;clear hK K
   refine W.ret ?_
   refine XThen.ret ?_
   refine Br rfl ?_
   rw [zwc hi h0 hq]
   rfl
  try simp only[RL]at h1
  exact absurd h1 (by simp)
 ·skip
  rw [hq]at hcq
  simp only[qF,if_false]at hcq
  obtain ⟨i1,i2,a1,a2⟩:=hi.cut hq
  have hck:=zeb hq
  simp only[qF,if_false]at hck
  simp(disch:=omega)only[↓RU,RV,RH,↓reduceIte,qE,reduceCtorEq,if_pos,qN,↓RS,RG,qA,qM,qL,w8,hcq]
  refine zag.pc (zkq hs2 hg2) rfl (.inl rfl) ?_
  simp(disch:=omega)only[↓RU,RV,RH,↓reduceIte,qE,reduceCtorEq,if_pos,qN,↓RS,RG,qA,qM,qL,w8,hcq]
  apply hK;clear hK K
  refine W.seq ?_
  refine W.r fun K hK=>?_
  simp(disch:=omega)only[↓RU,RV,RH,↓reduceIte,qE,reduceCtorEq,if_pos,w64,↓RS,RG,qA,qM,qL,zaa,w8]
  apply hK;clear hK K
  refine W.cond rfl (fun h1=>?_) (fun h1=>?_)
  ·try simp only[RL]at h1
   exact absurd h1 (by simp; omega)
  try simp only[RL]at h1
  refine W.skip ?_
  refine xn ?_
  refine W.r fun K hK=>?_
  have hP:=zo7 hs2 hg2 (k:=k) (by rw [hh2]; omega)
  rw [ztc (q:=(false,k)) (by simp; omega),ztd (q:=(false,k)) (by simp; omega)]at hP
  simp(disch:=omega)only[↓RU,RV,RH,↓reduceIte,qE,reduceCtorEq,if_pos,qN,↓RS,RG,qA,qM,qL,w8]
  refine zag.pc (hP) rfl (.inl rfl) ?_
  simp(disch:=omega)only[↓RU,RV,RH,↓reduceIte,qE,reduceCtorEq,if_pos,qN,↓RS,RG,qA,qM,qL,w8]
  apply hK;clear hK K
  refine W.r fun K hK=>?_
  simp(disch:=omega)only[↓RU,RV,RH,↓reduceIte,qE,reduceCtorEq,if_pos,qN,↓RS,RG,qA,qM,qL,w8]
  refine zag.pc (ih (t.one (false,k)) i1 a1) rfl (.inl rfl) ?_
  simp(disch:=omega)only[↓RU,RV,RH,↓reduceIte,qE,reduceCtorEq,if_pos,qN,↓RS,RG,qA,qM,qL,w8]
  apply hK;clear hK K
  refine W.r fun K hK=>?_
  simp(disch:=omega)only[↓RU,RV,RH,↓reduceIte,qE,reduceCtorEq,if_pos,qN,↓RS,RG,qA,qM,qL,w8]
  refine zag.pc (ih (t.two (false,k)) i2 a2) rfl (.inl rfl) ?_
  simp(disch:=omega)only[↓RU,RV,RH,↓reduceIte,qE,reduceCtorEq,if_pos,qN,↓RS,RG,qA,qM,qL,w8]
  apply hK;clear hK K
  refine W.r fun K hK=>?_
  have f1:=(zgo (z:=zao p) _ i1 (qR _)).1
  have f2:=(zgo (z:=zao p) _ i2 (qR _)).1
  have f3:t.h*t.w≤6*6:=Nat.mul_le_mul (by have:=zbk hg; omega) (by have:=(zbk hg2).2.2 _ (List.mem_of_getElem? hq0); omega)
  cases hb:(zp3 (zao p) (t.one (false,k))).2
  ·skip
   simp(disch:=omega)only[↓RU,RV,RH,↓reduceIte,qE,reduceCtorEq,if_pos,w64,Option.map_none,↓RS,RG,qA,qM,qL,zaa,zah,w8,zn9,zoa,Int.reduceAdd,qZ,List.take_succ_cons,List.take_zero,List.drop_zero,List.drop_succ_cons,List.length_append,List.length_cons,List.length_nil,hb]
   apply hK;clear hK K
   refine W.ret ?_
   refine Br rfl ?_
   rw [zlm hi h0 hq,hb]
   rfl
  skip
  simp(disch:=omega)only[↓RU,RV,RH,↓reduceIte,qE,reduceCtorEq,if_pos,w64,Option.map_none,↓RS,RG,qA,qM,qL,zaa,zah,w8,zn9,zoa,Int.reduceAdd,qZ,List.take_succ_cons,List.take_zero,List.drop_zero,List.drop_succ_cons,List.length_append,List.length_cons,List.length_nil,hb]
  apply hK;clear hK K
  refine W.ret ?_
  refine Br rfl ?_
  rw [zlm hi h0 hq,hb]
  rfl
 skip
 rw [hq]at hcq
 simp only[if_true]at hcq
 obtain ⟨i1,i2,a1,a2⟩:=hi.cut hq
 have hck:=zeb hq
 simp only[if_true]at hck
 simp(disch:=omega)only[↓RU,RV,RH,↓reduceIte,qE,reduceCtorEq,if_pos,qN,↓RS,RG,qA,qM,qL,w8,hcq]
 refine zag.pc (zkq hs2 hg2) rfl (.inl rfl) ?_
 simp(disch:=omega)only[↓RU,RV,RH,↓reduceIte,qE,reduceCtorEq,if_pos,qN,↓RS,RG,qA,qM,qL,w8,hcq]
 apply hK;clear hK K
 refine W.seq ?_
 refine W.r fun K hK=>?_
 simp(disch:=omega)only[↓RU,RV,RH,↓reduceIte,qE,reduceCtorEq,if_pos,w64,↓RS,RG,qA,qM,qL,zaa,w8]
 apply hK;clear hK K
 refine W.cond rfl (fun h1=>?_) (fun h1=>?_)
 ·try simp only[RL]at h1
  exact absurd h1 (by simp; omega)
 try simp only[RL]at h1
 refine W.skip ?_
 refine xn ?_
 refine W.r fun K hK=>?_
 have hP:=zo6 hs2 hg2 (k:=k) (by rw [hl2]; omega)
 rw [ztc (q:=(true,k)) (by simp; omega),ztd (q:=(true,k)) (by simp; omega)]at hP
 simp(disch:=omega)only[↓RU,RV,RH,↓reduceIte,qE,reduceCtorEq,if_pos,qN,↓RS,RG,qA,qM,qL,w8]
 refine zag.pc (hP) rfl (.inl rfl) ?_
 simp(disch:=omega)only[↓RU,RV,RH,↓reduceIte,qE,reduceCtorEq,if_pos,qN,↓RS,RG,qA,qM,qL,w8]
 apply hK;clear hK K
 refine W.r fun K hK=>?_
 simp(disch:=omega)only[↓RU,RV,RH,↓reduceIte,qE,reduceCtorEq,if_pos,qN,↓RS,RG,qA,qM,qL,w8]
 refine zag.pc (ih (t.one (true,k)) i1 a1) rfl (.inl rfl) ?_
 simp(disch:=omega)only[↓RU,RV,RH,↓reduceIte,qE,reduceCtorEq,if_pos,qN,↓RS,RG,qA,qM,qL,w8]
 apply hK;clear hK K
 refine W.r fun K hK=>?_
 simp(disch:=omega)only[↓RU,RV,RH,↓reduceIte,qE,reduceCtorEq,if_pos,qN,↓RS,RG,qA,qM,qL,w8]
 refine zag.pc (ih (t.two (true,k)) i2 a2) rfl (.inl rfl) ?_
 simp(disch:=omega)only[↓RU,RV,RH,↓reduceIte,qE,reduceCtorEq,if_pos,qN,↓RS,RG,qA,qM,qL,w8]
 apply hK;clear hK K
 refine W.r fun K hK=>?_
 have f1:=(zgo (z:=zao p) _ i1 (qR _)).1
 have f2:=(zgo (z:=zao p) _ i2 (qR _)).1
 have f3:t.h*t.w≤6*6:=Nat.mul_le_mul (by have:=zbk hg; omega) (by have:=(zbk hg2).2.2 _ (List.mem_of_getElem? hq0); omega)
 cases hb:(zp3 (zao p) (t.one (true,k))).2
 ·skip
  simp(disch:=omega)only[↓RU,RV,RH,↓reduceIte,qE,reduceCtorEq,if_pos,w64,Option.map_none,↓RS,RG,qA,qM,qL,zaa,zah,w8,zn9,zoa,Int.reduceAdd,qZ,List.take_succ_cons,List.take_zero,List.drop_zero,List.drop_succ_cons,List.length_append,List.length_cons,List.length_nil,hb]
  apply hK;clear hK K
  refine W.ret ?_
  refine Br rfl ?_
  rw [zlm hi h0 hq,hb]
  rfl
 skip
 simp(disch:=omega)only[↓RU,RV,RH,↓reduceIte,qE,reduceCtorEq,if_pos,w64,Option.map_none,↓RS,RG,qA,qM,qL,zaa,zah,w8,zn9,zoa,Int.reduceAdd,qZ,List.take_succ_cons,List.take_zero,List.drop_zero,List.drop_succ_cons,List.length_append,List.length_cons,List.length_nil,hb]
 apply hK;clear hK K
 refine W.ret ?_
 refine Br rfl ?_
 rw [zlm hi h0 hq,hb]
 rfl
theorem zuo {p:List Txt} (hg:zcp p=true):∀ (n:Nat) {t:Pt},t.h*t.w≤n→t.In p.length (zax p).length→PC Tryz.prog 79 [za1 (sub p t)] (.tup [.str (zp3 (zao p) t).1,.bool (zp3 (zao p) t).2]) true
 | 0,t,hn,hi=>by have:=Nat.mul_pos hi.1 hi.2.1; omega
 | n+1,t,hn,hi=>z3a hg hi fun t' hi' ha=>zuo hg n (by omega) hi'
def zd7 (p:List Txt):Pt:=⟨0,0,p.length,(zax p).length⟩
theorem z5m {p:List Txt} (hg:zcp p=true):sub p (zd7 p)=p:=by
 unfold sub zd7
 simp only[List.drop_zero,List.take_length]
 conv=>rhs; rw [← List.map_id p]
 refine List.map_congr_left fun row hrow=>?_
 simp only[zij,List.drop_zero,id_eq]
 rw [qT (by rw [zkm hg row hrow]; exact qR _)]
theorem z8c {p:List Txt} (hg:zcp p=true):(zd7 p).In p.length (zax p).length:=by
 have hsm:=zbk hg
 obtain ⟨row0,h0,hm0⟩:=zaf hsm.1
 have hw:=zep hg h0
 rw [← zcj h0]at hw
 exact ⟨hsm.1,hw,by simp [zd7],by simp [zd7]⟩
def z8i (p:List Txt):Bool:=zcz p && (zct (zao p) (zd7 p)).isSome
theorem zv2 {p:List Txt} (hs:Sm p):PC Tryz.prog 38 [za1 p] (.bool (z8i p)) true:=by
 refine PC.of ⟨Tryz.func38,by kernel_rfl,rfl,by kernel_rfl⟩ za4 mixed (by show 1≤Tryz.f38.ntmps; decide) ?_
 refine W.r fun K hK=>?_
 simp(disch:=omega)only[↓RU,RV,RH,↓reduceIte,qE,reduceCtorEq,if_pos]
 apply hK;clear hK K
 refine W.seq ?_
 refine W.r fun K hK=>?_
 simp(disch:=omega)only[↓RU,RV,RH,↓reduceIte,qE,reduceCtorEq,if_pos,qN]
 refine zag.pc (zmf hs) rfl (.inl rfl) ?_
 simp(disch:=omega)only[↓RU,RV,RH,↓reduceIte,qE,reduceCtorEq,if_pos,qN]
 apply hK;clear hK K
 refine W.cond rfl (fun h0=>?_) (fun h0=>?_)
 ·skip
  have h0:zcz p=false:=by simpa using h0
  refine W.r fun K hK=>?_
  simp(disch:=omega)only[↓RU,RV,RH,↓reduceIte,qE,reduceCtorEq,if_pos]
  apply hK;clear hK K
  refine W.ret ?_
  refine XThen.ret ?_
  refine Br rfl ?_
  rw [show z8i p=false by simp [z8i,h0]]
  rfl
 skip
 have h0:zcz p=true:=by simpa using h0
 have hg:=zec h0
 have hT:=zuo hg _ (qR _) (z8c hg)
 rw [z5m hg,(zgo (z:=zao p) _ (z8c hg) (qR _)).2]at hT
 refine W.skip ?_
 refine xn ?_
 refine W.r fun K hK=>?_
 simp(disch:=omega)only[↓RU,RV,RH,↓reduceIte,qE,reduceCtorEq,if_pos,qN]
 refine zag.pc (hT) rfl (.inl rfl) ?_
 simp(disch:=omega)only[↓RU,RV,RH,↓reduceIte,qE,reduceCtorEq,if_pos,qN]
 apply hK;clear hK K
 refine W.r fun K hK=>?_
 simp(disch:=omega)only[↓RU,RV,RH,↓reduceIte,qE,reduceCtorEq,if_pos]
 apply hK;clear hK K
 refine W.ret ?_
 refine Br rfl ?_
 rw [show z8i p=(zct (zao p) (zd7 p)).isSome by simp [z8i,h0]]
 rfl
def zlw {α:Type} (enc:α→PV) (zero:PV) (room:Int→α) (cut:Bool→α→α→α):Option CT→PV
 | some x => .tup [enc (x.fold room cut),.bool true]
 | none => .tup [zero,.bool false]
theorem z2l {α:Type} {enc:α→PV} {zero:PV} {room:Int→α} {cut:Bool→α→α→α} (o:Option CT):∃ v b,zlw enc zero room cut o = .tup [v,.bool b]:=by
 cases o with
 | none=>exact ⟨_,_,rfl⟩
 | some x=>exact ⟨_,_,rfl⟩
theorem zmj (a b:Option CT):a=none∨(∃ x,a=some x∧b=none)∨∃ x y,a=some x∧b=some y:=by
 cases a <;> cases b <;> simp
theorem zrl {p:List Txt} (hp:zcz p=true):(rP p).length≤9∧∀ b∈rP p,b.Fit:=by
 have hN:=zc1 hp
 have h1:=hN.rooms
 have h2:zcy p≤9:=by unfold zcz at hp; simp only[qB,decide_eq_true_eq]at hp; exact hp.1.2
 have hsm:=zbk hN.hg
 obtain ⟨row0,hr0,hm0⟩:=zaf hsm.1
 have hh:=zcj hr0
 have hw6:=hsm.2.2 row0 hm0
 have hw1:=zep hN.hg hr0
 rw [← hh]at hw6 hw1
 have hok:=(zfd (g:=zbw p) hw6 hw1 p.length hsm.2.1).1
 rw [← z4m]at hok
 exact ⟨by omega,hok.2⟩
theorem zzp {p:List Txt} (hp:zcz p=true) {t:Pt} (h:t.In p.length (zax p).length):t.rect.Fit:=by
 have hg:=zxj hp
 obtain ⟨g1,g2,g3,g4⟩:=hg.2.2
 unfold Pt.In at h
 simp only[Rect.Fit,Pt.rect]
 omega
def pareto (l:List Shp):List Shp:=l.foldl (fun o s=>put o s.1 s.2) []
theorem ze0 (l:List Shp):Best l (pareto l):=by
 have h:=z6d (sh:=fun i=>l[i]?.getD (0,0)) l.length
 have e1:(List.range l.length).map (fun i=>l[i]?.getD (0,0))=l:=by
  apply List.ext_getElem?
  intro i
  by_cases hi:i<l.length
  ·simp [hi]
  simp [hi] <;> omega
 have e2:z0i (fun i=>l[i]?.getD (0,0)) l.length=pareto l:=by
  unfold z0i pareto
  conv=>rhs; rw [← e1]
  rw [List.foldl_map]
 rw [e1,e2]at h
 exact h
theorem zre {z l:List Shp} (hz:z.Pairwise LexLe) (hp:z.Perm l):bsF z=pareto l:=(z9p hz hp).uniq (ze0 l)
theorem zvk {l:List Shp} (h:l≠[]):pareto l≠[]:=by
 cases l with
 | nil=>exact absurd rfl h
 | cons a l =>
  obtain ⟨y,hy,_⟩:=(ze0 (a::l)).dom a (by simp)
  intro e; rw [e]at hy; cases hy
def prods (lv:Bool) (x y:List Shp):List Shp:=x.flatMap fun a=>y.map fun b=>if lv then (max a.1 b.1,a.2+b.2) else (a.1+b.1,max a.2 b.2)
theorem zie {lv:Bool} {y:List Shp}:∀ (x:List Shp),(prods lv x y).length=x.length*y.length
 | []=>by simp [prods]
 | a::x=>by
  have:=zie (lv:=lv) (y:=y) x
  unfold prods at this ⊢
  rw [List.flatMap_cons,List.length_append,this,List.length_map,List.length_cons,Nat.add_mul]; omega
def zeo (lv:Bool) (a:Shp) (y:List Shp):List Shp:=y.map fun b=>if lv then (max a.1 b.1,a.2+b.2) else (a.1+b.1,max a.2 b.2)
theorem zl9 {lv:Bool} {x y:List Shp} {i:Nat} {a:Shp} (h:x[i]?=some a):prods lv (x.take (i+1)) y=prods lv (x.take i) y++zeo lv a y:=by
 rw [tk h]; simp [prods,zeo]
theorem zl8 {lv:Bool} {y:List Shp} {a b:Shp} {k:Nat} (h:y[k]?=some b):zeo lv a (y.take (k+1))=zeo lv a (y.take k)++[if lv then (max a.1 b.1,a.2+b.2) else (a.1+b.1,max a.2 b.2)]:=by
 rw [tk h]; simp [zeo]
def ShB (B:Int) (l:List Shp):Prop:=∀ s∈l,(1≤s.1∧s.1≤B)∧1≤s.2∧s.2≤B
theorem ShB.mono {B C:Int} {l:List Shp} (h:ShB B l) (k:B≤C):ShB C l:=fun s hs=>by have:=h s hs; omega
theorem ShB.put {B:Int} {l:List Shp} (h:ShB B l):ShB B (pareto l):=fun s hs=>h s ((ze0 l).sub s hs)
theorem ShB.prods {B C:Int} {x y:List Shp} (hx:ShB B x) (hy:ShB C y) (lv:Bool):ShB (B+C) (prods lv x y):=by
 intro s hs
 unfold Fw.prods at hs
 obtain ⟨a,ha,hs⟩:=List.mem_flatMap.1 hs
 obtain ⟨b,hb,rfl⟩:=List.mem_map.1 hs
 have h1:=hx a ha
 have h2:=hy b hb
 cases lv <;> simp <;> omega
theorem z5j {B:Nat} {l:List Shp} (h:Stc l) (hb:ShB B l):l.length≤B+1:=by
 have h1:(l.map (·.1)).Nodup:=by
  rw [List.nodup_iff_pairwise_ne,List.pairwise_map]
  exact h.imp fun hh e=>by omega
 have:=znw (n:=B+1) h1 fun x hx=>by
  obtain ⟨s,hs,rfl⟩:=List.mem_map.1 hx
  have:=hb s hs; omega
 simpa using this
def zto (ws ht:List Int) (a:Int):List Shp:=pareto [(zhg ws a.toNat,zhg ht a.toNat),(zhg ht a.toNat,zhg ws a.toNat)]
def z7v (lv:Bool) (x y:List Shp):List Shp:=pareto (prods lv x y)
def zg2 (ws ht:List Int) (x:CT):List Shp:=x.fold (zto ws ht) z7v
theorem z1h {ws ht:List Int} {x:CT} (h1:∀ a∈x.leaves,1≤zhg ws a.toNat∧zhg ws a.toNat≤9) (h2:∀ a∈x.leaves,1≤zhg ht a.toNat∧zhg ht a.toNat≤9) :
  ShB ((9*x.leaves.length:Nat):Int) (zg2 ws ht x)∧Stc (zg2 ws ht x)∧1≤(zg2 ws ht x).length:=by
 induction x with
 | leaf a =>
  have k1:=h1 a (by simp [CT.leaves])
  have k2:=h2 a (by simp [CT.leaves])
  refine ⟨ShB.put fun s hs=>?_,(ze0 _).st,List.length_pos_iff.2 (zvk (by simp))⟩
  simp only[List.mem_cons,List.not_mem_nil,or_false]at hs
  simp only[CT.leaves,List.length_singleton]
  rcases hs with rfl | rfl <;> simp <;> omega
 | node lv x y i1 i2 =>
  obtain ⟨a1,a2,a3⟩:=i1 (fun a ha=>h1 a (by simp [CT.leaves,ha])) fun a ha=>h2 a (by simp [CT.leaves,ha])
  obtain ⟨b1,b2,b3⟩:=i2 (fun a ha=>h1 a (by simp [CT.leaves,ha])) fun a ha=>h2 a (by simp [CT.leaves,ha])
  have hl:=zie (lv:=lv) (y:=zg2 ws ht y) (zg2 ws ht x)
  have hp:1*1≤(zg2 ws ht x).length*(zg2 ws ht y).length:=Nat.mul_le_mul a3 b3
  refine ⟨ShB.mono (ShB.put (a1.prods b1 lv)) (by simp only[CT.leaves,List.length_append]; omega),(ze0 _).st,List.length_pos_iff.2 (zvk fun e=>?_)⟩
  have:(prods lv (zg2 ws ht x) (zg2 ws ht y)).length=0:=by rw [show prods lv (zg2 ws ht x) (zg2 ws ht y)=[] from e]; rfl
  omega
section
theorem zza {p:List Txt} {ws:List Int}:zgf p ws=zd1 p [ws]:=(zxe).symm
theorem zns {p:List Txt} {ws ht:List Int}:zm4 p ws ht=zde p ws ht:=by
 unfold zm4
 rw [zza,zza]
 unfold zde
 cases h1:zd1 p [ws] with
 | false =>
  have:zd1 p [ws,ht]=false:=by
   unfold zd1 at h1 ⊢
   simp only[List.all_cons,List.all_nil,Bool.and_true]at h1 ⊢
   cases ha:zfc p <;> cases hb:zl3 p ws <;> simp_all
  rw [this]; simp
 | true =>
  cases h2:zd1 p [ht] with
  | false =>
   have:zd1 p [ws,ht]=false:=by
    unfold zd1 at h2 ⊢
    simp only[List.all_cons,List.all_nil,Bool.and_true]at h2 ⊢
    cases ha:zfc p <;> cases hb:zl3 p ht <;> simp_all
   rw [this]; simp
  | true =>
   have h3:=(zpb h1).2.1
   have:zd1 p [ws,ht]=true:=by
    unfold zd1 at h1 h2 ⊢
    simp only[List.all_cons,List.all_nil,Bool.and_true,qB]at h1 h2 ⊢
    exact ⟨h1.1,h1.2,h2.2⟩
   rw [this,h3]; simp
section
variable {p:List Txt} {ws ht:List Int}
end
end
theorem z64 {p:List Txt} (hs:Sm p) {wss:List (List Int)} (hn:wss.length≤1000) (hw:∀ ws∈wss,ws.length≤1048576) {wv t:Nat}:Ev Tryz.prog 32 [za1 p,.loc 0 wv 0 wss.length] ⟨[.arr wv 24 1 (wss.map eInts)],t⟩ fun v S=>v = .tup [if (zd1 p wss) then zaw (gP p) (rP p) else .nilp,.bool (zd1 p wss)]∧S=⟨[.arr wv 24 1 (wss.map eInts)],t⟩:=by
 obtain ⟨x,hx,hxy,hxr⟩:=z08 hs
 refine Ev.of ⟨Tryz.func32,by kernel_rfl,rfl,by kernel_rfl⟩ za4 mixed (by show 2≤Tryz.f32.ntmps; decide) ?_
 refine W.r fun K hK=>?_
 simp(disch:=omega)only[↓RU,RV,RH,↓reduceIte,qE,reduceCtorEq,if_pos,↓RS,RG,qA,qM,qL]
 apply hK;clear hK K
 refine W.r fun K hK=>?_
 simp(disch:=omega)only[↓RU,RV,RH,↓reduceIte,qE,reduceCtorEq,if_pos,qN,↓RS,RG,qA,qM,qL]
 refine zag.pc (hx) rfl (.inr rfl) ?_
 simp(disch:=omega)only[↓RU,RV,RH,↓reduceIte,qE,reduceCtorEq,if_pos,qN,↓RS,RG,qA,qM,qL]
 apply hK;clear hK K
 refine W.seq ?_
 refine W.r fun K hK=>?_
 simp(disch:=omega)only[↓RU,RV,RH,↓reduceIte,qE,reduceCtorEq,if_pos,↓RS,RG,qA,qM,qL]
 apply hK;clear hK K
 refine W.cond rfl (fun h=>?_) (fun h=>?_)
 ·try simp only[RL]at h
  refine W.r fun K hK=>?_
  simp(disch:=omega)only[↓RU,RV,RH,↓reduceIte,qE,reduceCtorEq,if_pos,↓RS,RG,qA,qM,qL]
  apply hK;clear hK K
  refine W.ret ?_
  refine XThen.ret ?_
  refine Br rfl ?_
  have hnv:zd1 p wss=false:=by unfold zd1; rw [h]; rfl
  exact ⟨_,by rw [hnv]; rfl,zbj⟩
 try simp only[RL]at h
 obtain rfl:=hxy h
 refine W.skip ?_
 refine xn ?_
 refine W.r fun K hK=>?_
 simp(disch:=omega)only[↓RU,RV,RH,↓reduceIte,qE,reduceCtorEq,if_pos,↓RS,RG,qA,qM,qL]
 apply hK;clear hK K
 refine W.seq ?_
 refine W.r fun K hK=>?_
 simp(disch:=omega)only[↓RU,RV,RH,↓reduceIte,qE,reduceCtorEq,if_pos,↓RS,RG,qA,qM,qL,ty0,zab,zaa,z6k,ycw]
 apply hK;clear hK K
 refine W.block ?_
 refine W.loop [6,8,18,19,20] (fun n vs S=>∃ i:Nat,n=wss.length - i∧i≤wss.length∧((wss.take i).all (zl3 p)=true)∧vs=[zaw (gP p) (rP p),.fn 70 [],.loc 0 wv 0 wss.length,.int .i64 wss.length,.int .i64 i]∧S=⟨[.arr wv 24 1 (wss.map eInts)],t⟩) (wss.length) ?_ ?_
 ·refine ⟨1,0,rfl,Nat.zero_le _,rfl,?_,rfl⟩
  simp [Env.put,Env.of,zad]
 rintro n vs S - ⟨i,rfl,h_i,hall,rfl,rfl⟩
 refine W.r fun K hK=>?_
 simp(disch:=omega)only[↓RU,RV,RH,↓reduceIte,qE,reduceCtorEq,if_pos,w64,↓RS,RG,qA,qM,qL,zaa]
 apply hK;clear hK K
 refine W.seq ?_
 refine W.cond rfl (fun h1=>?_) (fun h1=>?_)
 ·try simp only[RL]at h1
  obtain ⟨ws,hws,hwm⟩:=zaf (show i<wss.length by omega)
  have hwl:=hw ws hwm
  obtain ⟨hokp,-⟩:=z4c h
  have hrp:(rP p).length≤1000:=by have:=zu2 hokp; omega
  refine W.skip ?_
  refine xn ?_
  refine W.seq ?_
  refine W.block ?_
  refine W.r fun K hK=>?_
  simp(disch:=omega)only[↓RU,RV,RH,↓reduceIte,qE,reduceCtorEq,if_pos,↓RS,RG,qA,qM,qL,ty0,zab,zaa,hws]
  apply hK;clear hK K
  refine W.r fun K hK=>?_
  by_cases hlen:ws.length=(rP p).length
  ·skip
   have hd:((ws.length:Int) != ((rP p).length:Int))=false:=by rw [hlen]; simp
   simp(disch:=omega)only[↓RU,RV,RH,↓reduceIte,qE,reduceCtorEq,if_pos,w64,qN,↓RS,RG,qA,qM,qL,ty0,ty1,zab,ty7,ty8,zbg,zaa,zfp,zbh,hd,zbn]
   refine zag.pc (zp4 (l:=ws) (by omega) (g:=70) (cap:=[]) rfl rfl (test:=fun n => !zks n) (fun n _=>zxf n)) rfl (.inl rfl) ?_
   simp(disch:=omega)only[↓RU,RV,RH,↓reduceIte,qE,reduceCtorEq,if_pos,w64,qN,↓RS,RG,qA,qM,qL,ty0,ty1,zab,ty7,ty8,zbg,zaa,zfp,zbh,hd,zbn]
   apply hK;clear hK K
   refine W.cond rfl (fun h2=>?_) (fun h2=>?_)
   ·try simp only[RL]at h2
    have hok:zl3 p ws=false:=by unfold zl3; rw [List.all_eq_not_any_not,h2]; simp
    refine W.r fun K hK=>?_
    simp(disch:=omega)only[↓RU,RV,RH,↓reduceIte,qE,reduceCtorEq,if_pos,↓RS,RG,qA,qM,qL]
    apply hK;clear hK K
    refine W.ret ?_
    refine XBlock.ret ?_
    refine XThen.ret ?_
    refine XThen.ret ?_
    refine XBlock.ret ?_
    refine XThen.ret ?_
    refine Br rfl ?_
    have hnv:=zy9 hwm hok
    exact ⟨_,by rw [hnv]; rfl,zbj⟩
   try simp only[RL]at h2
   have hok:zl3 p ws=true:=by unfold zl3; rw [decide_eq_true hlen,List.all_eq_not_any_not]; simpa using h2
   refine W.skip ?_
   refine XbN ?_
   refine xn ?_
   refine W.k fun K hK=>?_
   simp(disch:=omega)only[↓RU,RV,RH,↓reduceIte,qE,reduceCtorEq,if_pos,w64,↓RS,RG,qA,qM,qL,zaa]
   apply hK;clear hK K
   refine xn ?_
   refine ⟨wss.length - (i+1),by omega,1,i+1,rfl,by omega,zmp hws hall hok,?_,rfl⟩
   simp [Env.put,Env.of]
  skip
  have hd:((ws.length:Int) != ((rP p).length:Int))=true:=by simp; omega
  simp(disch:=omega)only[↓RU,RV,RH,↓reduceIte,qE,reduceCtorEq,if_pos,w64,qN,↓RS,RG,qA,qM,qL,ty0,ty1,zab,ty7,ty8,zbg,zaa,zfp,zbh,hd,zbn]
  apply hK;clear hK K
  refine W.cond rfl (fun h2=>?_) (fun h2=>?_)
  ·try simp only[RL]at h2
   have hok:zl3 p ws=false:=by unfold zl3; rw [decide_eq_false hlen]; rfl
   refine W.r fun K hK=>?_
   simp(disch:=omega)only[↓RU,RV,RH,↓reduceIte,qE,reduceCtorEq,if_pos,↓RS,RG,qA,qM,qL]
   apply hK;clear hK K
   refine W.ret ?_
   refine XBlock.ret ?_
   refine XThen.ret ?_
   refine XThen.ret ?_
   refine XBlock.ret ?_
   refine XThen.ret ?_
   refine Br rfl ?_
   have hnv:=zy9 hwm hok
   exact ⟨_,by rw [hnv]; rfl,zbj⟩
  try simp only[RL]at h2
  exact absurd h2 (by simp)
 try simp only[RL]at h1
 obtain rfl:wss.length=i:=by omega
 rw [List.take_length]at hall
 refine W.exit ?_
 refine xe ?_
 refine xe ?_
 refine XBlock.hit ?_
 refine xn ?_
 refine W.r fun K hK=>?_
 simp(disch:=omega)only[↓RU,RV,RH,↓reduceIte,qE,reduceCtorEq,if_pos,↓RS,RG,qA,qM,qL]
 apply hK;clear hK K
 refine W.ret ?_
 refine Br rfl ?_
 have hnv:zd1 p wss=true:=by rw [zd1,h,hall]; rfl
 exact ⟨_,by rw [hnv]; rfl,zbj⟩
theorem zee {p:List Txt} (hs:Sm p) {ws ht:List Int} (hw:ws.length≤1048576) (hh:ht.length≤1048576):PC Tryz.prog 57 [za1 p,eInts ws,eInts ht] (.tup [if (zd1 p [ws,ht]) then zaw (gP p) (rP p) else .nilp,.bool (zde p ws ht)]) false:=by
 refine PC.of ⟨Tryz.func57,by kernel_rfl,rfl,by kernel_rfl⟩ za4 mixed (by show 3≤Tryz.f57.ntmps; decide) ?_
 refine W.r fun K hK=>?_
 simp(disch:=omega)only[↓RU,RV,RH,↓reduceIte,qE,reduceCtorEq,if_pos,↓RS,RG,qA,qM,qL]
 apply hK;clear hK K
 refine W.r fun K hK=>?_
 simp(disch:=omega)only[↓RU,RV,RH,↓reduceIte,qE,reduceCtorEq,if_pos,qN,↓RS,RG,qA,qM,qL,ty0,zab,zaa]
 refine zag.ev (z64 hs (wss:=[ws,ht]) (by simp) (by intro a ha; simp only[List.mem_cons,List.not_mem_nil,or_false]at ha; rcases ha with rfl | rfl <;> assumption)) ?_
 rintro _ _ ⟨rfl,rfl⟩
 simp(disch:=omega)only[↓RU,RV,RH,↓reduceIte,qE,reduceCtorEq,if_pos,qN,↓RS,RG,qA,qM,qL,ty0,zab,zaa]
 apply hK;clear hK K
 refine W.seq_draw (by kernel_rfl) fun K hK=>?_
 cases hv:(zd1 p [ws,ht])
 ·skip
  simp(disch:=omega)only[↓RU,RV,RH,↓reduceIte,qE,reduceCtorEq,if_pos,w64,↓RS,RG,qA,qM,qL,ty0,ty1,zab,ty7,ty8,zbg,zaa,zfp,zbh,hv,qF]
  apply hK;clear hK K
  refine W.ret ?_
  refine Br rfl ?_
  rw [hv,show zde p ws ht=false by unfold zde; rw [hv]; rfl]
  rfl
 skip
 simp(disch:=omega)only[↓RU,RV,RH,↓reduceIte,qE,reduceCtorEq,if_pos,w64,↓RS,RG,qA,qM,qL,ty0,ty1,zab,ty7,ty8,zbg,zaa,zfp,zbh,hv,zbn]
 apply hK;clear hK K
 refine W.ret ?_
 refine Br rfl ?_
 rw [hv,show zde p ws ht=decide (((rP p).length:Int)≤8) by unfold zde; rw [hv]; simp; omega]
 rfl
theorem z6f {l:List Shp} (hl:l.length≤1048576) (h1:1≤l.length) {ver t:Nat}:Ev Tryz.prog 59 [.loc 0 ver 0 l.length] ⟨[.arr ver 87 2 (scs l)],t⟩ fun v S=>∃ (z:List Shp) (ver2 v2 t2:Nat),z.Perm l∧z.Pairwise LexLe∧v = .loc 1 v2 0 (bsF z).length∧S=⟨[.arr ver2 87 2 (scs z),.arr v2 87 2 (scs (bsF z))],t2⟩:=by
 refine Ev.of ⟨Tryz.func59,by kernel_rfl,rfl,by kernel_rfl⟩ za4 mixed (by show 1≤Tryz.f59.ntmps; decide) ?_
 refine W.r fun K hK=>?_
 simp(disch:=omega)only[↓RU,RV,RH,↓reduceIte,qE,reduceCtorEq,if_pos,↓RS,RG,qA,qM,qL]
 apply hK;clear hK K
 refine W.r fun K hK=>?_
 simp(disch:=omega)only[↓RU,RV,RH,↓reduceIte,qE,reduceCtorEq,if_pos,qN,↓RS,RG,qA,qM,qL]
 refine zag.ev (zv8 (F:=[]) (R:=[]) (by omega)) ?_
 rintro _ _ ⟨rfl,z,hzp,hzs,rfl⟩
 have hzl:z.length=l.length:=hzp.length_eq
 simp(disch:=omega)only[↓RU,RV,RH,↓reduceIte,qE,reduceCtorEq,if_pos,qN,↓RS,RG,qA,qM,qL]
 apply hK;clear hK K
 refine W.r fun K hK=>?_
 simp(disch:=omega)only[↓RU,RV,RH,↓reduceIte,qE,reduceCtorEq,if_pos,↓RS,RG,qA,qM,qL]
 apply hK;clear hK K
 refine W.seq ?_
 refine W.r fun K hK=>?_
 simp(disch:=omega)only[↓RU,RV,RH,↓reduceIte,qE,reduceCtorEq,if_pos,↓RS,RG,qA,qM,qL,ty2,zf8,zaa,zf9]
 apply hK;clear hK K
 refine W.block ?_
 refine W.loopS [3,8,9,10] (fun n vs S=>∃ i ver v t:Nat,n=l.length - i∧i≤l.length∧vs=[slC 1 (bsF (z.take i)) v,.loc 0 ver 0 l.length,.int .i64 l.length,.int .i64 i]∧S=⟨.arr ver 87 2 (scs z)::tlC (bsF (z.take i)) v,t⟩) l.length ?_ ?_
 ·refine ⟨0,[0],[.nils,.loc 0 t 0 l.length,.int .i64 l.length,.int .i64 (0:Nat)],⟨[.arr t 87 2 (scs z)],t+1⟩,?_,?_,0,t,0,t+1,rfl,Nat.zero_le _,rfl,rfl⟩
  ·simp [-qU,Env.put,Env.of,zad,za2,zac,zai,zak,zam,za3,za8,zbz,za7,zat,za9,zby,zb0,zav,zau,zan,za6,zba,zbx,zar,zaq,zal,zas,za5,zc9,qS,qP,qC]
  simp [-qU,Env.put,Env.of,zad,za2,zac,zai,zak,zam,za3,za8,zbz,za7,zat,za9,zby,zb0,zav,zau,zan,za6,zba,zbx,zar,zaq,zal,zas,za5,zc9,qS,qP,qC,zgi]
 rintro n vs S - ⟨i,ver2,v,t2,rfl,h_i,rfl,rfl⟩
 refine W.r fun K hK=>?_
 simp(disch:=omega)only[↓RU,RV,RH,↓reduceIte,qE,reduceCtorEq,if_pos,w64,↓RS,RG,qA,qM,qL,zaa]
 apply hK;clear hK K
 refine W.seq ?_
 refine W.cond rfl (fun h=>?_) (fun h=>?_)
 ·try simp only[RL]at h
  obtain ⟨x,hx,-⟩:=zaf (show i<z.length by omega)
  have hsu:=znn hx
  have hol:=zwq (z:=z) (i:=i) (by omega)
  have hpx:((scs z).drop (i*2)).take 2=[.int .i64 x.1,.int .i64 x.2]:=zrm hx
  refine W.skip ?_
  refine xn ?_
  refine W.seq ?_
  refine W.block ?_
  refine W.r fun K hK=>?_
  by_cases hi0:i=0
  ·skip
   subst hi0
   have ho:bsF (z.take 0)=[]:=rfl
   rw [ho]at hsu
   simp only[ho,zs8,zp0]
   have hpx:(scs z).take 2=[.int .i64 x.1,.int .i64 x.2]:=by simpa using hpx
   have hpq:=True.intro
   have ho0:=True.intro
   have ho1:=True.intro
   simp(disch:=omega)only[↓RU,RV,RH,↓reduceIte,qE,reduceCtorEq,if_pos,↓RS,RG,qA,qM,qL,ty2,zf8,zaa,zf9,hpx,zcd,hzl]
   apply hK;clear hK K
   refine W.seq_draw (by kernel_rfl) fun K hK=>?_
   simp(disch:=omega)only[↓RU,RV,RH,↓reduceIte,qE,reduceCtorEq,if_pos,w64,↓RS,RG,qA,qM,qL,ty2,zf8,zaa,zf9,hpq,ho0,zcq,zcd]
   apply hK;clear hK K
   refine W.cond rfl (fun h1=>?_) (fun h1=>?_)
   ·try simp only[RL]at h1
    refine W.k fun K hK=>?_
    simp(disch:=omega)only[↓RU,RV,RH,↓reduceIte,qE,reduceCtorEq,if_pos,↓RS,RG,qA,qM,qL,ty2,zf8,zaa,zf9,zcd,zjj]
    apply hK;clear hK K
    refine XbN ?_
    refine xn ?_
    refine W.k fun K hK=>?_
    simp(disch:=omega)only[↓RU,RV,RH,↓reduceIte,qE,reduceCtorEq,if_pos,w64,↓RS,RG,qA,qM,qL,zaa]
    apply hK;clear hK K
    refine xn ?_
    refine ⟨l.length - (0+1),by omega,1,[3],[.loc 1 (t2+3) 0 1,.loc 0 ver2 0 l.length,.int .i64 l.length,.int .i64 ((0+1:Nat):Int)],⟨[.arr ver2 87 2 (scs z),.arr (t2+3) 87 2 ([.int .i64 x.1,.int .i64 x.2])],t2+4⟩,?_,?_,1,ver2,t2+3,t2+4,rfl,by omega,by rw [hsu]; rfl,by rw [hsu]; rfl⟩
    ·simp [-qU,Env.put,Env.of,zad,za2,zac,zai,zak,zam,za3,za8,zbz,za7,zat,za9,zby,zb0,zav,zau,zan,za6,zba,zbx,zar,zaq,zal,zas,za5,zc9,qS,qP,qC]
    simp [-qU,Env.put,Env.of,zad,za2,zac,zai,zak,zam,za3,za8,zbz,za7,zat,za9,zby,zb0,zav,zau,zan,za6,zba,zbx,zar,zaq,zal,zas,za5,zc9,qS,qP,qC,zgi]
   try simp only[RL]at h1
   exact absurd h1 (by simp)
  skip
  have hne:=zye hi0 (show i≤z.length by omega)
  generalize bsF (z.take i)=o at hsu hol hne ⊢
  simp only[zfs hne,zfg hne]
  obtain ⟨q,hq,hq2⟩:=zxa hne
  have hpq:=z44 hq
  have ho1:1≤o.length:=List.length_pos_iff.2 hne
  have ho0:((o.length:Int) == 0)=false:=by simp; omega
  rw [zr3 hq2]at hsu
  simp(disch:=omega)only[↓RU,RV,RH,↓reduceIte,qE,reduceCtorEq,if_pos,↓RS,RG,qA,qM,qL,ty2,zf8,zaa,zf9,hpx,zcd,hzl]
  apply hK;clear hK K
  refine W.seq_draw (by kernel_rfl) fun K hK=>?_
  simp(disch:=omega)only[↓RU,RV,RH,↓reduceIte,qE,reduceCtorEq,if_pos,w64,↓RS,RG,qA,qM,qL,ty2,zf8,zaa,zf9,hpq,ho0,zcq,zcd]
  apply hK;clear hK K
  refine W.cond rfl (fun h1=>?_) (fun h1=>?_)
  ·try simp only[RL]at h1
   have h1:x.2<q.2:=by simpa using h1
   rw [if_pos h1]at hsu
   refine W.k fun K hK=>?_
   simp(disch:=omega)only[↓RU,RV,RH,↓reduceIte,qE,reduceCtorEq,if_pos,↓RS,RG,qA,qM,qL,ty2,zf8,zaa,zf9,zcd,zjj]
   apply hK;clear hK K
   refine XbN ?_
   refine xn ?_
   refine W.k fun K hK=>?_
   simp(disch:=omega)only[↓RU,RV,RH,↓reduceIte,qE,reduceCtorEq,if_pos,w64,↓RS,RG,qA,qM,qL,zaa]
   apply hK;clear hK K
   refine xn ?_
   refine ⟨l.length - (i+1),by omega,2,[],[.loc 1 (t2+2) 0 (o.length+1),.loc 0 ver2 0 l.length,.int .i64 l.length,.int .i64 ((i+1:Nat):Int)],⟨[.arr ver2 87 2 (scs z),.arr (t2+2) 87 2 (scs o++[.int .i64 x.1,.int .i64 x.2])],t2+4⟩,?_,?_,i+1,ver2,t2+2,t2+4,rfl,by omega,by rw [hsu,zfs (by simp)]; simp,by rw [hsu,zfg (by simp),zn7]⟩
   ·simp [-qU,Env.put,Env.of,zad,za2,zac,zai,zak,zam,za3,za8,zbz,za7,zat,za9,zby,zb0,zav,zau,zan,za6,zba,zbx,zar,zaq,zal,zas,za5,zc9,qS,qP,qC]
   simp [-qU,Env.put,Env.of,zad,za2,zac,zai,zak,zam,za3,za8,zbz,za7,zat,za9,zby,zb0,zav,zau,zan,za6,zba,zbx,zar,zaq,zal,zas,za5,zc9,qS,qP,qC,zgi]
  try simp only[RL]at h1
  have h1:¬ x.2<q.2:=by simpa using h1
  rw [if_neg h1]at hsu
  refine W.skip ?_
  refine XbN ?_
  refine xn ?_
  refine W.k fun K hK=>?_
  simp(disch:=omega)only[↓RU,RV,RH,↓reduceIte,qE,reduceCtorEq,if_pos,w64,↓RS,RG,qA,qM,qL,zaa]
  apply hK;clear hK K
  refine xn ?_
  refine ⟨l.length - (i+1),by omega,2,[],[.loc 1 v 0 o.length,.loc 0 ver2 0 l.length,.int .i64 l.length,.int .i64 ((i+1:Nat):Int)],⟨[.arr ver2 87 2 (scs z),.arr v 87 2 (scs o)],t2+2⟩,?_,?_,i+1,ver2,v,t2+2,rfl,by omega,by rw [hsu,zfs hne],by rw [hsu,zfg hne]⟩
  ·simp [-qU,Env.put,Env.of,zad,za2,zac,zai,zak,zam,za3,za8,zbz,za7,zat,za9,zby,zb0,zav,zau,zan,za6,zba,zbx,zar,zaq,zal,zas,za5,zc9,qS,qP,qC]
  simp [-qU,Env.put,Env.of,zad,za2,zac,zai,zak,zam,za3,za8,zbz,za7,zat,za9,zby,zb0,zav,zau,zan,za6,zba,zbx,zar,zaq,zal,zas,za5,zc9,qS,qP,qC,zgi]
 try simp only[RL]at h
 obtain rfl:i=l.length:=by omega
 refine W.exit ?_
 refine xe ?_
 refine xe ?_
 refine XBlock.hit ?_
 refine xn ?_
 refine W.r fun K hK=>?_
 simp(disch:=omega)only[↓RU,RV,RH,↓reduceIte,qE,reduceCtorEq,if_pos,↓RS,RG,qA,qM,qL]
 apply hK;clear hK K
 refine W.ret ?_
 refine Br rfl ?_
 have hne:=zye (z:=z) (show l.length≠0 by omega) (by omega)
 rw [qT (by omega)]at hne ⊢
 rw [zfs hne,zfg hne]
 exact ⟨2,z,_,_,_,hzp,hzs,rfl,rfl⟩
theorem zvs {S:Store} {im:Bool} {f o v:Nat} {l:List Shp} (h:S.obs[o]?=some (.arr v 87 2 (scs l))):reify S im (f+2) (.loc o v 0 l.length)=some (zd8 l) :=
 zbc (k:=f+1) h (zcd l) (zmb (zs3 l))
theorem zf0 {ws ht:List Int} {a:Int} {x y:Int} (ha:0≤a) (hx:ws[a.toNat]?=some x) (hy:ht[a.toNat]?=some y):PC Tryz.prog 58 [.int .i64 a,.ip [eInts ws] 0,.ip [eInts ht] 0] (zd8 (pareto [(x,y),(y,x)])) true:=by
 have hl1:=zci hx
 have hl2:=zci hy
 refine PC.of ⟨Tryz.func58,by kernel_rfl,rfl,by kernel_rfl⟩ za4 mixed (by show 3≤Tryz.f58.ntmps; decide) ?_
 refine W.r fun K hK=>?_
 simp(disch:=omega)only[↓RU,RV,RH,↓reduceIte,qE,reduceCtorEq,if_pos,↓RS,RG,qA,qM,qL]
 apply hK;clear hK K
 refine W.seq_drawE (by kernel_rfl) fun K hK=>?_
 simp(disch:=omega)only[↓RU,RV,RH,↓reduceIte,qE,reduceCtorEq,if_pos,qN,↓RS,RG,qA,qM,qL,ty2,zab,zf8,zaa,zf9,hx,hy]
 rw [show [PV.int .i64 x,.int .i64 y,.int .i64 y,.int .i64 x]=scs [(x,y),(y,x)] from rfl]
 refine zag.ev (z6f (l:=[(x,y),(y,x)]) (by simp) (by simp)) ?_
 rintro _ _ ⟨z,ver2,v2,t2,hzp,hzs,rfl,rfl⟩
 have hb:=zre hzs hzp
 simp(disch:=omega)only[↓RU,RV,RH,↓reduceIte,qE,reduceCtorEq,if_pos,qN,↓RS,RG,qA,qM,qL,ty2,zab,zf8,zaa,zf9,hx,hy]
 apply hK;clear hK K
 refine W.ret ?_
 refine Br rfl ?_
 rw [← hb]
 exact zvs (f:=8) rfl
theorem yaq {b0 b1:Ob} {l:List Shp} {v t f:Nat}:rn ⟨b0::b1::tlC l v,t⟩ ((tlC l v).length+1+1) [] (f+1) (slC 2 l v)=some (slC 2 l v):=by
 cases l with
 | nil=>rfl
 | cons a l=>rfl
theorem zf1 {g:List (List Int)} {rs:List Rect} {lv:Bool} {ra rb:Rect} {x y:List Shp} (hbx:ShB 1000 x) (hby:ShB 1000 y) (hlx:x.length≤1000) (hly:y.length≤1000) (hx1:1≤x.length) (hy1:1≤y.length):PC Tryz.prog 61 [.agg (zxh g rs lv ra rb),zd8 x,zd8 y] (zd8 (pareto (prods lv x y))) true:=by
 simp only[zxh,Rect.cells]
 have hxy:1*1≤x.length*y.length:=Nat.mul_le_mul hx1 hy1
 refine PC.of ⟨Tryz.func61,by kernel_rfl,rfl,by kernel_rfl⟩ za4 mixed (by show 3≤Tryz.f61.ntmps; decide) ?_
 refine W.r fun K hK=>?_
 simp(disch:=omega)only[↓RU,RV,RH,↓reduceIte,qE,reduceCtorEq,if_pos,↓RS,RG,qA,qM,qL,ty5,zbm,ty9,zgp,zbg,zaa,zb5,zgq,zbh]
 apply hK;clear hK K
 refine W.r fun K hK=>?_
 simp(disch:=omega)only[↓RU,RV,RH,↓reduceIte,qE,reduceCtorEq,if_pos,↓RS,RG,qA,qM,qL]
 apply hK;clear hK K
 refine W.seq ?_
 refine W.r fun K hK=>?_
 simp(disch:=omega)only[↓RU,RV,RH,↓reduceIte,qE,reduceCtorEq,if_pos,↓RS,RG,qA,qM,qL,ty2,zf8,zaa,zf9]
 apply hK;clear hK K
 refine W.block ?_
 refine W.loopS [3,2,13,14,15,7] (fun n vs S=>∃ i v t:Nat,n=x.length - i∧i≤x.length∧vs=[.ref 0 0 0,zd8 y,zd8 x,.int .i64 x.length,.int .i64 i,slC 1 (prods lv (x.take i) y) v]∧S=⟨.arr 0 60 11 [.bool lv,zaw g rs,.int .i64 ra.row,.int .i64 ra.col,.int .i64 ra.high,.int .i64 ra.wide,zaw g rs,.int .i64 rb.row,.int .i64 rb.col,.int .i64 rb.high,.int .i64 rb.wide]::tlC (prods lv (x.take i) y) v,t⟩) x.length ?_ ?_
 ·refine ⟨1,[],[.ref 0 0 0,zd8 y,zd8 x,.int .i64 x.length,.int .i64 (0:Nat),.nils],⟨.arr 0 60 11 [.bool lv,zaw g rs,.int .i64 ra.row,.int .i64 ra.col,.int .i64 ra.high,.int .i64 ra.wide,zaw g rs,.int .i64 rb.row,.int .i64 rb.col,.int .i64 rb.high,.int .i64 rb.wide]::[],2⟩,?_,?_,0,0,2,rfl,Nat.zero_le _,rfl,rfl⟩
  ·simp [-qU,Env.put,Env.of,zad,za2,zac,zai,zak,zam,za3,za8,zbz,za7,zat,za9,zby,zb0,zav,zau,zan,za6,zba,zbx,zar,zaq,zal,zas,za5,zc9,qS,qP,qC]
  simp [-qU,Env.put,Env.of,zad,za2,zac,zai,zak,zam,za3,za8,zbz,za7,zat,za9,zby,zb0,zav,zau,zan,za6,zba,zbx,zar,zaq,zal,zas,za5,zc9,qS,qP,qC]
 rintro n vs S - ⟨i,v,t,rfl,h_i,rfl,rfl⟩
 refine W.r fun K hK=>?_
 simp(disch:=omega)only[↓RU,RV,RH,↓reduceIte,qE,reduceCtorEq,if_pos,w64,↓RS,RG,qA,qM,qL,zaa]
 apply hK;clear hK K
 refine W.seq ?_
 refine W.cond rfl (fun h=>?_) (fun h=>?_)
 ·try simp only[RL]at h
  obtain ⟨a,hx,hxm⟩:=zaf (show i<x.length by omega)
  have hpt:=zl9 (lv:=lv) (y:=y) hx
  have hpx:((scs x).drop (i*2)).take 2=[.int .i64 a.1,.int .i64 a.2]:=zrm hx
  have hba:=hbx a hxm
  generalize hPi:prods lv (x.take i) y=Pi at hpt
  have hPl:Pi.length≤1000*1000:=by rw [← hPi,zie]; exact Nat.mul_le_mul (by rw [List.length_take]; omega) hly
  refine W.skip ?_
  refine xn ?_
  refine W.seq ?_
  refine W.block ?_
  refine W.joinS [3,2,13,14,15,7,9] (fun vs S=>∃ va v t:Nat,vs=[.ref 0 0 0,zd8 y,zd8 x,.int .i64 x.length,.int .i64 i,slC 2 Pi v,.ref 1 va 0]∧S=⟨.arr 0 60 11 [.bool lv,zaw g rs,.int .i64 ra.row,.int .i64 ra.col,.int .i64 ra.high,.int .i64 ra.wide,zaw g rs,.int .i64 rb.row,.int .i64 rb.col,.int .i64 rb.high,.int .i64 rb.wide] :: .arr va 87 2 [.int .i64 a.1,.int .i64 a.2]::tlC Pi v,t⟩) ?_ ?_
  ·
   refine W.k fun K hK=>?_
   by_cases hne0:Pi=[]
   ·skip
    subst hne0
    rw [zs8,zp0]
    simp(disch:=omega)only[↓RU,RV,RH,↓reduceIte,qE,reduceCtorEq,if_pos,↓RS,RG,qA,qM,qL,ty2,zf8,zaa,zf9,hpx,zcd]
    apply hK;clear hK K
    refine xn ?_
    refine ⟨1,[1],[.ref 0 0 0,zd8 y,zd8 x,.int .i64 x.length,.int .i64 i,.nils,.ref 1 (t+1) 0],⟨.arr 0 60 11 [.bool lv,zaw g rs,.int .i64 ra.row,.int .i64 ra.col,.int .i64 ra.high,.int .i64 ra.wide,zaw g rs,.int .i64 rb.row,.int .i64 rb.col,.int .i64 rb.high,.int .i64 rb.wide] :: .arr (t+1) 87 2 [.int .i64 a.1,.int .i64 a.2]::[],(t+2)⟩,?_,?_,t+1,0,t+2,rfl,rfl⟩
    ·simp [-qU,Env.put,Env.of,zad,za2,zac,zai,zak,zam,za3,za8,zbz,za7,zat,za9,zby,zb0,zav,zau,zan,za6,zba,zbx,zar,zaq,zal,zas,za5,zc9,qS,qP,qC]
    simp [-qU,Env.put,Env.of,zad,za2,zac,zai,zak,zam,za3,za8,zbz,za7,zat,za9,zby,zb0,zav,zau,zan,za6,zba,zbx,zar,zaq,zal,zas,za5,zc9,qS,qP,qC]
   ·skip
    rw [zfs hne0,zfg hne0]
    simp(disch:=omega)only[↓RU,RV,RH,↓reduceIte,qE,reduceCtorEq,if_pos,↓RS,RG,qA,qM,qL,ty2,zf8,zaa,zf9,hpx,zcd]
    apply hK;clear hK K
    refine xn ?_
    refine ⟨1,[2,1],[.ref 0 0 0,zd8 y,zd8 x,.int .i64 x.length,.int .i64 i,.loc 2 (t+1) 0 Pi.length,.ref 1 (t+1) 0],⟨.arr 0 60 11 [.bool lv,zaw g rs,.int .i64 ra.row,.int .i64 ra.col,.int .i64 ra.high,.int .i64 ra.wide,zaw g rs,.int .i64 rb.row,.int .i64 rb.col,.int .i64 rb.high,.int .i64 rb.wide] :: .arr (t+1) 87 2 [.int .i64 a.1,.int .i64 a.2]::[.arr (t+1) 87 2 (scs Pi)],(t+2)⟩,?_,?_,t+1,t+1,t+2,by rw [zfs hne0],by rw [zfg hne0]⟩
    ·simp [-qU,Env.put,Env.of,zad,za2,zac,zai,zak,zam,za3,za8,zbz,za7,zat,za9,zby,zb0,zav,zau,zan,za6,zba,zbx,zar,zaq,zal,zas,za5,zc9,qS,qP,qC]
     all_goals rfl
    simp [-qU,Env.put,Env.of,zad,za2,zac,zai,zak,zam,za3,za8,zbz,za7,zat,za9,zby,zb0,zav,zau,zan,za6,zba,zbx,zar,zaq,zal,zas,za5,zc9,qS,qP,qC,zgi]
  rintro vs S - ⟨va,v,t,rfl,rfl⟩
  refine W.r fun K hK=>?_
  simp(disch:=omega)only[↓RU,RV,RH,↓reduceIte,qE,reduceCtorEq,if_pos,↓RS,RG,qA,qM,qL,ty2,zf8,zaa,zf9]
  apply hK;clear hK K
  refine W.block ?_
  refine W.loopS [3,2,13,14,15,7,9,19,20,21] (fun n vs S=>∃ k v t:Nat,n=y.length - k∧k≤y.length∧vs=[.ref 0 0 0,zd8 y,zd8 x,.int .i64 x.length,.int .i64 i,slC 2 (Pi++zeo lv a (y.take k)) v,.ref 1 va 0,zd8 y,.int .i64 y.length,.int .i64 k]∧S=⟨.arr 0 60 11 [.bool lv,zaw g rs,.int .i64 ra.row,.int .i64 ra.col,.int .i64 ra.high,.int .i64 ra.wide,zaw g rs,.int .i64 rb.row,.int .i64 rb.col,.int .i64 rb.high,.int .i64 rb.wide] :: .arr va 87 2 [.int .i64 a.1,.int .i64 a.2]::tlC (Pi++zeo lv a (y.take k)) v,t⟩) y.length ?_ ?_
  ·refine ⟨(.arr 0 60 11 [.bool lv,zaw g rs,.int .i64 ra.row,.int .i64 ra.col,.int .i64 ra.high,.int .i64 ra.wide,zaw g rs,.int .i64 rb.row,.int .i64 rb.col,.int .i64 rb.high,.int .i64 rb.wide] :: .arr va 87 2 [.int .i64 a.1,.int .i64 a.2]::tlC Pi v).length,[],[.ref 0 0 0,zd8 y,zd8 x,.int .i64 x.length,.int .i64 i,slC 2 Pi v,.ref 1 va 0,zd8 y,.int .i64 y.length,.int .i64 (0:Nat)],⟨.arr 0 60 11 [.bool lv,zaw g rs,.int .i64 ra.row,.int .i64 ra.col,.int .i64 ra.high,.int .i64 ra.wide,zaw g rs,.int .i64 rb.row,.int .i64 rb.col,.int .i64 rb.high,.int .i64 rb.wide] :: .arr va 87 2 [.int .i64 a.1,.int .i64 a.2]::tlC Pi v,(t+1)⟩,?_,?_,0,v,t+1,rfl,Nat.zero_le _,by simp [zeo],by simp [zeo]⟩
   ·simp [-qU,Env.put,Env.of,zad,za2,zac,zai,zak,zam,za3,za8,zbz,za7,zat,za9,zby,zb0,zav,zau,zan,za6,zba,zbx,zar,zaq,zal,zas,za5,zc9,qS,qP,qC,yaq]
   by_cases hne0:Pi=[]
   ·subst hne0; rw [zp0]; simp [-qU,Env.put,Env.of,zad,za2,zac,zai,zak,zam,za3,za8,zbz,za7,zat,za9,zby,zb0,zav,zau,zan,za6,zba,zbx,zar,zaq,zal,zas,za5,zc9,qS,qP,qC]
   rw [zfg hne0]; simp [-qU,Env.put,Env.of,zad,za2,zac,zai,zak,zam,za3,za8,zbz,za7,zat,za9,zby,zb0,zav,zau,zan,za6,zba,zbx,zar,zaq,zal,zas,za5,zc9,qS,qP,qC,zgi]
  rintro n vs S - ⟨k,v,t1,rfl,h_k,rfl,rfl⟩
  refine W.r fun K hK=>?_
  simp(disch:=omega)only[↓RU,RV,RH,↓reduceIte,qE,reduceCtorEq,if_pos,w64,↓RS,RG,qA,qM,qL,zaa]
  apply hK;clear hK K
  refine W.seq ?_
  refine W.cond rfl (fun h1=>?_) (fun h1=>?_)
  ·try simp only[RL]at h1
   obtain ⟨b,hy,hym⟩:=zaf (show k<y.length by omega)
   have hrt:=zl8 (lv:=lv) (a:=a) hy
   have hpy:((scs y).drop (k*2)).take 2=[.int .i64 b.1,.int .i64 b.2]:=zrm hy
   have hbb:=hby b hym
   have hnx:(Pi++zeo lv a (y.take (k+1)))=(Pi++zeo lv a (y.take k))++[if lv then (max a.1 b.1,a.2+b.2) else (a.1+b.1,max a.2 b.2)]:=by rw [hrt,List.append_assoc]
   have hLl:(Pi++zeo lv a (y.take k)).length≤1000*1000+1000:=by simp [zeo]; omega
   generalize hLK:(Pi++zeo lv a (y.take k))=LL at hnx hLl
   refine W.skip ?_
   refine xn ?_
   refine W.seq ?_
   refine W.block ?_
   refine W.r fun K hK=>?_
   by_cases hne1:LL=[]
   ·skip
    subst hne1
    rw [zs8,zp0]
    rw [List.nil_append]at hnx
    simp(disch:=omega)only[↓RU,RV,RH,↓reduceIte,qE,reduceCtorEq,if_pos,↓RS,RG,qA,qM,qL,ty2,zf8,zaa,zf9,hpy,zcd]
    apply hK;clear hK K
    refine W.r fun K hK=>?_
    simp(disch:=omega)only[↓RU,RV,RH,↓reduceIte,qE,reduceCtorEq,if_pos,w64,zex,↓RS,RG,qA,qM,qL,zf8,zaa,zf9]
    apply hK;clear hK K
    refine W.seq ?_
    refine W.r fun K hK=>?_
    simp(disch:=omega)only[↓RU,RV,RH,↓reduceIte,qE,reduceCtorEq,if_pos,↓RS,RG,qA,qM,qL,ty5,zbm,ty9,zgp,zbg,zaa,zb5,zgq,zbh]
    apply hK;clear hK K
    refine W.cond rfl (fun h2=>?_) (fun h2=>?_)
    ·try simp only[RL]at h2
     refine W.k fun K hK=>?_
     simp(disch:=omega)only[↓RU,RV,RH,↓reduceIte,qE,reduceCtorEq,if_pos,zex,w64,↓RS,RG,qA,qM,qL,zf8,zaa,zf9]
     apply hK;clear hK K
     refine xn ?_
     refine W.k fun K hK=>?_
     simp(disch:=omega)only[↓RU,RV,RH,↓reduceIte,qE,reduceCtorEq,if_pos,↓RS,RG,qA,qM,qL,ty2,zf8,zaa,zf9,zcd,zjj]
     apply hK;clear hK K
     refine XbN ?_
     refine xn ?_
     refine W.k fun K hK=>?_
     simp(disch:=omega)only[↓RU,RV,RH,↓reduceIte,qE,reduceCtorEq,if_pos,w64,↓RS,RG,qA,qM,qL,zaa]
     apply hK;clear hK K
     refine xn ?_
     rw [show (if lv then (max a.1 b.1,a.2+b.2) else (a.1+b.1,max a.2 b.2))=(max a.1 b.1,a.2+b.2) by simp [h2]]at hnx
     refine ⟨y.length - (k+1),by omega,2,[5],[.ref 0 0 0,zd8 y,zd8 x,.int .i64 x.length,.int .i64 i,.loc 2 (t1+4) 0 1,.ref 1 va 0,zd8 y,.int .i64 y.length,.int .i64 ((k+1:Nat):Int)],⟨.arr 0 60 11 [.bool lv,zaw g rs,.int .i64 ra.row,.int .i64 ra.col,.int .i64 ra.high,.int .i64 ra.wide,zaw g rs,.int .i64 rb.row,.int .i64 rb.col,.int .i64 rb.high,.int .i64 rb.wide] :: .arr va 87 2 [.int .i64 a.1,.int .i64 a.2]::[.arr (t1+4) 87 2 [.int .i64 (max a.1 b.1),.int .i64 (a.2+b.2)]],(t1+5)⟩,?_,?_,k+1,t1+4,t1+5,rfl,by omega,by rw [hnx]; rfl,by rw [hnx]; rfl⟩
     ·simp [-qU,Env.put,Env.of,zad,za2,zac,zai,zak,zam,za3,za8,zbz,za7,zat,za9,zby,zb0,zav,zau,zan,za6,zba,zbx,zar,zaq,zal,zas,za5,zc9,qS,qP,qC]
     simp [-qU,Env.put,Env.of,zad,za2,zac,zai,zak,zam,za3,za8,zbz,za7,zat,za9,zby,zb0,zav,zau,zan,za6,zba,zbx,zar,zaq,zal,zas,za5,zc9,qS,qP,qC,zgi]
    try simp only[RL]at h2
    refine W.skip ?_
    refine xn ?_
    refine W.k fun K hK=>?_
    simp(disch:=omega)only[↓RU,RV,RH,↓reduceIte,qE,reduceCtorEq,if_pos,↓RS,RG,qA,qM,qL,ty2,zf8,zaa,zf9,zcd,zjj]
    apply hK;clear hK K
    refine XbN ?_
    refine xn ?_
    refine W.k fun K hK=>?_
    simp(disch:=omega)only[↓RU,RV,RH,↓reduceIte,qE,reduceCtorEq,if_pos,w64,↓RS,RG,qA,qM,qL,zaa]
    apply hK;clear hK K
    refine xn ?_
    rw [show (if lv then (max a.1 b.1,a.2+b.2) else (a.1+b.1,max a.2 b.2))=(a.1+b.1,max a.2 b.2) by simp [h2]]at hnx
    refine ⟨y.length - (k+1),by omega,2,[5],[.ref 0 0 0,zd8 y,zd8 x,.int .i64 x.length,.int .i64 i,.loc 2 (t1+4) 0 1,.ref 1 va 0,zd8 y,.int .i64 y.length,.int .i64 ((k+1:Nat):Int)],⟨.arr 0 60 11 [.bool lv,zaw g rs,.int .i64 ra.row,.int .i64 ra.col,.int .i64 ra.high,.int .i64 ra.wide,zaw g rs,.int .i64 rb.row,.int .i64 rb.col,.int .i64 rb.high,.int .i64 rb.wide] :: .arr va 87 2 [.int .i64 a.1,.int .i64 a.2]::[.arr (t1+4) 87 2 [.int .i64 (a.1+b.1),.int .i64 (max a.2 b.2)]],(t1+5)⟩,?_,?_,k+1,t1+4,t1+5,rfl,by omega,by rw [hnx]; rfl,by rw [hnx]; rfl⟩
    ·simp [-qU,Env.put,Env.of,zad,za2,zac,zai,zak,zam,za3,za8,zbz,za7,zat,za9,zby,zb0,zav,zau,zan,za6,zba,zbx,zar,zaq,zal,zas,za5,zc9,qS,qP,qC]
    simp [-qU,Env.put,Env.of,zad,za2,zac,zai,zak,zam,za3,za8,zbz,za7,zat,za9,zby,zb0,zav,zau,zan,za6,zba,zbx,zar,zaq,zal,zas,za5,zc9,qS,qP,qC,zgi]
   skip
   rw [zfs hne1,zfg hne1]
   simp(disch:=omega)only[↓RU,RV,RH,↓reduceIte,qE,reduceCtorEq,if_pos,↓RS,RG,qA,qM,qL,ty2,zf8,zaa,zf9,hpy,zcd]
   apply hK;clear hK K
   refine W.r fun K hK=>?_
   simp(disch:=omega)only[↓RU,RV,RH,↓reduceIte,qE,reduceCtorEq,if_pos,w64,zex,↓RS,RG,qA,qM,qL,zf8,zaa,zf9]
   apply hK;clear hK K
   refine W.seq ?_
   refine W.r fun K hK=>?_
   simp(disch:=omega)only[↓RU,RV,RH,↓reduceIte,qE,reduceCtorEq,if_pos,↓RS,RG,qA,qM,qL,ty5,zbm,ty9,zgp,zbg,zaa,zb5,zgq,zbh]
   apply hK;clear hK K
   refine W.cond rfl (fun h2=>?_) (fun h2=>?_)
   ·try simp only[RL]at h2
    refine W.k fun K hK=>?_
    simp(disch:=omega)only[↓RU,RV,RH,↓reduceIte,qE,reduceCtorEq,if_pos,zex,w64,↓RS,RG,qA,qM,qL,zf8,zaa,zf9]
    apply hK;clear hK K
    refine xn ?_
    refine W.k fun K hK=>?_
    simp(disch:=omega)only[↓RU,RV,RH,↓reduceIte,qE,reduceCtorEq,if_pos,↓RS,RG,qA,qM,qL,ty2,zf8,zaa,zf9,zcd,zjj]
    apply hK;clear hK K
    refine XbN ?_
    refine xn ?_
    refine W.k fun K hK=>?_
    simp(disch:=omega)only[↓RU,RV,RH,↓reduceIte,qE,reduceCtorEq,if_pos,w64,↓RS,RG,qA,qM,qL,zaa]
    apply hK;clear hK K
    refine xn ?_
    rw [show (if lv then (max a.1 b.1,a.2+b.2) else (a.1+b.1,max a.2 b.2))=(max a.1 b.1,a.2+b.2) by simp [h2]]at hnx
    refine ⟨y.length - (k+1),by omega,3,[],[.ref 0 0 0,zd8 y,zd8 x,.int .i64 x.length,.int .i64 i,.loc 2 (t1+3) 0 (LL.length+1),.ref 1 va 0,zd8 y,.int .i64 y.length,.int .i64 ((k+1:Nat):Int)],⟨.arr 0 60 11 [.bool lv,zaw g rs,.int .i64 ra.row,.int .i64 ra.col,.int .i64 ra.high,.int .i64 ra.wide,zaw g rs,.int .i64 rb.row,.int .i64 rb.col,.int .i64 rb.high,.int .i64 rb.wide] :: .arr va 87 2 [.int .i64 a.1,.int .i64 a.2]::[.arr (t1+3) 87 2 (scs LL++[.int .i64 (max a.1 b.1),.int .i64 (a.2+b.2)])],(t1+5)⟩,?_,?_,k+1,t1+3,t1+5,rfl,by omega,by rw [hnx,zfs (by simp)]; simp,by rw [hnx,zfg (by simp),zn7]⟩
    ·simp [-qU,Env.put,Env.of,zad,za2,zac,zai,zak,zam,za3,za8,zbz,za7,zat,za9,zby,zb0,zav,zau,zan,za6,zba,zbx,zar,zaq,zal,zas,za5,zc9,qS,qP,qC]
    simp [-qU,Env.put,Env.of,zad,za2,zac,zai,zak,zam,za3,za8,zbz,za7,zat,za9,zby,zb0,zav,zau,zan,za6,zba,zbx,zar,zaq,zal,zas,za5,zc9,qS,qP,qC,zgi]
   try simp only[RL]at h2
   refine W.skip ?_
   refine xn ?_
   refine W.k fun K hK=>?_
   simp(disch:=omega)only[↓RU,RV,RH,↓reduceIte,qE,reduceCtorEq,if_pos,↓RS,RG,qA,qM,qL,ty2,zf8,zaa,zf9,zcd,zjj]
   apply hK;clear hK K
   refine XbN ?_
   refine xn ?_
   refine W.k fun K hK=>?_
   simp(disch:=omega)only[↓RU,RV,RH,↓reduceIte,qE,reduceCtorEq,if_pos,w64,↓RS,RG,qA,qM,qL,zaa]
   apply hK;clear hK K
   refine xn ?_
   rw [show (if lv then (max a.1 b.1,a.2+b.2) else (a.1+b.1,max a.2 b.2))=(a.1+b.1,max a.2 b.2) by simp [h2]]at hnx
   refine ⟨y.length - (k+1),by omega,3,[],[.ref 0 0 0,zd8 y,zd8 x,.int .i64 x.length,.int .i64 i,.loc 2 (t1+3) 0 (LL.length+1),.ref 1 va 0,zd8 y,.int .i64 y.length,.int .i64 ((k+1:Nat):Int)],⟨.arr 0 60 11 [.bool lv,zaw g rs,.int .i64 ra.row,.int .i64 ra.col,.int .i64 ra.high,.int .i64 ra.wide,zaw g rs,.int .i64 rb.row,.int .i64 rb.col,.int .i64 rb.high,.int .i64 rb.wide] :: .arr va 87 2 [.int .i64 a.1,.int .i64 a.2]::[.arr (t1+3) 87 2 (scs LL++[.int .i64 (a.1+b.1),.int .i64 (max a.2 b.2)])],(t1+5)⟩,?_,?_,k+1,t1+3,t1+5,rfl,by omega,by rw [hnx,zfs (by simp)]; simp,by rw [hnx,zfg (by simp),zn7]⟩
   ·simp [-qU,Env.put,Env.of,zad,za2,zac,zai,zak,zam,za3,za8,zbz,za7,zat,za9,zby,zb0,zav,zau,zan,za6,zba,zbx,zar,zaq,zal,zas,za5,zc9,qS,qP,qC]
   simp [-qU,Env.put,Env.of,zad,za2,zac,zai,zak,zam,za3,za8,zbz,za7,zat,za9,zby,zb0,zav,zau,zan,za6,zba,zbx,zar,zaq,zal,zas,za5,zc9,qS,qP,qC,zgi]
  try simp only[RL]at h1
  obtain rfl:y.length=k:=by omega
  rw [List.take_length,← hpt]
  have hne:prods lv (x.take (i+1)) y≠[]:=by rw [hpt]; intro e; have:=congrArg List.length e; rw [List.length_append,zeo,List.length_map,List.length_nil]at this; omega
  generalize hnx:prods lv (x.take (i+1)) y=Q at hne ⊢
  rw [zfs hne,zfg hne]
  refine W.exit ?_
  refine xe ?_
  refine xe ?_
  refine XBlock.hit ?_
  refine XbN ?_
  refine xn ?_
  refine W.k fun K hK=>?_
  simp(disch:=omega)only[↓RU,RV,RH,↓reduceIte,qE,reduceCtorEq,if_pos,w64,↓RS,RG,qA,qM,qL,zaa]
  apply hK;clear hK K
  refine xn ?_
  refine ⟨x.length - (i+1),by omega,1,[2],[.ref 0 0 0,zd8 y,zd8 x,.int .i64 x.length,.int .i64 ((i+1:Nat):Int),.loc 1 t1 0 Q.length],⟨.arr 0 60 11 [.bool lv,zaw g rs,.int .i64 ra.row,.int .i64 ra.col,.int .i64 ra.high,.int .i64 ra.wide,zaw g rs,.int .i64 rb.row,.int .i64 rb.col,.int .i64 rb.high,.int .i64 rb.wide]::[.arr t1 87 2 (scs Q)],(t1+1)⟩,?_,?_,i+1,t1,t1+1,rfl,by omega,by rw [hnx,zfs hne],by rw [hnx,zfg hne]⟩
  ·simp [-qU,Env.put,Env.of,zad,za2,zac,zai,zak,zam,za3,za8,zbz,za7,zat,za9,zby,zb0,zav,zau,zan,za6,zba,zbx,zar,zaq,zal,zas,za5,zc9,qS,qP,qC]
  simp [-qU,Env.put,Env.of,zad,za2,zac,zai,zak,zam,za3,za8,zbz,za7,zat,za9,zby,zb0,zav,zau,zan,za6,zba,zbx,zar,zaq,zal,zas,za5,zc9,qS,qP,qC,zgi]
 try simp only[RL]at h
 obtain rfl:i=x.length:=by omega
 rw [List.take_length]
 refine W.exit ?_
 refine xe ?_
 refine xe ?_
 refine XBlock.hit ?_
 refine xn ?_
 refine W.r fun K hK=>?_
 have hpne:prods lv x y≠[]:=fun e=>by have:=zie (lv:=lv) (y:=y) x; rw [e]at this; simp at this; omega
 have hpl1:=List.length_pos_iff.2 hpne
 have hpl2:(prods lv x y).length≤1000*1000:=by rw [zie]; exact Nat.mul_le_mul hlx hly
 rw [zfs hpne,zfg hpne]
 simp(disch:=omega)only[↓RU,RV,RH,↓reduceIte,qE,reduceCtorEq,if_pos,qN,↓RS,RG,qA,qM,qL]
 refine zag.ev (z9n (l:=prods lv x y) (by omega) (by omega)) ?_
 rintro _ _ ⟨z,ver2,v2,t2,hzp,hzs,rfl,rfl⟩
 have hb:=zre hzs hzp
 simp(disch:=omega)only[↓RU,RV,RH,↓reduceIte,qE,reduceCtorEq,if_pos,qN,↓RS,RG,qA,qM,qL]
 apply hK;clear hK K
 refine W.ret ?_
 refine Br rfl ?_
 rw [← hb]
 exact zvs (f:=8) rfl
theorem zxc {p:List Txt} (hp:zcz p=true) {t:Pt} (hw:Whole (zao p) p.length (zax p).length t) {x:CT} (hx:zct (zao p) t=some x):(∀ a∈x.leaves,0≤a∧a<(rP p).length)∧x.leaves.length≤9:=by
 obtain ⟨h1,h2,h3⟩:=zj6 (zid hp) _ hw (qR _) hx
 have hin:=hw.inn
 unfold Pt.In at hin
 have hb:∀ a∈x.leaves,0≤a∧a<(rP p).length:=by
  intro a ha
  obtain ⟨i,j,e1,e2,e3,e4,e5⟩:=(h2 a).1 ha
  have:=zh3 hp (i:=i) (j:=j) (by omega) (by omega)
  omega
 have:=znw h1 hb
 have:=(zrl hp).1
 exact ⟨hb,by omega⟩
theorem zlp {p:List Txt} (hp:zcz p=true):PC Tryz.prog 35 [zaw (gP p) (rP p)] (zft (gP p) (rP p) (zd7 p).rect) false:=by
 have hg:=zxj hp
 obtain ⟨row,h1,h2,-⟩:=hg.at_ (i:=0) (j:=0) (by have:=hg.2.2; omega) (by have:=hg.2.2; omega)
 have h:=z75 h1 (rP p)
 rw [hg.1,h2]at h
 exact h
theorem zpq {l:List Shp} {i:Nat} {x:Shp} (h:l[i]?=some x):zb2 (l.take (i+1))=zb2 (l.take i)++[[x.1,x.2]]:=by rw [tk h,zed,ze2]
theorem z4u {S:Store} {fr:Nat→Bool} {f:Nat} (l:List Shp):(scs l).mapM (rfq S fr (f+1))=some (scs l):=by
 have h:=zs3 l
 rw [List.all_eq_true]at h
 exact zce fun x hx=>by have:=h x hx; cases x <;> simp [scal]at this <;> rfl
theorem zq3  : PC Tryz.prog 62 [.sl [] 0] (.sl [] 0) true:=by
 refine PC.of ⟨Tryz.func62,by kernel_rfl,rfl,by kernel_rfl⟩ za4 mixed (by show 1≤Tryz.f62.ntmps; decide) ?_
 refine W.r fun K hK=>?_
 simp(disch:=omega)only[↓RU,RV,RH,↓reduceIte,qE,reduceCtorEq,if_pos,↓RS,RG,qA,qM,qL]
 apply hK;clear hK K
 refine W.r fun K hK=>?_
 simp(disch:=omega)only[↓RU,RV,RH,↓reduceIte,qE,reduceCtorEq,if_pos,↓RS,RG,qA,qM,qL]
 apply hK;clear hK K
 refine W.seq ?_
 refine W.r fun K hK=>?_
 simp(disch:=omega)only[↓RU,RV,RH,↓reduceIte,qE,reduceCtorEq,if_pos,↓RS,RG,qA,qM,qL,ty2,zf8,zaa,zf9]
 apply hK;clear hK K
 refine W.block ?_
 refine W.loop [3,6,7,8] (fun n vs S=>n=0∧vs=[.nils,.sl [] 0,.int .i64 0,.int .i64 0]∧S=⟨[],0⟩) 0 ?_ ?_
 ·refine ⟨_,rfl,?_,zbj⟩
  simp [Env.put,Env.of,zad]
 rintro n vs S - ⟨rfl,rfl,rfl⟩
 refine W.r fun K hK=>?_
 simp(disch:=omega)only[↓RU,RV,RH,↓reduceIte,qE,reduceCtorEq,if_pos,w64,↓RS,RG,qA,qM,qL,zaa]
 apply hK;clear hK K
 refine W.seq ?_
 refine W.cond rfl (fun h=>?_) (fun h=>?_)
 ·try simp only[RL]at h
  exact absurd h (by decide)
 try simp only[RL]at h
 refine W.exit ?_
 refine xe ?_
 refine xe ?_
 refine XBlock.hit ?_
 refine xn ?_
 refine W.r fun K hK=>?_
 simp(disch:=omega)only[↓RU,RV,RH,↓reduceIte,qE,reduceCtorEq,if_pos,↓RS,RG,qA,qM,qL]
 apply hK;clear hK K
 refine W.ret ?_
 refine Br rfl ?_
 rfl
def lcO (b:Nat):List (Nat × List Int)→List PV
 | []=>[]
 | q::r => .loc b q.1 0 q.2.length::lcO (b+1) r
def inO (inn:List (Nat × List Int)):List Ob:=inn.map fun q => .arr q.1 3 1 (q.2.map (.int .i64))
theorem zsg {b:Nat}:∀ {inn:List (Nat × List Int)},(lcO b inn).length=inn.length
 | []=>rfl
 | q::r=>by rw [lcO,List.length_cons,zsg,List.length_cons]
theorem zw2 {inn:List (Nat × List Int)}:(inO inn).length=inn.length:=by simp [inO]
theorem z3d {b:Nat}:∀ {a c:List (Nat × List Int)},lcO b (a++c)=lcO b a++lcO (b+a.length) c
 | [],c=>rfl
 | q::r,c=>by rw [List.cons_append,lcO,z3d,lcO,List.length_cons,List.cons_append]; congr 3; omega
theorem z92 {a c:List (Nat × List Int)}:inO (a++c)=inO a++inO c:=by simp [inO]
theorem z80 {S:Store} {k f:Nat} {sel:List Nat}:∀ {inn:List (Nat × List Int)} {b:Nat},b+inn.length≤k→(lcO b inn).mapM (rn S k sel (f+1))=some (lcO b inn)
 | [],_,_=>rfl
 | q::r,b,h=>by
  rw [List.length_cons]at h
  refine zaj ?_ (z80 (by omega))
  show (if b<k then some (PV.loc b q.1 0 q.2.length) else _)=_
  rw [if_pos (by omega)]
theorem zzx {S:Store} {k:Nat} {sel:List Nat}:∀ {A A':List Ob} {j:Nat},A'.length=A.length→(∀ (m:Nat) a a',A[m]?=some a→A'[m]?=some a'→S.obs[j+m]?=some a∧zxn S k sel true a=some a')→zjx S k sel true (List.range' j A.length)=some A'
 | [],A',j,hl,_=>by
  have:A'=[]:=List.eq_nil_of_length_eq_zero hl
  subst this; rfl
 | a::A,[],j,hl,_=>by simp at hl
 | a::A,a'::A',j,hl,h=>by
  obtain ⟨h1,h2⟩:=h 0 a a' rfl rfl
  rw [List.length_cons,List.range'_succ,zjx,show S.obs[j]?=some a from h1,Option.bind_some,h2,Option.bind_some,zzx (A:=A) (A':=A') (by simpa using hl) fun m b b' hb hb'=>by
   have:=h (m+1) b b' hb hb'
   rwa [show j+(m+1)=j+1+m by omega]at this]
  rfl
theorem yal {S:Store} {k:Nat} {sel:List Nat} {ob:Ob} {inn:List (Nat × List Int)} (h:ob∈inO inn):zxn S k sel true ob=some ob:=by
 obtain ⟨q,-,rfl⟩:=List.mem_map.1 h
 rw [zak,zg1]; rfl
def slQ (inn:List (Nat × List Int)) (v:Nat):PV:=match inn with | [] => .nils | _ => .loc 0 v 0 inn.length
def stQ (inn:List (Nat × List Int)) (v t:Nat):Store:=match inn with | []=>⟨[],t⟩ | _=>⟨.arr v 24 1 (lcO 1 inn)::inO inn,t⟩
theorem yax {v:Nat}:slQ [] v = .nils:=rfl
theorem ya0 {v t:Nat}:stQ [] v t=⟨[],t⟩:=rfl
theorem z5e {inn:List (Nat × List Int)} {v:Nat} (h:inn≠[]):slQ inn v = .loc 0 v 0 inn.length:=by cases inn with | nil=>exact absurd rfl h | cons a l=>rfl
theorem z5h {inn:List (Nat × List Int)} {v t:Nat} (h:inn≠[]):stQ inn v t=⟨.arr v 24 1 (lcO 1 inn)::inO inn,t⟩:=by cases inn with | nil=>exact absurd rfl h | cons a l=>rfl
theorem yao {A:List (Nat × List Int)} {v t t5 i:Nat} {a b c:Ob} {r:List Int} (hA:A.length=i) (hb:b = .arr (t5+1) 3 1 (r.map (.int .i64))) :
  (⟨.arr v 24 1 (lcO 1 A++[.loc (i+2) (t5+1) 0 r.length])::(inO A++[a,b,c]),t⟩:Store).rn (i+1) [i+2]=some ⟨.arr v 24 1 (lcO 1 (A++[(t,r)]))::inO (A++[(t,r)]),t+1⟩:=by
 subst hA; subst hb
 have hl:=zw2 (inn:=A)
 have g2:(inO A++[a,Ob.arr (t5+1) 3 1 (r.map (.int .i64)),c])[A.length+1]?=some (.arr (t5+1) 3 1 (r.map (.int .i64))):=by rw [List.getElem?_append_right (by omega),hl]; simp
 obtain ⟨S,hS⟩:∃ S:Store,(⟨.arr v 24 1 (lcO 1 A++[.loc (A.length+2) (t5+1) 0 r.length])::(inO A++[a,.arr (t5+1) 3 1 (r.map (.int .i64)),c]),t⟩:Store)=S:=⟨_,rfl⟩
 have ho:S.obs = .arr v 24 1 (lcO 1 A++[.loc (A.length+2) (t5+1) 0 r.length])::(inO A++[a,.arr (t5+1) 3 1 (r.map (.int .i64)),c]):=by rw [← hS]
 have ht:S.tick=t:=by rw [← hS]
 have g3:S.obs[A.length+2]?=some (.arr (t5+1) 3 1 (r.map (.int .i64))):=by rw [ho]; exact g2
 rw [hS,za2,if_pos (by rw [ho]; simp [hl])]
 have e1:zjx S (A.length+1) [A.length+2] true (List.range (A.length+1))=some (.arr v 24 1 (lcO 1 A++[.loc (A.length+1) t 0 r.length])::inO A):=by
  rw [List.range_eq_range',← hl]
  refine zzx (A := .arr v 24 1 (lcO 1 A++[.loc (A.length+2) (t5+1) 0 r.length])::inO A) rfl ?_
  intro m x x' hx hx'
  cases m with
  | zero =>
   simp at hx hx'; subst hx; subst hx'
   refine ⟨by rw [ho]; rfl,?_⟩
   rw [zak,qP,z80 (by omega),zaj (b := .loc (A.length+1) t 0 r.length) (by rw [za3,if_neg (by omega),if_pos (by simp [hl]),hl]; simp [g3,ht]) rfl,hl]
   rfl
  | succ m =>
   simp at hx hx'
   rw [hx]at hx'; cases hx'
   refine ⟨?_,yal (List.mem_of_getElem? hx)⟩
   rw [ho,Nat.zero_add,List.getElem?_cons_succ,List.getElem?_append_left (zci hx)]; exact hx
 have e2:zjx S (A.length+1) [A.length+2] false [A.length+2]=some [.arr t 3 1 (r.map (.int .i64))]:=by
  rw [zac,g3,Option.bind_some,zak,zg1,zai,ht]; rfl
 rw [e1,e2,Option.bind_some,qO,z3d,z92,ht]
 simp [lcO,inO,Nat.add_comm 1 A.length]
theorem PC.old {P:Program} {f:FuncId} {args:List PV} {r:PV} (h:PC P f args r true):PC P f args r false :=
 ⟨h.ent,fun F w c h1 h2 h3=>(h.run F w c h1 h2 h3).mono fun _ _ ⟨cv,a,b,d⟩=>⟨cv,a,b,d.mono (fun _ hb => .inl (hb.resolve_right (by simp))) (fun _ _=>rfl)⟩⟩
section
section
variable {p:List Txt} {ws ht:List Int}
end
end

def vrs (v:Nat) (rows:List (List Int)):List (Nat × List Int):=rows.map fun r=>(v,r)
def lc2 (b v n:Nat):List PV:=(List.range n).map fun j => .loc (b+j) v 0 2
def zni (v:Nat) (rows:List (List Int)):List Ob:=rows.map fun r => .arr v 3 1 (r.map (.int .i64))
theorem zxb {v:Nat}:∀ {rows:List (List Int)} {b:Nat},(∀ r∈rows,r.length=2)→lcO b (vrs v rows)=lc2 b v rows.length
 | [],_,_=>rfl
 | r::rows,b,h=>by
  have e:=zxb (v:=v) (rows:=rows) (b:=b+1) fun r hr=>h r (List.mem_cons_of_mem _ hr)
  show PV.loc b v 0 r.length::lcO (b+1) (vrs v rows)=_
  rw [e,h r (by simp)]
  unfold lc2
  rw [List.length_cons,List.range_succ_eq_map,List.map_cons,List.map_map]
  congr 1
  refine List.map_congr_left fun j _=>?_
  show PV.loc (b+1+j) v 0 2=PV.loc (b+(j+1)) v 0 2
  rw [show b+1+j=b+(j+1) by omega]
theorem yb1 {b v n i:Nat} (h:i<n):(lc2 b v n)[i]?=some (.loc (b+i) v 0 2):=by simp [lc2,h]
theorem z3c {b v n:Nat}:(lc2 b v n).length=n:=by simp [lc2]
theorem z7q {v:Nat} {rows:List (List Int)}:(zni v rows).length=rows.length:=by simp [zni]
theorem z7p {v:Nat} {a b:List (List Int)}:zni v (a++b)=zni v a++zni v b:=by simp [zni]
theorem ycn {b v n k t f:Nat}:(lc2 b v n).map (up k t (f+1))=lc2 (b+k) t n:=by
 unfold lc2
 rw [List.map_map]
 refine List.map_congr_left fun j _=>?_
 show PV.loc (b+j+k) t 0 2=_
 rw [show b+j+k=b+k+j by omega]
theorem yba {v k t:Nat} {rows:List (List Int)}:(zni v rows).map (z5u k t)=zni t rows:=by
 unfold zni
 rw [List.map_map]
 refine List.map_congr_left fun r _=>?_
 show Ob.arr t _ 1 ((r.map (PV.int .i64)).map (up k t 10))=_
 rw [ztf]
theorem zs0 {l:List Shp}:∀ r∈zb2 l,r.length=2:=fun r hr=>by obtain ⟨x,-,rfl⟩:=List.mem_map.1 hr; rfl
theorem z86 {S:Store} {im:Bool} {f:Nat}:∀ {inn:List (Nat × List Int)} {b:Nat},(∀ (j:Nat) q,inn[j]?=some q→S.obs[b+j]?=some (.arr q.1 3 1 (q.2.map (.int .i64))))→(lcO b inn).mapM (sh S im (f+1))=some (lcO b (vrs 0 (inn.map (·.2))))
 | [],_,_=>rfl
 | q::r,b,h=>by
  refine zaj ?_ (z86 fun j q hq=>by have:=h (j+1) q hq; rwa [show b+(j+1)=b+1+j by omega]at this)
  have:=h 0 q rfl
  show (match S.obs[b]? with | some (.arr v _ _ _)=>if v=q.1 then some (PV.loc b 0 0 q.2.length) else none | _=>none)=_
  rw [show S.obs[b]?=some (.arr q.1 3 1 (q.2.map (.int .i64))) from this]
  simp
theorem z85 {S:Store} {im:Bool}:∀ {inn:List (Nat × List Int)},zld S im (inO inn)=some (zni 0 (inn.map (·.2)))
 | []=>rfl
 | q::r=>by
  show ((((q.2.map (PV.int .i64)).mapM (sh S im 10)).map (Ob.arr 0 3 1 ·)).bind fun a=>(zld S im (inO r)).map (a :: ·))=_
  rw [z5c,z85]; rfl
theorem ycc {inn:List (Nat × List Int)} {v t:Nat} {rows:List (List Int)} (hin:inn.map (·.2)=rows) (h2:∀ r∈rows,r.length=2) (h1:1≤rows.length) {bb:Bool} :
  ∃ k,sh ((stQ inn v t).take k) false 10 (.tup [slQ inn v,.bool bb])=some (.tup [.loc 0 0 0 rows.length,.bool bb])∧zld ((stQ inn v t).take k) false ((stQ inn v t).take k).obs=some (.arr 0 24 1 (lc2 1 0 rows.length)::zni 0 rows):=by
 have hl:inn.length=rows.length:=by rw [← hin,List.length_map]
 have hne:inn≠[]:=by rintro rfl; rw [← hin]at h1; simp at h1
 refine ⟨inn.length+1,?_⟩
 have e:(stQ inn v t).take (inn.length+1)=⟨.arr v 24 1 (lcO 1 inn)::inO inn,t⟩:=by
  rw [z5h hne]
  show (⟨List.take _ _,t⟩:Store)=_
  rw [qT (by simp [zw2])]
 rw [e,z5e hne,hl]
 refine ⟨by simp [sh],?_⟩
 show ((((lcO 1 inn).mapM (sh _ false 10)).map (Ob.arr 0 24 1 ·)).bind fun a=>(zld _ false (inO inn)).map (a :: ·))=_
 rw [z86 (fun j q hq=>by
  show (Ob.arr v 24 1 (lcO 1 inn)::inO inn)[1+j]?=_
  rw [Nat.add_comm,List.getElem?_cons_succ]; simp [inO,hq]),z85,hin,zxb h2]
 rfl
def mkR (k0:Int) (n:Nat):List (List Int):=(List.range n).map fun j:Nat=>[k0+2*j,k0+2*j+1]
theorem z61 {k0:Int} {n:Nat}:mkR k0 (n+1)=mkR k0 n++[[k0+2*n,k0+2*n+1]]:=by simp [mkR,qS]
theorem zsj {k0:Int} {n:Nat}:(mkR k0 n).length=n:=by simp [mkR]
theorem ycj {ts:List Int} {k:Int} (hl:ts.length=2) (h:∀ j:Nat,j<2→ts[j]?=some (k+j)):ts=[k,k+1]:=by
 match ts,hl with
 | [a,b],_ =>
  have h0:=h 0 (by omega); have h1:=h 1 (by omega)
  simp at h0 h1
  rw [h0,h1]


theorem zc0 {p:List Txt} (hp:zcz p=true) {ws ht:List Int} (hnw:zht ws) (hnh:zht ht) (hlw:ws.length=(rP p).length) (hlh:ht.length=(rP p).length) {t:Pt} (hw:Whole (zao p) p.length (zax p).length t) {x:CT} (hx:zct (zao p) t=some x) :
  ShB 1000 (zg2 ws ht x)∧(zg2 ws ht x).length≤82∧1≤(zg2 ws ht x).length:=by
 obtain ⟨b1,b2⟩:=zxc hp hw hx
 obtain ⟨f1,f2,f3⟩:=z1h (x:=x) (ws:=ws) (ht:=ht) (fun a ha=>z3m hnw (by have:=b1 a ha; omega)) fun a ha=>z3m hnh (by have:=b1 a ha; omega)
 have f4:ShB ((81:Nat):Int) (zg2 ws ht x):=f1.mono (by omega)
 exact ⟨f4.mono (by omega),z5j f2 f4,f3⟩
theorem zph {l:List Shp} {s:Shp}:pareto (l++[s])=put (pareto l) s.1 s.2:=by simp [pareto,List.foldl_append]
theorem z7f {lv:Bool} {X Y:List Shp} {i k:Nat} {a:Shp} (h:X[i]?=some a):∀ s∈prods lv (X.take i) Y++zeo lv a (Y.take k),s∈prods lv X Y:=by
 intro s hs
 unfold prods zeo at *
 rcases List.mem_append.1 hs with hs | hs
 ·obtain ⟨c,hc,hs⟩:=List.mem_flatMap.1 hs
  exact List.mem_flatMap.2 ⟨c,List.take_subset _ _ hc,hs⟩
 obtain ⟨c,hc,rfl⟩:=List.mem_map.1 hs
 exact List.mem_flatMap.2 ⟨a,List.mem_of_getElem? h,List.mem_map.2 ⟨c,List.take_subset _ _ hc,rfl⟩⟩
theorem yac {B:Nat} {l:List Shp} (h:ShB B l):(pareto l).length≤B+1:=z5j (ze0 l).st h.put
theorem zt1 {lv:Bool} {X Y:List Shp} (hX:ShB 1000 X) (hY:ShB 1000 Y) {i k:Nat} {a:Shp} (h:X[i]?=some a):(pareto (prods lv (X.take i) Y++zeo lv a (Y.take k))).length≤1048576:=by
 have h1:=hX.prods hY lv
 have h2:ShB ((2000:Nat):Int) (prods lv (X.take i) Y++zeo lv a (Y.take k)):=fun s hs=>by have:=h1 s (z7f h s hs); omega
 have:=yac h2
 omega
def bcV (p:List Txt) (ws ht:List Int):List Shp:=if zde p ws ht then match (zct (zao p) (zd7 p)) with | some x=>zg2 ws ht x | none=>[] else []
def bcB (p:List Txt) (ws ht:List Int):Bool:=zde p ws ht && (zct (zao p) (zd7 p)).isSome
theorem zd9 {p:List Txt} {ws ht:List Int} (h:zde p ws ht=true):zcz p=true∧zht ws∧zht ht∧ws.length=(rP p).length∧ht.length=(rP p).length∧zd1 p [ws,ht]=true:=by
 obtain ⟨h1,h2,-⟩:=z2t h
 obtain ⟨-,-,q1,-,-,q4,q5⟩:=zuz h1
 obtain ⟨-,-,u1,-,-,u4,-⟩:=zuz h2
 refine ⟨zl7 q5,q4,u4,q1,u1,?_⟩
 unfold zde at h
 simp only[qB]at h
 exact h.1
theorem zog {p:List Txt} {ws ht:List Int} (h:bcB p ws ht=true):∃ x,zde p ws ht=true∧(zct (zao p) (zd7 p))=some x∧bcV p ws ht=zg2 ws ht x∧1≤(bcV p ws ht).length∧(bcV p ws ht).length≤256:=by
 unfold bcB at h
 simp only[qB]at h
 obtain ⟨x,hx⟩:=Option.isSome_iff_exists.1 h.2
 obtain ⟨g1,g2,g3,g4,g5,-⟩:=zd9 h.1
 have hf:=zc0 g1 g2 g3 g4 g5 (zfi g1) hx
 have e:bcV p ws ht=zg2 ws ht x:=by unfold bcV; rw [h.1,if_pos rfl,hx]
 exact ⟨x,h.1,hx,e,by rw [e]; exact hf.2.2,by rw [e]; omega⟩
theorem zmq {p:List Txt} {ws ht:List Int} (h:bcB p ws ht=false):bcV p ws ht=[]:=by
 unfold bcB at h; unfold bcV
 cases hg:zde p ws ht with
 | false=>rfl
 | true=>rw [hg]at h; simp only[Bool.true_and,Option.isSome_eq_false_iff,Option.isNone_iff_eq_none]at h; rw [h]; rfl
theorem z9m {p:List Txt} {ws ht:List Int}:(bcV p ws ht).length≤256:=by
 cases h:bcB p ws ht with
 | false=>rw [zmq h]; simp
 | true=>obtain ⟨-,-,-,-,-,h⟩:=zog h; exact h
theorem zuh {p:List Txt} (hp:zcz p=true) {rf cf:FuncId} {rc cc:List PV} (hr9:∀ S,rc.mapM (reify S true 9)=some rc) (hr10:∀ S,rc.mapM (reify S true 10)=some rc) (hc9:∀ S,cc.mapM (reify S true 9)=some cc) (hc10:∀ S,cc.mapM (reify S true 10)=some cc)
  {room:Int→List Shp} {cut:Bool→List Shp→List Shp→List Shp} (hroom:∀ a:Int,0≤a→a<(rP p).length→PC Tryz.prog rf (.int .i64 a::rc) ((zd8) (room a)) false)
  (hcut:∀ (t:Pt) q x y,Whole (zao p) p.length (zax p).length t→zdn (zao p) t=some q→zct (zao p) (t.one q)=some x→zct (zao p) (t.two q)=some y→PC Tryz.prog cf (zyq (gP p) (rP p) t q::(zd8) (x.fold room cut)::(zd8) (y.fold room cut)::cc) ((zd8) (cut q.1 (x.fold room cut) (y.fold room cut))) false) {t:Pt} (hw:Whole (zao p) p.length (zax p).length t) (ih:∀ t':Pt,Whole (zao p) p.length (zax p).length t'→t'.h*t'.w<t.h*t.w→PC Tryz.prog 60 [zft (gP p) (rP p) t'.rect,.fn rf rc,.fn cf cc] (zlw (zd8) (.sl [] 0) room cut (zct (zao p) t')) false):PC Tryz.prog 60 [zft (gP p) (rP p) t.rect,.fn rf rc,.fn cf cc] (zlw (zd8) (.sl [] 0) room cut (zct (zao p) t)) false:=by
 have hin:=hw.inn
 unfold Pt.In at hin
 obtain ⟨hn9,hfit⟩:=zrl hp
 have hv:0≤zao p t.r t.c∧zao p t.r t.c<(rP p).length:=zh3 hp (by omega) (by omega)
 change PC _ _ [.agg [zaw (gP p) (rP p),.int .i64 t.r,.int .i64 t.c,.int .i64 t.h,.int .i64 t.w],.fn rf rc,.fn cf cc] _ _
 refine PC.of ⟨Tryz.func60,by kernel_rfl,rfl,by kernel_rfl⟩ za4 mixed (by show 3≤Tryz.f60.ntmps; decide) ?_
 refine W.r fun K hK=>?_
 simp(disch:=omega)only[↓RU,RV,RH,↓reduceIte,qE,reduceCtorEq,if_pos,↓RS,RG,qA,qM,qL,ty5,ty9,zbg,zaa,zb5,zbh]
 apply hK;clear hK K
 refine W.r fun K hK=>?_
 simp(disch:=omega)only[↓RU,RV,RH,↓reduceIte,qE,reduceCtorEq,if_pos,↓RS,RG,qA,qM,qL]
 apply hK;clear hK K
 refine W.seq ?_
 refine W.r fun K hK=>?_
 cases h1:zwk (zao p) t
 ·skip
  have hmore:=z7n hp hw h1
  have hL:=z3i (gP p) (by omega) hfit (zzp hp hw.inn)
  simp(disch:=omega)only[↓RU,RV,RH,↓reduceIte,qE,reduceCtorEq,if_pos,qN,↓RS,RG,qA,qM,qL,ty5,ty9,zbg,zaa,zb5,zbh]
  refine zag.pc (hL) rfl (.inl rfl) ?_
  simp(disch:=omega)only[↓RU,RV,RH,↓reduceIte,qE,reduceCtorEq,if_pos,qN,↓RS,RG,qA,qM,qL,ty5,ty9,zbg,zaa,zb5,zbh]
  apply hK;clear hK K
  refine W.r fun K hK=>?_
  simp(disch:=omega)only[↓RU,RV,RH,↓reduceIte,qE,reduceCtorEq,if_pos,w64,↓RS,RG,qA,qM,qL,zab,zaa]
  apply hK;clear hK K
  refine W.cond rfl (fun h0=>?_) (fun h0=>?_)
  ·try simp only[RL]at h0
   exfalso; omega
  try simp only[RL]at h0
  refine W.skip ?_
  refine xn ?_
  refine W.r fun K hK=>?_
  rcases hq:zdn (zao p) t with _ | q
  ·skip
   have hF:PC Tryz.prog 73 [zft (gP p) (rP p) t.rect] (.tup [.agg [.bool false,.nilp,.int .i64 0,.int .i64 0,.int .i64 0,.int .i64 0,.nilp,.int .i64 0,.int .i64 0,.int .i64 0,.int .i64 0],.bool false]) false:=by have h:=zyz hp hw.inn; simp only[zug,hq]at h; exact h
   simp(disch:=omega)only[↓RU,RV,RH,↓reduceIte,qE,reduceCtorEq,if_pos,qN,↓RS,RG,qA,qM,qL,ty5,zbm,ty9,zgp,zbg,zaa,zb5,zgq,zbh]
   refine zag.pc (hF) rfl (.inr rfl) ?_
   simp(disch:=omega)only[↓RU,RV,RH,↓reduceIte,qE,reduceCtorEq,if_pos,qN,↓RS,RG,qA,qM,qL,ty5,zbm,ty9,zgp,zbg,zaa,zb5,zgq,zbh]
   apply hK;clear hK K
   refine W.seq ?_
   refine W.r fun K hK=>?_
   simp(disch:=omega)only[↓RU,RV,RH,↓reduceIte,qE,reduceCtorEq,if_pos,↓RS,RG,qA,qM,qL]
   apply hK;clear hK K
   refine W.cond rfl (fun h2=>?_) (fun h2=>?_)
   ·try simp only[RL]at h2
    refine W.r fun K hK=>?_
    simp(disch:=omega)only[↓RU,RV,RH,↓reduceIte,qE,reduceCtorEq,if_pos,↓RS,RG,qA,qM,qL]
    apply hK;clear hK K
    refine W.ret ?_
    refine XThen.ret ?_
    refine Br rfl ?_
    rw [zi5 hw.inn h1 hq]
    rfl
   try simp only[RL]at h2
   exact absurd h2 (by simp)
  skip
  have hF:PC Tryz.prog 73 [zft (gP p) (rP p) t.rect] (.tup [.agg [.bool q.1,zaw (gP p) (rP p),.int .i64 (t.one q).r,.int .i64 (t.one q).c,.int .i64 (t.one q).h,.int .i64 (t.one q).w,zaw (gP p) (rP p),.int .i64 (t.two q).r,.int .i64 (t.two q).c,.int .i64 (t.two q).h,.int .i64 (t.two q).w],.bool true]) false:=by have h:=zyz hp hw.inn; simp only[zug,hq]at h; exact h
  obtain ⟨i1,i2,a1,a2⟩:=hw.inn.cut hq
  obtain ⟨w1,w2⟩:=hw.cut (zid hp) hq
  simp(disch:=omega)only[↓RU,RV,RH,↓reduceIte,qE,reduceCtorEq,if_pos,qN,↓RS,RG,qA,qM,qL,ty5,zbm,ty9,zgp,zbg,zaa,zb5,zgq,zbh]
  refine zag.pc (hF) rfl (.inr rfl) ?_
  simp(disch:=omega)only[↓RU,RV,RH,↓reduceIte,qE,reduceCtorEq,if_pos,qN,↓RS,RG,qA,qM,qL,ty5,zbm,ty9,zgp,zbg,zaa,zb5,zgq,zbh]
  apply hK;clear hK K
  refine W.seq ?_
  refine W.r fun K hK=>?_
  simp(disch:=omega)only[↓RU,RV,RH,↓reduceIte,qE,reduceCtorEq,if_pos,↓RS,RG,qA,qM,qL]
  apply hK;clear hK K
  refine W.cond rfl (fun h2=>?_) (fun h2=>?_)
  ·try simp only[RL]at h2
   exact absurd h2 (by simp)
  try simp only[RL]at h2
  refine W.skip ?_
  refine xn ?_
  refine W.r fun K hK=>?_
  obtain hx1 | ⟨x1,hx1,hx2⟩ | ⟨x1,x2,hx1,hx2⟩:=zmj (zct (zao p) (t.one q)) (zct (zao p) (t.two q))
  ·skip
   have hI1:=ih (t.one q) w1 a1
   have hI2:=ih (t.two q) w2 a2
   simp only[zlw,hx1]at hI1
   obtain ⟨v2,b2,e2⟩:=z2l (enc:=(zd8)) (zero:=(.sl [] 0)) (room:=room) (cut:=cut) (zct (zao p) (t.two q))
   rw [e2]at hI2
   simp(disch:=omega)only[↓RU,RV,RH,↓reduceIte,qE,reduceCtorEq,if_pos,qN,↓RS,RG,qA,qM,qL,ty5,zbm,ty9,zgp,zbg,zaa,zb5,zgq,zbh]
   refine zag.pc (hI1) (zaj rfl (zaj (by rw [zb4,hr9]; rfl) (zaj (by rw [zb4,hc9]; rfl) rfl))) (.inr (zaj rfl (zaj (by rw [zb4,hr9]; rfl) (zaj (by rw [zb4,hc9]; rfl) rfl)))) ?_
   simp(disch:=omega)only[↓RU,RV,RH,↓reduceIte,qE,reduceCtorEq,if_pos,qN,↓RS,RG,qA,qM,qL,ty5,zbm,ty9,zgp,zbg,zaa,zb5,zgq,zbh]
   apply hK;clear hK K
   refine W.r fun K hK=>?_
   simp(disch:=omega)only[↓RU,RV,RH,↓reduceIte,qE,reduceCtorEq,if_pos,qN,↓RS,RG,qA,qM,qL,ty5,zbm,ty9,zgp,zbg,zaa,zb5,zgq,zbh]
   refine zag.pc (hI2) (zaj rfl (zaj (by rw [zb4,hr9]; rfl) (zaj (by rw [zb4,hc9]; rfl) rfl))) (.inr (zaj rfl (zaj (by rw [zb4,hr9]; rfl) (zaj (by rw [zb4,hc9]; rfl) rfl)))) ?_
   simp(disch:=omega)only[↓RU,RV,RH,↓reduceIte,qE,reduceCtorEq,if_pos,qN,↓RS,RG,qA,qM,qL,ty5,zbm,ty9,zgp,zbg,zaa,zb5,zgq,zbh]
   apply hK;clear hK K
   refine W.seq ?_
   refine W.r fun K hK=>?_
   simp(disch:=omega)only[↓RU,RV,RH,↓reduceIte,qE,reduceCtorEq,if_pos,↓RS,RG,qA,qM,qL]
   apply hK;clear hK K
   refine W.cond rfl (fun h3=>?_) (fun h3=>?_)
   ·try simp only[RL]at h3
    refine W.r fun K hK=>?_
    simp(disch:=omega)only[↓RU,RV,RH,↓reduceIte,qE,reduceCtorEq,if_pos,↓RS,RG,qA,qM,qL]
    apply hK;clear hK K
    refine W.ret ?_
    refine XThen.ret ?_
    refine Br rfl ?_
    rw [zdr hw.inn h1 hq,hx1]
    rfl
   try simp only[RL]at h3
   exact absurd h3 (by simp)
  ·skip
   have hI1:=ih (t.one q) w1 a1
   have hI2:=ih (t.two q) w2 a2
   simp only[zlw,hx1]at hI1
   simp only[zlw,hx2]at hI2
   simp(disch:=omega)only[↓RU,RV,RH,↓reduceIte,qE,reduceCtorEq,if_pos,qN,↓RS,RG,qA,qM,qL,ty5,zbm,ty9,zgp,zbg,zaa,zb5,zgq,zbh]
   refine zag.pc (hI1) (zaj rfl (zaj (by rw [zb4,hr9]; rfl) (zaj (by rw [zb4,hc9]; rfl) rfl))) (.inr (zaj rfl (zaj (by rw [zb4,hr9]; rfl) (zaj (by rw [zb4,hc9]; rfl) rfl)))) ?_
   simp(disch:=omega)only[↓RU,RV,RH,↓reduceIte,qE,reduceCtorEq,if_pos,qN,↓RS,RG,qA,qM,qL,ty5,zbm,ty9,zgp,zbg,zaa,zb5,zgq,zbh]
   apply hK;clear hK K
   refine W.r fun K hK=>?_
   simp(disch:=omega)only[↓RU,RV,RH,↓reduceIte,qE,reduceCtorEq,if_pos,qN,↓RS,RG,qA,qM,qL,ty5,zbm,ty9,zgp,zbg,zaa,zb5,zgq,zbh]
   refine zag.pc (hI2) (zaj rfl (zaj (by rw [zb4,hr9]; rfl) (zaj (by rw [zb4,hc9]; rfl) rfl))) (.inr (zaj rfl (zaj (by rw [zb4,hr9]; rfl) (zaj (by rw [zb4,hc9]; rfl) rfl)))) ?_
   simp(disch:=omega)only[↓RU,RV,RH,↓reduceIte,qE,reduceCtorEq,if_pos,qN,↓RS,RG,qA,qM,qL,ty5,zbm,ty9,zgp,zbg,zaa,zb5,zgq,zbh]
   apply hK;clear hK K
   refine W.seq ?_
   refine W.r fun K hK=>?_
   simp(disch:=omega)only[↓RU,RV,RH,↓reduceIte,qE,reduceCtorEq,if_pos,↓RS,RG,qA,qM,qL]
   apply hK;clear hK K
   refine W.cond rfl (fun h3=>?_) (fun h3=>?_)
   ·try simp only[RL]at h3
    refine W.r fun K hK=>?_
    simp(disch:=omega)only[↓RU,RV,RH,↓reduceIte,qE,reduceCtorEq,if_pos,↓RS,RG,qA,qM,qL]
    apply hK;clear hK K
    refine W.ret ?_
    refine XThen.ret ?_
    refine Br rfl ?_
    rw [zdr hw.inn h1 hq,hx1,hx2]
    rfl
   try simp only[RL]at h3
   exact absurd h3 (by simp)
  skip
  have hI1:=ih (t.one q) w1 a1
  have hI2:=ih (t.two q) w2 a2
  simp only[zlw,hx1]at hI1
  simp only[zlw,hx2]at hI2
  simp(disch:=omega)only[↓RU,RV,RH,↓reduceIte,qE,reduceCtorEq,if_pos,qN,↓RS,RG,qA,qM,qL,ty5,zbm,ty9,zgp,zbg,zaa,zb5,zgq,zbh]
  refine zag.pc (hI1) (zaj rfl (zaj (by rw [zb4,hr9]; rfl) (zaj (by rw [zb4,hc9]; rfl) rfl))) (.inr (zaj rfl (zaj (by rw [zb4,hr9]; rfl) (zaj (by rw [zb4,hc9]; rfl) rfl)))) ?_
  simp(disch:=omega)only[↓RU,RV,RH,↓reduceIte,qE,reduceCtorEq,if_pos,qN,↓RS,RG,qA,qM,qL,ty5,zbm,ty9,zgp,zbg,zaa,zb5,zgq,zbh]
  apply hK;clear hK K
  refine W.r fun K hK=>?_
  simp(disch:=omega)only[↓RU,RV,RH,↓reduceIte,qE,reduceCtorEq,if_pos,qN,↓RS,RG,qA,qM,qL,ty5,zbm,ty9,zgp,zbg,zaa,zb5,zgq,zbh]
  refine zag.pc (hI2) (zaj rfl (zaj (by rw [zb4,hr9]; rfl) (zaj (by rw [zb4,hc9]; rfl) rfl))) (.inr (zaj rfl (zaj (by rw [zb4,hr9]; rfl) (zaj (by rw [zb4,hc9]; rfl) rfl)))) ?_
  simp(disch:=omega)only[↓RU,RV,RH,↓reduceIte,qE,reduceCtorEq,if_pos,qN,↓RS,RG,qA,qM,qL,ty5,zbm,ty9,zgp,zbg,zaa,zb5,zgq,zbh]
  apply hK;clear hK K
  refine W.seq ?_
  refine W.r fun K hK=>?_
  simp(disch:=omega)only[↓RU,RV,RH,↓reduceIte,qE,reduceCtorEq,if_pos,↓RS,RG,qA,qM,qL]
  apply hK;clear hK K
  refine W.cond rfl (fun h3=>?_) (fun h3=>?_)
  ·try simp only[RL]at h3
   exact absurd h3 (by simp)
  try simp only[RL]at h3
  refine W.skip ?_
  refine xn ?_
  refine W.r fun K hK=>?_
  simp(disch:=omega)only[↓RU,RV,RH,↓reduceIte,qE,reduceCtorEq,if_pos,qN,↓RS,RG,qA,qM,qL,ty5,zbm,ty9,zgp,zbg,zaa,zb5,zgq,zbh]
  refine zag.pc (hcut t q x1 x2 hw hq hx1 hx2) (zaj rfl (zaj rfl (zaj rfl (hc10 _)))) (.inr (zaj rfl (zaj rfl (zaj rfl (hc10 _))))) ?_
  simp(disch:=omega)only[↓RU,RV,RH,↓reduceIte,qE,reduceCtorEq,if_pos,qN,↓RS,RG,qA,qM,qL,ty5,zbm,ty9,zgp,zbg,zaa,zb5,zgq,zbh]
  apply hK;clear hK K
  refine W.ret ?_
  refine Br rfl ?_
  rw [zdr hw.inn h1 hq,hx1,hx2]
  rfl
 skip
 have hL:PC Tryz.prog 72 [zft (gP p) (rP p) t.rect] (.sl [.int .i64 (zao p t.r t.c)] 1) true:=by have h:=z3i (gP p) (by omega) hfit (zzp hp hw.inn); rw [yak hp hw h1]at h; exact h
 have hv:=zh3 hp (i:=t.r) (j:=t.c) (by omega) (by omega)
 simp(disch:=omega)only[↓RU,RV,RH,↓reduceIte,qE,reduceCtorEq,if_pos,qN,↓RS,RG,qA,qM,qL,ty5,ty9,zbg,zaa,zb5,zbh]
 refine zag.pc (hL) rfl (.inl rfl) ?_
 simp(disch:=omega)only[↓RU,RV,RH,↓reduceIte,qE,reduceCtorEq,if_pos,qN,↓RS,RG,qA,qM,qL,ty5,ty9,zbg,zaa,zb5,zbh]
 apply hK;clear hK K
 refine W.r fun K hK=>?_
 simp(disch:=omega)only[↓RU,RV,RH,↓reduceIte,qE,reduceCtorEq,if_pos,w64,↓RS,RG,qA,qM,qL,zab,zaa]
 apply hK;clear hK K
 refine W.cond rfl (fun h0=>?_) (fun h0=>?_)
 ·try simp only[RL]at h0
  refine W.r fun K hK=>?_
  simp(disch:=omega)only[↓RU,RV,RH,↓reduceIte,qE,reduceCtorEq,if_pos,qN,↓RS,RG,qA,qM,qL,zab,zaa,Int.toNat_zero,Nat.zero_mul,qZ,List.getElem?_cons_zero]
  refine zag.pc (hroom _ hv.1 hv.2) (zaj rfl (hr10 _)) (.inr (zaj rfl (hr10 _))) ?_
  simp(disch:=omega)only[↓RU,RV,RH,↓reduceIte,qE,reduceCtorEq,if_pos,qN,↓RS,RG,qA,qM,qL,zab,zaa,Int.toNat_zero,Nat.zero_mul,qZ,List.getElem?_cons_zero]
  apply hK;clear hK K
  refine W.ret ?_
  refine XThen.ret ?_
  refine Br rfl ?_
  rw [zlk hw.inn h1]
  rfl
 try simp only[RL]at h0
 exact absurd h0 (by simp)
theorem zfb {p:List Txt} (hp:zcz p=true) {rf cf:FuncId} {rc cc:List PV} (hr9:∀ S,rc.mapM (reify S true 9)=some rc) (hr10:∀ S,rc.mapM (reify S true 10)=some rc) (hc9:∀ S,cc.mapM (reify S true 9)=some cc) (hc10:∀ S,cc.mapM (reify S true 10)=some cc)
  {room:Int→List Shp} {cut:Bool→List Shp→List Shp→List Shp} (hroom:∀ a:Int,0≤a→a<(rP p).length→PC Tryz.prog rf (.int .i64 a::rc) ((zd8) (room a)) false)
  (hcut:∀ (t:Pt) q x y,Whole (zao p) p.length (zax p).length t→zdn (zao p) t=some q→zct (zao p) (t.one q)=some x→zct (zao p) (t.two q)=some y→PC Tryz.prog cf (zyq (gP p) (rP p) t q::(zd8) (x.fold room cut)::(zd8) (y.fold room cut)::cc) ((zd8) (cut q.1 (x.fold room cut) (y.fold room cut))) false):∀ (n:Nat) {t:Pt},t.h*t.w≤n→Whole (zao p) p.length (zax p).length t→PC Tryz.prog 60 [zft (gP p) (rP p) t.rect,.fn rf rc,.fn cf cc] (zlw (zd8) (.sl [] 0) room cut (zct (zao p) t)) false
 | 0,t,hn,hw=>by have:=Nat.mul_pos hw.inn.1 hw.inn.2.1; omega
 | n+1,t,hn,hw=>zuh hp hr9 hr10 hc9 hc10 hroom hcut hw fun t' hw' ha=>zfb hp hr9 hr10 hc9 hc10 hroom hcut n (by omega) hw'
theorem zs5 {p:List Txt} (hs:Sm p) {ws ht:List Int} (hw:ws.length≤1048576) (hh:ht.length≤1048576) (hv:zde p ws ht=false):PC Tryz.prog 20 [za1 p,eInts ws,eInts ht] (.tup [.sl [] 0,.bool false]) false:=by
 refine PC.of ⟨Tryz.func20,by kernel_rfl,rfl,by kernel_rfl⟩ za4 mixed (by show 3≤Tryz.f20.ntmps; decide) ?_
 refine W.r fun K hK=>?_
 simp(disch:=omega)only[↓RU,RV,RH,↓reduceIte,qE,reduceCtorEq,if_pos,↓RS,RG,qA,qM,qL,zab,zaa]
 apply hK;clear hK K
 refine W.r fun K hK=>?_
 cases hnv:zd1 p [ws,ht]
 ·skip
  have hSh:=zee hs hw hh
  rw [hv,hnv]at hSh
  simp only[qF,if_false]at hSh
  simp(disch:=omega)only[↓RU,RV,RH,↓reduceIte,qE,reduceCtorEq,if_pos,qN,↓RS,RG,qA,qM,qL,zab,zaa]
  refine zag.pc (hSh) rfl (.inr rfl) ?_
  simp(disch:=omega)only[↓RU,RV,RH,↓reduceIte,qE,reduceCtorEq,if_pos,qN,↓RS,RG,qA,qM,qL,zab,zaa]
  apply hK;clear hK K
  refine W.seq ?_
  refine W.r fun K hK=>?_
  simp(disch:=omega)only[↓RU,RV,RH,↓reduceIte,qE,reduceCtorEq,if_pos,↓RS,RG,qA,qM,qL]
  apply hK;clear hK K
  refine W.cond rfl (fun h0=>?_) (fun h0=>?_)
  ·try simp only[RL]at h0
   refine W.r fun K hK=>?_
   simp(disch:=omega)only[↓RU,RV,RH,↓reduceIte,qE,reduceCtorEq,if_pos,↓RS,RG,qA,qM,qL]
   apply hK;clear hK K
   refine W.ret ?_
   refine XThen.ret ?_
   refine Br rfl ?_
   rfl
  try simp only[RL]at h0
  exact absurd h0 (by simp)
 skip
 have hSh:=zee hs hw hh
 rw [hv,hnv]at hSh
 simp only[if_true]at hSh
 simp(disch:=omega)only[↓RU,RV,RH,↓reduceIte,qE,reduceCtorEq,if_pos,qN,↓RS,RG,qA,qM,qL,zab,zaa]
 refine zag.pc (hSh) rfl (.inr rfl) ?_
 simp(disch:=omega)only[↓RU,RV,RH,↓reduceIte,qE,reduceCtorEq,if_pos,qN,↓RS,RG,qA,qM,qL,zab,zaa]
 apply hK;clear hK K
 refine W.seq ?_
 refine W.r fun K hK=>?_
 simp(disch:=omega)only[↓RU,RV,RH,↓reduceIte,qE,reduceCtorEq,if_pos,↓RS,RG,qA,qM,qL]
 apply hK;clear hK K
 refine W.cond rfl (fun h0=>?_) (fun h0=>?_)
 ·try simp only[RL]at h0
  refine W.r fun K hK=>?_
  simp(disch:=omega)only[↓RU,RV,RH,↓reduceIte,qE,reduceCtorEq,if_pos,↓RS,RG,qA,qM,qL]
  apply hK;clear hK K
  refine W.ret ?_
  refine XThen.ret ?_
  refine Br rfl ?_
  rfl
 try simp only[RL]at h0
 exact absurd h0 (by simp)
theorem zs6 {p:List Txt} (hs:Sm p) {ws ht:List Int} (hw:ws.length≤1048576) (hh:ht.length≤1048576) (hg:zde p ws ht=true) (ht0:(zct (zao p) (zd7 p))=none):PC Tryz.prog 20 [za1 p,eInts ws,eInts ht] (.tup [.sl [] 0,.bool false]) false:=by
 obtain ⟨hp,g2,g3,g4,g5,hnv⟩:=zd9 hg
 have hSh:=zee hs hw hh
 rw [hg,hnv,if_pos rfl]at hSh
 have hF:PC Tryz.prog 60 [zft (gP p) (rP p) (zd7 p).rect,.fn 58 [.ip [eInts ws] 0,.ip [eInts ht] 0],.fn 61 []] (.tup [.sl [] 0,.bool false]) false:=by
  have h:PC Tryz.prog 60 [zft (gP p) (rP p) (zd7 p).rect,.fn 58 [.ip [eInts ws] 0,.ip [eInts ht] 0],.fn 61 []] (zlw zd8 (.sl [] 0) (zto ws ht) z7v (zct (zao p) (zd7 p))) false:=by
   refine zfb hp (rf:=58) (cf:=61) (rc:=[.ip [eInts ws] 0,.ip [eInts ht] 0]) (cc:=[]) (fun _=>rfl) (fun _=>rfl) (fun _=>rfl) (fun _=>rfl) (room:=zto ws ht) (cut:=z7v) (fun a h1 h2=>?_) (fun t q x y hw hq hx hy=>?_) _ (qR _) (zfi hp)
   ·obtain ⟨x,hx,-⟩:=zaf (show a.toNat<ws.length by omega)
    obtain ⟨y,hy,-⟩:=zaf (show a.toNat<ht.length by omega)
    have:=(zf0 h1 hx hy).old
    rw [show zto ws ht a=pareto [(x,y),(y,x)] by unfold zto; rw [zgc hx,zgc hy]]
    exact this
   obtain ⟨w1,w2⟩:=hw.cut (zid hp) hq
   have b1:=zc0 hp g2 g3 g4 g5 w1 hx
   have b2:=zc0 hp g2 g3 g4 g5 w2 hy
   exact (zf1 (lv:=q.1) b1.1 b2.1 (by have:=b1.2.1; omega) (by have:=b2.2.1; omega) b1.2.2 b2.2.2).old
  rw [ht0]at h
  exact h
 refine PC.of ⟨Tryz.func20,by kernel_rfl,rfl,by kernel_rfl⟩ za4 mixed (by show 3≤Tryz.f20.ntmps; decide) ?_
 refine W.r fun K hK=>?_
 simp(disch:=omega)only[↓RU,RV,RH,↓reduceIte,qE,reduceCtorEq,if_pos,↓RS,RG,qA,qM,qL,zab,zaa]
 apply hK;clear hK K
 refine W.r fun K hK=>?_
 simp(disch:=omega)only[↓RU,RV,RH,↓reduceIte,qE,reduceCtorEq,if_pos,qN,↓RS,RG,qA,qM,qL,zab,zaa]
 refine zag.pc (hSh) rfl (.inr rfl) ?_
 simp(disch:=omega)only[↓RU,RV,RH,↓reduceIte,qE,reduceCtorEq,if_pos,qN,↓RS,RG,qA,qM,qL,zab,zaa]
 apply hK;clear hK K
 refine W.seq ?_
 refine W.r fun K hK=>?_
 simp(disch:=omega)only[↓RU,RV,RH,↓reduceIte,qE,reduceCtorEq,if_pos,↓RS,RG,qA,qM,qL]
 apply hK;clear hK K
 refine W.cond rfl (fun h0=>?_) (fun h0=>?_)
 ·try simp only[RL]at h0
  exact absurd h0 (by simp)
 try simp only[RL]at h0
 refine W.skip ?_
 refine xn ?_
 refine W.joinZ [8,10] (fun vs S=>∃ tk:Nat,vs=[zaw (gP p) (rP p),.fn 58 [.ip [eInts ws] 0,.ip [eInts ht] 0]]∧S=⟨[],tk⟩) ?_ ?_
 ·
  refine W.k fun K hK=>?_
  simp(disch:=omega)only[↓RU,RV,RH,↓reduceIte,qE,reduceCtorEq,if_pos,↓RS,RG,qA,qM,qL]
  apply hK;clear hK K
  refine xn ?_
  refine ⟨0,[zaw (gP p) (rP p),.fn 58 [.ip [eInts ws] 0,.ip [eInts ht] 0]],⟨[],2⟩,?_,?_,2,rfl,rfl⟩
  ·simp [-qU,Store.frz,zcn,zcx,zbe,zb7,zca,zb6,zcw,zbq,zbt,zbr,zbd,zbf,zcb,zbs,zb8,zbp,Env.put,Env.of,zad,zb9,qP,qC,frz,rfz,Store.cellsOf,zaw,eInts]
  simp [-qU,Store.frz,zcn,zcx,zbe,zb7,zca,zb6,zcw,zbq,zbt,zbr,zbd,zbf,zcb,zbs,zb8,zbp,Env.put,Env.of,zad,zb9,qP,qC]
 rintro vs S - ⟨tk,rfl,rfl⟩
 refine W.r fun K hK=>?_
 simp(disch:=omega)only[↓RU,RV,RH,↓reduceIte,qE,reduceCtorEq,if_pos,qN,↓RS,RG,qA,qM,qL]
 refine zag.pc (zlp hp) rfl (.inr rfl) ?_
 simp(disch:=omega)only[↓RU,RV,RH,↓reduceIte,qE,reduceCtorEq,if_pos,qN,↓RS,RG,qA,qM,qL]
 refine zag.pc (hF) rfl (.inr rfl) ?_
 simp(disch:=omega)only[↓RU,RV,RH,↓reduceIte,qE,reduceCtorEq,if_pos,qN,↓RS,RG,qA,qM,qL]
 apply hK;clear hK K
 refine W.r fun K hK=>?_
 simp(disch:=omega)only[↓RU,RV,RH,↓reduceIte,qE,reduceCtorEq,if_pos,qN,↓RS,RG,qA,qM,qL]
 refine zag.pc (zq3) rfl (.inl rfl) ?_
 simp(disch:=omega)only[↓RU,RV,RH,↓reduceIte,qE,reduceCtorEq,if_pos,qN,↓RS,RG,qA,qM,qL]
 apply hK;clear hK K
 refine W.ret ?_
 refine Br rfl ?_
 rfl
theorem z01 {l:List Shp} (hl:l.length≤1048576) {t:Nat}:Ev Tryz.prog 62 [zd8 l] ⟨[],t⟩ fun v S=>∃ v2 t2:Nat,v=slR (zb2 l) v2∧S=stR (zb2 l) v2 t2:=by
 refine Ev.of ⟨Tryz.func62,by kernel_rfl,rfl,by kernel_rfl⟩ za4 mixed (by show 1≤Tryz.f62.ntmps; decide) ?_
 refine W.r fun K hK=>?_
 simp(disch:=omega)only[↓RU,RV,RH,↓reduceIte,qE,reduceCtorEq,if_pos,↓RS,RG,qA,qM,qL]
 apply hK;clear hK K
 refine W.r fun K hK=>?_
 simp(disch:=omega)only[↓RU,RV,RH,↓reduceIte,qE,reduceCtorEq,if_pos,↓RS,RG,qA,qM,qL]
 apply hK;clear hK K
 refine W.seq ?_
 refine W.r fun K hK=>?_
 simp(disch:=omega)only[↓RU,RV,RH,↓reduceIte,qE,reduceCtorEq,if_pos,↓RS,RG,qA,qM,qL,ty2,zf8,zaa,zf9]
 apply hK;clear hK K
 refine W.block ?_
 refine W.loopS [3,6,7,8] (fun n vs S=>∃ (i v t:Nat),n=l.length - i∧i≤l.length∧vs=[slR (zb2 (l.take i)) v,zd8 l,.int .i64 l.length,.int .i64 i]∧S=stR (zb2 (l.take i)) v t) l.length ?_ ?_
 ·refine ⟨0,[],[.nils,zd8 l,.int .i64 l.length,.int .i64 (0:Nat)],⟨[],t+1⟩,?_,?_,0,0,t+1,rfl,Nat.zero_le _,rfl,rfl⟩
  ·simp [-qU,Env.put,Env.of,zad,za2,zac,zai,zak,zam,za3,za8,zbz,za7,zat,za9,zby,zb0,zav,zau,zan,za6,zba,zbx,zar,zaq,zal,zas,za5,zc9,qS,qP,qC,z4u,zcd,zjj]
  simp [-qU,Env.put,Env.of,zad,za2,zac,zai,zak,zam,za3,za8,zbz,za7,zat,za9,zby,zb0,zav,zau,zan,za6,zba,zbx,zar,zaq,zal,zas,za5,zc9,qS,qP,qC]
 rintro n vs S - ⟨i,v,t,rfl,h_i,rfl,rfl⟩
 refine W.r fun K hK=>?_
 simp(disch:=omega)only[↓RU,RV,RH,↓reduceIte,qE,reduceCtorEq,if_pos,w64,↓RS,RG,qA,qM,qL,zaa]
 apply hK;clear hK K
 refine W.seq ?_
 refine W.cond rfl (fun h1=>?_) (fun h1=>?_)
 ·try simp only[RL]at h1
  obtain ⟨x,hx,-⟩:=zaf (show i<l.length by omega)
  have hrl:(zb2 (l.take i)).length=i:=by rw [zcm,List.length_take]; omega
  have hrs:=zpq hx
  have hpx:((scs l).drop (i*2)).take 2=[.int .i64 x.1,.int .i64 x.2]:=zrm hx
  refine W.skip ?_
  refine xn ?_
  refine W.seq ?_
  refine W.block ?_
  refine W.r fun K hK=>?_
  by_cases hi0:i=0
  ·skip
   subst hi0
   have hr0:zb2 (l.take 0)=[]:=rfl
   rw [hr0,yay,ya1]
   have hpx:(scs l).take 2=[.int .i64 x.1,.int .i64 x.2]:=by simpa using hpx
   simp(disch:=omega)only[↓RU,RV,RH,↓reduceIte,qE,reduceCtorEq,if_pos,↓RS,RG,qA,qM,qL,ty2,zf8,zaa,zf9,hpx,zcd]
   apply hK;clear hK K
   refine W.k fun K hK=>?_
   simp(disch:=omega)only[↓RU,RV,RH,↓reduceIte,qE,reduceCtorEq,if_pos,↓RS,RG,qA,qM,qL,ty0,zab,zf8,zaa,zf9,hrl,List.length_append,List.map_append,List.map_cons,List.map_nil]
   apply hK;clear hK K
   refine XbN ?_
   refine xn ?_
   refine W.k fun K hK=>?_
   simp(disch:=omega)only[↓RU,RV,RH,↓reduceIte,qE,reduceCtorEq,if_pos,w64,↓RS,RG,qA,qM,qL,zaa]
   apply hK;clear hK K
   refine xn ?_
   rw [hr0,List.nil_append]at hrs
   refine ⟨l.length - (0+1),by omega,0,[3],[.loc 0 (t+4) 0 1,zd8 l,.int .i64 l.length,.int .i64 ((0+1:Nat):Int)],⟨[.arr (t+4) 24 1 [eInts [x.1,x.2]]],t+5⟩,?_,?_,1,t+4,t+5,rfl,by omega,by rw [hrs]; rfl,by rw [hrs]; rfl⟩
   ·simp [-qU,Env.put,Env.of,zad,za2,zac,zai,zak,zam,za3,za8,zbz,za7,zat,za9,zby,zb0,zav,zau,zan,za6,zba,zbx,zar,zaq,zal,zas,za5,zc9,qS,qP,qC]
   simp [-qU,Env.put,Env.of,zad,za2,zac,zai,zak,zam,za3,za8,zbz,za7,zat,za9,zby,zb0,zav,zau,zan,za6,zba,zbx,zar,zaq,zal,zas,za5,zc9,qS,qP,qC,zvx]
  skip
  have hne:zb2 (l.take i)≠[]:=fun e=>hi0 (by rw [e]at hrl; simpa using hrl.symm)
  rw [z5f hne,z5i hne,hrl]
  simp(disch:=omega)only[↓RU,RV,RH,↓reduceIte,qE,reduceCtorEq,if_pos,↓RS,RG,qA,qM,qL,ty2,zf8,zaa,zf9,hpx,zcd]
  apply hK;clear hK K
  refine W.k fun K hK=>?_
  simp(disch:=omega)only[↓RU,RV,RH,↓reduceIte,qE,reduceCtorEq,if_pos,↓RS,RG,qA,qM,qL,ty0,zab,zf8,zaa,zf9,hrl,List.length_append,List.map_append,List.map_cons,List.map_nil]
  apply hK;clear hK K
  refine XbN ?_
  refine xn ?_
  refine W.k fun K hK=>?_
  simp(disch:=omega)only[↓RU,RV,RH,↓reduceIte,qE,reduceCtorEq,if_pos,w64,↓RS,RG,qA,qM,qL,zaa]
  apply hK;clear hK K
  refine xn ?_
  have hne2:zb2 (l.take (i+1))≠[]:=by rw [hrs]; simp
  refine ⟨l.length - (i+1),by omega,1,[],[.loc 0 (t+3) 0 (i+1),zd8 l,.int .i64 l.length,.int .i64 ((i+1:Nat):Int)],⟨[.arr (t+3) 24 1 ((zb2 (l.take i)).map eInts++[eInts [x.1,x.2]])],t+5⟩,?_,?_,i+1,t+3,t+5,rfl,by omega,by rw [z5f hne2,hrs]; simp [hrl],by rw [z5i hne2,hrs]; simp⟩
  ·simp [-qU,Env.put,Env.of,zad,za2,zac,zai,zak,zam,za3,za8,zbz,za7,zat,za9,zby,zb0,zav,zau,zan,za6,zba,zbx,zar,zaq,zal,zas,za5,zc9,qS,qP,qC]
  simp [-qU,Env.put,Env.of,zad,za2,zac,zai,zak,zam,za3,za8,zbz,za7,zat,za9,zby,zb0,zav,zau,zan,za6,zba,zbx,zar,zaq,zal,zas,za5,zc9,qS,qP,qC,zvx]
 try simp only[RL]at h1
 obtain rfl:i=l.length:=by omega
 refine W.exit ?_
 refine xe ?_
 refine xe ?_
 refine XBlock.hit ?_
 refine xn ?_
 refine W.r fun K hK=>?_
 simp(disch:=omega)only[↓RU,RV,RH,↓reduceIte,qE,reduceCtorEq,if_pos,↓RS,RG,qA,qM,qL]
 apply hK;clear hK K
 refine W.ret ?_
 refine Br rfl ?_
 rw [List.take_length]
 exact ⟨_,_,_,rfl,zbj⟩
theorem zus {l:List Shp} (hl:l.length≤1048576) {t:Nat}:Ev Tryz.prog 62 [zd8 l] ⟨[],t⟩ fun v S=>∃ (v2 t2:Nat) (inn:List (Nat × List Int)),inn.map (·.2)=zb2 l∧v=slQ inn v2∧S=stQ inn v2 t2:=by
 refine Ev.of ⟨Tryz.func62,by kernel_rfl,rfl,by kernel_rfl⟩ za4 mixed (by show 1≤Tryz.f62.ntmps; decide) ?_
 refine W.r fun K hK=>?_
 simp(disch:=omega)only[↓RU,RV,RH,↓reduceIte,qE,reduceCtorEq,if_pos,↓RS,RG,qA,qM,qL]
 apply hK;clear hK K
 refine W.r fun K hK=>?_
 simp(disch:=omega)only[↓RU,RV,RH,↓reduceIte,qE,reduceCtorEq,if_pos,↓RS,RG,qA,qM,qL]
 apply hK;clear hK K
 refine W.seq ?_
 refine W.r fun K hK=>?_
 simp(disch:=omega)only[↓RU,RV,RH,↓reduceIte,qE,reduceCtorEq,if_pos,↓RS,RG,qA,qM,qL,ty2,zf8,zaa,zf9]
 apply hK;clear hK K
 refine W.block ?_
 refine W.loopS [3,6,7,8] (fun n vs S=>∃ (i v t:Nat) (inn:List (Nat × List Int)),n=l.length - i∧i≤l.length∧inn.map (·.2)=zb2 (l.take i)∧vs=[slQ inn v,zd8 l,.int .i64 l.length,.int .i64 i]∧S=stQ inn v t) l.length ?_ ?_
 ·refine ⟨0,[],[.nils,zd8 l,.int .i64 l.length,.int .i64 (0:Nat)],⟨[],t+1⟩,?_,?_,0,0,t+1,[],rfl,Nat.zero_le _,rfl,rfl,rfl⟩
  ·simp [-qU,Env.put,Env.of,zad,za2,zac,zai,zak,zam,za3,za8,zbz,za7,zat,za9,zby,zb0,zav,zau,zan,za6,zba,zbx,zar,zaq,zal,zas,za5,zc9,qS,qP,qC,z4u,zcd,zjj]
  simp [-qU,Env.put,Env.of,zad,za2,zac,zai,zak,zam,za3,za8,zbz,za7,zat,za9,zby,zb0,zav,zau,zan,za6,zba,zbx,zar,zaq,zal,zas,za5,zc9,qS,qP,qC]
 rintro n vs S - ⟨i,v,t,inn,rfl,h_i,hin,rfl,rfl⟩
 refine W.r fun K hK=>?_
 simp(disch:=omega)only[↓RU,RV,RH,↓reduceIte,qE,reduceCtorEq,if_pos,w64,↓RS,RG,qA,qM,qL,zaa]
 apply hK;clear hK K
 refine W.seq ?_
 refine W.cond rfl (fun h1=>?_) (fun h1=>?_)
 ·try simp only[RL]at h1
  obtain ⟨x,hx,-⟩:=zaf (show i<l.length by omega)
  have hrs:=zpq hx
  have hil:inn.length=i:=by have:=congrArg List.length hin; rw [zcm,List.length_map,List.length_take]at this; omega
  have hpx:((scs l).drop (i*2)).take 2=[.int .i64 x.1,.int .i64 x.2]:=zrm hx
  refine W.skip ?_
  refine xn ?_
  refine W.seq ?_
  refine W.block ?_
  refine W.r fun K hK=>?_
  by_cases hi0:i=0
  ·skip
   obtain rfl:inn=[]:=List.eq_nil_of_length_eq_zero (by omega)
   simp only[yax,ya0]
   have gX0:=True.intro
   have gX1:=True.intro
   have gX2:=True.intro
   have hXl:=True.intro
   have sX0:=True.intro
   have hct:=True.intro
   simp(disch:=omega)only[↓RU,RV,RH,↓reduceIte,qE,reduceCtorEq,if_pos,↓RS,RG,qA,qM,qL,ty2,zf8,zaa,zf9,hpx,zcd,gX0,gX1,sX0,hXl]
   apply hK;clear hK K
   refine W.k fun K hK=>?_
   simp(disch:=omega)only[↓RU,RV,RH,↓reduceIte,qE,reduceCtorEq,if_pos,↓RS,RG,qA,qM,qL,ty0,zab,zf8,zaa,zf9,gX0,gX1,gX2,sX0,hct,zsg,hil,hXl,List.append_assoc,List.cons_append,List.nil_append,List.length_append,List.length_cons,List.length_nil]
   apply hK;clear hK K
   refine XbN ?_
   refine xn ?_
   refine W.k fun K hK=>?_
   simp(disch:=omega)only[↓RU,RV,RH,↓reduceIte,qE,reduceCtorEq,if_pos,w64,↓RS,RG,qA,qM,qL,zaa]
   apply hK;clear hK K
   refine xn ?_
   refine ⟨l.length - (i+1),by omega,0,[3,1],[.loc 0 (t+4) 0 1,zd8 l,.int .i64 l.length,.int .i64 ((i+1:Nat):Int)],⟨[.arr (t+4) 24 1 [.loc 1 (t+4) 0 2],.arr (t+4) 3 1 [.int .i64 x.1,.int .i64 x.2]],t+5⟩,?_,?_,i+1,t+4,t+5,[(t+4,[x.1,x.2])],rfl,by omega,by rw [hrs,← hin]; rfl,rfl,rfl⟩
   ·simp [-qU,Env.put,Env.of,zad,za2,zac,zai,zak,zam,za3,za8,zbz,za7,zat,za9,zby,zb0,zav,zau,zan,za6,zba,zbx,zar,zaq,zal,zas,za5,zc9,qS,qP,qC] <;> decide
   simp [-qU,Env.put,Env.of,zad,za2,zac,zai,zak,zam,za3,za8,zbz,za7,zat,za9,zby,zb0,zav,zau,zan,za6,zba,zbx,zar,zaq,zal,zas,za5,zc9,qS,qP,qC] <;> decide
  skip
  have hne:inn≠[]:=fun e=>hi0 (by rw [e]at hil; exact hil.symm)
  rw [z5e hne,z5h hne]
  have hXl:(inO inn).length=i:=by rw [zw2,hil]
  have gX0:∀ ys:List Ob,(inO inn++ys)[i]?=ys[0]?:=fun ys=>by rw [List.getElem?_append_right (by omega),hXl,Nat.sub_self]
  have gX1:∀ ys:List Ob,(inO inn++ys)[i+1]?=ys[1]?:=fun ys=>by rw [List.getElem?_append_right (by omega),hXl,Nat.add_sub_cancel_left]
  have gX2:∀ ys:List Ob,(inO inn++ys)[i+2]?=ys[2]?:=fun ys=>by rw [List.getElem?_append_right (by omega),hXl,Nat.add_sub_cancel_left]
  have sX0:∀ (ys:List Ob) (b:Ob),(inO inn++ys).set i b=inO inn++ys.set 0 b:=fun ys b=>by rw [List.set_append_right _ _ (by omega),hXl,Nat.sub_self]
  have hct:(lcO 1 inn).take i=lcO 1 inn:=qT (by rw [zsg]; omega)
  simp(disch:=omega)only[↓RU,RV,RH,↓reduceIte,qE,reduceCtorEq,if_pos,↓RS,RG,qA,qM,qL,ty2,zf8,zaa,zf9,hpx,zcd,gX0,gX1,sX0,hXl]
  apply hK;clear hK K
  refine W.k fun K hK=>?_
  simp(disch:=omega)only[↓RU,RV,RH,↓reduceIte,qE,reduceCtorEq,if_pos,↓RS,RG,qA,qM,qL,ty0,zab,zf8,zaa,zf9,gX0,gX1,gX2,sX0,hct,zsg,hil,hXl,List.append_assoc,List.cons_append,List.nil_append,List.length_append,List.length_cons,List.length_nil]
  apply hK;clear hK K
  refine XbN ?_
  refine xn ?_
  refine W.k fun K hK=>?_
  simp(disch:=omega)only[↓RU,RV,RH,↓reduceIte,qE,reduceCtorEq,if_pos,w64,↓RS,RG,qA,qM,qL,zaa]
  apply hK;clear hK K
  refine xn ?_
  refine ⟨l.length - (i+1),by omega,i+1,[i+2],[.loc 0 (t+3) 0 (i+1),zd8 l,.int .i64 l.length,.int .i64 ((i+1:Nat):Int)],⟨.arr (t+3) 24 1 (lcO 1 (inn++[(t+4,[x.1,x.2])]))::inO (inn++[(t+4,[x.1,x.2])]),t+5⟩,?_,?_,i+1,t+3,t+5,inn++[(t+4,[x.1,x.2])],rfl,by omega,by rw [hrs,List.map_append,hin]; rfl,by rw [z5e (by simp)]; simp [hil],by rw [z5h (by simp)]⟩
  ·simp [-qU,Env.put,Env.of,zad,za2,zac,zai,zak,zam,za3,za8,zbz,za7,zat,za9,zby,zb0,zav,zau,zan,za6,zba,zbx,zar,zaq,zal,zas,za5,zc9,qS,qP,qC]
  exact yao (r:=[x.1,x.2]) hil rfl
 try simp only[RL]at h1
 obtain rfl:i=l.length:=by omega
 refine W.exit ?_
 refine xe ?_
 refine xe ?_
 refine XBlock.hit ?_
 refine xn ?_
 refine W.r fun K hK=>?_
 simp(disch:=omega)only[↓RU,RV,RH,↓reduceIte,qE,reduceCtorEq,if_pos,↓RS,RG,qA,qM,qL]
 apply hK;clear hK K
 refine W.ret ?_
 refine Br rfl ?_
 rw [List.take_length]at hin
 exact ⟨_,_,_,inn,hin,rfl,zbj⟩
theorem zs7 {p:List Txt} (hs:Sm p) {ws ht:List Int} (hw:ws.length≤1048576) (hh:ht.length≤1048576) {x:CT} (hg:zde p ws ht=true) (hx0:(zct (zao p) (zd7 p))=some x):PC Tryz.prog 20 [za1 p,eInts ws,eInts ht] (.tup [zdu (zg2 ws ht x),.bool true]) false:=by
 obtain ⟨hp,g2,g3,g4,g5,hnv⟩:=zd9 hg
 have hSh:=zee hs hw hh
 rw [hg,hnv,if_pos rfl]at hSh
 have hF:PC Tryz.prog 60 [zft (gP p) (rP p) (zd7 p).rect,.fn 58 [.ip [eInts ws] 0,.ip [eInts ht] 0],.fn 61 []] (.tup [zd8 (zg2 ws ht x),.bool true]) false:=by
  have h:PC Tryz.prog 60 [zft (gP p) (rP p) (zd7 p).rect,.fn 58 [.ip [eInts ws] 0,.ip [eInts ht] 0],.fn 61 []] (zlw zd8 (.sl [] 0) (zto ws ht) z7v (zct (zao p) (zd7 p))) false:=by
   refine zfb hp (rf:=58) (cf:=61) (rc:=[.ip [eInts ws] 0,.ip [eInts ht] 0]) (cc:=[]) (fun _=>rfl) (fun _=>rfl) (fun _=>rfl) (fun _=>rfl) (room:=zto ws ht) (cut:=z7v) (fun a h1 h2=>?_) (fun t q x y hw hq hx hy=>?_) _ (qR _) (zfi hp)
   ·obtain ⟨x,hx,-⟩:=zaf (show a.toNat<ws.length by omega)
    obtain ⟨y,hy,-⟩:=zaf (show a.toNat<ht.length by omega)
    have:=(zf0 h1 hx hy).old
    rw [show zto ws ht a=pareto [(x,y),(y,x)] by unfold zto; rw [zgc hx,zgc hy]]
    exact this
   obtain ⟨w1,w2⟩:=hw.cut (zid hp) hq
   have b1:=zc0 hp g2 g3 g4 g5 w1 hx
   have b2:=zc0 hp g2 g3 g4 g5 w2 hy
   exact (zf1 (lv:=q.1) b1.1 b2.1 (by have:=b1.2.1; omega) (by have:=b2.2.1; omega) b1.2.2 b2.2.2).old
  rw [hx0]at h
  exact h
 have hXf:=zc0 hp g2 g3 g4 g5 (zfi hp) hx0
 generalize hXX:(zg2 ws ht x)=X at hF hXf ⊢
 refine PC.of ⟨Tryz.func20,by kernel_rfl,rfl,by kernel_rfl⟩ za4 mixed (by show 3≤Tryz.f20.ntmps; decide) ?_
 refine W.r fun K hK=>?_
 simp(disch:=omega)only[↓RU,RV,RH,↓reduceIte,qE,reduceCtorEq,if_pos,↓RS,RG,qA,qM,qL,zab,zaa]
 apply hK;clear hK K
 refine W.r fun K hK=>?_
 simp(disch:=omega)only[↓RU,RV,RH,↓reduceIte,qE,reduceCtorEq,if_pos,qN,↓RS,RG,qA,qM,qL,zab,zaa]
 refine zag.pc (hSh) rfl (.inr rfl) ?_
 simp(disch:=omega)only[↓RU,RV,RH,↓reduceIte,qE,reduceCtorEq,if_pos,qN,↓RS,RG,qA,qM,qL,zab,zaa]
 apply hK;clear hK K
 refine W.seq ?_
 refine W.r fun K hK=>?_
 simp(disch:=omega)only[↓RU,RV,RH,↓reduceIte,qE,reduceCtorEq,if_pos,↓RS,RG,qA,qM,qL]
 apply hK;clear hK K
 refine W.cond rfl (fun h0=>?_) (fun h0=>?_)
 ·try simp only[RL]at h0
  exact absurd h0 (by simp)
 try simp only[RL]at h0
 refine W.skip ?_
 refine xn ?_
 refine W.joinZ [8,10] (fun vs S=>∃ tk:Nat,vs=[zaw (gP p) (rP p),.fn 58 [.ip [eInts ws] 0,.ip [eInts ht] 0]]∧S=⟨[],tk⟩) ?_ ?_
 ·
  refine W.k fun K hK=>?_
  simp(disch:=omega)only[↓RU,RV,RH,↓reduceIte,qE,reduceCtorEq,if_pos,↓RS,RG,qA,qM,qL]
  apply hK;clear hK K
  refine xn ?_
  refine ⟨0,[zaw (gP p) (rP p),.fn 58 [.ip [eInts ws] 0,.ip [eInts ht] 0]],⟨[],2⟩,?_,?_,2,rfl,rfl⟩
  ·simp [-qU,Store.frz,zcn,zcx,zbe,zb7,zca,zb6,zcw,zbq,zbt,zbr,zbd,zbf,zcb,zbs,zb8,zbp,Env.put,Env.of,zad,zb9,qP,qC,frz,rfz,Store.cellsOf,zaw,eInts]
  simp [-qU,Store.frz,zcn,zcx,zbe,zb7,zca,zb6,zcw,zbq,zbt,zbr,zbd,zbf,zcb,zbs,zb8,zbp,Env.put,Env.of,zad,zb9,qP,qC]
 rintro vs S - ⟨tk,rfl,rfl⟩
 refine W.r fun K hK=>?_
 simp(disch:=omega)only[↓RU,RV,RH,↓reduceIte,qE,reduceCtorEq,if_pos,qN,↓RS,RG,qA,qM,qL]
 refine zag.pc (zlp hp) rfl (.inr rfl) ?_
 simp(disch:=omega)only[↓RU,RV,RH,↓reduceIte,qE,reduceCtorEq,if_pos,qN,↓RS,RG,qA,qM,qL]
 refine zag.pc (hF) rfl (.inr rfl) ?_
 simp(disch:=omega)only[↓RU,RV,RH,↓reduceIte,qE,reduceCtorEq,if_pos,qN,↓RS,RG,qA,qM,qL]
 apply hK;clear hK K
 refine W.r fun K hK=>?_
 simp(disch:=omega)only[↓RU,RV,RH,↓reduceIte,qE,reduceCtorEq,if_pos,qN,↓RS,RG,qA,qM,qL]
 refine zag.ev (z01 (l:=X) (by omega)) ?_
 rintro _ _ ⟨v3,t3,rfl,rfl⟩
 simp(disch:=omega)only[↓RU,RV,RH,↓reduceIte,qE,reduceCtorEq,if_pos,qN,↓RS,RG,qA,qM,qL]
 apply hK;clear hK K
 refine W.ret ?_
 refine Br rfl ?_
 exact zmc (k:=9) (z4r.trans (by rw [zd0,zcm])) rfl
theorem zqc {p:List Txt} (hs:Sm p) {ws ht:List Int} (hw:ws.length≤1048576) (hh:ht.length≤1048576) {x:CT} (hg:zde p ws ht=true) (hx0:(zct (zao p) (zd7 p))=some x):PN Tryz.prog 20 [za1 p,eInts ws,eInts ht] (.tup [.loc 0 0 0 (zg2 ws ht x).length,.bool true]) (.arr 0 24 1 (lc2 1 0 (zg2 ws ht x).length)::zni 0 (zb2 (zg2 ws ht x))) false:=by
 obtain ⟨hp,g2,g3,g4,g5,hnv⟩:=zd9 hg
 have hSh:=zee hs hw hh
 rw [hg,hnv,if_pos rfl]at hSh
 have hF:PC Tryz.prog 60 [zft (gP p) (rP p) (zd7 p).rect,.fn 58 [.ip [eInts ws] 0,.ip [eInts ht] 0],.fn 61 []] (.tup [zd8 (zg2 ws ht x),.bool true]) false:=by
  have h:PC Tryz.prog 60 [zft (gP p) (rP p) (zd7 p).rect,.fn 58 [.ip [eInts ws] 0,.ip [eInts ht] 0],.fn 61 []] (zlw zd8 (.sl [] 0) (zto ws ht) z7v (zct (zao p) (zd7 p))) false:=by
   refine zfb hp (rf:=58) (cf:=61) (rc:=[.ip [eInts ws] 0,.ip [eInts ht] 0]) (cc:=[]) (fun _=>rfl) (fun _=>rfl) (fun _=>rfl) (fun _=>rfl) (room:=zto ws ht) (cut:=z7v) (fun a h1 h2=>?_) (fun t q x y hw hq hx hy=>?_) _ (qR _) (zfi hp)
   ·obtain ⟨x,hx,-⟩:=zaf (show a.toNat<ws.length by omega)
    obtain ⟨y,hy,-⟩:=zaf (show a.toNat<ht.length by omega)
    have:=(zf0 h1 hx hy).old
    rw [show zto ws ht a=pareto [(x,y),(y,x)] by unfold zto; rw [zgc hx,zgc hy]]
    exact this
   obtain ⟨w1,w2⟩:=hw.cut (zid hp) hq
   have b1:=zc0 hp g2 g3 g4 g5 w1 hx
   have b2:=zc0 hp g2 g3 g4 g5 w2 hy
   exact (zf1 (lv:=q.1) b1.1 b2.1 (by have:=b1.2.1; omega) (by have:=b2.2.1; omega) b1.2.2 b2.2.2).old
  rw [hx0]at h
  exact h
 have hXf:=zc0 hp g2 g3 g4 g5 (zfi hp) hx0
 generalize hXX:(zg2 ws ht x)=X at hF hXf ⊢
 refine PN.of ⟨Tryz.func20,by kernel_rfl,rfl,by kernel_rfl⟩ za4 mixed (by show 3≤Tryz.f20.ntmps; decide) ?_
 refine W.r fun K hK=>?_
 simp(disch:=omega)only[↓RU,RV,RH,↓reduceIte,qE,reduceCtorEq,if_pos,↓RS,RG,qA,qM,qL,zab,zaa]
 apply hK;clear hK K
 refine W.r fun K hK=>?_
 simp(disch:=omega)only[↓RU,RV,RH,↓reduceIte,qE,reduceCtorEq,if_pos,qN,↓RS,RG,qA,qM,qL,zab,zaa]
 refine zag.pc (hSh) rfl (.inr rfl) ?_
 simp(disch:=omega)only[↓RU,RV,RH,↓reduceIte,qE,reduceCtorEq,if_pos,qN,↓RS,RG,qA,qM,qL,zab,zaa]
 apply hK;clear hK K
 refine W.seq ?_
 refine W.r fun K hK=>?_
 simp(disch:=omega)only[↓RU,RV,RH,↓reduceIte,qE,reduceCtorEq,if_pos,↓RS,RG,qA,qM,qL]
 apply hK;clear hK K
 refine W.cond rfl (fun h0=>?_) (fun h0=>?_)
 ·try simp only[RL]at h0
  exact absurd h0 (by simp)
 try simp only[RL]at h0
 refine W.skip ?_
 refine xn ?_
 refine W.joinZ [8,10] (fun vs S=>∃ tk:Nat,vs=[zaw (gP p) (rP p),.fn 58 [.ip [eInts ws] 0,.ip [eInts ht] 0]]∧S=⟨[],tk⟩) ?_ ?_
 ·
  refine W.k fun K hK=>?_
  simp(disch:=omega)only[↓RU,RV,RH,↓reduceIte,qE,reduceCtorEq,if_pos,↓RS,RG,qA,qM,qL]
  apply hK;clear hK K
  refine xn ?_
  refine ⟨0,[zaw (gP p) (rP p),.fn 58 [.ip [eInts ws] 0,.ip [eInts ht] 0]],⟨[],2⟩,?_,?_,2,rfl,rfl⟩
  ·simp [-qU,Store.frz,zcn,zcx,zbe,zb7,zca,zb6,zcw,zbq,zbt,zbr,zbd,zbf,zcb,zbs,zb8,zbp,Env.put,Env.of,zad,zb9,qP,qC,frz,rfz,Store.cellsOf,zaw,eInts]
  simp [-qU,Store.frz,zcn,zcx,zbe,zb7,zca,zb6,zcw,zbq,zbt,zbr,zbd,zbf,zcb,zbs,zb8,zbp,Env.put,Env.of,zad,zb9,qP,qC]
 rintro vs S - ⟨tk,rfl,rfl⟩
 refine W.r fun K hK=>?_
 simp(disch:=omega)only[↓RU,RV,RH,↓reduceIte,qE,reduceCtorEq,if_pos,qN,↓RS,RG,qA,qM,qL]
 refine zag.pc (zlp hp) rfl (.inr rfl) ?_
 simp(disch:=omega)only[↓RU,RV,RH,↓reduceIte,qE,reduceCtorEq,if_pos,qN,↓RS,RG,qA,qM,qL]
 refine zag.pc (hF) rfl (.inr rfl) ?_
 simp(disch:=omega)only[↓RU,RV,RH,↓reduceIte,qE,reduceCtorEq,if_pos,qN,↓RS,RG,qA,qM,qL]
 apply hK;clear hK K
 refine W.r fun K hK=>?_
 simp(disch:=omega)only[↓RU,RV,RH,↓reduceIte,qE,reduceCtorEq,if_pos,qN,↓RS,RG,qA,qM,qL]
 refine zag.ev (zus (l:=X) (by omega)) ?_
 rintro _ _ ⟨v3,t3,inn,hinn,rfl,rfl⟩
 simp(disch:=omega)only[↓RU,RV,RH,↓reduceIte,qE,reduceCtorEq,if_pos,qN,↓RS,RG,qA,qM,qL]
 apply hK;clear hK K
 refine W.ret ?_
 refine Br rfl ?_
 have e:=ycc (v:=v3) (t:=t3) (bb:=true) hinn zs0 (by rw [zcm]; omega)
 rw [zcm]at e
 exact e

theorem zvq {S:Store} {f:Nat}:∀ {inn:List (Nat × List Int)} {b:Nat},(∀ (j:Nat) q,inn[j]?=some q→S.obs[b+j]?=some (.arr q.1 3 1 (q.2.map (.int .i64))))→(lcO b inn).mapM (reify S true (f+2))=some (inn.map fun q=>eInts q.2)
 | [],_,_=>rfl
 | q::r,b,h=>by
  have h0:=h 0 q rfl
  exact zaj (zbc (k:=f+1) h0 (by simp) (zdw _)) (zvq fun j q hq=>by have:=h (j+1) q hq; rwa [show b+(j+1)=b+1+j by omega]at this)
theorem zi0 {S:Store} {o v b n:Nat} {rows:List (List Int)} (hS:S.obs[o]?=some (.arr v 24 1 (lc2 b v n))) (hn:n=rows.length) (h2:∀ r∈rows,r.length=2) (hr:∀ (j:Nat) r,rows[j]?=some r→S.obs[b+j]?=some (.arr v 3 1 (r.map (.int .i64)))) :
  reify S true 10 (.loc o v 0 n)=some (.sl (rows.map eInts) n):=by
 subst hn
 have e:=zvq (S:=S) (f:=7) (inn:=vrs v rows) (b:=b) fun j q hq=>by
  obtain ⟨r,hr1,hr2⟩:∃ r,rows[j]?=some r∧q=(v,r):=by
   unfold vrs at hq; rw [List.getElem?_map]at hq
   cases h:rows[j]? with
   | none=>rw [h]at hq; cases hq
   | some r=>rw [h]at hq; exact ⟨r,rfl,(Option.some.inj hq).symm⟩
  subst hr2; exact hr j r hr1
 rw [zxb h2,show (vrs v rows).map (fun q=>eInts q.2)=rows.map eInts by simp [vrs]]at e
 exact zbc (k:=9) hS (by rw [z3c]; omega) e
theorem z3l {k0:Int} {n:Nat}:∀ r∈mkR k0 n,r.length=2:=fun r hr=>by obtain ⟨x,-,rfl⟩:=List.mem_map.1 hr; rfl
theorem yb4 {k0:Int} {n i:Nat} (h:i<n):(mkR k0 n)[i]?=some [k0+2*i,k0+2*i+1]:=by simp [mkR,h]
theorem zf2 {l:List Shp} (hl:l.length≤1048576):PC Tryz.prog 21 [zdu l,zdu l] (.bool true) true:=by
 refine PC.of ⟨Tryz.func21,by kernel_rfl,rfl,by kernel_rfl⟩ za4 mixed (by show 2≤Tryz.f21.ntmps; decide) ?_
 refine W.r fun K hK=>?_
 simp(disch:=omega)only[↓RU,RV,RH,↓reduceIte,qE,reduceCtorEq,if_pos]
 apply hK;clear hK K
 refine W.seq ?_
 refine W.r fun K hK=>?_
 simp(disch:=omega)only[↓RU,RV,RH,↓reduceIte,qE,reduceCtorEq,if_pos,w64,ty0,zab,zaa]
 apply hK;clear hK K
 refine W.cond rfl (fun h0=>?_) (fun h0=>?_)
 ·try simp only[RL]at h0
  exact absurd h0 (by simp)
 try simp only[RL]at h0
 refine W.skip ?_
 refine xn ?_
 refine W.seq ?_
 refine W.r fun K hK=>?_
 simp(disch:=omega)only[↓RU,RV,RH,↓reduceIte,qE,reduceCtorEq,if_pos]
 apply hK;clear hK K
 refine W.block ?_
 refine W.loop [0,1,5] (fun n vs S=>∃ i:Nat,n=l.length - i∧i≤l.length∧vs=[zdu l,zdu l,.int .i64 i]∧S=⟨[],0⟩) (l.length) ?_ ?_
 ·refine ⟨0,0,rfl,Nat.zero_le _,?_,rfl⟩
  simp [Env.put,Env.of,zad]
 rintro n vs S - ⟨i,rfl,h_i,rfl,rfl⟩
 refine W.seq ?_
 refine W.r fun K hK=>?_
 simp(disch:=omega)only[↓RU,RV,RH,↓reduceIte,qE,reduceCtorEq,if_pos,w64,ty0,zab,zaa]
 apply hK;clear hK K
 refine W.cond rfl (fun h1=>?_) (fun h1=>?_)
 ·try simp only[RL]at h1
  obtain ⟨x,hx,-⟩:=zaf (show i<l.length by omega)
  have hxr:=zgj hx
  have hrl:=zcm (l:=l)
  refine W.skip ?_
  refine xn ?_
  refine W.seq ?_
  refine W.block ?_
  refine W.seq_draw (by kernel_rfl) fun K hK=>?_
  simp(disch:=omega)only[↓RU,RV,RH,↓reduceIte,qE,reduceCtorEq,if_pos,qN,ty0,zab,zaa,hxr,hrl]
  refine zag.pc (zh7 (p:=[x.1,x.2]) (q:=[x.1,x.2]) (by simp) (by simp)) rfl (.inl rfl) ?_
  simp(disch:=omega)only[↓RU,RV,RH,↓reduceIte,qE,reduceCtorEq,if_pos,qN,ty0,zab,zaa,hxr,hrl]
  apply hK;clear hK K
  refine W.cond rfl (fun h2=>?_) (fun h2=>?_)
  ·try simp only[RL]at h2
   exact absurd h2 (by simp)
  try simp only[RL]at h2
  refine W.skip ?_
  refine XbN ?_
  refine xn ?_
  refine W.k fun K hK=>?_
  simp(disch:=omega)only[↓RU,RV,RH,↓reduceIte,qE,reduceCtorEq,if_pos,w64,zaa]
  apply hK;clear hK K
  refine xn ?_
  refine ⟨l.length - (i+1),by omega,0,i+1,rfl,by omega,?_,rfl⟩
  simp [Env.put,Env.of]
 try simp only[RL]at h1
 obtain rfl:i=l.length:=by omega
 refine W.exit ?_
 refine xe ?_
 refine xe ?_
 refine XBlock.hit ?_
 refine xn ?_
 refine W.r fun K hK=>?_
 simp(disch:=omega)only[↓RU,RV,RH,↓reduceIte,qE,reduceCtorEq,if_pos]
 apply hK;clear hK K
 refine W.ret ?_
 refine Br rfl ?_
 rfl
theorem zgt {k0:Int} {m:Nat} (hn:m≤1048576) (hk0:0≤k0) (hk1:k0≤1048576):PC Tryz.prog 27 [.sl ((mkR k0 m).map eInts) m,.int .i64 k0] (.int .i64 (k0+2*m)) true:=by
 have hml:=zsj (k0:=k0) (n:=m)
 refine PC.of ⟨Tryz.func27,by kernel_rfl,rfl,by kernel_rfl⟩ za4 mixed (by show 2≤Tryz.f27.ntmps; decide) ?_
 refine W.r fun K hK=>?_
 simp(disch:=omega)only[↓RU,RV,RH,↓reduceIte,qE,reduceCtorEq,if_pos]
 apply hK;clear hK K
 refine W.seq ?_
 refine W.r fun K hK=>?_
 simp(disch:=omega)only[↓RU,RV,RH,↓reduceIte,qE,reduceCtorEq,if_pos]
 apply hK;clear hK K
 refine W.block ?_
 refine W.loop [0,1,5] (fun n vs S=>∃ i:Nat,n=m - i∧i≤m∧vs=[.sl ((mkR k0 m).map eInts) m,.int .i64 (k0+2*i),.int .i64 i]∧S=⟨[],0⟩) (m) ?_ ?_
 ·refine ⟨0,0,rfl,Nat.zero_le _,?_,rfl⟩
  simp [Env.put,Env.of,zad]
 rintro n vs S - ⟨i,rfl,h_i,rfl,rfl⟩
 refine W.seq ?_
 refine W.r fun K hK=>?_
 simp(disch:=omega)only[↓RU,RV,RH,↓reduceIte,qE,reduceCtorEq,if_pos,w64,ty0,zab,zaa]
 apply hK;clear hK K
 refine W.cond rfl (fun h=>?_) (fun h=>?_)
 ·try simp only[RL]at h
  have hx:=yb4 (k0:=k0) (show i<m by omega)
  have h2l:([k0+2*(i:Int),k0+2*i+1]:List Int).length=2:=rfl
  refine W.skip ?_
  refine xn ?_
  refine W.seq ?_
  refine W.block ?_
  refine W.r fun K hK=>?_
  simp(disch:=omega)only[↓RU,RV,RH,↓reduceIte,qE,reduceCtorEq,if_pos,qN,ty0,zab,zaa,hx,hml]
  refine zag.pc (zw1 (l:=[k0+2*(i:Int),k0+2*i+1]) (k0:=k0+2*i) (by simp) (by omega) (by omega) (fun j hj=>by match j,hj with | 0,_=>simp | 1,_=>simp)) rfl (.inl rfl) ?_
  simp(disch:=omega)only[↓RU,RV,RH,↓reduceIte,qE,reduceCtorEq,if_pos,qN,ty0,zab,zaa,hx,hml]
  apply hK;clear hK K
  refine W.r fun K hK=>?_
  simp(disch:=omega)only[↓RU,RV,RH,↓reduceIte,qE,reduceCtorEq,if_pos,w64,zaa]
  apply hK;clear hK K
  refine W.cond rfl (fun h1=>?_) (fun h1=>?_)
  ·try simp only[RL]at h1
   exact absurd h1 (by simp; omega)
  try simp only[RL]at h1
  refine W.skip ?_
  refine XbN ?_
  refine xn ?_
  refine W.k fun K hK=>?_
  simp(disch:=omega)only[↓RU,RV,RH,↓reduceIte,qE,reduceCtorEq,if_pos,w64,zaa]
  apply hK;clear hK K
  refine xn ?_
  refine ⟨m - (i+1),by omega,0,i+1,rfl,by omega,?_,rfl⟩
  simp [Env.put,Env.of]; omega
 try simp only[RL]at h
 obtain rfl:i=m:=by omega
 refine W.exit ?_
 refine xe ?_
 refine xe ?_
 refine XBlock.hit ?_
 refine xn ?_
 refine W.r fun K hK=>?_
 simp(disch:=omega)only[↓RU,RV,RH,↓reduceIte,qE,reduceCtorEq,if_pos]
 apply hK;clear hK K
 refine W.ret ?_
 refine Br rfl ?_
 rfl
theorem zuw {F:List Ob} {ver vv t:Nat} {l:List Shp} (hl:l.length≤1048576) {k0:Int} (hk0:0≤k0) (hk1:k0≤1048576):Ev Tryz.prog 26 [.loc F.length ver 0 l.length,.int .i64 k0] ⟨F ++ .arr ver 24 1 (lc2 (F.length+1) vv l.length)::zni vv (zb2 l),t⟩ fun v S=>v = .int .i64 (k0+2*l.length)∧S=⟨F ++ .arr ver 24 1 (lc2 (F.length+1) vv l.length)::zni vv (mkR k0 l.length),t⟩:=by
 refine Ev.of ⟨Tryz.func26,by kernel_rfl,rfl,by kernel_rfl⟩ za4 mixed (by show 2≤Tryz.f26.ntmps; decide) ?_
 refine W.r fun K hK=>?_
 simp(disch:=omega)only[↓RU,RV,RH,↓reduceIte,qE,reduceCtorEq,if_pos,↓RS,RG,qA,qM,qL,gF,zeh]
 apply hK;clear hK K
 refine W.seq ?_
 refine W.r fun K hK=>?_
 simp(disch:=omega)only[↓RU,RV,RH,↓reduceIte,qE,reduceCtorEq,if_pos,↓RS,RG,qA,qM,qL,gF,zeh]
 apply hK;clear hK K
 refine W.block ?_
 refine W.loop [0,1,5] (fun n vs S=>∃ i:Nat,n=l.length - i∧i≤l.length∧vs=[.loc F.length ver 0 l.length,.int .i64 (k0+2*i),.int .i64 i]∧S=⟨F ++ .arr ver 24 1 (lc2 (F.length+1) vv l.length)::zni vv (mkR k0 i++(zb2 l).drop i),t⟩) l.length ?_ ?_
 ·refine ⟨_,0,rfl,by omega,?_,zj4 (by simp [mkR])⟩
  simp [Env.put,Env.of,zad]
 rintro n vs S - ⟨i,rfl,h_i,rfl,rfl⟩
 refine W.seq ?_
 refine W.r fun K hK=>?_
 simp(disch:=omega)only[↓RU,RV,RH,↓reduceIte,qE,reduceCtorEq,if_pos,w64,↓RS,RG,qA,qM,qL,ty0,zab,zaa,gF,zeh]
 apply hK;clear hK K
 refine W.cond rfl (fun h=>?_) (fun h=>?_)
 ·try simp only[RL]at h
  obtain ⟨x,hx,-⟩:=zaf (show i<l.length by omega)
  have hxr:=zgj hx
  obtain ⟨F2,hF2⟩:∃ F2:List Ob,F2=F ++ .arr ver 24 1 (lc2 (F.length+1) vv l.length)::zni vv (mkR k0 i):=⟨_,rfl⟩
  have hFl:F2.length=F.length+1+i:=by rw [hF2,List.length_append,List.length_cons,z7q,zsj]; omega
  have hlc:(lc2 (F.length+1) vv l.length)[i]?=some (.loc F2.length vv 0 [x.1,x.2].length):=by rw [yb1 (by omega),hFl]; rfl
  have hS:F ++ .arr ver 24 1 (lc2 (F.length+1) vv l.length)::zni vv (mkR k0 i++(zb2 l).drop i)=F2 ++ .arr vv 3 1 ([x.1,x.2].map (.int .i64))::zni vv ((zb2 l).drop (i+1)):=by
   obtain ⟨hlt,hget⟩:=List.getElem?_eq_some_iff.1 hxr
   rw [hF2,List.drop_eq_getElem_cons hlt,hget,z7p]; simp [zni]
  have hll:=z3c (b:=F.length+1) (v:=vv) (n:=l.length)
  refine W.skip ?_
  refine xn ?_
  refine W.seq ?_
  refine W.block ?_
  refine W.k fun K hK=>?_
  simp(disch:=omega)only[↓RU,RV,RH,↓reduceIte,qE,reduceCtorEq,if_pos,qN,↓RS,RG,qA,qM,qL,ty0,zab,zaa,gF,zeh,hlc,hll]
  rw [hS]
  refine zag.ev (zge (F:=F2) (R:=zni vv ((zb2 l).drop (i+1))) (l:=[x.1,x.2]) (by simp) (k0:=k0+2*i) (by omega) (by omega)) ?_
  rintro _ _ ⟨rfl,ts,hts,htd,rfl⟩
  have htt:=ycj hts htd
  simp(disch:=omega)only[↓RU,RV,RH,↓reduceIte,qE,reduceCtorEq,if_pos,qN,↓RS,RG,qA,qM,qL,ty0,zab,zaa,gF,zeh,hlc,hll]
  apply hK;clear hK K
  refine XbN ?_
  refine xn ?_
  refine W.k fun K hK=>?_
  simp(disch:=omega)only[↓RU,RV,RH,↓reduceIte,qE,reduceCtorEq,if_pos,w64,↓RS,RG,qA,qM,qL,zaa,gF,zeh]
  apply hK;clear hK K
  refine xn ?_
  refine ⟨l.length - (i+1),by omega,_,i+1,rfl,by omega,?_,zj4 (by rw [htt,hF2,z61]; simp [zni])⟩
  simp [Env.put,Env.of]; omega
 try simp only[RL]at h
 obtain rfl:i=l.length:=by omega
 refine W.exit ?_
 refine xe ?_
 refine xe ?_
 refine XBlock.hit ?_
 refine xn ?_
 refine W.r fun K hK=>?_
 simp(disch:=omega)only[↓RU,RV,RH,↓reduceIte,qE,reduceCtorEq,if_pos,↓RS,RG,qA,qM,qL,gF,zeh]
 apply hK;clear hK K
 refine W.ret ?_
 refine Br rfl ?_
 rw [List.drop_of_length_le (by rw [zcm]; omega),qN]
 exact ⟨_,rfl,zbj⟩
theorem zsh (k0:Int):PC Tryz.prog 26 [.sl [] 0,.int .i64 k0] (.int .i64 k0) true:=by
 refine PC.of ⟨Tryz.func26,by kernel_rfl,rfl,by kernel_rfl⟩ za4 mixed (by show 2≤Tryz.f26.ntmps; decide) ?_
 refine W.r fun K hK=>?_
 simp(disch:=omega)only[↓RU,RV,RH,↓reduceIte,qE,reduceCtorEq,if_pos,↓RS,RG,qA,qM,qL]
 apply hK;clear hK K
 refine W.seq ?_
 refine W.r fun K hK=>?_
 simp(disch:=omega)only[↓RU,RV,RH,↓reduceIte,qE,reduceCtorEq,if_pos,↓RS,RG,qA,qM,qL]
 apply hK;clear hK K
 refine W.block ?_
 refine W.loop [0,1,5] (fun n vs S=>n=0∧vs=[.sl [] 0,.int .i64 k0,.int .i64 0]∧S=⟨[],0⟩) 0 ?_ ?_
 ·refine ⟨0,rfl,?_,rfl⟩
  simp [Env.put,Env.of,zad]
 rintro n vs S - ⟨rfl,rfl,rfl⟩
 refine W.seq ?_
 refine W.r fun K hK=>?_
 simp(disch:=omega)only[↓RU,RV,RH,↓reduceIte,qE,reduceCtorEq,if_pos,w64,↓RS,RG,qA,qM,qL,ty0,zab,zaa]
 apply hK;clear hK K
 refine W.cond rfl (fun h=>?_) (fun h=>?_)
 ·try simp only[RL]at h
  exact absurd h (by simp)
 try simp only[RL]at h
 refine W.exit ?_
 refine xe ?_
 refine xe ?_
 refine XBlock.hit ?_
 refine xn ?_
 refine W.r fun K hK=>?_
 simp(disch:=omega)only[↓RU,RV,RH,↓reduceIte,qE,reduceCtorEq,if_pos,↓RS,RG,qA,qM,qL]
 apply hK;clear hK K
 refine W.ret ?_
 refine Br rfl ?_
 rfl
theorem z3b {p:List Txt} (hp:zcz p=true) {ws ht:List Int} (hnw:zht ws) (hnh:zht ht) (hlw:ws.length=(rP p).length) (hlh:ht.length=(rP p).length) {t:Pt} (hw:Whole (zao p) p.length (zax p).length t) {x:CT} (hx:zct (zao p) t=some x) (ih:∀ (t':Pt) (x':CT),Whole (zao p) p.length (zax p).length t'→t'.h*t'.w<t.h*t.w→zct (zao p) t'=some x'→PC Tryz.prog 56 [za1 (sub p t'),eInts ws,eInts ht] (zdu (zg2 ws ht x')) false):PC Tryz.prog 56 [za1 (sub p t),eInts ws,eInts ht] (zdu (zg2 ws ht x)) false:=by
 have hg:=zec hp
 have hi:=hw.inn
 have hsmg:=zbk hg
 have hg2:=z0b hg hi
 have hs2:=Sm.grid hg2
 have hl2:=zj3 hi
 have hh2:=zrp hg hi
 have hib:=hi
 unfold Pt.In at hib
 obtain ⟨row0,hrow0,hq0,hl0,-⟩:=zik hg hi (i:=0) hi.1
 obtain ⟨c0,hc0,hlet⟩:=ziv hg hrow0 (k:=t.c+0) (by omega)
 have hqc:=(zgn (row:=row0) (t:=t) hib.2.1).trans hc0
 have hz0:zao p t.r t.c=(c0.toNat:Int) - 97:=zc3 (by simpa using hrow0) (by simpa using hc0)
 simp only[zcs,qB,decide_eq_true_eq]at hlet
 have hcq:=zym hg hi
 refine PC.of ⟨Tryz.func56,by kernel_rfl,rfl,by kernel_rfl⟩ za4 mixed (by show 3≤Tryz.f56.ntmps; decide) ?_
 refine W.r fun K hK=>?_
 simp(disch:=omega)only[↓RU,RV,RH,↓reduceIte,qE,reduceCtorEq,if_pos,↓RS,RG,qA,qM,qL]
 apply hK;clear hK K
 refine W.joinZ [0,1,2,7] (fun vs S=>∃ tk:Nat,vs=[za1 (sub p t),eInts ws,eInts ht,zdu []]∧S=⟨[],tk⟩) ?_ ?_
 ·
  refine W.k fun K hK=>?_
  simp(disch:=omega)only[↓RU,RV,RH,↓reduceIte,qE,reduceCtorEq,if_pos,↓RS,RG,qA,qM,qL,ty0,zab,zaa]
  apply hK;clear hK K
  refine xn ?_
  refine ⟨0,[za1 (sub p t),eInts ws,eInts ht,zdu []],⟨[],1⟩,?_,?_,1,rfl,rfl⟩
  ·simp [-qU,Store.frz,zcn,zcx,zbe,zb7,zca,zb6,zcw,zbq,zbt,zbr,zbd,zbf,zcb,zbs,zb8,zbp,Env.put,Env.of,zad,zb9,qP,qC,zb2]
  simp [-qU,Store.frz,zcn,zcx,zbe,zb7,zca,zb6,zcw,zbq,zbt,zbr,zbd,zbf,zcb,zbs,zb8,zbp,Env.put,Env.of,zad,zb9,qP,qC]
 rintro vs S - ⟨tk,rfl,rfl⟩
 refine W.seq ?_
 refine W.r fun K hK=>?_
 simp(disch:=omega)only[↓RU,RV,RH,↓reduceIte,qE,reduceCtorEq,if_pos,qN,↓RS,RG,qA,qM,qL]
 refine zag.pc (zy4 hs2 hg2) rfl (.inl rfl) ?_
 simp(disch:=omega)only[↓RU,RV,RH,↓reduceIte,qE,reduceCtorEq,if_pos,qN,↓RS,RG,qA,qM,qL]
 apply hK;clear hK K
 refine W.cond rfl (fun h0=>?_) (fun h0=>?_)
 ·skip
  have h0:z57 (sub p t)=true:=h0
  rw [znx hg hi]at h0
  rw [zlk hi h0]at hx
  cases hx
  have hv:=zh3 hp (i:=t.r) (j:=t.c) (by omega) (by omega)
  rw [hz0]at hv
  obtain ⟨x,hyx,-⟩:=zaf (show ((c0.toNat:Int) - 97).toNat<ws.length by omega)
  obtain ⟨y,hyy,-⟩:=zaf (show ((c0.toNat:Int) - 97).toNat<ht.length by omega)
  refine W.r fun K hK=>?_
  simp(disch:=omega)only[↓RU,RV,RH,↓reduceIte,qE,reduceCtorEq,if_pos,w64,w64,↓RS,RG,qA,qM,qL,ty3,zaa,zah,zhh,hq0,hqc,Int.toNat_zero,Nat.zero_mul,qZ]
  apply hK;clear hK K
  refine W.seq_draw (by kernel_rfl) fun K hK=>?_
  simp(disch:=omega)only[↓RU,RV,RH,↓reduceIte,qE,reduceCtorEq,if_pos,qN,↓RS,RG,qA,qM,qL,zab,zaa,hyx,hyy]
  refine zag.pc (znv (l:=[]) (by simp) _ _) rfl (.inr rfl) ?_
  simp(disch:=omega)only[↓RU,RV,RH,↓reduceIte,qE,reduceCtorEq,if_pos,qN,↓RS,RG,qA,qM,qL,zab,zaa,hyx,hyy]
  refine zag.pc (znv (l:=put [] x y) (by simp [put,zfn]) _ _) rfl (.inr rfl) ?_
  simp(disch:=omega)only[↓RU,RV,RH,↓reduceIte,qE,reduceCtorEq,if_pos,qN,↓RS,RG,qA,qM,qL,zab,zaa,hyx,hyy]
  apply hK;clear hK K
  refine W.ret ?_
  refine XThen.ret ?_
  refine Br rfl ?_
  rw [show zg2 ws ht (.leaf (zao p t.r t.c))=put (put [] x y) y x by unfold zg2 zto pareto CT.fold; rw [hz0,zgc hyx,zgc hyy]; rfl]
  rfl
 skip
 have h0:z57 (sub p t)=false:=h0
 rw [znx hg hi]at h0
 refine W.skip ?_
 refine xn ?_
 refine W.r fun K hK=>?_
 rcases hq:zdn (zao p) t with _ | ⟨_ | _,k⟩
 ·skip
  exfalso; rw [zi5 hi h0 hq]at hx; cases hx
 ·skip
  rw [hq]at hcq
  simp only[qF,if_false]at hcq
  obtain ⟨i1,i2,a1,a2⟩:=hi.cut hq
  have hck:=zeb hq
  simp only[qF,if_false]at hck
  obtain ⟨w1,w2⟩:=hw.cut (zid hp) hq
  rcases zmj (zct (zao p) (t.one (false,k))) (zct (zao p) (t.two (false,k))) with hx1 | ⟨x1,hx1,hx2⟩ | ⟨x1,x2,hx1,hx2⟩
  ·exfalso; rw [zdr hi h0 hq,hx1]at hx; cases hx
  ·exfalso; rw [zdr hi h0 hq,hx1,hx2]at hx; cases hx
  rw [zdr hi h0 hq,hx1,hx2]at hx
  cases hx
  have b1:=zc0 hp hnw hnh hlw hlh w1 hx1
  have b2:=zc0 hp hnw hnh hlw hlh w2 hx2
  simp(disch:=omega)only[↓RU,RV,RH,↓reduceIte,qE,reduceCtorEq,if_pos,qN,↓RS,RG,qA,qM,qL,hcq]
  refine zag.pc (zkq hs2 hg2) rfl (.inl rfl) ?_
  simp(disch:=omega)only[↓RU,RV,RH,↓reduceIte,qE,reduceCtorEq,if_pos,qN,↓RS,RG,qA,qM,qL,hcq]
  apply hK;clear hK K
  refine W.r fun K hK=>?_
  have hP:=zo7 hs2 hg2 (k:=k) (by rw [hh2]; omega)
  rw [ztc (q:=(false,k)) (by simp; omega),ztd (q:=(false,k)) (by simp; omega)]at hP
  simp(disch:=omega)only[↓RU,RV,RH,↓reduceIte,qE,reduceCtorEq,if_pos,qN,↓RS,RG,qA,qM,qL]
  refine zag.pc (hP) rfl (.inl rfl) ?_
  simp(disch:=omega)only[↓RU,RV,RH,↓reduceIte,qE,reduceCtorEq,if_pos,qN,↓RS,RG,qA,qM,qL]
  apply hK;clear hK K
  refine W.r fun K hK=>?_
  simp(disch:=omega)only[↓RU,RV,RH,↓reduceIte,qE,reduceCtorEq,if_pos,qN,↓RS,RG,qA,qM,qL]
  refine zag.pc (ih (t.one (false,k)) _ w1 a1 hx1) rfl (.inr rfl) ?_
  simp(disch:=omega)only[↓RU,RV,RH,↓reduceIte,qE,reduceCtorEq,if_pos,qN,↓RS,RG,qA,qM,qL]
  apply hK;clear hK K
  refine W.r fun K hK=>?_
  simp(disch:=omega)only[↓RU,RV,RH,↓reduceIte,qE,reduceCtorEq,if_pos,qN,↓RS,RG,qA,qM,qL]
  refine zag.pc (ih (t.two (false,k)) _ w2 a2 hx2) rfl (.inr rfl) ?_
  simp(disch:=omega)only[↓RU,RV,RH,↓reduceIte,qE,reduceCtorEq,if_pos,qN,↓RS,RG,qA,qM,qL]
  apply hK;clear hK K
  obtain ⟨hbX,hlX,-⟩:=b1
  obtain ⟨hbY,hlY,-⟩:=b2
  rw [show zg2 ws ht (.node false x1 x2)=pareto (prods false (zg2 ws ht x1) (zg2 ws ht x2)) from rfl]
  generalize zg2 ws ht x1=X at hbX hlX ⊢
  generalize zg2 ws ht x2=Y at hbY hlY ⊢
  refine W.seq ?_
  refine W.r fun K hK=>?_
  simp(disch:=omega)only[↓RU,RV,RH,↓reduceIte,qE,reduceCtorEq,if_pos,↓RS,RG,qA,qM,qL]
  apply hK;clear hK K
  refine W.block ?_
  refine W.loop [7,9,13,14,15] (fun n vs S=>∃ i:Nat,n=X.length - i∧i≤X.length∧vs=[zdu (pareto (prods false (X.take i) Y)),.int .i64 0,zdu X,zdu Y,.int .i64 i]∧S=⟨[],tk⟩) (X.length) ?_ ?_
  ·refine ⟨0,0,rfl,Nat.zero_le _,?_,rfl⟩
   simp [Env.put,Env.of,prods,pareto]
  rintro n vs S - ⟨i,rfl,h_i,rfl,rfl⟩
  refine W.seq ?_
  refine W.r fun K hK=>?_
  simp(disch:=omega)only[↓RU,RV,RH,↓reduceIte,qE,reduceCtorEq,if_pos,w64,↓RS,RG,qA,qM,qL,ty0,zab,zaa]
  apply hK;clear hK K
  refine W.cond rfl (fun h1=>?_) (fun h1=>?_)
  ·try simp only[RL]at h1
   obtain ⟨a,hx,hxm⟩:=zaf (show i<X.length by omega)
   have hba:=hbX a hxm
   have hxr:=zgj hx
   have hrX:=zcm (l:=X)
   have hrY:=zcm (l:=Y)
   refine W.skip ?_
   refine xn ?_
   refine W.seq ?_
   refine W.block ?_
   refine W.r fun K hK=>?_
   simp(disch:=omega)only[↓RU,RV,RH,↓reduceIte,qE,reduceCtorEq,if_pos,↓RS,RG,qA,qM,qL]
   apply hK;clear hK K
   refine W.block ?_
   refine W.loop [7,9,13,14,15,16] (fun n vs S=>∃ j:Nat,n=Y.length - j∧j≤Y.length∧vs=[zdu (pareto (prods false (X.take i) Y++zeo false a (Y.take j))),.int .i64 0,zdu X,zdu Y,.int .i64 i,.int .i64 j]∧S=⟨[],tk⟩) (Y.length) ?_ ?_
   ·refine ⟨0,0,rfl,Nat.zero_le _,?_,rfl⟩
    simp [Env.put,Env.of,zeo]
   rintro n vs S - ⟨j,rfl,h_j,rfl,rfl⟩
   refine W.seq ?_
   refine W.r fun K hK=>?_
   simp(disch:=omega)only[↓RU,RV,RH,↓reduceIte,qE,reduceCtorEq,if_pos,w64,↓RS,RG,qA,qM,qL,ty0,zab,zaa]
   apply hK;clear hK K
   refine W.cond rfl (fun h2=>?_) (fun h2=>?_)
   ·try simp only[RL]at h2
    obtain ⟨b,hy,hym⟩:=zaf (show j<Y.length by omega)
    have hbb:=hbY b hym
    have hyr:=zgj hy
    refine W.skip ?_
    refine xn ?_
    refine W.seq ?_
    refine W.block ?_
    refine W.r fun K hK=>?_
    simp(disch:=omega)only[↓RU,RV,RH,↓reduceIte,qE,reduceCtorEq,if_pos,w64,↓RS,RG,qA,qM,qL,zaa]
    apply hK;clear hK K
    refine W.cond rfl (fun h3=>?_) (fun h3=>?_)
    ·try simp only[RL]at h3
     refine W.drawE_k (by kernel_rfl) fun K hK=>?_
     simp(disch:=omega)only[↓RU,RV,RH,↓reduceIte,qE,reduceCtorEq,if_pos,w64,zex,qN,↓RS,RG,qA,qM,qL,ty0,zab,zaa,Int.toNat_zero,Nat.zero_mul,qZ,qM,Nat.zero_add,Nat.mul_one,hxr,hyr,hrX,hrY]
     refine zag.pc (znv (l:=pareto (prods false (X.take i) Y++zeo false a (Y.take j))) (zt1 hbX hbY hx) _ _) rfl (.inr rfl) ?_
     simp(disch:=omega)only[↓RU,RV,RH,↓reduceIte,qE,reduceCtorEq,if_pos,w64,zex,qN,↓RS,RG,qA,qM,qL,ty0,zab,zaa,Int.toNat_zero,Nat.zero_mul,qZ,qM,Nat.zero_add,Nat.mul_one,hxr,hyr,hrX,hrY]
     apply hK;clear hK K
     refine XbN ?_
     refine xn ?_
     refine W.k fun K hK=>?_
     simp(disch:=omega)only[↓RU,RV,RH,↓reduceIte,qE,reduceCtorEq,if_pos,w64,↓RS,RG,qA,qM,qL,zaa]
     apply hK;clear hK K
     refine xn ?_
     refine ⟨Y.length - (j+1),by omega,0,j+1,rfl,by omega,?_,rfl⟩
     rw [show (prods false (X.take i) Y++zeo false a (Y.take (j+1)))=(prods false (X.take i) Y++zeo false a (Y.take j))++[(a.1+b.1,max a.2 b.2)] by rw [zl8 hy,List.append_assoc]; rfl,zph]
     simp [Env.put,Env.of]
    try simp only[RL]at h3
    exact absurd h3 (by simp)
   try simp only[RL]at h2
   obtain rfl:j=Y.length:=by omega
   rw [List.take_length]
   refine W.exit ?_
   refine xe ?_
   refine xe ?_
   refine XBlock.hit ?_
   refine XbN ?_
   refine xn ?_
   refine W.k fun K hK=>?_
   simp(disch:=omega)only[↓RU,RV,RH,↓reduceIte,qE,reduceCtorEq,if_pos,w64,↓RS,RG,qA,qM,qL,zaa]
   apply hK;clear hK K
   refine xn ?_
   refine ⟨X.length - (i+1),by omega,0,i+1,rfl,by omega,?_,rfl⟩
   rw [zl9 hx]
   simp [Env.put,Env.of]
  try simp only[RL]at h1
  obtain rfl:i=X.length:=by omega
  rw [List.take_length]
  refine W.exit ?_
  refine xe ?_
  refine xe ?_
  refine XBlock.hit ?_
  refine xn ?_
  refine W.r fun K hK=>?_
  simp(disch:=omega)only[↓RU,RV,RH,↓reduceIte,qE,reduceCtorEq,if_pos,↓RS,RG,qA,qM,qL]
  apply hK;clear hK K
  refine W.ret ?_
  refine Br rfl ?_
  rfl
 skip
 rw [hq]at hcq
 simp only[if_true]at hcq
 obtain ⟨i1,i2,a1,a2⟩:=hi.cut hq
 have hck:=zeb hq
 simp only[if_true]at hck
 obtain ⟨w1,w2⟩:=hw.cut (zid hp) hq
 rcases zmj (zct (zao p) (t.one (true,k))) (zct (zao p) (t.two (true,k))) with hx1 | ⟨x1,hx1,hx2⟩ | ⟨x1,x2,hx1,hx2⟩
 ·exfalso; rw [zdr hi h0 hq,hx1]at hx; cases hx
 ·exfalso; rw [zdr hi h0 hq,hx1,hx2]at hx; cases hx
 rw [zdr hi h0 hq,hx1,hx2]at hx
 cases hx
 have b1:=zc0 hp hnw hnh hlw hlh w1 hx1
 have b2:=zc0 hp hnw hnh hlw hlh w2 hx2
 simp(disch:=omega)only[↓RU,RV,RH,↓reduceIte,qE,reduceCtorEq,if_pos,qN,↓RS,RG,qA,qM,qL,hcq]
 refine zag.pc (zkq hs2 hg2) rfl (.inl rfl) ?_
 simp(disch:=omega)only[↓RU,RV,RH,↓reduceIte,qE,reduceCtorEq,if_pos,qN,↓RS,RG,qA,qM,qL,hcq]
 apply hK;clear hK K
 refine W.r fun K hK=>?_
 have hP:=zo6 hs2 hg2 (k:=k) (by rw [hl2]; omega)
 rw [ztc (q:=(true,k)) (by simp; omega),ztd (q:=(true,k)) (by simp; omega)]at hP
 simp(disch:=omega)only[↓RU,RV,RH,↓reduceIte,qE,reduceCtorEq,if_pos,qN,↓RS,RG,qA,qM,qL]
 refine zag.pc (hP) rfl (.inl rfl) ?_
 simp(disch:=omega)only[↓RU,RV,RH,↓reduceIte,qE,reduceCtorEq,if_pos,qN,↓RS,RG,qA,qM,qL]
 apply hK;clear hK K
 refine W.r fun K hK=>?_
 simp(disch:=omega)only[↓RU,RV,RH,↓reduceIte,qE,reduceCtorEq,if_pos,qN,↓RS,RG,qA,qM,qL]
 refine zag.pc (ih (t.one (true,k)) _ w1 a1 hx1) rfl (.inr rfl) ?_
 simp(disch:=omega)only[↓RU,RV,RH,↓reduceIte,qE,reduceCtorEq,if_pos,qN,↓RS,RG,qA,qM,qL]
 apply hK;clear hK K
 refine W.r fun K hK=>?_
 simp(disch:=omega)only[↓RU,RV,RH,↓reduceIte,qE,reduceCtorEq,if_pos,qN,↓RS,RG,qA,qM,qL]
 refine zag.pc (ih (t.two (true,k)) _ w2 a2 hx2) rfl (.inr rfl) ?_
 simp(disch:=omega)only[↓RU,RV,RH,↓reduceIte,qE,reduceCtorEq,if_pos,qN,↓RS,RG,qA,qM,qL]
 apply hK;clear hK K
 obtain ⟨hbX,hlX,-⟩:=b1
 obtain ⟨hbY,hlY,-⟩:=b2
 rw [show zg2 ws ht (.node true x1 x2)=pareto (prods true (zg2 ws ht x1) (zg2 ws ht x2)) from rfl]
 generalize zg2 ws ht x1=X at hbX hlX ⊢
 generalize zg2 ws ht x2=Y at hbY hlY ⊢
 refine W.seq ?_
 refine W.r fun K hK=>?_
 simp(disch:=omega)only[↓RU,RV,RH,↓reduceIte,qE,reduceCtorEq,if_pos,↓RS,RG,qA,qM,qL]
 apply hK;clear hK K
 refine W.block ?_
 refine W.loop [7,9,13,14,15] (fun n vs S=>∃ i:Nat,n=X.length - i∧i≤X.length∧vs=[zdu (pareto (prods true (X.take i) Y)),.int .i64 1,zdu X,zdu Y,.int .i64 i]∧S=⟨[],tk⟩) (X.length) ?_ ?_
 ·refine ⟨0,0,rfl,Nat.zero_le _,?_,rfl⟩
  simp [Env.put,Env.of,prods,pareto]
 rintro n vs S - ⟨i,rfl,h_i,rfl,rfl⟩
 refine W.seq ?_
 refine W.r fun K hK=>?_
 simp(disch:=omega)only[↓RU,RV,RH,↓reduceIte,qE,reduceCtorEq,if_pos,w64,↓RS,RG,qA,qM,qL,ty0,zab,zaa]
 apply hK;clear hK K
 refine W.cond rfl (fun h1=>?_) (fun h1=>?_)
 ·try simp only[RL]at h1
  obtain ⟨a,hx,hxm⟩:=zaf (show i<X.length by omega)
  have hba:=hbX a hxm
  have hxr:=zgj hx
  have hrX:=zcm (l:=X)
  have hrY:=zcm (l:=Y)
  refine W.skip ?_
  refine xn ?_
  refine W.seq ?_
  refine W.block ?_
  refine W.r fun K hK=>?_
  simp(disch:=omega)only[↓RU,RV,RH,↓reduceIte,qE,reduceCtorEq,if_pos,↓RS,RG,qA,qM,qL]
  apply hK;clear hK K
  refine W.block ?_
  refine W.loop [7,9,13,14,15,16] (fun n vs S=>∃ j:Nat,n=Y.length - j∧j≤Y.length∧vs=[zdu (pareto (prods true (X.take i) Y++zeo true a (Y.take j))),.int .i64 1,zdu X,zdu Y,.int .i64 i,.int .i64 j]∧S=⟨[],tk⟩) (Y.length) ?_ ?_
  ·refine ⟨0,0,rfl,Nat.zero_le _,?_,rfl⟩
   simp [Env.put,Env.of,zeo]
  rintro n vs S - ⟨j,rfl,h_j,rfl,rfl⟩
  refine W.seq ?_
  refine W.r fun K hK=>?_
  simp(disch:=omega)only[↓RU,RV,RH,↓reduceIte,qE,reduceCtorEq,if_pos,w64,↓RS,RG,qA,qM,qL,ty0,zab,zaa]
  apply hK;clear hK K
  refine W.cond rfl (fun h2=>?_) (fun h2=>?_)
  ·try simp only[RL]at h2
   obtain ⟨b,hy,hym⟩:=zaf (show j<Y.length by omega)
   have hbb:=hbY b hym
   have hyr:=zgj hy
   refine W.skip ?_
   refine xn ?_
   refine W.seq ?_
   refine W.block ?_
   refine W.r fun K hK=>?_
   simp(disch:=omega)only[↓RU,RV,RH,↓reduceIte,qE,reduceCtorEq,if_pos,w64,↓RS,RG,qA,qM,qL,zaa]
   apply hK;clear hK K
   refine W.cond rfl (fun h3=>?_) (fun h3=>?_)
   ·try simp only[RL]at h3
    exact absurd h3 (by simp)
   try simp only[RL]at h3
   refine W.drawE_k (by kernel_rfl) fun K hK=>?_
   simp(disch:=omega)only[↓RU,RV,RH,↓reduceIte,qE,reduceCtorEq,if_pos,zex,w64,qN,↓RS,RG,qA,qM,qL,ty0,zab,zaa,Int.toNat_zero,Nat.zero_mul,qZ,qM,Nat.zero_add,Nat.mul_one,hxr,hyr,hrX,hrY]
   refine zag.pc (znv (l:=pareto (prods true (X.take i) Y++zeo true a (Y.take j))) (zt1 hbX hbY hx) _ _) rfl (.inr rfl) ?_
   simp(disch:=omega)only[↓RU,RV,RH,↓reduceIte,qE,reduceCtorEq,if_pos,zex,w64,qN,↓RS,RG,qA,qM,qL,ty0,zab,zaa,Int.toNat_zero,Nat.zero_mul,qZ,qM,Nat.zero_add,Nat.mul_one,hxr,hyr,hrX,hrY]
   apply hK;clear hK K
   refine XbN ?_
   refine xn ?_
   refine W.k fun K hK=>?_
   simp(disch:=omega)only[↓RU,RV,RH,↓reduceIte,qE,reduceCtorEq,if_pos,w64,↓RS,RG,qA,qM,qL,zaa]
   apply hK;clear hK K
   refine xn ?_
   refine ⟨Y.length - (j+1),by omega,0,j+1,rfl,by omega,?_,rfl⟩
   rw [show (prods true (X.take i) Y++zeo true a (Y.take (j+1)))=(prods true (X.take i) Y++zeo true a (Y.take j))++[(max a.1 b.1,a.2+b.2)] by rw [zl8 hy,List.append_assoc]; rfl,zph]
   simp [Env.put,Env.of]
  try simp only[RL]at h2
  obtain rfl:j=Y.length:=by omega
  rw [List.take_length]
  refine W.exit ?_
  refine xe ?_
  refine xe ?_
  refine XBlock.hit ?_
  refine XbN ?_
  refine xn ?_
  refine W.k fun K hK=>?_
  simp(disch:=omega)only[↓RU,RV,RH,↓reduceIte,qE,reduceCtorEq,if_pos,w64,↓RS,RG,qA,qM,qL,zaa]
  apply hK;clear hK K
  refine xn ?_
  refine ⟨X.length - (i+1),by omega,0,i+1,rfl,by omega,?_,rfl⟩
  rw [zl9 hx]
  simp [Env.put,Env.of]
 try simp only[RL]at h1
 obtain rfl:i=X.length:=by omega
 rw [List.take_length]
 refine W.exit ?_
 refine xe ?_
 refine xe ?_
 refine XBlock.hit ?_
 refine xn ?_
 refine W.r fun K hK=>?_
 simp(disch:=omega)only[↓RU,RV,RH,↓reduceIte,qE,reduceCtorEq,if_pos,↓RS,RG,qA,qM,qL]
 apply hK;clear hK K
 refine W.ret ?_
 refine Br rfl ?_
 rfl
theorem zup {p:List Txt} (hp:zcz p=true) {ws ht:List Int} (hnw:zht ws) (hnh:zht ht) (hlw:ws.length=(rP p).length) (hlh:ht.length=(rP p).length):∀ (n:Nat) {t:Pt} {x:CT},t.h*t.w≤n→Whole (zao p) p.length (zax p).length t→zct (zao p) t=some x→PC Tryz.prog 56 [za1 (sub p t),eInts ws,eInts ht] (zdu (zg2 ws ht x)) false
 | 0,t,x,hn',hw,_=>by have:=Nat.mul_pos hw.inn.1 hw.inn.2.1; omega
 | n+1,t,x,hn',hw,hx=>z3b hp hnw hnh hlw hlh hw hx fun t' x' hw' ha hx'=>zup hp hnw hnh hlw hlh n (by omega) hw' hx'
theorem zla {p:List Txt} (hs:Sm p) {ws ht:List Int} (hw:ws.length≤1048576) (hh:ht.length≤1048576):PC Tryz.prog 17 [za1 p,eInts ws,eInts ht] (.tup [zdu (bcV p ws ht),.bool (bcB p ws ht)]) false:=by
 refine PC.of ⟨Tryz.func17,by kernel_rfl,rfl,by kernel_rfl⟩ za4 mixed (by show 3≤Tryz.f17.ntmps; decide) ?_
 refine W.r fun K hK=>?_
 simp(disch:=omega)only[↓RU,RV,RH,↓reduceIte,qE,reduceCtorEq,if_pos,↓RS,RG,qA,qM,qL]
 apply hK;clear hK K
 refine W.seq ?_
 refine W.r fun K hK=>?_
 rcases hgc:(zm4 p ws ht,z8i p) with ⟨_ | _,_ | _⟩
 ·skip
  simp only[Prod.mk.injEq]at hgc
  obtain ⟨hgg,hcc⟩:=hgc
  simp(disch:=omega)only[↓RU,RV,RH,↓reduceIte,qE,reduceCtorEq,if_pos,qN,↓RS,RG,qA,qM,qL,hgg,hcc]
  refine zag.pc (ziw hs hw hh) rfl (.inl rfl) ?_
  simp(disch:=omega)only[↓RU,RV,RH,↓reduceIte,qE,reduceCtorEq,if_pos,qN,↓RS,RG,qA,qM,qL,hgg,hcc]
  apply hK;clear hK K
  refine W.cond rfl (fun h0=>?_) (fun h0=>?_)
  ·try simp only[RL]at h0
   refine W.r fun K hK=>?_
   simp(disch:=omega)only[↓RU,RV,RH,↓reduceIte,qE,reduceCtorEq,if_pos,↓RS,RG,qA,qM,qL,ty0,zab,zaa]
   apply hK;clear hK K
   refine W.ret ?_
   refine XThen.ret ?_
   refine Br rfl ?_
   have hb:bcB p ws ht=false:=by unfold bcB; rw [← zns,hgg]; rfl
   rw [zmq hb,hb]
   rfl
  try simp only[RL]at h0
  exact absurd h0 (by simp)
 ·skip
  simp only[Prod.mk.injEq]at hgc
  obtain ⟨hgg,hcc⟩:=hgc
  simp(disch:=omega)only[↓RU,RV,RH,↓reduceIte,qE,reduceCtorEq,if_pos,qN,↓RS,RG,qA,qM,qL,hgg,hcc]
  refine zag.pc (ziw hs hw hh) rfl (.inl rfl) ?_
  simp(disch:=omega)only[↓RU,RV,RH,↓reduceIte,qE,reduceCtorEq,if_pos,qN,↓RS,RG,qA,qM,qL,hgg,hcc]
  apply hK;clear hK K
  refine W.cond rfl (fun h0=>?_) (fun h0=>?_)
  ·try simp only[RL]at h0
   refine W.r fun K hK=>?_
   simp(disch:=omega)only[↓RU,RV,RH,↓reduceIte,qE,reduceCtorEq,if_pos,↓RS,RG,qA,qM,qL,ty0,zab,zaa]
   apply hK;clear hK K
   refine W.ret ?_
   refine XThen.ret ?_
   refine Br rfl ?_
   have hb:bcB p ws ht=false:=by unfold bcB; rw [← zns,hgg]; rfl
   rw [zmq hb,hb]
   rfl
  try simp only[RL]at h0
  exact absurd h0 (by simp)
 ·skip
  simp only[Prod.mk.injEq]at hgc
  obtain ⟨hgg,hcc⟩:=hgc
  simp(disch:=omega)only[↓RU,RV,RH,↓reduceIte,qE,reduceCtorEq,if_pos,qN,↓RS,RG,qA,qM,qL,hgg,hcc]
  refine zag.pc (ziw hs hw hh) rfl (.inl rfl) ?_
  simp(disch:=omega)only[↓RU,RV,RH,↓reduceIte,qE,reduceCtorEq,if_pos,qN,↓RS,RG,qA,qM,qL,hgg,hcc]
  refine zag.pc (zv2 hs) rfl (.inl rfl) ?_
  simp(disch:=omega)only[↓RU,RV,RH,↓reduceIte,qE,reduceCtorEq,if_pos,qN,↓RS,RG,qA,qM,qL,hgg,hcc]
  apply hK;clear hK K
  refine W.cond rfl (fun h0=>?_) (fun h0=>?_)
  ·try simp only[RL]at h0
   refine W.r fun K hK=>?_
   simp(disch:=omega)only[↓RU,RV,RH,↓reduceIte,qE,reduceCtorEq,if_pos,↓RS,RG,qA,qM,qL,ty0,zab,zaa]
   apply hK;clear hK K
   refine W.ret ?_
   refine XThen.ret ?_
   refine Br rfl ?_
   have hv:zde p ws ht=true:=by rw [← zns]; exact hgg
   obtain ⟨hp,-⟩:=zd9 hv
   simp only[z8i,hp,Bool.true_and]at hcc
   have hb:bcB p ws ht=false:=by unfold bcB; rw [hv,hcc]; rfl
   rw [zmq hb,hb]
   rfl
  try simp only[RL]at h0
  exact absurd h0 (by simp)
 skip
 simp only[Prod.mk.injEq]at hgc
 obtain ⟨hgg,hcc⟩:=hgc
 simp(disch:=omega)only[↓RU,RV,RH,↓reduceIte,qE,reduceCtorEq,if_pos,qN,↓RS,RG,qA,qM,qL,hgg,hcc]
 refine zag.pc (ziw hs hw hh) rfl (.inl rfl) ?_
 simp(disch:=omega)only[↓RU,RV,RH,↓reduceIte,qE,reduceCtorEq,if_pos,qN,↓RS,RG,qA,qM,qL,hgg,hcc]
 refine zag.pc (zv2 hs) rfl (.inl rfl) ?_
 simp(disch:=omega)only[↓RU,RV,RH,↓reduceIte,qE,reduceCtorEq,if_pos,qN,↓RS,RG,qA,qM,qL,hgg,hcc]
 apply hK;clear hK K
 refine W.cond rfl (fun h0=>?_) (fun h0=>?_)
 ·try simp only[RL]at h0
  exact absurd h0 (by simp)
 try simp only[RL]at h0
 have hv:zde p ws ht=true:=by rw [← zns]; exact hgg
 obtain ⟨hp,g2,g3,g4,g5,-⟩:=zd9 hv
 simp only[z8i,hp,Bool.true_and]at hcc
 obtain ⟨x,hx⟩:=Option.isSome_iff_exists.1 hcc
 have hT:=zup hp g2 g3 g4 g5 _ (qR _) (zfi hp) hx
 rw [show (⟨0,0,p.length,(zax p).length⟩:Pt)=zd7 p from rfl,z5m (zec hp)]at hT
 refine W.skip ?_
 refine xn ?_
 refine W.r fun K hK=>?_
 simp(disch:=omega)only[↓RU,RV,RH,↓reduceIte,qE,reduceCtorEq,if_pos,qN,↓RS,RG,qA,qM,qL]
 refine zag.pc (hT) rfl (.inr rfl) ?_
 simp(disch:=omega)only[↓RU,RV,RH,↓reduceIte,qE,reduceCtorEq,if_pos,qN,↓RS,RG,qA,qM,qL]
 apply hK;clear hK K
 refine W.ret ?_
 refine Br rfl ?_
 rw [show bcB p ws ht=true by unfold bcB; rw [hv,Bool.true_and]; exact hcc,show bcV p ws ht=zg2 ws ht x by unfold bcV; rw [hv,if_pos rfl]; simp only[show zct (zao p) (zd7 p)=some x from hx]]
 rfl
end Fw
end Go.Proofs.YtjobkanbijpfgaaGreat
