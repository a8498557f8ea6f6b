/- Parts of the framework and of the proof: Plans that are cuttable, by the orders of their rooms; so by their permutations; Permutations of plain plans are fair; Loose permutations are those that fall apart; Cuts in the specification, gone through; Texts along cuts and widths along cuts in the specification, gone through; Fair and loose permutations of plain plans, as the program asks; Terms: signs moved inwards; permutations of terms; Plans of terms; The framework, part z: a region in which the bytes of a text become a new row that is written later; Drawing: the reader, gone through; Terms: the reader of the program, gone through; Plans that are cut, in plain words; Plans of terms by the specification: its texts are those of the grids; Plans of two plans by the program, gone through; Plans of terms by the program, gone through; Plans cut in two, gone through; Drawing plans, gone through; Drawing plans, gone through, continued; Drawing needs, gone through; Parts of plans in the program: rooms, lines, gone through; The framework, part ha: loops over functions: yield's contract out of the body's walk, and the statement; The framework, part hb: a region in which two variables are made, either of them ahead of the other; The cuts of a part, and the first one, gone through; Wider plans in the specification; draws of two plans, gone through; Terms by the specification, gone through; Plans turned, seen from behind and put beside each other by the specification, gone through; Plans of terms by the specification, gone through; slices.Grow of nil, in the model's own words; Terms tidied and their permutations by the program, gone through. -/
import Derived.Test.YtcfgpmeebpinaaaGreatJ3
import Derived.Test.YtcfgpmeebpinaaaGreatJ1
import Derived.Lib.ConvBytes
import Derived.Test.YtcfgpmeebpinaaaGreatJ2
import Derived.Lib.AppendZeros
set_option linter.all false
namespace Go.Proofs.YtcfgpmeebpinaaaGreat
namespace Fw
open Go
open Nat renaming reduceEqDiff → qE, reduceLeDiff → qL, reduceAdd → qA, reduceMul → qM, le_refl → qR
open List renaming append_nil → qN, mapM_append → qP, mapM_cons → qC, mapM_map → qU, range_succ → qS, take_of_length_le → qT
open Bool renaming and_eq_true → qB, false_eq_true → qF
open Option renaming map_some → qO, map_eq_some_iff → qI
open Int renaming reduceToNat → qZ
section
inductive Sp (L U:Nat→Nat→Prop):(Nat→Prop)→Prop
 | one {A:Nat→Prop} (a:Nat):A a→(∀ b,A b→b=a)→Sp L U A
 | left {A:Nat→Prop} (B:Nat→Prop):(∃ a,A a∧B a)→(∃ a,A a∧¬ B a)→(∀ a b,A a→B a→A b→¬ B b→L a b)→Sp L U (fun a=>A a∧B a)→Sp L U (fun a=>A a∧¬ B a)→Sp L U A
 | up {A:Nat→Prop} (B:Nat→Prop):(∃ a,A a∧B a)→(∃ a,A a∧¬ B a)→(∀ a b,A a→B a→A b→¬ B b→U a b)→Sp L U (fun a=>A a∧B a)→Sp L U (fun a=>A a∧¬ B a)→Sp L U A
theorem Sp.congr {L U:Nat→Nat→Prop} {A A':Nat→Prop} (h:Sp L U A) (e:∀ a,A a↔A' a):Sp L U A':=by
 have:A=A':=funext fun a=>propext (e a)
 rwa [← this]
theorem Sp.ne {L U:Nat→Nat→Prop} {A:Nat→Prop} (h:Sp L U A):∃ a,A a:=by
 cases h with
 | one a h _=>exact ⟨a,h⟩
 | left B h=>obtain ⟨a,h,_⟩:=h; exact ⟨a,h⟩
 | up B h=>obtain ⟨a,h,_⟩:=h; exact ⟨a,h⟩
theorem Sp.map {L U L' U':Nat→Nat→Prop} {A:Nat→Prop} (g:Nat→Nat) (h:Sp L U A):∀ {A':Nat→Prop},(∀ i,A' i→A (g i))→(∀ a,A a→∃ i,A' i∧g i=a)→(∀ i j,A' i→A' j→g i=g j→i=j) →
  (∀ i j,A' i→A' j→L (g i) (g j)→L' i j)→(∀ i j,A' i→A' j→U (g i) (g j)→U' i j)→Sp L' U' A':=by
 induction h with
 | one a ha hu =>
  intro A' h1 h2 h3 h4 h5
  obtain ⟨i,hi,e⟩:=h2 a ha
  exact .one i hi fun j hj=>h3 j i hj hi ((hu _ (h1 j hj)).trans e.symm)
 | left B hb hn hl _ _ i1 i2 =>
  intro A' h1 h2 h3 h4 h5
  refine .left (fun i=>B (g i)) ?_ ?_ (fun a b ha hba hb' hnb=>h4 a b ha hb' (hl _ _ (h1 a ha) hba (h1 b hb') hnb)) (i1 (fun i hi=>⟨h1 i hi.1,hi.2⟩) (fun a ha=>?_) (fun i j hi hj=>h3 i j hi.1 hj.1) (fun i j hi hj=>h4 i j hi.1 hj.1) fun i j hi hj=>h5 i j hi.1 hj.1)
   (i2 (fun i hi=>⟨h1 i hi.1,hi.2⟩) (fun a ha=>?_) (fun i j hi hj=>h3 i j hi.1 hj.1) (fun i j hi hj=>h4 i j hi.1 hj.1) fun i j hi hj=>h5 i j hi.1 hj.1)
  ·obtain ⟨a,ha,hb⟩:=hb; obtain ⟨i,hi,e⟩:=h2 a ha; exact ⟨i,hi,by rw [e]; exact hb⟩
  ·obtain ⟨a,ha,hb⟩:=hn; obtain ⟨i,hi,e⟩:=h2 a ha; exact ⟨i,hi,by rw [e]; exact hb⟩
  ·obtain ⟨i,hi,e⟩:=h2 a ha.1; exact ⟨i,⟨hi,by rw [e]; exact ha.2⟩,e⟩
  obtain ⟨i,hi,e⟩:=h2 a ha.1; exact ⟨i,⟨hi,by rw [e]; exact ha.2⟩,e⟩
 | up B hb hn hl _ _ i1 i2 =>
  intro A' h1 h2 h3 h4 h5
  refine .up (fun i=>B (g i)) ?_ ?_ (fun a b ha hba hb' hnb=>h5 a b ha hb' (hl _ _ (h1 a ha) hba (h1 b hb') hnb)) (i1 (fun i hi=>⟨h1 i hi.1,hi.2⟩) (fun a ha=>?_) (fun i j hi hj=>h3 i j hi.1 hj.1) (fun i j hi hj=>h4 i j hi.1 hj.1) fun i j hi hj=>h5 i j hi.1 hj.1)
   (i2 (fun i hi=>⟨h1 i hi.1,hi.2⟩) (fun a ha=>?_) (fun i j hi hj=>h3 i j hi.1 hj.1) (fun i j hi hj=>h4 i j hi.1 hj.1) fun i j hi hj=>h5 i j hi.1 hj.1)
  ·obtain ⟨a,ha,hb⟩:=hb; obtain ⟨i,hi,e⟩:=h2 a ha; exact ⟨i,hi,by rw [e]; exact hb⟩
  ·obtain ⟨a,ha,hb⟩:=hn; obtain ⟨i,hi,e⟩:=h2 a ha; exact ⟨i,hi,by rw [e]; exact hb⟩
  ·obtain ⟨i,hi,e⟩:=h2 a ha.1; exact ⟨i,⟨hi,by rw [e]; exact ha.2⟩,e⟩
  obtain ⟨i,hi,e⟩:=h2 a ha.1; exact ⟨i,⟨hi,by rw [e]; exact ha.2⟩,e⟩
theorem Sp.sub {L U:Nat→Nat→Prop} {A:Nat→Prop} (h:Sp L U A):∀ {A':Nat→Prop},(∀ a,A' a→A a)→(∃ a,A' a)→Sp L U A':=by
 induction h with
 | one a ha hu =>
  intro A' h1 ⟨b,hb⟩
  exact .one b hb fun d hd=>(hu d (h1 d hd)).trans (hu b (h1 b hb)).symm
 | left B _ _ hl _ _ i1 i2 =>
  intro A' h1 h2
  by_cases hb:∃ a,A' a∧B a
  ·by_cases hn:∃ a,A' a∧¬ B a
   ·exact .left B hb hn (fun a b ha hba hb' hnb=>hl a b (h1 a ha) hba (h1 b hb') hnb) (i1 (fun a ha=>⟨h1 a ha.1,ha.2⟩) hb) (i2 (fun a ha=>⟨h1 a ha.1,ha.2⟩) hn)
   exact i1 (fun a ha=>⟨h1 a ha,Classical.byContradiction fun h=>hn ⟨a,ha,h⟩⟩) h2
  exact i2 (fun a ha=>⟨h1 a ha,fun h=>hb ⟨a,ha,h⟩⟩) h2
 | up B _ _ hl _ _ i1 i2 =>
  intro A' h1 h2
  by_cases hb:∃ a,A' a∧B a
  ·by_cases hn:∃ a,A' a∧¬ B a
   ·exact .up B hb hn (fun a b ha hba hb' hnb=>hl a b (h1 a ha) hba (h1 b hb') hnb) (i1 (fun a ha=>⟨h1 a ha.1,ha.2⟩) hb) (i2 (fun a ha=>⟨h1 a ha.1,ha.2⟩) hn)
   exact i1 (fun a ha=>⟨h1 a ha,Classical.byContradiction fun h=>hn ⟨a,ha,h⟩⟩) h2
  exact i2 (fun a ha=>⟨h1 a ha,fun h=>hb ⟨a,ha,h⟩⟩) h2
section
variable {p:List Txt}
def Rms (p:List Txt) (t:Pt) (v:Nat):Prop:=∃ a c,t.r≤a∧a<t.r+t.h∧t.c≤c∧c<t.c+t.w∧zbb p a c=v
theorem yem (hp:zec p=true) {t:Pt} (h:t.In p.length (zag p).length) {v:Nat} (hv:Rms p t v):v<(rP p).length:=by
 obtain ⟨a,c,e1,e2,e3,e4,e5⟩:=hv
 unfold Pt.In at h
 have:=zfy hp (i:=a) (j:=c) (by omega) (by omega)
 omega
theorem zry (hp:zec p=true) {t:Pt} (hw:Whole (zbb p) p.length (zag p).length t) {x:CT} (hx:zfb (zbb p) t=some x) (v:Nat):(v:Int)∈x.leaves↔Rms p t v :=
 (zge (zju hp) _ hw (qR _) hx).2.1 v
theorem z5g (hp:zec p=true) {t:Pt} (hw:Whole (zbb p) p.length (zag p).length t) {q:Bool × Nat} (hq:zgf (zbb p) t=some q) (v:Nat) :
  (Rms p t v∧Rms p (t.one q) v↔Rms p (t.one q) v)∧(Rms p t v∧¬ Rms p (t.one q) v↔Rms p (t.two q) v):=by
 obtain ⟨w1,w2⟩:=hw.cut (zju hp) hq
 have i1:=w1.inn; have i2:=w2.inn; have i0:=hw.inn
 obtain ⟨k1,k2⟩:=zfu hq
 obtain ⟨lv,k⟩:=q
 have h1:Rms p (t.one (lv,k)) v→Rms p t v:=by
  rintro ⟨a,c,e1,e2,e3,e4,e5⟩
  refine ⟨a,c,?_⟩
  cases lv <;> simp only[Pt.one,qF,if_false,if_true] at * <;> exact ⟨by omega,by omega,by omega,by omega,e5⟩
 have h2:Rms p (t.two (lv,k)) v→Rms p t v∧¬ Rms p (t.one (lv,k)) v:=by
  rintro ⟨a,c,e1,e2,e3,e4,e5⟩
  refine ⟨⟨a,c,?_⟩,?_⟩
  ·cases lv <;> simp only[Pt.two,qF,if_false,if_true] at * <;> exact ⟨by omega,by omega,by omega,by omega,e5⟩
  rintro ⟨a',c',f1,f2,f3,f4,f5⟩
  unfold Pt.In at i1 i2
  have:=w1.all a' c' a c (by omega) (by omega) (by omega) (by omega) (f5.trans e5.symm) f1 f2 f3 f4
  cases lv <;> simp only[Pt.one,Pt.two,qF,if_false,if_true] at * <;> omega
 refine ⟨⟨fun h=>h.2,fun h=>⟨h1 h,h⟩⟩,⟨?_,h2⟩⟩
 rintro ⟨⟨a,c,e1,e2,e3,e4,e5⟩,hn⟩
 cases lv with
 | true =>
  simp only[Pt.one,Pt.two,if_true] at *
  rcases Nat.lt_or_ge a (t.r+k) with h | h
  ·exact absurd ⟨a,c,e1,h,e3,e4,e5⟩ hn
  exact ⟨a,c,h,by simp only; omega,e3,e4,e5⟩
 | false =>
  simp only[Pt.one,Pt.two,qF,if_false] at *
  rcases Nat.lt_or_ge c (t.c+k) with h | h
  ·exact absurd ⟨a,c,e1,e2,e3,h,e5⟩ hn
  exact ⟨a,c,e1,e2,h,by simp only; omega,e5⟩
theorem zxu (hp:zal p=true):∀ (n:Nat) {t:Pt} {x:CT},Whole (zbb p) p.length (zag p).length t→t.h*t.w≤n→zfb (zbb p) t=some x→Sp (Lf p) (Ab p) (Rms p t)
 | 0,t,x,hw,hn',_=>by have:=Nat.mul_pos hw.inn.1 hw.inn.2.1; omega
 | n+1,t,x,hw,hn',hx=>by
  have hpl:=zcb hp
  have hi:=hw.inn
  cases h1:zy7 (zbb p) t with
  | true =>
   have hl:=zry hpl hw (zlj hi h1)
   have hc:=zfy hpl (i:=t.r) (j:=t.c) (by unfold Pt.In at hi; omega) (by unfold Pt.In at hi; omega)
   refine .one (zbb p t.r t.c).toNat ((hl _).1 (by simp [CT.leaves]; omega)) fun b hb=>?_
   have:=(hl b).2 hb
   simp only[CT.leaves,List.mem_singleton]at this
   omega
  | false =>
   cases hq:zgf (zbb p) t with
   | none=>rw [zmd hi h1 hq]at hx; cases hx
   | some q =>
    obtain ⟨i1,i2,a1,a2⟩:=hi.cut hq
    obtain ⟨w1,w2⟩:=hw.cut (zju hpl) hq
    rw [zli hi h1 hq]at hx
    cases hx1:zfb (zbb p) (t.one q) with
    | none=>rw [hx1]at hx; cases hx
    | some x1 =>
     cases hx2:zfb (zbb p) (t.two q) with
     | none=>rw [hx1,hx2]at hx; cases hx
     | some x2 =>
      have s1:=zxu hp n w1 (by omega) hx1
      have s2:=zxu hp n w2 (by omega) hx2
      have hc:=z5g hpl hw hq
      have hs:=z25 hp hw hq hx1 hx2
      obtain ⟨b1,hb1⟩:=s1.ne
      obtain ⟨b2,hb2⟩:=s2.ne
      have e1:=s1.congr fun a=>((hc a).1).symm
      have e2:=s2.congr fun a=>((hc a).2).symm
      have key:∀ a b,Rms p t a→Rms p (t.one q) a→Rms p t b→¬ Rms p (t.one q) b→(q.1=false→Lf p a b)∧(q.1=true→Ab p a b):=by
       intro a b _ ha hb hnb
       have:=hs a b ((zry hpl w1 hx1 a).2 ha) ((zry hpl w2 hx2 b).2 (((hc b).2).1 ⟨hb,hnb⟩))
       simpa using this
      cases hlv:q.1 with
      | false=>exact .left (Rms p (t.one q)) ⟨b1,((hc b1).1).2 hb1⟩ ⟨b2,((hc b2).2).2 hb2⟩ (fun a b h1 h2 h3 h4=>(key a b h1 h2 h3 h4).1 hlv) e1 e2
      | true=>exact .up (Rms p (t.one q)) ⟨b1,((hc b1).1).2 hb1⟩ ⟨b2,((hc b2).2).2 hb2⟩ (fun a b h1 h2 h3 h4=>(key a b h1 h2 h3 h4).2 hlv) e1 e2
theorem zu2 (hp:zal p=true) {t:Pt} (hi:t.In p.length (zag p).length) {i j i' j':Nat} (h1:i<t.h) (h2:j<t.w) (h3:i'<t.h) (h4:j'<t.w) :
  (Lf p (zhz (cn (gP p)) t i j) (zhz (cn (gP p)) t i' j')→TC (DL (zhz (cn (gP p)) t) t.h t.w) (zhz (cn (gP p)) t i j) (zhz (cn (gP p)) t i' j')) ∧
  (Ab p (zhz (cn (gP p)) t i j) (zhz (cn (gP p)) t i' j')→TC (DU (zhz (cn (gP p)) t) t.h t.w) (zhz (cn (gP p)) t i j) (zhz (cn (gP p)) t i' j')):=by
 have hpl:=zcb hp
 have hP:=(zb4 hp).sub hi
 have hin:=hi
 unfold Pt.In at hin
 have hr:∀ i j,i<t.h→j<t.w→zhz (cn (gP p)) t i j<(rP p).length:=by
  intro i j hi' hj'
  have:=zfy hpl (i:=t.r+i) (j:=t.c+j) (by omega) (by omega)
  have:=zew hpl (i:=t.r+i) (j:=t.c+j) (by omega) (by omega)
  simp only[zhz]; omega
 have ha:=hr i j h1 h2
 have hb:=hr i' j' h3 h4
 have gl:∀ {a b:Nat},a<(rP p).length→b<(rP p).length→TC (DL (zhz (cn (gP p)) t) t.h t.w) a b→Lf p a b:=fun x y h=>(Lf.iff x y).2 (h.mono fun _ _=>DL.sub hi)
 have gu:∀ {a b:Nat},a<(rP p).length→b<(rP p).length→TC (DU (zhz (cn (gP p)) t) t.h t.w) a b→Ab p a b:=fun x y h=>(Ab.iff x y).2 (h.mono fun _ _=>DU.sub hi)
 constructor
 ·intro h
  have hne:zhz (cn (gP p)) t i j≠zhz (cn (gP p)) t i' j':=fun e=>(Lf.only hp ha hb h).1 (by rw [e]at h ⊢; exact h)
  rcases zhn hP h1 h2 h3 h4 hne with k | k | k | k
  ·exact k
  ·exact absurd (gl hb ha k) (Lf.only hp ha hb h).1
  ·exact absurd (gu ha hb k) (Lf.only hp ha hb h).2.1
  exact absurd (gu hb ha k) (Lf.only hp ha hb h).2.2
 intro h
 have hne:zhz (cn (gP p)) t i j≠zhz (cn (gP p)) t i' j':=fun e=>(Ab.only hp ha hb h).1 (by rw [e]at h ⊢; exact h)
 rcases zhn hP h1 h2 h3 h4 hne with k | k | k | k
 ·exact absurd (gl ha hb k) (Ab.only hp ha hb h).2.1
 ·exact absurd (gl hb ha k) (Ab.only hp ha hb h).2.2
 ·exact k
 exact absurd (gu hb ha k) (Ab.only hp ha hb h).1
theorem zxm (hp:zal p=true):∀ (n:Nat) {t:Pt},Whole (zbb p) p.length (zag p).length t→t.h*t.w≤n→Sp (Lf p) (Ab p) (Rms p t)→∃ x,zfb (zbb p) t=some x
 | 0,t,hw,hn',_=>by have:=Nat.mul_pos hw.inn.1 hw.inn.2.1; omega
 | n+1,t,hw,hn',hsp=>by
  have hpl:=zcb hp
  have hi:=hw.inn
  have hP:=(zb4 hp).sub hi
  have hin:=hi
  unfold Pt.In at hin
  have sc:∀ i j,i<t.h→j<t.w→(zhz (cn (gP p)) t i j:Int)=zbb p (t.r+i) (t.c+j):=fun i j a b=>zew hpl (by omega) (by omega)
  have srm:∀ i j,i<t.h→j<t.w→Rms p t (zhz (cn (gP p)) t i j):=fun i j a b=>⟨t.r+i,t.c+j,by omega,by omega,by omega,by omega,(sc i j a b).symm⟩
  have rsc:∀ v,Rms p t v→∃ i j,i<t.h∧j<t.w∧zhz (cn (gP p)) t i j=v:=by
   rintro v ⟨a,c,e1,e2,e3,e4,e5⟩
   refine ⟨a - t.r,c - t.c,by omega,by omega,?_⟩
   have:=sc (a - t.r) (c - t.c) (by omega) (by omega)
   rw [show t.r+(a - t.r)=a by omega,show t.c+(c - t.c)=c by omega]at this
   omega
  cases h1:zy7 (zbb p) t with
  | true=>exact ⟨_,zlj hi h1⟩
  | false =>
   have hcut:∃ q,zgf (zbb p) t=some q:=by
    cases hq:zgf (zbb p) t with
    | some q=>exact ⟨q,rfl⟩
    | none =>
     exfalso
     obtain ⟨nu,nl⟩:=z0r.1 hq
     have hno:¬ ∀ i j,i<t.h→j<t.w→zbb p (t.r+i) (t.c+j)=zbb p t.r t.c:=fun hc=>by rw [zy8.2 hc]at h1; cases h1
     cases hsp with
     | one a ha hu =>
      apply hno
      intro i j hi' hj'
      have e1:=hu _ (srm i j hi' hj')
      have e2:=hu _ (srm 0 0 (by omega) (by omega))
      have f1:=sc i j hi' hj'
      have f2:=sc 0 0 (by omega) (by omega)
      simp only[Nat.add_zero]at f2
      omega
     | left B hb hnb hl _ _ =>
      obtain ⟨a,ha,hba⟩:=hb
      obtain ⟨b,hb',hbb⟩:=hnb
      obtain ⟨i0,j0,g1,g2,rfl⟩:=rsc a ha
      obtain ⟨i1,j1,g3,g4,rfl⟩:=rsc b hb'
      obtain ⟨k,k1,k2,k3,_⟩:=zua hP (by omega) (P:=B) ⟨i0,j0,g1,g2,hba⟩ ⟨i1,j1,g3,g4,hbb⟩ fun i j i' j' q1 q2 q3 q4 q5 q6=>(zu2 hp hi q1 q2 q3 q4).1 (hl _ _ (srm i j q1 q2) q5 (srm i' j' q3 q4) q6)
      have:=nu k k1 k2
      rw [Bool.eq_false_iff,ne_eq,zxs]at this
      apply this
      intro i hi' e
      apply k3 i hi'
      have f1:=sc i (k - 1) hi' (by omega)
      have f2:=sc i k hi' k2
      rw [show t.c+(k - 1)=t.c+k - 1 by omega]at f1
      omega
     | up B hb hnb hl _ _ =>
      obtain ⟨a,ha,hba⟩:=hb
      obtain ⟨b,hb',hbb⟩:=hnb
      obtain ⟨i0,j0,g1,g2,rfl⟩:=rsc a ha
      obtain ⟨i1,j1,g3,g4,rfl⟩:=rsc b hb'
      obtain ⟨k,k1,k2,k3,_⟩:=zua hP.ex (by omega) (P:=B) ⟨j0,i0,g2,g1,hba⟩ ⟨j1,i1,g4,g3,hbb⟩ fun j i j' i' q2 q1 q4 q3 q5 q6=>(zu2 hp hi q1 q2 q3 q4).2 (hl _ _ (srm i j q1 q2) q5 (srm i' j' q3 q4) q6)
      have:=nl k k1 k2
      rw [Bool.eq_false_iff,ne_eq,zxr]at this
      apply this
      intro j hj' e
      apply k3 j hj'
      have f1:=sc (k - 1) j (by omega) hj'
      have f2:=sc k j k2 hj'
      rw [show t.r+(k - 1)=t.r+k - 1 by omega]at f1
      simp only[tr]
      omega
   obtain ⟨q,hq⟩:=hcut
   obtain ⟨i1,i2,a1,a2⟩:=hi.cut hq
   obtain ⟨w1,w2⟩:=hw.cut (zju hpl) hq
   have hc:=z5g hpl hw hq
   have n1:∃ a,Rms p (t.one q) a:=by
    unfold Pt.In at i1
    have:=zfy hpl (i:=(t.one q).r) (j:=(t.one q).c) (by omega) (by omega)
    exact ⟨(zbb p (t.one q).r (t.one q).c).toNat,(t.one q).r,(t.one q).c,by omega,by omega,by omega,by omega,by omega⟩
   have n2:∃ a,Rms p (t.two q) a:=by
    unfold Pt.In at i2
    have:=zfy hpl (i:=(t.two q).r) (j:=(t.two q).c) (by omega) (by omega)
    exact ⟨(zbb p (t.two q).r (t.two q).c).toNat,(t.two q).r,(t.two q).c,by omega,by omega,by omega,by omega,by omega⟩
   obtain ⟨x1,hx1⟩:=zxm hp n w1 (by omega) (hsp.sub (fun a ha=>(((hc a).1).2 ha).1) n1)
   obtain ⟨x2,hx2⟩:=zxm hp n w2 (by omega) (hsp.sub (fun a ha=>(((hc a).2).2 ha).1) n2)
   exact ⟨_,by rw [zli hi h1 hq,hx1,hx2]⟩
def PL (l:List Int) (i j:Nat):Prop:=i<j∧zdf l i<zdf l j
def PU (l:List Int) (i j:Nat):Prop:=j<i∧¬ zdf l j<zdf l i
theorem zgx (hp:zec p=true) (v:Nat):Rms p ⟨0,0,p.length,(zag p).length⟩ v↔v<(rP p).length:=by
 constructor
 ·exact yem hp (zv2 hp).inn
 intro hv
 obtain ⟨i,j,hi,hj,e⟩:=zbe hv
 have:=zew hp hi hj
 exact ⟨i,j,Nat.zero_le _,by simpa using hi,Nat.zero_le _,by simpa using hj,by omega⟩
theorem z69 (hp:zal p=true):(∃ x,zfb (zbb p) ⟨0,0,p.length,(zag p).length⟩=some x)↔Sp (PL (zci p)) (PU (zci p)) (· < (zci p).length):=by
 have hpl:=zcb hp
 have hw:=zv2 hpl
 have hn:(zci p).length=(rP p).length:=zbv
 have hx:∀ i,i<(rP p).length→zdf (zci p) i=xI p i:=fun i hi=>zdc (ye9 hp hi)
 have step:Sp (Lf p) (Ab p) (Rms p ⟨0,0,p.length,(zag p).length⟩)↔Sp (PL (zci p)) (PU (zci p)) (· < (zci p).length):=by
  constructor
  ·intro h
   refine h.map (zv7 p) (fun i hi=>(zgx hpl _).2 (ze4 hp (by omega)).1) (fun a ha=>?_) (fun i j hi hj e=>?_) (fun i j hi hj hl=>?_) fun i j hi hj hl=>?_
   ·have ha:=(zgx hpl a).1 ha
    exact ⟨ahK p true a,by rw [hn]; exact zcs hp ha,zjz hp ha⟩
   ·have h1:=(ze4 hp (i:=i) (by omega)).2.1
    have h2:=(ze4 hp (i:=j) (by omega)).2.1
    rw [e]at h1; omega
   ·have h1:=ze4 hp (i:=i) (by omega)
    have:=z38 hp h1.1 (i:=j) (by omega) hl
    rw [h1.2.1]at this
    unfold PL
    rw [hx i (by omega),hx j (by omega)]; exact this
   have h1:=ze4 hp (i:=j) (by omega)
   have:=z2j hp h1.1 (i:=i) (by omega) hl
   rw [h1.2.1]at this
   unfold PU
   rw [hx i (by omega),hx j (by omega)]; exact this
  intro h
  refine h.map (ahK p true) (fun a ha=>by rw [hn]; exact zcs hp ((zgx hpl a).1 ha)) (fun i hi=>?_) (fun a b ha hb e=>zev hp ((zgx hpl a).1 ha) ((zgx hpl b).1 hb) e) (fun a b ha hb hl=>?_) fun a b ha hb hl=>?_
  ·have h1:=ze4 hp (i:=i) (by omega)
   exact ⟨zv7 p i,(zgx hpl _).2 h1.1,h1.2.1⟩
  ·have ha:=(zgx hpl a).1 ha
   have hb:=(zgx hpl b).1 hb
   obtain ⟨h1,h2⟩:=hl
   have l2:=zcs (below:=true) hp hb
   rw [hx _ (by omega),hx _ l2]at h2
   have:=(x_lt hp h1 l2).1 h2
   rw [zjz hp ha,zjz hp hb]at this
   exact this
  have ha:=(zgx hpl a).1 ha
  have hb:=(zgx hpl b).1 hb
  obtain ⟨h1,h2⟩:=hl
  have l2:=zcs (below:=true) hp ha
  rw [hx _ (by omega),hx _ l2]at h2
  have:=(x_lt hp h1 l2).2 h2
  rw [zjz hp ha,zjz hp hb]at this
  exact this
 rw [← step]
 exact ⟨fun ⟨x,hx⟩=>zxu hp _ hw (qR _) hx,fun h=>zxm hp _ hw (qR _) h⟩
end
end
section
section
variable {c:Nat→Nat→Nat} {H W:Nat}
theorem DU.rows (h:Pl c H W) {u v:Nat} (hd:DU c H W u v) {i j i' j':Nat} (hi:i<H) (hj:j<W) (hi':i'<H) (hj':j'<W) (hu:c i j=u) (hv:c i' j'=v):i<i':=by
 obtain ⟨l,j1,j2,a1,a2,a3,a4,a5,a6⟩:=hd
 have k1:i≤l:=by
  refine Nat.le_of_not_lt fun hlt=>a4 j1 (by omega) (by omega) ?_
  have:=h.rect (i:=i) (j:=j) (i':=l) (j':=j1) (l+1) j1 hi (by omega) hj a2 (by rw [hu,a5]) (by omega) (by omega) (by omega) (by omega)
  rw [this,hu,a5]
 have k2:l+1≤i':=by
  refine Nat.le_of_not_lt fun hlt=>a4 j2 (by omega) (by omega) ?_
  have:=h.rect (i:=i') (j:=j') (i':=l+1) (j':=j2) l j2 hi' (by omega) hj' a3 (by rw [hv,a6]) (by omega) (by omega) (by omega) (by omega)
  rw [this,hv,a6]
 omega
theorem TCU.rows (h:Pl c H W) {u v:Nat} (hd:TC (DU c H W) u v):∀ {i j i' j':Nat},i<H→j<W→i'<H→j'<W→c i j=u→c i' j'=v→i<i':=by
 induction hd with
 | one hd=>exact DU.rows h hd
 | tail _ k ih =>
  intro i j i' j' hi hj hi' hj' hu hv
  obtain ⟨l,j1,j2,a1,a2,a3,a4,a5,a6⟩:=id k
  have h1:=ih hi hj (show l<H by omega) a2 hu a5.symm
  have h2:=DU.rows h k (show l<H by omega) a2 hi' hj' a5.symm hv
  omega
end
section
variable {p:List Txt}
theorem DL.lt (hp:zal p=true) {a b:Nat} (h:DL (cn (gP p)) p.length (zag p).length a b):a<(rP p).length∧b<(rP p).length:=by
 obtain ⟨j,i1,i2,h1,h2,h3,-,rfl,rfl⟩:=h
 exact ⟨zfe zb2 h2 (by omega),zfe zb2 h3 h1⟩
theorem DU.lt (hp:zal p=true) {a b:Nat} (h:DU (cn (gP p)) p.length (zag p).length a b):a<(rP p).length∧b<(rP p).length:=by
 obtain ⟨j,i1,i2,h1,h2,h3,-,rfl,rfl⟩:=h
 exact ⟨zfe zb2 (by omega) h2,zfe zb2 h1 h3⟩
end
end
section
def Tight (a b c d:Int):Prop:=(c<a∧a<d∧d<b)∨(b<d∧d<a∧a<c)
def Avoid (v:Nat→Int) (A:Nat→Prop):Prop:=∀ a b c d,A a→A b→A c→A d→a<b→b<c→c<d→¬ Tight (v a) (v b) (v c) (v d)
def Inj (v:Nat→Int) (A:Nat→Prop):Prop:=∀ a b,A a→A b→v a=v b→a=b
def LS (v:Nat→Int) (A B:Nat→Prop):Prop:=(∃ a,A a∧B a)∧(∃ a,A a∧¬ B a)∧∀ a b,A a→B a→A b→¬ B b→a<b∧v a<v b
def DS (v:Nat→Int) (A B:Nat→Prop):Prop:=(∃ a,A a∧B a)∧(∃ a,A a∧¬ B a)∧∀ a b,A a→B a→A b→¬ B b→a<b∧v b<v a
theorem LS.neg {v:Nat→Int} {A B:Nat→Prop} (h:LS (fun i => -v i) A B):DS v A B :=
 ⟨h.1,h.2.1,fun a b h1 h2 h3 h4=>by have:=h.2.2 a b h1 h2 h3 h4; simp only at this; omega⟩
theorem DS.neg {v:Nat→Int} {A B:Nat→Prop} (h:DS (fun i => -v i) A B):LS v A B :=
 ⟨h.1,h.2.1,fun a b h1 h2 h3 h4=>by have:=h.2.2 a b h1 h2 h3 h4; simp only at this; omega⟩
theorem DS.pos {v:Nat→Int} {A B:Nat→Prop} (h:DS v A B):LS (fun i => -v i) A B :=
 ⟨h.1,h.2.1,fun a b h1 h2 h3 h4=>by have:=h.2.2 a b h1 h2 h3 h4; refine ⟨this.1,?_⟩; show -v a < -v b; omega⟩
theorem Avoid.neg {v:Nat→Int} {A:Nat→Prop} (h:Avoid v A):Avoid (fun i => -v i) A:=fun a b c d h1 h2 h3 h4 h5 h6 h7 k =>
 h a b c d h1 h2 h3 h4 h5 h6 h7 (by unfold Tight at k ⊢; simp only at k; omega)
theorem Inj.neg {v:Nat→Int} {A:Nat→Prop} (h:Inj v A):Inj (fun i => -v i) A:=fun a b h1 h2 h3=>h a b h1 h2 (by simp only at h3; omega)
theorem Avoid.sub {v:Nat→Int} {A A':Nat→Prop} (h:Avoid v A) (k:∀ a,A' a→A a):Avoid v A':=fun a b c d h1 h2 h3 h4=>h a b c d (k a h1) (k b h2) (k c h3) (k d h4)
theorem Inj.sub {v:Nat→Int} {A A':Nat→Prop} (h:Inj v A) (k:∀ a,A' a→A a):Inj v A':=fun a b h1 h2=>h a b (k a h1) (k b h2)
theorem zyf {v:Nat→Int} {A:Nat→Prop} {m:Nat} (hm:A m) (hA:∀ i,A i→i<m+1) (hi:Inj v A) (ha:Avoid v A)
  (ih:∀ k,k≤m→∀ A',(∀ i,A' i→i<k)→(∃ a b,A' a∧A' b∧a≠b)→(∀ a,A' a→A a)→(∃ B,LS v A' B)∨∃ B,DS v A' B)
  {B0:Nat→Prop} (h0:LS v (fun a=>A a∧a<m) B0):(∃ B,LS v A B)∨∃ B,DS v A B:=by
 obtain ⟨k,hk,⟨B,hB,hBk⟩,hmin⟩:=zix (P:=fun k=>∃ B,LS v (fun a=>A a∧a<m) B∧∀ a,A a→a<m→B a→a<k) (n:=m) ⟨B0,h0,fun a _ h _=>h⟩
 obtain ⟨⟨b0,hb0,hb0'⟩,⟨q,hq,hq'⟩,hall⟩:=hB
 have hlt:∀ {a},A a→a≠m→a<m:=fun h1 h2=>by have:=hA _ h1; omega
 by_cases h1:∀ x,A x→x<m→B x→v x<v m
 ·refine .inl ⟨fun a=>B a∧a<m,⟨b0,hb0.1,hb0',hb0.2⟩,⟨m,hm,fun h=>Nat.lt_irrefl _ h.2⟩,fun a b g1 g2 g3 g4=>?_⟩
  by_cases hb:b=m
  ·subst hb; exact ⟨g2.2,h1 a g1 g2.2 g2.1⟩
  exact hall a b ⟨g1,g2.2⟩ g2.1 ⟨g3,hlt g3 hb⟩ fun h=>g4 ⟨h,hlt g3 hb⟩
 obtain ⟨w,hw⟩:=Classical.not_forall.1 h1
 simp only[Classical.not_imp]at hw
 obtain ⟨w1,w2,w3,w4⟩:=hw
 have hwm:v m<v w:=by
  have:v w≠v m:=fun e=>by have:=hi w m w1 hm e; omega
  omega
 by_cases h2:∀ x,A x→x<m→v m<v x
 ·refine .inr ⟨fun a=>a<m,⟨w,w1,w2⟩,⟨m,hm,Nat.lt_irrefl _⟩,fun a b g1 g2 g3 g4=>?_⟩
  obtain rfl:b=m:=Classical.byContradiction fun h=>g4 (hlt g3 h)
  exact ⟨g2,h2 a g1 g2⟩
 obtain ⟨u,hu⟩:=Classical.not_forall.1 h2
 simp only[Classical.not_imp]at hu
 obtain ⟨u1,u2,u3⟩:=hu
 have hum:v u<v m:=by
  have:v u≠v m:=fun e=>by have:=hi u m u1 hm e; omega
  omega
 have huB:B u:=Classical.byContradiction fun h=>by
  have:=hall w u ⟨w1,w2⟩ w3 ⟨u1,u2⟩ h
  omega
 rcases ih k hk (fun a=>(A a∧a<m)∧B a) (fun i h=>hBk i h.1.1 h.1.2 h.2) ⟨u,w,⟨⟨u1,u2⟩,huB⟩,⟨⟨w1,w2⟩,w3⟩,fun e=>by subst e; omega⟩ (fun a h=>h.1.1) with ⟨X,⟨x0,hx0,hx0'⟩,⟨y0,hy0,hy0'⟩,hX⟩ | ⟨X,⟨x0,hx0,hx0'⟩,⟨y0,hy0,hy0'⟩,hX⟩
 ·refine absurd ⟨fun a=>B a∧X a,⟨⟨x0,hx0.1,hx0.2,hx0'⟩,⟨y0,hy0.1,fun h=>hy0' h.2⟩,fun a b g1 g2 g3 g4=>?_⟩,fun a g1 g2 g3=>(hX a y0 ⟨⟨g1,g2⟩,g3.1⟩ g3.2 hy0 hy0').1⟩ (hmin y0 (hBk y0 hy0.1.1 hy0.1.2 hy0.2))
  by_cases hb:B b
  ·exact hX a b ⟨g1,g2.1⟩ g2.2 ⟨g3,hb⟩ fun h=>g4 ⟨hb,h⟩
  exact hall a b g1 g2.1 g3 hb
 exfalso
 obtain ⟨x,y,hx,hx',hy,hy',e1,e2⟩:∃ x y,((A x∧x<m)∧B x)∧X x∧((A y∧y<m)∧B y)∧¬ X y∧v y<v m∧v m<v x:=by
  by_cases hXu:X u
  ·have hXw:X w:=Classical.byContradiction fun h=>by
    have:=hX u w ⟨⟨u1,u2⟩,huB⟩ hXu ⟨⟨w1,w2⟩,w3⟩ h
    omega
   have:=hX u y0 ⟨⟨u1,u2⟩,huB⟩ hXu hy0 hy0'
   exact ⟨w,y0,⟨⟨w1,w2⟩,w3⟩,hXw,hy0,hy0',by omega,hwm⟩
  by_cases hXw:X w
  ·exact ⟨w,u,⟨⟨w1,w2⟩,w3⟩,hXw,⟨⟨u1,u2⟩,huB⟩,hXu,hum,hwm⟩
  have:=hX x0 w hx0 hx0' ⟨⟨w1,w2⟩,w3⟩ hXw
  exact ⟨x0,u,hx0,hx0',⟨⟨u1,u2⟩,huB⟩,hXu,hum,by omega⟩
 have f1:=hX x y hx hx' hy hy'
 have f2:=hall x q hx.1 hx.2 hq hq'
 have f3:=hall y q hy.1 hy.2 hq hq'
 exact ha x y q m hx.1.1 hy.1.1 hq.1 hm f1.1 f3.1 hq.2 (.inr ⟨e1,e2,f2.2⟩)
theorem ya3:∀ (m:Nat) (v:Nat→Int) (A:Nat→Prop),(∀ i,A i→i<m)→(∃ a b,A a∧A b∧a≠b)→Inj v A→Avoid v A→(∃ B,LS v A B)∨∃ B,DS v A B:=by
 intro m
 induction m using Nat.strongRecOn with
 | _ m ih =>
  intro v A hA h2 hi ha
  match m,hA,ih with
  | 0,hA,_=>obtain ⟨a,b,h,-⟩:=h2; exact absurd (hA a h) (by omega)
  | m+1,hA,ih =>
   by_cases hm:A m
   ·by_cases h3:∃ a b,(A a∧a<m)∧(A b∧b<m)∧a≠b
    ·have ihv:∀ k,k≤m→∀ A',(∀ i,A' i→i<k)→(∃ a b,A' a∧A' b∧a≠b)→(∀ a,A' a→A a)→(∃ B,LS v A' B)∨∃ B,DS v A' B:=fun k hk A' q1 q2 q3=>ih k (by omega) v A' q1 q2 (hi.sub q3) (ha.sub q3)
     rcases ih m (by omega) v (fun a=>A a∧a<m) (fun i h=>h.2) h3 (hi.sub fun a h=>h.1) (ha.sub fun a h=>h.1) with ⟨B,hB⟩ | ⟨B,hB⟩
     ·exact zyf hm hA hi ha ihv hB
     have ihn:∀ k,k≤m→∀ A',(∀ i,A' i→i<k)→(∃ a b,A' a∧A' b∧a≠b)→(∀ a,A' a→A a)→(∃ B,LS (fun i => -v i) A' B)∨∃ B,DS (fun i => -v i) A' B:=fun k hk A' q1 q2 q3=>ih k (by omega) (fun i => -v i) A' q1 q2 (hi.sub q3).neg (ha.sub q3).neg
     rcases zyf hm hA hi.neg ha.neg ihn hB.pos with ⟨B,h⟩ | ⟨B,h⟩
     ·exact .inr ⟨B,h.neg⟩
     exact .inl ⟨B,h.neg⟩
    obtain ⟨u,hu,hum⟩:∃ u,A u∧u≠m:=by
     obtain ⟨a,b,h4,h5,h6⟩:=h2
     by_cases ham:a=m
     ·exact ⟨b,h5,fun e=>h6 (ham.trans e.symm)⟩
     exact ⟨a,h4,ham⟩
    have hul:u<m:=by have:=hA u hu; omega
    have only:∀ x,A x→x≠m→x=u:=fun x hx hxm=>Classical.byContradiction fun hne=>h3 ⟨x,u,⟨hx,by have:=hA x hx; omega⟩,⟨hu,hul⟩,hne⟩
    rcases Int.lt_or_le (v u) (v m) with hv | hv
    ·refine .inl ⟨fun a=>a=u,⟨u,hu,rfl⟩,⟨m,hm,fun e=>hum e.symm⟩,fun a b g1 g2 g3 g4=>?_⟩
     obtain rfl:b=m:=Classical.byContradiction fun h=>g4 (only b g3 h)
     rw [g2]; exact ⟨hul,hv⟩
    have hne:v u≠v m:=fun e=>hum (hi u m hu hm e)
    refine .inr ⟨fun a=>a=u,⟨u,hu,rfl⟩,⟨m,hm,fun e=>hum e.symm⟩,fun a b g1 g2 g3 g4=>?_⟩
    obtain rfl:b=m:=Classical.byContradiction fun h=>g4 (only b g3 h)
    rw [g2]; exact ⟨hul,by omega⟩
   exact ih m (by omega) v A (fun i h=>by have:=hA i h; have:i≠m:=fun e=>hm (e ▸ h); omega) h2 hi ha
section
variable {l:List Int}
theorem z50:∀ (N lo hi:Nat) {A:Nat→Prop},hi - lo≤N→(∀ i,A i→lo≤i∧i<hi)→(∃ a,A a)→Inj (zdf l) A→Avoid (zdf l) A→Sp (PL l) (PU l) A
 | 0,lo,hi,A,h,hA,⟨a,ha⟩,_,_=>by have:=hA a ha; omega
 | N+1,lo,hi,A,h,hA,⟨a,ha⟩,hj,hv=>by
  by_cases h1:∀ b,A b→b=a
  ·exact .one a ha h1
  obtain ⟨b,hb⟩:=Classical.not_forall.1 h1
  simp only[Classical.not_imp]at hb
  rcases ya3 hi (zdf l) A (fun i h=>(hA i h).2) ⟨b,a,hb.1,ha,hb.2⟩ hj hv with ⟨B,⟨x,hx,hx'⟩,⟨y,hy,hy'⟩,hB⟩ | ⟨B,⟨x,hx,hx'⟩,⟨y,hy,hy'⟩,hB⟩
  ·have p1:=hA x hx
   have p2:=hA y hy
   have p3:=hB x y hx hx' hy hy'
   exact .left B ⟨x,hx,hx'⟩ ⟨y,hy,hy'⟩ (fun a b h1 h2 h3 h4=>hB a b h1 h2 h3 h4)
    (z50 N lo y (by omega) (fun i h=>⟨(hA i h.1).1,(hB i y h.1 h.2 hy hy').1⟩) ⟨x,hx,hx'⟩ (hj.sub fun a h=>h.1) (hv.sub fun a h=>h.1))
    (z50 N (x+1) hi (by omega) (fun i h=>⟨(hB x i hx hx' h.1 h.2).1,(hA i h.1).2⟩) ⟨y,hy,hy'⟩ (hj.sub fun a h=>h.1) (hv.sub fun a h=>h.1))
  have p1:=hA x hx
  have p2:=hA y hy
  have p3:=hB x y hx hx' hy hy'
  refine .up (fun a=>¬ B a) ⟨y,hy,hy'⟩ ⟨x,hx,fun h=>h hx'⟩ (fun a b h1 h2 h3 h4=>?_)
   (z50 N (x+1) hi (by omega) (fun i h=>⟨(hB x i hx hx' h.1 h.2).1,(hA i h.1).2⟩) ⟨y,hy,hy'⟩ (hj.sub fun a h=>h.1) (hv.sub fun a h=>h.1))
   (z50 N lo y (by omega) (fun i h=>⟨(hA i h.1).1,(hB i y h.1 (Classical.byContradiction h.2) hy hy').1⟩) ⟨x,hx,fun h=>h hx'⟩ (hj.sub fun a h=>h.1) (hv.sub fun a h=>h.1))
  have:=hB b a h3 (Classical.byContradiction h4) h1 h2
  exact ⟨this.1,by omega⟩
theorem z8v {A:Nat→Prop} (h:Sp (PL l) (PU l) A):Avoid (zdf l) A:=by
 induction h with
 | one a ha hu =>
  intro a b c d h1 h2 _ _ h3 _ _ _
  have:=hu a h1; have:=hu b h2; omega
 | left B _ _ hl _ _ i1 i2 =>
  intro a b c d ha hb hc hd hab hbc hcd
  have key:∀ x y,_→_→B x→¬ B y→x<y∧zdf l x<zdf l y:=fun x y h1 h2 h3 h4=>hl x y h1 h3 h2 h4
  by_cases hD:B d
  ·have hC:B c:=Classical.byContradiction fun h=>by have:=key d c hd hc hD h; omega
   have hB:B b:=Classical.byContradiction fun h=>by have:=key d b hd hb hD h; omega
   have hA:B a:=Classical.byContradiction fun h=>by have:=key d a hd ha hD h; omega
   exact i1 a b c d ⟨ha,hA⟩ ⟨hb,hB⟩ ⟨hc,hC⟩ ⟨hd,hD⟩ hab hbc hcd
  by_cases hA:B a
  ·have k1:=key a d ha hd hA hD
   unfold Tight
   by_cases hB:B b
   ·have k2:=key b d hb hd hB hD
    by_cases hC:B c
    ·have k3:=key c d hc hd hC hD; omega
    have k3:=key a c ha hc hA hC; have k4:=key b c hb hc hB hC; omega
   have k2:=key a b ha hb hA hB
   by_cases hC:B c
   ·have k3:=key c b hc hb hC hB; omega
   have k3:=key a c ha hc hA hC; omega
  have hB:¬ B b:=fun h=>by have:=key b a hb ha h hA; omega
  have hC:¬ B c:=fun h=>by have:=key c a hc ha h hA; omega
  exact i2 a b c d ⟨ha,hA⟩ ⟨hb,hB⟩ ⟨hc,hC⟩ ⟨hd,hD⟩ hab hbc hcd
 | up B _ _ hl _ _ i1 i2 =>
  intro a b c d ha hb hc hd hab hbc hcd
  have key:∀ x y,_→_→B x→¬ B y→y<x∧zdf l x≤zdf l y:=fun x y h1 h2 h3 h4=>by have:=hl x y h1 h3 h2 h4; exact ⟨this.1,by have:=this.2; omega⟩
  by_cases hA:B a
  ·have hB:B b:=Classical.byContradiction fun h=>by have:=key a b ha hb hA h; omega
   have hC:B c:=Classical.byContradiction fun h=>by have:=key a c ha hc hA h; omega
   have hD:B d:=Classical.byContradiction fun h=>by have:=key a d ha hd hA h; omega
   exact i1 a b c d ⟨ha,hA⟩ ⟨hb,hB⟩ ⟨hc,hC⟩ ⟨hd,hD⟩ hab hbc hcd
  by_cases hD:B d
  ·have k1:=key d a hd ha hD hA
   unfold Tight
   by_cases hB:B b
   ·have k2:=key b a hb ha hB hA
    by_cases hC:B c
    ·have k3:=key c a hc ha hC hA; omega
    have k3:=key b c hb hc hB hC; omega
   have k2:=key d b hd hb hD hB
   by_cases hC:B c
   ·have k3:=key c a hc ha hC hA; have k4:=key c b hc hb hC hB; omega
   have k3:=key d c hd hc hD hC; omega
  have hB:¬ B b:=fun h=>by have:=key b d hb hd h hD; omega
  have hC:¬ B c:=fun h=>by have:=key c d hc hd h hD; omega
  exact i2 a b c d ⟨ha,hA⟩ ⟨hb,hB⟩ ⟨hc,hC⟩ ⟨hd,hD⟩ hab hbc hcd
end
end

theorem zgz {a b:List UInt8} (h:a.length+b.length≤9223372036854775807):yeg .add a b=some (.str (a++b)):=if_pos h
def ydi (p:List Txt):Pt:=⟨0,0,p.length,(zag p).length⟩
def yfd (p:List Txt):Bool:=zec p && (zfb (zbb p) (ydi p)).isSome
section
def zes (a b c d:Int):Bool:=(decide (c<a) && decide (a<d) && decide (d<b)) || (decide (b<d) && decide (d<a) && decide (a<c))
theorem zre {a b c d:Int}:zes a b c d=true↔Tight a b c d:=by
 unfold zes Tight
 simp only[Bool.or_eq_true,qB,decide_eq_true_eq,and_assoc]
def Fine (n:Nat) (bad:Nat→Nat→Nat→Nat→Bool):Prop:=∀ x y z w,x<y→y<z→z<w→w<n→bad x y z w=false
def z6z (l:List Int) (x y z w:Nat):Bool:=zes (zdf l x) (zdf l y) (zdf l z) (zdf l w)
section
variable {p:List Txt}
theorem zu3 (hp:zal p=true) {i:Nat} (hi:i<(rP p).length):zdf (zci p) i=xI p i:=zdc (ye9 hp hi)
theorem yfa (hp:zal p=true) {i j:Nat} (hi:i<(rP p).length) (hj:j<(rP p).length) (h:xI p i=xI p j):i=j:=by
 obtain ⟨a1,a2,-⟩:=ze4 hp hi
 obtain ⟨b1,b2,-⟩:=ze4 hp hj
 unfold xI at h
 have:=zev (below:=false) hp a1 b1 (by omega)
 rw [this]at a2
 omega
theorem zqd {l:List Int}:Fine l.length (z6z l)↔Avoid (zdf l) (· < l.length):=by
 constructor
 ·intro h a b c d ha hb hc hd h1 h2 h3 k
  have:=h a b c d h1 h2 h3 hd
  unfold z6z at this
  rw [zre.2 k]at this; cases this
 intro h x y z w h1 h2 h3 h4
 unfold z6z
 rw [Bool.eq_false_iff]
 intro k
 exact h x y z w (by omega) (by omega) (by omega) h4 h1 h2 h3 (zre.1 k)
theorem z39 (hp:zal p=true):Fine (zci p).length (z6z (zci p))↔yfd p=true:=by
 have hn:=zbv (p:=p)
 have hn1:1≤(rP p).length:=by
  have hsm:=zfv (ze1 (zcb hp))
  obtain ⟨row0,h0,hm0⟩:=zai hsm.1
  have hw:=zpd (ze1 (zcb hp)) h0
  rw [← zgo h0]at hw
  have:=zfe zb2 (g:=gP p) (i:=0) (j:=0) (nh:=p.length) (nw:=(zag p).length) (n:=(rP p).length) hsm.1 hw
  omega
 rw [zqd]
 have hc:yfd p=true↔∃ x,zfb (zbb p) ⟨0,0,p.length,(zag p).length⟩=some x:=by
  unfold yfd ydi
  rw [zcb hp,Bool.true_and,Option.isSome_iff_exists]
 rw [hc,z69 hp]
 constructor
 ·intro h
  refine z50 (zci p).length 0 (zci p).length (by omega) (fun i hi=>⟨Nat.zero_le _,hi⟩) ⟨0,by omega⟩ (fun a b ha hb e=>?_) h
  rw [zu3 hp (by omega),zu3 hp (by omega)]at e
  exact yfa hp (by omega) (by omega) e
 exact z8v
end
end
def Tm.ok:Tm→Prop
 | .o=>True
 | .un c t=>(c=62∨c=94)∧t.ok
 | .bin m a b=>(m=124∨m=45)∧a.ok∧b.ok
def Tm.n:Tm→Nat
 | .o=>1
 | .un _ t=>t.n
 | .bin _ a b=>a.n+b.n
theorem Tm.pos:∀ t:Tm,1≤t.n
 | .o=>qR _
 | .un _ t=>t.pos
 | .bin _ a b=>by have:=a.pos; simp only[Tm.n]; omega
def Tm.pure:Tm→Prop
 | .o=>True
 | .un _ _=>False
 | .bin m a b=>(m=124∨m=45)∧a.pure∧b.pure
theorem Tm.pure.ok {t:Tm} (h:t.pure):t.ok:=by
 induction t with
 | o=>trivial
 | un c t _=>exact h.elim
 | bin m a b h1 h2=>exact ⟨h.1,h1 h.2.1,h2 h.2.2⟩
def mv (s:UInt8):Tm→Tm
 | .o => .o
 | .un c t => .un c t
 | .bin m a b=>if s=62 then (if m=124 then .bin 45 (mv s a) (mv s b) else .bin 124 (mv s b) (mv s a))
  else if s=94∧m=124 then .bin 124 (mv s b) (mv s a) else .bin m (mv s a) (mv s b)
def td:Tm→Tm
 | .o => .o
 | .un c t=>mv c (td t)
 | .bin m a b => .bin m (td a) (td b)
theorem zlw {s:UInt8} {u:Tm} (h:u.pure):(mv s u).pure∧(mv s u).n=u.n:=by
 induction u with
 | o=>exact ⟨trivial,rfl⟩
 | un c t _=>exact h.elim
 | bin m a b h1 h2 =>
  obtain ⟨k1,k2⟩:=h1 h.2.1
  obtain ⟨k3,k4⟩:=h2 h.2.2
  have hm:=h.1
  unfold mv
  repeat' split
  all_goals simp only[Tm.pure,Tm.n,k2,k4]
  all_goals refine ⟨⟨?_,?_,?_⟩,?_⟩
  all_goals first | exact .inl rfl | exact .inr rfl | exact .inr trivial | exact .inl trivial | trivial | assumption | omega
theorem zg0 {t:Tm} (h:t.ok):(td t).pure∧(td t).n=t.n:=by
 induction t with
 | o=>exact ⟨trivial,rfl⟩
 | un c t ih =>
  obtain ⟨k1,k2⟩:=ih h.2
  have:=zlw (s:=c) k1
  exact ⟨this.1,by rw [td,this.2,k2]; rfl⟩
 | bin m a b h1 h2 =>
  obtain ⟨k1,k2⟩:=h1 h.2.1
  obtain ⟨k3,k4⟩:=h2 h.2.2
  exact ⟨⟨h.1,k1,k3⟩,by simp only[td,Tm.n,k2,k4]⟩
theorem yec {u:Tm} (h:u.pure):mv 0 u=u:=by
 induction u with
 | o=>rfl
 | un c t _=>rfl
 | bin m a b h1 h2 =>
  unfold mv
  rw [if_neg (by decide),if_neg (by rintro ⟨h,-⟩; exact absurd h (by decide)),h1 h.2.1,h2 h.2.2]
theorem zlx {m:UInt8} {a b:Tm}:mv 62 (.bin m a b)=if m=124 then .bin 45 (mv 62 a) (mv 62 b) else .bin 124 (mv 62 b) (mv 62 a):=by
 conv=>lhs; unfold mv
 rw [if_pos rfl]
theorem zjq {m:UInt8} {a b:Tm}:mv 94 (.bin m a b)=if m=124 then .bin 124 (mv 94 b) (mv 94 a) else .bin m (mv 94 a) (mv 94 b):=by
 conv=>lhs; unfold mv
 rw [if_neg (by decide)]
 by_cases e:m=124
 ·rw [if_pos ⟨rfl,e⟩,if_pos e]
 rw [if_neg fun h=>e h.2,if_neg e]
theorem z3g {u:Tm} (h:u.pure):mv 62 (mv 62 (mv 62 (mv 62 u)))=u:=by
 induction u with
 | o=>rfl
 | un c t _=>exact h.elim
 | bin m a b h1 h2 =>
  rcases h.1 with rfl | rfl
  ·simp [zlx,h1 h.2.1,h2 h.2.2]
  simp [zlx,h1 h.2.1,h2 h.2.2]
theorem ya9 {u:Tm} (h:u.pure):mv 94 (mv 94 u)=u:=by
 induction u with
 | o=>rfl
 | un c t _=>exact h.elim
 | bin m a b h1 h2 =>
  rcases h.1 with rfl | rfl
  ·simp [zjq,h1 h.2.1,h2 h.2.2]
  simp [zjq,h1 h.2.1,h2 h.2.2]
theorem z3e {u:Tm} (h:u.pure):mv 94 (mv 62 u)=mv 62 (mv 62 (mv 62 (mv 94 u))):=by
 induction u with
 | o=>rfl
 | un c t _=>exact h.elim
 | bin m a b h1 h2 =>
  rcases h.1 with rfl | rfl
  ·simp [zjq,zlx,h1 h.2.1,h2 h.2.2]
  simp [zjq,zlx,h1 h.2.1,h2 h.2.2]
def stS (m:UInt8) (f:Bool):Nat→UInt8 × Bool
 | 0=>(m,f && m == 124)
 | k+1=>if (stS m f k).1=124 then (45,(stS m f k).2) else (124,!(stS m f k).2)
def tdS:Tm→Nat→Bool→Tm
 | .o,_,_ => .o
 | .un c t,k,f=>if c=62 then tdS t (if f then (k+3) % 4 else (k+1) % 4) f else tdS t k (!f)
 | .bin m a b,k,f=>if (stS m f k).2 then .bin (stS m f k).1 (tdS b k f) (tdS a k f) else .bin (stS m f k).1 (tdS a k f) (tdS b k f)
def mvN:Nat→Tm→Tm
 | 0,u=>u
 | k+1,u=>mv 62 (mvN k u)
def mvF (f:Bool) (u:Tm):Tm:=if f then mv 94 u else u
theorem z7v {u:Tm} (h:u.pure):∀ k,(mvN k u).pure
 | 0=>h
 | k+1=>(zlw (z7v h k)).1
theorem z7u {u:Tm} (h:u.pure) (f:Bool):(mvF f u).pure:=by
 cases f
 ·exact h
 exact (zlw h).1
theorem yct {m:UInt8} (hm:m=124∨m=45) (f:Bool):∀ k,(stS m f k).1=124∨(stS m f k).1=45
 | 0=>hm
 | k+1=>by
  unfold stS
  split
  ·exact .inr rfl
  exact .inl rfl
theorem z4d {m:UInt8} (hm:m=124∨m=45) (f:Bool) (a b:Tm):∀ k,mvN k (mvF f (.bin m a b)) =
  if (stS m f k).2 then .bin (stS m f k).1 (mvN k (mvF f b)) (mvN k (mvF f a)) else .bin (stS m f k).1 (mvN k (mvF f a)) (mvN k (mvF f b))
 | 0=>by
  cases f
  ·rfl
  rcases hm with rfl | rfl
  ·simp [mvN,mvF,stS,zjq]
  simp [mvN,mvF,stS,zjq]
 | k+1=>by
  have h2:=yct hm f k
  unfold mvN stS
  rw [z4d hm f a b k]
  cases hs:(stS m f k).2 <;> rcases h2 with e | e <;> simp [e,zlx]
theorem z4e {u:Tm} (h:u.pure):∀ {k:Nat},k<4→mvN ((k+1) % 4) u=mvN k (mv 62 u)∧mvN ((k+3) % 4) u=mvN k (mv 62 (mv 62 (mv 62 u))):=by
 intro k hk
 have h4:=z3g h
 have h1:=(zlw (s:=62) h).1
 have k4:=z3g h1
 rcases (show k=0∨k=1∨k=2∨k=3 by omega) with rfl | rfl | rfl | rfl
 all_goals simp [mvN,h4,k4]
theorem yev {t:Tm} (h:t.ok):∀ {k:Nat} {f:Bool},k<4→tdS t k f=mvN k (mvF f (td t)):=by
 induction t with
 | o =>
  intro k f _
  have:∀ k,mvN k Tm.o = .o:=fun k=>by induction k with | zero=>rfl | succ k ih=>unfold mvN; rw [ih]; rfl
  cases f <;> exact (this k).symm
 | un c t ih =>
  intro k f hk
  have hp:=(zg0 h.2).1
  rcases h.1 with rfl | rfl
  ·rw [tdS,if_pos rfl]
   cases f
   ·rw [if_neg (by decide),ih h.2 (Nat.mod_lt _ (by omega))]
    exact (z4e hp hk).1
   rw [if_pos rfl,ih h.2 (Nat.mod_lt _ (by omega))]
   rw [(z4e (z7u hp true) hk).2]
   show mvN k (mv 62 (mv 62 (mv 62 (mv 94 (td t)))))=mvN k (mv 94 (mv 62 (td t)))
   rw [z3e hp]
  rw [tdS,if_neg (by decide),ih h.2 hk]
  cases f
  ·rfl
  show mvN k (td t)=mvN k (mv 94 (mv 94 (td t)))
  rw [ya9 hp]
 | bin m a b h1 h2 =>
  intro k f hk
  rw [td,z4d h.1,tdS,h1 h.2.1 hk,h2 h.2.2 hk]
def pm:Tm→List Int
 | .o=>[0]
 | .un _ t=>pm t
 | .bin m a b=>if m=124 then pm a++upL (pm b) (pm a).length else upL (pm b) (pm a).length++pm a
theorem zax {l:List Int} {k:Nat}:(upL l k).length=l.length:=by simp [upL]
theorem zfl {l:List Int} {k i:Nat}:(upL l k)[i]?=l[i]?.map (· + (k:Int)):=by simp [upL]
theorem zm1:∀ (u:Tm),(pm u).length=u.n
 | .o=>rfl
 | .un _ t=>zm1 t
 | .bin m a b=>by
  have h1:=zm1 a
  have h2:=zm1 b
  unfold pm Tm.n
  split <;> simp [zax,h1,h2]
  omega
def Full (l:List Int):Prop:=(∀ (i:Nat) v,l[i]?=some v→0≤v∧v<l.length)∧∀ v:Nat,v<l.length→∃ i:Nat,l[i]?=some (v:Int)
theorem Full.beside {A B:List Int} (hA:Full A) (hB:Full B):Full (A++upL B A.length):=by
 constructor
 ·intro i v h
  rw [List.length_append,zax]
  by_cases k:i<A.length
  ·rw [List.getElem?_append_left k]at h
   have:=hA.1 i v h; omega
  rw [List.getElem?_append_right (by omega),zfl,qI]at h
  obtain ⟨w,h,rfl⟩:=h
  have:=hB.1 _ w h; omega
 intro v hv
 rw [List.length_append,zax]at hv
 by_cases k:v<A.length
 ·obtain ⟨i,hi⟩:=hA.2 v k
  exact ⟨i,by rw [List.getElem?_append_left (zbd hi)]; exact hi⟩
 obtain ⟨i,hi⟩:=hB.2 (v - A.length) (by omega)
 exact ⟨A.length+i,by rw [List.getElem?_append_right (by omega),Nat.add_sub_cancel_left,zfl,hi,qO]; congr 1; omega⟩
theorem Full.under {A B:List Int} (hA:Full A) (hB:Full B):Full (upL B A.length++A):=by
 constructor
 ·intro i v h
  rw [List.length_append,zax]
  by_cases k:i<B.length
  ·rw [List.getElem?_append_left (by rw [zax]; exact k),zfl,qI]at h
   obtain ⟨w,h,rfl⟩:=h
   have:=hB.1 _ w h; omega
  rw [List.getElem?_append_right (by rw [zax]; omega)]at h
  have:=hA.1 _ v h; omega
 intro v hv
 rw [List.length_append,zax]at hv
 by_cases k:v<A.length
 ·obtain ⟨i,hi⟩:=hA.2 v k
  exact ⟨B.length+i,by rw [List.getElem?_append_right (by rw [zax]; omega),zax,Nat.add_sub_cancel_left]; exact hi⟩
 obtain ⟨i,hi⟩:=hB.2 (v - A.length) (by omega)
 exact ⟨i,by rw [List.getElem?_append_left (by rw [zax]; exact zbd hi),zfl,hi,qO]; congr 1; omega⟩
theorem zdx:∀ (u:Tm),Full (pm u)
 | .o=>⟨fun i v h=>by cases i with | zero=>simp [pm]at h; subst h; simp [pm] | succ i=>simp [pm]at h,fun v hv=>⟨0,by simp [pm]at hv ⊢; omega⟩⟩
 | .un _ t=>zdx t
 | .bin m a b=>by
  unfold pm
  split
  ·exact (zdx a).beside (zdx b)
  exact (zdx a).under (zdx b)
def To (g:Nat→Nat) (l l':List Int):Prop:=l'.length=l.length∧∀ (i:Nat) v,l[i]?=some v→l'[l.length - 1 - v.toNat]?=some ((g i:Nat):Int)
theorem To.uniq {g:Nat→Nat} {l l' l2:List Int} (hl:Full l) (h:To g l l') (k:To g l l2):l'=l2:=by
 apply List.ext_getElem?
 intro i
 by_cases hi:i<l.length
 ·obtain ⟨j,hj⟩:=hl.2 (l.length - 1 - i) (by omega)
  have h1:=h.2 _ _ hj
  have h2:=k.2 _ _ hj
  rw [show l.length - 1 - ((l.length - 1 - i:Nat):Int).toNat=i by omega]at h1 h2
  rw [h1,h2]
 rw [List.getElem?_eq_none (by rw [h.1]; omega),List.getElem?_eq_none (by rw [k.1]; omega)]
theorem yb8 {u:Tm} (h:u.pure):To (fun i=>i) (pm u) (pm (mv 62 u)):=by
 induction u with
 | o=>exact ⟨rfl,fun i v h=>by cases i with | zero=>simp [pm]at h; subst h; rfl | succ i=>simp [pm]at h⟩
 | un c t _=>exact h.elim
 | bin m a b h1 h2 =>
  obtain ⟨a1,a2⟩:=h1 h.2.1
  obtain ⟨b1,b2⟩:=h2 h.2.2
  have fA:=(zdx a).1
  have fB:=(zdx b).1
  rw [zlx]
  rcases h.1 with rfl | rfl
  ·rw [if_pos rfl,pm,if_pos rfl,pm,if_neg (by decide),a1]
   generalize pm a=A at *
   generalize pm b=B at *
   refine ⟨by simp [zax,a1,b1]; omega,fun i v hv=>?_⟩
   rw [List.length_append,zax]
   by_cases k:i<A.length
   ·rw [List.getElem?_append_left k]at hv
    have q:=fA i v hv
    rw [List.getElem?_append_right (by rw [zax,b1]; omega),zax,b1,show A.length+B.length - 1 - v.toNat - B.length=A.length - 1 - v.toNat by omega]
    exact a2 i v hv
   rw [List.getElem?_append_right (by omega),zfl,qI]at hv
   obtain ⟨w,hw,rfl⟩:=hv
   have q:=fB _ w hw
   rw [List.getElem?_append_left (by rw [zax,b1]; omega),zfl,show A.length+B.length - 1 - (w+(A.length:Int)).toNat=B.length - 1 - w.toNat by omega,b2 _ w hw,qO]
   simp only[Option.some.injEq]; omega
  rw [if_neg (by decide),pm,if_neg (by decide),pm,if_pos rfl,b1]
  generalize pm a=A at *
  generalize pm b=B at *
  refine ⟨by simp [zax,a1,b1],fun i v hv=>?_⟩
  rw [List.length_append,zax]
  by_cases k:i<B.length
  ·rw [List.getElem?_append_left (by rw [zax]; exact k),zfl,qI]at hv
   obtain ⟨w,hw,rfl⟩:=hv
   have q:=fB _ w hw
   rw [List.getElem?_append_left (by rw [b1]; omega),show B.length+A.length - 1 - (w+(A.length:Int)).toNat=B.length - 1 - w.toNat by omega,b2 _ w hw]
  rw [List.getElem?_append_right (by rw [zax]; omega),zax]at hv
  have q:=fA _ v hv
  rw [List.getElem?_append_right (by rw [b1]; omega),b1,zfl,show B.length+A.length - 1 - v.toNat - B.length=A.length - 1 - v.toNat by omega,a2 _ v hv,qO]
  simp only[Option.some.injEq]; omega
theorem yb7 {u:Tm} (h:u.pure):To (fun i=>(pm u).length - 1 - i) (pm u) (pm (mv 94 u)):=by
 induction u with
 | o=>exact ⟨rfl,fun i v h=>by cases i with | zero=>simp [pm]at h; subst h; rfl | succ i=>simp [pm]at h⟩
 | un c t _=>exact h.elim
 | bin m a b h1 h2 =>
  obtain ⟨a1,a2⟩:=h1 h.2.1
  obtain ⟨b1,b2⟩:=h2 h.2.2
  have fA:=(zdx a).1
  have fB:=(zdx b).1
  rw [zjq]
  rcases h.1 with rfl | rfl
  ·rw [if_pos rfl,pm,if_pos rfl,pm,if_pos rfl,b1]
   generalize pm a=A at *
   generalize pm b=B at *
   refine ⟨by simp [zax,a1,b1]; omega,fun i v hv=>?_⟩
   rw [List.length_append,zax]
   by_cases k:i<A.length
   ·rw [List.getElem?_append_left k]at hv
    have q:=fA i v hv
    rw [List.getElem?_append_right (by rw [b1]; omega),b1,zfl,show A.length+B.length - 1 - v.toNat - B.length=A.length - 1 - v.toNat by omega,a2 i v hv,qO]
    simp only[Option.some.injEq]; omega
   rw [List.getElem?_append_right (by omega),zfl,qI]at hv
   obtain ⟨w,hw,rfl⟩:=hv
   have q:=fB _ w hw
   have:=zbd hw
   rw [List.getElem?_append_left (by rw [b1]; omega),show A.length+B.length - 1 - (w+(A.length:Int)).toNat=B.length - 1 - w.toNat by omega,b2 _ w hw]
   simp only[Option.some.injEq]; omega
  rw [if_neg (by decide),pm,if_neg (by decide),pm,if_neg (by decide),a1]
  generalize pm a=A at *
  generalize pm b=B at *
  refine ⟨by simp [zax,a1,b1],fun i v hv=>?_⟩
  rw [List.length_append,zax]
  by_cases k:i<B.length
  ·rw [List.getElem?_append_left (by rw [zax]; exact k),zfl,qI]at hv
   obtain ⟨w,hw,rfl⟩:=hv
   have q:=fB _ w hw
   rw [List.getElem?_append_left (by rw [zax,b1]; omega),zfl,show B.length+A.length - 1 - (w+(A.length:Int)).toNat=B.length - 1 - w.toNat by omega,b2 _ w hw,qO]
   simp only[Option.some.injEq]; omega
  rw [List.getElem?_append_right (by rw [zax]; omega),zax]at hv
  have q:=fA _ v hv
  have:=zbd hv
  rw [List.getElem?_append_right (by rw [zax,b1]; omega),zax,b1,show B.length+A.length - 1 - v.toNat - B.length=A.length - 1 - v.toNat by omega,a2 _ v hv]
  simp only[Option.some.injEq]; omega
theorem zsc (u:Tm) (h:u.pure):Fine (pm u).length (z6z (pm u)):=by
 rw [zqd]
 induction u with
 | o =>
  intro a b c d ha hb hc hd h1 h2 h3
  simp [pm]at hd; omega
 | un c t _=>exact h.elim
 | bin m a b h1 h2 =>
  have i1:=h1 h.2.1
  have i2:=h2 h.2.2
  have fA:=(zdx a).1
  have fB:=(zdx b).1
  unfold pm
  split
  ·generalize pm a=A at *
   generalize pm b=B at *
   have gl:∀ i,i<A.length→zdf (A++upL B A.length) i=zdf A i∧0≤zdf A i∧zdf A i<A.length:=by
    intro i hi
    obtain ⟨v,hv,-⟩:=zai hi
    rw [zdc hv,zdc (x:=v) (by rw [List.getElem?_append_left hi]; exact hv)]
    exact ⟨rfl,fA i v hv⟩
   have gr:∀ i,A.length≤i→i<A.length+B.length→zdf (A++upL B A.length) i=zdf B (i - A.length)+A.length∧0≤zdf B (i - A.length):=by
    intro i hi hi2
    obtain ⟨v,hv,-⟩:=zai (show i - A.length<B.length by omega)
    rw [zdc hv,zdc (x:=v+A.length) (by rw [List.getElem?_append_right hi,zfl,hv]; rfl)]
    exact ⟨rfl,(fB _ v hv).1⟩
   intro x y z w hx hy hz hw h1 h2 h3 ht
   rw [List.length_append,zax]at hx hy hz hw
   by_cases k1:x<A.length
   ·by_cases k4:w<A.length
    ·have q:=i1 x y z w k1 (by omega) (by omega) k4 h1 h2 h3
     rw [(gl x k1).1,(gl y (by omega)).1,(gl z (by omega)).1,(gl w k4).1]at ht
     exact q ht
    have e1:=gl x k1
    have e4:=gr w (by omega) hw
    unfold Tight at ht
    by_cases k2:y<A.length
    ·have e2:=gl y k2
     by_cases k3:z<A.length
     ·have e3:=gl z k3; omega
     have e3:=gr z (by omega) (by omega); omega
    have e2:=gr y (by omega) (by omega)
    have e3:=gr z (by omega) (by omega); omega
   have q:=i2 (x - A.length) (y - A.length) (z - A.length) (w - A.length) (by omega) (by omega) (by omega) (by omega) (by omega) (by omega) (by omega)
   rw [(gr x (by omega) hx).1,(gr y (by omega) hy).1,(gr z (by omega) hz).1,(gr w (by omega) hw).1]at ht
   refine q ?_
   unfold Tight at ht ⊢
   omega
  generalize pm a=A at *
  generalize pm b=B at *
  have gr:∀ i,B.length≤i→i<B.length+A.length→zdf (upL B A.length++A) i=zdf A (i - B.length)∧0≤zdf A (i - B.length)∧zdf A (i - B.length)<A.length:=by
   intro i hi hi2
   obtain ⟨v,hv,-⟩:=zai (show i - B.length<A.length by omega)
   rw [zdc hv,zdc (x:=v) (by rw [List.getElem?_append_right (by rw [zax]; exact hi),zax]; exact hv)]
   exact ⟨rfl,fA _ v hv⟩
  have gl:∀ i,i<B.length→zdf (upL B A.length++A) i=zdf B i+A.length∧0≤zdf B i:=by
   intro i hi
   obtain ⟨v,hv,-⟩:=zai hi
   rw [zdc hv,zdc (x:=v+A.length) (by rw [List.getElem?_append_left (by rw [zax]; exact hi),zfl,hv]; rfl)]
   exact ⟨rfl,(fB _ v hv).1⟩
  intro x y z w hx hy hz hw h1 h2 h3 ht
  rw [List.length_append,zax]at hx hy hz hw
  by_cases k1:x<B.length
  ·by_cases k4:w<B.length
   ·have q:=i2 x y z w k1 (by omega) (by omega) k4 h1 h2 h3
    rw [(gl x k1).1,(gl y (by omega)).1,(gl z (by omega)).1,(gl w k4).1]at ht
    refine q ?_
    unfold Tight at ht ⊢
    omega
   have e1:=gl x k1
   have e4:=gr w (by omega) hw
   unfold Tight at ht
   by_cases k2:y<B.length
   ·have e2:=gl y k2
    by_cases k3:z<B.length
    ·have e3:=gl z k3; omega
    have e3:=gr z (by omega) (by omega); omega
   have e2:=gr y (by omega) (by omega)
   have e3:=gr z (by omega) (by omega); omega
  have q:=i1 (x - B.length) (y - B.length) (z - B.length) (w - B.length) (by omega) (by omega) (by omega) (by omega) (by omega) (by omega) (by omega)
  rw [(gr x (by omega) hx).1,(gr y (by omega) hy).1,(gr z (by omega) hz).1,(gr w (by omega) hw).1]at ht
  exact q ht
section
def zwp (p:List Txt):List (List Int):=bgT (fun r w=>gz (gP p) r ((zag p).length - 1 - w)) (zag p).length p.length
section
variable {p t:List Txt} {σ:Nat→Nat}
theorem zt1 (hp:zal p=true):Made (tr (fl (tr (cn (gP p))) (zag p).length)) p.length (zag p).length (zwp p):=by
 obtain ⟨q1,q2,q3,q4,-,-,q7,q8⟩:=zau hp
 exact zoq (znb q1 q2 q3 q4 fun i j hi hj=>q8 i ((zag p).length - 1 - j) hi (by omega)) (fun i j hi hj=>zfe zb2 hi (by omega)) q7 (zb4 hp).ex.dn.ex
theorem Iso.perm_flip (h:Iso p t (fun a b=>Lf p b a) (Ab p) σ) (hp:zal p=true) {a:Nat} (ha:a<(rP p).length):(zci t)[(rP p).length - 1 - ahK p false a]?=some (((rP p).length - 1 - ahK p true a:Nat):Int):=by
 have e1:∀ a,a<(rP p).length→ahK t false (σ a)=(rP p).length - 1 - ahK p true a:=h.ah_rev hp fun x y hx hy=>by
  rw [zd5,zd5,h.lf x y hx hy]
  simp only[qF,if_false,if_true,h.ab _ _ hx hy]
 have e2:∀ a,a<(rP p).length→ahK t true (σ a)=(rP p).length - 1 - ahK p false a:=h.ah_rev hp fun x y hx hy=>by
  rw [zd5,zd5,h.lf x y hx hy]
  simp only[qF,if_false,if_true,h.ab _ _ hy hx]
 rw [← e2 a ha,zc8 h.pl (by rw [h.n]; exact h.lt a ha),e1 a ha]
theorem yc3 (hp:zal p=true):zal (nm (zxv p))=true∧(rP (nm (zxv p))).length=(rP p).length∧To (fun i=>i) (zci p) (zci (nm (zxv p))):=by
 have hm:=zv0 hp
 obtain ⟨σ,-,hI⟩:=z7p hp hm.plan hm.ren
 refine ⟨hI.pl,hI.n,by rw [zbv,zbv,hI.n],fun i v hv=>?_⟩
 have hi:=zbd hv
 rw [zbv]at hi ⊢
 obtain ⟨a,ha,rfl⟩:=zsn hp hi
 rw [zc8 hp ha]at hv
 cases hv
 exact hI.perm_turn hp ha
theorem yba (hp:zal p=true):zal (nm (zwp p))=true∧(rP (nm (zwp p))).length=(rP p).length∧To (fun i=>(rP p).length - 1 - i) (zci p) (zci (nm (zwp p))):=by
 have hm:=zt1 hp
 obtain ⟨σ,-,hI⟩:=z7o hp hm.plan hm.ren
 refine ⟨hI.pl,hI.n,by rw [zbv,zbv,hI.n],fun i v hv=>?_⟩
 have hi:=zbd hv
 rw [zbv]at hi ⊢
 obtain ⟨a,ha,rfl⟩:=zsn hp hi
 rw [zc8 hp ha]at hv
 cases hv
 exact hI.perm_flip hp ha
end
def zt5 (m:UInt8) (p q:List Txt):Option (List Txt) :=
 if m=124 then (if p.length+q.length - 1≤6∧(zag p).length+(zag q).length≤6 then some (nm (z6o p q)) else none)
 else if p.length+q.length≤6∧(zag p).length+(zag q).length - 1≤6 then some (nm (z6p p q)) else none
def zdj:Tm→Option (List Txt)
 | .o=>some [[97]]
 | .un c t=>(zdj t).map fun p=>nm (if c=62 then zxv p else zwp p)
 | .bin m a b=>(zdj a).bind fun p=>(zdj b).bind fun q=>zt5 m p q
theorem z78:zal [[97]]=true∧(rP [[97]]).length=1∧zci [[97]]=[0]:=by
 refine ⟨by decide +kernel,by decide +kernel,by decide +kernel⟩
theorem zif {t:Tm} (h:t.ok) (h9:t.n≤9):∀ {p:List Txt},zdj t=some p→zal p=true∧(rP p).length=t.n∧zci p=pm (td t):=by
 induction t with
 | o=>intro p e; cases e; exact z78
 | un c t ih =>
  intro p e
  simp only[zdj,qI]at e
  obtain ⟨q,hq,rfl⟩:=e
  obtain ⟨k1,k2,k3⟩:=ih h.2 h9 hq
  have hpu:=(zg0 h.2).1
  rcases h.1 with rfl | rfl
  ·rw [if_pos rfl]
   obtain ⟨j1,j2,j3⟩:=yc3 k1
   refine ⟨j1,by rw [j2,k2]; rfl,?_⟩
   have:=yb8 hpu
   rw [k3]at j3
   exact j3.uniq (zdx _) this
  rw [if_neg (by decide)]
  obtain ⟨j1,j2,j3⟩:=yba k1
  refine ⟨j1,by rw [j2,k2]; rfl,?_⟩
  have:=yb7 hpu
  rw [k3,← zbv (p:=q),k3]at j3
  exact j3.uniq (zdx _) this
 | bin m a b h1 h2 =>
  intro p e
  simp only[zdj,Option.bind_eq_some_iff]at e
  obtain ⟨x,hx,y,hy,e⟩:=e
  have pa:=a.pos
  have pb:=b.pos
  simp only[Tm.n]at h9
  obtain ⟨k1,k2,k3⟩:=h1 h.2.1 (by omega) hx
  obtain ⟨j1,j2,j3⟩:=h2 h.2.2 (by omega) hy
  unfold zt5 at e
  rcases h.1 with rfl | rfl
  ·rw [if_pos rfl]at e
   split at e
   ·rename_i hf
    cases e
    obtain ⟨l1,l2,l3⟩:=yau k1 j1 hf.1 hf.2 (by omega)
    exact ⟨l1,by rw [l2,k2,j2]; rfl,by rw [l3,td,pm,if_pos rfl,← k3,← j3,zbv]⟩
   cases e
  rw [if_neg (by decide)]at e
  split at e
  ·rename_i hf
   cases e
   obtain ⟨l1,l2,l3⟩:=yay k1 j1 hf.1 hf.2 (by omega)
   exact ⟨l1,by rw [l2,k2,j2]; rfl,by rw [l3,td,pm,if_neg (by decide),← k3,← j3,zbv]⟩
  cases e
theorem yfz:∀ (f:Nat) {s:Txt} {t:Tm} {r:Txt},rd f s=some (t,r)→t.ok∧t.n+r.count 111=s.count 111:=by
 intro f
 induction f with
 | zero=>intro s t r h; simp [rd]at h
 | succ f ih =>
  intro s t r h
  cases s with
  | nil=>simp [rd]at h
  | cons c s =>
   simp only[rd]at h
   split at h
   ·rename_i e
    cases h; subst e
    exact ⟨trivial,by simp [Tm.n]; omega⟩
   rename_i ne
   have hc:(c::s).count 111=s.count 111:=List.count_cons_of_ne ne
   rw [hc]
   split at h
   ·rename_i hcc
    split at h
    ·rename_i t' r' e
     cases h
     obtain ⟨h1,h2⟩:=ih e
     exact ⟨⟨hcc,h1⟩,h2⟩
    cases h
   split at h
   ·split at h
    ·rename_i a m r1 e
     obtain ⟨h1,h2⟩:=ih e
     split at h
     ·rename_i hm
      split at h
      ·rename_i b e2 r2 e3
       obtain ⟨h3,h4⟩:=ih e3
       split at h
       ·rename_i he
        cases h
        subst he
        rw [List.count_cons_of_ne (by decide)]at h4
        rw [List.count_cons_of_ne (by rcases hm with rfl | rfl <;> decide)]at h2
        exact ⟨⟨hm,h1,h3⟩,by simp only[Tm.n]; omega⟩
       cases h
      cases h
     cases h
    cases h
   cases h
def ofT (s:Txt):Option Tm:=if s.length>60∨s.count 111>7 then none else match rd (s.length+1) s with
 | some (t,[])=>some t
 | _=>none
theorem zqr {s:Txt} {t:Tm} (h:ofT s=some t):t.ok∧t.n≤7∧s.length≤60∧s.count 111≤7∧rd (s.length+1) s=some (t,[]):=by
 unfold ofT at h
 split at h
 ·cases h
 rename_i hc
 split at h
 ·rename_i t' e
  cases h
  obtain ⟨h1,h2⟩:=yfz _ e
  simp only[List.count_nil]at h2
  exact ⟨h1,by omega,by omega,by omega,e⟩
 cases h
def tpV (s:Txt):Option (List Txt):=(ofT s).bind zdj
theorem yey {s:Txt} {p:List Txt} (h:tpV s=some p):∃ t,ofT s=some t∧zdj t=some p∧zal p=true∧(rP p).length≤7∧zci p=pm (td t)∧yfd p=true:=by
 unfold tpV at h
 rw [Option.bind_eq_some_iff]at h
 obtain ⟨t,h1,h2⟩:=h
 obtain ⟨k1,k2,-⟩:=zqr h1
 obtain ⟨j1,j2,j3⟩:=zif k1 (by omega) h2
 refine ⟨t,h1,h2,j1,by omega,j3,(z39 j1).1 ?_⟩
 rw [j3]
 exact zsc _ (zg0 k1).1
end
section
section
variable {P:Program} {T:Tab} {F:Nat→Prop} {G:GSt} {w:World} {e:Env} {a:Act} {F0:Nat→Prop} {G0:GSt} {w0:World} {N:Nat}
end
section
variable {P:Program} {T:Tab} {Q:Exit→Env→Store→Prop} {e:Env} {S:Store} {b:Code}
end
end
abbrev eBy (l:Txt):PV := .sl (l.map eB) l.length
theorem zxt {a b:Nat}:((a:Nat):Int).tmod ((b:Nat):Int)=((a % b:Nat):Int):=(Int.ofNat_tmod a b).symm
theorem ycz {a b:Nat}:((a:Nat):Int).tdiv ((b:Nat):Int)=((a / b:Nat):Int):=(Int.ofNat_tdiv a b).symm
theorem yf6 {a b:Nat} (ha:a<1099511627776) (hb:b<1099511627776):IntKind.i64.wrap ((BitVec.ofInt IntKind.i64.bits (a:Int) ^^^ BitVec.ofInt IntKind.i64.bits (b:Int)).toNat:Int)=((a ^^^ b:Nat):Int):=by
 have h1:(BitVec.ofInt 64 (a:Int)).toNat=a:=by simp [BitVec.toNat_ofInt]; omega
 have h2:(BitVec.ofInt 64 (b:Int)).toNat=b:=by simp [BitVec.toNat_ofInt]; omega
 have h3:(BitVec.ofInt IntKind.i64.bits (a:Int) ^^^ BitVec.ofInt IntKind.i64.bits (b:Int)).toNat=a ^^^ b:=by
  show (BitVec.ofInt 64 (a:Int) ^^^ BitVec.ofInt 64 (b:Int)).toNat=_
  rw [BitVec.toNat_xor,h1,h2]
 have h4:a ^^^ b<1099511627776:=Nat.xor_lt_two_pow (n:=40) ha hb
 rw [h3]
 exact w64 (by omega) (by omega)
theorem yew {k:Nat}:((k:Nat):Int).tdiv 64=((k / 64:Nat):Int):=(Int.ofNat_tdiv k 64).symm
theorem sf0:((64:Int)=0)=False:=by simp
def rdO (vr:Nat) (code:Txt) (q:Nat):Ob := .arr vr 131 2 [eBy code,.int .i64 (q:Int)]
theorem z34 {code:Txt} (hc:code.length≤1048576):PN Tryz.prog 43 [eBy code] (.ref 0 0 0) [rdO 0 (code.take 2000) 0] true:=by
 refine PN.of ⟨Tryz.func43,by kernel_rfl,rfl,by kernel_rfl⟩ zao mixed (by show 1≤Tryz.f43.ntmps; decide) ?_
 refine W.r fun K hK=>?_
 simp(disch:=omega)only[↓RU,RV,RH,↓reduceIte,qE,reduceCtorEq,if_pos,↓RS,RG,qA,qM,qL]
 apply hK;clear hK K
 refine W.seq ?_
 refine W.r fun K hK=>?_
 simp(disch:=omega)only[↓RU,RV,RH,↓reduceIte,qE,reduceCtorEq,if_pos,w64,↓RS,RG,qA,qM,qL,ty9,zaa,zaw]
 apply hK;clear hK K
 refine W.cond rfl (fun h=>?_) (fun h=>?_)
 ·try simp only[RL]at h
  refine W.k fun K hK=>?_
  simp(disch:=omega)only[↓RU,RV,RH,↓reduceIte,qE,reduceCtorEq,if_pos,Option.map_none,↓RS,RG,qA,qM,qL,ty9,zaw]
  apply hK;clear hK K
  refine xn ?_
  refine W.r fun K hK=>?_
  simp(disch:=omega)only[↓RU,RV,RH,↓reduceIte,qE,reduceCtorEq,if_pos,↓RS,RG,qA,qM,qL,ty9,zaa,z81,z82,zaw]
  apply hK;clear hK K
  refine W.ret ?_
  refine Br rfl ?_
  have e:(code.take 2000).length=2000:=by rw [List.length_take]; omega
  refine ⟨1,rfl,?_⟩
  simp [Store.take,zhx,zv8,sh,rdO,eBy,e,List.map_take]
 try simp only[RL]at h
 refine W.skip ?_
 refine xn ?_
 refine W.r fun K hK=>?_
 simp(disch:=omega)only[↓RU,RV,RH,↓reduceIte,qE,reduceCtorEq,if_pos,↓RS,RG,qA,qM,qL,ty9,zaa,z81,z82,zaw]
 apply hK;clear hK K
 refine W.ret ?_
 refine Br rfl ?_
 have e:code.take 2000=code:=qT (by omega)
 refine ⟨1,rfl,?_⟩
 simp [Store.take,zhx,zv8,sh,rdO,eBy,e]
theorem z76 {code:Txt} {q vr t:Nat} {R:List Ob} (hc:code.length≤1048576) (hq:q≤1000000) (n:Int) (hn:n≤1000000) (hn0 : -1000000≤n):Ev Tryz.prog 99 [.ref 0 vr 0,.int .i64 n] ⟨.arr vr 131 2 [eBy code,.int .i64 (q:Int)]::R,t⟩ fun v S=>∃ k:Nat,v = .int .i64 (k:Int)∧(n<1→k=0)∧(1≤n→(k:Int)<n)∧S=⟨.arr vr 131 2 [eBy code,.int .i64 ((q:Int)+1)]::R,t⟩:=by
 refine Ev.of ⟨Tryz.func99,by kernel_rfl,rfl,by kernel_rfl⟩ zao mixed (by show 2≤Tryz.f99.ntmps; decide) ?_
 refine W.r fun K hK=>?_
 simp(disch:=omega)only[↓RU,RV,RH,↓reduceIte,qE,reduceCtorEq,if_pos,↓RS,RG,qA,qM,qL]
 apply hK;clear hK K
 refine W.r fun K hK=>?_
 simp(disch:=omega)only[↓RU,RV,RH,↓reduceIte,qE,reduceCtorEq,if_pos,w64,↓RS,RG,qA,qM,qL,ty9,zaa,z81,z82,zaw]
 apply hK;clear hK K
 refine W.seq ?_
 refine W.r fun K hK=>?_
 by_cases hn1:n<1
 ·skip
  have hd:decide (n<1)=true:=decide_eq_true hn1
  simp(disch:=omega)only[↓RU,RV,RH,↓reduceIte,qE,reduceCtorEq,if_pos,w64,↓RS,RG,qA,qM,qL,ty9,zaa,z81,z82,zaw,hd]
  apply hK;clear hK K
  refine W.cond rfl (fun h0=>?_) (fun h0=>?_)
  ·try simp only[RL]at h0
   refine W.r fun K hK=>?_
   simp(disch:=omega)only[↓RU,RV,RH,↓reduceIte,qE,reduceCtorEq,if_pos,↓RS,RG,qA,qM,qL]
   apply hK;clear hK K
   refine W.ret ?_
   refine XThen.ret ?_
   refine Br rfl ?_
   exact ⟨_,0,rfl,fun _=>rfl,fun h9=>by omega,zan⟩
  try simp only[RL]at h0
  exact absurd h0 (by simp)
 skip
 have hd:decide (n<1)=false:=decide_eq_false hn1
 obtain ⟨m,rfl⟩:∃ m:Nat,n=m:=⟨n.toNat,by omega⟩
 simp(disch:=omega)only[↓RU,RV,RH,↓reduceIte,qE,reduceCtorEq,if_pos,w64,↓RS,RG,qA,qM,qL,ty9,zaa,z81,z82,zaw,hd]
 apply hK;clear hK K
 refine W.cond rfl (fun h0=>?_) (fun h0=>?_)
 ·try simp only[RL]at h0
  have hl0:code.length=0:=by simpa using h0
  refine W.r fun K hK=>?_
  simp(disch:=omega)only[↓RU,RV,RH,↓reduceIte,qE,reduceCtorEq,if_pos,↓RS,RG,qA,qM,qL]
  apply hK;clear hK K
  refine W.ret ?_
  refine XThen.ret ?_
  refine Br rfl ?_
  exact ⟨_,0,rfl,fun _=>rfl,fun h9=>by omega,zan⟩
 try simp only[RL]at h0
 have hl0:code.length≠0:=by intro h9; rw [h9]at h0; simp at h0
 obtain ⟨L,hL⟩:∃ L:Nat,code.length=L:=⟨_,rfl⟩
 have hLi:((L:Int)=0)=False:=by simp; omega
 have hmi:((m:Int)=0)=False:=by simp; omega
 rw [hL]at hl0 hc
 refine W.skip ?_
 refine xn ?_
 refine W.r fun K hK=>?_
 simp(disch:=omega)only[↓RU,RV,RH,↓reduceIte,qE,reduceCtorEq,if_pos,w64,↓RS,RG,qA,qM,qL,ty9,zaa,z81,z82,zaw]
 apply hK;clear hK K
 simp only[show ((q:Int)+1 - 1)=(q:Int) from by omega]
 refine W.seq ?_
 refine W.r fun K hK=>?_
 simp(disch:=omega)only[↓RU,RV,RH,↓reduceIte,qE,reduceCtorEq,if_pos,w64,↓RS,RG,qA,qM,qL,ty9,zaa,z81,z82,zaw,hL]
 apply hK;clear hK K
 refine W.cond rfl (fun h1=>?_) (fun h1=>?_)
 ·try simp only[RL]at h1
  obtain ⟨c,hcq,-⟩:=zai (show q<code.length by omega)
  have hc8:=c.toNat_lt
  refine W.r fun K hK=>?_
  simp(disch:=omega)only[↓RU,RV,RH,↓reduceIte,qE,reduceCtorEq,if_pos,w64,w64,↓RS,RG,qA,qM,qL,ty9,zaa,z81,z82,zaw,hcq,hmi,zxt]
  apply hK;clear hK K
  refine W.ret ?_
  refine XThen.ret ?_
  refine Br rfl ?_
  exact ⟨_,_,rfl,fun h9=>by omega,fun _=>by have:=Nat.mod_lt c.toNat (show 0<m by omega); omega,zan⟩
 try simp only[RL]at h1
 obtain ⟨c1,hc1,-⟩:=zai (show q % L<code.length by rw [hL]; exact Nat.mod_lt _ (by omega))
 obtain ⟨c2,hc2,-⟩:=zai (show (q*7+3) % L<code.length by rw [hL]; exact Nat.mod_lt _ (by omega))
 have hb1:=c1.toNat_lt
 have hb2:=c2.toNat_lt
 have hq7:(q:Int)*7+3=((q*7+3:Nat):Int):=by omega
 obtain ⟨d,hd⟩:∃ d,q / L=d:=⟨_,rfl⟩
 have hqL:d≤q:=hd ▸ Nat.div_le_self _ _
 have hml1:=Nat.mod_lt q (show 0<L by omega)
 have hml2:=Nat.mod_lt (q*7+3) (show 0<L by omega)
 refine W.skip ?_
 refine xn ?_
 refine W.seq_draw (by kernel_rfl) fun K hK=>?_
 simp(disch:=omega)only[↓RU,RV,RH,↓reduceIte,qE,reduceCtorEq,if_pos,w64,w64,↓RS,RG,qA,qM,qL,ty9,zaa,z81,z82,zaw,hL,hLi,zxt,ycz,hc1,hc2,hq7,hd]
 apply hK;clear hK K
 obtain ⟨Y,hY⟩:∃ Y:Nat,(c1.toNat:Int)*131+(c2.toNat:Int)*1117+(q:Int)*29+(d:Int)*53=Y:=⟨c1.toNat*131+c2.toNat*1117+q*29+d*53,by omega⟩
 have hYb:Y<1099511627776:=by omega
 have hYd:Y / 64<1099511627776:=by omega
 simp only[hY]
 refine W.r fun K hK=>?_
 simp(disch:=omega)only[↓RU,RV,RH,↓reduceIte,qE,reduceCtorEq,if_pos,w64,↓RS,RG,qA,qM,qL,zaa,sf0,yew,yf6 hYb hYd]
 apply hK;clear hK K
 refine W.r fun K hK=>?_
 simp(disch:=omega)only[↓RU,RV,RH,↓reduceIte,qE,reduceCtorEq,if_pos,w64,↓RS,RG,qA,qM,qL,zaa,hmi,zxt]
 apply hK;clear hK K
 refine W.ret ?_
 refine Br rfl ?_
 exact ⟨_,_,rfl,fun h9=>by omega,fun _=>by have:=Nat.mod_lt (Y ^^^ Y / 64) (show 0<m by omega); omega,zan⟩
def eT:Tm→PV
 | .o => .ip [.int .u8 111,.nils] 0
 | .un c t => .ip [eB c,.sl [eT t] 1] 0
 | .bin m a b => .ip [eB m,.sl [eT a,eT b] 2] 0
def eO:Option Tm→PV
 | some t=>eT t
 | none => .nilp
theorem zfn (t:Tm):∃ cs,eT t = .ip cs 0:=by cases t <;> exact ⟨_,rfl⟩
theorem zrq:eO none = .nilp:=rfl
theorem zh1 {t:Tm}:eO (some t)=eT t:=rfl
def hd0 (s:Txt):UInt8:=s.headD 0
def rdT (s:Txt):Option (Tm × Txt):=rd (s.length+1) s
theorem z3r {s:Txt} (h:hd0 s≠0):s.length=s.tail.length+1:=by
 cases s with
 | nil=>exact absurd rfl h
 | cons c s=>rfl
theorem zzr (s:Txt):rdT s=if hd0 s=111 then some (.o,s.tail) else if hd0 s=62∨hd0 s=94 then (match rdT s.tail with | some (t,r)=>some (.un (hd0 s) t,r) | none=>none)
  else if hd0 s=40 then (match rdT s.tail with | some (a,r)=>(if hd0 r=124∨hd0 r=45 then (match rdT r.tail with | some (b,r2)=>(if hd0 r2=41 then some (.bin (hd0 r) a b,r2.tail) else none) | none=>none) else none) | none=>none) else none:=by
 cases s with
 | nil=>simp [rdT,rd,hd0]
 | cons c s =>
  show rd (s.length+1+1) (c::s)=_
  rw [rd]
  by_cases e1:c=111
  ·rw [if_pos e1,if_pos (show hd0 (c::s)=111 from e1)]; rfl
  rw [if_neg e1,if_neg (show ¬ hd0 (c::s)=111 from e1)]
  by_cases e2:c=62∨c=94
  ·rw [if_pos e2,if_pos (show hd0 (c::s)=62∨hd0 (c::s)=94 from e2)]; rfl
  rw [if_neg e2,if_neg (show ¬ (hd0 (c::s)=62∨hd0 (c::s)=94) from e2)]
  by_cases e3:c=40
  ·rw [if_pos e3,if_pos (show hd0 (c::s)=40 from e3)]
   show (match rd (s.length+1) s with | some (a,m::r)=>_ | _=>none)=match rd (s.length+1) s with | some (a,r)=>_ | none=>none
   cases h:rd (s.length+1) s with
   | none=>rfl
   | some q =>
    obtain ⟨a,r⟩:=q
    cases r with
    | nil=>rfl
    | cons m r =>
     have hs:=(zzs _ h).1
     simp only[List.length_cons]at hs
     show (if m=124∨m=45 then _ else none)=if hd0 (m::r)=124∨hd0 (m::r)=45 then (match rd (r.length+1) r with | some (b,r2)=>_ | none=>none) else none
     by_cases e4:m=124∨m=45
     ·rw [if_pos e4,if_pos (show hd0 (m::r)=124∨hd0 (m::r)=45 from e4)]
      rw [ycc (s.length+1) (s:=r) (g:=r.length+1) (by omega) (by omega)]
      cases h2:rd (r.length+1) r with
      | none=>rfl
      | some q =>
       obtain ⟨b,r2⟩:=q
       cases r2 with
       | nil=>rfl
       | cons e r2=>rfl
     rw [if_neg e4,if_neg (show ¬ (hd0 (m::r)=124∨hd0 (m::r)=45) from e4)]
  rw [if_neg e3,if_neg (show ¬ hd0 (c::s)=40 from e3)]
def zj8 (s:Txt):Option Tm:=(rdT s).map (·.1)
theorem zmc (s:Txt) {ver t:Nat} (hs:s.length≤1048576):Ev Tryz.prog 104 [.ref 0 ver 0] ⟨[.arr ver 97 1 [.str s]],t⟩ fun v S=>v=eB (hd0 s)∧∃ t2,S=⟨[.arr ver 97 1 [.str s.tail]],t2⟩:=by
 refine Ev.of ⟨Tryz.func104,by kernel_rfl,rfl,by kernel_rfl⟩ zao mixed (by show 1≤Tryz.f104.ntmps; decide) ?_
 refine W.r fun K hK=>?_
 simp(disch:=omega)only[↓RU,RV,RH,↓reduceIte,qE,reduceCtorEq,if_pos,↓RS,RG,qA,qM,qL]
 apply hK;clear hK K
 refine W.seq ?_
 refine W.r fun K hK=>?_
 rcases s with _ | ⟨c,s⟩
 ·skip
  simp(disch:=omega)only[↓RU,RV,RH,↓reduceIte,qE,reduceCtorEq,if_pos,w64,↓RS,RG,qA,qM,qL,yc4,zae,yc5,Int.toNat_zero,Nat.zero_mul,qZ,qM,Nat.zero_add,Nat.mul_one,List.getElem?_cons_zero,List.getElem?_cons_succ]
  apply hK;clear hK K
  refine W.cond rfl (fun h0=>?_) (fun h0=>?_)
  ·try simp only[RL]at h0
   refine W.r fun K hK=>?_
   simp(disch:=omega)only[↓RU,RV,RH,↓reduceIte,qE,reduceCtorEq,if_pos,↓RS,RG,qA,qM,qL]
   apply hK;clear hK K
   refine W.ret ?_
   refine XThen.ret ?_
   refine Br rfl ?_
   exact ⟨1,rfl,_,rfl⟩
  try simp only[RL]at h0
  exact absurd h0 (by simp)
 skip
 simp(disch:=omega)only[↓RU,RV,RH,↓reduceIte,qE,reduceCtorEq,if_pos,w64,↓RS,RG,qA,qM,qL,yc4,zae,yc5,Int.toNat_zero,Nat.zero_mul,qZ,qM,Nat.zero_add,Nat.mul_one,List.getElem?_cons_zero,List.getElem?_cons_succ]
 apply hK;clear hK K
 refine W.cond rfl (fun h0=>?_) (fun h0=>?_)
 ·try simp only[RL]at h0
  exact absurd h0 (by simp)
 try simp only[RL]at h0
 refine W.skip ?_
 refine xn ?_
 refine W.r fun K hK=>?_
 simp(disch:=omega)only[↓RU,RV,RH,↓reduceIte,qE,reduceCtorEq,if_pos,↓RS,RG,qA,qM,qL,yc4,zae,yc5,Int.toNat_zero,Nat.zero_mul,qZ,qM,Nat.zero_add,Nat.mul_one,List.getElem?_cons_zero,List.getElem?_cons_succ]
 apply hK;clear hK K
 refine W.r fun K hK=>?_
 simp(disch:=omega)only[↓RU,RV,RH,↓reduceIte,qE,reduceCtorEq,if_pos,Option.map_none,↓RS,RG,qA,qM,qL,yc4,zae,yc5,Int.toNat_zero,Nat.zero_mul,qZ,qM,Nat.zero_add,Nat.mul_one,List.getElem?_cons_zero,List.getElem?_cons_succ,List.drop_succ_cons,List.drop_zero,List.take_length]
 apply hK;clear hK K
 refine W.r fun K hK=>?_
 simp(disch:=omega)only[↓RU,RV,RH,↓reduceIte,qE,reduceCtorEq,if_pos,↓RS,RG,qA,qM,qL]
 apply hK;clear hK K
 refine W.ret ?_
 refine Br rfl ?_
 exact ⟨1,rfl,_,rfl⟩
def JT (s:Txt) (ver:Nat) (v:PV) (S:Store):Prop:=v=eO (zj8 s)∧∃ (s':Txt) (t2:Nat),S=⟨[.arr ver 97 1 [.str s']],t2⟩∧s'.length≤s.length∧∀ u r,rdT s=some (u,r)→s'=r
def JF (s:Txt) (ver:Nat) (v:PV) (S:Store):Prop:=∃ v' S',frz S 1 10 v=some v'∧S.frz 1=some S'∧JT s ver v' S'
theorem u8i {c:UInt8} {k:Nat} (h:c.toNat=k) (hk:k<256):c=UInt8.ofNat k:=by
 apply UInt8.toNat_inj.1
 rw [h,UInt8.toNat_ofNat_of_lt' (by show k<256; omega)]
theorem zf8 {S:Store} {lo k o ver off:Nat}:rfz S lo (k+1) (.ref o ver off)=if lo≤o then (S.cellsOf o ver).bind fun cells=>(cells.mapM (rfz S lo k)).map (.ip · off) else none:=rfl
theorem zih {S:Store} {lo k n:Nat} {cs:List PV}:rfz S lo (k+1) (.ip cs n)=some (.ip cs n):=rfl
theorem zej {S:Store} {lo k:Nat}:rfz S lo (k+1) .nils=some .nils:=rfl
theorem yf3 {c:UInt8}:((c.toNat:Int) == 94)=decide (c=94):=by
 rw [Bool.eq_iff_iff,decide_eq_true_eq,beq_iff_eq]
 exact ⟨fun h=>u8i (k:=94) (by omega) (by decide),fun h=>by rw [h]; rfl⟩
theorem zml {cs:List PV} {n:Nat}:(PV.ip cs n).isDef=true:=rfl
theorem z2r {s s2 s4:Txt} (hb:rdT s=match rdT s.tail with | some (a,r)=>(if hd0 r=124∨hd0 r=45 then (match rdT r.tail with | some (b,r2)=>(if hd0 r2=41 then some (.bin (hd0 r) a b,r2.tail) else none) | none=>none) else none) | none=>none) (hr2:∀ u r,rdT s.tail=some (u,r)→s2=r) (hr4:∀ u r,rdT s2.tail=some (u,r)→s4=r) :
  (zj8 s.tail=none∧rdT s=none)∨(∃ a,zj8 s.tail=some a∧zj8 s2.tail=none∧rdT s=none)∨(∃ a b,zj8 s.tail=some a∧zj8 s2.tail=some b∧((hd0 s2≠124∧hd0 s2≠45∧rdT s=none)∨((hd0 s2=124∨hd0 s2=45)∧hd0 s4=41∧rdT s=some (.bin (hd0 s2) a b,s4.tail))∨((hd0 s2=124∨hd0 s2=45)∧hd0 s4≠41∧rdT s=none))):=by
 cases h1:rdT s.tail with
 | none=>rw [h1]at hb; exact .inl ⟨by rw [zj8,h1]; rfl,hb⟩
 | some q =>
  obtain ⟨a,r⟩:=q
  rw [h1]at hb
  have e2:=hr2 a r h1
  subst e2
  simp only at hb
  cases h2:rdT s2.tail with
  | none=>exact .inr (.inl ⟨a,by rw [zj8,h1]; rfl,by rw [zj8,h2]; rfl,by rw [hb,h2]; split <;> rfl⟩)
  | some q =>
   obtain ⟨b,r⟩:=q
   have e4:=hr4 b r h2
   subst e4
   rw [h2]at hb
   simp only at hb
   refine .inr (.inr ⟨a,b,by rw [zj8,h1]; rfl,by rw [zj8,h2]; rfl,?_⟩)
   by_cases k:hd0 s2=124∨hd0 s2=45
   ·rw [if_pos k]at hb
    by_cases k2:hd0 s4=41
    ·rw [if_pos k2]at hb; exact .inr (.inl ⟨k,k2,hb⟩)
    rw [if_neg k2]at hb; exact .inr (.inr ⟨k,k2,hb⟩)
   rw [if_neg k]at hb
   exact .inl ⟨fun e=>k (.inl e),fun e=>k (.inr e),hb⟩
theorem zcr {c:UInt8} {k:Nat} (h:c≠UInt8.ofNat k) (hk:k<256):¬ (c.toNat:Int)=(k:Int):=fun e=>h (u8i (by omega) hk)
theorem zgj {c:UInt8}:(eB c).cells=[eB c]:=rfl
theorem zmk {c:UInt8}:(eB c).isDef=true:=rfl
theorem zt2 {c:UInt8}:(eB c).isCell=true:=rfl
theorem zir {S:Store}:pEq tab S 41 .nilp .nilp=some true:=rfl
theorem ziq {S:Store} {cs:List PV} {n:Nat}:pEq tab S 41 (.ip cs n) .nilp=some false:=rfl
theorem z0z {ver tk:Nat} {s:Txt} {obs:List Ob}:Store.frz ⟨.arr ver 97 1 [.str s]::obs,tk⟩ 1=some ⟨[.arr ver 97 1 [.str s]],tk⟩:=by simp [Store.frz,zgn,zff,zh5]
theorem JF.mk {s s':Txt} {ver tk:Nat} {v val:PV} {obs:List Ob} (h1:frz ⟨.arr ver 97 1 [.str s']::obs,tk⟩ 1 10 v=some val) (h3:val=eO (zj8 s)) (h4:s'.length≤s.length) (h5:∀ u r,rdT s=some (u,r)→s'=r):JF s ver v ⟨.arr ver 97 1 [.str s']::obs,tk⟩ :=
 ⟨val,_,h1,z0z,h3,s',tk,rfl,h4,h5⟩
theorem zin (s:Txt):s.tail.length≤s.length:=by rw [List.length_tail]; omega
theorem z8x (s:Txt) {ver:Nat} (hs:s.length≤1048576) (ih:∀ s2:Txt,s2.length<s.length→∀ t,Ev Tryz.prog 55 [.ref 0 ver 0] ⟨[.arr ver 97 1 [.str s2]],t⟩ (JT s2 ver)) (t:Nat):Ev Tryz.prog 55 [.ref 0 ver 0] ⟨[.arr ver 97 1 [.str s]],t⟩ fun v S=>JF s ver v S:=by
 refine Ev.of ⟨Tryz.func55,by kernel_rfl,rfl,by kernel_rfl⟩ zao mixed (by show 1≤Tryz.f55.ntmps; decide) ?_
 refine W.r fun K hK=>?_
 simp(disch:=omega)only[↓RU,RV,RH,↓reduceIte,qE,reduceCtorEq,if_pos,↓RS,RG,qA,qM,qL]
 apply hK;clear hK K
 refine W.seq ?_
 refine W.r fun K hK=>?_
 simp(disch:=omega)only[↓RU,RV,RH,↓reduceIte,qE,reduceCtorEq,if_pos,qN,↓RS,RG,qA,qM,qL]
 refine zac.ev (zmc s hs) ?_
 rintro _ _ ⟨rfl,t1,rfl⟩
 simp(disch:=omega)only[↓RU,RV,RH,↓reduceIte,qE,reduceCtorEq,if_pos,qN,↓RS,RG,qA,qM,qL]
 apply hK;clear hK K
 refine W.r fun K hK=>?_
 simp(disch:=omega)only[↓RU,RV,RH,↓reduceIte,qE,reduceCtorEq,if_pos,↓RS,RG,qA,qM,qL]
 apply hK;clear hK K
 refine W.block ?_
 refine W.r fun K hK=>?_
 simp(disch:=omega)only[↓RU,RV,RH,↓reduceIte,qE,reduceCtorEq,if_pos,w64,↓RS,RG,qA,qM,qL,zaw]
 apply hK;clear hK K
 refine W.cond rfl (fun h0=>?_) (fun h0=>?_)
 ·try simp only[RL]at h0
  have hc:hd0 s=111:=u8i (k:=111) (by omega) (by decide)
  have hl:=z3r (s:=s) (by rw [hc]; decide)
  have hrd:rdT s=some (.o,s.tail):=by rw [zzr,if_pos hc]
  refine W.r fun K hK=>?_
  simp(disch:=omega)only[↓RU,RV,RH,↓reduceIte,qE,reduceCtorEq,if_pos,↓RS,RG,qA,qM,qL,ty3,zet,zhs,zht,zaw]
  apply hK;clear hK K
  refine W.ret ?_
  refine XBlock.ret ?_
  refine XThen.ret ?_
  refine Br rfl ?_
  refine ⟨2,JF.mk (val:=eT .o) ?_ ?_ ?_ ?_⟩
  ·simp [Env.put,Env.of,zaf,Store.take,zf4,zf8,zc4,zdd,zih,zej,Store.cellsOf,eB,eT,hc]
  ·rw [zj8,hrd]; rfl
  ·omega
  intro u r h; rw [hrd]at h; cases h; rfl
 try simp only[RL]at h0
 have hc0:¬ hd0 s=111:=fun e=>h0 (by rw [e]; rfl)
 refine W.join [0,3,10,16] (fun vs S=>∃ b:Bool,(b=true↔(hd0 s=62∨hd0 s=94))∧vs=[.ref 0 ver 0,eB (hd0 s),eB (hd0 s),.bool b]∧S=⟨[.arr ver 97 1 [.str s.tail]],t1⟩) ?_ ?_
 ·
  refine W.r fun K hK=>?_
  simp(disch:=omega)only[↓RU,RV,RH,↓reduceIte,qE,reduceCtorEq,if_pos,w64,↓RS,RG,qA,qM,qL,zaw]
  apply hK;clear hK K
  refine W.cond rfl (fun h1=>?_) (fun h1=>?_)
  ·try simp only[RL]at h1
   refine W.skip ?_
   refine xn ?_
   refine ⟨1,true,⟨fun _ => .inl (u8i (k:=62) (by omega) (by decide)),fun _=>rfl⟩,?_,rfl⟩
   simp [Env.put,Env.of,zaf]; simpa using h1
  try simp only[RL]at h1
  refine W.k fun K hK=>?_
  simp(disch:=omega)only[↓RU,RV,RH,↓reduceIte,qE,reduceCtorEq,if_pos,w64,↓RS,RG,qA,qM,qL,zaw]
  apply hK;clear hK K
  refine xn ?_
  refine ⟨1,decide (hd0 s=94),⟨fun e => .inr (of_decide_eq_true e),fun e=>decide_eq_true (e.resolve_left fun e=>h1 (by rw [e]; rfl))⟩,?_,rfl⟩
  simp [Env.put,Env.of,zaf,yf3]
 rintro vs S - ⟨b,hb,rfl,rfl⟩
 refine W.cond rfl (fun h2=>?_) (fun h2=>?_)
 ·try simp only[RL]at h2
  have hcu:=hb.1 h2
  have hl:=z3r (s:=s) (by rcases hcu with e | e <;> rw [e] <;> decide)
  have hun:=zzr s
  rw [if_neg hc0,if_pos hcu]at hun
  refine W.r fun K hK=>?_
  simp(disch:=omega)only[↓RU,RV,RH,↓reduceIte,qE,reduceCtorEq,if_pos,qN,↓RS,RG,qA,qM,qL]
  refine zac.ev (ih s.tail (by omega) t1) ?_
  rintro _ _ ⟨rfl,s2,t2,rfl,hs2,hr2⟩
  simp(disch:=omega)only[↓RU,RV,RH,↓reduceIte,qE,reduceCtorEq,if_pos,qN,↓RS,RG,qA,qM,qL]
  apply hK;clear hK K
  refine W.r fun K hK=>?_
  rcases hq:rdT s.tail with _ | ⟨u,r⟩
  ·skip
   have hno:rdT s=none:=by rw [hun,hq]
   have e1:zj8 s.tail=none:=by rw [zj8,hq]; rfl
   rw [e1]
   simp only[eO]
   simp(disch:=omega)only[↓RU,RV,RH,↓reduceIte,qE,reduceCtorEq,if_pos,w64,↓RS,RG,qA,qM,qL,zet,zir,ziq,qO,Bool.not_true,Bool.not_false]
   apply hK;clear hK K
   refine W.cond rfl (fun h3=>?_) (fun h3=>?_)
   ·try simp only[RL]at h3
    exact absurd h3 (by simp)
   try simp only[RL]at h3
   refine W.skip ?_
   refine XbN ?_
   refine xn ?_
   refine W.r fun K hK=>?_
   simp(disch:=omega)only[↓RU,RV,RH,↓reduceIte,qE,reduceCtorEq,if_pos,↓RS,RG,qA,qM,qL]
   apply hK;clear hK K
   refine W.ret ?_
   refine Br rfl ?_
   refine ⟨1,JF.mk (val := .nilp) ?_ ?_ ?_ ?_⟩
   ·simp [Env.put,Env.of,zaf,Store.take,zf4,zf8,zc4,zdd,zih,zej,Store.cellsOf,eB,eT,zhe]
   ·rw [zj8,hno]; rfl
   ·omega
   intro u r h; rw [hno]at h; cases h
  skip
  have hyes:rdT s=some (.un (hd0 s) u,r):=by rw [hun,hq]
  have e1:zj8 s.tail=some u:=by rw [zj8,hq]; rfl
  obtain ⟨cu,hcu2⟩:=zfn u
  rw [e1]
  simp only[eO,hcu2]
  obtain rfl:=hr2 u r hq
  simp(disch:=omega)only[↓RU,RV,RH,↓reduceIte,qE,reduceCtorEq,if_pos,w64,↓RS,RG,qA,qM,qL,zet,zir,ziq,qO,Bool.not_true,Bool.not_false]
  apply hK;clear hK K
  refine W.cond rfl (fun h3=>?_) (fun h3=>?_)
  ·try simp only[RL]at h3
   refine W.r fun K hK=>?_
   simp(disch:=omega)only[↓RU,RV,RH,↓reduceIte,qE,reduceCtorEq,if_pos,↓RS,RG,qA,qM,qL,ty3,zet,zhs,zht,zaw,zml,zpp,ze6,zgj,zmk,zt2]
   apply hK;clear hK K
   refine W.ret ?_
   refine XBlock.ret ?_
   refine XThen.ret ?_
   refine Br rfl ?_
   refine ⟨3,JF.mk (val:=eT (.un (hd0 s) u)) ?_ ?_ ?_ ?_⟩
   ·simp [Env.put,Env.of,zaf,Store.take,zf4,zf8,zc4,zdd,zih,zej,Store.cellsOf,eB,eT,hcu2]
   ·rw [zj8,hyes]; rfl
   ·omega
   intro u r h; rw [hyes]at h; cases h; rfl
  try simp only[RL]at h3
  exact absurd h3 (by simp)
 try simp only[RL]at h2
 have hcu:¬ (hd0 s=62∨hd0 s=94):=fun e=>by rw [hb.2 e]at h2; cases h2
 refine W.r fun K hK=>?_
 simp(disch:=omega)only[↓RU,RV,RH,↓reduceIte,qE,reduceCtorEq,if_pos,w64,↓RS,RG,qA,qM,qL,zaw]
 apply hK;clear hK K
 refine W.cond rfl (fun h4=>?_) (fun h4=>?_)
 ·try simp only[RL]at h4
  have hc:hd0 s=40:=u8i (k:=40) (by omega) (by decide)
  have hl:=z3r (s:=s) (by rw [hc]; decide)
  have ht1:=zin s
  have hbin:=zzr s
  rw [if_neg hc0,if_neg hcu,if_pos hc]at hbin
  refine W.r fun K hK=>?_
  simp(disch:=omega)only[↓RU,RV,RH,↓reduceIte,qE,reduceCtorEq,if_pos,qN,↓RS,RG,qA,qM,qL]
  refine zac.ev (ih s.tail (by omega) t1) ?_
  rintro _ _ ⟨rfl,s2,t2,rfl,hs2,hr2⟩
  simp(disch:=omega)only[↓RU,RV,RH,↓reduceIte,qE,reduceCtorEq,if_pos,qN,↓RS,RG,qA,qM,qL]
  apply hK;clear hK K
  refine W.r fun K hK=>?_
  simp(disch:=omega)only[↓RU,RV,RH,↓reduceIte,qE,reduceCtorEq,if_pos,qN,↓RS,RG,qA,qM,qL]
  refine zac.ev (zmc s2 (by omega)) ?_
  rintro _ _ ⟨rfl,t3,rfl⟩
  simp(disch:=omega)only[↓RU,RV,RH,↓reduceIte,qE,reduceCtorEq,if_pos,qN,↓RS,RG,qA,qM,qL]
  apply hK;clear hK K
  refine W.r fun K hK=>?_
  have ht2:=zin s2
  simp(disch:=omega)only[↓RU,RV,RH,↓reduceIte,qE,reduceCtorEq,if_pos,qN,↓RS,RG,qA,qM,qL]
  refine zac.ev (ih s2.tail (by omega) t3) ?_
  rintro _ _ ⟨rfl,s4,t4,rfl,hs4,hr4⟩
  simp(disch:=omega)only[↓RU,RV,RH,↓reduceIte,qE,reduceCtorEq,if_pos,qN,↓RS,RG,qA,qM,qL]
  apply hK;clear hK K
  refine W.r fun K hK=>?_
  rcases z2r hbin hr2 hr4 with ⟨e1,hno⟩ | ⟨a,e1,e2,hno⟩ | ⟨a,b2,e1,e2,⟨n1,n2,hno⟩ | ⟨m1 | m1,k1,hyes⟩ | ⟨m1 | m1,k1,hno⟩⟩
  ·skip
   rw [e1,zrq]
   simp(disch:=omega)only[↓RU,RV,RH,↓reduceIte,qE,reduceCtorEq,if_pos,w64,qN,↓RS,RG,qA,qM,qL,zet,zaw,zir,ziq,qO,Bool.not_true,Bool.not_false]
   apply hK;clear hK K
   refine W.cond rfl (fun h5=>?_) (fun h5=>?_)
   ·try simp only[RL]at h5
    exact absurd h5 (by simp)
   try simp only[RL]at h5
   refine W.skip ?_
   refine XbN ?_
   refine xn ?_
   refine W.r fun K hK=>?_
   simp(disch:=omega)only[↓RU,RV,RH,↓reduceIte,qE,reduceCtorEq,if_pos,↓RS,RG,qA,qM,qL]
   apply hK;clear hK K
   refine W.ret ?_
   refine Br rfl ?_
   refine ⟨1,JF.mk (val := .nilp) ?_ ?_ ?_ ?_⟩
   ·simp [Env.put,Env.of,zaf,Store.take,zf4,zf8,zc4,zdd,zih,zej,Store.cellsOf,eB,eT,zhe]
   ·rw [zj8,hno]; rfl
   ·omega
   intro u r h; rw [hno]at h; cases h
  ·skip
   rw [e1,e2]
   obtain ⟨ca,hca⟩:=zfn a
   simp only[zrq,zh1,hca]
   simp(disch:=omega)only[↓RU,RV,RH,↓reduceIte,qE,reduceCtorEq,if_pos,w64,qN,↓RS,RG,qA,qM,qL,zet,zaw,zir,ziq,qO,Bool.not_true,Bool.not_false]
   apply hK;clear hK K
   refine W.cond rfl (fun h5=>?_) (fun h5=>?_)
   ·try simp only[RL]at h5
    exact absurd h5 (by simp)
   try simp only[RL]at h5
   refine W.skip ?_
   refine XbN ?_
   refine xn ?_
   refine W.r fun K hK=>?_
   simp(disch:=omega)only[↓RU,RV,RH,↓reduceIte,qE,reduceCtorEq,if_pos,↓RS,RG,qA,qM,qL]
   apply hK;clear hK K
   refine W.ret ?_
   refine Br rfl ?_
   refine ⟨1,JF.mk (val := .nilp) ?_ ?_ ?_ ?_⟩
   ·simp [Env.put,Env.of,zaf,Store.take,zf4,zf8,zc4,zdd,zih,zej,Store.cellsOf,eB,eT,zhe]
   ·rw [zj8,hno]; rfl
   ·omega
   intro u r h; rw [hno]at h; cases h
  ·skip
   have ht4:=zin s4
   rw [e1,e2]
   obtain ⟨ca,hca⟩:=zfn a
   obtain ⟨cb,hcb⟩:=zfn b2
   simp only[zh1,hca,hcb]
   have d1:(((hd0 s2).toNat:Int) == 124)=false:=by rw [beq_eq_false_iff_ne]; exact zcr (k:=124) (by assumption) (by decide)
   have d2:(((hd0 s2).toNat:Int) == 45)=false:=by rw [beq_eq_false_iff_ne]; exact zcr (k:=45) (by assumption) (by decide)
   simp(disch:=omega)only[↓RU,RV,RH,↓reduceIte,qE,reduceCtorEq,if_pos,w64,qN,↓RS,RG,qA,qM,qL,zet,zaw,zir,ziq,qO,Bool.not_true,Bool.not_false,d1,d2]
   apply hK;clear hK K
   refine W.cond rfl (fun h5=>?_) (fun h5=>?_)
   ·try simp only[RL]at h5
    exact absurd h5 (by simp)
   try simp only[RL]at h5
   refine W.skip ?_
   refine XbN ?_
   refine xn ?_
   refine W.r fun K hK=>?_
   simp(disch:=omega)only[↓RU,RV,RH,↓reduceIte,qE,reduceCtorEq,if_pos,↓RS,RG,qA,qM,qL]
   apply hK;clear hK K
   refine W.ret ?_
   refine Br rfl ?_
   refine ⟨1,JF.mk (val := .nilp) ?_ ?_ ?_ ?_⟩
   ·simp [Env.put,Env.of,zaf,Store.take,zf4,zf8,zc4,zdd,zih,zej,Store.cellsOf,eB,eT,zhe]
   ·rw [zj8,hno]; rfl
   ·omega
   intro u r h; rw [hno]at h; cases h
  ·skip
   have ht4:=zin s4
   rw [e1,e2]
   obtain ⟨ca,hca⟩:=zfn a
   obtain ⟨cb,hcb⟩:=zfn b2
   simp only[zh1,hca,hcb]
   have d1:(((hd0 s2).toNat:Int) == 124)=true:=by rw [m1]; rfl
   have d3:(((hd0 s4).toNat:Int) == 41)=true:=by rw [k1]; rfl
   simp(disch:=omega)only[↓RU,RV,RH,↓reduceIte,qE,reduceCtorEq,if_pos,w64,qN,↓RS,RG,qA,qM,qL,zet,zaw,zir,ziq,qO,Bool.not_true,Bool.not_false,d1,d3]
   refine zac.ev (zmc s4 (by omega)) ?_
   rintro _ _ ⟨rfl,t5,rfl⟩
   simp(disch:=omega)only[↓RU,RV,RH,↓reduceIte,qE,reduceCtorEq,if_pos,w64,qN,↓RS,RG,qA,qM,qL,zet,zaw,zir,ziq,qO,Bool.not_true,Bool.not_false,d1,d3]
   apply hK;clear hK K
   refine W.cond rfl (fun h5=>?_) (fun h5=>?_)
   ·try simp only[RL]at h5
    refine W.r fun K hK=>?_
    simp(disch:=omega)only[↓RU,RV,RH,↓reduceIte,qE,reduceCtorEq,if_pos,↓RS,RG,qA,qM,qL,ty3,zet,zhs,zht,zaw,zml,zpp,ze6,zgj,zmk,zt2]
    apply hK;clear hK K
    refine W.ret ?_
    refine XBlock.ret ?_
    refine XThen.ret ?_
    refine Br rfl ?_
    refine ⟨4,JF.mk (val:=eT (.bin (hd0 s2) a b2)) ?_ ?_ ?_ ?_⟩
    ·simp [Env.put,Env.of,zaf,Store.take,zf4,zf8,zc4,zdd,zih,zej,Store.cellsOf,eB,eT,hca,hcb]
    ·rw [zj8,hyes]; rfl
    ·omega
    intro u r h; rw [hyes]at h; cases h; rfl
   try simp only[RL]at h5
   exact absurd h5 (by simp)
  ·skip
   have ht4:=zin s4
   rw [e1,e2]
   obtain ⟨ca,hca⟩:=zfn a
   obtain ⟨cb,hcb⟩:=zfn b2
   simp only[zh1,hca,hcb]
   have m2:hd0 s2≠UInt8.ofNat 124:=by rw [m1]; decide
   have d1:(((hd0 s2).toNat:Int) == 124)=false:=by rw [beq_eq_false_iff_ne]; exact zcr (k:=124) (by assumption) (by decide)
   have d2:(((hd0 s2).toNat:Int) == 45)=true:=by rw [m1]; rfl
   have d3:(((hd0 s4).toNat:Int) == 41)=true:=by rw [k1]; rfl
   simp(disch:=omega)only[↓RU,RV,RH,↓reduceIte,qE,reduceCtorEq,if_pos,w64,qN,↓RS,RG,qA,qM,qL,zet,zaw,zir,ziq,qO,Bool.not_true,Bool.not_false,d1,d2,d3]
   refine zac.ev (zmc s4 (by omega)) ?_
   rintro _ _ ⟨rfl,t5,rfl⟩
   simp(disch:=omega)only[↓RU,RV,RH,↓reduceIte,qE,reduceCtorEq,if_pos,w64,qN,↓RS,RG,qA,qM,qL,zet,zaw,zir,ziq,qO,Bool.not_true,Bool.not_false,d1,d2,d3]
   apply hK;clear hK K
   refine W.cond rfl (fun h5=>?_) (fun h5=>?_)
   ·try simp only[RL]at h5
    refine W.r fun K hK=>?_
    simp(disch:=omega)only[↓RU,RV,RH,↓reduceIte,qE,reduceCtorEq,if_pos,↓RS,RG,qA,qM,qL,ty3,zet,zhs,zht,zaw,zml,zpp,ze6,zgj,zmk,zt2]
    apply hK;clear hK K
    refine W.ret ?_
    refine XBlock.ret ?_
    refine XThen.ret ?_
    refine Br rfl ?_
    refine ⟨4,JF.mk (val:=eT (.bin (hd0 s2) a b2)) ?_ ?_ ?_ ?_⟩
    ·simp [Env.put,Env.of,zaf,Store.take,zf4,zf8,zc4,zdd,zih,zej,Store.cellsOf,eB,eT,hca,hcb]
    ·rw [zj8,hyes]; rfl
    ·omega
    intro u r h; rw [hyes]at h; cases h; rfl
   try simp only[RL]at h5
   exact absurd h5 (by simp)
  ·skip
   have ht4:=zin s4
   rw [e1,e2]
   obtain ⟨ca,hca⟩:=zfn a
   obtain ⟨cb,hcb⟩:=zfn b2
   simp only[zh1,hca,hcb]
   have d1:(((hd0 s2).toNat:Int) == 124)=true:=by rw [m1]; rfl
   have d3:(((hd0 s4).toNat:Int) == 41)=false:=by rw [beq_eq_false_iff_ne]; exact zcr (k:=41) (by assumption) (by decide)
   simp(disch:=omega)only[↓RU,RV,RH,↓reduceIte,qE,reduceCtorEq,if_pos,w64,qN,↓RS,RG,qA,qM,qL,zet,zaw,zir,ziq,qO,Bool.not_true,Bool.not_false,d1,d3]
   refine zac.ev (zmc s4 (by omega)) ?_
   rintro _ _ ⟨rfl,t5,rfl⟩
   simp(disch:=omega)only[↓RU,RV,RH,↓reduceIte,qE,reduceCtorEq,if_pos,w64,qN,↓RS,RG,qA,qM,qL,zet,zaw,zir,ziq,qO,Bool.not_true,Bool.not_false,d1,d3]
   apply hK;clear hK K
   refine W.cond rfl (fun h5=>?_) (fun h5=>?_)
   ·try simp only[RL]at h5
    exact absurd h5 (by simp)
   try simp only[RL]at h5
   refine W.skip ?_
   refine XbN ?_
   refine xn ?_
   refine W.r fun K hK=>?_
   simp(disch:=omega)only[↓RU,RV,RH,↓reduceIte,qE,reduceCtorEq,if_pos,↓RS,RG,qA,qM,qL]
   apply hK;clear hK K
   refine W.ret ?_
   refine Br rfl ?_
   refine ⟨1,JF.mk (val := .nilp) ?_ ?_ ?_ ?_⟩
   ·simp [Env.put,Env.of,zaf,Store.take,zf4,zf8,zc4,zdd,zih,zej,Store.cellsOf,eB,eT,zhe]
   ·rw [zj8,hno]; rfl
   ·omega
   intro u r h; rw [hno]at h; cases h
  skip
  have ht4:=zin s4
  rw [e1,e2]
  obtain ⟨ca,hca⟩:=zfn a
  obtain ⟨cb,hcb⟩:=zfn b2
  simp only[zh1,hca,hcb]
  have m2:hd0 s2≠UInt8.ofNat 124:=by rw [m1]; decide
  have d1:(((hd0 s2).toNat:Int) == 124)=false:=by rw [beq_eq_false_iff_ne]; exact zcr (k:=124) (by assumption) (by decide)
  have d2:(((hd0 s2).toNat:Int) == 45)=true:=by rw [m1]; rfl
  have d3:(((hd0 s4).toNat:Int) == 41)=false:=by rw [beq_eq_false_iff_ne]; exact zcr (k:=41) (by assumption) (by decide)
  simp(disch:=omega)only[↓RU,RV,RH,↓reduceIte,qE,reduceCtorEq,if_pos,w64,qN,↓RS,RG,qA,qM,qL,zet,zaw,zir,ziq,qO,Bool.not_true,Bool.not_false,d1,d2,d3]
  refine zac.ev (zmc s4 (by omega)) ?_
  rintro _ _ ⟨rfl,t5,rfl⟩
  simp(disch:=omega)only[↓RU,RV,RH,↓reduceIte,qE,reduceCtorEq,if_pos,w64,qN,↓RS,RG,qA,qM,qL,zet,zaw,zir,ziq,qO,Bool.not_true,Bool.not_false,d1,d2,d3]
  apply hK;clear hK K
  refine W.cond rfl (fun h5=>?_) (fun h5=>?_)
  ·try simp only[RL]at h5
   exact absurd h5 (by simp)
  try simp only[RL]at h5
  refine W.skip ?_
  refine XbN ?_
  refine xn ?_
  refine W.r fun K hK=>?_
  simp(disch:=omega)only[↓RU,RV,RH,↓reduceIte,qE,reduceCtorEq,if_pos,↓RS,RG,qA,qM,qL]
  apply hK;clear hK K
  refine W.ret ?_
  refine Br rfl ?_
  refine ⟨1,JF.mk (val := .nilp) ?_ ?_ ?_ ?_⟩
  ·simp [Env.put,Env.of,zaf,Store.take,zf4,zf8,zc4,zdd,zih,zej,Store.cellsOf,eB,eT,zhe]
  ·rw [zj8,hno]; rfl
  ·omega
  intro u r h; rw [hno]at h; cases h
 try simp only[RL]at h4
 have hno:rdT s=none:=by rw [zzr,if_neg hc0,if_neg hcu,if_neg fun e=>h4 (by rw [e]; rfl)]
 have ht1:=zin s
 refine W.skip ?_
 refine XbN ?_
 refine xn ?_
 refine W.r fun K hK=>?_
 simp(disch:=omega)only[↓RU,RV,RH,↓reduceIte,qE,reduceCtorEq,if_pos,↓RS,RG,qA,qM,qL]
 apply hK;clear hK K
 refine W.ret ?_
 refine Br rfl ?_
 refine ⟨1,JF.mk (val := .nilp) ?_ ?_ ?_ ?_⟩
 ·simp [Env.put,Env.of,zaf,Store.take,zf4,zf8,zc4,zdd,zih,zej,Store.cellsOf,eB,eT,zhe]
 ·rw [zj8,hno]; rfl
 ·omega
 intro u r h; rw [hno]at h; cases h
theorem yc0 {ver:Nat}:∀ (n:Nat) (s:Txt),s.length≤n→s.length≤1048576→∀ t,Ev Tryz.prog 55 [.ref 0 ver 0] ⟨[.arr ver 97 1 [.str s]],t⟩ (JT s ver):=by
 intro n
 induction n using Nat.strongRecOn with
 | _ n ih =>
  intro s hn hs t
  exact (z8x s hs (fun s2 h2 t=>ih s2.length (by omega) s2 (qR _) (by omega) t) t).fz 1 fun v S1 h=>h
theorem z95 {s:Txt} (h1:s.length≤60) (h2:s.count 111≤7):ofT s=match rdT s with | some (t,[])=>some t | _=>none:=by
 unfold ofT
 rw [if_neg (by omega)]
 rfl
theorem zr2 {s:Txt} (h:60<s.length∨7<s.count 111):ofT s=none:=by
 unfold ofT
 rw [if_pos h]
theorem zno (t:Tm) {S:Store}:reify S true 10 (eT t)=some (eT t):=by cases t <;> rfl
theorem zvw (s:Txt) (hs:s.length≤1048576):PC Tryz.prog 24 [.str s] (eO (ofT s)) false:=by
 refine PC.of ⟨Tryz.func24,by kernel_rfl,rfl,by kernel_rfl⟩ zao mixed (by show 1≤Tryz.f24.ntmps; decide) ?_
 refine W.r fun K hK=>?_
 simp(disch:=omega)only[↓RU,RV,RH,↓reduceIte,qE,reduceCtorEq,if_pos,↓RS,RG,qA,qM,qL]
 apply hK;clear hK K
 refine W.seq ?_
 refine W.r fun K hK=>?_
 rcases (show 60<s.length∨(s.length≤60∧7<s.count 111)∨(s.length≤60∧s.count 111≤7) by omega) with q1 | ⟨q1,q2⟩ | ⟨q1,q2⟩
 ·skip
  have d1:decide ((s.length:Int)>60)=true:=decide_eq_true (by omega)
  simp(disch:=omega)only[↓RU,RV,RH,↓reduceIte,qE,reduceCtorEq,if_pos,w64,qN,↓RS,RG,qA,qM,qL,zaa,zae,d1]
  apply hK;clear hK K
  refine W.cond rfl (fun h0=>?_) (fun h0=>?_)
  ·try simp only[RL]at h0
   refine W.r fun K hK=>?_
   simp(disch:=omega)only[↓RU,RV,RH,↓reduceIte,qE,reduceCtorEq,if_pos,↓RS,RG,qA,qM,qL]
   apply hK;clear hK K
   refine W.ret ?_
   refine XThen.ret ?_
   refine Br rfl ?_
   rw [zr2 (.inl q1)]
   rfl
  try simp only[RL]at h0
  exact absurd h0 (by simp)
 ·skip
  have d1:decide ((s.length:Int)>60)=false:=decide_eq_false (by omega)
  have d2:decide (((s.count 111:Nat):Int)>7)=true:=decide_eq_true (by omega)
  simp(disch:=omega)only[↓RU,RV,RH,↓reduceIte,qE,reduceCtorEq,if_pos,w64,qN,↓RS,RG,qA,qM,qL,zaa,zae,d1,d2]
  refine zac.pc (zye s) rfl (.inl rfl) ?_
  simp(disch:=omega)only[↓RU,RV,RH,↓reduceIte,qE,reduceCtorEq,if_pos,w64,qN,↓RS,RG,qA,qM,qL,zaa,zae,d1,d2]
  apply hK;clear hK K
  refine W.cond rfl (fun h0=>?_) (fun h0=>?_)
  ·try simp only[RL]at h0
   refine W.r fun K hK=>?_
   simp(disch:=omega)only[↓RU,RV,RH,↓reduceIte,qE,reduceCtorEq,if_pos,↓RS,RG,qA,qM,qL]
   apply hK;clear hK K
   refine W.ret ?_
   refine XThen.ret ?_
   refine Br rfl ?_
   rw [zr2 (.inr q2)]
   rfl
  try simp only[RL]at h0
  exact absurd h0 (by simp)
 skip
 have d1:decide ((s.length:Int)>60)=false:=decide_eq_false (by omega)
 have d2:decide (((s.count 111:Nat):Int)>7)=false:=decide_eq_false (by omega)
 simp(disch:=omega)only[↓RU,RV,RH,↓reduceIte,qE,reduceCtorEq,if_pos,w64,qN,↓RS,RG,qA,qM,qL,zaa,zae,d1,d2]
 refine zac.pc (zye s) rfl (.inl rfl) ?_
 simp(disch:=omega)only[↓RU,RV,RH,↓reduceIte,qE,reduceCtorEq,if_pos,w64,qN,↓RS,RG,qA,qM,qL,zaa,zae,d1,d2]
 apply hK;clear hK K
 refine W.cond rfl (fun h0=>?_) (fun h0=>?_)
 ·try simp only[RL]at h0
  exact absurd h0 (by simp)
 try simp only[RL]at h0
 refine W.skip ?_
 refine xn ?_
 refine W.r fun K hK=>?_
 simp(disch:=omega)only[↓RU,RV,RH,↓reduceIte,qE,reduceCtorEq,if_pos,↓RS,RG,qA,qM,qL,yc4,zae,yc5]
 apply hK;clear hK K
 refine W.r fun K hK=>?_
 simp(disch:=omega)only[↓RU,RV,RH,↓reduceIte,qE,reduceCtorEq,if_pos,qN,↓RS,RG,qA,qM,qL]
 refine zac.ev (yc0 s.length s (qR _) hs _) ?_
 rintro _ _ ⟨rfl,s2,t2,rfl,hs2,hr2⟩
 simp(disch:=omega)only[↓RU,RV,RH,↓reduceIte,qE,reduceCtorEq,if_pos,qN,↓RS,RG,qA,qM,qL]
 apply hK;clear hK K
 refine W.seq ?_
 refine W.r fun K hK=>?_
 rcases s2 with _ | ⟨c,s2⟩
 ·skip
  simp(disch:=omega)only[↓RU,RV,RH,↓reduceIte,qE,reduceCtorEq,if_pos,w64,↓RS,RG,qA,qM,qL,yc4,zae,yc5]
  apply hK;clear hK K
  refine W.cond rfl (fun h1=>?_) (fun h1=>?_)
  ·try simp only[RL]at h1
   exact absurd h1 (by simp)
  try simp only[RL]at h1
  refine W.skip ?_
  refine xn ?_
  refine W.r fun K hK=>?_
  simp(disch:=omega)only[↓RU,RV,RH,↓reduceIte,qE,reduceCtorEq,if_pos,↓RS,RG,qA,qM,qL]
  apply hK;clear hK K
  refine W.ret ?_
  refine Br rfl ?_
  have e:eO (ofT s)=eO (zj8 s):=by
   rw [z95 q1 q2,zj8]
   cases h:rdT s with
   | none=>rfl
   | some q=>obtain ⟨t,r⟩:=q; obtain rfl:=hr2 t r h; rfl
  rw [e]
  cases h:zj8 s with
  | none=>rfl
  | some q=>exact zno q
 skip
 simp(disch:=omega)only[↓RU,RV,RH,↓reduceIte,qE,reduceCtorEq,if_pos,w64,↓RS,RG,qA,qM,qL,yc4,zae,yc5]
 apply hK;clear hK K
 refine W.cond rfl (fun h1=>?_) (fun h1=>?_)
 ·try simp only[RL]at h1
  refine W.r fun K hK=>?_
  simp(disch:=omega)only[↓RU,RV,RH,↓reduceIte,qE,reduceCtorEq,if_pos,↓RS,RG,qA,qM,qL]
  apply hK;clear hK K
  refine W.ret ?_
  refine XThen.ret ?_
  refine Br rfl ?_
  have e:ofT s=none:=by
   rw [z95 q1 q2]
   cases h:rdT s with
   | none=>rfl
   | some q=>obtain ⟨t,r⟩:=q; obtain rfl:=hr2 t r h; rfl
  rw [e]
  rfl
 try simp only[RL]at h1
 exact absurd h1 (by simp)
section
section
variable {p:List Txt} {room:Int} {s:Txt} {t l h w k:Nat}
end
end
section
def ch (p:List Txt) (i j:Nat):UInt8:=(p[i]?.getD [])[j]?.getD 0
structure Shp2 (X:List Txt) (H W:Nat):Prop where
 h:X.length=H
 w:∀ r∈X,r.length=W
theorem Shp2.row {X:List Txt} {H W:Nat} (h:Shp2 X H W) {i:Nat} (hi:i<H):∃ r,X[i]?=some r∧r.length=W∧∀ j,j<W→r[j]?=some (ch X i j):=by
 obtain ⟨r,hr,hm⟩:=zai (show i<X.length by rw [h.h]; exact hi)
 refine ⟨r,hr,h.w r hm,fun j hj=>?_⟩
 obtain ⟨c,hc,-⟩:=zai (show j<r.length by rw [h.w r hm]; exact hj)
 rw [hc,ch,hr,Option.getD_some,hc,Option.getD_some]
theorem Shp2.hd {X:List Txt} {H W:Nat} (h:Shp2 X H W) (h1:1≤H):(zag X).length=W:=by
 obtain ⟨r,hr,hl,-⟩:=h.row (show 0<H by omega)
 rw [zgo hr,hl]
theorem z7k {p:List Txt} (h:zhg p=true):Shp2 p p.length (zag p).length:=⟨rfl,zko h⟩
section
variable {p q:List Txt}
theorem z8a (hp:zal p=true):Shp2 p p.length (zag p).length:=z7k (ze1 (zcb hp))
end
end
theorem z2n {g1 g2:List (List Int)} {H1 W1 H2 W2:Nat} (hg1:GW g1 H1 W1) (hg2:GW g2 H2 W2) (rs1 rs2:List Rect) (hl1:rs1.length≤1000) (hb2:∀ i j,i<H2→j<W2→0≤gz g2 i j∧gz g2 i j≤100) {r c:Nat} (hr:r<H1+H2 - 1) (hc:c<W1+W2):PC Tryz.prog 111 [.int .i64 r,.int .i64 c,.ip [zat g1 rs1] 0,.ip [zat g2 rs2] 0] (.int .i64 (if c<W1 then gz g1 (min r (H1 - 1)) c else (rs1.length:Int)+gz g2 (r - (H1 - 1)) (c - W1))) true:=by
 obtain ⟨q1,q2,q3,q4,q5,q6⟩:=hg1
 have hg1:GW g1 H1 W1:=⟨q1,q2,q3,q4,q5,q6⟩
 obtain ⟨p1,p2,p3,p4,p5,p6⟩:=hg2
 have hg2:GW g2 H2 W2:=⟨p1,p2,p3,p4,p5,p6⟩
 obtain ⟨row0,hrow0,hrl0,-⟩:=hg1.at_ (i:=0) (j:=0) (by omega) (by omega)
 have hgl:=q1
 have hgl2:=p1
 refine PC.of ⟨Tryz.func111,by kernel_rfl,rfl,by kernel_rfl⟩ zao mixed (by show 4≤Tryz.f111.ntmps; decide) ?_
 refine W.r fun K hK=>?_
 simp(disch:=omega)only[↓RU,RV,RH,↓reduceIte,qE,reduceCtorEq,if_pos,↓RS,RG,qA,qM,qL]
 apply hK;clear hK K
 refine W.seq ?_
 refine W.r fun K hK=>?_
 simp(disch:=omega)only[↓RU,RV,RH,↓reduceIte,qE,reduceCtorEq,if_pos,qN,w64,↓RS,RG,qA,qM,qL,zce,zaa,hrl0]
 refine zac.pc (zem hrow0 rs1) rfl (.inl rfl) ?_
 simp(disch:=omega)only[↓RU,RV,RH,↓reduceIte,qE,reduceCtorEq,if_pos,qN,w64,↓RS,RG,qA,qM,qL,zce,zaa,hrl0]
 apply hK;clear hK K
 refine W.cond rfl (fun h0=>?_) (fun h0=>?_)
 ·try simp only[RL]at h0
  have hcw:c<W1:=by omega
  obtain ⟨row,hrow,hrl,hx⟩:=hg1.at_ (i:=min r (H1 - 1)) (j:=c) (by omega) hcw
  have hm:(min (r:Int) ((H1:Int) - 1)).toNat=min r (H1 - 1):=by omega
  refine W.seq_draw (by kernel_rfl) fun K hK=>?_
  simp(disch:=omega)only[↓RU,RV,RH,↓reduceIte,qE,reduceCtorEq,if_pos,qN,w64,zoj,↓RS,RG,qA,qM,qL,ty1,ty5,zab,zce,zc9,zb0,zct,zaa,zda,zcu,hgl,hm,hrow,hx]
  refine zac.pc (zd8 g1 rs1) rfl (.inl rfl) ?_
  simp(disch:=omega)only[↓RU,RV,RH,↓reduceIte,qE,reduceCtorEq,if_pos,qN,w64,zoj,↓RS,RG,qA,qM,qL,ty1,ty5,zab,zce,zc9,zb0,zct,zaa,zda,zcu,hgl,hm,hrow,hx]
  apply hK;clear hK K
  refine W.ret ?_
  refine XThen.ret ?_
  refine Br rfl ?_
  rw [if_pos hcw]
  rfl
 try simp only[RL]at h0
 have hcw:¬ c<W1:=by omega
 obtain ⟨row,hrow,hrl,hx⟩:=hg2.at_ (i:=r - (H1 - 1)) (j:=c - W1) (by omega) (by omega)
 have hm:(max ((r:Int) - (H1:Int)+1) 0).toNat=r - (H1 - 1):=by omega
 have hcz:((c:Int) - (W1:Int)).toNat=c - W1:=by omega
 have hbb:=hb2 (r - (H1 - 1)) (c - W1) (by omega) (by omega)
 refine W.skip ?_
 refine xn ?_
 refine W.seq_draw (by kernel_rfl) fun K hK=>?_
 simp(disch:=omega)only[↓RU,RV,RH,↓reduceIte,qE,reduceCtorEq,if_pos,qN,w64,zjo,↓RS,RG,qA,qM,qL,ty1,ty5,zab,zce,zc9,zb0,zct,zaa,zda,zcu,hgl,hrl0,hm,hrow,hx,hcz]
 refine zac.pc (zd8 g1 rs1) rfl (.inl rfl) ?_
 simp(disch:=omega)only[↓RU,RV,RH,↓reduceIte,qE,reduceCtorEq,if_pos,qN,w64,zjo,↓RS,RG,qA,qM,qL,ty1,ty5,zab,zce,zc9,zb0,zct,zaa,zda,zcu,hgl,hrl0,hm,hrow,hx,hcz]
 refine zac.pc (zem hrow0 rs1) rfl (.inl rfl) ?_
 simp(disch:=omega)only[↓RU,RV,RH,↓reduceIte,qE,reduceCtorEq,if_pos,qN,w64,zjo,↓RS,RG,qA,qM,qL,ty1,ty5,zab,zce,zc9,zb0,zct,zaa,zda,zcu,hgl,hrl0,hm,hrow,hx,hcz]
 apply hK;clear hK K
 refine W.ret ?_
 refine Br rfl ?_
 rw [if_neg hcw]
 rfl
theorem z2q {g1 g2:List (List Int)} {H1 W1 H2 W2:Nat} (hg1:GW g1 H1 W1) (hg2:GW g2 H2 W2) (rs1 rs2:List Rect) (hl1:rs1.length≤1000) (hb2:∀ i j,i<H2→j<W2→0≤gz g2 i j∧gz g2 i j≤100) {r c:Nat} (hr:r<H1+H2) (hc:c<W1+W2 - 1):PC Tryz.prog 112 [.int .i64 r,.int .i64 c,.ip [zat g1 rs1] 0,.ip [zat g2 rs2] 0] (.int .i64 (if r<H1 then gz g1 r (min c (W1 - 1)) else (rs1.length:Int)+gz g2 (r - H1) (c - (W1 - 1)))) true:=by
 obtain ⟨q1,q2,q3,q4,q5,q6⟩:=hg1
 have hg1:GW g1 H1 W1:=⟨q1,q2,q3,q4,q5,q6⟩
 obtain ⟨p1,p2,p3,p4,p5,p6⟩:=hg2
 have hg2:GW g2 H2 W2:=⟨p1,p2,p3,p4,p5,p6⟩
 obtain ⟨row0,hrow0,hrl0,-⟩:=hg1.at_ (i:=0) (j:=0) (by omega) (by omega)
 have hgl:=q1
 have hgl2:=p1
 refine PC.of ⟨Tryz.func112,by kernel_rfl,rfl,by kernel_rfl⟩ zao mixed (by show 4≤Tryz.f112.ntmps; decide) ?_
 refine W.r fun K hK=>?_
 simp(disch:=omega)only[↓RU,RV,RH,↓reduceIte,qE,reduceCtorEq,if_pos,↓RS,RG,qA,qM,qL]
 apply hK;clear hK K
 refine W.seq ?_
 refine W.r fun K hK=>?_
 simp(disch:=omega)only[↓RU,RV,RH,↓reduceIte,qE,reduceCtorEq,if_pos,qN,w64,↓RS,RG,qA,qM,qL,zce,zaa,hgl]
 refine zac.pc (zd8 g1 rs1) rfl (.inl rfl) ?_
 simp(disch:=omega)only[↓RU,RV,RH,↓reduceIte,qE,reduceCtorEq,if_pos,qN,w64,↓RS,RG,qA,qM,qL,zce,zaa,hgl]
 apply hK;clear hK K
 refine W.cond rfl (fun h0=>?_) (fun h0=>?_)
 ·try simp only[RL]at h0
  have hcw:r<H1:=by omega
  obtain ⟨row,hrow,hrl,hx⟩:=hg1.at_ (i:=r) (j:=min c (W1 - 1)) hcw (by omega)
  have hm:(min (c:Int) ((W1:Int) - 1)).toNat=min c (W1 - 1):=by omega
  refine W.seq_draw (by kernel_rfl) fun K hK=>?_
  simp(disch:=omega)only[↓RU,RV,RH,↓reduceIte,qE,reduceCtorEq,if_pos,qN,w64,zoj,↓RS,RG,qA,qM,qL,ty1,ty5,zab,zce,zc9,zb0,zct,zaa,zda,zcu,hgl,hrl0,hm,hrow,hx]
  refine zac.pc (zem hrow0 rs1) rfl (.inl rfl) ?_
  simp(disch:=omega)only[↓RU,RV,RH,↓reduceIte,qE,reduceCtorEq,if_pos,qN,w64,zoj,↓RS,RG,qA,qM,qL,ty1,ty5,zab,zce,zc9,zb0,zct,zaa,zda,zcu,hgl,hrl0,hm,hrow,hx]
  apply hK;clear hK K
  refine W.ret ?_
  refine XThen.ret ?_
  refine Br rfl ?_
  rw [if_pos hcw]
  rfl
 try simp only[RL]at h0
 have hcw:¬ r<H1:=by omega
 obtain ⟨row,hrow,hrl,hx⟩:=hg2.at_ (i:=r - H1) (j:=c - (W1 - 1)) (by omega) (by omega)
 have hm:(max ((c:Int) - (W1:Int)+1) 0).toNat=c - (W1 - 1):=by omega
 have hcz:((r:Int) - (H1:Int)).toNat=r - H1:=by omega
 have hbb:=hb2 (r - H1) (c - (W1 - 1)) (by omega) (by omega)
 refine W.skip ?_
 refine xn ?_
 refine W.seq_draw (by kernel_rfl) fun K hK=>?_
 simp(disch:=omega)only[↓RU,RV,RH,↓reduceIte,qE,reduceCtorEq,if_pos,qN,w64,zjo,↓RS,RG,qA,qM,qL,ty1,ty5,zab,zce,zc9,zb0,zct,zaa,zda,zcu,hgl,hrl0,hm,hrow,hx,hcz]
 refine zac.pc (zd8 g1 rs1) rfl (.inl rfl) ?_
 simp(disch:=omega)only[↓RU,RV,RH,↓reduceIte,qE,reduceCtorEq,if_pos,qN,w64,zjo,↓RS,RG,qA,qM,qL,ty1,ty5,zab,zce,zc9,zb0,zct,zaa,zda,zcu,hgl,hrl0,hm,hrow,hx,hcz]
 refine zac.pc (zem hrow0 rs1) rfl (.inl rfl) ?_
 simp(disch:=omega)only[↓RU,RV,RH,↓reduceIte,qE,reduceCtorEq,if_pos,qN,w64,zjo,↓RS,RG,qA,qM,qL,ty1,ty5,zab,zce,zc9,zb0,zct,zaa,zda,zcu,hgl,hrl0,hm,hrow,hx,hcz]
 apply hK;clear hK K
 refine W.ret ?_
 refine Br rfl ?_
 rw [if_neg hcw]
 rfl
theorem z6y {g1 g2:List (List Int)} {H1 W1 H2 W2:Nat} (hg1:GW g1 H1 W1) (hg2:GW g2 H2 W2) (rs1 rs2:List Rect) (hl1:rs1.length≤1000) (hb2:∀ i j,i<H2→j<W2→0≤gz g2 i j∧gz g2 i j≤100):PC Tryz.prog 58 [zat g1 rs1,zat g2 rs2] (zdl (bgT (fun r w=>if w<W1 then gz g1 (min r (H1 - 1)) w else (rs1.length:Int)+gz g2 (r - (H1 - 1)) (w - W1)) (W1+W2) (H1+H2 - 1))) false:=by
 obtain ⟨q1,q2,q3,q4,q5,q6⟩:=hg1
 have hg1:GW g1 H1 W1:=⟨q1,q2,q3,q4,q5,q6⟩
 obtain ⟨p1,p2,p3,p4,p5,p6⟩:=hg2
 have hg2:GW g2 H2 W2:=⟨p1,p2,p3,p4,p5,p6⟩
 obtain ⟨row0,hrow0,hrl0,-⟩:=hg1.at_ (i:=0) (j:=0) (by omega) (by omega)
 have hgl:=q1
 have hgl2:=p1
 obtain ⟨row2,hrow2,hrl2,-⟩:=hg2.at_ (i:=0) (j:=0) (by omega) (by omega)
 have e9:((H1:Int)+(H2:Int) - 1)=((H1+H2 - 1:Nat):Int):=by omega
 have e8:((W1:Int)+(W2:Int))=((W1+W2:Nat):Int):=by omega
 refine PC.of ⟨Tryz.func58,by kernel_rfl,rfl,by kernel_rfl⟩ zao mixed (by show 2≤Tryz.f58.ntmps; decide) ?_
 refine W.joinZ [2,3] (fun vs S=>∃ tk:Nat,vs=[.ip [zat g1 rs1] 0,.ip [zat g2 rs2] 0]∧S=⟨[],tk⟩) ?_ ?_
 ·
  refine W.k fun K hK=>?_
  simp(disch:=omega)only[↓RU,RV,RH,↓reduceIte,qE,reduceCtorEq,if_pos,↓RS,RG,qA,qM,qL,zce]
  apply hK;clear hK K
  refine xn ?_
  refine ⟨0,[.ip [zat g1 rs1] 0,.ip [zat g2 rs2] 0],⟨[],2⟩,?_,?_,2,rfl,rfl⟩
  ·rfl
  rfl
 rintro vs S - ⟨tk,rfl,rfl⟩
 refine W.seq_draw (by kernel_rfl) fun K hK=>?_
 simp(disch:=omega)only[↓RU,RV,RH,↓reduceIte,qE,reduceCtorEq,if_pos,qN,w64,↓RS,RG,qA,qM,qL,zce,zaa,hgl,hgl2,hrl0,hrl2]
 refine zac.pc (zd8 g1 rs1) rfl (.inl rfl) ?_
 simp(disch:=omega)only[↓RU,RV,RH,↓reduceIte,qE,reduceCtorEq,if_pos,qN,w64,↓RS,RG,qA,qM,qL,zce,zaa,hgl,hgl2,hrl0,hrl2]
 refine zac.pc (zd8 g2 rs2) rfl (.inl rfl) ?_
 simp(disch:=omega)only[↓RU,RV,RH,↓reduceIte,qE,reduceCtorEq,if_pos,qN,w64,↓RS,RG,qA,qM,qL,zce,zaa,hgl,hgl2,hrl0,hrl2]
 apply hK;clear hK K
 simp only[e9]
 refine W.seq_draw (by kernel_rfl) fun K hK=>?_
 simp(disch:=omega)only[↓RU,RV,RH,↓reduceIte,qE,reduceCtorEq,if_pos,qN,w64,↓RS,RG,qA,qM,qL,zce,zaa,hgl,hgl2,hrl0,hrl2]
 refine zac.pc (zem hrow0 rs1) rfl (.inl rfl) ?_
 simp(disch:=omega)only[↓RU,RV,RH,↓reduceIte,qE,reduceCtorEq,if_pos,qN,w64,↓RS,RG,qA,qM,qL,zce,zaa,hgl,hgl2,hrl0,hrl2]
 refine zac.pc (zem hrow2 rs2) rfl (.inl rfl) ?_
 simp(disch:=omega)only[↓RU,RV,RH,↓reduceIte,qE,reduceCtorEq,if_pos,qN,w64,↓RS,RG,qA,qM,qL,zce,zaa,hgl,hgl2,hrl0,hrl2,e8]
 refine zac.pc (znd (c:=fun r w=>if w<W1 then gz g1 (min r (H1 - 1)) w else (rs1.length:Int)+gz g2 (r - (H1 - 1)) (w - W1)) (nh:=H1+H2 - 1) (nw:=W1+W2) (by omega) (by omega) (fun _ _=>rfl) (fun _ _ _=>rfl) (fun r w h1 h2=>z2n hg1 hg2 rs1 rs2 hl1 hb2 h1 h2)) rfl (.inr rfl) ?_
 simp(disch:=omega)only[↓RU,RV,RH,↓reduceIte,qE,reduceCtorEq,if_pos,qN,w64,↓RS,RG,qA,qM,qL,zce,zaa,hgl,hgl2,hrl0,hrl2]
 apply hK;clear hK K
 refine W.ret ?_
 refine Br rfl ?_
 rfl
theorem z61 {g1 g2:List (List Int)} {H1 W1 H2 W2:Nat} (hg1:GW g1 H1 W1) (hg2:GW g2 H2 W2) (rs1 rs2:List Rect) (hl1:rs1.length≤1000) (hb2:∀ i j,i<H2→j<W2→0≤gz g2 i j∧gz g2 i j≤100):PC Tryz.prog 59 [zat g1 rs1,zat g2 rs2] (zdl (bgT (fun r w=>if r<H1 then gz g1 r (min w (W1 - 1)) else (rs1.length:Int)+gz g2 (r - H1) (w - (W1 - 1))) (W1+W2 - 1) (H1+H2))) false:=by
 obtain ⟨q1,q2,q3,q4,q5,q6⟩:=hg1
 have hg1:GW g1 H1 W1:=⟨q1,q2,q3,q4,q5,q6⟩
 obtain ⟨p1,p2,p3,p4,p5,p6⟩:=hg2
 have hg2:GW g2 H2 W2:=⟨p1,p2,p3,p4,p5,p6⟩
 obtain ⟨row0,hrow0,hrl0,-⟩:=hg1.at_ (i:=0) (j:=0) (by omega) (by omega)
 have hgl:=q1
 have hgl2:=p1
 obtain ⟨row2,hrow2,hrl2,-⟩:=hg2.at_ (i:=0) (j:=0) (by omega) (by omega)
 have e9:((W1:Int)+(W2:Int) - 1)=((W1+W2 - 1:Nat):Int):=by omega
 have e8:((H1:Int)+(H2:Int))=((H1+H2:Nat):Int):=by omega
 refine PC.of ⟨Tryz.func59,by kernel_rfl,rfl,by kernel_rfl⟩ zao mixed (by show 2≤Tryz.f59.ntmps; decide) ?_
 refine W.joinZ [2,3] (fun vs S=>∃ tk:Nat,vs=[.ip [zat g1 rs1] 0,.ip [zat g2 rs2] 0]∧S=⟨[],tk⟩) ?_ ?_
 ·
  refine W.k fun K hK=>?_
  simp(disch:=omega)only[↓RU,RV,RH,↓reduceIte,qE,reduceCtorEq,if_pos,↓RS,RG,qA,qM,qL,zce]
  apply hK;clear hK K
  refine xn ?_
  refine ⟨0,[.ip [zat g1 rs1] 0,.ip [zat g2 rs2] 0],⟨[],2⟩,?_,?_,2,rfl,rfl⟩
  ·rfl
  rfl
 rintro vs S - ⟨tk,rfl,rfl⟩
 refine W.seq_draw (by kernel_rfl) fun K hK=>?_
 simp(disch:=omega)only[↓RU,RV,RH,↓reduceIte,qE,reduceCtorEq,if_pos,qN,w64,↓RS,RG,qA,qM,qL,zce,zaa,hgl,hgl2,hrl0,hrl2]
 refine zac.pc (zem hrow0 rs1) rfl (.inl rfl) ?_
 simp(disch:=omega)only[↓RU,RV,RH,↓reduceIte,qE,reduceCtorEq,if_pos,qN,w64,↓RS,RG,qA,qM,qL,zce,zaa,hgl,hgl2,hrl0,hrl2]
 refine zac.pc (zem hrow2 rs2) rfl (.inl rfl) ?_
 simp(disch:=omega)only[↓RU,RV,RH,↓reduceIte,qE,reduceCtorEq,if_pos,qN,w64,↓RS,RG,qA,qM,qL,zce,zaa,hgl,hgl2,hrl0,hrl2]
 apply hK;clear hK K
 simp only[e9]
 refine W.seq_draw (by kernel_rfl) fun K hK=>?_
 simp(disch:=omega)only[↓RU,RV,RH,↓reduceIte,qE,reduceCtorEq,if_pos,qN,w64,↓RS,RG,qA,qM,qL,zce,zaa,hgl,hgl2,hrl0,hrl2]
 refine zac.pc (zd8 g1 rs1) rfl (.inl rfl) ?_
 simp(disch:=omega)only[↓RU,RV,RH,↓reduceIte,qE,reduceCtorEq,if_pos,qN,w64,↓RS,RG,qA,qM,qL,zce,zaa,hgl,hgl2,hrl0,hrl2]
 refine zac.pc (zd8 g2 rs2) rfl (.inl rfl) ?_
 simp(disch:=omega)only[↓RU,RV,RH,↓reduceIte,qE,reduceCtorEq,if_pos,qN,w64,↓RS,RG,qA,qM,qL,zce,zaa,hgl,hgl2,hrl0,hrl2,e8]
 refine zac.pc (znd (c:=fun r w=>if r<H1 then gz g1 r (min w (W1 - 1)) else (rs1.length:Int)+gz g2 (r - H1) (w - (W1 - 1))) (nh:=H1+H2) (nw:=W1+W2 - 1) (by omega) (by omega) (fun _ _=>rfl) (fun _ _ _=>rfl) (fun r w h1 h2=>z2q hg1 hg2 rs1 rs2 hl1 hb2 h1 h2)) rfl (.inr rfl) ?_
 simp(disch:=omega)only[↓RU,RV,RH,↓reduceIte,qE,reduceCtorEq,if_pos,qN,w64,↓RS,RG,qA,qM,qL,zce,zaa,hgl,hgl2,hrl0,hrl2]
 apply hK;clear hK K
 refine W.ret ?_
 refine Br rfl ?_
 rfl
theorem zwr {g:List (List Int)} {nh nw:Nat} (hg:GW g nh nw) (rs:List Rect) {r c:Nat} (hr:r<nh) (hc:c<nw):PC Tryz.prog 110 [.int .i64 r,.int .i64 c,.ip [zat g rs] 0] (.int .i64 (gz g r (nw - 1 - c))) true:=by
 obtain ⟨row0,hrow0,hrl0,-⟩:=hg.at_ (i:=0) (j:=0) (by omega) (by omega)
 obtain ⟨row,hrow,hrl,hx⟩:=hg.at_ (i:=r) (j:=nw - 1 - c) (by omega) (by omega)
 obtain ⟨q1,q2,q3,q4,q5,q6⟩:=hg
 have hgl:=q1
 have hcz:((nw:Int) - 1 - (c:Int)).toNat=nw - 1 - c:=by omega
 refine PC.of ⟨Tryz.func110,by kernel_rfl,rfl,by kernel_rfl⟩ zao mixed (by show 3≤Tryz.f110.ntmps; decide) ?_
 refine W.r fun K hK=>?_
 simp(disch:=omega)only[↓RU,RV,RH,↓reduceIte,qE,reduceCtorEq,if_pos]
 apply hK;clear hK K
 refine W.seq_draw (by kernel_rfl) fun K hK=>?_
 simp(disch:=omega)only[↓RU,RV,RH,↓reduceIte,qE,reduceCtorEq,if_pos,qN,w64,↓RS,RG,qA,qM,qL,ty1,ty5,zab,zce,zc9,zb0,zct,zaa,zda,zcu,hrow,hx,hcz,hrl0,hrl,hgl]
 refine zac.pc (zem hrow0 rs) rfl (.inl rfl) ?_
 simp(disch:=omega)only[↓RU,RV,RH,↓reduceIte,qE,reduceCtorEq,if_pos,qN,w64,↓RS,RG,qA,qM,qL,ty1,ty5,zab,zce,zc9,zb0,zct,zaa,zda,zcu,hrow,hx,hcz,hrl0,hrl,hgl]
 apply hK;clear hK K
 refine W.ret ?_
 refine Br rfl ?_
 rfl
theorem z0u {g:List (List Int)} {nh nw:Nat} (hg:GW g nh nw) (rs:List Rect):PC Tryz.prog 57 [zat g rs] (zdl (bgT (fun r w=>gz g r (nw - 1 - w)) nw nh)) false:=by
 obtain ⟨q1,q2,q3,q4,q5,q6⟩:=hg
 have hg:GW g nh nw:=⟨q1,q2,q3,q4,q5,q6⟩
 have hgl:=q1
 obtain ⟨row0,hrow0,hrl0,-⟩:=hg.at_ (i:=0) (j:=0) (by omega) (by omega)
 refine PC.of ⟨Tryz.func57,by kernel_rfl,rfl,by kernel_rfl⟩ zao mixed (by show 1≤Tryz.f57.ntmps; decide) ?_
 refine W.joinZ [1] (fun vs S=>∃ tk:Nat,vs=[.ip [zat g rs] 0]∧S=⟨[],tk⟩) ?_ ?_
 ·
  refine W.k fun K hK=>?_
  simp(disch:=omega)only[↓RU,RV,RH,↓reduceIte,qE,reduceCtorEq,if_pos,↓RS,RG,qA,qM,qL,zce]
  apply hK;clear hK K
  refine xn ?_
  refine ⟨0,[.ip [zat g rs] 0],⟨[],1⟩,?_,?_,1,rfl,rfl⟩
  ·rfl
  rfl
 rintro vs S - ⟨tk,rfl,rfl⟩
 refine W.seq_draw (by kernel_rfl) fun K hK=>?_
 simp(disch:=omega)only[↓RU,RV,RH,↓reduceIte,qE,reduceCtorEq,if_pos,qN,↓RS,RG,qA,qM,qL,zce,hgl,hrl0]
 refine zac.pc (zd8 g rs) rfl (.inl rfl) ?_
 simp(disch:=omega)only[↓RU,RV,RH,↓reduceIte,qE,reduceCtorEq,if_pos,qN,↓RS,RG,qA,qM,qL,zce,hgl,hrl0]
 refine zac.pc (zem hrow0 rs) rfl (.inl rfl) ?_
 simp(disch:=omega)only[↓RU,RV,RH,↓reduceIte,qE,reduceCtorEq,if_pos,qN,↓RS,RG,qA,qM,qL,zce,hgl,hrl0]
 refine zac.pc (znd (c:=fun r w=>gz g r (nw - 1 - w)) (nh:=nh) (nw:=nw) (by omega) (by omega) (fun _ _=>rfl) (fun _ _ _=>rfl) (fun r w h1 h2=>zwr hg rs h1 h2)) rfl (.inr rfl) ?_
 simp(disch:=omega)only[↓RU,RV,RH,↓reduceIte,qE,reduceCtorEq,if_pos,qN,↓RS,RG,qA,qM,qL,zce,hgl,hrl0]
 apply hK;clear hK K
 refine W.ret ?_
 refine Br rfl ?_
 rfl
def flP:Option (List Txt)→PV
 | some p=>zat (gP p) (rP p)
 | none => .nilp
def flV (o:Option (List Txt)):PV := .tup [flP o,.bool o.isSome]
theorem zle {c:Nat→Nat→Nat} {H W:Nat} {g:List (List Int)} (h:Made c H W g):zcg g=flV (some (nm g)):=by
 have hz:=h.gw.zG
 have ho:=h.ok
 unfold okS at ho
 rw [hz.2,qB,decide_eq_true_eq]at ho
 have e:=(NmOk.mk h.gw ho.2).gP
 unfold zcg
 rw [h.ok,if_pos rfl,h.full,hz.2]
 show _=PV.tup [zat (gP (nm g)) (rP (nm g)),.bool true]
 rw [e.1,e.2]
theorem yad {g:List (List Int)} {H W:Nat} (h1:g.length=H) (h2:∀ r∈g,r.length=W) (h3:1≤H) (h:¬ (H≤6∧W≤6)):zcg g=flV none:=by
 have hok:okS g=false:=by
  unfold okS
  have:okG g=false:=by
   cases e:okG g with
   | false=>rfl
   | true =>
    obtain ⟨row,hrow,hm⟩:=zai (show 0<g.length by omega)
    have e2:=zlz.1 e
    rw [z6k hrow,h2 row hm,h1]at e2
    exact absurd ⟨e2.2.2.2.1,e2.2.2.2.2.2⟩ h
  rw [this]; rfl
 unfold zcg
 rw [hok]; rfl
theorem zna {c:Nat→Nat→Int} {nw n:Nat}:∀ r∈bgT c nw n,r.length=nw:=by
 intro r hr
 obtain ⟨k,-,rfl⟩:=List.mem_map.1 hr
 simp
theorem zz3 {m:UInt8} {p q:List Txt} (hp:zal p=true) (hq:zal q=true) (h9:(rP p).length+(rP q).length≤9):zcg (if m=124 then z6o p q else z6p p q)=flV (zt5 m p q):=by
 obtain ⟨a1,a2,a3,a4,-⟩:=zau hp
 obtain ⟨b1,b2,b3,b4,-⟩:=zau hq
 unfold zt5
 by_cases e:m=124
 ·rw [if_pos e,if_pos e]
  by_cases k:p.length+q.length - 1≤6∧(zag p).length+(zag q).length≤6
  ·rw [if_pos k]; exact zle (zx5 hp hq k.1 k.2 h9)
  rw [if_neg k]; exact yad zjg zna (by omega) k
 rw [if_neg e,if_neg e]
 by_cases k:p.length+q.length≤6∧(zag p).length+(zag q).length - 1≤6
 ·rw [if_pos k]; exact zle (zx7 hp hq k.1 k.2 h9)
 rw [if_neg k]; exact yad zjg zna (by omega) k
def slP (l:List PV) (v:Nat):PV:=match l with | [] => .nils | _ => .loc 0 v 0 l.length
def tlP (l:List PV) (v:Nat):List Ob:=match l with | []=>[] | _=>[.arr v 43 1 l]
theorem ycp {v:Nat}:slP [] v = .nils:=rfl
theorem yc2 {v:Nat}:tlP [] v=[]:=rfl
theorem z5y {v:Nat} {l:List PV} (h:l≠[]):slP l v = .loc 0 v 0 l.length:=by cases l with | nil=>exact absurd rfl h | cons a l=>rfl
theorem z59 {v:Nat} {l:List PV} (h:l≠[]):tlP l v=[.arr v 43 1 l]:=by cases l with | nil=>exact absurd rfl h | cons a l=>rfl
def psT (ks:List Tm):List PV:=ks.map fun k=>flP (zdj k)
theorem z5h {S:Store} {k f:Nat} {sel:List Nat} {o:Option (List Txt)}:rn S k sel (f+1) (flP o)=some (flP o):=by cases o <;> rfl
theorem yen {S:Store} {k f:Nat} {sel:List Nat} {ks:List Tm}:(psT ks).mapM (rn S k sel (f+1))=some (psT ks):=zbk fun x hx=>by obtain ⟨a,-,rfl⟩:=List.mem_map.1 hx; exact z5h
theorem ztc {o:Option (List Txt)}:(flP o).cells=[flP o]:=by cases o <;> rfl
theorem z28 {o:Option (List Txt)}:(flP o).isDef=true:=by cases o <;> rfl
theorem z9r {o:Option (List Txt)}:(flP o).isCell=true:=by cases o <;> rfl
theorem yb9 {ks:List Tm}:(psT ks).length=ks.length:=by simp [psT]
theorem zgt {ks:List Tm} {i:Nat} {k:Tm} (h:ks[i]?=some k):psT (ks.take (i+1))=psT (ks.take i)++[flP (zdj k)]:=by rw [tk h]; simp [psT]
def eK (c:UInt8) (ks:List Tm):PV := .ip [eB c,.sl (ks.map eT) ks.length] 0
def zo5 (c:UInt8):List Tm→Option (List Txt)
 | [k]=>zdj (.un c k)
 | [a,b]=>zdj (.bin c a b)
 | _=>none
theorem z1l {c:UInt8} {ks:List Tm} {k:Tm} (hk:k∈ks) (h:zdj k=none):zo5 c ks=none:=by
 unfold zo5
 split
 ·simp only[List.mem_cons,List.not_mem_nil,or_false]at hk; subst hk; simp only[zdj,h,Option.map_none]
 ·rename_i a b
  simp only[List.mem_cons,List.not_mem_nil,or_false]at hk
  rcases hk with rfl | rfl
  ·simp only[zdj,h,Option.bind_none]
  simp only[zdj,h,Option.bind_none,Option.bind_fun_none]
 rfl
theorem ycm:zcg [[0]]=flV (some [[97]]):=by
 have h:Made (fun _ _=>0) 1 1 [[0]]:=zoq (n:=1) ⟨⟨rfl,by simp,by omega,by omega,by omega,by omega⟩,fun i j hi hj=>by
  have e1:i=0:=by omega
  have e2:j=0:=by omega
  subst e1 e2
  rfl⟩ (fun _ _ _ _=>by omega) (by omega) ⟨fun _ _ _ _ _ _ _ _ _ _ _=>rfl,fun _ _ h _ _=>absurd rfl h⟩
 rw [zle h,show nm [[0]]=[[97]] by decide +kernel]
theorem ybb  : PC Tryz.prog 25 [eT .o] (flV (zdj .o)) false:=by
 have hS:=ze5 (g:=[[0]]) (by simp) (by simp)
 rw [ycm]at hS
 simp only[eT]
 have d0:((111:Int) == 62)=false:=rfl
 have d1:((111:Int) == 94)=false:=rfl
 have d2:((111:Int) == 124)=false:=rfl
 have d3:((111:Int) == 45)=false:=rfl
 refine PC.of ⟨Tryz.func25,by kernel_rfl,rfl,by kernel_rfl⟩ zao mixed (by show 1≤Tryz.f25.ntmps; decide) ?_
 refine W.r fun K hK=>?_
 simp(disch:=omega)only[↓RU,RV,RH,↓reduceIte,qE,reduceCtorEq,if_pos,↓RS,RG,qA,qM,qL]
 apply hK;clear hK K
 refine W.r fun K hK=>?_
 simp(disch:=omega)only[↓RU,RV,RH,↓reduceIte,qE,reduceCtorEq,if_pos,↓RS,RG,qA,qM,qL]
 apply hK;clear hK K
 refine W.seq ?_
 refine W.r fun K hK=>?_
 simp(disch:=omega)only[↓RU,RV,RH,↓reduceIte,qE,reduceCtorEq,if_pos,↓RS,RG,qA,qM,qL,ty3,zet,zhs,zht,zaw]
 apply hK;clear hK K
 refine W.block ?_
 refine W.loop [0,4,12,13,14] (fun n vs S=>vs=[.ip [.int .u8 111,.nils] 0,.nils,.nils,.int .i64 0,.int .i64 0]∧S=⟨[],0⟩) 0 ?_ ?_
 ·refine ⟨0,?_,rfl⟩
  simp [Env.put,Env.of,zaf]
 rintro n vs S - ⟨rfl,rfl⟩
 refine W.r fun K hK=>?_
 simp(disch:=omega)only[↓RU,RV,RH,↓reduceIte,qE,reduceCtorEq,if_pos,w64,↓RS,RG,qA,qM,qL,zaa]
 apply hK;clear hK K
 refine W.seq ?_
 refine W.cond rfl (fun h0=>?_) (fun h0=>?_)
 ·try simp only[RL]at h0
  exact absurd h0 (by simp)
 try simp only[RL]at h0
 refine W.exit ?_
 refine xe ?_
 refine xe ?_
 refine XBlock.hit ?_
 refine xn ?_
 refine W.seq ?_
 refine W.r fun K hK=>?_
 simp(disch:=omega)only[↓RU,RV,RH,↓reduceIte,qE,reduceCtorEq,if_pos,↓RS,RG,qA,qM,qL,ty3,zet,zhs,zht,zaw,Int.toNat_zero,Nat.zero_mul,qZ,qM,Nat.zero_add,Nat.mul_one,List.getElem?_cons_zero,List.getElem?_cons_succ]
 apply hK;clear hK K
 refine W.block ?_
 refine W.r fun K hK=>?_
 simp(disch:=omega)only[↓RU,RV,RH,↓reduceIte,qE,reduceCtorEq,if_pos,w64,↓RS,RG,qA,qM,qL,zaw,d0]
 apply hK;clear hK K
 refine W.cond rfl (fun h1=>?_) (fun h1=>?_)
 ·try simp only[RL]at h1
  exact absurd h1 (by simp)
 try simp only[RL]at h1
 refine W.r fun K hK=>?_
 simp(disch:=omega)only[↓RU,RV,RH,↓reduceIte,qE,reduceCtorEq,if_pos,w64,↓RS,RG,qA,qM,qL,zaw,d1]
 apply hK;clear hK K
 refine W.cond rfl (fun h2=>?_) (fun h2=>?_)
 ·try simp only[RL]at h2
  exact absurd h2 (by simp)
 try simp only[RL]at h2
 refine W.r fun K hK=>?_
 simp(disch:=omega)only[↓RU,RV,RH,↓reduceIte,qE,reduceCtorEq,if_pos,w64,↓RS,RG,qA,qM,qL,zaw,d2]
 apply hK;clear hK K
 refine W.cond rfl (fun h3=>?_) (fun h3=>?_)
 ·try simp only[RL]at h3
  exact absurd h3 (by simp)
 try simp only[RL]at h3
 refine W.r fun K hK=>?_
 simp(disch:=omega)only[↓RU,RV,RH,↓reduceIte,qE,reduceCtorEq,if_pos,w64,↓RS,RG,qA,qM,qL,zaw,d3]
 apply hK;clear hK K
 refine W.cond rfl (fun h4=>?_) (fun h4=>?_)
 ·try simp only[RL]at h4
  exact absurd h4 (by simp)
 try simp only[RL]at h4
 refine W.skip ?_
 refine XbN ?_
 refine xn ?_
 refine W.r fun K hK=>?_
 simp(disch:=omega)only[↓RU,RV,RH,↓reduceIte,qE,reduceCtorEq,if_pos,qN,↓RS,RG,qA,qM,qL,ty1,zab,zb0,zaa]
 refine zac.ev (hS.all rfl) ?_
 rintro _ _ ⟨rfl,rfl⟩
 simp(disch:=omega)only[↓RU,RV,RH,↓reduceIte,qE,reduceCtorEq,if_pos,qN,↓RS,RG,qA,qM,qL,ty1,zab,zb0,zaa,flV]
 apply hK;clear hK K
 refine W.ret ?_
 refine Br rfl ?_
 rfl
theorem slP1 {x:PV} {v:Nat}:slP [x] v = .loc 0 v 0 1:=rfl
theorem tlP1 {x:PV} {v:Nat}:tlP [x] v=[.arr v 43 1 [x]]:=rfl
theorem slP2 {x y:PV} {v:Nat}:slP [x,y] v = .loc 0 v 0 2:=rfl
theorem tlP2 {x y:PV} {v:Nat}:tlP [x,y] v=[.arr v 43 1 [x,y]]:=rfl
theorem zdt {p:List Txt}:flP (some p)=zat (gP p) (rP p):=rfl
theorem z03 {c:UInt8} {ks:List Tm} (hn:∀ k∈ks,k.ok∧k.n≤7) (h9:(ks.map Tm.n).sum≤7) (hc:((c=62∨c=94)∧ks.length=1)∨((c=124∨c=45)∧ks.length=2)) (hall:∀ k∈ks,∃ p,zdj k=some p) :
  (∃ k p,ks=[k]∧c=62∧zdj k=some p∧zal p=true)∨(∃ k p,ks=[k]∧c=94∧zdj k=some p∧zal p=true) ∨
  (∃ a b p q,ks=[a,b]∧c=124∧zdj a=some p∧zdj b=some q∧zal p=true∧zal q=true∧(rP p).length+(rP q).length≤9)∨(∃ a b p q,ks=[a,b]∧c=45∧zdj a=some p∧zdj b=some q∧zal p=true∧zal q=true∧(rP p).length+(rP q).length≤9):=by
 rcases hc with ⟨hc,hl⟩ | ⟨hc,hl⟩
 ·obtain ⟨k,rfl⟩:=List.length_eq_one_iff.1 hl
  obtain ⟨p,hp⟩:=hall k (by simp)
  have h:=hn k (by simp)
  have hpl:=(zif h.1 (by omega) hp).1
  rcases hc with hc | hc
  ·exact .inl ⟨k,p,rfl,hc,hp,hpl⟩
  exact .inr (.inl ⟨k,p,rfl,hc,hp,hpl⟩)
 obtain ⟨a,b,rfl⟩:∃ a b,ks=[a,b]:=by
  match ks,hl with
  | [a,b],_=>exact ⟨a,b,rfl⟩
 obtain ⟨p,hp⟩:=hall a (by simp)
 obtain ⟨q,hq⟩:=hall b (by simp)
 have ha:=hn a (by simp)
 have hb:=hn b (by simp)
 have ia:=zif ha.1 (by omega) hp
 have ib:=zif hb.1 (by omega) hq
 simp at h9
 rcases hc with hc | hc
 ·exact .inr (.inr (.inl ⟨a,b,p,q,rfl,hc,hp,hq,ia.1,ib.1,by omega⟩))
 exact .inr (.inr (.inr ⟨a,b,p,q,rfl,hc,hp,hq,ia.1,ib.1,by omega⟩))
theorem zsb {p:List Txt} (hp:zal p=true):∀ i j,i<p.length→j<(zag p).length→0≤gz (gP p) i j∧gz (gP p) i j≤100:=fun i j hi hj=>by
 have:=zb2 (p:=p) i j hi hj
 have:=(zau hp).2.2.2.2.2.2.1
 omega
theorem z3f {c:UInt8} {ks:List Tm} (h1:1≤ks.length) (h2:ks.length≤2) (hn:∀ k∈ks,k.ok∧k.n≤7) (h9:(ks.map Tm.n).sum≤7) (ih:∀ k∈ks,PC Tryz.prog 25 [eT k] (flV (zdj k)) false) (hc:((c=62∨c=94)∧ks.length=1)∨((c=124∨c=45)∧ks.length=2)):PC Tryz.prog 25 [eK c ks] (flV (zo5 c ks)) false:=by
 skip
 refine PC.of ⟨Tryz.func25,by kernel_rfl,rfl,by kernel_rfl⟩ zao mixed (by show 1≤Tryz.f25.ntmps; decide) ?_
 refine W.r fun K hK=>?_
 simp(disch:=omega)only[↓RU,RV,RH,↓reduceIte,qE,reduceCtorEq,if_pos,↓RS,RG,qA,qM,qL]
 apply hK;clear hK K
 refine W.r fun K hK=>?_
 simp(disch:=omega)only[↓RU,RV,RH,↓reduceIte,qE,reduceCtorEq,if_pos,↓RS,RG,qA,qM,qL]
 apply hK;clear hK K
 refine W.seq ?_
 refine W.r fun K hK=>?_
 simp(disch:=omega)only[↓RU,RV,RH,↓reduceIte,qE,reduceCtorEq,if_pos,↓RS,RG,qA,qM,qL,ty3,zet,zhs,zht,zaw]
 apply hK;clear hK K
 refine W.block ?_
 refine W.loopS [0,4,12,13,14] (fun n vs S=>∃ i v t:Nat,n=ks.length - i∧i≤ks.length∧(∀ k∈ks.take i,∃ p,zdj k=some p)∧vs=[eK c ks,slP (psT (ks.take i)) v,.sl (ks.map eT) ks.length,.int .i64 ks.length,.int .i64 i]∧S=⟨tlP (psT (ks.take i)) v,t⟩) ks.length ?_ ?_
 ·refine ⟨0,[],[eK c ks,.nils,.sl (ks.map eT) ks.length,.int .i64 ks.length,.int .i64 (0:Nat)],⟨[],1⟩,?_,?_,0,0,1,rfl,Nat.zero_le _,?_,rfl,rfl⟩
  ·simp [-qU,Env.put,Env.of,zaf,zbi,zah,zak,zap,zar,zbo,zbp,zcm,zbn,za3,zbq,zcl,zcn,za5,za4,zas,zbm,zbr,zck,za1,za0,zaq,za2,zbl,zeq,qS,qP,qC,eK]
  ·simp [-qU,Env.put,Env.of,zaf,zbi,zah,zak,zap,zar,zbo,zbp,zcm,zbn,za3,zbq,zcl,zcn,za5,za4,zas,zbm,zbr,zck,za1,za0,zaq,za2,zbl,zeq,qS,qP,qC]
  intro k hk; simp at hk
 rintro n vs S - ⟨i,v,t,rfl,h_i,hall,rfl,rfl⟩
 refine W.r fun K hK=>?_
 simp(disch:=omega)only[↓RU,RV,RH,↓reduceIte,qE,reduceCtorEq,if_pos,w64,↓RS,RG,qA,qM,qL,zaa]
 apply hK;clear hK K
 refine W.seq ?_
 refine W.cond rfl (fun h0=>?_) (fun h0=>?_)
 ·try simp only[RL]at h0
  obtain ⟨k,hk,hkm⟩:=zai (show i<ks.length by omega)
  have hke:(ks.map eT)[i]?=some (eT k):=by rw [List.getElem?_map,hk]; rfl
  have hkr:∀ {S:Store},[eT k].mapM (reify S true 10)=some [eT k]:=fun {S}=>zgs (zno k) rfl
  refine W.skip ?_
  refine xn ?_
  refine W.seq ?_
  refine W.block ?_
  refine W.r fun K hK=>?_
  simp(disch:=omega)only[↓RU,RV,RH,↓reduceIte,qE,reduceCtorEq,if_pos,↓RS,RG,qA,qM,qL,ty3,zet,hke]
  apply hK;clear hK K
  refine W.r fun K hK=>?_
  simp(disch:=omega)only[↓RU,RV,RH,↓reduceIte,qE,reduceCtorEq,if_pos,qN,↓RS,RG,qA,qM,qL,flV]
  refine zac.pc (ih k hkm) hkr (.inr hkr) ?_
  simp(disch:=omega)only[↓RU,RV,RH,↓reduceIte,qE,reduceCtorEq,if_pos,qN,↓RS,RG,qA,qM,qL,flV]
  apply hK;clear hK K
  refine W.seq ?_
  refine W.r fun K hK=>?_
  simp(disch:=omega)only[↓RU,RV,RH,↓reduceIte,qE,reduceCtorEq,if_pos,↓RS,RG,qA,qM,qL]
  apply hK;clear hK K
  refine W.cond rfl (fun h1=>?_) (fun h1=>?_)
  ·try simp only[RL]at h1
   have hno:zdj k=none:=by cases h:zdj k with | none=>rfl | some p=>rw [h]at h1; simp at h1
   refine W.r fun K hK=>?_
   simp(disch:=omega)only[↓RU,RV,RH,↓reduceIte,qE,reduceCtorEq,if_pos,↓RS,RG,qA,qM,qL]
   apply hK;clear hK K
   refine W.ret ?_
   refine XThen.ret ?_
   refine XBlock.ret ?_
   refine XThen.ret ?_
   refine XThen.ret ?_
   refine XBlock.ret ?_
   refine XThen.ret ?_
   refine Br rfl ?_
   rw [z1l hkm hno]
   rfl
  try simp only[RL]at h1
  obtain ⟨p,hp⟩:∃ p,zdj k=some p:=by cases h:zdj k with | none=>rw [h]at h1; simp at h1 | some p=>exact ⟨p,rfl⟩
  refine W.skip ?_
  refine xn ?_
  refine W.k fun K hK=>?_
  by_cases hP0:(psT (ks.take i))=[]
  ·skip
   rw [hP0,ycp,yc2]
   simp(disch:=omega)only[↓RU,RV,RH,↓reduceIte,qE,reduceCtorEq,if_pos,↓RS,RG,qA,qM,qL,ty2,zce,ztc,z28,z9r]
   apply hK;clear hK K
   refine XbN ?_
   refine xn ?_
   refine W.k fun K hK=>?_
   simp(disch:=omega)only[↓RU,RV,RH,↓reduceIte,qE,reduceCtorEq,if_pos,w64,↓RS,RG,qA,qM,qL,zaa]
   apply hK;clear hK K
   refine xn ?_
   refine ⟨ks.length - (i+1),by omega,0,[1],[eK c ks,.loc 0 (t+2) 0 (psT (ks.take (i+1))).length,.sl (ks.map eT) ks.length,.int .i64 ks.length,.int .i64 ((i+1:Nat):Int)],⟨[.arr (t+2) 43 1 (psT (ks.take (i+1)))],t+3⟩,?_,?_,i+1,t+2,t+3,rfl,by omega,?_,?_,?_⟩
   ·rw [zgt hk,hP0]; simp [-qU,Env.put,Env.of,zaf,zbi,zah,zak,zap,zar,zbo,zbp,zcm,zbn,za3,zbq,zcl,zcn,za5,za4,zas,zbm,zbr,zck,za1,za0,zaq,za2,zbl,zeq,qS,qP,qC,eK]
   ·rw [zgt hk,hP0]; simp [-qU,Env.put,Env.of,zaf,zbi,zah,zak,zap,zar,zbo,zbp,zcm,zbn,za3,zbq,zcl,zcn,za5,za4,zas,zbm,zbr,zck,za1,za0,zaq,za2,zbl,zeq,qS,qP,qC,z5h]
   ·intro x hx; rw [tk hk,List.mem_append,List.mem_singleton]at hx; rcases hx with hx | rfl; exact hall x hx; exact ⟨p,hp⟩
   ·rw [z5y (by rw [zgt hk]; simp)]
   rw [z59 (by rw [zgt hk]; simp)]
  skip
  have hpl:=yb9 (ks:=ks.take i)
  have htl:=List.length_take_le i ks
  rw [z5y hP0,z59 hP0]
  simp(disch:=omega)only[↓RU,RV,RH,↓reduceIte,qE,reduceCtorEq,if_pos,↓RS,RG,qA,qM,qL,ty2,zce,ztc,z28,z9r]
  apply hK;clear hK K
  refine XbN ?_
  refine xn ?_
  refine W.k fun K hK=>?_
  simp(disch:=omega)only[↓RU,RV,RH,↓reduceIte,qE,reduceCtorEq,if_pos,w64,↓RS,RG,qA,qM,qL,zaa]
  apply hK;clear hK K
  refine xn ?_
  refine ⟨ks.length - (i+1),by omega,1,[],[eK c ks,.loc 0 (t+1) 0 (psT (ks.take (i+1))).length,.sl (ks.map eT) ks.length,.int .i64 ks.length,.int .i64 ((i+1:Nat):Int)],⟨[.arr (t+1) 43 1 (psT (ks.take (i+1)))],t+3⟩,?_,?_,i+1,t+1,t+3,rfl,by omega,?_,?_,?_⟩
  ·rw [zgt hk]; simp [-qU,Env.put,Env.of,zaf,zbi,zah,zak,zap,zar,zbo,zbp,zcm,zbn,za3,zbq,zcl,zcn,za5,za4,zas,zbm,zbr,zck,za1,za0,zaq,za2,zbl,zeq,qS,qP,qC,eK]
  ·rw [zgt hk]; simp [-qU,Env.put,Env.of,zaf,zbi,zah,zak,zap,zar,zbo,zbp,zcm,zbn,za3,zbq,zcl,zcn,za5,za4,zas,zbm,zbr,zck,za1,za0,zaq,za2,zbl,zeq,qS,qP,qC,z5h,yen]
  ·intro x hx; rw [tk hk,List.mem_append,List.mem_singleton]at hx; rcases hx with hx | rfl; exact hall x hx; exact ⟨p,hp⟩
  ·rw [z5y (by rw [zgt hk]; simp)]
  rw [z59 (by rw [zgt hk]; simp)]
 try simp only[RL]at h0
 obtain rfl:i=ks.length:=by omega
 rw [List.take_length]at hall ⊢
 refine W.exit ?_
 refine xe ?_
 refine xe ?_
 refine XBlock.hit ?_
 refine xn ?_
 refine W.seq ?_
 refine W.r fun K hK=>?_
 simp(disch:=omega)only[↓RU,RV,RH,↓reduceIte,qE,reduceCtorEq,if_pos,↓RS,RG,qA,qM,qL,ty3,zet,zhs,zht,zaw,eK]
 apply hK;clear hK K
 refine W.block ?_
 refine W.r fun K hK=>?_
 rcases z03 hn h9 hc hall with ⟨k,p,rfl,hcc,hp,hpl⟩ | ⟨k,p,rfl,hcc,hp,hpl⟩ | ⟨a,b,p,q,rfl,hcc,hp,hq,hpl,hql,hpq⟩ | ⟨a,b,p,q,rfl,hcc,hp,hq,hpl,hql,hpq⟩
 ·skip
  have hps:psT [k]=[flP (some p)]:=by simp [psT,hp]
  rw [hps]
  simp only[slP1,tlP1]
  have d1:((c.toNat:Int) == 62)=true:=by rw [hcc]; rfl
  simp(disch:=omega)only[↓RU,RV,RH,↓reduceIte,qE,reduceCtorEq,if_pos,w64,↓RS,RG,qA,qM,qL,zaw,d1]
  apply hK;clear hK K
  refine W.cond rfl (fun k0=>?_) (fun k0=>?_)
  ·try simp only[RL]at k0
   refine W.r fun K hK=>?_
   obtain ⟨-,-,-,-,hg,-,-,-⟩:=zau hpl
   have hm:=zv0 hpl
   have hS:=ze5 (g:=zxv p) (by have:=hm.gw.1; have:=hm.gw.2.2.2.1; omega) (fun r hr=>by have:=hm.gw.2.1 r hr; have:=hm.gw.2.2.2.2.2; omega)
   rw [zle hm]at hS
   simp(disch:=omega)only[↓RU,RV,RH,↓reduceIte,qE,reduceCtorEq,if_pos,qN,↓RS,RG,qA,qM,qL,ty2,zce,Int.toNat_zero,Nat.zero_mul,qZ,qM,Nat.zero_add,Nat.mul_one,List.getElem?_cons_zero,List.getElem?_cons_succ,zdt]
   refine zac.pc (z6a hg (rP p)) rfl (.inr rfl) ?_
   simp(disch:=omega)only[↓RU,RV,RH,↓reduceIte,qE,reduceCtorEq,if_pos,qN,↓RS,RG,qA,qM,qL,ty2,zce,Int.toNat_zero,Nat.zero_mul,qZ,qM,Nat.zero_add,Nat.mul_one,List.getElem?_cons_zero,List.getElem?_cons_succ,zdt]
   refine zac.pc (hS) rfl (.inr rfl) ?_
   simp(disch:=omega)only[↓RU,RV,RH,↓reduceIte,qE,reduceCtorEq,if_pos,qN,↓RS,RG,qA,qM,qL,ty2,zce,Int.toNat_zero,Nat.zero_mul,qZ,qM,Nat.zero_add,Nat.mul_one,List.getElem?_cons_zero,List.getElem?_cons_succ,zdt,flV]
   apply hK;clear hK K
   refine W.ret ?_
   refine XBlock.ret ?_
   refine XThen.ret ?_
   refine Br rfl ?_
   rw [show zo5 c [k]=some (nm (zxv p)) by simp only[zo5,zdj,hp,qO,hcc,if_pos]]
   rfl
  try simp only[RL]at k0
  exact absurd k0 (by simp)
 ·skip
  have hps:psT [k]=[flP (some p)]:=by simp [psT,hp]
  rw [hps]
  simp only[slP1,tlP1]
  have d1:((c.toNat:Int) == 62)=false:=by rw [hcc]; rfl
  have d2:((c.toNat:Int) == 94)=true:=by rw [hcc]; rfl
  simp(disch:=omega)only[↓RU,RV,RH,↓reduceIte,qE,reduceCtorEq,if_pos,w64,↓RS,RG,qA,qM,qL,zaw,d1]
  apply hK;clear hK K
  refine W.cond rfl (fun k0=>?_) (fun k0=>?_)
  ·try simp only[RL]at k0
   exact absurd k0 (by simp)
  try simp only[RL]at k0
  refine W.r fun K hK=>?_
  simp(disch:=omega)only[↓RU,RV,RH,↓reduceIte,qE,reduceCtorEq,if_pos,w64,↓RS,RG,qA,qM,qL,zaw,d2]
  apply hK;clear hK K
  refine W.cond rfl (fun k1=>?_) (fun k1=>?_)
  ·try simp only[RL]at k1
   refine W.r fun K hK=>?_
   obtain ⟨-,-,-,-,hg,-,-,-⟩:=zau hpl
   have hm:=zt1 hpl
   have hS:=ze5 (g:=zwp p) (by have:=hm.gw.1; have:=hm.gw.2.2.2.1; omega) (fun r hr=>by have:=hm.gw.2.1 r hr; have:=hm.gw.2.2.2.2.2; omega)
   rw [zle hm]at hS
   simp(disch:=omega)only[↓RU,RV,RH,↓reduceIte,qE,reduceCtorEq,if_pos,qN,↓RS,RG,qA,qM,qL,ty2,zce,Int.toNat_zero,Nat.zero_mul,qZ,qM,Nat.zero_add,Nat.mul_one,List.getElem?_cons_zero,List.getElem?_cons_succ,zdt]
   refine zac.pc (z0u hg (rP p)) rfl (.inr rfl) ?_
   simp(disch:=omega)only[↓RU,RV,RH,↓reduceIte,qE,reduceCtorEq,if_pos,qN,↓RS,RG,qA,qM,qL,ty2,zce,Int.toNat_zero,Nat.zero_mul,qZ,qM,Nat.zero_add,Nat.mul_one,List.getElem?_cons_zero,List.getElem?_cons_succ,zdt]
   refine zac.pc (hS) rfl (.inr rfl) ?_
   simp(disch:=omega)only[↓RU,RV,RH,↓reduceIte,qE,reduceCtorEq,if_pos,qN,↓RS,RG,qA,qM,qL,ty2,zce,Int.toNat_zero,Nat.zero_mul,qZ,qM,Nat.zero_add,Nat.mul_one,List.getElem?_cons_zero,List.getElem?_cons_succ,zdt,flV]
   apply hK;clear hK K
   refine W.ret ?_
   refine XBlock.ret ?_
   refine XThen.ret ?_
   refine Br rfl ?_
   rw [show zo5 c [k]=some (nm (zwp p)) by simp only[zo5,zdj,hp,qO,hcc]; rw [if_neg (by decide)]]
   rfl
  try simp only[RL]at k1
  exact absurd k1 (by simp)
 ·skip
  have hps:psT [a,b]=[flP (some p),flP (some q)]:=by simp [psT,hp,hq]
  rw [hps]
  simp only[slP2,tlP2]
  have d1:((c.toNat:Int) == 62)=false:=by rw [hcc]; rfl
  have d2:((c.toNat:Int) == 94)=false:=by rw [hcc]; rfl
  have d3:((c.toNat:Int) == 124)=true:=by rw [hcc]; rfl
  simp(disch:=omega)only[↓RU,RV,RH,↓reduceIte,qE,reduceCtorEq,if_pos,w64,↓RS,RG,qA,qM,qL,zaw,d1]
  apply hK;clear hK K
  refine W.cond rfl (fun k0=>?_) (fun k0=>?_)
  ·try simp only[RL]at k0
   exact absurd k0 (by simp)
  try simp only[RL]at k0
  refine W.r fun K hK=>?_
  simp(disch:=omega)only[↓RU,RV,RH,↓reduceIte,qE,reduceCtorEq,if_pos,w64,↓RS,RG,qA,qM,qL,zaw,d2]
  apply hK;clear hK K
  refine W.cond rfl (fun k1=>?_) (fun k1=>?_)
  ·try simp only[RL]at k1
   exact absurd k1 (by simp)
  try simp only[RL]at k1
  refine W.r fun K hK=>?_
  simp(disch:=omega)only[↓RU,RV,RH,↓reduceIte,qE,reduceCtorEq,if_pos,w64,↓RS,RG,qA,qM,qL,zaw,d3]
  apply hK;clear hK K
  refine W.cond rfl (fun k2=>?_) (fun k2=>?_)
  ·try simp only[RL]at k2
   refine W.seq_draw (by kernel_rfl) fun K hK=>?_
   obtain ⟨a1,a2,a3,a4,hg1,-,a7,-⟩:=zau hpl
   obtain ⟨b1,b2,b3,b4,hg2,-,b7,-⟩:=zau hql
   have hS:=ze5 (g:=z6o p q) (by unfold z6o; rw [zjg]; omega) (fun r hr=>by rw [zna r hr]; omega)
   have hj:=zz3 (m:=c) hpl hql hpq
   rw [if_pos hcc]at hj
   rw [hj]at hS
   clear hj
   simp(disch:=omega)only[↓RU,RV,RH,↓reduceIte,qE,reduceCtorEq,if_pos,qN,↓RS,RG,qA,qM,qL,ty2,zce,Int.toNat_zero,Nat.zero_mul,qZ,qM,Nat.zero_add,Nat.mul_one,List.getElem?_cons_zero,List.getElem?_cons_succ,zdt]
   refine zac.pc (z6y hg1 hg2 (rP p) (rP q) (by omega) (zsb hql)) rfl (.inr rfl) ?_
   simp(disch:=omega)only[↓RU,RV,RH,↓reduceIte,qE,reduceCtorEq,if_pos,qN,↓RS,RG,qA,qM,qL,ty2,zce,Int.toNat_zero,Nat.zero_mul,qZ,qM,Nat.zero_add,Nat.mul_one,List.getElem?_cons_zero,List.getElem?_cons_succ,zdt]
   refine zac.pc (hS) rfl (.inr rfl) ?_
   simp(disch:=omega)only[↓RU,RV,RH,↓reduceIte,qE,reduceCtorEq,if_pos,qN,↓RS,RG,qA,qM,qL,ty2,zce,Int.toNat_zero,Nat.zero_mul,qZ,qM,Nat.zero_add,Nat.mul_one,List.getElem?_cons_zero,List.getElem?_cons_succ,zdt,flV]
   apply hK;clear hK K
   refine W.ret ?_
   refine XBlock.ret ?_
   refine XThen.ret ?_
   refine Br rfl ?_
   rw [show zo5 c [a,b]=zt5 c p q by simp only[zo5,zdj,hp,hq,Option.bind_some]]
   cases zt5 c p q <;> rfl
  try simp only[RL]at k2
  exact absurd k2 (by simp)
 skip
 have hps:psT [a,b]=[flP (some p),flP (some q)]:=by simp [psT,hp,hq]
 rw [hps]
 simp only[slP2,tlP2]
 have d1:((c.toNat:Int) == 62)=false:=by rw [hcc]; rfl
 have d2:((c.toNat:Int) == 94)=false:=by rw [hcc]; rfl
 have d3:((c.toNat:Int) == 124)=false:=by rw [hcc]; rfl
 have d4:((c.toNat:Int) == 45)=true:=by rw [hcc]; rfl
 simp(disch:=omega)only[↓RU,RV,RH,↓reduceIte,qE,reduceCtorEq,if_pos,w64,↓RS,RG,qA,qM,qL,zaw,d1]
 apply hK;clear hK K
 refine W.cond rfl (fun k0=>?_) (fun k0=>?_)
 ·try simp only[RL]at k0
  exact absurd k0 (by simp)
 try simp only[RL]at k0
 refine W.r fun K hK=>?_
 simp(disch:=omega)only[↓RU,RV,RH,↓reduceIte,qE,reduceCtorEq,if_pos,w64,↓RS,RG,qA,qM,qL,zaw,d2]
 apply hK;clear hK K
 refine W.cond rfl (fun k1=>?_) (fun k1=>?_)
 ·try simp only[RL]at k1
  exact absurd k1 (by simp)
 try simp only[RL]at k1
 refine W.r fun K hK=>?_
 simp(disch:=omega)only[↓RU,RV,RH,↓reduceIte,qE,reduceCtorEq,if_pos,w64,↓RS,RG,qA,qM,qL,zaw,d3]
 apply hK;clear hK K
 refine W.cond rfl (fun k2=>?_) (fun k2=>?_)
 ·try simp only[RL]at k2
  exact absurd k2 (by simp)
 try simp only[RL]at k2
 refine W.r fun K hK=>?_
 simp(disch:=omega)only[↓RU,RV,RH,↓reduceIte,qE,reduceCtorEq,if_pos,w64,↓RS,RG,qA,qM,qL,zaw,d4]
 apply hK;clear hK K
 refine W.cond rfl (fun k3=>?_) (fun k3=>?_)
 ·try simp only[RL]at k3
  refine W.seq_draw (by kernel_rfl) fun K hK=>?_
  obtain ⟨a1,a2,a3,a4,hg1,-,a7,-⟩:=zau hpl
  obtain ⟨b1,b2,b3,b4,hg2,-,b7,-⟩:=zau hql
  have hS:=ze5 (g:=z6p p q) (by unfold z6p; rw [zjg]; omega) (fun r hr=>by rw [zna r hr]; omega)
  have hj:=zz3 (m:=c) hpl hql hpq
  rw [if_neg (by rw [hcc]; decide)]at hj
  rw [hj]at hS
  clear hj
  simp(disch:=omega)only[↓RU,RV,RH,↓reduceIte,qE,reduceCtorEq,if_pos,qN,↓RS,RG,qA,qM,qL,ty2,zce,Int.toNat_zero,Nat.zero_mul,qZ,qM,Nat.zero_add,Nat.mul_one,List.getElem?_cons_zero,List.getElem?_cons_succ,zdt]
  refine zac.pc (z61 hg1 hg2 (rP p) (rP q) (by omega) (zsb hql)) rfl (.inr rfl) ?_
  simp(disch:=omega)only[↓RU,RV,RH,↓reduceIte,qE,reduceCtorEq,if_pos,qN,↓RS,RG,qA,qM,qL,ty2,zce,Int.toNat_zero,Nat.zero_mul,qZ,qM,Nat.zero_add,Nat.mul_one,List.getElem?_cons_zero,List.getElem?_cons_succ,zdt]
  refine zac.pc (hS) rfl (.inr rfl) ?_
  simp(disch:=omega)only[↓RU,RV,RH,↓reduceIte,qE,reduceCtorEq,if_pos,qN,↓RS,RG,qA,qM,qL,ty2,zce,Int.toNat_zero,Nat.zero_mul,qZ,qM,Nat.zero_add,Nat.mul_one,List.getElem?_cons_zero,List.getElem?_cons_succ,zdt,flV]
  apply hK;clear hK K
  refine W.ret ?_
  refine XBlock.ret ?_
  refine XThen.ret ?_
  refine Br rfl ?_
  rw [show zo5 c [a,b]=zt5 c p q by simp only[zo5,zdj,hp,hq,Option.bind_some]]
  cases zt5 c p q <;> rfl
 try simp only[RL]at k3
 exact absurd k3 (by simp)
theorem z7b:∀ t:Tm,t.ok→t.n≤7→PC Tryz.prog 25 [eT t] (flV (zdj t)) false:=by
 intro t
 induction t with
 | o=>intro _ _; exact ybb
 | un c t ih =>
  intro h h7
  exact z3f (c:=c) (ks:=[t]) (by simp) (by simp) (fun k hk=>by obtain rfl:=List.mem_singleton.1 hk; exact ⟨h.2,h7⟩) (by have h8:t.n≤7:=h7; simpa using h8) (fun k hk=>by obtain rfl:=List.mem_singleton.1 hk; exact ih h.2 h7) (.inl ⟨h.1,rfl⟩)
 | bin m a b i1 i2 =>
  intro h h7
  have pa:=a.pos
  have pb:=b.pos
  simp only[Tm.n]at h7
  exact z3f (c:=m) (ks:=[a,b]) (by simp) (by simp) (fun k hk=>by
   simp only[List.mem_cons,List.not_mem_nil,or_false]at hk
   rcases hk with rfl | rfl
   ·exact ⟨h.2.1,by omega⟩
   ·exact ⟨h.2.2,by omega⟩) (by simpa using h7) (fun k hk=>by
   simp only[List.mem_cons,List.not_mem_nil,or_false]at hk
   rcases hk with rfl | rfl
   ·exact i1 h.2.1 (by omega)
   exact i2 h.2.2 (by omega)) (.inr ⟨h.1,rfl⟩)
def tpR (s:Txt):PV:=match tpV s with | some p => .tup [zep p,.bool true] | none => .tup [.sl [] 0,.bool false]
theorem z79 {p:List Txt} (hp:zal p=true) {r:List Int} (hr:r∈gP p) {z:Int} (hz:z∈r):0≤z∧z≤100:=by
 obtain ⟨a1,a2,a3,a4,hg,-,-,-⟩:=zau hp
 obtain ⟨i,hi⟩:=List.getElem?_of_mem hr
 obtain ⟨j,hj⟩:=List.getElem?_of_mem hz
 have h1:=zbd hi
 have h2:=zbd hj
 rw [hg.1]at h1
 rw [hg.2.1 r hr]at h2
 have:=zsb hp i j h1 h2
 rwa [show gz (gP p) i j=z by simp [gz,hi,hj]]at this
theorem zxq (s:Txt) (hs:s.length≤1048576):PC Tryz.prog 7 [.str s] (tpR s) false:=by
 refine PC.of ⟨Tryz.func7,by kernel_rfl,rfl,by kernel_rfl⟩ zao mixed (by show 1≤Tryz.f7.ntmps; decide) ?_
 refine W.r fun K hK=>?_
 simp(disch:=omega)only[↓RU,RV,RH,↓reduceIte,qE,reduceCtorEq,if_pos,↓RS,RG,qA,qM,qL]
 apply hK;clear hK K
 refine W.r fun K hK=>?_
 simp(disch:=omega)only[↓RU,RV,RH,↓reduceIte,qE,reduceCtorEq,if_pos,qN,↓RS,RG,qA,qM,qL]
 refine zac.pc (zvw s hs) rfl (.inr rfl) ?_
 simp(disch:=omega)only[↓RU,RV,RH,↓reduceIte,qE,reduceCtorEq,if_pos,qN,↓RS,RG,qA,qM,qL]
 apply hK;clear hK K
 refine W.seq ?_
 refine W.r fun K hK=>?_
 rcases ho:ofT s with _ | t
 ·skip
  rw [zrq]
  simp(disch:=omega)only[↓RU,RV,RH,↓reduceIte,qE,reduceCtorEq,if_pos,w64,↓RS,RG,qA,qM,qL,zet,zir,ziq,qO]
  apply hK;clear hK K
  refine W.cond rfl (fun h0=>?_) (fun h0=>?_)
  ·try simp only[RL]at h0
   refine W.r fun K hK=>?_
   simp(disch:=omega)only[↓RU,RV,RH,↓reduceIte,qE,reduceCtorEq,if_pos,↓RS,RG,qA,qM,qL]
   apply hK;clear hK K
   refine W.ret ?_
   refine XThen.ret ?_
   refine Br rfl ?_
   rw [show tpR s = .tup [.sl [] 0,.bool false] by unfold tpR tpV; rw [ho]; rfl]
   rfl
  try simp only[RL]at h0
  exact absurd h0 (by simp)
 skip
 obtain ⟨cs,hcs⟩:=zfn t
 have hok:=zqr ho
 have hfl:=z7b t hok.1 hok.2.1
 rw [zh1,hcs]
 rw [hcs]at hfl
 simp(disch:=omega)only[↓RU,RV,RH,↓reduceIte,qE,reduceCtorEq,if_pos,w64,↓RS,RG,qA,qM,qL,zet,zir,ziq,qO]
 apply hK;clear hK K
 refine W.cond rfl (fun h0=>?_) (fun h0=>?_)
 ·try simp only[RL]at h0
  exact absurd h0 (by simp)
 try simp only[RL]at h0
 refine W.skip ?_
 refine xn ?_
 refine W.r fun K hK=>?_
 simp(disch:=omega)only[↓RU,RV,RH,↓reduceIte,qE,reduceCtorEq,if_pos,qN,↓RS,RG,qA,qM,qL,flV]
 refine zac.pc (hfl) rfl (.inr rfl) ?_
 simp(disch:=omega)only[↓RU,RV,RH,↓reduceIte,qE,reduceCtorEq,if_pos,qN,↓RS,RG,qA,qM,qL,flV]
 apply hK;clear hK K
 refine W.seq ?_
 refine W.r fun K hK=>?_
 rcases hp:zdj t with _ | p
 ·skip
  simp only[Option.isSome_none]
  simp(disch:=omega)only[↓RU,RV,RH,↓reduceIte,qE,reduceCtorEq,if_pos,↓RS,RG,qA,qM,qL]
  apply hK;clear hK K
  refine W.cond rfl (fun h1=>?_) (fun h1=>?_)
  ·try simp only[RL]at h1
   refine W.r fun K hK=>?_
   simp(disch:=omega)only[↓RU,RV,RH,↓reduceIte,qE,reduceCtorEq,if_pos,↓RS,RG,qA,qM,qL]
   apply hK;clear hK K
   refine W.ret ?_
   refine XThen.ret ?_
   refine Br rfl ?_
   rw [show tpR s = .tup [.sl [] 0,.bool false] by unfold tpR tpV; rw [ho,Option.bind_some,hp]]
   rfl
  try simp only[RL]at h1
  exact absurd h1 (by simp)
 skip
 obtain ⟨hpl,hn7,-⟩:=zif hok.1 (by have:=hok.2.1; omega) hp
 obtain ⟨a1,a2,a3,a4,hg,-,-,-⟩:=zau hpl
 simp only[Option.isSome_some,zdt]
 simp(disch:=omega)only[↓RU,RV,RH,↓reduceIte,qE,reduceCtorEq,if_pos,↓RS,RG,qA,qM,qL]
 apply hK;clear hK K
 refine W.cond rfl (fun h1=>?_) (fun h1=>?_)
 ·try simp only[RL]at h1
  exact absurd h1 (by simp)
 try simp only[RL]at h1
 refine W.skip ?_
 refine xn ?_
 refine W.r fun K hK=>?_
 simp(disch:=omega)only[↓RU,RV,RH,↓reduceIte,qE,reduceCtorEq,if_pos,qN,↓RS,RG,qA,qM,qL]
 refine zac.pc (z58 hg (rP p) (fun r hr z hz=>z79 hpl hr hz)) rfl (.inl rfl) ?_
 simp(disch:=omega)only[↓RU,RV,RH,↓reduceIte,qE,reduceCtorEq,if_pos,qN,↓RS,RG,qA,qM,qL]
 apply hK;clear hK K
 refine W.ret ?_
 refine Br rfl ?_
 rw [show tpR s = .tup [zep p,.bool true] by unfold tpR tpV; rw [ho,Option.bind_some,hp]]
 rw [(zdv (zcb hpl)).ht]
 rfl

theorem zo4 {code:Txt} {q vr t:Nat} {R:List Ob} (hc:code.length≤1048576) (hq:q≤1000000) (n:Int) (hn:n≤1000000) (hn0 : -1000000≤n) :
  Ev Tryz.prog 99 [.ref 0 vr 0,.int .i64 n] ⟨.arr vr 131 2 [eBy code,.int .i64 (q:Int)]::R,t⟩ fun v S=>∃ k:Nat,v = .int .i64 (k:Int)∧(n<1→k=0)∧(1≤n→(k:Int)<n)∧S=⟨.arr vr 131 2 [eBy code,.int .i64 ((q+1:Nat):Int)]::R,t⟩ :=
 z76 hc hq n hn hn0
theorem z7w {code:Txt} {q vr t v1:Nat} {R:List Ob} {l:List Txt} (hc:code.length≤1048576) (hq:q≤1000000) (hl:1≤l.length) (hl2:l.length≤1000):Ev Tryz.prog 100 [.ref 0 vr 0,.loc 1 v1 0 l.length] ⟨.arr vr 131 2 [eBy code,.int .i64 (q:Int)] :: .arr v1 9 1 (l.map .str)::R,t⟩ fun v S=>∃ s,s∈l∧v = .str s∧S=⟨.arr vr 131 2 [eBy code,.int .i64 ((q+1:Nat):Int)] :: .arr v1 9 1 (l.map .str)::R,t⟩:=by
 refine Ev.of ⟨Tryz.func100,by kernel_rfl,rfl,by kernel_rfl⟩ zao mixed (by show 2≤Tryz.f100.ntmps; decide) ?_
 refine W.r fun K hK=>?_
 simp(disch:=omega)only[↓RU,RV,RH,↓reduceIte,qE,reduceCtorEq,if_pos,↓RS,RG,qA,qM,qL]
 apply hK;clear hK K
 refine W.r fun K hK=>?_
 simp(disch:=omega)only[↓RU,RV,RH,↓reduceIte,qE,reduceCtorEq,if_pos,qN,↓RS,RG,qA,qM,qL,ty8,zae]
 refine zac.ev (zo4 hc hq (l.length:Int) (by omega) (by omega)) ?_
 rintro _ _ ⟨k,rfl,-,hk,rfl⟩
 have hk2:=hk (by omega)
 obtain ⟨s,hsk,hsm⟩:=zai (show k<l.length by omega)
 simp(disch:=omega)only[↓RU,RV,RH,↓reduceIte,qE,reduceCtorEq,if_pos,qN,↓RS,RG,qA,qM,qL,ty8,zae,hsk]
 apply hK;clear hK K
 refine W.ret ?_
 refine Br rfl ?_
 exact ⟨_,s,hsm,rfl,zan⟩



section
structure LoopR (ps:Array Tmp) (asg body:Code) (r:Loop):Prop where
 hps:r.params=ps
 hasg:r.assign=asg
 hbody:r.body=body
 dps:∀ t∈ps.toList,t<r.tmps.size
 dasg:zfz r.tmps.size asg=true
 dbody:zfz r.tmps.size body=true
def Env.puts:List (Nat × PV)→Env→Env
 | [],e=>e
 | (t,v)::r,e=>Env.puts r (e.put (some t) v)
section
variable {P:Program} {T:Tab} {Q Q':Exit→Env→Store→Prop} {e:Env} {S:Store} {a b c:Code} {F:Nat→Prop} {G:GSt} {w:World}
theorem ztx {ds:List Deferred}:∀ (ps:List Nat) (xs:List PV) (cs:List Value) (e:Env) (t:Array Value),zeu w.heap F G e ⟨t,ds⟩→(∀ p∈ps,p<t.size)→xs.length=cs.length →
  (∀ (i:Nat) p c,xs[i]?=some p→cs[i]?=some c→VR w.heap F G p c) →
  zeu w.heap F G (Env.puts (ps.zip xs) e) ⟨(ps.zip cs).foldl (fun t (q:Nat × Value)=>t.setIfInBounds q.1 q.2) t,ds⟩
 | [],xs,cs,e,t,he,_,_,_=>by simpa [Env.puts] using he
 | p::ps,[],[],e,t,he,_,_,_=>by simpa [Env.puts] using he
 | p::ps,x::xs,c::cs,e,t,he,hp,hl,hv=>by
  simp only[List.zip_cons_cons,Env.puts,List.foldl_cons]
  refine ztx ps xs cs _ _ ?_ ?_ (by simpa using hl) fun i p c q1 q2=>hv (i+1) p c (by simpa using q1) (by simpa using q2)
  ·have:=he.put (a:=⟨t,ds⟩) (some p) (v:=x) (cv:=c) (fun t' ht=>by cases ht; exact hp p (by simp)) (hv 0 x c rfl rfl)
   exact this
  intro q hq
  have:=hp q (by simp [hq])
  simpa using this
 | p::ps,[],c::cs,_,_,_,_,hl,_=>by simp at hl
 | p::ps,x::xs,[],_,_,_,_,hl,_=>by simp at hl
theorem z0x (l:List (Nat × Value)) (t:Array Value):(l.foldl (fun t (q:Nat × Value)=>t.setIfInBounds q.1 q.2) t).size=t.size:=by
 induction l generalizing t with
 | nil=>rfl
 | cons q l ih=>simp [ih]
theorem z48 (hi:Inv F G w) {o ver l:Nat} {r:Loop × List Nat} {tm:List PV} {lc:Lc} (ho:G.obs[o]?=some (.lp ver l r tm,lc)) (s:LoopState) (pe:Option Code) :
  ∃ t:Array Value,w.heap[l]?=some (.loop { r.1 with tmps:=t }) ∧
   Inv F ⟨G.obs.set o (.lp ver l ({ r.1 with state:=s,pending:=pe },r.2) tm,lc),G.tick⟩ (w.putObj l (.loop { r.1 with tmps:=t,state:=s,pending:=pe })) ∧
   Next F G w F ⟨G.obs.set o (.lp ver l ({ r.1 with state:=s,pending:=pe },r.2) tm,lc),G.tick⟩ (w.putObj l (.loop { r.1 with tmps:=t,state:=s,pending:=pe })):=by
 obtain ⟨h0,t,h1,h2,h3⟩:=hi.lp o ver l r tm lc ho
 have hlt:=(Array.getElem?_eq_some_iff.1 h1).1
 refine ⟨t,h1,zjv hi ho _ lc G.tick _ rfl rfl rfl (qR _) (by simp) (.inl rfl) (fun b hb hne=>World.putObj_heap_other (by rw [← h0]; exact hne)) (qR _) (show Ob.ver (.lp ver l r tm)<G.tick from hi.ver o _ lc ho)
  (.inl ⟨rfl,trivial,rfl⟩) ⟨h0,t,World.putObj_heap_same hlt,h2,h3⟩⟩
def ydf (o l:Nat) (J:PV→Store→Prop):Exit→Env→Store→Prop
 | .normal,_,S=>∃ ver r L tm k,S.obs[o]?=some (.lp ver l (r,L) tm)∧J (.bool true) (Store.take ⟨S.obs.set o (.lp ver l ({ r with state := .ready,pending:=none },L) tm),S.tick⟩ k)
 | .ret,_,S=>∃ ver r L tm k,S.obs[o]?=some (.lp ver l (r,L) tm)∧J (.bool false) (Store.take ⟨S.obs.set o (.lp ver l ({ r with state := .done,pending:=some .ret },L) tm),S.tick⟩ k)
 | .exit id,_,S=>∃ ver r L tm k,S.obs[o]?=some (.lp ver l (r,L) tm)∧J (.bool false) (Store.take ⟨S.obs.set o (.lp ver l ({ r with state := .done,pending:=some (.exit id) },L) tm),S.tick⟩ k)
 | _,_,_=>False
theorem VR.bool_of {H:Array Obj} {b:Bool}:VR H F G (.bool b) (.bool b) := .imm _ _ (.bool b)
theorem Ey.of (hT:zbh P T) (hm:P.follows .mixedOrders=true) {l o ver:Nat} {r:Loop} {L:List Nat} {tm xs:List PV} {ps:Array Tmp} {asg body:Code} {J:PV→Store→Prop}
  (ho:S.obs[o]?=some (.lp ver l (r,L) tm)) (hr:LoopR ps asg body r) (hst:r.state = .ready) (hps:ps.size=xs.length)
  (hw:W P T asg (XThen (fun e1 S1=>∃ ver1 r1 L1 tm1,S1.obs[o]?=some (.lp ver1 l (r1,L1) tm1)∧r1.state = .ready ∧
   W P T body (ydf o l J) e1 ⟨S1.obs.set o (.lp ver1 l ({ r1 with state := .busy,pending:=r1.pending },L1) tm1),S1.tick⟩) (fun _ _ _=>False)) (Env.puts (ps.toList.zip xs) (Env.of L tm)) S) :
  Ey P l xs S J:=by
 refine ⟨fun F G w cargs hS hi hl hv=>?_⟩
 subst hS
 obtain ⟨lc,hG⟩:=zfk ho
 obtain ⟨h0,t,h1,⟨h2,h2'⟩,h3⟩:=hi.lp o ver l (r,L) tm lc hG
 simp only at h1 h2 h2' h3
 refine ⟨_,_,_,_,run_yield h1 (by simp only; rw [hr.hps]; omega),fun R nn=>?_⟩
 refine roundIn_of_wpIn trivial ?_
 simp only
 have hE:zeu w.heap F G (Env.puts (ps.toList.zip xs) (Env.of L tm)) ⟨(ps.toList.zip cargs.toList).foldl (fun t (q:Nat × Value)=>t.setIfInBounds q.1 q.2) t,[]⟩ :=
  ztx _ _ _ _ _ (zr4 L tm h2'.symm fun i j v q1 q2=>h3 i v j q2 q1) (fun p hp=>Nat.lt_of_lt_of_eq (hr.dps p hp) h2.symm) (by simpa using hl) (fun i p c q1 q2=>hv i p c q1 (by simpa using q2))
 have hsz:((ps.toList.zip cargs.toList).foldl (fun t (q:Nat × Value)=>t.setIfInBounds q.1 q.2) t).size=r.tmps.size:=by rw [z0x]; exact h2
 have hfold:(r.params.zip cargs).foldl (fun tmps (x:Nat × Value)=>tmps.setIfInBounds x.1 x.2) t=(ps.toList.zip cargs.toList).foldl (fun t (q:Nat × Value)=>t.setIfInBounds q.1 q.2) t:=by
  rw [hr.hps,← Array.foldl_toList,Array.toList_zip]
 show (r.assign).wpIn (fnc (some l)) _ P _ { tmps:=(r.params.zip cargs).foldl (fun tmps (x:Nat × Value)=>tmps.setIfInBounds x.1 x.2) t,defers:=[] } w
 rw [hfold,hr.hasg,hr.hbody]
 refine wpIn_mono (hw.run hT hm F G w r.tmps.size F G _ w rfl hi hE (Next.refl w) hsz Marks.nil hr.dasg) ?_
 rintro x a1 w1 ⟨e1,F1,G1,k1,k2,k3,k4,k5,k6⟩
 cases x with
 | normal =>
  obtain ⟨ver1,r1,L1,tm1,g1,g2,g3⟩:=k1
  obtain ⟨lc1,hG1⟩:=zfk g1
  obtain ⟨t1,q1,q2,q3⟩:=z48 k2 hG1 .busy r1.pending
  refine ⟨_,run_beginRound q1 g2,?_⟩
  refine wpIn_mono (g3.run hT hm F G w r.tmps.size F1 _ a1 _ (zmp G1 o _ lc1 G1.tick) q2 (k3.next k2 q3) (k4.trans q3) k5 (k6.next k2 q3) hr.dbody) ?_
  have fin:∀ {F2:Nat→Prop} {G2:GSt} {w2:World} {v:Bool} {s:LoopState} {pe:Option Code} {ver2:Nat} {r2:Loop} {L2:List Nat} {tm2:List PV} {k:Nat},Inv F2 G2 w2→Next F G w F2 G2 w2 →
    s=(if pe.isNone then .ready else .done)→v=pe.isNone→G2.er.obs[o]?=some (.lp ver2 l (r2,L2) tm2) →
    J (.bool v) (Store.take ⟨G2.er.obs.set o (.lp ver2 l ({ r2 with state:=s,pending:=pe },L2) tm2),G2.er.tick⟩ k) →
    ∃ cv w3,(Instr.endRound l pe).run P w2 = .ok cv w3∧∃ v cv' F' G',Ending.returned cv = .returned cv'∧J v G'.er∧Inv F' G' w3∧Next F G w F' G' w3∧VR w3.heap F' G' v cv':=by
   intro F2 G2 w2 v s pe ver2 r2 L2 tm2 k i2 n2 hs hv2 hg hJ
   obtain ⟨lc2,hG2⟩:=zfk hg
   obtain ⟨t2,p1,p2,p3⟩:=z48 i2 hG2 s pe
   obtain ⟨i3,n3⟩:=zel p2 k
   have hrun:=run_endRound (P:=P) pe p1
   rw [← hs]at hrun
   refine ⟨_,_,hrun,.bool v,_,F2,GSt.take ⟨G2.obs.set o (.lp ver2 l ({ r2 with state:=s,pending:=pe },L2) tm2,lc2),G2.tick⟩ k,rfl,?_,i3,(n2.trans p3).trans n3,by rw [← hv2]; exact VR.bool_of⟩
   rw [zio,zmp]; exact hJ
  rintro x a2 w2 ⟨e2,F2,G2,j1,j2,j3,j4,j5,j6⟩
  cases x with
  | normal=>obtain ⟨ver2,r2,L2,tm2,k,f1,f2⟩:=j1; exact fin j2 j4 rfl rfl f1 f2
  | ret=>obtain ⟨ver2,r2,L2,tm2,k,f1,f2⟩:=j1; exact fin j2 j4 rfl rfl f1 f2
  | exit id=>obtain ⟨ver2,r2,L2,tm2,k,f1,f2⟩:=j1; exact fin j2 j4 rfl rfl f1 f2
  | _=>exact j1.elim
 | _=>exact k1.elim
structure V (P:Program) (T:Tab) (c:Code) (Q:Exit→Env→Store→Prop) (e:Env) (S:Store):Prop where
 run:zbh P T→P.follows .mixedOrders=true→∀ (F0:Nat→Prop) (G0:GSt) (w0:World) (N:Nat) (F:Nat→Prop) (G:GSt) (a:Act) (w:World),G.er=S→Inv F G w→zeu w.heap F G e a →
  Next F0 G0 w0 F G w→a.tmps.size=N→Marks w0 a.defers w→zfz N c=true→c.wpIn (fnc none) 0 P (Sto F0 G0 w0 N Q) a w
theorem W.v (h:W P T c Q e S):V P T c Q e S:=⟨fun h1 h2 F0 G0 w0 N F G a w h3 h4 h5 h6 h7 h8 h9=>h.run h1 h2 F0 G0 w0 N F G a w h3 h4 h5 h6 h7 h8 h9⟩
theorem V.mono (h:V P T c Q e S) (k:∀ x e S,Q x e S→Q' x e S):V P T c Q' e S :=
 ⟨fun h1 h2 F0 G0 w0 N F G a w h3 h4 h5 h6 h7 h8 h9=>wpIn_mono (h.run h1 h2 F0 G0 w0 N F G a w h3 h4 h5 h6 h7 h8 h9) fun _ _ _=>Sto.mono k⟩
theorem V.seq (h:V P T a (XThen (V P T b Q) Q) e S):V P T (.seq a b) Q e S:=by
 refine ⟨?_⟩
 intro hT hm F0 G0 w0 N F G a w h3 h4 h5 h6 h7 h8 h9
 simp only[zfz,qB]at h9
 refine wpIn_seq (wpIn_mono (h.run hT hm F0 G0 w0 N F G a w h3 h4 h5 h6 h7 h8 h9.1) ?_)
 rintro x a' w' ⟨e',F',G',k1,k2,k3,k4,k5,k6⟩
 cases x with
 | normal=>exact k1.run hT hm F0 G0 w0 N F' G' a' w' rfl k2 k3 k4 k5 k6 h9.2
 | _=>exact ⟨e',F',G',k1,k2,k3,k4,k5,k6⟩
theorem V.seq_region {id:Nat} {l:List Oper} (h:∀ K:Env→Store→Prop,(∀ e S,V P T b Q e S→K e S)→za8 false P T (dsts l) l e S K):V P T (.seq (.region id l.toArray false) b) Q e S :=
 V.seq (W.v (W.k fun K hK=>h K hK))
theorem V.seq_draw {id:Nat} {l:List Oper} (hc:zfd l.toArray (List.range' 0 l.length) (zgl l 0) []=true) (h:∀ K:Env→Store→Prop,(∀ e S,V P T b Q e S→K e S)→za8 true P T (dsts l) l e S K) :
  V P T (.seq (.region id l.toArray true) b) Q e S :=
 V.seq (W.v (W.draw_k hc fun K hK=>h K hK))
theorem V.seq_drawE {id:Nat} {l:List Oper} (hc:zfd l.toArray (List.range' 0 l.length) (zb1 l 0) []=true) (h:∀ K:Env→Store→Prop,(∀ e S,V P T b Q e S→K e S)→za8 false P T (dsts l) l e S K) :
  V P T (.seq (.region id l.toArray true) b) Q e S :=
 V.seq (W.v (W.drawE_k hc fun K hK=>h K hK))
theorem V.cond {x:Operand} {t:Bool} (hc:e.ev x = .bool t) (h1:t=true→V P T a Q e S) (h2:t=false→V P T b Q e S):V P T (.cond x a b) Q e S:=by
 refine ⟨?_⟩
 intro hT hm F0 G0 w0 N F G a w h3 h4 h5 h6 h7 h8 h9
 simp only[zfz,qB]at h9
 have:=h5.ev x
 rw [hc]at this
 exact wpIn_cond_split this.bool (fun ht=>(h1 ht).run hT hm F0 G0 w0 N F G a w h3 h4 h5 h6 h7 h8 h9.1) (fun ht=>(h2 ht).run hT hm F0 G0 w0 N F G a w h3 h4 h5 h6 h7 h8 h9.2)
theorem V.block {id:Nat} (h:V P T c (XBlock id Q) e S):V P T (.block id c) Q e S:=by
 refine ⟨?_⟩
 intro hT hm F0 G0 w0 N F G a w h3 h4 h5 h6 h7 h8 h9
 refine wpIn_block (wpIn_mono (h.run hT hm F0 G0 w0 N F G a w h3 h4 h5 h6 h7 h8 h9) ?_)
 rintro x a' w' ⟨e',F',G',k1,k2⟩
 cases x with
 | exit i =>
  simp only[Exit.inBlock]
  simp only[XBlock]at k1
  split
  ·rename_i hi; rw [if_pos hi]at k1; exact ⟨e',F',G',k1,k2⟩
  rename_i hi; rw [if_neg hi]at k1; exact ⟨e',F',G',k1,k2⟩
 | _=>exact ⟨e',F',G',k1,k2⟩
def ybk:Option Code→Option Exit
 | none=>some .normal
 | some .ret=>some .ret
 | some (.exit id)=>some (.exit id)
 | _=>none
theorem zv9 (hi:Inv F G w) (ob:Obj):Inv F G (w.alloc ob)∧Next F G w F G (w.alloc ob):=by
 have hkeep:∀ b,b<w.heap.size→(w.alloc ob).heap[b]?=w.heap[b]?:=fun b hb=>Go.RowKit.Below.heap_alloc w ob b hb
 have hn:Next F G w F G (w.alloc ob) :=
  ⟨rfl,rfl,rfl,by simp,fun _ h=>h,fun _ h => .inl h,fun o x h => .inr ⟨o,x,h,rfl⟩,qR _,fun b hb _=>hkeep b hb,fun _ ob' _ h _=>⟨ob',h,rfl,Ob.like.refl _⟩,qR _⟩
 exact ⟨zh9 (fun b hb=>Nat.lt_of_lt_of_le (hi.fr b hb) hn.size) hi.ver hi.nF (fun o ob' l h=>(hi.holds h).next hi hn (hkeep _ (hi.blk_lt h))) hi.inj,hn⟩
theorem VR.fn_at {f:FuncId} {cap:List PV} {v:Value} (h:VR w.heap F G (.fn f cap) v):∃ vs:Array Value,v = .func (.func f) #[] vs∧cap.length=vs.size∧∀ (i:Nat) p c,cap[i]?=some p→vs[i]?=some c→VR w.heap F G p c:=by
 cases h with
 | imm _ _ h=>cases h with | fn _ _ vs h1 h2=>exact ⟨vs,rfl,h1,fun i p c q1 q2 => .imm _ _ (h2 i p c q1 q2)⟩
 | fn _ _ vs h1 h2=>exact ⟨vs,rfl,h1,h2⟩
theorem V.rangeFunc {g:Operand} {ps:Array Tmp} {asg body:Code} (L:List Nat) {f:FuncId} {cap:List PV} (hg:e.ev g = .fn f cap)
  (h:∀ (l:Nat) (r:Loop),LoopR ps asg body r→r.state = .ready→r.pending=none→∃ J,Ev P f (.yl l::cap) ⟨S.obs++[.lp S.tick l (r,L) (L.map e)],S.tick+1⟩ J ∧
   ∀ v S',J v S'→∃ ver r' L' tm x,S'.obs[S.obs.length]?=some (.lp ver l (r',L') tm)∧r'.state ≠ .busy∧ybk r'.pending=some x∧Q x e (S'.take S.obs.length)) :
  V P T (.rangeFunc g ps asg body) Q e S:=by
 refine ⟨?_⟩
 intro hT hm F0 G0 w0 N F G a w h3 h4 h5 h6 h7 h8 h9
 subst h3
 simp only[zfz,qB,List.all_eq_true,decide_eq_true_eq]at h9
 obtain ⟨⟨d1,d2⟩,d3⟩:=h9
 refine wpIn_rangeFunc ?_
 intro fn _
 obtain ⟨rec,hrec⟩:∃ rec:Loop,rec={ state := .ready,pending:=none,fn,tmps:=a.tmps,params:=ps,assign:=asg,body,defers:=w.heap.size }:=⟨_,rfl⟩
 obtain ⟨i1,n1⟩:=zv9 h4 (.deferred (some []))
 obtain ⟨W0,hW0⟩:∃ W0,w.alloc (.deferred (some []))=W0:=⟨_,rfl⟩
 have hsz:W0.heap.size=w.heap.size+1:=by rw [← hW0]; simp
 rw [hW0]at i1 n1
 have hdef:W0.heap[w.heap.size]?=some (.deferred (some [])):=by rw [← hW0]; exact World.alloc_heap_new w _
 obtain ⟨W1,hW1⟩:∃ W1,W0.alloc (.loop rec)=W1:=⟨_,rfl⟩
 have hL1:W1.heap[W0.heap.size]?=some (.loop rec):=by rw [← hW1]; exact World.alloc_heap_new W0 _
 have hhold:Holds W0.heap F G W1.heap (.lp G.tick W0.heap.size (rec,L) (L.map e)) ⟨W0.heap.size,0⟩:=by
  refine ⟨rfl,a.tmps,by rw [hL1,hrec],⟨by rw [hrec],by simp⟩,fun i p j q1 q2=>?_⟩
  simp only at q2
  rw [List.getElem?_map,q2]at q1
  cases q1
  exact (h5 j).next h4 n1
 obtain ⟨i2,n2⟩:=zsf i1 (.lp G.tick W0.heap.size (rec,L) (L.map e)) 0 W1 W1.drawn (by rw [← hW1]; rfl) (by rw [← hW1]; exact qR _) ⟨_,by rw [← hW1]; rfl⟩ rfl hhold
 have n12:=n1.trans n2
 have hgv:=h5.ev g
 rw [hg]at hgv
 obtain ⟨vs,hge,hvl,hvr⟩:=hgv.fn_at
 obtain ⟨J,hev,hJ⟩:=h W0.heap.size rec (by rw [hrec]; exact ⟨rfl,rfl,rfl,fun t ht=>by rw [h7]; exact d1 t ht,by rw [h7]; exact d2,by rw [h7]; exact d3⟩) (by rw [hrec]) (by rw [hrec])
 refine ⟨w.heap.size+1,[{ target := .collected w.heap.size,args := #[] }],W1,{ target := .fn (.func f) vs,args := #[.func (.yield (w.heap.size+1)) #[] #[]] },W1,f,
  #[.func (.yield (w.heap.size+1)) #[] #[]]++vs,W1,?_,?_,fun _ _=>trivial,?_,fun q=>(by simp [Fence.wide]at q),?_⟩
 ·rw [← hW1,← hW0,hrec]; exact run_enterLoop_outer _ _ _ _ _
 ·simp only[resolve,hge]
  simp [go_sem]
 ·simp only[invoke]; exact hev.ent _ _
 ·refine callsIn_wide.2 ((hev.run F _ W1 _ (zwm G _ _) i2 (by simp; omega) ?_).mono ?_)
  ·intro i p c q1 q2
   cases i with
   | zero=>rw [Array.getElem?_append_left (by simp)]at q2; simp at q1 q2; subst q1; subst q2; rw [hsz]; exact .imm _ _ (.yl _)
   | succ i =>
    simp only[List.getElem?_cons_succ]at q1
    rw [Array.getElem?_append_right (by simp)]at q2
    simp at q2
    exact (hvr i p c q1 q2).next h4 n12
  ·rintro en w2 ⟨v,cv,F2,G2,rfl,j1,j2,j3,j4⟩
   obtain ⟨ver,r',L',tm,x,g1,g2,g3,g4⟩:=hJ v _ j1
   obtain ⟨lc,hG2⟩:=zfk g1
   rw [show (GSt.er G).obs.length=G.obs.length by simp [GSt.er]]at hG2 g4
   obtain ⟨t,p1,p2,p3⟩:=z48 j2 hG2 .exhausted r'.pending
   obtain ⟨i3,n3⟩:=zel p2 G.obs.length
   rw [hsz]at p1
   refine ⟨_,_,run_endLoop p1 g2,?_⟩
   have hnx:=((h6.trans n12).trans (j3.trans p3)).trans n3
   have hmk:Marks w0 ([{ target := .collected w.heap.size,args := #[] }]++a.defers) (w2.putObj W0.heap.size (.loop { r' with tmps:=t,state := .exhausted,pending:=r'.pending })):=by
    have m1:=h8.next h4 n12
    have hd1:W1.heap[w.heap.size]?=some (.deferred (some [])):=(by rw [← hW1]; exact (Go.RowKit.Below.heap_alloc W0 _ _ (by omega)).trans hdef)
    have m2:Marks w0 ([{ target := .collected w.heap.size,args := #[] }]++a.defers) W1:=by
     obtain ⟨bs,b1,b2,b3⟩:=h8
     obtain ⟨bs',c1,c2,c3⟩:=m1
     have hb:bs'=bs:=by
      rw [b1]at c1
      have:=congrArg (List.map fun d:Deferred=>(match d.target with | .collected b=>b | _=>0)) c1
      simpa [List.map_map,Function.comp_def] using this.symm
     subst hb
     refine ⟨w.heap.size::bs',by rw [b1]; simp,?_,?_⟩
     ·refine List.nodup_cons.2 ⟨fun hm=>?_,b2⟩
      have:=(Array.getElem?_eq_some_iff.1 (b3 _ hm).2).1
      omega
     intro b hb
     rcases List.mem_cons.1 hb with rfl | hb
     ·exact ⟨h6.size,hd1⟩
     exact c3 b hb
    exact (m2.next i2 j3).next j2 p3
   have henv:zeu (w2.putObj W0.heap.size (.loop { r' with tmps:=t,state := .exhausted,pending:=r'.pending })).heap F2 (GSt.take ⟨G2.obs.set G.obs.length (.lp ver W0.heap.size ({ r' with state := .exhausted,pending:=r'.pending },L') tm,lc),G2.tick⟩ G.obs.length) e { a with defers:=[{ target := .collected w.heap.size,args := #[] }]++a.defers } :=
    fun k=>((((h5 k).next h4 n12).next i2 j3).next j2 p3).next p2 n3
   have hst:Sto F0 G0 w0 N Q x { a with defers:=[{ target := .collected w.heap.size,args := #[] }]++a.defers } (w2.putObj W0.heap.size (.loop { r' with tmps:=t,state := .exhausted,pending:=r'.pending })):=by
    refine ⟨e,F2,_,?_,i3,henv,hnx,h7,hmk⟩
    have:(GSt.take ⟨G2.obs.set G.obs.length (.lp ver W0.heap.size ({ r' with state := .exhausted,pending:=r'.pending },L') tm,lc),G2.tick⟩ G.obs.length).er=G2.er.take G.obs.length:=by
     simp [GSt.take,GSt.er,Store.take,List.take_set_of_le]
    rw [this]; exact g4
   rw [hsz]at hst
   cases hpe:r'.pending with
   | none=>rw [hpe]at g3 hst ; simp only[ybk]at g3; cases g3; exact hst
   | some c =>
    rw [hpe]at g3 hst
    cases c <;> simp only[ybk]at g3 <;> cases g3
    ·exact wpIn_exit hst
    exact wpIn_ret hst
theorem Fn.callsV {f:FuncId} {fn:Func} (h:Fn P f fn c) (hT:zbh P T) (hm:P.follows .mixedOrders=true) {args:List PV} {K:PV→Store→Prop} (hn:args.length≤fn.ntmps)
  (hw:V P T c (zeo T fn.results.toList K) (zaf args) S) {F:Nat→Prop} {G:GSt} {w:World} {cargs:Array Value} (hS:G.er=S) (hi:Inv F G w) (hl:args.length=cargs.size)
  (hv:∀ (i:Nat) p c,args[i]?=some p→cargs[i]?=some c→VR w.heap F G p c) :
  Calls P f cargs w fun e w'=>∃ v cv F' G',e = .returned cv∧K v G'.er∧Inv F' G' w'∧Next F G w F' G' w'∧VR w'.heap F' G' v cv :=
 h.calls_of hT hn hi hl (hw.run hT hm F G w fn.ntmps F G _ w hS hi (z2l hl hv _ _) (Next.refl w) (by simp; omega) Marks.nil h.dst)
theorem Ev.ofV {f:FuncId} {fn:Func} (h:Fn P f fn c) (hT:zbh P T) (hm:P.follows .mixedOrders=true) {args:List PV} {J:PV→Store→Prop} (hn:args.length≤fn.ntmps)
  (hw:V P T c (zeo T fn.results.toList fun v S1=>∃ k,J v (S1.take k)) (zaf args) S):Ev P f args S J:=by
 refine ⟨h.ent,fun F G w cargs hS hi hl hv=>(h.callsV hT hm hn hw hS hi hl hv).mono ?_⟩
 rintro en w' ⟨v',cv,F',G',k1,⟨k,k2⟩,k3,k4,k5⟩
 obtain ⟨i1,i2⟩:=zel k3 k
 exact ⟨v',cv,F',G'.take k,k1,(zio G' k).symm ▸ k2,i1,k4.trans i2,k5.next k3 i2⟩
theorem PC.ofV {f:FuncId} {fn:Func} (h:Fn P f fn c) (hT:zbh P T) (hm:P.follows .mixedOrders=true) {args:List PV} {r:PV} {fr:Bool} (hn:args.length≤fn.ntmps)
  (hw:V P T c (zeo T fn.results.toList fun v S=>reify S (!fr) 10 v=some r) (zaf args) ⟨[],0⟩):PC P f args r fr:=by
 refine ⟨h.ent,fun F w cargs hF hl hv=>?_⟩
 have hi:Inv F ⟨[],0⟩ w:=⟨hF,by simp,by simp,by simp,by simp,by simp,by simp⟩
 refine (h.callsV hT hm hn hw rfl hi hl fun i p c q1 q2 => .imm _ _ (hv i p c q1 q2)).mono ?_
 rintro en w' ⟨v',cv,F',G',rfl,k2,k3,k4,k5⟩
 refine ⟨cv,rfl,⟨⟨k4.os,k4.tape,k4.output,k4.size,fun b hb=>k4.keep b hb (by simp)⟩,k4.drawn⟩,(zdn k3 k5 k2).mono ?_ (fun _ _=>rfl)⟩
 rintro b (⟨h1,h2⟩ | ⟨o,x,hx,rfl⟩)
 ·rcases k4.fnew b h2 with h3 | h3 | ⟨o,x,hx,_⟩
  ·exact .inr ⟨by simpa using h1,h3⟩
  ·exact .inl ⟨h3,k3.fr b h2⟩
  simp at hx
 rcases k4.gnew o x hx with h3 | ⟨o',y,hy,_⟩
 ·exact .inl ⟨h3,k3.blk_lt hx⟩
 simp at hy
end
end
section
section
variable {P:Program} {T:Tab} {F0:Nat→Prop} {G0:GSt} {w0:World} {N:Nat}
end
end


def eS:Tm→List PV
 | .o=>[.int .u8 111,.sl [] 0]
 | .un c t=>[eB c,.sl (eS t) 1]
 | .bin m a b=>[eB m,.sl (eS a++eS b) 2]
theorem zer (t:Tm):∃ (c:UInt8) (cs:List PV) (n:Nat),eS t=[eB c,.sl cs n]:=by
 cases t with
 | o=>exact ⟨111,_,_,rfl⟩
 | un c t=>exact ⟨_,_,_,rfl⟩
 | bin m a b=>exact ⟨_,_,_,rfl⟩
theorem yei:∀ (f:Nat) (s:Txt) (k:Nat),(rdS f s k).2=0∨k<(rdS f s k).2:=by
 intro f
 induction f with
 | zero=>intro s k; exact .inl rfl
 | succ f ih =>
  intro s k
  simp only[rdS]
  split
  ·exact .inl rfl
  split
  ·exact .inr (by simp)
  split
  ·have:=ih s (k+1)
   simp only
   omega
  split
  ·split
   ·exact .inl rfl
   split
   ·exact .inl rfl
   split
   ·split
    ·exact .inl rfl
    split
    ·exact .inl rfl
    split
    ·have h1:=ih s (k+1)
     have h2:=ih s ((rdS f s (k+1)).2+1)
     simp only
     omega
    exact .inl rfl
   exact .inl rfl
  exact .inl rfl
theorem yfy {f k:Nat} {s:Txt} {c:UInt8} (hc:s[k]?=some c):rdS (f+1) s k =
   if c=111 then (.o,k+1)
   else if c=62∨c=94 then (.un c (rdS f s (k+1)).1,(rdS f s (k+1)).2)
   else if c=40 then
    if (rdS f s (k+1)).2=0 then (.o,0) else
    match s[(rdS f s (k+1)).2]? with
    | none=>(.o,0)
    | some m=>if m=124∨m=45 then
      if (rdS f s ((rdS f s (k+1)).2+1)).2=0 then (.o,0) else
      match s[(rdS f s ((rdS f s (k+1)).2+1)).2]? with
      | none=>(.o,0)
      | some e=>if e=41 then (.bin m (rdS f s (k+1)).1 (rdS f s ((rdS f s (k+1)).2+1)).1,(rdS f s ((rdS f s (k+1)).2+1)).2+1) else (.o,0)
     else (.o,0)
   else (.o,0):=by simp only[rdS,hc]; rfl
def rdV (f:Nat) (s:Txt) (k:Nat):PV := .tup [.agg (eS (rdS f s k).1),.int .i64 ((rdS f s k).2:Nat)]
theorem zon (s:Txt) (hs:s.length≤1048576):PC Tryz.prog 63 [.str s] (.int .i64 ((s.count 111:Nat):Int)) true:=by
 refine PC.of ⟨Tryz.func63,by kernel_rfl,rfl,by kernel_rfl⟩ zao mixed (by show 1≤Tryz.f63.ntmps; decide) ?_
 refine W.r fun K hK=>?_
 simp(disch:=omega)only[↓RU,RV,RH,↓reduceIte,qE,reduceCtorEq,if_pos,↓RS,RG,qA,qM,qL]
 apply hK;clear hK K
 refine W.r fun K hK=>?_
 simp(disch:=omega)only[↓RU,RV,RH,↓reduceIte,qE,reduceCtorEq,if_pos,↓RS,RG,qA,qM,qL]
 apply hK;clear hK K
 refine W.seq ?_
 refine W.r fun K hK=>?_
 simp(disch:=omega)only[↓RU,RV,RH,↓reduceIte,qE,reduceCtorEq,if_pos,↓RS,RG,qA,qM,qL]
 apply hK;clear hK K
 refine W.block ?_
 refine W.loop [0,3,4] (fun n vs S=>∃ i:Nat,n=s.length - i∧i≤s.length∧vs=[.str s,.int .i64 (((s.take i).count 111:Nat):Int),.int .i64 i]∧S=⟨[],0⟩) (s.length) ?_ ?_
 ·refine ⟨0,0,rfl,Nat.zero_le _,?_,rfl⟩
  simp [Env.put,Env.of,zaf]
 rintro n vs S - ⟨i,rfl,h_i,rfl,rfl⟩
 refine W.seq ?_
 refine W.r fun K hK=>?_
 simp(disch:=omega)only[↓RU,RV,RH,↓reduceIte,qE,reduceCtorEq,if_pos,w64,↓RS,RG,qA,qM,qL,zaa,zae]
 apply hK;clear hK K
 refine W.cond rfl (fun h0=>?_) (fun h0=>?_)
 ·try simp only[RL]at h0
  obtain ⟨c,hc,-⟩:=zai (show i<s.length by omega)
  have hcn:=List.count_le_length (a:=111) (l:=s.take i)
  have htl:=List.length_take_le i s
  refine W.skip ?_
  refine xn ?_
  refine W.seq ?_
  refine W.block ?_
  refine W.r fun K hK=>?_
  simp(disch:=omega)only[↓RU,RV,RH,↓reduceIte,qE,reduceCtorEq,if_pos,w64,↓RS,RG,qA,qM,qL,zae,zaw,hc]
  apply hK;clear hK K
  refine W.cond rfl (fun h1=>?_) (fun h1=>?_)
  ·try simp only[RL]at h1
   refine W.k fun K hK=>?_
   simp(disch:=omega)only[↓RU,RV,RH,↓reduceIte,qE,reduceCtorEq,if_pos,w64,↓RS,RG,qA,qM,qL,zaa]
   apply hK;clear hK K
   refine XbN ?_
   refine xn ?_
   refine W.k fun K hK=>?_
   simp(disch:=omega)only[↓RU,RV,RH,↓reduceIte,qE,reduceCtorEq,if_pos,w64,↓RS,RG,qA,qM,qL,zaa]
   apply hK;clear hK K
   refine xn ?_
   refine ⟨s.length - (i+1),by omega,0,i+1,rfl,by omega,?_,rfl⟩
   have e:(s.take (i+1)).count 111=(s.take i).count 111+1:=by rw [tk hc,List.count_append,u8i (c:=c) (k:=111) (by omega) (by decide)]; rfl
   rw [e]
   simp [Env.put,Env.of,zaf]
  try simp only[RL]at h1
  refine W.skip ?_
  refine XbN ?_
  refine xn ?_
  refine W.k fun K hK=>?_
  simp(disch:=omega)only[↓RU,RV,RH,↓reduceIte,qE,reduceCtorEq,if_pos,w64,↓RS,RG,qA,qM,qL,zaa]
  apply hK;clear hK K
  refine xn ?_
  refine ⟨s.length - (i+1),by omega,0,i+1,rfl,by omega,?_,rfl⟩
  have e:(s.take (i+1)).count 111=(s.take i).count 111:=by rw [tk hc,List.count_append,List.count_singleton,if_neg (by simp; intro e; exact h1 (by rw [e]; rfl))]; rfl
  rw [e]
  simp [Env.put,Env.of,zaf]
 try simp only[RL]at h0
 obtain rfl:i=s.length:=by omega
 rw [List.take_length]
 refine W.exit ?_
 refine xe ?_
 refine xe ?_
 refine XBlock.hit ?_
 refine xn ?_
 refine W.r fun K hK=>?_
 simp(disch:=omega)only[↓RU,RV,RH,↓reduceIte,qE,reduceCtorEq,if_pos,↓RS,RG,qA,qM,qL]
 apply hK;clear hK K
 refine W.ret ?_
 refine Br rfl ?_
 rfl
theorem zom {s:Txt} (hs:s.length≤1048576) {f k:Nat} (hk:s.length<f+1+k) (hk2:k≤s.length+1) (ih:∀ k2:Nat,s.length<f+k2∧k2≤s.length+1∧k<k2→PC Tryz.prog 64 [.str s,.int .i64 k2] (rdV f s k2) false):PC Tryz.prog 64 [.str s,.int .i64 k] (rdV (f+1) s k) false:=by
 refine PC.of ⟨Tryz.func64,by kernel_rfl,rfl,by kernel_rfl⟩ zao mixed (by show 2≤Tryz.f64.ntmps; decide) ?_
 refine W.r fun K hK=>?_
 simp(disch:=omega)only[↓RU,RV,RH,↓reduceIte,qE,reduceCtorEq,if_pos,↓RS,RG,qA,qM,qL,ty7,zdp,zdq,zaw]
 apply hK;clear hK K
 refine W.r fun K hK=>?_
 simp(disch:=omega)only[↓RU,RV,RH,↓reduceIte,qE,reduceCtorEq,if_pos,↓RS,RG,qA,qM,qL,ty7,zdp,zdq,zaw]
 apply hK;clear hK K
 refine W.seq ?_
 refine W.r fun K hK=>?_
 simp(disch:=omega)only[↓RU,RV,RH,↓reduceIte,qE,reduceCtorEq,if_pos,w64,↓RS,RG,qA,qM,qL,zaa,zae]
 apply hK;clear hK K
 refine W.cond rfl (fun h0=>?_) (fun h0=>?_)
 ·try simp only[RL]at h0
  have hno:rdS (f+1) s k=(.o,0):=by simp only[rdS]; rw [List.getElem?_eq_none (by omega)]
  refine W.r fun K hK=>?_
  simp(disch:=omega)only[↓RU,RV,RH,↓reduceIte,qE,reduceCtorEq,if_pos,↓RS,RG,qA,qM,qL,ty7,zdp,zdq,zaw]
  apply hK;clear hK K
  refine W.ret ?_
  refine XThen.ret ?_
  refine Br rfl ?_
  rw [show rdV (f+1) s k = .tup [.agg (eS .o),.int .i64 0] by unfold rdV; rw [hno]; rfl]
  rfl
 try simp only[RL]at h0
 obtain ⟨c,hc,-⟩:=zai (show k<s.length by omega)
 have hrd:=yfy (f:=f) hc
 refine W.skip ?_
 refine xn ?_
 refine W.r fun K hK=>?_
 simp(disch:=omega)only[↓RU,RV,RH,↓reduceIte,qE,reduceCtorEq,if_pos,↓RS,RG,qA,qM,qL,zae,hc]
 apply hK;clear hK K
 refine W.seq ?_
 refine W.r fun K hK=>?_
 simp(disch:=omega)only[↓RU,RV,RH,↓reduceIte,qE,reduceCtorEq,if_pos,w64,↓RS,RG,qA,qM,qL,zaw]
 apply hK;clear hK K
 refine W.cond rfl (fun h1=>?_) (fun h1=>?_)
 ·try simp only[RL]at h1
  have hc1:c=111:=u8i (k:=111) (by omega) (by decide)
  rw [if_pos hc1]at hrd
  refine W.r fun K hK=>?_
  simp(disch:=omega)only[↓RU,RV,RH,↓reduceIte,qE,reduceCtorEq,if_pos,w64,↓RS,RG,qA,qM,qL,ty7,zaa,zdp,zdq,zaw]
  apply hK;clear hK K
  refine W.ret ?_
  refine XThen.ret ?_
  refine Br rfl ?_
  rw [show rdV (f+1) s k = .tup [.agg (eS .o),.int .i64 ((k:Int)+1)] by unfold rdV; rw [hrd]; show PV.tup [.agg (eS .o),.int .i64 ((k+1:Nat):Int)]=_; rw [Int.natCast_add]; rfl]
  rfl
 try simp only[RL]at h1
 have hc1:¬ c=111:=fun e=>h1 (by rw [e]; rfl)
 rw [if_neg hc1]at hrd
 refine W.skip ?_
 refine xn ?_
 refine W.seq ?_
 refine W.r fun K hK=>?_
 rcases (show c=62∨(c≠62∧c=94)∨(c≠62∧c≠94) by by_cases e:c=62 <;> by_cases e2:c=94 <;> simp [e,e2]) with m1 | ⟨m0,m1⟩ | ⟨m0,m1⟩
 ·skip
  have d1:((c.toNat:Int) == 62)=true:=by rw [m1]; rfl
  simp(disch:=omega)only[↓RU,RV,RH,↓reduceIte,qE,reduceCtorEq,if_pos,w64,↓RS,RG,qA,qM,qL,zaw,d1]
  apply hK;clear hK K
  refine W.cond rfl (fun h2=>?_) (fun h2=>?_)
  ·try simp only[RL]at h2
   rw [if_pos (.inl m1)]at hrd
   refine W.r fun K hK=>?_
   obtain ⟨u,e,hue⟩:∃ u e,rdS f s (k+1)=(u,e):=⟨_,_,rfl⟩
   have hI:=ih (k+1) (by omega)
   unfold rdV at hI
   rw [hue]at hI hrd
   obtain ⟨cu,us,un,hus⟩:=zer u
   simp only[hus]at hI
   simp(disch:=omega)only[↓RU,RV,RH,↓reduceIte,qE,reduceCtorEq,if_pos,w64,qN,↓RS,RG,qA,qM,qL,ty7,zaa,zdp,zdq,zaw,Int.toNat_zero,Nat.zero_mul,qZ,qM,Nat.zero_add,Nat.mul_one,List.getElem?_cons_zero,List.getElem?_cons_succ]
   refine zac.pc (hI) rfl (.inr rfl) ?_
   simp(disch:=omega)only[↓RU,RV,RH,↓reduceIte,qE,reduceCtorEq,if_pos,w64,qN,↓RS,RG,qA,qM,qL,ty7,zaa,zdp,zdq,zaw,Int.toNat_zero,Nat.zero_mul,qZ,qM,Nat.zero_add,Nat.mul_one,List.getElem?_cons_zero,List.getElem?_cons_succ]
   apply hK;clear hK K
   refine W.r fun K hK=>?_
   simp(disch:=omega)only[↓RU,RV,RH,↓reduceIte,qE,reduceCtorEq,if_pos,↓RS,RG,qA,qM,qL,ty7,zdp,zdq,zaw,Int.toNat_zero,Nat.zero_mul,qZ,qM,Nat.zero_add,Nat.mul_one,List.getElem?_cons_zero,List.getElem?_cons_succ]
   apply hK;clear hK K
   refine W.ret ?_
   refine XThen.ret ?_
   refine Br rfl ?_
   rw [show rdV (f+1) s k = .tup [.agg (eS (.un c u)),.int .i64 e] by unfold rdV; rw [hrd]]
   rw [show eS (.un c u)=[eB c,.sl [eB cu,.sl us un] 1] by rw [eS,hus]]
   rfl
  try simp only[RL]at h2
  exact absurd h2 (by simp)
 ·skip
  have d1:((c.toNat:Int) == 62)=false:=by rw [beq_eq_false_iff_ne]; exact zcr (k:=62) (by assumption) (by decide)
  have d2:((c.toNat:Int) == 94)=true:=by rw [m1]; rfl
  simp(disch:=omega)only[↓RU,RV,RH,↓reduceIte,qE,reduceCtorEq,if_pos,w64,↓RS,RG,qA,qM,qL,zaw,d1,d2]
  apply hK;clear hK K
  refine W.cond rfl (fun h2=>?_) (fun h2=>?_)
  ·try simp only[RL]at h2
   rw [if_pos (.inr m1)]at hrd
   refine W.r fun K hK=>?_
   obtain ⟨u,e,hue⟩:∃ u e,rdS f s (k+1)=(u,e):=⟨_,_,rfl⟩
   have hI:=ih (k+1) (by omega)
   unfold rdV at hI
   rw [hue]at hI hrd
   obtain ⟨cu,us,un,hus⟩:=zer u
   simp only[hus]at hI
   simp(disch:=omega)only[↓RU,RV,RH,↓reduceIte,qE,reduceCtorEq,if_pos,w64,qN,↓RS,RG,qA,qM,qL,ty7,zaa,zdp,zdq,zaw,Int.toNat_zero,Nat.zero_mul,qZ,qM,Nat.zero_add,Nat.mul_one,List.getElem?_cons_zero,List.getElem?_cons_succ]
   refine zac.pc (hI) rfl (.inr rfl) ?_
   simp(disch:=omega)only[↓RU,RV,RH,↓reduceIte,qE,reduceCtorEq,if_pos,w64,qN,↓RS,RG,qA,qM,qL,ty7,zaa,zdp,zdq,zaw,Int.toNat_zero,Nat.zero_mul,qZ,qM,Nat.zero_add,Nat.mul_one,List.getElem?_cons_zero,List.getElem?_cons_succ]
   apply hK;clear hK K
   refine W.r fun K hK=>?_
   simp(disch:=omega)only[↓RU,RV,RH,↓reduceIte,qE,reduceCtorEq,if_pos,↓RS,RG,qA,qM,qL,ty7,zdp,zdq,zaw,Int.toNat_zero,Nat.zero_mul,qZ,qM,Nat.zero_add,Nat.mul_one,List.getElem?_cons_zero,List.getElem?_cons_succ]
   apply hK;clear hK K
   refine W.ret ?_
   refine XThen.ret ?_
   refine Br rfl ?_
   rw [show rdV (f+1) s k = .tup [.agg (eS (.un c u)),.int .i64 e] by unfold rdV; rw [hrd]]
   rw [show eS (.un c u)=[eB c,.sl [eB cu,.sl us un] 1] by rw [eS,hus]]
   rfl
  try simp only[RL]at h2
  exact absurd h2 (by simp)
 skip
 have m2:c≠UInt8.ofNat 94:=m1
 have d1:((c.toNat:Int) == 62)=false:=by rw [beq_eq_false_iff_ne]; exact zcr (k:=62) (by assumption) (by decide)
 have d2:((c.toNat:Int) == 94)=false:=by rw [beq_eq_false_iff_ne]; exact zcr (k:=94) (by assumption) (by decide)
 simp(disch:=omega)only[↓RU,RV,RH,↓reduceIte,qE,reduceCtorEq,if_pos,w64,↓RS,RG,qA,qM,qL,zaw,d1,d2]
 apply hK;clear hK K
 refine W.cond rfl (fun h2=>?_) (fun h2=>?_)
 ·try simp only[RL]at h2
  exact absurd h2 (by simp)
 try simp only[RL]at h2
 rw [if_neg (fun e=>e.elim m0 m1)]at hrd
 refine W.skip ?_
 refine xn ?_
 refine W.seq ?_
 refine W.r fun K hK=>?_
 simp(disch:=omega)only[↓RU,RV,RH,↓reduceIte,qE,reduceCtorEq,if_pos,w64,↓RS,RG,qA,qM,qL,zaw]
 apply hK;clear hK K
 refine W.cond rfl (fun h3=>?_) (fun h3=>?_)
 ·try simp only[RL]at h3
  have hc4:¬ c=40:=fun e=>h3 (by rw [e]; rfl)
  have hno:rdS (f+1) s k=(.o,0):=by rw [hrd,if_neg hc4]
  refine W.r fun K hK=>?_
  simp(disch:=omega)only[↓RU,RV,RH,↓reduceIte,qE,reduceCtorEq,if_pos,↓RS,RG,qA,qM,qL,ty7,zdp,zdq,zaw]
  apply hK;clear hK K
  refine W.ret ?_
  refine XThen.ret ?_
  refine Br rfl ?_
  rw [show rdV (f+1) s k = .tup [.agg (eS .o),.int .i64 0] by unfold rdV; rw [hno]; rfl]
  rfl
 try simp only[RL]at h3
 have hc4:c=40:=u8i (k:=40) (by omega) (by decide)
 rw [if_pos hc4]at hrd
 refine W.skip ?_
 refine xn ?_
 refine W.r fun K hK=>?_
 obtain ⟨u,e,hue⟩:∃ u e,rdS f s (k+1)=(u,e):=⟨_,_,rfl⟩
 have hge:=yei f s (k+1)
 have hI:=ih (k+1) (by omega)
 unfold rdV at hI
 rw [hue]at hI hrd hge
 obtain ⟨cu,us,un,hus⟩:=zer u
 simp only[hus]at hI
 simp only at hrd hge
 simp(disch:=omega)only[↓RU,RV,RH,↓reduceIte,qE,reduceCtorEq,if_pos,w64,qN,↓RS,RG,qA,qM,qL,ty7,zaa,zdp,zdq,zaw,Int.toNat_zero,Nat.zero_mul,qZ,qM,Nat.zero_add,Nat.mul_one,List.getElem?_cons_zero,List.getElem?_cons_succ]
 refine zac.pc (hI) rfl (.inr rfl) ?_
 simp(disch:=omega)only[↓RU,RV,RH,↓reduceIte,qE,reduceCtorEq,if_pos,w64,qN,↓RS,RG,qA,qM,qL,ty7,zaa,zdp,zdq,zaw,Int.toNat_zero,Nat.zero_mul,qZ,qM,Nat.zero_add,Nat.mul_one,List.getElem?_cons_zero,List.getElem?_cons_succ]
 apply hK;clear hK K
 refine W.seq ?_
 refine W.r fun K hK=>?_
 rcases (show e=0∨(e≠0∧s.length≤e)∨(e≠0∧e<s.length∧∃ m,s[e]?=some m∧(m=124∨(m≠124∧m=45)∨(m≠124∧m≠45))) by
  by_cases e0:e=0
  ·exact .inl e0
  by_cases e1:e<s.length
  ·obtain ⟨m,hm,-⟩:=zai e1
   exact .inr (.inr ⟨e0,e1,m,hm,by by_cases x:m=124 <;> by_cases y:m=45 <;> simp [x,y]⟩)
  exact .inr (.inl ⟨e0,by omega⟩)) with e0 | ⟨e0,el⟩ | ⟨e0,el,m,hm,m1 | ⟨m0,m1⟩ | ⟨m0,m1⟩⟩
 ·skip
  have ze:((e:Int) == 0)=true:=by rw [beq_iff_eq]; omega
  have hno:rdS (f+1) s k=(.o,0):=by rw [hrd,if_pos e0]
  simp(disch:=omega)only[↓RU,RV,RH,↓reduceIte,qE,reduceCtorEq,if_pos,w64,↓RS,RG,qA,qM,qL,zaa,zae,zaw,ze]
  apply hK;clear hK K
  refine W.cond rfl (fun h4=>?_) (fun h4=>?_)
  ·try simp only[RL]at h4
   refine W.r fun K hK=>?_
   simp(disch:=omega)only[↓RU,RV,RH,↓reduceIte,qE,reduceCtorEq,if_pos,↓RS,RG,qA,qM,qL,ty7,zdp,zdq,zaw]
   apply hK;clear hK K
   refine W.ret ?_
   refine XThen.ret ?_
   refine Br rfl ?_
   rw [show rdV (f+1) s k = .tup [.agg (eS .o),.int .i64 0] by unfold rdV; rw [hno]; rfl]
   rfl
  try simp only[RL]at h4
  exact absurd h4 (by simp)
 ·skip
  have ze:((e:Int) == 0)=false:=by rw [beq_eq_false_iff_ne]; omega
  have ge:decide ((e:Int) ≥ (s.length:Int))=true:=decide_eq_true (by omega)
  have hno:rdS (f+1) s k=(.o,0):=by rw [hrd,if_neg e0,List.getElem?_eq_none el]
  simp(disch:=omega)only[↓RU,RV,RH,↓reduceIte,qE,reduceCtorEq,if_pos,w64,↓RS,RG,qA,qM,qL,zaa,zae,zaw,ze,ge]
  apply hK;clear hK K
  refine W.cond rfl (fun h4=>?_) (fun h4=>?_)
  ·try simp only[RL]at h4
   refine W.r fun K hK=>?_
   simp(disch:=omega)only[↓RU,RV,RH,↓reduceIte,qE,reduceCtorEq,if_pos,↓RS,RG,qA,qM,qL,ty7,zdp,zdq,zaw]
   apply hK;clear hK K
   refine W.ret ?_
   refine XThen.ret ?_
   refine Br rfl ?_
   rw [show rdV (f+1) s k = .tup [.agg (eS .o),.int .i64 0] by unfold rdV; rw [hno]; rfl]
   rfl
  try simp only[RL]at h4
  exact absurd h4 (by simp)
 ·skip
  have ze:((e:Int) == 0)=false:=by rw [beq_eq_false_iff_ne]; omega
  have ge:decide ((e:Int) ≥ (s.length:Int))=false:=decide_eq_false (by omega)
  have n1:((m.toNat:Int) != 124)=false:=by rw [m1]; rfl
  rw [if_neg e0,hm]at hrd
  simp only at hrd
  rw [if_pos (.inl m1)]at hrd
  simp(disch:=omega)only[↓RU,RV,RH,↓reduceIte,qE,reduceCtorEq,if_pos,w64,↓RS,RG,qA,qM,qL,zaa,zae,zaw,ze,ge,hm,n1]
  apply hK;clear hK K
  refine W.cond rfl (fun h4=>?_) (fun h4=>?_)
  ·try simp only[RL]at h4
   exact absurd h4 (by simp)
  try simp only[RL]at h4
  refine W.skip ?_
  refine xn ?_
  refine W.r fun K hK=>?_
  obtain ⟨u2,e2,hue2⟩:∃ u2 e2,rdS f s (e+1)=(u2,e2):=⟨_,_,rfl⟩
  have hI2:=ih (e+1) (by omega)
  unfold rdV at hI2
  rw [hue2]at hI2 hrd
  obtain ⟨cv,vs,vn,hvs⟩:=zer u2
  simp only[hvs]at hI2
  simp only at hrd
  simp(disch:=omega)only[↓RU,RV,RH,↓reduceIte,qE,reduceCtorEq,if_pos,w64,qN,↓RS,RG,qA,qM,qL,ty7,zaa,zdp,zdq,zaw,Int.toNat_zero,Nat.zero_mul,qZ,qM,Nat.zero_add,Nat.mul_one,List.getElem?_cons_zero,List.getElem?_cons_succ]
  refine zac.pc (hI2) rfl (.inr rfl) ?_
  simp(disch:=omega)only[↓RU,RV,RH,↓reduceIte,qE,reduceCtorEq,if_pos,w64,qN,↓RS,RG,qA,qM,qL,ty7,zaa,zdp,zdq,zaw,Int.toNat_zero,Nat.zero_mul,qZ,qM,Nat.zero_add,Nat.mul_one,List.getElem?_cons_zero,List.getElem?_cons_succ]
  apply hK;clear hK K
  refine W.seq ?_
  refine W.r fun K hK=>?_
  rcases (show e2=0∨(e2≠0∧s.length≤e2)∨(e2≠0∧e2<s.length∧∃ x,s[e2]?=some x∧(x=41∨x≠41)) by
   by_cases e0:e2=0
   ·exact .inl e0
   by_cases e1:e2<s.length
   ·obtain ⟨m,hm,-⟩:=zai e1
    exact .inr (.inr ⟨e0,e1,m,hm,Classical.em _⟩)
   exact .inr (.inl ⟨e0,by omega⟩)) with f0 | ⟨f0,fl⟩ | ⟨f0,fl,x,hx,x1 | x1⟩
  ·skip
   have ze2:((e2:Int) == 0)=true:=by rw [beq_iff_eq]; omega
   have hno:rdS (f+1) s k=(.o,0):=by rw [hrd,if_pos f0]
   simp(disch:=omega)only[↓RU,RV,RH,↓reduceIte,qE,reduceCtorEq,if_pos,w64,↓RS,RG,qA,qM,qL,zaa,zae,zaw,ze2]
   apply hK;clear hK K
   refine W.cond rfl (fun h5=>?_) (fun h5=>?_)
   ·try simp only[RL]at h5
    refine W.r fun K hK=>?_
    simp(disch:=omega)only[↓RU,RV,RH,↓reduceIte,qE,reduceCtorEq,if_pos,↓RS,RG,qA,qM,qL,ty7,zdp,zdq,zaw]
    apply hK;clear hK K
    refine W.ret ?_
    refine XThen.ret ?_
    refine Br rfl ?_
    rw [show rdV (f+1) s k = .tup [.agg (eS .o),.int .i64 0] by unfold rdV; rw [hno]; rfl]
    rfl
   try simp only[RL]at h5
   exact absurd h5 (by simp)
  ·skip
   have ze2:((e2:Int) == 0)=false:=by rw [beq_eq_false_iff_ne]; omega
   have ge2:decide ((e2:Int) ≥ (s.length:Int))=true:=decide_eq_true (by omega)
   have hno:rdS (f+1) s k=(.o,0):=by rw [hrd,if_neg f0,List.getElem?_eq_none fl]
   simp(disch:=omega)only[↓RU,RV,RH,↓reduceIte,qE,reduceCtorEq,if_pos,w64,↓RS,RG,qA,qM,qL,zaa,zae,zaw,ze2,ge2]
   apply hK;clear hK K
   refine W.cond rfl (fun h5=>?_) (fun h5=>?_)
   ·try simp only[RL]at h5
    refine W.r fun K hK=>?_
    simp(disch:=omega)only[↓RU,RV,RH,↓reduceIte,qE,reduceCtorEq,if_pos,↓RS,RG,qA,qM,qL,ty7,zdp,zdq,zaw]
    apply hK;clear hK K
    refine W.ret ?_
    refine XThen.ret ?_
    refine Br rfl ?_
    rw [show rdV (f+1) s k = .tup [.agg (eS .o),.int .i64 0] by unfold rdV; rw [hno]; rfl]
    rfl
   try simp only[RL]at h5
   exact absurd h5 (by simp)
  ·skip
   have ze2:((e2:Int) == 0)=false:=by rw [beq_eq_false_iff_ne]; omega
   have ge2:decide ((e2:Int) ≥ (s.length:Int))=false:=decide_eq_false (by omega)
   have n3:((x.toNat:Int) != 41)=false:=by rw [x1]; rfl
   rw [if_neg f0,hx]at hrd
   simp only at hrd
   rw [if_pos x1]at hrd
   simp(disch:=omega)only[↓RU,RV,RH,↓reduceIte,qE,reduceCtorEq,if_pos,w64,↓RS,RG,qA,qM,qL,zaa,zae,zaw,ze2,ge2,hx,n3]
   apply hK;clear hK K
   refine W.cond rfl (fun h5=>?_) (fun h5=>?_)
   ·try simp only[RL]at h5
    exact absurd h5 (by simp)
   try simp only[RL]at h5
   refine W.skip ?_
   refine xn ?_
   refine W.seq_draw_p [0,1,2,3,4,7,8,5,6,9,10] [_,_,_,_,_,_,_,_,_,_,_] rfl (by kernel_rfl) fun K hK=>?_
   simp(disch:=omega)only[↓RU,RV,RH,↓reduceIte,qE,reduceCtorEq,if_pos,w64,↓RS,RG,qA,qM,qL,ty7,zaa,zdp,zae,zdq,zaw,Int.toNat_zero,Nat.zero_mul,qZ,qM,Nat.zero_add,Nat.mul_one,List.getElem?_cons_zero,List.getElem?_cons_succ,hm]
   apply hK;clear hK K
   refine W.ret ?_
   refine Br rfl ?_
   rw [show rdV (f+1) s k = .tup [.agg (eS (.bin m u u2)),.int .i64 ((e2:Int)+1)] by unfold rdV; rw [hrd]; show PV.tup [.agg (eS (.bin m u u2)),.int .i64 ((e2+1:Nat):Int)]=_; rw [Int.natCast_add]; rfl]
   rw [show eS (.bin m u u2)=[eB m,.sl [eB cu,.sl us un,eB cv,.sl vs vn] 2] by rw [eS,hus,hvs]; rfl]
   rfl
  skip
  have ze2:((e2:Int) == 0)=false:=by rw [beq_eq_false_iff_ne]; omega
  have ge2:decide ((e2:Int) ≥ (s.length:Int))=false:=decide_eq_false (by omega)
  have n3:((x.toNat:Int) != 41)=true:=by rw [bne_iff_ne]; exact zcr (k:=41) (by assumption) (by decide)
  have hno:rdS (f+1) s k=(.o,0):=by rw [hrd,if_neg f0,hx]; simp only; rw [if_neg x1]
  simp(disch:=omega)only[↓RU,RV,RH,↓reduceIte,qE,reduceCtorEq,if_pos,w64,↓RS,RG,qA,qM,qL,zaa,zae,zaw,ze2,ge2,hx,n3]
  apply hK;clear hK K
  refine W.cond rfl (fun h5=>?_) (fun h5=>?_)
  ·try simp only[RL]at h5
   refine W.r fun K hK=>?_
   simp(disch:=omega)only[↓RU,RV,RH,↓reduceIte,qE,reduceCtorEq,if_pos,↓RS,RG,qA,qM,qL,ty7,zdp,zdq,zaw]
   apply hK;clear hK K
   refine W.ret ?_
   refine XThen.ret ?_
   refine Br rfl ?_
   rw [show rdV (f+1) s k = .tup [.agg (eS .o),.int .i64 0] by unfold rdV; rw [hno]; rfl]
   rfl
  try simp only[RL]at h5
  exact absurd h5 (by simp)
 ·skip
  have ze:((e:Int) == 0)=false:=by rw [beq_eq_false_iff_ne]; omega
  have ge:decide ((e:Int) ≥ (s.length:Int))=false:=decide_eq_false (by omega)
  have n1:((m.toNat:Int) != 124)=true:=by rw [bne_iff_ne]; exact zcr (k:=124) (by assumption) (by decide)
  have n2:((m.toNat:Int) != 45)=false:=by rw [m1]; rfl
  rw [if_neg e0,hm]at hrd
  simp only at hrd
  rw [if_pos (.inr m1)]at hrd
  simp(disch:=omega)only[↓RU,RV,RH,↓reduceIte,qE,reduceCtorEq,if_pos,w64,↓RS,RG,qA,qM,qL,zaa,zae,zaw,ze,ge,hm,n1,n2]
  apply hK;clear hK K
  refine W.cond rfl (fun h4=>?_) (fun h4=>?_)
  ·try simp only[RL]at h4
   exact absurd h4 (by simp)
  try simp only[RL]at h4
  refine W.skip ?_
  refine xn ?_
  refine W.r fun K hK=>?_
  obtain ⟨u2,e2,hue2⟩:∃ u2 e2,rdS f s (e+1)=(u2,e2):=⟨_,_,rfl⟩
  have hI2:=ih (e+1) (by omega)
  unfold rdV at hI2
  rw [hue2]at hI2 hrd
  obtain ⟨cv,vs,vn,hvs⟩:=zer u2
  simp only[hvs]at hI2
  simp only at hrd
  simp(disch:=omega)only[↓RU,RV,RH,↓reduceIte,qE,reduceCtorEq,if_pos,w64,qN,↓RS,RG,qA,qM,qL,ty7,zaa,zdp,zdq,zaw,Int.toNat_zero,Nat.zero_mul,qZ,qM,Nat.zero_add,Nat.mul_one,List.getElem?_cons_zero,List.getElem?_cons_succ]
  refine zac.pc (hI2) rfl (.inr rfl) ?_
  simp(disch:=omega)only[↓RU,RV,RH,↓reduceIte,qE,reduceCtorEq,if_pos,w64,qN,↓RS,RG,qA,qM,qL,ty7,zaa,zdp,zdq,zaw,Int.toNat_zero,Nat.zero_mul,qZ,qM,Nat.zero_add,Nat.mul_one,List.getElem?_cons_zero,List.getElem?_cons_succ]
  apply hK;clear hK K
  refine W.seq ?_
  refine W.r fun K hK=>?_
  rcases (show e2=0∨(e2≠0∧s.length≤e2)∨(e2≠0∧e2<s.length∧∃ x,s[e2]?=some x∧(x=41∨x≠41)) by
   by_cases e0:e2=0
   ·exact .inl e0
   by_cases e1:e2<s.length
   ·obtain ⟨m,hm,-⟩:=zai e1
    exact .inr (.inr ⟨e0,e1,m,hm,Classical.em _⟩)
   exact .inr (.inl ⟨e0,by omega⟩)) with f0 | ⟨f0,fl⟩ | ⟨f0,fl,x,hx,x1 | x1⟩
  ·skip
   have ze2:((e2:Int) == 0)=true:=by rw [beq_iff_eq]; omega
   have hno:rdS (f+1) s k=(.o,0):=by rw [hrd,if_pos f0]
   simp(disch:=omega)only[↓RU,RV,RH,↓reduceIte,qE,reduceCtorEq,if_pos,w64,↓RS,RG,qA,qM,qL,zaa,zae,zaw,ze2]
   apply hK;clear hK K
   refine W.cond rfl (fun h5=>?_) (fun h5=>?_)
   ·try simp only[RL]at h5
    refine W.r fun K hK=>?_
    simp(disch:=omega)only[↓RU,RV,RH,↓reduceIte,qE,reduceCtorEq,if_pos,↓RS,RG,qA,qM,qL,ty7,zdp,zdq,zaw]
    apply hK;clear hK K
    refine W.ret ?_
    refine XThen.ret ?_
    refine Br rfl ?_
    rw [show rdV (f+1) s k = .tup [.agg (eS .o),.int .i64 0] by unfold rdV; rw [hno]; rfl]
    rfl
   try simp only[RL]at h5
   exact absurd h5 (by simp)
  ·skip
   have ze2:((e2:Int) == 0)=false:=by rw [beq_eq_false_iff_ne]; omega
   have ge2:decide ((e2:Int) ≥ (s.length:Int))=true:=decide_eq_true (by omega)
   have hno:rdS (f+1) s k=(.o,0):=by rw [hrd,if_neg f0,List.getElem?_eq_none fl]
   simp(disch:=omega)only[↓RU,RV,RH,↓reduceIte,qE,reduceCtorEq,if_pos,w64,↓RS,RG,qA,qM,qL,zaa,zae,zaw,ze2,ge2]
   apply hK;clear hK K
   refine W.cond rfl (fun h5=>?_) (fun h5=>?_)
   ·try simp only[RL]at h5
    refine W.r fun K hK=>?_
    simp(disch:=omega)only[↓RU,RV,RH,↓reduceIte,qE,reduceCtorEq,if_pos,↓RS,RG,qA,qM,qL,ty7,zdp,zdq,zaw]
    apply hK;clear hK K
    refine W.ret ?_
    refine XThen.ret ?_
    refine Br rfl ?_
    rw [show rdV (f+1) s k = .tup [.agg (eS .o),.int .i64 0] by unfold rdV; rw [hno]; rfl]
    rfl
   try simp only[RL]at h5
   exact absurd h5 (by simp)
  ·skip
   have ze2:((e2:Int) == 0)=false:=by rw [beq_eq_false_iff_ne]; omega
   have ge2:decide ((e2:Int) ≥ (s.length:Int))=false:=decide_eq_false (by omega)
   have n3:((x.toNat:Int) != 41)=false:=by rw [x1]; rfl
   rw [if_neg f0,hx]at hrd
   simp only at hrd
   rw [if_pos x1]at hrd
   simp(disch:=omega)only[↓RU,RV,RH,↓reduceIte,qE,reduceCtorEq,if_pos,w64,↓RS,RG,qA,qM,qL,zaa,zae,zaw,ze2,ge2,hx,n3]
   apply hK;clear hK K
   refine W.cond rfl (fun h5=>?_) (fun h5=>?_)
   ·try simp only[RL]at h5
    exact absurd h5 (by simp)
   try simp only[RL]at h5
   refine W.skip ?_
   refine xn ?_
   refine W.seq_draw_p [0,1,2,3,4,7,8,5,6,9,10] [_,_,_,_,_,_,_,_,_,_,_] rfl (by kernel_rfl) fun K hK=>?_
   simp(disch:=omega)only[↓RU,RV,RH,↓reduceIte,qE,reduceCtorEq,if_pos,w64,↓RS,RG,qA,qM,qL,ty7,zaa,zdp,zae,zdq,zaw,Int.toNat_zero,Nat.zero_mul,qZ,qM,Nat.zero_add,Nat.mul_one,List.getElem?_cons_zero,List.getElem?_cons_succ,hm]
   apply hK;clear hK K
   refine W.ret ?_
   refine Br rfl ?_
   rw [show rdV (f+1) s k = .tup [.agg (eS (.bin m u u2)),.int .i64 ((e2:Int)+1)] by unfold rdV; rw [hrd]; show PV.tup [.agg (eS (.bin m u u2)),.int .i64 ((e2+1:Nat):Int)]=_; rw [Int.natCast_add]; rfl]
   rw [show eS (.bin m u u2)=[eB m,.sl [eB cu,.sl us un,eB cv,.sl vs vn] 2] by rw [eS,hus,hvs]; rfl]
   rfl
  skip
  have ze2:((e2:Int) == 0)=false:=by rw [beq_eq_false_iff_ne]; omega
  have ge2:decide ((e2:Int) ≥ (s.length:Int))=false:=decide_eq_false (by omega)
  have n3:((x.toNat:Int) != 41)=true:=by rw [bne_iff_ne]; exact zcr (k:=41) (by assumption) (by decide)
  have hno:rdS (f+1) s k=(.o,0):=by rw [hrd,if_neg f0,hx]; simp only; rw [if_neg x1]
  simp(disch:=omega)only[↓RU,RV,RH,↓reduceIte,qE,reduceCtorEq,if_pos,w64,↓RS,RG,qA,qM,qL,zaa,zae,zaw,ze2,ge2,hx,n3]
  apply hK;clear hK K
  refine W.cond rfl (fun h5=>?_) (fun h5=>?_)
  ·try simp only[RL]at h5
   refine W.r fun K hK=>?_
   simp(disch:=omega)only[↓RU,RV,RH,↓reduceIte,qE,reduceCtorEq,if_pos,↓RS,RG,qA,qM,qL,ty7,zdp,zdq,zaw]
   apply hK;clear hK K
   refine W.ret ?_
   refine XThen.ret ?_
   refine Br rfl ?_
   rw [show rdV (f+1) s k = .tup [.agg (eS .o),.int .i64 0] by unfold rdV; rw [hno]; rfl]
   rfl
  try simp only[RL]at h5
  exact absurd h5 (by simp)
 skip
 have ze:((e:Int) == 0)=false:=by rw [beq_eq_false_iff_ne]; omega
 have ge:decide ((e:Int) ≥ (s.length:Int))=false:=decide_eq_false (by omega)
 have m2:m≠UInt8.ofNat 45:=m1
 have n1:((m.toNat:Int) != 124)=true:=by rw [bne_iff_ne]; exact zcr (k:=124) (by assumption) (by decide)
 have n2:((m.toNat:Int) != 45)=true:=by rw [bne_iff_ne]; exact zcr (k:=45) (by assumption) (by decide)
 have hno:rdS (f+1) s k=(.o,0):=by rw [hrd,if_neg e0,hm]; simp only; rw [if_neg (fun x=>x.elim m0 m1)]
 simp(disch:=omega)only[↓RU,RV,RH,↓reduceIte,qE,reduceCtorEq,if_pos,w64,↓RS,RG,qA,qM,qL,zaa,zae,zaw,ze,ge,hm,n1,n2]
 apply hK;clear hK K
 refine W.cond rfl (fun h4=>?_) (fun h4=>?_)
 ·try simp only[RL]at h4
  refine W.r fun K hK=>?_
  simp(disch:=omega)only[↓RU,RV,RH,↓reduceIte,qE,reduceCtorEq,if_pos,↓RS,RG,qA,qM,qL,ty7,zdp,zdq,zaw]
  apply hK;clear hK K
  refine W.ret ?_
  refine XThen.ret ?_
  refine Br rfl ?_
  rw [show rdV (f+1) s k = .tup [.agg (eS .o),.int .i64 0] by unfold rdV; rw [hno]; rfl]
  rfl
 try simp only[RL]at h4
 exact absurd h4 (by simp)

theorem z05 {s:Txt} (hs:s.length≤1048576):∀ (f k:Nat),s.length<f+k→k≤s.length+1→PC Tryz.prog 64 [.str s,.int .i64 k] (rdV f s k) false:=by
 intro f
 induction f with
 | zero =>
  intro k hk hk2
  have e:rdV 0 s k=rdV 1 s k:=by
   unfold rdV
   rw [show rdS 1 s k=(.o,0) by simp only[rdS]; rw [List.getElem?_eq_none (by omega)]]; rfl
  rw [e]
  exact zom hs (f:=0) (by omega) hk2 fun k2 h2=>absurd h2.2.2 (by omega)
 | succ f ih=>intro k hk hk2; exact zom hs hk hk2 fun k2 h2=>ih k2 h2.1 h2.2.1
def ofU (s:Txt):Tm:=if s.length>60∨s.count 111>7 then .o else (rdS (s.length+1) s 0).1
theorem yed {s:Txt} {t:Tm} (h:ofT s=some t):ofU s=t:=by
 obtain ⟨h1,h2,h3,h4,h5⟩:=zqr h
 unfold ofU
 rw [if_neg (by omega)]
 have:=z99 (s.length+1) s 0
 rw [List.drop_zero,h5]at this
 exact this.1
theorem zr3 {s:Txt} (h1:s.length≤60) (h2:s.count 111≤7):(ofT s).isSome=(decide (0<(rdS (s.length+1) s 0).2) && decide ((rdS (s.length+1) s 0).2=s.length)):=by
 have h:=z99 (s.length+1) s 0
 rw [List.drop_zero]at h
 unfold ofT
 rw [if_neg (by omega)]
 cases hr:rd (s.length+1) s with
 | none=>rw [hr]at h; simp only at h ⊢; rw [h]; rfl
 | some q =>
  obtain ⟨t,r⟩:=q
  rw [hr]at h
  simp only at h
  obtain ⟨-,k1,k2,k3⟩:=h
  rw [decide_eq_true (show 0<(rdS (s.length+1) s 0).2 by omega),Bool.true_and]
  cases r with
  | nil =>
   have:=congrArg List.length k3
   rw [List.length_drop,List.length_nil]at this
   rw [decide_eq_true (by omega)]; rfl
  | cons c r =>
   have:=congrArg List.length k3
   rw [List.length_drop,List.length_cons]at this
   rw [decide_eq_false (by omega)]; rfl
def ofV (s:Txt):PV := .tup [.agg (eS (ofU s)),.bool (ofT s).isSome]
def ppA:Option (List Txt)→PV
 | some p=>zep p
 | none => .sl [] 0
def ppR (o:Option (List Txt)):PV := .tup [ppA o,.bool o.isSome]
theorem z8c {p:List Txt}:ppA (some p)=zep p:=rfl
theorem z8b:ppA none = .sl [] 0:=rfl
theorem yex (s:Txt):tpR s=ppR (tpV s):=by unfold tpR; cases tpV s <;> rfl
theorem zw8 {p:List Txt} (hp:zal p=true):1≤p.length∧p.length≤100∧(∀ r∈p,r.length=(zag p).length)∧(zag p).length≤100∧Sm p:=by
 obtain ⟨a1,a2,a3,a4,-⟩:=zau hp
 exact ⟨a1,by omega,(z8a hp).w,by omega,Sm.grid (ze1 (zcb hp))⟩
theorem z7q (s:Txt) (hs:s.length≤1048576):PC Tryz.prog 27 [.str s] (ofV s) false:=by
 refine PC.of ⟨Tryz.func27,by kernel_rfl,rfl,by kernel_rfl⟩ zao mixed (by show 1≤Tryz.f27.ntmps; decide) ?_
 refine W.r fun K hK=>?_
 simp(disch:=omega)only[↓RU,RV,RH,↓reduceIte,qE,reduceCtorEq,if_pos,↓RS,RG,qA,qM,qL,ty7,zdp,zdq,zaw]
 apply hK;clear hK K
 refine W.seq ?_
 refine W.r fun K hK=>?_
 rcases (show 60<s.length∨(s.length≤60∧7<s.count 111)∨(s.length≤60∧s.count 111≤7) by omega) with q1 | ⟨q1,q2⟩ | ⟨q1,q2⟩
 ·skip
  have d1:decide ((s.length:Int)>60)=true:=decide_eq_true (by omega)
  simp(disch:=omega)only[↓RU,RV,RH,↓reduceIte,qE,reduceCtorEq,if_pos,w64,qN,↓RS,RG,qA,qM,qL,zaa,zae,d1]
  apply hK;clear hK K
  refine W.cond rfl (fun h0=>?_) (fun h0=>?_)
  ·try simp only[RL]at h0
   have qf:s.length>60∨s.count 111>7 := .inl q1
   refine W.r fun K hK=>?_
   simp(disch:=omega)only[↓RU,RV,RH,↓reduceIte,qE,reduceCtorEq,if_pos,↓RS,RG,qA,qM,qL,ty7,zdp,zdq,zaw]
   apply hK;clear hK K
   refine W.ret ?_
   refine XThen.ret ?_
   refine Br rfl ?_
   rw [show ofV s = .tup [.agg (eS .o),.bool false] by unfold ofV ofU; rw [if_pos qf,zr2 qf]; rfl]
   rfl
  try simp only[RL]at h0
  exact absurd h0 (by simp)
 ·skip
  have d1:decide ((s.length:Int)>60)=false:=decide_eq_false (by omega)
  have d2:decide (((s.count 111:Nat):Int)>7)=true:=decide_eq_true (by omega)
  simp(disch:=omega)only[↓RU,RV,RH,↓reduceIte,qE,reduceCtorEq,if_pos,w64,qN,↓RS,RG,qA,qM,qL,zaa,zae,d1,d2]
  refine zac.pc (zon s hs) rfl (.inl rfl) ?_
  simp(disch:=omega)only[↓RU,RV,RH,↓reduceIte,qE,reduceCtorEq,if_pos,w64,qN,↓RS,RG,qA,qM,qL,zaa,zae,d1,d2]
  apply hK;clear hK K
  refine W.cond rfl (fun h0=>?_) (fun h0=>?_)
  ·try simp only[RL]at h0
   have qf:s.length>60∨s.count 111>7 := .inr q2
   refine W.r fun K hK=>?_
   simp(disch:=omega)only[↓RU,RV,RH,↓reduceIte,qE,reduceCtorEq,if_pos,↓RS,RG,qA,qM,qL,ty7,zdp,zdq,zaw]
   apply hK;clear hK K
   refine W.ret ?_
   refine XThen.ret ?_
   refine Br rfl ?_
   rw [show ofV s = .tup [.agg (eS .o),.bool false] by unfold ofV ofU; rw [if_pos qf,zr2 qf]; rfl]
   rfl
  try simp only[RL]at h0
  exact absurd h0 (by simp)
 skip
 have d1:decide ((s.length:Int)>60)=false:=decide_eq_false (by omega)
 have d2:decide (((s.count 111:Nat):Int)>7)=false:=decide_eq_false (by omega)
 simp(disch:=omega)only[↓RU,RV,RH,↓reduceIte,qE,reduceCtorEq,if_pos,w64,qN,↓RS,RG,qA,qM,qL,zaa,zae,d1,d2]
 refine zac.pc (zon s hs) rfl (.inl rfl) ?_
 simp(disch:=omega)only[↓RU,RV,RH,↓reduceIte,qE,reduceCtorEq,if_pos,w64,qN,↓RS,RG,qA,qM,qL,zaa,zae,d1,d2]
 apply hK;clear hK K
 refine W.cond rfl (fun h0=>?_) (fun h0=>?_)
 ·try simp only[RL]at h0
  exact absurd h0 (by simp)
 try simp only[RL]at h0
 have qn:¬ (s.length>60∨s.count 111>7):=by omega
 refine W.skip ?_
 refine xn ?_
 refine W.r fun K hK=>?_
 obtain ⟨u,e,hue⟩:∃ u e,rdS (s.length+1) s 0=(u,e):=⟨_,_,rfl⟩
 have hI:PC Tryz.prog 64 [.str s,.int .i64 0] _ false:=z05 hs (s.length+1) 0 (by omega) (by omega)
 unfold rdV at hI
 rw [hue]at hI
 obtain ⟨cu,us,un,hus⟩:=zer u
 simp only[hus]at hI
 simp(disch:=omega)only[↓RU,RV,RH,↓reduceIte,qE,reduceCtorEq,if_pos,qN,↓RS,RG,qA,qM,qL,ty7,zdp,zdq,zaw,Int.toNat_zero,Nat.zero_mul,qZ,qM,Nat.zero_add,Nat.mul_one,List.getElem?_cons_zero,List.getElem?_cons_succ]
 refine zac.pc (hI) rfl (.inr rfl) ?_
 simp(disch:=omega)only[↓RU,RV,RH,↓reduceIte,qE,reduceCtorEq,if_pos,qN,↓RS,RG,qA,qM,qL,ty7,zdp,zdq,zaw,Int.toNat_zero,Nat.zero_mul,qZ,qM,Nat.zero_add,Nat.mul_one,List.getElem?_cons_zero,List.getElem?_cons_succ]
 apply hK;clear hK K
 refine W.r fun K hK=>?_
 rcases (show e=0∨(0<e∧e=s.length)∨(0<e∧e≠s.length) by omega) with e0 | ⟨e0,e1⟩ | ⟨e0,e1⟩
 ·skip
  have ze:decide ((e:Int)>0)=false:=decide_eq_false (by omega)
  have hbb:(decide (0<e) && decide (e=s.length))=false:=by rw [decide_eq_false (by omega)]; rfl
  simp(disch:=omega)only[↓RU,RV,RH,↓reduceIte,qE,reduceCtorEq,if_pos,w64,↓RS,RG,qA,qM,qL,ty7,zaa,zdp,zae,zdq,zaw,Int.toNat_zero,Nat.zero_mul,qZ,qM,Nat.zero_add,Nat.mul_one,List.getElem?_cons_zero,List.getElem?_cons_succ,ze]
  apply hK;clear hK K
  refine W.ret ?_
  refine Br rfl ?_
  rw [show ofV s = .tup [.agg [eB cu,.sl us un],.bool false] by unfold ofV ofU; rw [if_neg qn,zr3 q1 q2,hue]; simp only[hbb]; rw [hus]]
  rfl
 ·skip
  have ze:decide ((e:Int)>0)=true:=decide_eq_true (by omega)
  have f1:((e:Int) == (s.length:Int))=true:=by rw [beq_iff_eq]; omega
  have hbb:(decide (0<e) && decide (e=s.length))=true:=by rw [decide_eq_true e0,decide_eq_true e1]; rfl
  simp(disch:=omega)only[↓RU,RV,RH,↓reduceIte,qE,reduceCtorEq,if_pos,w64,↓RS,RG,qA,qM,qL,ty7,zaa,zdp,zae,zdq,zaw,Int.toNat_zero,Nat.zero_mul,qZ,qM,Nat.zero_add,Nat.mul_one,List.getElem?_cons_zero,List.getElem?_cons_succ,ze,f1]
  apply hK;clear hK K
  refine W.ret ?_
  refine Br rfl ?_
  rw [show ofV s = .tup [.agg [eB cu,.sl us un],.bool true] by unfold ofV ofU; rw [if_neg qn,zr3 q1 q2,hue]; simp only[hbb]; rw [hus]]
  rfl
 skip
 have ze:decide ((e:Int)>0)=true:=decide_eq_true (by omega)
 have f1:((e:Int) == (s.length:Int))=false:=by rw [beq_eq_false_iff_ne]; omega
 have hbb:(decide (0<e) && decide (e=s.length))=false:=by rw [decide_eq_false e1,Bool.and_false]
 simp(disch:=omega)only[↓RU,RV,RH,↓reduceIte,qE,reduceCtorEq,if_pos,w64,↓RS,RG,qA,qM,qL,ty7,zaa,zdp,zae,zdq,zaw,Int.toNat_zero,Nat.zero_mul,qZ,qM,Nat.zero_add,Nat.mul_one,List.getElem?_cons_zero,List.getElem?_cons_succ,ze,f1]
 apply hK;clear hK K
 refine W.ret ?_
 refine Br rfl ?_
 rw [show ofV s = .tup [.agg [eB cu,.sl us un],.bool false] by unfold ofV ofU; rw [if_neg qn,zr3 q1 q2,hue]; simp only[hbb]; rw [hus]]
 rfl
section
open Go Go.RowKit
theorem z7l (n:Nat) (h2:n≤1000000) (w:World):∃ cs:Array Value,n≤cs.size∧cs.size≤maxLen∧Ending.returned (Value.slice (some ⟨w.heap.size,0,none⟩) 0 (grownCap w n 0 3)) = .returned (.slice (some ⟨w.heap.size,0,none⟩) 0 cs.size) ∧
  (w.alloc (.cells (Builtin.zeroCells #[Value.int IntKind.i64 0] n++Builtin.zeroCells #[Value.int IntKind.i64 0] (grownCap w n 0 3 - n)) 3)).drew=w.drew.alloc (.cells cs 3):=by
 have h1:=grownCap_ge w n 0 3
 have h3:=grownCap_le_maxLen w n 0 3 (by unfold maxLen; omega)
 have hs:(Builtin.zeroCells #[Value.int IntKind.i64 0] n++Builtin.zeroCells #[Value.int IntKind.i64 0] (grownCap w n 0 3 - n)).size=grownCap w n 0 3:=by
  rw [Array.size_append,size_zeroCells,size_zeroCells]
  simp
  omega
 exact ⟨_,by omega,by omega,congrArg (fun k=>Ending.returned (Value.slice (some { block:=w.heap.size,off:=0 }) 0 k)) hs.symm,rfl⟩
set_option maxHeartbeats 1000000 in
set_option maxRecDepth 100000 in
theorem z00 (n:Nat) (h1:1≤n) (h2:n≤1000000) (w:World) :
  Calls Tryz.prog 124 #[.slice none 0 0,.int .i64 n] w fun e w'=>∃ cs:Array Value,n≤cs.size∧cs.size≤maxLen∧e = .returned (.slice (some ⟨w.heap.size,0,none⟩) 0 cs.size)∧w'=w.drew.alloc (.cells cs 3):=by
 go_enter Tryz.func124,Tryz.ntmps124
 go_wp2
 all_goals have hb:Tryz.t3.bytes=8:=rfl
 all_goals try (exfalso; have hns:=nextslicecap_zero (show 0<n by omega); simp only[hb,hns] at *; omega)
 all_goals go_ret
 all_goals exact z7l n h2 w
theorem ybg {n t:Nat} (h1:1≤n) (h2:n≤1000000):Ev Tryz.prog 124 [.nils,.int .i64 n] ⟨[],t⟩ fun v S=>v = .loc 0 t 0 0∧S=⟨[.arr t 3 1 []],t+1⟩:=by
 refine ⟨Fn.ent ⟨Tryz.func124,by kernel_rfl,rfl,by kernel_rfl⟩,fun F G w cargs hE hi hl hv=>?_⟩
 obtain ⟨c0,c1,rfl⟩:∃ c0 c1,cargs = #[c0,c1]:=by
  match cargs,hl with
  | ⟨[c0,c1]⟩,_=>exact ⟨c0,c1,rfl⟩
 obtain rfl:c0 = .slice none 0 0:=by
  cases hv 0 _ c0 rfl rfl with
  | imm _ _ h=>cases h; rfl
 obtain rfl:=(hv 1 _ c1 rfl rfl).int
 refine (z00 n h1 h2 w).mono ?_
 rintro e w' ⟨cs,k1,k2,rfl,rfl⟩
 refine zg2 (K:=fun v S=>v = .loc 0 t 0 0∧S=⟨[.arr t 3 1 []],t+1⟩) (R:=fun cv w'=>∃ v cv' F' G',Ending.returned cv = .returned cv'∧(v = .loc 0 t 0 0∧G'.er=⟨[.arr t 3 1 []],t+1⟩)∧Inv F' G' w'∧Next F G w F' G' w'∧VR w'.heap F' G' v cv') hi
  (fun v cv F' G' w' q1 q2 q3 q4=>⟨v,cv,F',G',rfl,q1,q2,q3,q4⟩) (d:=w.drawn+1) (Nat.le_succ _) (et:=3) (sz:=1) (cells:=[]) (cs:=cs) (by simp) (by simp) (.loc G.er.obs.length G.er.tick 0 0) _
  (fun F' G' w' q1 q2=>zr1 F' G' w' q1 q2 rfl (Nat.zero_le _) k2 (by simp)) ?_
 rw [hE]
 exact ⟨rfl,rfl⟩
end
theorem zuh {s m:UInt8} {a b:Tm}:mv s (.bin m a b)=if s=62 then (if m=124 then .bin 45 (mv s a) (mv s b) else .bin 124 (mv s b) (mv s a))
  else if s=94∧m=124 then .bin 124 (mv s b) (mv s a) else .bin m (mv s a) (mv s b):=by
 conv=>lhs; unfold mv
theorem zyx (s:UInt8):PC Tryz.prog 77 [eT .o,eB s] (eT .o) false:=by
 simp only[eT]
 have d1:((111:Int) == 111)=true:=rfl
 refine PC.of ⟨Tryz.func77,by kernel_rfl,rfl,by kernel_rfl⟩ zao mixed (by show 2≤Tryz.f77.ntmps; decide) ?_
 refine W.r fun K hK=>?_
 simp(disch:=omega)only[↓RU,RV,RH,↓reduceIte,qE,reduceCtorEq,if_pos,↓RS,RG,qA,qM,qL]
 apply hK;clear hK K
 refine W.seq ?_
 refine W.block ?_
 refine W.r fun K hK=>?_
 simp(disch:=omega)only[↓RU,RV,RH,↓reduceIte,qE,reduceCtorEq,if_pos,w64,↓RS,RG,qA,qM,qL,ty3,zet,zhs,zht,zaw,Int.toNat_zero,Nat.zero_mul,qZ,qM,Nat.zero_add,Nat.mul_one,List.getElem?_cons_zero,List.getElem?_cons_succ,d1]
 apply hK;clear hK K
 refine W.cond rfl (fun h0=>?_) (fun h0=>?_)
 ·try simp only[RL]at h0
  refine W.r fun K hK=>?_
  simp(disch:=omega)only[↓RU,RV,RH,↓reduceIte,qE,reduceCtorEq,if_pos,↓RS,RG,qA,qM,qL]
  apply hK;clear hK K
  refine W.ret ?_
  refine XBlock.ret ?_
  refine XThen.ret ?_
  refine Br rfl ?_
  rfl
 try simp only[RL]at h0
 exact absurd h0 (by simp)
theorem z31 {s c:UInt8} {t u:Tm} (hc:c=62∨c=94) (hp:u.pure) (i1:PC Tryz.prog 77 [eT t,eB c] (eT (mv c u)) false) (i2:PC Tryz.prog 77 [eT (mv c u),eB s] (eT (mv s (mv c u))) false):PC Tryz.prog 77 [eT (.un c t),eB s] (eT (mv s (mv c u))) false:=by
 obtain ⟨ct,hct⟩:=zfn t
 obtain ⟨cv,hcv⟩:=zfn (mv c u)
 rw [hct,hcv]at i1
 rw [hcv]at i2
 simp only[eT,hct]
 have d1:((c.toNat:Int) == 111)=false:=by rcases hc with rfl | rfl <;> rfl
 have dl:(((1:Nat):Int) == 1)=true:=rfl
 refine PC.of ⟨Tryz.func77,by kernel_rfl,rfl,by kernel_rfl⟩ zao mixed (by show 2≤Tryz.f77.ntmps; decide) ?_
 refine W.r fun K hK=>?_
 simp(disch:=omega)only[↓RU,RV,RH,↓reduceIte,qE,reduceCtorEq,if_pos,↓RS,RG,qA,qM,qL]
 apply hK;clear hK K
 refine W.seq ?_
 refine W.block ?_
 refine W.r fun K hK=>?_
 simp(disch:=omega)only[↓RU,RV,RH,↓reduceIte,qE,reduceCtorEq,if_pos,w64,↓RS,RG,qA,qM,qL,ty3,zet,zhs,zht,zaw,Int.toNat_zero,Nat.zero_mul,qZ,qM,Nat.zero_add,Nat.mul_one,List.getElem?_cons_zero,List.getElem?_cons_succ,d1]
 apply hK;clear hK K
 refine W.cond rfl (fun h0=>?_) (fun h0=>?_)
 ·try simp only[RL]at h0
  exact absurd h0 (by simp)
 try simp only[RL]at h0
 refine W.r fun K hK=>?_
 simp(disch:=omega)only[↓RU,RV,RH,↓reduceIte,qE,reduceCtorEq,if_pos,w64,↓RS,RG,qA,qM,qL,ty3,zet,zhs,zaa,zht,zaw,Int.toNat_zero,Nat.zero_mul,qZ,qM,Nat.zero_add,Nat.mul_one,List.getElem?_cons_zero,List.getElem?_cons_succ,dl]
 apply hK;clear hK K
 refine W.cond rfl (fun h1=>?_) (fun h1=>?_)
 ·try simp only[RL]at h1
  refine W.seq_draw (by kernel_rfl) fun K hK=>?_
  simp(disch:=omega)only[↓RU,RV,RH,↓reduceIte,qE,reduceCtorEq,if_pos,qN,↓RS,RG,qA,qM,qL,ty3,zet,zhs,zht,zaw,Int.toNat_zero,Nat.zero_mul,qZ,qM,Nat.zero_add,Nat.mul_one,List.getElem?_cons_zero,List.getElem?_cons_succ]
  refine zac.pc (i1) rfl (.inr rfl) ?_
  simp(disch:=omega)only[↓RU,RV,RH,↓reduceIte,qE,reduceCtorEq,if_pos,qN,↓RS,RG,qA,qM,qL,ty3,zet,zhs,zht,zaw,Int.toNat_zero,Nat.zero_mul,qZ,qM,Nat.zero_add,Nat.mul_one,List.getElem?_cons_zero,List.getElem?_cons_succ]
  apply hK;clear hK K
  refine W.seq ?_
  refine W.r fun K hK=>?_
  by_cases hs:s=0
  ·skip
   have d2:((s.toNat:Int) == 0)=true:=by rw [hs]; rfl
   simp(disch:=omega)only[↓RU,RV,RH,↓reduceIte,qE,reduceCtorEq,if_pos,w64,↓RS,RG,qA,qM,qL,zaw,d2]
   apply hK;clear hK K
   refine W.cond rfl (fun h2=>?_) (fun h2=>?_)
   ·try simp only[RL]at h2
    refine W.r fun K hK=>?_
    simp(disch:=omega)only[↓RU,RV,RH,↓reduceIte,qE,reduceCtorEq,if_pos,↓RS,RG,qA,qM,qL]
    apply hK;clear hK K
    refine W.ret ?_
    refine XThen.ret ?_
    refine XBlock.ret ?_
    refine XThen.ret ?_
    refine Br rfl ?_
    rw [hs,yec (zlw hp).1,hcv]
    rfl
   try simp only[RL]at h2
   exact absurd h2 (by simp)
  skip
  have hs2:s≠UInt8.ofNat 0:=hs
  have d2:((s.toNat:Int) == 0)=false:=by rw [beq_eq_false_iff_ne]; exact zcr (k:=0) (by assumption) (by decide)
  simp(disch:=omega)only[↓RU,RV,RH,↓reduceIte,qE,reduceCtorEq,if_pos,w64,↓RS,RG,qA,qM,qL,zaw,d2]
  apply hK;clear hK K
  refine W.cond rfl (fun h2=>?_) (fun h2=>?_)
  ·try simp only[RL]at h2
   exact absurd h2 (by simp)
  try simp only[RL]at h2
  refine W.skip ?_
  refine xn ?_
  refine W.r fun K hK=>?_
  simp(disch:=omega)only[↓RU,RV,RH,↓reduceIte,qE,reduceCtorEq,if_pos,qN,↓RS,RG,qA,qM,qL]
  refine zac.pc (i2) rfl (.inr rfl) ?_
  simp(disch:=omega)only[↓RU,RV,RH,↓reduceIte,qE,reduceCtorEq,if_pos,qN,↓RS,RG,qA,qM,qL]
  apply hK;clear hK K
  refine W.ret ?_
  refine XBlock.ret ?_
  refine XThen.ret ?_
  refine Br rfl ?_
  exact zno _
 try simp only[RL]at h1
 exact absurd h1 (by simp)
theorem zqk {s m:UInt8} {a b a2 b2:Tm} (hm:m=124∨m=45) (i1:PC Tryz.prog 77 [eT a,eB s] (eT (mv s a2)) false) (i2:PC Tryz.prog 77 [eT b,eB s] (eT (mv s b2)) false):PC Tryz.prog 77 [eT (.bin m a b),eB s] (eT (mv s (.bin m a2 b2))) false:=by
 obtain ⟨ca,hca⟩:=zfn a
 obtain ⟨cb,hcb⟩:=zfn b
 obtain ⟨da,hda⟩:=zfn (mv s a2)
 obtain ⟨db,hdb⟩:=zfn (mv s b2)
 rw [hca,hda]at i1
 rw [hcb,hdb]at i2
 simp only[eT,hca,hcb]
 have d1:((m.toNat:Int) == 111)=false:=by rcases hm with rfl | rfl <;> rfl
 have dl:(((2:Nat):Int) == 1)=false:=rfl
 refine PC.of ⟨Tryz.func77,by kernel_rfl,rfl,by kernel_rfl⟩ zao mixed (by show 2≤Tryz.f77.ntmps; decide) ?_
 refine W.r fun K hK=>?_
 simp(disch:=omega)only[↓RU,RV,RH,↓reduceIte,qE,reduceCtorEq,if_pos,↓RS,RG,qA,qM,qL]
 apply hK;clear hK K
 refine W.seq ?_
 refine W.block ?_
 refine W.r fun K hK=>?_
 simp(disch:=omega)only[↓RU,RV,RH,↓reduceIte,qE,reduceCtorEq,if_pos,w64,↓RS,RG,qA,qM,qL,ty3,zet,zhs,zht,zaw,Int.toNat_zero,Nat.zero_mul,qZ,qM,Nat.zero_add,Nat.mul_one,List.getElem?_cons_zero,List.getElem?_cons_succ,d1]
 apply hK;clear hK K
 refine W.cond rfl (fun h0=>?_) (fun h0=>?_)
 ·try simp only[RL]at h0
  exact absurd h0 (by simp)
 try simp only[RL]at h0
 refine W.r fun K hK=>?_
 simp(disch:=omega)only[↓RU,RV,RH,↓reduceIte,qE,reduceCtorEq,if_pos,w64,↓RS,RG,qA,qM,qL,ty3,zet,zhs,zaa,zht,zaw,Int.toNat_zero,Nat.zero_mul,qZ,qM,Nat.zero_add,Nat.mul_one,List.getElem?_cons_zero,List.getElem?_cons_succ,dl]
 apply hK;clear hK K
 refine W.cond rfl (fun h1=>?_) (fun h1=>?_)
 ·try simp only[RL]at h1
  exact absurd h1 (by simp)
 try simp only[RL]at h1
 refine W.skip ?_
 refine XbN ?_
 refine xn ?_
 refine W.seq_draw (by kernel_rfl) fun K hK=>?_
 simp(disch:=omega)only[↓RU,RV,RH,↓reduceIte,qE,reduceCtorEq,if_pos,qN,↓RS,RG,qA,qM,qL,ty3,zet,zhs,zht,zaw,Int.toNat_zero,Nat.zero_mul,qZ,qM,Nat.zero_add,Nat.mul_one,List.getElem?_cons_zero,List.getElem?_cons_succ]
 refine zac.pc (i1) rfl (.inr rfl) ?_
 simp(disch:=omega)only[↓RU,RV,RH,↓reduceIte,qE,reduceCtorEq,if_pos,qN,↓RS,RG,qA,qM,qL,ty3,zet,zhs,zht,zaw,Int.toNat_zero,Nat.zero_mul,qZ,qM,Nat.zero_add,Nat.mul_one,List.getElem?_cons_zero,List.getElem?_cons_succ]
 refine zac.pc (i2) rfl (.inr rfl) ?_
 simp(disch:=omega)only[↓RU,RV,RH,↓reduceIte,qE,reduceCtorEq,if_pos,qN,↓RS,RG,qA,qM,qL,ty3,zet,zhs,zht,zaw,Int.toNat_zero,Nat.zero_mul,qZ,qM,Nat.zero_add,Nat.mul_one,List.getElem?_cons_zero,List.getElem?_cons_succ]
 apply hK;clear hK K
 refine W.seq ?_
 refine W.block ?_
 refine W.r fun K hK=>?_
 rcases (show (s=62∧m=124)∨(s=62∧m≠124)∨(s≠62∧s=94∧m=124)∨(s≠62∧s=94∧m≠124)∨(s≠62∧s≠94) by by_cases e1:s=62 <;> by_cases e2:s=94 <;> by_cases e3:m=124 <;> simp [e1,e2,e3]) with ⟨s1,m1⟩ | ⟨s1,m1⟩ | ⟨s1,s2,m1⟩ | ⟨s1,s2,m1⟩ | ⟨s1,s2⟩
 ·skip
  have e62:((s.toNat:Int) == 62)=true:=by rw [s1]; rfl
  have f124:((m.toNat:Int) == 124)=true:=by rw [m1]; rfl
  simp(disch:=omega)only[↓RU,RV,RH,↓reduceIte,qE,reduceCtorEq,if_pos,w64,↓RS,RG,qA,qM,qL,ty3,zet,zhs,zht,zaw,Int.toNat_zero,Nat.zero_mul,qZ,qM,Nat.zero_add,Nat.mul_one,List.getElem?_cons_zero,List.getElem?_cons_succ,e62,f124]
  apply hK;clear hK K
  refine W.cond rfl (fun k2=>?_) (fun k2=>?_)
  ·try simp only[RL]at k2
   refine W.r fun K hK=>?_
   simp(disch:=omega)only[↓RU,RV,RH,↓reduceIte,qE,reduceCtorEq,if_pos,↓RS,RG,qA,qM,qL,ty3,zet,zhs,zht,zaw,zml,zpp,ze6,zgj,zmk,zt2]
   apply hK;clear hK K
   refine W.ret ?_
   refine XBlock.ret ?_
   refine XThen.ret ?_
   refine Br rfl ?_
   rw [show mv s (.bin m a2 b2) = .bin 45 (mv s a2) (mv s b2) by rw [zuh,if_pos s1,if_pos m1],eT,hda,hdb]
   rfl
  try simp only[RL]at k2
  exact absurd k2 (by simp)
 ·skip
  have m2:m≠UInt8.ofNat 124:=m1
  have e62:((s.toNat:Int) == 62)=true:=by rw [s1]; rfl
  have f124:((m.toNat:Int) == 124)=false:=by rw [beq_eq_false_iff_ne]; exact zcr (k:=124) (by assumption) (by decide)
  simp(disch:=omega)only[↓RU,RV,RH,↓reduceIte,qE,reduceCtorEq,if_pos,w64,↓RS,RG,qA,qM,qL,ty3,zet,zhs,zht,zaw,Int.toNat_zero,Nat.zero_mul,qZ,qM,Nat.zero_add,Nat.mul_one,List.getElem?_cons_zero,List.getElem?_cons_succ,e62,f124]
  apply hK;clear hK K
  refine W.cond rfl (fun k2=>?_) (fun k2=>?_)
  ·try simp only[RL]at k2
   exact absurd k2 (by simp)
  try simp only[RL]at k2
  refine W.r fun K hK=>?_
  simp(disch:=omega)only[↓RU,RV,RH,↓reduceIte,qE,reduceCtorEq,if_pos,w64,↓RS,RG,qA,qM,qL,zaw,e62]
  apply hK;clear hK K
  refine W.cond rfl (fun k3=>?_) (fun k3=>?_)
  ·try simp only[RL]at k3
   refine W.r fun K hK=>?_
   simp(disch:=omega)only[↓RU,RV,RH,↓reduceIte,qE,reduceCtorEq,if_pos,↓RS,RG,qA,qM,qL,ty3,zet,zhs,zht,zaw,zml,zpp,ze6,zgj,zmk,zt2]
   apply hK;clear hK K
   refine W.ret ?_
   refine XBlock.ret ?_
   refine XThen.ret ?_
   refine Br rfl ?_
   rw [show mv s (.bin m a2 b2) = .bin 124 (mv s b2) (mv s a2) by rw [zuh,if_pos s1,if_neg m1],eT,hda,hdb]
   rfl
  try simp only[RL]at k3
  exact absurd k3 (by simp)
 ·skip
  have s3:s≠UInt8.ofNat 62:=s1
  have e62:((s.toNat:Int) == 62)=false:=by rw [beq_eq_false_iff_ne]; exact zcr (k:=62) (by assumption) (by decide)
  have e94:((s.toNat:Int) == 94)=true:=by rw [s2]; rfl
  have f124:((m.toNat:Int) == 124)=true:=by rw [m1]; rfl
  simp(disch:=omega)only[↓RU,RV,RH,↓reduceIte,qE,reduceCtorEq,if_pos,w64,↓RS,RG,qA,qM,qL,ty3,zet,zhs,zht,zaw,Int.toNat_zero,Nat.zero_mul,qZ,qM,Nat.zero_add,Nat.mul_one,List.getElem?_cons_zero,List.getElem?_cons_succ,e62]
  apply hK;clear hK K
  refine W.cond rfl (fun k2=>?_) (fun k2=>?_)
  ·try simp only[RL]at k2
   exact absurd k2 (by simp)
  try simp only[RL]at k2
  refine W.r fun K hK=>?_
  simp(disch:=omega)only[↓RU,RV,RH,↓reduceIte,qE,reduceCtorEq,if_pos,w64,↓RS,RG,qA,qM,qL,zaw,e62]
  apply hK;clear hK K
  refine W.cond rfl (fun k3=>?_) (fun k3=>?_)
  ·try simp only[RL]at k3
   exact absurd k3 (by simp)
  try simp only[RL]at k3
  refine W.r fun K hK=>?_
  simp(disch:=omega)only[↓RU,RV,RH,↓reduceIte,qE,reduceCtorEq,if_pos,w64,↓RS,RG,qA,qM,qL,ty3,zet,zhs,zht,zaw,Int.toNat_zero,Nat.zero_mul,qZ,qM,Nat.zero_add,Nat.mul_one,List.getElem?_cons_zero,List.getElem?_cons_succ,e94,f124]
  apply hK;clear hK K
  refine W.cond rfl (fun k4=>?_) (fun k4=>?_)
  ·try simp only[RL]at k4
   refine W.r fun K hK=>?_
   simp(disch:=omega)only[↓RU,RV,RH,↓reduceIte,qE,reduceCtorEq,if_pos,↓RS,RG,qA,qM,qL,ty3,zet,zhs,zht,zaw,zml,zpp,ze6,zgj,zmk,zt2]
   apply hK;clear hK K
   refine W.ret ?_
   refine XBlock.ret ?_
   refine XThen.ret ?_
   refine Br rfl ?_
   rw [show mv s (.bin m a2 b2) = .bin 124 (mv s b2) (mv s a2) by rw [zuh,if_neg s1,if_pos ⟨s2,m1⟩],eT,hda,hdb]
   rfl
  try simp only[RL]at k4
  exact absurd k4 (by simp)
 ·skip
  have s3:s≠UInt8.ofNat 62:=s1
  have m2:m≠UInt8.ofNat 124:=m1
  have e62:((s.toNat:Int) == 62)=false:=by rw [beq_eq_false_iff_ne]; exact zcr (k:=62) (by assumption) (by decide)
  have e94:((s.toNat:Int) == 94)=true:=by rw [s2]; rfl
  have f124:((m.toNat:Int) == 124)=false:=by rw [beq_eq_false_iff_ne]; exact zcr (k:=124) (by assumption) (by decide)
  simp(disch:=omega)only[↓RU,RV,RH,↓reduceIte,qE,reduceCtorEq,if_pos,w64,↓RS,RG,qA,qM,qL,ty3,zet,zhs,zht,zaw,Int.toNat_zero,Nat.zero_mul,qZ,qM,Nat.zero_add,Nat.mul_one,List.getElem?_cons_zero,List.getElem?_cons_succ,e62]
  apply hK;clear hK K
  refine W.cond rfl (fun k2=>?_) (fun k2=>?_)
  ·try simp only[RL]at k2
   exact absurd k2 (by simp)
  try simp only[RL]at k2
  refine W.r fun K hK=>?_
  simp(disch:=omega)only[↓RU,RV,RH,↓reduceIte,qE,reduceCtorEq,if_pos,w64,↓RS,RG,qA,qM,qL,zaw,e62]
  apply hK;clear hK K
  refine W.cond rfl (fun k3=>?_) (fun k3=>?_)
  ·try simp only[RL]at k3
   exact absurd k3 (by simp)
  try simp only[RL]at k3
  refine W.r fun K hK=>?_
  simp(disch:=omega)only[↓RU,RV,RH,↓reduceIte,qE,reduceCtorEq,if_pos,w64,↓RS,RG,qA,qM,qL,ty3,zet,zhs,zht,zaw,Int.toNat_zero,Nat.zero_mul,qZ,qM,Nat.zero_add,Nat.mul_one,List.getElem?_cons_zero,List.getElem?_cons_succ,e94,f124]
  apply hK;clear hK K
  refine W.cond rfl (fun k4=>?_) (fun k4=>?_)
  ·try simp only[RL]at k4
   exact absurd k4 (by simp)
  try simp only[RL]at k4
  refine W.skip ?_
  refine XbN ?_
  refine xn ?_
  refine W.r fun K hK=>?_
  simp(disch:=omega)only[↓RU,RV,RH,↓reduceIte,qE,reduceCtorEq,if_pos,↓RS,RG,qA,qM,qL,ty3,zet,zhs,zht,zaw,Int.toNat_zero,Nat.zero_mul,qZ,qM,Nat.zero_add,Nat.mul_one,List.getElem?_cons_zero,List.getElem?_cons_succ,zml,zpp,ze6,zgj,zmk,zt2]
  apply hK;clear hK K
  refine W.ret ?_
  refine Br rfl ?_
  rw [show mv s (.bin m a2 b2) = .bin m (mv s a2) (mv s b2) by rw [zuh,if_neg s1,if_neg (fun x=>m1 x.2)],eT,hda,hdb]
  rfl
 skip
 have s3:s≠UInt8.ofNat 62:=s1
 have s4:s≠UInt8.ofNat 94:=s2
 have e62:((s.toNat:Int) == 62)=false:=by rw [beq_eq_false_iff_ne]; exact zcr (k:=62) (by assumption) (by decide)
 have e94:((s.toNat:Int) == 94)=false:=by rw [beq_eq_false_iff_ne]; exact zcr (k:=94) (by assumption) (by decide)
 simp(disch:=omega)only[↓RU,RV,RH,↓reduceIte,qE,reduceCtorEq,if_pos,w64,↓RS,RG,qA,qM,qL,ty3,zet,zhs,zht,zaw,Int.toNat_zero,Nat.zero_mul,qZ,qM,Nat.zero_add,Nat.mul_one,List.getElem?_cons_zero,List.getElem?_cons_succ,e62]
 apply hK;clear hK K
 refine W.cond rfl (fun k2=>?_) (fun k2=>?_)
 ·try simp only[RL]at k2
  exact absurd k2 (by simp)
 try simp only[RL]at k2
 refine W.r fun K hK=>?_
 simp(disch:=omega)only[↓RU,RV,RH,↓reduceIte,qE,reduceCtorEq,if_pos,w64,↓RS,RG,qA,qM,qL,zaw,e62]
 apply hK;clear hK K
 refine W.cond rfl (fun k3=>?_) (fun k3=>?_)
 ·try simp only[RL]at k3
  exact absurd k3 (by simp)
 try simp only[RL]at k3
 refine W.r fun K hK=>?_
 simp(disch:=omega)only[↓RU,RV,RH,↓reduceIte,qE,reduceCtorEq,if_pos,w64,↓RS,RG,qA,qM,qL,ty3,zet,zhs,zht,zaw,Int.toNat_zero,Nat.zero_mul,qZ,qM,Nat.zero_add,Nat.mul_one,List.getElem?_cons_zero,List.getElem?_cons_succ,e94]
 apply hK;clear hK K
 refine W.cond rfl (fun k4=>?_) (fun k4=>?_)
 ·try simp only[RL]at k4
  exact absurd k4 (by simp)
 try simp only[RL]at k4
 refine W.skip ?_
 refine XbN ?_
 refine xn ?_
 refine W.r fun K hK=>?_
 simp(disch:=omega)only[↓RU,RV,RH,↓reduceIte,qE,reduceCtorEq,if_pos,↓RS,RG,qA,qM,qL,ty3,zet,zhs,zht,zaw,Int.toNat_zero,Nat.zero_mul,qZ,qM,Nat.zero_add,Nat.mul_one,List.getElem?_cons_zero,List.getElem?_cons_succ,zml,zpp,ze6,zgj,zmk,zt2]
 apply hK;clear hK K
 refine W.ret ?_
 refine Br rfl ?_
 rw [show mv s (.bin m a2 b2) = .bin m (mv s a2) (mv s b2) by rw [zuh,if_neg s1,if_neg (fun x=>s2 x.1)],eT,hda,hdb]
 rfl
theorem zwy:∀ (u:Tm),u.pure→∀ s,PC Tryz.prog 77 [eT u,eB s] (eT (mv s u)) false:=by
 intro u
 induction u with
 | o=>intro _ s; exact zyx s
 | un c t _=>intro h; exact h.elim
 | bin m a b h1 h2=>intro h s; exact zqk h.1 (h1 h.2.1 s) (h2 h.2.2 s)
theorem z30:∀ (t:Tm),t.ok→∀ s,PC Tryz.prog 77 [eT t,eB s] (eT (mv s (td t))) false:=by
 intro t
 induction t with
 | o=>intro _ s; exact zyx s
 | un c t ih =>
  intro h s
  have hp:=(zg0 h.2).1
  exact z31 h.1 hp (ih h.2 c) (zwy _ (zlw hp).1 s)
 | bin m a b h1 h2=>intro h s; exact zqk h.1 (h1 h.2.1 s) (h2 h.2.2 s)
theorem yc1 {t:Tm} (h:t.ok):PC Tryz.prog 34 [eT t] (eT (td t)) false:=by
 have hI:=z30 t h 0
 rw [yec (zg0 h).1]at hI
 obtain ⟨ct,hct⟩:=zfn t
 rw [hct]at hI ⊢
 refine PC.of ⟨Tryz.func34,by kernel_rfl,rfl,by kernel_rfl⟩ zao mixed (by show 1≤Tryz.f34.ntmps; decide) ?_
 refine W.r fun K hK=>?_
 simp(disch:=omega)only[↓RU,RV,RH,↓reduceIte,qE,reduceCtorEq,if_pos,↓RS,RG,qA,qM,qL]
 apply hK;clear hK K
 refine W.r fun K hK=>?_
 simp(disch:=omega)only[↓RU,RV,RH,↓reduceIte,qE,reduceCtorEq,if_pos,qN,↓RS,RG,qA,qM,qL]
 refine zac.pc (hI) rfl (.inr rfl) ?_
 simp(disch:=omega)only[↓RU,RV,RH,↓reduceIte,qE,reduceCtorEq,if_pos,qN,↓RS,RG,qA,qM,qL]
 apply hK;clear hK K
 refine W.ret ?_
 refine Br rfl ?_
 exact zno _
theorem z4u {S:Store} {l:List Int} (h:1≤l.length):pEq tab S 31 (eInts l) .nils=some false:=by
 show (if l.length=0 then none else some false)=some false
 rw [if_neg (by omega)]
theorem z20 {l:List Int} (h1:1≤l.length) (hl:l.length≤1048576):PN Tryz.prog 125 [eInts l] (.loc 0 0 0 l.length) [.arr 0 3 1 (l.map (.int .i64))] false:=by
 refine PN.of ⟨Tryz.func125,by kernel_rfl,rfl,by kernel_rfl⟩ zao mixed (by show 1≤Tryz.f125.ntmps; decide) ?_
 refine W.r fun K hK=>?_
 simp(disch:=omega)only[↓RU,RV,RH,↓reduceIte,qE,reduceCtorEq,if_pos,↓RS,RG,qA,qM,qL]
 apply hK;clear hK K
 refine W.seq ?_
 refine W.r fun K hK=>?_
 simp(disch:=omega)only[↓RU,RV,RH,↓reduceIte,qE,reduceCtorEq,if_pos,w64,↓RS,RG,qA,qM,qL,zab,zaa,z4u h1]
 apply hK;clear hK K
 refine W.cond rfl (fun h=>?_) (fun h=>?_)
 ·try simp only[RL]at h
  exact absurd h (by simp)
 try simp only[RL]at h
 refine W.skip ?_
 refine xn ?_
 refine W.r fun K hK=>?_
 simp(disch:=omega)only[↓RU,RV,RH,↓reduceIte,qE,reduceCtorEq,if_pos,↓RS,RG,qA,qM,qL,zab,zaa]
 apply hK;clear hK K
 refine W.ret ?_
 refine Br rfl ?_
 exact zz5 rfl (zst _)
theorem z84 {l:List Int} {k i:Nat} {x:Int} (h:l[i]?=some x):((upL l k).take i++l.drop i).set i (x+(k:Int))=(upL l k).take (i+1)++l.drop (i+1):=by
 have hi:=zbd h
 have hl:((upL l k).take i).length=i:=by rw [List.length_take,zax]; omega
 have hu:(upL l k)[i]?=some (x+(k:Int)):=by rw [zfl,h]; rfl
 rw [List.set_append_right _ _ (by omega),hl,Nat.sub_self,tk hu,List.drop_eq_getElem_cons hi,List.set_cons_zero]
 simp
theorem yc7 {l:List Int} {k i:Nat} {x:Int} (h:l[i]?=some x):((upL l k).take i++l.drop i)[i]?=some x:=by
 have hi:=zbd h
 have hl:((upL l k).take i).length=i:=by rw [List.length_take,zax]; omega
 rw [List.getElem?_append_right (by omega),hl,Nat.sub_self,List.getElem?_drop,Nat.add_zero,h]
theorem yc8 {l:List Int} {k i:Nat} (h:i≤l.length):((upL l k).take i++l.drop i).length=l.length:=by
 rw [List.length_append,List.length_take,zax,List.length_drop]; omega
theorem zu9 {l:List Int} {k:Nat} (h1:1≤l.length) (hl:l.length≤1000) (hk:k≤1000) (hb:∀ (i:Nat) x,l[i]?=some x→0≤x∧x≤1000):PC Tryz.prog 79 [eInts l,.int .i64 k] (eInts (upL l k)) true:=by
 refine PC.of ⟨Tryz.func79,by kernel_rfl,rfl,by kernel_rfl⟩ zao mixed (by show 2≤Tryz.f79.ntmps; decide) ?_
 refine W.r fun K hK=>?_
 simp(disch:=omega)only[↓RU,RV,RH,↓reduceIte,qE,reduceCtorEq,if_pos,↓RS,RG,qA,qM,qL]
 apply hK;clear hK K
 refine W.r fun K hK=>?_
 simp(disch:=omega)only[↓RU,RV,RH,↓reduceIte,qE,reduceCtorEq,if_pos,qN,↓RS,RG,qA,qM,qL]
 refine zac.pn (z20 h1 (by omega)) rfl (.inr rfl) ?_
 simp(disch:=omega)only[↓RU,RV,RH,↓reduceIte,qE,reduceCtorEq,if_pos,qN,↓RS,RG,qA,qM,qL,RN]
 apply hK;clear hK K
 refine W.seq ?_
 refine W.r fun K hK=>?_
 simp(disch:=omega)only[↓RU,RV,RH,↓reduceIte,qE,reduceCtorEq,if_pos,↓RS,RG,qA,qM,qL,zab,zaa]
 apply hK;clear hK K
 refine W.block ?_
 refine W.loop [1,5,10,11] (fun n vs S=>∃ i v tq:Nat,n=l.length - i∧i≤l.length∧vs=[.int .i64 k,.loc 0 v 0 l.length,.int .i64 l.length,.int .i64 i]∧S=⟨[.arr v 3 1 (((upL l k).take i++l.drop i).map (.int .i64))],tq⟩) l.length ?_ ?_
 ·refine ⟨1,0,0,1,rfl,Nat.zero_le _,?_,?_⟩
  all_goals simp [Env.put,Env.of,zaf,zde]
 rintro n vs S - ⟨i,v,tq,rfl,h_i,rfl,rfl⟩
 refine W.r fun K hK=>?_
 simp(disch:=omega)only[↓RU,RV,RH,↓reduceIte,qE,reduceCtorEq,if_pos,w64,↓RS,RG,qA,qM,qL,zaa]
 apply hK;clear hK K
 refine W.seq ?_
 refine W.cond rfl (fun h0=>?_) (fun h0=>?_)
 ·try simp only[RL]at h0
  obtain ⟨x,hx,-⟩:=zai (show i<l.length by omega)
  have hxb:=hb i x hx
  have hg:=yc7 (k:=k) hx
  have hml:=yc8 (l:=l) (k:=k) (i:=i) h_i
  refine W.skip ?_
  refine xn ?_
  refine W.seq ?_
  refine W.block ?_
  refine W.r fun K hK=>?_
  simp(disch:=omega)only[↓RU,RV,RH,↓reduceIte,qE,reduceCtorEq,if_pos,↓RS,RG,qA,qM,qL]
  apply hK;clear hK K
  refine W.k fun K hK=>?_
  simp(disch:=omega)only[↓RU,RV,RH,↓reduceIte,qE,reduceCtorEq,if_pos,w64,↓RS,RG,qA,qM,qL,zab,zaa,hg,zbw,zc0,hml]
  apply hK;clear hK K
  refine XbN ?_
  refine xn ?_
  refine W.k fun K hK=>?_
  simp(disch:=omega)only[↓RU,RV,RH,↓reduceIte,qE,reduceCtorEq,if_pos,w64,↓RS,RG,qA,qM,qL,zaa]
  apply hK;clear hK K
  refine xn ?_
  refine ⟨l.length - (i+1),by omega,1,i+1,v,tq,rfl,by omega,?_,?_⟩
  ·simp [Env.put,Env.of]
  simp only[zde,← z84 hx]; rfl
 try simp only[RL]at h0
 obtain rfl:i=l.length:=by omega
 rw [List.drop_length,qN,qT (by rw [zax]; exact qR _)]
 refine W.exit ?_
 refine xe ?_
 refine xe ?_
 refine XBlock.hit ?_
 refine xn ?_
 refine W.r fun K hK=>?_
 simp(disch:=omega)only[↓RU,RV,RH,↓reduceIte,qE,reduceCtorEq,if_pos,↓RS,RG,qA,qM,qL]
 apply hK;clear hK K
 refine W.ret ?_
 refine Br rfl ?_
 exact (zc6 (k:=9) rfl (by simp [zax]) (ziy _)).trans (by simp [zax])
theorem zh3 {Ls:List (List Int)} {i:Nat} {L:List Int} (h:Ls[i]?=some L):(Ls.take (i+1)).flatten=(Ls.take i).flatten++L:=by rw [tk h]; simp
theorem z3d {Ls:List (List Int)} (i:Nat):(Ls.take i).flatten.length≤Ls.flatten.length:=by
 conv=>rhs; rw [← List.take_append_drop i Ls,List.flatten_append,List.length_append]
 omega
theorem zti {Ls:List (List Int)} (hn:Ls.length≤100) (h1:1≤Ls.flatten.length) (hl:Ls.flatten.length≤100000):PC Tryz.prog 78 [.sl (Ls.map eInts) Ls.length] (eInts Ls.flatten) true:=by
 refine PC.of ⟨Tryz.func78,by kernel_rfl,rfl,by kernel_rfl⟩ zao mixed (by show 1≤Tryz.f78.ntmps; decide) ?_
 refine W.r fun K hK=>?_
 simp(disch:=omega)only[↓RU,RV,RH,↓reduceIte,qE,reduceCtorEq,if_pos,↓RS,RG,qA,qM,qL]
 apply hK;clear hK K
 refine W.r fun K hK=>?_
 simp(disch:=omega)only[↓RU,RV,RH,↓reduceIte,qE,reduceCtorEq,if_pos,↓RS,RG,qA,qM,qL]
 apply hK;clear hK K
 refine W.seq ?_
 refine W.r fun K hK=>?_
 simp(disch:=omega)only[↓RU,RV,RH,↓reduceIte,qE,reduceCtorEq,if_pos,↓RS,RG,qA,qM,qL,ty1,zab,zaa]
 apply hK;clear hK K
 refine W.block ?_
 refine W.loop [0,3,9,10,11] (fun n vs S=>∃ i:Nat,n=Ls.length - i∧i≤Ls.length∧vs=[.sl (Ls.map eInts) Ls.length,.int .i64 (Ls.take i).flatten.length,.sl (Ls.map eInts) Ls.length,.int .i64 Ls.length,.int .i64 i]∧S=⟨[],0⟩) Ls.length ?_ ?_
 ·refine ⟨0,0,rfl,Nat.zero_le _,?_,rfl⟩
  simp [Env.put,Env.of,zaf]
 rintro n vs S - ⟨i,rfl,h_i,rfl,rfl⟩
 refine W.r fun K hK=>?_
 simp(disch:=omega)only[↓RU,RV,RH,↓reduceIte,qE,reduceCtorEq,if_pos,w64,↓RS,RG,qA,qM,qL,zaa]
 apply hK;clear hK K
 refine W.seq ?_
 refine W.cond rfl (fun h0=>?_) (fun h0=>?_)
 ·try simp only[RL]at h0
  obtain ⟨L,hL,-⟩:=zai (show i<Ls.length by omega)
  have hLe:(Ls.map eInts)[i]?=some (eInts L):=by rw [List.getElem?_map,hL]; rfl
  have hf1:=z3d (Ls:=Ls) (i+1)
  rw [zh3 hL,List.length_append]at hf1
  refine W.skip ?_
  refine xn ?_
  refine W.seq ?_
  refine W.block ?_
  refine W.r fun K hK=>?_
  simp(disch:=omega)only[↓RU,RV,RH,↓reduceIte,qE,reduceCtorEq,if_pos,↓RS,RG,qA,qM,qL,ty1,zab,zaa,hLe]
  apply hK;clear hK K
  refine W.r fun K hK=>?_
  simp(disch:=omega)only[↓RU,RV,RH,↓reduceIte,qE,reduceCtorEq,if_pos,w64,↓RS,RG,qA,qM,qL,zab,zaa]
  apply hK;clear hK K
  refine W.r fun K hK=>?_
  simp(disch:=omega)only[↓RU,RV,RH,↓reduceIte,qE,reduceCtorEq,if_pos,w64,↓RS,RG,qA,qM,qL,zaa]
  apply hK;clear hK K
  refine W.cond rfl (fun h1x=>?_) (fun h1x=>?_)
  ·try simp only[RL]at h1x
   exfalso; omega
  try simp only[RL]at h1x
  refine W.skip ?_
  refine XbN ?_
  refine xn ?_
  refine W.k fun K hK=>?_
  simp(disch:=omega)only[↓RU,RV,RH,↓reduceIte,qE,reduceCtorEq,if_pos,w64,↓RS,RG,qA,qM,qL,zaa]
  apply hK;clear hK K
  refine xn ?_
  refine ⟨Ls.length - (i+1),by omega,0,i+1,rfl,by omega,?_,rfl⟩
  simp [Env.put,Env.of,zh3 hL]
 try simp only[RL]at h0
 obtain rfl:i=Ls.length:=by omega
 rw [List.take_length]
 refine W.exit ?_
 refine xe ?_
 refine xe ?_
 refine XBlock.hit ?_
 refine xn ?_
 refine W.r fun K hK=>?_
 simp(disch:=omega)only[↓RU,RV,RH,↓reduceIte,qE,reduceCtorEq,if_pos,qN,↓RS,RG,qA,qM,qL]
 refine zac.ev (ybg (t:=0) h1 (by omega)) ?_
 rintro _ _ ⟨rfl,rfl⟩
 simp(disch:=omega)only[↓RU,RV,RH,↓reduceIte,qE,reduceCtorEq,if_pos,qN,↓RS,RG,qA,qM,qL]
 apply hK;clear hK K
 refine W.seq ?_
 refine W.r fun K hK=>?_
 simp(disch:=omega)only[↓RU,RV,RH,↓reduceIte,qE,reduceCtorEq,if_pos,↓RS,RG,qA,qM,qL,ty1,zab,zaa]
 apply hK;clear hK K
 refine W.block ?_
 refine W.loop [6,25,26,27] (fun n vs S=>∃ i v tq:Nat,n=Ls.length - i∧i≤Ls.length∧vs=[.loc 0 v 0 (Ls.take i).flatten.length,.sl (Ls.map eInts) Ls.length,.int .i64 Ls.length,.int .i64 i]∧S=⟨[.arr v 3 1 ((Ls.take i).flatten.map (.int .i64))],tq⟩) Ls.length ?_ ?_
 ·refine ⟨1,0,0,1,rfl,Nat.zero_le _,?_,rfl⟩
  simp [Env.put,Env.of,zaf]
 rintro n vs S - ⟨i,v,tq,rfl,h_i,rfl,rfl⟩
 refine W.r fun K hK=>?_
 simp(disch:=omega)only[↓RU,RV,RH,↓reduceIte,qE,reduceCtorEq,if_pos,w64,↓RS,RG,qA,qM,qL,zaa]
 apply hK;clear hK K
 refine W.seq ?_
 refine W.cond rfl (fun h2=>?_) (fun h2=>?_)
 ·try simp only[RL]at h2
  obtain ⟨L,hL,-⟩:=zai (show i<Ls.length by omega)
  have hLe:(Ls.map eInts)[i]?=some (eInts L):=by rw [List.getElem?_map,hL]; rfl
  have hf1:=z3d (Ls:=Ls) (i+1)
  rw [zh3 hL,List.length_append]at hf1
  refine W.skip ?_
  refine xn ?_
  refine W.seq ?_
  refine W.block ?_
  refine W.r fun K hK=>?_
  simp(disch:=omega)only[↓RU,RV,RH,↓reduceIte,qE,reduceCtorEq,if_pos,↓RS,RG,qA,qM,qL,ty1,zab,zaa,hLe]
  apply hK;clear hK K
  refine W.k fun K hK=>?_
  simp(disch:=omega)only[↓RU,RV,RH,↓reduceIte,qE,reduceCtorEq,if_pos,↓RS,RG,qA,qM,qL,zab,zaa]
  apply hK;clear hK K
  refine XbN ?_
  refine xn ?_
  refine W.k fun K hK=>?_
  simp(disch:=omega)only[↓RU,RV,RH,↓reduceIte,qE,reduceCtorEq,if_pos,w64,↓RS,RG,qA,qM,qL,zaa]
  apply hK;clear hK K
  refine xn ?_
  refine ⟨Ls.length - (i+1),by omega,1,i+1,tq,tq+1,rfl,by omega,?_,?_⟩
  ·simp [Env.put,Env.of,zh3 hL]
  rw [zh3 hL]; simp [zde]
 try simp only[RL]at h2
 obtain rfl:i=Ls.length:=by omega
 rw [List.take_length]
 refine W.exit ?_
 refine xe ?_
 refine xe ?_
 refine XBlock.hit ?_
 refine xn ?_
 refine W.r fun K hK=>?_
 simp(disch:=omega)only[↓RU,RV,RH,↓reduceIte,qE,reduceCtorEq,if_pos,↓RS,RG,qA,qM,qL]
 apply hK;clear hK K
 refine W.ret ?_
 refine Br rfl ?_
 generalize Ls.flatten=F
 exact (zc6 (k:=9) rfl (by simp) (ziy _)).trans rfl
theorem yb3  : PC Tryz.prog 35 [eT .o] (eInts [0]) true:=by
 simp only[eT]
 refine PC.of ⟨Tryz.func35,by kernel_rfl,rfl,by kernel_rfl⟩ zao mixed (by show 1≤Tryz.f35.ntmps; decide) ?_
 refine W.r fun K hK=>?_
 simp(disch:=omega)only[↓RU,RV,RH,↓reduceIte,qE,reduceCtorEq,if_pos,↓RS,RG,qA,qM,qL]
 apply hK;clear hK K
 refine W.seq ?_
 refine W.r fun K hK=>?_
 simp(disch:=omega)only[↓RU,RV,RH,↓reduceIte,qE,reduceCtorEq,if_pos,w64,↓RS,RG,qA,qM,qL,ty3,zet,zhs,zaa,zht,zaw,Int.toNat_zero,Nat.zero_mul,qZ,qM,Nat.zero_add,Nat.mul_one,List.getElem?_cons_zero,List.getElem?_cons_succ]
 apply hK;clear hK K
 refine W.cond rfl (fun h0=>?_) (fun h0=>?_)
 ·try simp only[RL]at h0
  refine W.r fun K hK=>?_
  simp(disch:=omega)only[↓RU,RV,RH,↓reduceIte,qE,reduceCtorEq,if_pos,↓RS,RG,qA,qM,qL,zab,zaa]
  apply hK;clear hK K
  refine W.ret ?_
  refine XThen.ret ?_
  refine Br rfl ?_
  rfl
 try simp only[RL]at h0
 exact absurd h0 (by simp)
theorem z41 {m:UInt8} {a b:Tm} {A B:List Int} (hm:m=124∨m=45) (ha1:1≤A.length) (ha:A.length≤100) (hb1:1≤B.length) (hb:B.length≤100) (hbb:∀ (i:Nat) x,B[i]?=some x→0≤x∧x≤1000) (i1:PC Tryz.prog 35 [eT a] (eInts A) false) (i2:PC Tryz.prog 35 [eT b] (eInts B) false):PC Tryz.prog 35 [eT (.bin m a b)] (eInts (if m=124 then A++upL B A.length else upL B A.length++A)) false:=by
 obtain ⟨ca,hca⟩:=zfn a
 obtain ⟨cb,hcb⟩:=zfn b
 rw [hca]at i1
 rw [hcb]at i2
 simp only[eT,hca,hcb]
 have dl:(((2:Nat):Int) == 0)=false:=rfl
 refine PC.of ⟨Tryz.func35,by kernel_rfl,rfl,by kernel_rfl⟩ zao mixed (by show 1≤Tryz.f35.ntmps; decide) ?_
 refine W.r fun K hK=>?_
 simp(disch:=omega)only[↓RU,RV,RH,↓reduceIte,qE,reduceCtorEq,if_pos,↓RS,RG,qA,qM,qL]
 apply hK;clear hK K
 refine W.seq ?_
 refine W.r fun K hK=>?_
 simp(disch:=omega)only[↓RU,RV,RH,↓reduceIte,qE,reduceCtorEq,if_pos,w64,↓RS,RG,qA,qM,qL,ty3,zet,zhs,zaa,zht,zaw,Int.toNat_zero,Nat.zero_mul,qZ,qM,Nat.zero_add,Nat.mul_one,List.getElem?_cons_zero,List.getElem?_cons_succ,dl]
 apply hK;clear hK K
 refine W.cond rfl (fun h0=>?_) (fun h0=>?_)
 ·try simp only[RL]at h0
  exact absurd h0 (by simp)
 try simp only[RL]at h0
 refine W.skip ?_
 refine xn ?_
 refine W.seq_draw (by kernel_rfl) fun K hK=>?_
 simp(disch:=omega)only[↓RU,RV,RH,↓reduceIte,qE,reduceCtorEq,if_pos,qN,↓RS,RG,qA,qM,qL,ty3,zet,zhs,zht,zaw,Int.toNat_zero,Nat.zero_mul,qZ,qM,Nat.zero_add,Nat.mul_one,List.getElem?_cons_zero,List.getElem?_cons_succ]
 refine zac.pc (i1) rfl (.inr rfl) ?_
 simp(disch:=omega)only[↓RU,RV,RH,↓reduceIte,qE,reduceCtorEq,if_pos,qN,↓RS,RG,qA,qM,qL,ty3,zet,zhs,zht,zaw,Int.toNat_zero,Nat.zero_mul,qZ,qM,Nat.zero_add,Nat.mul_one,List.getElem?_cons_zero,List.getElem?_cons_succ]
 refine zac.pc (i2) rfl (.inr rfl) ?_
 simp(disch:=omega)only[↓RU,RV,RH,↓reduceIte,qE,reduceCtorEq,if_pos,qN,↓RS,RG,qA,qM,qL,ty3,zet,zhs,zht,zaw,Int.toNat_zero,Nat.zero_mul,qZ,qM,Nat.zero_add,Nat.mul_one,List.getElem?_cons_zero,List.getElem?_cons_succ]
 apply hK;clear hK K
 refine W.seq ?_
 refine W.r fun K hK=>?_
 rcases hm with rfl | rfl
 ·skip
  have f1:(((124:UInt8).toNat:Int) == 124)=true:=rfl
  simp(disch:=omega)only[↓RU,RV,RH,↓reduceIte,qE,reduceCtorEq,if_pos,w64,↓RS,RG,qA,qM,qL,ty3,zet,zhs,zht,zaw,Int.toNat_zero,Nat.zero_mul,qZ,qM,Nat.zero_add,Nat.mul_one,List.getElem?_cons_zero,List.getElem?_cons_succ,f1]
  apply hK;clear hK K
  refine W.cond rfl (fun h1=>?_) (fun h1=>?_)
  ·try simp only[RL]at h1
   refine W.r fun K hK=>?_
   have hC:=zti (Ls:=[A,upL B A.length]) (by simp) (by simp; omega) (by simp [zax]; omega)
   simp(disch:=omega)only[↓RU,RV,RH,↓reduceIte,qE,reduceCtorEq,if_pos,qN,↓RS,RG,qA,qM,qL,ty1,zab,zaa]
   refine zac.pc (zu9 (k:=A.length) hb1 (by omega) (by omega) hbb) rfl (.inl rfl) ?_
   simp(disch:=omega)only[↓RU,RV,RH,↓reduceIte,qE,reduceCtorEq,if_pos,qN,↓RS,RG,qA,qM,qL,ty1,zab,zaa]
   refine zac.pc (hC) rfl (.inl rfl) ?_
   simp(disch:=omega)only[↓RU,RV,RH,↓reduceIte,qE,reduceCtorEq,if_pos,qN,↓RS,RG,qA,qM,qL,ty1,zab,zaa]
   apply hK;clear hK K
   refine W.ret ?_
   refine XThen.ret ?_
   refine Br rfl ?_
   rw [if_pos rfl,show A++upL B A.length=[A,upL B A.length].flatten by simp]
   rfl
  try simp only[RL]at h1
  exact absurd h1 (by simp)
 skip
 have f1:(((45:UInt8).toNat:Int) == 124)=false:=rfl
 simp(disch:=omega)only[↓RU,RV,RH,↓reduceIte,qE,reduceCtorEq,if_pos,w64,↓RS,RG,qA,qM,qL,ty3,zet,zhs,zht,zaw,Int.toNat_zero,Nat.zero_mul,qZ,qM,Nat.zero_add,Nat.mul_one,List.getElem?_cons_zero,List.getElem?_cons_succ,f1]
 apply hK;clear hK K
 refine W.cond rfl (fun h1=>?_) (fun h1=>?_)
 ·try simp only[RL]at h1
  exact absurd h1 (by simp)
 try simp only[RL]at h1
 refine W.skip ?_
 refine xn ?_
 refine W.r fun K hK=>?_
 have hC:=zti (Ls:=[upL B A.length,A]) (by simp) (by simp; omega) (by simp [zax]; omega)
 simp(disch:=omega)only[↓RU,RV,RH,↓reduceIte,qE,reduceCtorEq,if_pos,qN,↓RS,RG,qA,qM,qL,ty1,zab,zaa]
 refine zac.pc (zu9 (k:=A.length) hb1 (by omega) (by omega) hbb) rfl (.inl rfl) ?_
 simp(disch:=omega)only[↓RU,RV,RH,↓reduceIte,qE,reduceCtorEq,if_pos,qN,↓RS,RG,qA,qM,qL,ty1,zab,zaa]
 refine zac.pc (hC) rfl (.inl rfl) ?_
 simp(disch:=omega)only[↓RU,RV,RH,↓reduceIte,qE,reduceCtorEq,if_pos,qN,↓RS,RG,qA,qM,qL,ty1,zab,zaa]
 apply hK;clear hK K
 refine W.ret ?_
 refine Br rfl ?_
 rw [if_neg (by decide),show upL B A.length++A=[upL B A.length,A].flatten by simp]
 rfl
theorem z75:∀ (u:Tm),u.pure→u.n≤100→PC Tryz.prog 35 [eT u] (eInts (pm u)) false:=by
 intro u
 induction u with
 | o=>intro _ _; exact yb3.old
 | un c t _=>intro h; exact h.elim
 | bin m a b h1 h2 =>
  intro h h7
  have pa:=a.pos
  have pb:=b.pos
  have la:=zm1 a
  have lb:=zm1 b
  simp only[Tm.n]at h7
  have fB:=(zdx b).1
  have:=z41 h.1 (by omega) (by omega) (by omega) (by omega) (fun i x hx=>by have:=fB i x hx; omega) (h1 h.2.1 (by omega)) (h2 h.2.2 (by omega))
  rw [pm]
  exact this
def tqV (s:Txt):Option (List Int):=(ofT s).map fun t=>pm (td t)
def ppI:Option (List Int)→PV
 | some l=>eInts l
 | none => .sl [] 0
theorem z8e {l:List Int}:ppI (some l)=eInts l:=rfl
theorem z8d:ppI none = .sl [] 0:=rfl
def ppQ (o:Option (List Int)):PV := .tup [ppI o,.bool o.isSome]
theorem zvx (s:Txt) (hs:s.length≤1048576):PC Tryz.prog 14 [.str s] (ppQ (tqV s)) false:=by
 refine PC.of ⟨Tryz.func14,by kernel_rfl,rfl,by kernel_rfl⟩ zao mixed (by show 1≤Tryz.f14.ntmps; decide) ?_
 refine W.r fun K hK=>?_
 simp(disch:=omega)only[↓RU,RV,RH,↓reduceIte,qE,reduceCtorEq,if_pos,↓RS,RG,qA,qM,qL]
 apply hK;clear hK K
 refine W.r fun K hK=>?_
 simp(disch:=omega)only[↓RU,RV,RH,↓reduceIte,qE,reduceCtorEq,if_pos,qN,↓RS,RG,qA,qM,qL]
 refine zac.pc (zvw s hs) rfl (.inr rfl) ?_
 simp(disch:=omega)only[↓RU,RV,RH,↓reduceIte,qE,reduceCtorEq,if_pos,qN,↓RS,RG,qA,qM,qL]
 apply hK;clear hK K
 refine W.seq ?_
 refine W.r fun K hK=>?_
 rcases ho:ofT s with _ | t
 ·skip
  rw [zrq]
  simp(disch:=omega)only[↓RU,RV,RH,↓reduceIte,qE,reduceCtorEq,if_pos,w64,↓RS,RG,qA,qM,qL,zet,zir,ziq,qO]
  apply hK;clear hK K
  refine W.cond rfl (fun h0=>?_) (fun h0=>?_)
  ·try simp only[RL]at h0
   refine W.r fun K hK=>?_
   simp(disch:=omega)only[↓RU,RV,RH,↓reduceIte,qE,reduceCtorEq,if_pos,↓RS,RG,qA,qM,qL]
   apply hK;clear hK K
   refine W.ret ?_
   refine XThen.ret ?_
   refine Br rfl ?_
   rw [show tqV s=none by unfold tqV; rw [ho]; rfl]
   rfl
  try simp only[RL]at h0
  exact absurd h0 (by simp)
 skip
 obtain ⟨cs,hcs⟩:=zfn t
 obtain ⟨ds,hds⟩:=zfn (td t)
 have hok:=zqr ho
 have hpu:=zg0 hok.1
 have hT:=yc1 hok.1
 have hP:=z75 (td t) hpu.1 (by have:=hok.2.1; omega)
 rw [zh1,hcs]
 rw [hcs,hds]at hT
 rw [hds]at hP
 simp(disch:=omega)only[↓RU,RV,RH,↓reduceIte,qE,reduceCtorEq,if_pos,w64,↓RS,RG,qA,qM,qL,zet,zir,ziq,qO]
 apply hK;clear hK K
 refine W.cond rfl (fun h0=>?_) (fun h0=>?_)
 ·try simp only[RL]at h0
  exact absurd h0 (by simp)
 try simp only[RL]at h0
 refine W.skip ?_
 refine xn ?_
 refine W.r fun K hK=>?_
 simp(disch:=omega)only[↓RU,RV,RH,↓reduceIte,qE,reduceCtorEq,if_pos,qN,↓RS,RG,qA,qM,qL]
 refine zac.pc (hT) rfl (.inr rfl) ?_
 simp(disch:=omega)only[↓RU,RV,RH,↓reduceIte,qE,reduceCtorEq,if_pos,qN,↓RS,RG,qA,qM,qL]
 refine zac.pc (hP) rfl (.inr rfl) ?_
 simp(disch:=omega)only[↓RU,RV,RH,↓reduceIte,qE,reduceCtorEq,if_pos,qN,↓RS,RG,qA,qM,qL]
 apply hK;clear hK K
 refine W.ret ?_
 refine Br rfl ?_
 rw [show tqV s=some (pm (td t)) by unfold tqV; rw [ho]; rfl]
 rfl
end Fw
end Go.Proofs.YtcfgpmeebpinaaaGreat
