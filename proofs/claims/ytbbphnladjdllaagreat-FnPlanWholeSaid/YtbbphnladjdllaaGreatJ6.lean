/- Of any text that is a plan: it is cut up just if the order of its rooms is loose, its crossings stay when it is turned, four turns lead back, and four colours do: the law FnPlanWhole answers true for all texts. No condition. -/
import Derived.Test.YtbbphnladjdllaaGreatJ5
import Derived.Test.YtbbphnladjdllaaGreatJ3
set_option linter.all false
namespace Go.Proofs.YtbbphnladjdllaaGreat
namespace Fw
open Go
open Nat renaming reduceEqDiff → qE, reduceLeDiff → qL, reduceAdd → qA, reduceMul → qM, le_refl → qR
open List renaming append_nil → qN, mapM_append → qP, mapM_cons → qC, mapM_map → qU, range_succ → qS, take_of_length_le → qT
open Bool renaming and_eq_true → qB, false_eq_true → qF
open Option renaming map_some → qO, map_eq_some_iff → qI
open Int renaming reduceToNat → qZ
section
theorem TC.flip {R:Nat→Nat→Prop} {P:Nat→Prop} {a d:Nat} (h:TC R a d) (ha:P a) (hd:¬ P d):∃ u v,(u=a∨TC R a u)∧R u v∧(v=d∨TC R v d)∧P u∧¬ P v:=by
 induction h with
 | one h=>exact ⟨_,_,.inl rfl,h,.inl rfl,ha,hd⟩
 | tail h k ih =>
  rename_i b d
  by_cases hb:P b
  ·exact ⟨b,d,.inr h,k,.inl rfl,hb,hd⟩
  obtain ⟨u,v,h1,h2,h3,h4,h5⟩:=ih hb
  refine ⟨u,v,h1,h2,?_,h4,h5⟩
  rcases h3 with rfl | h3
  ·exact .inr (.one k)
  exact .inr (.tail h3 k)
section
variable {c:Nat→Nat→Nat} {H W:Nat}
theorem DU.rows (h:Pl c H W) {u v:Nat} (hd:DU c H W u v) {i j i' j':Nat} (hi:i<H) (hj:j<W) (hi':i'<H) (hj':j'<W) (hu:c i j=u) (hv:c i' j'=v):i<i':=by
 obtain ⟨l,j1,j2,a1,a2,a3,a4,a5,a6⟩:=hd
 have k1:i≤l:=by
  refine Nat.le_of_not_lt fun hlt=>a4 j1 (by omega) (by omega) ?_
  have:=h.rect (i:=i) (j:=j) (i':=l) (j':=j1) (l+1) j1 hi (by omega) hj a2 (by rw [hu,a5]) (by omega) (by omega) (by omega) (by omega)
  rw [this,hu,a5]
 have k2:l+1≤i':=by
  refine Nat.le_of_not_lt fun hlt=>a4 j2 (by omega) (by omega) ?_
  have:=h.rect (i:=i') (j:=j') (i':=l+1) (j':=j2) l j2 hi' (by omega) hj' a3 (by rw [hv,a6]) (by omega) (by omega) (by omega) (by omega)
  rw [this,hv,a6]
 omega
theorem TCU.rows (h:Pl c H W) {u v:Nat} (hd:TC (DU c H W) u v):∀ {i j i' j':Nat},i<H→j<W→i'<H→j'<W→c i j=u→c i' j'=v→i<i':=by
 induction hd with
 | one hd=>exact DU.rows h hd
 | tail _ k ih =>
  intro i j i' j' hi hj hi' hj' hu hv
  obtain ⟨l,j1,j2,a1,a2,a3,a4,a5,a6⟩:=id k
  have h1:=ih hi hj (show l<H by omega) a2 hu a5.symm
  have h2:=DU.rows h k (show l<H by omega) a2 hi' hj' a5.symm hv
  omega
theorem z4h {i j1 j2:Nat} (hi:i<H) (h1:j1≤j2) (h2:j2<W):c i j1=c i j2∨TC (DL c H W) (c i j1) (c i j2):=by
 by_cases e:c i j1=c i j2
 ·exact .inl e
 exact .inr (zin hi h1 h2 e)
theorem yf5 (h:Pl c H W) {a b x d:Nat} (hxb:DU c H W x b) (hxa:TC (DU c H W) x a) (hdb:TC (DU c H W) d b) (had:TC (DL c H W) a d) (n1:¬ TC (DL c H W) a x) (n2:¬ TC (DL c H W) b d):False:=by
 obtain ⟨i,j1,j2,a1,a2,a3,a4,a5,a6⟩:=id hxb
 have hap:∃ r s,r<H∧s<W∧c r s=a∧i+1≤r:=by
  obtain ⟨u,hu,j,r1,r2,b1,b2,b3,b4,b5,b6⟩:∃ v,(v=d∨TC (DL c H W) v d)∧DL c H W a v:=by
   clear hxa n1
   induction had with
   | one k=>exact ⟨_,.inl rfl,k⟩
   | tail k1 k2 ih =>
    clear ih hdb n2
    rename_i b' d'
    have key:∀ {p q:Nat},TC (DL c H W) p q→∃ v,(v=q∨TC (DL c H W) v q)∧DL c H W p v:=by
     intro p q hh
     induction hh with
     | one k=>exact ⟨_,.inl rfl,k⟩
     | tail _ k ih =>
      obtain ⟨v,hv,hp⟩:=ih
      refine ⟨v,.inr ?_,hp⟩
      rcases hv with rfl | hv
      ·exact .one k
      exact .tail hv k
    exact key (.tail k1 k2)
  have:=TCU.rows h hxa (show i<H by omega) a2 b2 (show j<W by omega) a5.symm b5.symm
  exact ⟨r1,j,b2,by omega,b5.symm,this⟩
 have hdn:¬ ∃ r s,r<H∧s<W∧c r s=d∧i+1≤r:=by
  rintro ⟨r,s,q1,q2,q3,q4⟩
  have:=TCU.rows h hdb q1 q2 a1 a3 q3 a6.symm
  omega
 obtain ⟨u,v,hu,⟨j,r1,r2,b1,b2,b3,b4,b5,b6⟩,hv,⟨r,s,q1,q2,q3,q4⟩,hnv⟩:=TC.flip (P:=fun a=>∃ r s,r<H∧s<W∧c r s=a∧i+1≤r) had hap hdn
 have hr2:r2≤i:=Nat.le_of_not_lt fun hlt=>hnv ⟨r2,j+1,b3,b1,b6.symm,hlt⟩
 have left:∀ {w:Nat},TC (DL c H W) u w→TC (DL c H W) a w:=by
  intro w hw
  rcases hu with rfl | hu
  ·exact hw
  exact hu.trans hw
 have right:∀ {w:Nat},TC (DL c H W) w v→TC (DL c H W) w d:=by
  intro w hw
  rcases hv with rfl | hv
  ·exact hw
  exact hw.trans hv
 rcases Nat.lt_or_ge i r1 with hr | hr
 ·have w1:=b4 i (by omega) (by omega)
  have w2:=b4 (i+1) (by omega) (by omega)
  have hside:j<min j1 j2∨max j1 j2≤j:=by
   rcases Nat.lt_or_ge j (min j1 j2) with h1 | h1
   ·exact .inl h1
   rcases Nat.lt_or_ge j (max j1 j2) with h2 | h2
   ·exact absurd (h.plain (i:=i) (j:=j) a1 b1 w1 w2 (a4 j h1 (by omega))) (a4 (j+1) (by omega) (by omega))
   exact .inr h2
  rcases hside with hs | hs
  ·have g:DL c H W u (c i (j+1)):=⟨j,r1,i,b1,b2,by omega,fun k h1 h2=>b4 k (by omega) (by omega),b5,rfl⟩
   rcases z4h (c:=c) (W:=W) (i:=i) (j1:=j+1) (j2:=j1) (show i<H by omega) (by omega) a2 with e | e
   ·exact n1 (left (by rw [a5,← e]; exact .one g))
   exact n1 (left (by rw [a5]; exact (TC.one g).trans e))
  have g:DL c H W (c (i+1) j) v:=⟨j,i+1,r2,b1,by omega,b3,fun k h1 h2=>b4 k (by omega) (by omega),rfl,b6⟩
  rcases z4h (c:=c) (W:=W) (i:=i+1) (j1:=j2) (j2:=j) a1 (by omega) (by omega) with e | e
  ·exact n2 (right (by rw [a6,e]; exact .one g))
  exact n2 (right (by rw [a6]; exact e.trans (.one g)))
 have hj:j<W:=by omega
 have e1:c i j=u:=by
  have:=h.rect (i:=r1) (j:=j) (i':=r) (j':=s) i j b2 q1 hj q2 (by rw [← b5,q3]) (by omega) (by omega) (by omega) (by omega)
  rw [this,b5]
 have e2:c (i+1) j=u:=by
  have:=h.rect (i:=r1) (j:=j) (i':=r) (j':=s) (i+1) j b2 q1 hj q2 (by rw [← b5,q3]) (by omega) (by omega) (by omega) (by omega)
  rw [this,b5]
 have hside:j<min j1 j2∨max j1 j2<j:=by
  rcases Nat.lt_or_ge j (min j1 j2) with h1 | h1
  ·exact .inl h1
  rcases Nat.lt_or_ge (max j1 j2) j with h2 | h2
  ·exact .inr h2
  exact absurd (e1.trans e2.symm) (a4 j h1 h2)
 rcases hside with hs | hs
 ·rcases z4h (c:=c) (W:=W) (i:=i) (j1:=j) (j2:=j1) (show i<H by omega) (by omega) a2 with e | e
  ·have:=h.rect (i:=i) (j:=j1) (i':=i+1) (j':=j) (i+1) j1 (by omega) a1 a2 hj (by rw [← e,e1,e2]) (by omega) (by omega) (by omega) (by omega)
   exact a4 j1 (by omega) (by omega) this.symm
  rw [e1,← a5]at e
  exact n1 (left e)
 have hd:DL c H W u v:=⟨j,r1,r2,b1,b2,b3,b4,b5,b6⟩
 rcases z4h (c:=c) (W:=W) (i:=i+1) (j1:=j2) (j2:=j) a1 (by omega) hj with e | e
 ·have:=h.rect (i:=i+1) (j:=j2) (i':=i) (j':=j) i j2 a1 (by omega) a3 hj (by rw [e,e1,e2]) (by omega) (by omega) (by omega) (by omega)
  exact a4 j2 (by omega) (by omega) this
 rw [e2,← a6]at e
 exact n2 (right (e.trans (.one hd)))
end
section
variable {p:List Txt}
theorem DL.lt (hp:zcd p=true) {a b:Nat} (h:DL (cn (gP p)) p.length (zag p).length a b):a<(rP p).length∧b<(rP p).length:=by
 obtain ⟨j,i1,i2,h1,h2,h3,-,rfl,rfl⟩:=h
 exact ⟨zlu ze2 h2 (by omega),zlu ze2 h3 h1⟩
theorem DU.lt (hp:zcd p=true) {a b:Nat} (h:DU (cn (gP p)) p.length (zag p).length a b):a<(rP p).length∧b<(rP p).length:=by
 obtain ⟨j,i1,i2,h1,h2,h3,-,rfl,rfl⟩:=h
 exact ⟨zlu ze2 (by omega) h2,zlu ze2 h1 h3⟩
theorem yaa (hp:zcd p=true) {a b d:Nat} (hab:a<b) (hbd:b+1<d) (hd:d<(rP p).length) :
  ¬ (xI p d<xI p b∧xI p (b+1)<xI p a∧xI p a<xI p d)∧¬ (xI p b<xI p d∧xI p a<xI p (b+1)∧xI p d<xI p a):=by
 have hP:=zn0 hp
 have rA:=(zen hp (i:=a) (by omega)).1
 have rB:=zen hp (i:=b) (by omega)
 have rX:=zen hp (i:=b+1) (by omega)
 have rD:=(zen hp (i:=d) (by omega)).1
 constructor
 ·rintro ⟨h1,h2,h3⟩
  have o1:Ab p (zhu p (b+1)) (zhu p b):=(ycl hp (show b<b+1 by omega) (by omega)).2 (by omega)
  have o2:Ab p (zhu p (b+1)) (zhu p a):=(ycl hp (show a<b+1 by omega) (by omega)).2 (by omega)
  have o3:Ab p (zhu p d) (zhu p b):=(ycl hp (show b<d by omega) (by omega)).2 (by omega)
  have o4:Lf p (zhu p a) (zhu p d):=(ycl hp (show a<d by omega) (by omega)).1 h3
  have u:DU (cn (gP p)) p.length (zag p).length (zhu p (b+1)) (zhu p b):=by
   obtain ⟨m,hm,hmb⟩:=((Ab.iff rX.1 rB.1).1 o1).last
   rcases hm with rfl | hm
   ·exact hmb
   exfalso
   have hml:=(DU.lt hp hmb).1
   have k1:=zp0 hp hml (i:=b+1) (by omega) ((Ab.iff rX.1 hml).2 hm)
   have hmk:Ab p (zhu p (ahK p true m)) (zhu p b):=by rw [zim hp hml]; exact (Ab.iff hml rB.1).2 (.one hmb)
   have k2:=zp0 hp rB.1 (i:=ahK p true m) (zp2 hp hml) hmk
   rw [rB.2.1]at k2
   omega
  exact yf5 hP u ((Ab.iff rX.1 rA).1 o2) ((Ab.iff rD rB.1).1 o3) ((Lf.iff rA rD).1 o4) (fun h=>(Ab.only hp rX.1 rA o2).2.2 ((Lf.iff rA rX.1).2 h)) fun h=>(Ab.only hp rD rB.1 o3).2.2 ((Lf.iff rB.1 rD).2 h)
 rintro ⟨h1,h2,h3⟩
 have o1:Lf p (zhu p b) (zhu p (b+1)):=(ycl hp (show b<b+1 by omega) (by omega)).1 (by omega)
 have o2:Lf p (zhu p b) (zhu p d):=(ycl hp (show b<d by omega) (by omega)).1 h1
 have o3:Lf p (zhu p a) (zhu p (b+1)):=(ycl hp (show a<b+1 by omega) (by omega)).1 h2
 have o4:Ab p (zhu p d) (zhu p a):=(ycl hp (show a<d by omega) (by omega)).2 (by omega)
 have u:DL (cn (gP p)) p.length (zag p).length (zhu p b) (zhu p (b+1)):=by
  obtain ⟨m,hm,hmb⟩:=((Lf.iff rB.1 rX.1).1 o1).last
  rcases hm with rfl | hm
  ·exact hmb
  exfalso
  have hml:=(DL.lt hp hmb).1
  have k1:=zq1 hp hml (i:=b+1) (by omega) ((Lf.iff hml rX.1).2 (.one hmb))
  have hmk:Lf p (zhu p b) (zhu p (ahK p true m)):=by rw [zim hp hml]; exact (Lf.iff rB.1 hml).2 hm
  have k2:=zq1 hp rB.1 (i:=ahK p true m) (zp2 hp hml) hmk
  rw [rB.2.1]at k2
  omega
 exact yf5 hP.ex (a:=zhu p d) (b:=zhu p (b+1)) (x:=zhu p b) (d:=zhu p a) u ((Lf.iff rB.1 rD).1 o2) ((Lf.iff rA rX.1).1 o3) ((Ab.iff rD rA).1 o4) (fun h=>(Lf.only hp rB.1 rD o2).2.2 ((Ab.iff rD rB.1).2 h)) fun h=>(Lf.only hp rA rX.1 o3).2.2 ((Ab.iff rX.1 rA).2 h)
end
end
section
def Tight (a b c d:Int):Prop:=(c<a∧a<d∧d<b)∨(b<d∧d<a∧a<c)
def Avoid (v:Nat→Int) (A:Nat→Prop):Prop:=∀ a b c d,A a→A b→A c→A d→a<b→b<c→c<d→¬ Tight (v a) (v b) (v c) (v d)
def Inj (v:Nat→Int) (A:Nat→Prop):Prop:=∀ a b,A a→A b→v a=v b→a=b
def LS (v:Nat→Int) (A B:Nat→Prop):Prop:=(∃ a,A a∧B a)∧(∃ a,A a∧¬ B a)∧∀ a b,A a→B a→A b→¬ B b→a<b∧v a<v b
def DS (v:Nat→Int) (A B:Nat→Prop):Prop:=(∃ a,A a∧B a)∧(∃ a,A a∧¬ B a)∧∀ a b,A a→B a→A b→¬ B b→a<b∧v b<v a
theorem LS.neg {v:Nat→Int} {A B:Nat→Prop} (h:LS (fun i => -v i) A B):DS v A B :=
 ⟨h.1,h.2.1,fun a b h1 h2 h3 h4=>by have:=h.2.2 a b h1 h2 h3 h4; simp only at this; omega⟩
theorem DS.neg {v:Nat→Int} {A B:Nat→Prop} (h:DS (fun i => -v i) A B):LS v A B :=
 ⟨h.1,h.2.1,fun a b h1 h2 h3 h4=>by have:=h.2.2 a b h1 h2 h3 h4; simp only at this; omega⟩
theorem DS.pos {v:Nat→Int} {A B:Nat→Prop} (h:DS v A B):LS (fun i => -v i) A B :=
 ⟨h.1,h.2.1,fun a b h1 h2 h3 h4=>by have:=h.2.2 a b h1 h2 h3 h4; refine ⟨this.1,?_⟩; show -v a < -v b; omega⟩
theorem Avoid.neg {v:Nat→Int} {A:Nat→Prop} (h:Avoid v A):Avoid (fun i => -v i) A:=fun a b c d h1 h2 h3 h4 h5 h6 h7 k =>
 h a b c d h1 h2 h3 h4 h5 h6 h7 (by unfold Tight at k ⊢; simp only at k; omega)
theorem Inj.neg {v:Nat→Int} {A:Nat→Prop} (h:Inj v A):Inj (fun i => -v i) A:=fun a b h1 h2 h3=>h a b h1 h2 (by simp only at h3; omega)
theorem Avoid.sub {v:Nat→Int} {A A':Nat→Prop} (h:Avoid v A) (k:∀ a,A' a→A a):Avoid v A':=fun a b c d h1 h2 h3 h4=>h a b c d (k a h1) (k b h2) (k c h3) (k d h4)
theorem Inj.sub {v:Nat→Int} {A A':Nat→Prop} (h:Inj v A) (k:∀ a,A' a→A a):Inj v A':=fun a b h1 h2=>h a b (k a h1) (k b h2)
theorem z2s {v:Nat→Int} {A:Nat→Prop} {m:Nat} (hm:A m) (hA:∀ i,A i→i<m+1) (hi:Inj v A) (ha:Avoid v A)
  (ih:∀ k,k≤m→∀ A',(∀ i,A' i→i<k)→(∃ a b,A' a∧A' b∧a≠b)→(∀ a,A' a→A a)→(∃ B,LS v A' B)∨∃ B,DS v A' B)
  {B0:Nat→Prop} (h0:LS v (fun a=>A a∧a<m) B0):(∃ B,LS v A B)∨∃ B,DS v A B:=by
 obtain ⟨k,hk,⟨B,hB,hBk⟩,hmin⟩:=zma (P:=fun k=>∃ B,LS v (fun a=>A a∧a<m) B∧∀ a,A a→a<m→B a→a<k) (n:=m) ⟨B0,h0,fun a _ h _=>h⟩
 obtain ⟨⟨b0,hb0,hb0'⟩,⟨q,hq,hq'⟩,hall⟩:=hB
 have hlt:∀ {a},A a→a≠m→a<m:=fun h1 h2=>by have:=hA _ h1; omega
 by_cases h1:∀ x,A x→x<m→B x→v x<v m
 ·refine .inl ⟨fun a=>B a∧a<m,⟨b0,hb0.1,hb0',hb0.2⟩,⟨m,hm,fun h=>Nat.lt_irrefl _ h.2⟩,fun a b g1 g2 g3 g4=>?_⟩
  by_cases hb:b=m
  ·subst hb; exact ⟨g2.2,h1 a g1 g2.2 g2.1⟩
  exact hall a b ⟨g1,g2.2⟩ g2.1 ⟨g3,hlt g3 hb⟩ fun h=>g4 ⟨h,hlt g3 hb⟩
 obtain ⟨w,hw⟩:=Classical.not_forall.1 h1
 simp only[Classical.not_imp]at hw
 obtain ⟨w1,w2,w3,w4⟩:=hw
 have hwm:v m<v w:=by
  have:v w≠v m:=fun e=>by have:=hi w m w1 hm e; omega
  omega
 by_cases h2:∀ x,A x→x<m→v m<v x
 ·refine .inr ⟨fun a=>a<m,⟨w,w1,w2⟩,⟨m,hm,Nat.lt_irrefl _⟩,fun a b g1 g2 g3 g4=>?_⟩
  obtain rfl:b=m:=Classical.byContradiction fun h=>g4 (hlt g3 h)
  exact ⟨g2,h2 a g1 g2⟩
 obtain ⟨u,hu⟩:=Classical.not_forall.1 h2
 simp only[Classical.not_imp]at hu
 obtain ⟨u1,u2,u3⟩:=hu
 have hum:v u<v m:=by
  have:v u≠v m:=fun e=>by have:=hi u m u1 hm e; omega
  omega
 have huB:B u:=Classical.byContradiction fun h=>by
  have:=hall w u ⟨w1,w2⟩ w3 ⟨u1,u2⟩ h
  omega
 rcases ih k hk (fun a=>(A a∧a<m)∧B a) (fun i h=>hBk i h.1.1 h.1.2 h.2) ⟨u,w,⟨⟨u1,u2⟩,huB⟩,⟨⟨w1,w2⟩,w3⟩,fun e=>by subst e; omega⟩ (fun a h=>h.1.1) with ⟨X,⟨x0,hx0,hx0'⟩,⟨y0,hy0,hy0'⟩,hX⟩ | ⟨X,⟨x0,hx0,hx0'⟩,⟨y0,hy0,hy0'⟩,hX⟩
 ·refine absurd ⟨fun a=>B a∧X a,⟨⟨x0,hx0.1,hx0.2,hx0'⟩,⟨y0,hy0.1,fun h=>hy0' h.2⟩,fun a b g1 g2 g3 g4=>?_⟩,fun a g1 g2 g3=>(hX a y0 ⟨⟨g1,g2⟩,g3.1⟩ g3.2 hy0 hy0').1⟩ (hmin y0 (hBk y0 hy0.1.1 hy0.1.2 hy0.2))
  by_cases hb:B b
  ·exact hX a b ⟨g1,g2.1⟩ g2.2 ⟨g3,hb⟩ fun h=>g4 ⟨hb,h⟩
  exact hall a b g1 g2.1 g3 hb
 exfalso
 obtain ⟨x,y,hx,hx',hy,hy',e1,e2⟩:∃ x y,((A x∧x<m)∧B x)∧X x∧((A y∧y<m)∧B y)∧¬ X y∧v y<v m∧v m<v x:=by
  by_cases hXu:X u
  ·have hXw:X w:=Classical.byContradiction fun h=>by
    have:=hX u w ⟨⟨u1,u2⟩,huB⟩ hXu ⟨⟨w1,w2⟩,w3⟩ h
    omega
   have:=hX u y0 ⟨⟨u1,u2⟩,huB⟩ hXu hy0 hy0'
   exact ⟨w,y0,⟨⟨w1,w2⟩,w3⟩,hXw,hy0,hy0',by omega,hwm⟩
  by_cases hXw:X w
  ·exact ⟨w,u,⟨⟨w1,w2⟩,w3⟩,hXw,⟨⟨u1,u2⟩,huB⟩,hXu,hum,hwm⟩
  have:=hX x0 w hx0 hx0' ⟨⟨w1,w2⟩,w3⟩ hXw
  exact ⟨x0,u,hx0,hx0',⟨⟨u1,u2⟩,huB⟩,hXu,hum,by omega⟩
 have f1:=hX x y hx hx' hy hy'
 have f2:=hall x q hx.1 hx.2 hq hq'
 have f3:=hall y q hy.1 hy.2 hq hq'
 exact ha x y q m hx.1.1 hy.1.1 hq.1 hm f1.1 f3.1 hq.2 (.inr ⟨e1,e2,f2.2⟩)
theorem yg8:∀ (m:Nat) (v:Nat→Int) (A:Nat→Prop),(∀ i,A i→i<m)→(∃ a b,A a∧A b∧a≠b)→Inj v A→Avoid v A→(∃ B,LS v A B)∨∃ B,DS v A B:=by
 intro m
 induction m using Nat.strongRecOn with
 | _ m ih =>
  intro v A hA h2 hi ha
  match m,hA,ih with
  | 0,hA,_=>obtain ⟨a,b,h,-⟩:=h2; exact absurd (hA a h) (by omega)
  | m+1,hA,ih =>
   by_cases hm:A m
   ·by_cases h3:∃ a b,(A a∧a<m)∧(A b∧b<m)∧a≠b
    ·have ihv:∀ k,k≤m→∀ A',(∀ i,A' i→i<k)→(∃ a b,A' a∧A' b∧a≠b)→(∀ a,A' a→A a)→(∃ B,LS v A' B)∨∃ B,DS v A' B:=fun k hk A' q1 q2 q3=>ih k (by omega) v A' q1 q2 (hi.sub q3) (ha.sub q3)
     rcases ih m (by omega) v (fun a=>A a∧a<m) (fun i h=>h.2) h3 (hi.sub fun a h=>h.1) (ha.sub fun a h=>h.1) with ⟨B,hB⟩ | ⟨B,hB⟩
     ·exact z2s hm hA hi ha ihv hB
     have ihn:∀ k,k≤m→∀ A',(∀ i,A' i→i<k)→(∃ a b,A' a∧A' b∧a≠b)→(∀ a,A' a→A a)→(∃ B,LS (fun i => -v i) A' B)∨∃ B,DS (fun i => -v i) A' B:=fun k hk A' q1 q2 q3=>ih k (by omega) (fun i => -v i) A' q1 q2 (hi.sub q3).neg (ha.sub q3).neg
     rcases z2s hm hA hi.neg ha.neg ihn hB.pos with ⟨B,h⟩ | ⟨B,h⟩
     ·exact .inr ⟨B,h.neg⟩
     exact .inl ⟨B,h.neg⟩
    obtain ⟨u,hu,hum⟩:∃ u,A u∧u≠m:=by
     obtain ⟨a,b,h4,h5,h6⟩:=h2
     by_cases ham:a=m
     ·exact ⟨b,h5,fun e=>h6 (ham.trans e.symm)⟩
     exact ⟨a,h4,ham⟩
    have hul:u<m:=by have:=hA u hu; omega
    have only:∀ x,A x→x≠m→x=u:=fun x hx hxm=>Classical.byContradiction fun hne=>h3 ⟨x,u,⟨hx,by have:=hA x hx; omega⟩,⟨hu,hul⟩,hne⟩
    rcases Int.lt_or_le (v u) (v m) with hv | hv
    ·refine .inl ⟨fun a=>a=u,⟨u,hu,rfl⟩,⟨m,hm,fun e=>hum e.symm⟩,fun a b g1 g2 g3 g4=>?_⟩
     obtain rfl:b=m:=Classical.byContradiction fun h=>g4 (only b g3 h)
     rw [g2]; exact ⟨hul,hv⟩
    have hne:v u≠v m:=fun e=>hum (hi u m hu hm e)
    refine .inr ⟨fun a=>a=u,⟨u,hu,rfl⟩,⟨m,hm,fun e=>hum e.symm⟩,fun a b g1 g2 g3 g4=>?_⟩
    obtain rfl:b=m:=Classical.byContradiction fun h=>g4 (only b g3 h)
    rw [g2]; exact ⟨hul,by omega⟩
   exact ih m (by omega) v A (fun i h=>by have:=hA i h; have:i≠m:=fun e=>hm (e ▸ h); omega) h2 hi ha
section
variable {l:List Int}
theorem ybm:∀ (N lo hi:Nat) {A:Nat→Prop},hi - lo≤N→(∀ i,A i→lo≤i∧i<hi)→(∃ a,A a)→Inj (zcw l) A→Avoid (zcw l) A→Sp (PL l) (PU l) A
 | 0,lo,hi,A,h,hA,⟨a,ha⟩,_,_=>by have:=hA a ha; omega
 | N+1,lo,hi,A,h,hA,⟨a,ha⟩,hj,hv=>by
  by_cases h1:∀ b,A b→b=a
  ·exact .one a ha h1
  obtain ⟨b,hb⟩:=Classical.not_forall.1 h1
  simp only[Classical.not_imp]at hb
  rcases yg8 hi (zcw l) A (fun i h=>(hA i h).2) ⟨b,a,hb.1,ha,hb.2⟩ hj hv with ⟨B,⟨x,hx,hx'⟩,⟨y,hy,hy'⟩,hB⟩ | ⟨B,⟨x,hx,hx'⟩,⟨y,hy,hy'⟩,hB⟩
  ·have p1:=hA x hx
   have p2:=hA y hy
   have p3:=hB x y hx hx' hy hy'
   exact .left B ⟨x,hx,hx'⟩ ⟨y,hy,hy'⟩ (fun a b h1 h2 h3 h4=>hB a b h1 h2 h3 h4)
    (ybm N lo y (by omega) (fun i h=>⟨(hA i h.1).1,(hB i y h.1 h.2 hy hy').1⟩) ⟨x,hx,hx'⟩ (hj.sub fun a h=>h.1) (hv.sub fun a h=>h.1))
    (ybm N (x+1) hi (by omega) (fun i h=>⟨(hB x i hx hx' h.1 h.2).1,(hA i h.1).2⟩) ⟨y,hy,hy'⟩ (hj.sub fun a h=>h.1) (hv.sub fun a h=>h.1))
  have p1:=hA x hx
  have p2:=hA y hy
  have p3:=hB x y hx hx' hy hy'
  refine .up (fun a=>¬ B a) ⟨y,hy,hy'⟩ ⟨x,hx,fun h=>h hx'⟩ (fun a b h1 h2 h3 h4=>?_)
   (ybm N (x+1) hi (by omega) (fun i h=>⟨(hB x i hx hx' h.1 h.2).1,(hA i h.1).2⟩) ⟨y,hy,hy'⟩ (hj.sub fun a h=>h.1) (hv.sub fun a h=>h.1))
   (ybm N lo y (by omega) (fun i h=>⟨(hA i h.1).1,(hB i y h.1 (Classical.byContradiction h.2) hy hy').1⟩) ⟨x,hx,fun h=>h hx'⟩ (hj.sub fun a h=>h.1) (hv.sub fun a h=>h.1))
  have:=hB b a h3 (Classical.byContradiction h4) h1 h2
  exact ⟨this.1,by omega⟩
theorem yeq {A:Nat→Prop} (h:Sp (PL l) (PU l) A):Avoid (zcw l) A:=by
 induction h with
 | one a ha hu =>
  intro a b c d h1 h2 _ _ h3 _ _ _
  have:=hu a h1; have:=hu b h2; omega
 | left B _ _ hl _ _ i1 i2 =>
  intro a b c d ha hb hc hd hab hbc hcd
  have key:∀ x y,_→_→B x→¬ B y→x<y∧zcw l x<zcw l y:=fun x y h1 h2 h3 h4=>hl x y h1 h3 h2 h4
  by_cases hD:B d
  ·have hC:B c:=Classical.byContradiction fun h=>by have:=key d c hd hc hD h; omega
   have hB:B b:=Classical.byContradiction fun h=>by have:=key d b hd hb hD h; omega
   have hA:B a:=Classical.byContradiction fun h=>by have:=key d a hd ha hD h; omega
   exact i1 a b c d ⟨ha,hA⟩ ⟨hb,hB⟩ ⟨hc,hC⟩ ⟨hd,hD⟩ hab hbc hcd
  by_cases hA:B a
  ·have k1:=key a d ha hd hA hD
   unfold Tight
   by_cases hB:B b
   ·have k2:=key b d hb hd hB hD
    by_cases hC:B c
    ·have k3:=key c d hc hd hC hD; omega
    have k3:=key a c ha hc hA hC; have k4:=key b c hb hc hB hC; omega
   have k2:=key a b ha hb hA hB
   by_cases hC:B c
   ·have k3:=key c b hc hb hC hB; omega
   have k3:=key a c ha hc hA hC; omega
  have hB:¬ B b:=fun h=>by have:=key b a hb ha h hA; omega
  have hC:¬ B c:=fun h=>by have:=key c a hc ha h hA; omega
  exact i2 a b c d ⟨ha,hA⟩ ⟨hb,hB⟩ ⟨hc,hC⟩ ⟨hd,hD⟩ hab hbc hcd
 | up B _ _ hl _ _ i1 i2 =>
  intro a b c d ha hb hc hd hab hbc hcd
  have key:∀ x y,_→_→B x→¬ B y→y<x∧zcw l x≤zcw l y:=fun x y h1 h2 h3 h4=>by have:=hl x y h1 h3 h2 h4; exact ⟨this.1,by have:=this.2; omega⟩
  by_cases hA:B a
  ·have hB:B b:=Classical.byContradiction fun h=>by have:=key a b ha hb hA h; omega
   have hC:B c:=Classical.byContradiction fun h=>by have:=key a c ha hc hA h; omega
   have hD:B d:=Classical.byContradiction fun h=>by have:=key a d ha hd hA h; omega
   exact i1 a b c d ⟨ha,hA⟩ ⟨hb,hB⟩ ⟨hc,hC⟩ ⟨hd,hD⟩ hab hbc hcd
  by_cases hD:B d
  ·have k1:=key d a hd ha hD hA
   unfold Tight
   by_cases hB:B b
   ·have k2:=key b a hb ha hB hA
    by_cases hC:B c
    ·have k3:=key c a hc ha hC hA; omega
    have k3:=key b c hb hc hB hC; omega
   have k2:=key d b hd hb hD hB
   by_cases hC:B c
   ·have k3:=key c a hc ha hC hA; have k4:=key c b hc hb hC hB; omega
   have k3:=key d c hd hc hD hC; omega
  have hB:¬ B b:=fun h=>by have:=key b d hb hd h hD; omega
  have hC:¬ B c:=fun h=>by have:=key c d hc hd h hD; omega
  exact i2 a b c d ⟨ha,hA⟩ ⟨hb,hB⟩ ⟨hc,hC⟩ ⟨hd,hD⟩ hab hbc hcd
end
end
section
def zr5 (a b c d:Int):Bool:=(decide (b>max a d) && decide (c<min a d) && decide (a<d)) || (decide (b<min a d) && decide (c>max a d) && decide (a>d))
def zf4 (a b c d:Int):Bool:=(decide (c<a) && decide (a<d) && decide (d<b)) || (decide (b<d) && decide (d<a) && decide (a<c))
theorem zub {a b c d:Int}:zf4 a b c d=true↔Tight a b c d:=by
 unfold zf4 Tight
 simp only[Bool.or_eq_true,qB,decide_eq_true_eq,and_assoc]
def Fine (n:Nat) (bad:Nat→Nat→Nat→Nat→Bool):Prop:=∀ x y z w,x<y→y<z→z<w→w<n→bad x y z w=false
def z7d (l:List Int) (x y z w:Nat):Bool:=decide (y+1=z) && zr5 (zcw l x) (zcw l y) (zcw l z) (zcw l w)
def yfo (l:List Int) (x y z w:Nat):Bool:=zf4 (zcw l x) (zcw l y) (zcw l z) (zcw l w)
section
variable {p:List Txt}
theorem zia (hp:zcd p=true) {i:Nat} (hi:i<(rP p).length):zcw (zf2 p) i=xI p i:=zf5 (yfa hp hi)
theorem ygq (hp:zcd p=true) {i j:Nat} (hi:i<(rP p).length) (hj:j<(rP p).length) (h:xI p i=xI p j):i=j:=by
 obtain ⟨a1,a2,-⟩:=zen hp hi
 obtain ⟨b1,b2,-⟩:=zen hp hj
 unfold xI at h
 have:=z0c (below:=false) hp a1 b1 (by omega)
 rw [this]at a2
 omega
theorem yab (hp:zcd p=true):Fine (zf2 p).length (z7d (zf2 p)):=by
 intro x y z w h1 h2 h3 h4
 rw [zgj]at h4
 unfold z7d
 rw [zia hp (by omega),zia hp (by omega),zia hp (by omega),zia hp h4]
 by_cases e:y+1=z
 ·subst e
  obtain ⟨k1,k2⟩:=yaa hp h1 h3 h4
  have:zr5 (xI p x) (xI p y) (xI p (y+1)) (xI p w)=false:=by
   rw [Bool.eq_false_iff]
   intro h
   unfold zr5 at h
   simp only[Bool.or_eq_true,qB,decide_eq_true_eq]at h
   rcases h with ⟨⟨q1,q2⟩,q3⟩ | ⟨⟨q1,q2⟩,q3⟩
   ·exact k1 ⟨by omega,by omega,q3⟩
   exact k2 ⟨by omega,by omega,q3⟩
  rw [this,Bool.and_false]
 rw [decide_eq_false e,Bool.false_and]
theorem z5k {l:List Int}:Fine l.length (yfo l)↔Avoid (zcw l) (· < l.length):=by
 constructor
 ·intro h a b c d ha hb hc hd h1 h2 h3 k
  have:=h a b c d h1 h2 h3 hd
  unfold yfo at this
  rw [zub.2 k]at this; cases this
 intro h x y z w h1 h2 h3 h4
 unfold yfo
 rw [Bool.eq_false_iff]
 intro k
 exact h x y z w (by omega) (by omega) (by omega) h4 h1 h2 h3 (zub.1 k)
theorem z9h (hp:zcd p=true):Fine (zf2 p).length (yfo (zf2 p))↔zur p=true:=by
 have hn:=zgj (p:=p)
 have hn1:1≤(rP p).length:=by
  have hsm:=zbo (zde (zee hp))
  obtain ⟨row0,h0,hm0⟩:=zaj hsm.1
  have hw:=zfr (zde (zee hp)) h0
  rw [← zcf h0]at hw
  have:=zlu ze2 (g:=gP p) (i:=0) (j:=0) (nh:=p.length) (nw:=(zag p).length) (n:=(rP p).length) hsm.1 hw
  omega
 rw [z5k]
 have hc:zur p=true↔∃ x,zck (zaf p) ⟨0,0,p.length,(zag p).length⟩=some x:=by
  unfold zur zf1
  rw [zee hp,Bool.true_and,Option.isSome_iff_exists]
 rw [hc,yda hp]
 constructor
 ·intro h
  refine ybm (zf2 p).length 0 (zf2 p).length (by omega) (fun i hi=>⟨Nat.zero_le _,hi⟩) ⟨0,by omega⟩ (fun a b ha hb e=>?_) h
  rw [zia hp (by omega),zia hp (by omega)]at e
  exact ygq hp (by omega) (by omega) e
 exact yeq
end
end
theorem and3 (p q:Bool):p=false∨(p=true∧q=false)∨(p=true∧q=true):=by cases p <;> cases q <;> simp
theorem yjc (p q r:Bool):p=false∨(p=true∧q=false)∨(p=true∧q=true∧r=false)∨(p=true∧q=true∧r=true):=by cases p <;> cases q <;> cases r <;> simp
theorem zz6 (a b c d:Int):PC Tryz.prog 81 [(.agg [.int .i64 a,.int .i64 b,.int .i64 c,.int .i64 d])] (.bool (zr5 a b c d)) true:=by
 refine PC.of ⟨Tryz.func81,by kernel_rfl,rfl,by kernel_rfl⟩ zav mixed (by show 1≤Tryz.f81.ntmps; decide) ?_
 refine W.r fun K hK=>?_
 simp(disch:=omega)only[↓RU,RW,↓reduceIte,qE,reduceCtorEq,iP,↓RS,RG,qA,qM,qL,za6,zaa]
 apply hK;clear hK K
 refine W.seq_draw (by kernel_rfl) fun K hK=>?_
 simp(disch:=omega)only[↓RU,RW,↓reduceIte,qE,reduceCtorEq,iP,zu4,zk3,↓RS,RG,qA,qM,qL,za6,zaa,Int.toNat_zero,Nat.zero_mul,qZ,qM,Nat.zero_add,Nat.mul_one,List.getElem?_cons_zero,List.getElem?_cons_succ]
 apply hK;clear hK K
 refine W.r fun K hK=>?_
 rcases yjc (decide (b>max a d)) (decide (c<min a d)) (decide (a<d)) with g1 | ⟨g1,g2⟩ | ⟨g1,g2,g3⟩ | ⟨g1,g2,g3⟩
 ·skip
  simp(disch:=omega)only[↓RU,RW,↓reduceIte,qE,reduceCtorEq,iP,w64,↓RS,RG,qA,qM,qL,za6,zaa,Int.toNat_zero,Nat.zero_mul,qZ,qM,Nat.zero_add,Nat.mul_one,List.getElem?_cons_zero,List.getElem?_cons_succ,g1]
  apply hK;clear hK K
  refine W.r fun K hK=>?_
  rcases yjc (decide (b<min a d)) (decide (c>max a d)) (decide (a>d)) with f1 | ⟨f1,f2⟩ | ⟨f1,f2,f3⟩ | ⟨f1,f2,f3⟩
  ·skip
   simp(disch:=omega)only[↓RU,RW,↓reduceIte,qE,reduceCtorEq,iP,w64,↓RS,RG,qA,qM,qL,za6,zaa,Int.toNat_zero,Nat.zero_mul,qZ,qM,Nat.zero_add,Nat.mul_one,List.getElem?_cons_zero,List.getElem?_cons_succ,f1]
   apply hK;clear hK K
   refine W.r fun K hK=>?_
   simp(disch:=omega)only[↓RU,RW,↓reduceIte,qE,reduceCtorEq,iP,↓RS,RG,qA,qM,qL,Int.toNat_zero,Nat.zero_mul,qZ,qM,Nat.zero_add,Nat.mul_one,List.getElem?_cons_zero,List.getElem?_cons_succ]
   apply hK;clear hK K
   refine W.ret ?_
   refine Br rfl ?_
   simp only[zr5, *,Bool.and_true,Bool.and_false,Bool.false_and,Bool.true_and,Bool.or_false,Bool.false_or,Bool.true_or]
   rfl
  ·skip
   simp(disch:=omega)only[↓RU,RW,↓reduceIte,qE,reduceCtorEq,iP,w64,↓RS,RG,qA,qM,qL,za6,zaa,Int.toNat_zero,Nat.zero_mul,qZ,qM,Nat.zero_add,Nat.mul_one,List.getElem?_cons_zero,List.getElem?_cons_succ,f1,f2]
   apply hK;clear hK K
   refine W.r fun K hK=>?_
   simp(disch:=omega)only[↓RU,RW,↓reduceIte,qE,reduceCtorEq,iP,↓RS,RG,qA,qM,qL,Int.toNat_zero,Nat.zero_mul,qZ,qM,Nat.zero_add,Nat.mul_one,List.getElem?_cons_zero,List.getElem?_cons_succ]
   apply hK;clear hK K
   refine W.ret ?_
   refine Br rfl ?_
   simp only[zr5, *,Bool.and_true,Bool.and_false,Bool.false_and,Bool.true_and,Bool.or_false,Bool.false_or,Bool.true_or]
   rfl
  ·skip
   simp(disch:=omega)only[↓RU,RW,↓reduceIte,qE,reduceCtorEq,iP,w64,↓RS,RG,qA,qM,qL,za6,zaa,Int.toNat_zero,Nat.zero_mul,qZ,qM,Nat.zero_add,Nat.mul_one,List.getElem?_cons_zero,List.getElem?_cons_succ,f1,f2,f3]
   apply hK;clear hK K
   refine W.r fun K hK=>?_
   simp(disch:=omega)only[↓RU,RW,↓reduceIte,qE,reduceCtorEq,iP,↓RS,RG,qA,qM,qL,Int.toNat_zero,Nat.zero_mul,qZ,qM,Nat.zero_add,Nat.mul_one,List.getElem?_cons_zero,List.getElem?_cons_succ]
   apply hK;clear hK K
   refine W.ret ?_
   refine Br rfl ?_
   simp only[zr5, *,Bool.and_true,Bool.and_false,Bool.false_and,Bool.true_and,Bool.or_false,Bool.false_or,Bool.true_or]
   rfl
  skip
  simp(disch:=omega)only[↓RU,RW,↓reduceIte,qE,reduceCtorEq,iP,w64,↓RS,RG,qA,qM,qL,za6,zaa,Int.toNat_zero,Nat.zero_mul,qZ,qM,Nat.zero_add,Nat.mul_one,List.getElem?_cons_zero,List.getElem?_cons_succ,f1,f2,f3]
  apply hK;clear hK K
  refine W.r fun K hK=>?_
  simp(disch:=omega)only[↓RU,RW,↓reduceIte,qE,reduceCtorEq,iP,↓RS,RG,qA,qM,qL,Int.toNat_zero,Nat.zero_mul,qZ,qM,Nat.zero_add,Nat.mul_one,List.getElem?_cons_zero,List.getElem?_cons_succ]
  apply hK;clear hK K
  refine W.ret ?_
  refine Br rfl ?_
  simp only[zr5, *,Bool.and_true,Bool.and_false,Bool.false_and,Bool.true_and,Bool.or_false,Bool.false_or,Bool.true_or]
  rfl
 ·skip
  simp(disch:=omega)only[↓RU,RW,↓reduceIte,qE,reduceCtorEq,iP,w64,↓RS,RG,qA,qM,qL,za6,zaa,Int.toNat_zero,Nat.zero_mul,qZ,qM,Nat.zero_add,Nat.mul_one,List.getElem?_cons_zero,List.getElem?_cons_succ,g1,g2]
  apply hK;clear hK K
  refine W.r fun K hK=>?_
  rcases yjc (decide (b<min a d)) (decide (c>max a d)) (decide (a>d)) with f1 | ⟨f1,f2⟩ | ⟨f1,f2,f3⟩ | ⟨f1,f2,f3⟩
  ·skip
   simp(disch:=omega)only[↓RU,RW,↓reduceIte,qE,reduceCtorEq,iP,w64,↓RS,RG,qA,qM,qL,za6,zaa,Int.toNat_zero,Nat.zero_mul,qZ,qM,Nat.zero_add,Nat.mul_one,List.getElem?_cons_zero,List.getElem?_cons_succ,f1]
   apply hK;clear hK K
   refine W.r fun K hK=>?_
   simp(disch:=omega)only[↓RU,RW,↓reduceIte,qE,reduceCtorEq,iP,↓RS,RG,qA,qM,qL,Int.toNat_zero,Nat.zero_mul,qZ,qM,Nat.zero_add,Nat.mul_one,List.getElem?_cons_zero,List.getElem?_cons_succ]
   apply hK;clear hK K
   refine W.ret ?_
   refine Br rfl ?_
   simp only[zr5, *,Bool.and_true,Bool.and_false,Bool.false_and,Bool.true_and,Bool.or_false,Bool.false_or,Bool.true_or]
   rfl
  ·skip
   simp(disch:=omega)only[↓RU,RW,↓reduceIte,qE,reduceCtorEq,iP,w64,↓RS,RG,qA,qM,qL,za6,zaa,Int.toNat_zero,Nat.zero_mul,qZ,qM,Nat.zero_add,Nat.mul_one,List.getElem?_cons_zero,List.getElem?_cons_succ,f1,f2]
   apply hK;clear hK K
   refine W.r fun K hK=>?_
   simp(disch:=omega)only[↓RU,RW,↓reduceIte,qE,reduceCtorEq,iP,↓RS,RG,qA,qM,qL,Int.toNat_zero,Nat.zero_mul,qZ,qM,Nat.zero_add,Nat.mul_one,List.getElem?_cons_zero,List.getElem?_cons_succ]
   apply hK;clear hK K
   refine W.ret ?_
   refine Br rfl ?_
   simp only[zr5, *,Bool.and_true,Bool.and_false,Bool.false_and,Bool.true_and,Bool.or_false,Bool.false_or,Bool.true_or]
   rfl
  ·skip
   simp(disch:=omega)only[↓RU,RW,↓reduceIte,qE,reduceCtorEq,iP,w64,↓RS,RG,qA,qM,qL,za6,zaa,Int.toNat_zero,Nat.zero_mul,qZ,qM,Nat.zero_add,Nat.mul_one,List.getElem?_cons_zero,List.getElem?_cons_succ,f1,f2,f3]
   apply hK;clear hK K
   refine W.r fun K hK=>?_
   simp(disch:=omega)only[↓RU,RW,↓reduceIte,qE,reduceCtorEq,iP,↓RS,RG,qA,qM,qL,Int.toNat_zero,Nat.zero_mul,qZ,qM,Nat.zero_add,Nat.mul_one,List.getElem?_cons_zero,List.getElem?_cons_succ]
   apply hK;clear hK K
   refine W.ret ?_
   refine Br rfl ?_
   simp only[zr5, *,Bool.and_true,Bool.and_false,Bool.false_and,Bool.true_and,Bool.or_false,Bool.false_or,Bool.true_or]
   rfl
  skip
  simp(disch:=omega)only[↓RU,RW,↓reduceIte,qE,reduceCtorEq,iP,w64,↓RS,RG,qA,qM,qL,za6,zaa,Int.toNat_zero,Nat.zero_mul,qZ,qM,Nat.zero_add,Nat.mul_one,List.getElem?_cons_zero,List.getElem?_cons_succ,f1,f2,f3]
  apply hK;clear hK K
  refine W.r fun K hK=>?_
  simp(disch:=omega)only[↓RU,RW,↓reduceIte,qE,reduceCtorEq,iP,↓RS,RG,qA,qM,qL,Int.toNat_zero,Nat.zero_mul,qZ,qM,Nat.zero_add,Nat.mul_one,List.getElem?_cons_zero,List.getElem?_cons_succ]
  apply hK;clear hK K
  refine W.ret ?_
  refine Br rfl ?_
  simp only[zr5, *,Bool.and_true,Bool.and_false,Bool.false_and,Bool.true_and,Bool.or_false,Bool.false_or,Bool.true_or]
  rfl
 ·skip
  simp(disch:=omega)only[↓RU,RW,↓reduceIte,qE,reduceCtorEq,iP,w64,↓RS,RG,qA,qM,qL,za6,zaa,Int.toNat_zero,Nat.zero_mul,qZ,qM,Nat.zero_add,Nat.mul_one,List.getElem?_cons_zero,List.getElem?_cons_succ,g1,g2,g3]
  apply hK;clear hK K
  refine W.r fun K hK=>?_
  rcases yjc (decide (b<min a d)) (decide (c>max a d)) (decide (a>d)) with f1 | ⟨f1,f2⟩ | ⟨f1,f2,f3⟩ | ⟨f1,f2,f3⟩
  ·skip
   simp(disch:=omega)only[↓RU,RW,↓reduceIte,qE,reduceCtorEq,iP,w64,↓RS,RG,qA,qM,qL,za6,zaa,Int.toNat_zero,Nat.zero_mul,qZ,qM,Nat.zero_add,Nat.mul_one,List.getElem?_cons_zero,List.getElem?_cons_succ,f1]
   apply hK;clear hK K
   refine W.r fun K hK=>?_
   simp(disch:=omega)only[↓RU,RW,↓reduceIte,qE,reduceCtorEq,iP,↓RS,RG,qA,qM,qL,Int.toNat_zero,Nat.zero_mul,qZ,qM,Nat.zero_add,Nat.mul_one,List.getElem?_cons_zero,List.getElem?_cons_succ]
   apply hK;clear hK K
   refine W.ret ?_
   refine Br rfl ?_
   simp only[zr5, *,Bool.and_true,Bool.and_false,Bool.false_and,Bool.true_and,Bool.or_false,Bool.false_or,Bool.true_or]
   rfl
  ·skip
   simp(disch:=omega)only[↓RU,RW,↓reduceIte,qE,reduceCtorEq,iP,w64,↓RS,RG,qA,qM,qL,za6,zaa,Int.toNat_zero,Nat.zero_mul,qZ,qM,Nat.zero_add,Nat.mul_one,List.getElem?_cons_zero,List.getElem?_cons_succ,f1,f2]
   apply hK;clear hK K
   refine W.r fun K hK=>?_
   simp(disch:=omega)only[↓RU,RW,↓reduceIte,qE,reduceCtorEq,iP,↓RS,RG,qA,qM,qL,Int.toNat_zero,Nat.zero_mul,qZ,qM,Nat.zero_add,Nat.mul_one,List.getElem?_cons_zero,List.getElem?_cons_succ]
   apply hK;clear hK K
   refine W.ret ?_
   refine Br rfl ?_
   simp only[zr5, *,Bool.and_true,Bool.and_false,Bool.false_and,Bool.true_and,Bool.or_false,Bool.false_or,Bool.true_or]
   rfl
  ·skip
   simp(disch:=omega)only[↓RU,RW,↓reduceIte,qE,reduceCtorEq,iP,w64,↓RS,RG,qA,qM,qL,za6,zaa,Int.toNat_zero,Nat.zero_mul,qZ,qM,Nat.zero_add,Nat.mul_one,List.getElem?_cons_zero,List.getElem?_cons_succ,f1,f2,f3]
   apply hK;clear hK K
   refine W.r fun K hK=>?_
   simp(disch:=omega)only[↓RU,RW,↓reduceIte,qE,reduceCtorEq,iP,↓RS,RG,qA,qM,qL,Int.toNat_zero,Nat.zero_mul,qZ,qM,Nat.zero_add,Nat.mul_one,List.getElem?_cons_zero,List.getElem?_cons_succ]
   apply hK;clear hK K
   refine W.ret ?_
   refine Br rfl ?_
   simp only[zr5, *,Bool.and_true,Bool.and_false,Bool.false_and,Bool.true_and,Bool.or_false,Bool.false_or,Bool.true_or]
   rfl
  skip
  simp(disch:=omega)only[↓RU,RW,↓reduceIte,qE,reduceCtorEq,iP,w64,↓RS,RG,qA,qM,qL,za6,zaa,Int.toNat_zero,Nat.zero_mul,qZ,qM,Nat.zero_add,Nat.mul_one,List.getElem?_cons_zero,List.getElem?_cons_succ,f1,f2,f3]
  apply hK;clear hK K
  refine W.r fun K hK=>?_
  simp(disch:=omega)only[↓RU,RW,↓reduceIte,qE,reduceCtorEq,iP,↓RS,RG,qA,qM,qL,Int.toNat_zero,Nat.zero_mul,qZ,qM,Nat.zero_add,Nat.mul_one,List.getElem?_cons_zero,List.getElem?_cons_succ]
  apply hK;clear hK K
  refine W.ret ?_
  refine Br rfl ?_
  simp only[zr5, *,Bool.and_true,Bool.and_false,Bool.false_and,Bool.true_and,Bool.or_false,Bool.false_or,Bool.true_or]
  rfl
 skip
 simp(disch:=omega)only[↓RU,RW,↓reduceIte,qE,reduceCtorEq,iP,w64,↓RS,RG,qA,qM,qL,za6,zaa,Int.toNat_zero,Nat.zero_mul,qZ,qM,Nat.zero_add,Nat.mul_one,List.getElem?_cons_zero,List.getElem?_cons_succ,g1,g2,g3]
 apply hK;clear hK K
 refine W.r fun K hK=>?_
 rcases yjc (decide (b<min a d)) (decide (c>max a d)) (decide (a>d)) with f1 | ⟨f1,f2⟩ | ⟨f1,f2,f3⟩ | ⟨f1,f2,f3⟩
 ·skip
  simp(disch:=omega)only[↓RU,RW,↓reduceIte,qE,reduceCtorEq,iP,w64,↓RS,RG,qA,qM,qL,za6,zaa,Int.toNat_zero,Nat.zero_mul,qZ,qM,Nat.zero_add,Nat.mul_one,List.getElem?_cons_zero,List.getElem?_cons_succ,f1]
  apply hK;clear hK K
  refine W.r fun K hK=>?_
  simp(disch:=omega)only[↓RU,RW,↓reduceIte,qE,reduceCtorEq,iP,↓RS,RG,qA,qM,qL,Int.toNat_zero,Nat.zero_mul,qZ,qM,Nat.zero_add,Nat.mul_one,List.getElem?_cons_zero,List.getElem?_cons_succ]
  apply hK;clear hK K
  refine W.ret ?_
  refine Br rfl ?_
  simp only[zr5, *,Bool.and_true,Bool.and_false,Bool.false_and,Bool.true_and,Bool.or_false,Bool.false_or,Bool.true_or]
  rfl
 ·skip
  simp(disch:=omega)only[↓RU,RW,↓reduceIte,qE,reduceCtorEq,iP,w64,↓RS,RG,qA,qM,qL,za6,zaa,Int.toNat_zero,Nat.zero_mul,qZ,qM,Nat.zero_add,Nat.mul_one,List.getElem?_cons_zero,List.getElem?_cons_succ,f1,f2]
  apply hK;clear hK K
  refine W.r fun K hK=>?_
  simp(disch:=omega)only[↓RU,RW,↓reduceIte,qE,reduceCtorEq,iP,↓RS,RG,qA,qM,qL,Int.toNat_zero,Nat.zero_mul,qZ,qM,Nat.zero_add,Nat.mul_one,List.getElem?_cons_zero,List.getElem?_cons_succ]
  apply hK;clear hK K
  refine W.ret ?_
  refine Br rfl ?_
  simp only[zr5, *,Bool.and_true,Bool.and_false,Bool.false_and,Bool.true_and,Bool.or_false,Bool.false_or,Bool.true_or]
  rfl
 ·skip
  simp(disch:=omega)only[↓RU,RW,↓reduceIte,qE,reduceCtorEq,iP,w64,↓RS,RG,qA,qM,qL,za6,zaa,Int.toNat_zero,Nat.zero_mul,qZ,qM,Nat.zero_add,Nat.mul_one,List.getElem?_cons_zero,List.getElem?_cons_succ,f1,f2,f3]
  apply hK;clear hK K
  refine W.r fun K hK=>?_
  simp(disch:=omega)only[↓RU,RW,↓reduceIte,qE,reduceCtorEq,iP,↓RS,RG,qA,qM,qL,Int.toNat_zero,Nat.zero_mul,qZ,qM,Nat.zero_add,Nat.mul_one,List.getElem?_cons_zero,List.getElem?_cons_succ]
  apply hK;clear hK K
  refine W.ret ?_
  refine Br rfl ?_
  simp only[zr5, *,Bool.and_true,Bool.and_false,Bool.false_and,Bool.true_and,Bool.or_false,Bool.false_or,Bool.true_or]
  rfl
 skip
 simp(disch:=omega)only[↓RU,RW,↓reduceIte,qE,reduceCtorEq,iP,w64,↓RS,RG,qA,qM,qL,za6,zaa,Int.toNat_zero,Nat.zero_mul,qZ,qM,Nat.zero_add,Nat.mul_one,List.getElem?_cons_zero,List.getElem?_cons_succ,f1,f2,f3]
 apply hK;clear hK K
 refine W.r fun K hK=>?_
 simp(disch:=omega)only[↓RU,RW,↓reduceIte,qE,reduceCtorEq,iP,↓RS,RG,qA,qM,qL,Int.toNat_zero,Nat.zero_mul,qZ,qM,Nat.zero_add,Nat.mul_one,List.getElem?_cons_zero,List.getElem?_cons_succ]
 apply hK;clear hK K
 refine W.ret ?_
 refine Br rfl ?_
 simp only[zr5, *,Bool.and_true,Bool.and_false,Bool.false_and,Bool.true_and,Bool.or_false,Bool.false_or,Bool.true_or]
 rfl
theorem z4z (a b c d:Int):PC Tryz.prog 82 [(.agg [.int .i64 a,.int .i64 b,.int .i64 c,.int .i64 d])] (.bool (zf4 a b c d)) true:=by
 refine PC.of ⟨Tryz.func82,by kernel_rfl,rfl,by kernel_rfl⟩ zav mixed (by show 1≤Tryz.f82.ntmps; decide) ?_
 refine W.r fun K hK=>?_
 simp(disch:=omega)only[↓RU,RW,↓reduceIte,qE,reduceCtorEq,iP,↓RS,RG,qA,qM,qL,za6,zaa]
 apply hK;clear hK K
 refine W.r fun K hK=>?_
 rcases yjc (decide (c<a)) (decide (a<d)) (decide (d<b)) with g1 | ⟨g1,g2⟩ | ⟨g1,g2,g3⟩ | ⟨g1,g2,g3⟩ <;> rcases and3 (decide (b<d)) (decide (d<a)) with f1 | ⟨f1,f2⟩ | ⟨f1,f2⟩
 ·skip
  simp(disch:=omega)only[↓RU,RW,↓reduceIte,qE,reduceCtorEq,iP,w64,↓RS,RG,qA,qM,qL,za6,zaa,Int.toNat_zero,Nat.zero_mul,qZ,qM,Nat.zero_add,Nat.mul_one,List.getElem?_cons_zero,List.getElem?_cons_succ,g1,f1]
  apply hK;clear hK K
  refine W.ret ?_
  refine Br rfl ?_
  simp only[zf4, *,Bool.and_true,Bool.and_false,Bool.false_and,Bool.true_and,Bool.or_false,Bool.false_or,Bool.true_or]
  rfl
 ·skip
  simp(disch:=omega)only[↓RU,RW,↓reduceIte,qE,reduceCtorEq,iP,w64,↓RS,RG,qA,qM,qL,za6,zaa,Int.toNat_zero,Nat.zero_mul,qZ,qM,Nat.zero_add,Nat.mul_one,List.getElem?_cons_zero,List.getElem?_cons_succ,g1,f1,f2]
  apply hK;clear hK K
  refine W.ret ?_
  refine Br rfl ?_
  simp only[zf4, *,Bool.and_true,Bool.and_false,Bool.false_and,Bool.true_and,Bool.or_false,Bool.false_or,Bool.true_or]
  rfl
 ·skip
  simp(disch:=omega)only[↓RU,RW,↓reduceIte,qE,reduceCtorEq,iP,w64,↓RS,RG,qA,qM,qL,za6,zaa,Int.toNat_zero,Nat.zero_mul,qZ,qM,Nat.zero_add,Nat.mul_one,List.getElem?_cons_zero,List.getElem?_cons_succ,g1,f1,f2]
  apply hK;clear hK K
  refine W.ret ?_
  refine Br rfl ?_
  simp only[zf4, *,Bool.and_true,Bool.and_false,Bool.false_and,Bool.true_and,Bool.or_false,Bool.false_or,Bool.true_or]
  rfl
 ·skip
  simp(disch:=omega)only[↓RU,RW,↓reduceIte,qE,reduceCtorEq,iP,w64,↓RS,RG,qA,qM,qL,za6,zaa,Int.toNat_zero,Nat.zero_mul,qZ,qM,Nat.zero_add,Nat.mul_one,List.getElem?_cons_zero,List.getElem?_cons_succ,g1,g2,f1]
  apply hK;clear hK K
  refine W.ret ?_
  refine Br rfl ?_
  simp only[zf4, *,Bool.and_true,Bool.and_false,Bool.false_and,Bool.true_and,Bool.or_false,Bool.false_or,Bool.true_or]
  rfl
 ·skip
  simp(disch:=omega)only[↓RU,RW,↓reduceIte,qE,reduceCtorEq,iP,w64,↓RS,RG,qA,qM,qL,za6,zaa,Int.toNat_zero,Nat.zero_mul,qZ,qM,Nat.zero_add,Nat.mul_one,List.getElem?_cons_zero,List.getElem?_cons_succ,g1,g2,f1,f2]
  apply hK;clear hK K
  refine W.ret ?_
  refine Br rfl ?_
  simp only[zf4, *,Bool.and_true,Bool.and_false,Bool.false_and,Bool.true_and,Bool.or_false,Bool.false_or,Bool.true_or]
  rfl
 ·skip
  simp(disch:=omega)only[↓RU,RW,↓reduceIte,qE,reduceCtorEq,iP,w64,↓RS,RG,qA,qM,qL,za6,zaa,Int.toNat_zero,Nat.zero_mul,qZ,qM,Nat.zero_add,Nat.mul_one,List.getElem?_cons_zero,List.getElem?_cons_succ,g1,g2,f1,f2]
  apply hK;clear hK K
  refine W.ret ?_
  refine Br rfl ?_
  simp only[zf4, *,Bool.and_true,Bool.and_false,Bool.false_and,Bool.true_and,Bool.or_false,Bool.false_or,Bool.true_or]
  rfl
 ·skip
  simp(disch:=omega)only[↓RU,RW,↓reduceIte,qE,reduceCtorEq,iP,w64,↓RS,RG,qA,qM,qL,za6,zaa,Int.toNat_zero,Nat.zero_mul,qZ,qM,Nat.zero_add,Nat.mul_one,List.getElem?_cons_zero,List.getElem?_cons_succ,g1,g2,g3,f1]
  apply hK;clear hK K
  refine W.ret ?_
  refine Br rfl ?_
  simp only[zf4, *,Bool.and_true,Bool.and_false,Bool.false_and,Bool.true_and,Bool.or_false,Bool.false_or,Bool.true_or]
  rfl
 ·skip
  simp(disch:=omega)only[↓RU,RW,↓reduceIte,qE,reduceCtorEq,iP,w64,↓RS,RG,qA,qM,qL,za6,zaa,Int.toNat_zero,Nat.zero_mul,qZ,qM,Nat.zero_add,Nat.mul_one,List.getElem?_cons_zero,List.getElem?_cons_succ,g1,g2,g3,f1,f2]
  apply hK;clear hK K
  refine W.ret ?_
  refine Br rfl ?_
  simp only[zf4, *,Bool.and_true,Bool.and_false,Bool.false_and,Bool.true_and,Bool.or_false,Bool.false_or,Bool.true_or]
  rfl
 ·skip
  simp(disch:=omega)only[↓RU,RW,↓reduceIte,qE,reduceCtorEq,iP,w64,↓RS,RG,qA,qM,qL,za6,zaa,Int.toNat_zero,Nat.zero_mul,qZ,qM,Nat.zero_add,Nat.mul_one,List.getElem?_cons_zero,List.getElem?_cons_succ,g1,g2,g3,f1,f2]
  apply hK;clear hK K
  refine W.ret ?_
  refine Br rfl ?_
  simp only[zf4, *,Bool.and_true,Bool.and_false,Bool.false_and,Bool.true_and,Bool.or_false,Bool.false_or,Bool.true_or]
  rfl
 ·skip
  simp(disch:=omega)only[↓RU,RW,↓reduceIte,qE,reduceCtorEq,iP,w64,↓RS,RG,qA,qM,qL,za6,zaa,Int.toNat_zero,Nat.zero_mul,qZ,qM,Nat.zero_add,Nat.mul_one,List.getElem?_cons_zero,List.getElem?_cons_succ,g1,g2,g3,f1]
  apply hK;clear hK K
  refine W.ret ?_
  refine Br rfl ?_
  simp only[zf4, *,Bool.and_true,Bool.and_false,Bool.false_and,Bool.true_and,Bool.or_false,Bool.false_or,Bool.true_or]
  rfl
 ·skip
  simp(disch:=omega)only[↓RU,RW,↓reduceIte,qE,reduceCtorEq,iP,w64,↓RS,RG,qA,qM,qL,za6,zaa,Int.toNat_zero,Nat.zero_mul,qZ,qM,Nat.zero_add,Nat.mul_one,List.getElem?_cons_zero,List.getElem?_cons_succ,g1,g2,g3,f1,f2]
  apply hK;clear hK K
  refine W.ret ?_
  refine Br rfl ?_
  simp only[zf4, *,Bool.and_true,Bool.and_false,Bool.false_and,Bool.true_and,Bool.or_false,Bool.false_or,Bool.true_or]
  rfl
 skip
 simp(disch:=omega)only[↓RU,RW,↓reduceIte,qE,reduceCtorEq,iP,w64,↓RS,RG,qA,qM,qL,za6,zaa,Int.toNat_zero,Nat.zero_mul,qZ,qM,Nat.zero_add,Nat.mul_one,List.getElem?_cons_zero,List.getElem?_cons_succ,g1,g2,g3,f1,f2]
 apply hK;clear hK K
 refine W.ret ?_
 refine Br rfl ?_
 simp only[zf4, *,Bool.and_true,Bool.and_false,Bool.false_and,Bool.true_and,Bool.or_false,Bool.false_or,Bool.true_or]
 rfl
theorem z28 (l:List Int):PC Tryz.prog 80 [eInts l] (.fn 107 [.ip [eInts l] 0]) false:=by
 refine PC.of ⟨Tryz.func80,by kernel_rfl,rfl,by kernel_rfl⟩ zav mixed (by show 1≤Tryz.f80.ntmps; decide) ?_
 refine W.r fun K hK=>?_
 simp(disch:=omega)only[↓RU,RW,↓reduceIte,qE,reduceCtorEq,iP,↓RS,RG,qA,qM,qL,zab,zaa]
 apply hK;clear hK K
 refine W.r fun K hK=>?_
 simp(disch:=omega)only[↓RU,RW,↓reduceIte,qE,reduceCtorEq,iP,↓RS,RG,qA,qM,qL]
 apply hK;clear hK K
 refine W.ret ?_
 refine Br rfl ?_
 rfl
theorem zxp {l:List Int} (hl:l.length≤1000) (bad:Nat→Nat→Nat→Nat→Bool) (lb:Nat) (oa ob oa2 ob2:Ob) (tk:Nat) (hy:∀ x y z u:Nat,x<y→y<z→z<u→u<l.length→∀ t2,tk≤t2→Ey Tryz.prog lb [.agg [.int .i64 x,.int .i64 y,.int .i64 z,.int .i64 u],.agg [.int .i64 (zcw l x),.int .i64 (zcw l y),.int .i64 (zcw l z),.int .i64 (zcw l u)]] ⟨[oa,ob],t2⟩ fun v S=>v = .bool (!bad x y z u)∧∃ t3,t2≤t3∧S=if bad x y z u then ⟨[oa2,ob2],t3⟩ else ⟨[oa,ob],t3⟩):Ev Tryz.prog 107 [.yl lb,.ip [eInts l] 0] ⟨[oa,ob],tk⟩ fun v S=>(∃ t2,Fine l.length bad∧S=⟨[oa,ob],t2⟩)∨∃ t2,¬ Fine l.length bad∧S=⟨[oa2,ob2],t2⟩:=by
 refine Ev.of ⟨Tryz.func107,by kernel_rfl,rfl,by kernel_rfl⟩ zav mixed (by show 2≤Tryz.f107.ntmps; decide) ?_
 refine W.r fun K hK=>?_
 simp(disch:=omega)only[↓RU,RW,↓reduceIte,qE,reduceCtorEq,iP,↓RS,RG,qA,qM,qL,zab,zaa]
 apply hK;clear hK K
 refine W.block ?_
 refine W.loop [0,1,8,9] (fun n vs S=>∃ x t0:Nat,n=l.length - x∧x≤l.length∧(∀ x2 y z u,x2<y→y<z→z<u→u<l.length→x2<x→bad x2 y z u=false)∧tk≤t0∧vs=[.yl lb,.ip [eInts l] 0,.int .i64 l.length,.int .i64 x]∧S=⟨[oa,ob],t0⟩) l.length ?_ ?_
 ·refine ⟨2,0,tk,rfl,Nat.zero_le _,?_,qR _,?_,rfl⟩
  ·intros; omega
  simp [Env.put,Env.of,zai]
 rintro n vs S - ⟨x,t0,rfl,h_x,F0,ht0,rfl,rfl⟩
 refine W.r fun K hK=>?_
 simp(disch:=omega)only[↓RU,RW,↓reduceIte,qE,reduceCtorEq,iP,w64,↓RS,RG,qA,qM,qL,zaa]
 apply hK;clear hK K
 refine W.seq ?_
 refine W.cond rfl (fun h0=>?_) (fun h0=>?_)
 ·try simp only[RL]at h0
  obtain ⟨vx,hvx,-⟩:=zaj (show x<l.length by omega)
  refine W.skip ?_
  refine xn ?_
  refine W.seq ?_
  refine W.block ?_
  refine W.r fun K hK=>?_
  simp(disch:=omega)only[↓RU,RW,↓reduceIte,qE,reduceCtorEq,iP,↓RS,RG,qA,qM,qL]
  apply hK;clear hK K
  refine W.r fun K hK=>?_
  simp(disch:=omega)only[↓RU,RW,↓reduceIte,qE,reduceCtorEq,iP,w64,↓RS,RG,qA,qM,qL,zaa]
  apply hK;clear hK K
  refine W.block ?_
  refine W.loop [0,1,8,9,3,4] (fun n vs S=>∃ y t1:Nat,n=l.length - y∧(x+1)≤y∧y≤l.length∧(∀ y2 z u,x<y2→y2<z→z<u→u<l.length→y2<y→bad x y2 z u=false)∧tk≤t1∧vs=[.yl lb,.ip [eInts l] 0,.int .i64 l.length,.int .i64 x,.int .i64 x,.int .i64 y]∧S=⟨[oa,ob],t1⟩) (l.length - (x+1)) ?_ ?_
  ·refine ⟨2,(x+1),t0,rfl,qR _,by omega,?_,ht0,?_,rfl⟩
   ·intros; omega
   simp [Env.put,Env.of,zai]
  rintro n vs S - ⟨y,t1,rfl,h_ly,h_y,F1,ht1,rfl,rfl⟩
  refine W.seq ?_
  refine W.r fun K hK=>?_
  simp(disch:=omega)only[↓RU,RW,↓reduceIte,qE,reduceCtorEq,iP,w64,↓RS,RG,qA,qM,qL,zab,zaa]
  apply hK;clear hK K
  refine W.cond rfl (fun h1=>?_) (fun h1=>?_)
  ·try simp only[RL]at h1
   obtain ⟨vy,hvy,-⟩:=zaj (show y<l.length by omega)
   refine W.skip ?_
   refine xn ?_
   refine W.seq ?_
   refine W.block ?_
   refine W.r fun K hK=>?_
   simp(disch:=omega)only[↓RU,RW,↓reduceIte,qE,reduceCtorEq,iP,w64,↓RS,RG,qA,qM,qL,zaa]
   apply hK;clear hK K
   refine W.block ?_
   refine W.loop [0,1,8,9,3,4,5] (fun n vs S=>∃ z t2:Nat,n=l.length - z∧(y+1)≤z∧z≤l.length∧(∀ z2 u,y<z2→z2<u→u<l.length→z2<z→bad x y z2 u=false)∧tk≤t2∧vs=[.yl lb,.ip [eInts l] 0,.int .i64 l.length,.int .i64 x,.int .i64 x,.int .i64 y,.int .i64 z]∧S=⟨[oa,ob],t2⟩) (l.length - (y+1)) ?_ ?_
   ·refine ⟨2,(y+1),t1,rfl,qR _,by omega,?_,ht1,?_,rfl⟩
    ·intros; omega
    simp [Env.put,Env.of,zai]
   rintro n vs S - ⟨z,t2,rfl,h_lz,h_z,F2,ht2,rfl,rfl⟩
   refine W.seq ?_
   refine W.r fun K hK=>?_
   simp(disch:=omega)only[↓RU,RW,↓reduceIte,qE,reduceCtorEq,iP,w64,↓RS,RG,qA,qM,qL,zab,zaa]
   apply hK;clear hK K
   refine W.cond rfl (fun h2=>?_) (fun h2=>?_)
   ·try simp only[RL]at h2
    obtain ⟨vz,hvz,-⟩:=zaj (show z<l.length by omega)
    refine W.skip ?_
    refine xn ?_
    refine W.seq ?_
    refine W.block ?_
    refine W.r fun K hK=>?_
    simp(disch:=omega)only[↓RU,RW,↓reduceIte,qE,reduceCtorEq,iP,w64,↓RS,RG,qA,qM,qL,zaa]
    apply hK;clear hK K
    refine W.block ?_
    refine W.loop [0,1,8,9,3,4,5,6] (fun n vs S=>∃ u t3:Nat,n=l.length - u∧(z+1)≤u∧u≤l.length∧(∀ u2,z<u2→u2<l.length→u2<u→bad x y z u2=false)∧tk≤t3∧vs=[.yl lb,.ip [eInts l] 0,.int .i64 l.length,.int .i64 x,.int .i64 x,.int .i64 y,.int .i64 z,.int .i64 u]∧S=⟨[oa,ob],t3⟩) (l.length - (z+1)) ?_ ?_
    ·refine ⟨2,(z+1),t2,rfl,qR _,by omega,?_,ht2,?_,rfl⟩
     ·intros; omega
     simp [Env.put,Env.of,zai]
    rintro n vs S - ⟨u,t3,rfl,h_lu,h_u,F3,ht3,rfl,rfl⟩
    refine W.seq ?_
    refine W.r fun K hK=>?_
    simp(disch:=omega)only[↓RU,RW,↓reduceIte,qE,reduceCtorEq,iP,w64,↓RS,RG,qA,qM,qL,zab,zaa]
    apply hK;clear hK K
    refine W.cond rfl (fun h3=>?_) (fun h3=>?_)
    ·try simp only[RL]at h3
     obtain ⟨vu,hvu,-⟩:=zaj (show u<l.length by omega)
     refine W.skip ?_
     refine xn ?_
     refine W.seq ?_
     refine W.block ?_
     refine W.seq_drawE (by kernel_rfl) fun K hK=>?_
     cases hb:bad x y z u
     ·skip
      have hyy:=hy x y z u (by omega) (by omega) (by omega) (by omega) t3 ht3
      rw [zf5 hvx,zf5 hvy,zf5 hvz,zf5 hvu]at hyy
      simp only[hb,Bool.not_false,qF,if_false]at hyy
      simp(disch:=omega)only[↓RU,RW,↓reduceIte,qE,reduceCtorEq,iP,qN,↓RS,RG,qA,qM,qL,za6,zab,zaa,hvx,hvy,hvz,hvu]
      refine zui.ey (hyy) ?_
      rintro _ _ ⟨rfl,t4,ht4,rfl⟩
      simp(disch:=omega)only[↓RU,RW,↓reduceIte,qE,reduceCtorEq,iP,qN,↓RS,RG,qA,qM,qL,za6,zab,zaa,hvx,hvy,hvz,hvu]
      apply hK;clear hK K
      refine W.cond rfl (fun h4=>?_) (fun h4=>?_)
      ·try simp only[RL]at h4
       exact absurd h4 (by simp)
      try simp only[RL]at h4
      refine W.skip ?_
      refine XbN ?_
      refine xn ?_
      refine W.k fun K hK=>?_
      simp(disch:=omega)only[↓RU,RW,↓reduceIte,qE,reduceCtorEq,iP,w64,↓RS,RG,qA,qM,qL,zaa]
      apply hK;clear hK K
      refine xn ?_
      refine ⟨l.length - (u+1),by omega,2,u+1,t4,rfl,by omega,by omega,?_,by omega,?_,rfl⟩
      ·intro u2 k1 k2 hlt
       rcases Nat.lt_succ_iff_lt_or_eq.1 hlt with hlt | rfl
       ·exact F3 u2 k1 k2 hlt
       exact hb
      simp [Env.put,Env.of]
     skip
     have hyy:=hy x y z u (by omega) (by omega) (by omega) (by omega) t3 ht3
     rw [zf5 hvx,zf5 hvy,zf5 hvz,zf5 hvu]at hyy
     simp only[hb,Bool.not_true,if_true]at hyy
     simp(disch:=omega)only[↓RU,RW,↓reduceIte,qE,reduceCtorEq,iP,qN,↓RS,RG,qA,qM,qL,za6,zab,zaa,hvx,hvy,hvz,hvu]
     refine zui.ey (hyy) ?_
     rintro _ _ ⟨rfl,t4,ht4,rfl⟩
     simp(disch:=omega)only[↓RU,RW,↓reduceIte,qE,reduceCtorEq,iP,qN,↓RS,RG,qA,qM,qL,za6,zab,zaa,hvx,hvy,hvz,hvu]
     apply hK;clear hK K
     refine W.cond rfl (fun h4=>?_) (fun h4=>?_)
     ·try simp only[RL]at h4
      refine W.ret ?_
      refine XBlock.ret ?_
      refine XThen.ret ?_
      refine XThen.ret ?_
      refine XBlock.ret ?_
      refine XBlock.ret ?_
      refine XThen.ret ?_
      refine XThen.ret ?_
      refine XBlock.ret ?_
      refine XBlock.ret ?_
      refine XThen.ret ?_
      refine XThen.ret ?_
      refine XBlock.ret ?_
      refine XBlock.ret ?_
      refine XThen.ret ?_
      refine XThen.ret ?_
      refine XBlock.ret ?_
      refine Br rfl ?_
      exact ⟨2,.inr ⟨_,(fun hf=>by have:=hf x y z u (by omega) (by omega) (by omega) (by omega); rw [hb]at this; cases this),rfl⟩⟩
     try simp only[RL]at h4
     exact absurd h4 (by simp)
    try simp only[RL]at h3
    obtain rfl:u=l.length:=by omega
    refine W.exit ?_
    refine xe ?_
    refine xe ?_
    refine XBlock.hit ?_
    refine XbN ?_
    refine xn ?_
    refine W.k fun K hK=>?_
    simp(disch:=omega)only[↓RU,RW,↓reduceIte,qE,reduceCtorEq,iP,w64,↓RS,RG,qA,qM,qL,zaa]
    apply hK;clear hK K
    refine xn ?_
    refine ⟨l.length - (z+1),by omega,2,z+1,t3,rfl,by omega,by omega,?_,ht3,?_,rfl⟩
    ·intro z2 u k1 k2 k3 hlt
     rcases Nat.lt_succ_iff_lt_or_eq.1 hlt with hlt | rfl
     ·exact F2 z2 u k1 k2 k3 hlt
     exact F3 u k2 k3 (by omega)
    simp [Env.put,Env.of]
   try simp only[RL]at h2
   obtain rfl:z=l.length:=by omega
   refine W.exit ?_
   refine xe ?_
   refine xe ?_
   refine XBlock.hit ?_
   refine XbN ?_
   refine xn ?_
   refine W.k fun K hK=>?_
   simp(disch:=omega)only[↓RU,RW,↓reduceIte,qE,reduceCtorEq,iP,w64,↓RS,RG,qA,qM,qL,zaa]
   apply hK;clear hK K
   refine xn ?_
   refine ⟨l.length - (y+1),by omega,2,y+1,t2,rfl,by omega,by omega,?_,ht2,?_,rfl⟩
   ·intro y2 z u k1 k2 k3 k4 hlt
    rcases Nat.lt_succ_iff_lt_or_eq.1 hlt with hlt | rfl
    ·exact F1 y2 z u k1 k2 k3 k4 hlt
    exact F2 z u k2 k3 k4 (by omega)
   simp [Env.put,Env.of]
  try simp only[RL]at h1
  obtain rfl:y=l.length:=by omega
  refine W.exit ?_
  refine xe ?_
  refine xe ?_
  refine XBlock.hit ?_
  refine XbN ?_
  refine xn ?_
  refine W.k fun K hK=>?_
  simp(disch:=omega)only[↓RU,RW,↓reduceIte,qE,reduceCtorEq,iP,w64,↓RS,RG,qA,qM,qL,zaa]
  apply hK;clear hK K
  refine xn ?_
  refine ⟨l.length - (x+1),by omega,2,x+1,t1,rfl,by omega,?_,ht1,?_,rfl⟩
  ·intro x2 y z u k1 k2 k3 k4 hlt
   rcases Nat.lt_succ_iff_lt_or_eq.1 hlt with hlt | rfl
   ·exact F0 x2 y z u k1 k2 k3 k4 hlt
   exact F1 y z u k1 k2 k3 k4 (by omega)
  simp [Env.put,Env.of]
 try simp only[RL]at h0
 obtain rfl:x=l.length:=by omega
 refine W.exit ?_
 refine xe ?_
 refine xe ?_
 refine XBlock.hit ?_
 refine zfj.norm rfl ?_
 exact ⟨2,.inl ⟨_,fun x y z u h1 h2 h3 h4=>F0 x y z u h1 h2 h3 h4 (by omega),rfl⟩⟩
theorem ydu {q:List Int} (hq:q.length≤1000) {fv:Bool} (hfv:fv=true↔Fine q.length (yfo q)):PC Tryz.prog 49 [eInts q] (.bool fv) true:=by
 refine PC.ofV ⟨Tryz.func49,by kernel_rfl,rfl,by kernel_rfl⟩ zav mixed (by show 1≤Tryz.f49.ntmps; decide) ?_
 refine V.seq_region fun K hK=>?_
 simp(disch:=omega)only[↓RU,RW,↓reduceIte,qE,reduceCtorEq,iP,↓RS,RG,qA,qM,qL,zad]
 apply hK;clear hK K
 refine V.seq ?_
 refine V.seq_region fun K hK=>?_
 simp(disch:=omega)only[↓RU,RW,↓reduceIte,qE,reduceCtorEq,iP,qN,↓RS,RG,qA,qM,qL]
 refine zac.pc (z28 q) rfl (.inr rfl) ?_
 simp(disch:=omega)only[↓RU,RW,↓reduceIte,qE,reduceCtorEq,iP,qN,↓RS,RG,qA,qM,qL]
 apply hK;clear hK K
 refine V.block ?_
 refine V.rangeFunc [2] rfl fun l r hr hst hpd=>?_
 have hrr:({ r with state := .ready,pending:=none }:Loop)=r:=by cases r; simp only at hst hpd; subst hst; subst hpd; rfl
 refine ⟨_,zxp hq (yfo q) l _ _ (.arr 0 4 1 [.bool false]) (.lp 1 l ({ r with state := .done,pending:=some .ret },[2]) [.ref 0 0 0]) _ (fun x y z u h1 h2 h3 h4 t2 ht2=>?_),?_⟩
 ·refine Ey.of (o:=1) zav mixed rfl hr hst rfl ?_
  change W _ _ _ _ (Env.put (Env.put (Env.of [2] [.ref 0 0 0]) (some 7) (.agg [.int .i64 x,.int .i64 y,.int .i64 z,.int .i64 u])) (some 8) (.agg [.int .i64 (zcw q x),.int .i64 (zcw q y),.int .i64 (zcw q z),.int .i64 (zcw q u)])) _
  refine W.k fun K hK=>?_
  simp(disch:=omega)only[↓RU,RW,↓reduceIte,qE,reduceCtorEq,iP,↓RS,RG,qA,qM,qL,za6,zaa]
  apply hK;clear hK K
  refine xn ⟨_,_,_,_,rfl,hst,?_⟩
  simp only[List.set_cons_succ,List.set_cons_zero]
  refine W.block ?_
  refine W.r fun K hK=>?_
  cases hb:yfo q x y z u
  ·skip
   have hb2:zf4 (zcw q x) (zcw q y) (zcw q z) (zcw q u)=false:=hb
   simp(disch:=omega)only[↓RU,RW,↓reduceIte,qE,reduceCtorEq,iP,qN,↓RS,RG,qA,qM,qL,za6,zaa,hb2]
   refine zac.pc (z4z _ _ _ _) rfl (.inl rfl) ?_
   simp(disch:=omega)only[↓RU,RW,↓reduceIte,qE,reduceCtorEq,iP,qN,↓RS,RG,qA,qM,qL,za6,zaa,hb2]
   apply hK;clear hK K
   refine W.cond rfl (fun h0=>?_) (fun h0=>?_)
   ·try simp only[RL]at h0
    exact absurd h0 (by simp)
   try simp only[RL]at h0
   refine W.skip ?_
   refine XbN ?_
   refine ⟨_,_,_,_,2,rfl,?_⟩
   simp only[hb,Bool.not_false,qF,if_false]
   refine ⟨trivial,_,?_,congrArg (fun r=>(⟨[_,.lp 1 l (r,[2]) _],_⟩:Store)) hrr⟩
   first | exact Nat.le_add_right _ 1 | exact Nat.le_add_right _ 2
  skip
  have hb2:zf4 (zcw q x) (zcw q y) (zcw q z) (zcw q u)=true:=hb
  simp(disch:=omega)only[↓RU,RW,↓reduceIte,qE,reduceCtorEq,iP,qN,↓RS,RG,qA,qM,qL,za6,zaa,hb2]
  refine zac.pc (z4z _ _ _ _) rfl (.inl rfl) ?_
  simp(disch:=omega)only[↓RU,RW,↓reduceIte,qE,reduceCtorEq,iP,qN,↓RS,RG,qA,qM,qL,za6,zaa,hb2]
  apply hK;clear hK K
  refine W.cond rfl (fun h0=>?_) (fun h0=>?_)
  ·try simp only[RL]at h0
   refine W.r fun K hK=>?_
   simp(disch:=omega)only[↓RU,RW,↓reduceIte,qE,reduceCtorEq,iP,↓RS,RG,qA,qM,qL,zad]
   apply hK;clear hK K
   refine W.ret ?_
   refine XBlock.ret ?_
   refine ⟨_,_,_,_,2,rfl,?_⟩
   simp only[hb,Bool.not_true,if_true]
   refine ⟨trivial,_,?_,rfl⟩
   first | exact Nat.le_add_right _ 1 | exact Nat.le_add_right _ 2
  try simp only[RL]at h0
  exact absurd h0 (by simp)
 rintro v S2 (⟨t2,hq2,rfl⟩ | ⟨t2,hq2,rfl⟩)
 ·skip
  refine ⟨_,_,_,_,.normal,rfl,by rw [hst]; simp,by rw [hpd]; rfl,?_⟩
  change XBlock _ _ _ _ ⟨[_],_⟩
  refine XbN ?_
  refine xn ?_
  refine W.v ?_
  refine W.r fun K hK=>?_
  simp(disch:=omega)only[↓RU,RW,↓reduceIte,qE,reduceCtorEq,iP,↓RS,RG,qA,qM,qL,zad]
  apply hK;clear hK K
  refine W.ret ?_
  refine Br rfl ?_
  rw [hfv.2 hq2]
  rfl
 skip
 refine ⟨_,_,_,_,.ret,rfl,by simp,rfl,?_⟩
 change XBlock _ _ _ _ ⟨[_],_⟩
 refine XBlock.ret ?_
 refine XThen.ret ?_
 refine Br rfl ?_
 rw [show fv=false by cases fv with | false=>rfl | true=>exact absurd (hfv.1 rfl) hq2]
 rfl
theorem yhc {q:List Int} (hq:q.length≤1000) {fv:Bool} (hfv:fv=true↔Fine q.length (z7d q)):PC Tryz.prog 48 [eInts q] (.bool fv) true:=by
 refine PC.ofV ⟨Tryz.func48,by kernel_rfl,rfl,by kernel_rfl⟩ zav mixed (by show 1≤Tryz.f48.ntmps; decide) ?_
 refine V.seq_region fun K hK=>?_
 simp(disch:=omega)only[↓RU,RW,↓reduceIte,qE,reduceCtorEq,iP,↓RS,RG,qA,qM,qL,zad]
 apply hK;clear hK K
 refine V.seq ?_
 refine V.seq_region fun K hK=>?_
 simp(disch:=omega)only[↓RU,RW,↓reduceIte,qE,reduceCtorEq,iP,qN,↓RS,RG,qA,qM,qL]
 refine zac.pc (z28 q) rfl (.inr rfl) ?_
 simp(disch:=omega)only[↓RU,RW,↓reduceIte,qE,reduceCtorEq,iP,qN,↓RS,RG,qA,qM,qL]
 apply hK;clear hK K
 refine V.block ?_
 refine V.rangeFunc [2] rfl fun l r hr hst hpd=>?_
 have hrr:({ r with state := .ready,pending:=none }:Loop)=r:=by cases r; simp only at hst hpd; subst hst; subst hpd; rfl
 refine ⟨_,zxp hq (z7d q) l _ _ (.arr 0 4 1 [.bool false]) (.lp 1 l ({ r with state := .done,pending:=some .ret },[2]) [.ref 0 0 0]) _ (fun x y z u h1 h2 h3 h4 t2 ht2=>?_),?_⟩
 ·refine Ey.of (o:=1) zav mixed rfl hr hst rfl ?_
  change W _ _ _ _ (Env.put (Env.put (Env.of [2] [.ref 0 0 0]) (some 7) (.agg [.int .i64 x,.int .i64 y,.int .i64 z,.int .i64 u])) (some 8) (.agg [.int .i64 (zcw q x),.int .i64 (zcw q y),.int .i64 (zcw q z),.int .i64 (zcw q u)])) _
  refine W.r fun K hK=>?_
  simp(disch:=omega)only[↓RU,RW,↓reduceIte,qE,reduceCtorEq,iP,↓RS,RG,qA,qM,qL,za6,zaa]
  apply hK;clear hK K
  refine W.k fun K hK=>?_
  simp(disch:=omega)only[↓RU,RW,↓reduceIte,qE,reduceCtorEq,iP,↓RS,RG,qA,qM,qL,za6,zaa]
  apply hK;clear hK K
  refine xn ⟨_,_,_,_,rfl,hst,?_⟩
  simp only[List.set_cons_succ,List.set_cons_zero]
  refine W.block ?_
  refine W.r fun K hK=>?_
  rcases (show ¬ (y+1=z)∨(y+1=z∧zr5 (zcw q x) (zcw q y) (zcw q z) (zcw q u)=false)∨(y+1=z∧zr5 (zcw q x) (zcw q y) (zcw q z) (zcw q u)=true) by by_cases h:y+1=z <;> cases zr5 (zcw q x) (zcw q y) (zcw q z) (zcw q u) <;> simp [h]) with hyz | ⟨hyz,hu⟩ | ⟨hyz,hu⟩
  ·skip
   have hb:z7d q x y z u=false:=by unfold z7d; rw [decide_eq_false hyz,Bool.false_and]
   have e1:((y:Int)+1 == (z:Int))=false:=by simp; omega
   simp(disch:=omega)only[↓RU,RW,↓reduceIte,qE,reduceCtorEq,iP,w64,qN,↓RS,RG,qA,qM,qL,za6,zaa,Int.toNat_zero,Nat.zero_mul,qZ,qM,Nat.zero_add,Nat.mul_one,List.getElem?_cons_zero,List.getElem?_cons_succ,e1]
   apply hK;clear hK K
   refine W.cond rfl (fun h0=>?_) (fun h0=>?_)
   ·try simp only[RL]at h0
    exact absurd h0 (by simp)
   try simp only[RL]at h0
   refine W.skip ?_
   refine XbN ?_
   refine ⟨_,_,_,_,2,rfl,?_⟩
   simp only[hb,Bool.not_false,qF,if_false]
   refine ⟨trivial,_,?_,congrArg (fun r=>(⟨[_,.lp 1 l (r,[2]) _],_⟩:Store)) hrr⟩
   first | exact Nat.le_add_right _ 1 | exact Nat.le_add_right _ 2
  ·skip
   have hb:z7d q x y z u=false:=by unfold z7d; rw [hu,Bool.and_false]
   have e1:((y:Int)+1 == (z:Int))=true:=by simp; omega
   simp(disch:=omega)only[↓RU,RW,↓reduceIte,qE,reduceCtorEq,iP,w64,qN,↓RS,RG,qA,qM,qL,za6,zaa,Int.toNat_zero,Nat.zero_mul,qZ,qM,Nat.zero_add,Nat.mul_one,List.getElem?_cons_zero,List.getElem?_cons_succ,e1,hu]
   refine zac.pc (zz6 _ _ _ _) rfl (.inl rfl) ?_
   simp(disch:=omega)only[↓RU,RW,↓reduceIte,qE,reduceCtorEq,iP,w64,qN,↓RS,RG,qA,qM,qL,za6,zaa,Int.toNat_zero,Nat.zero_mul,qZ,qM,Nat.zero_add,Nat.mul_one,List.getElem?_cons_zero,List.getElem?_cons_succ,e1,hu]
   apply hK;clear hK K
   refine W.cond rfl (fun h0=>?_) (fun h0=>?_)
   ·try simp only[RL]at h0
    exact absurd h0 (by simp)
   try simp only[RL]at h0
   refine W.skip ?_
   refine XbN ?_
   refine ⟨_,_,_,_,2,rfl,?_⟩
   simp only[hb,Bool.not_false,qF,if_false]
   refine ⟨trivial,_,?_,congrArg (fun r=>(⟨[_,.lp 1 l (r,[2]) _],_⟩:Store)) hrr⟩
   first | exact Nat.le_add_right _ 1 | exact Nat.le_add_right _ 2
  skip
  have hb:z7d q x y z u=true:=by unfold z7d; rw [hu,decide_eq_true hyz]; rfl
  have e1:((y:Int)+1 == (z:Int))=true:=by simp; omega
  simp(disch:=omega)only[↓RU,RW,↓reduceIte,qE,reduceCtorEq,iP,w64,qN,↓RS,RG,qA,qM,qL,za6,zaa,Int.toNat_zero,Nat.zero_mul,qZ,qM,Nat.zero_add,Nat.mul_one,List.getElem?_cons_zero,List.getElem?_cons_succ,e1,hu]
  refine zac.pc (zz6 _ _ _ _) rfl (.inl rfl) ?_
  simp(disch:=omega)only[↓RU,RW,↓reduceIte,qE,reduceCtorEq,iP,w64,qN,↓RS,RG,qA,qM,qL,za6,zaa,Int.toNat_zero,Nat.zero_mul,qZ,qM,Nat.zero_add,Nat.mul_one,List.getElem?_cons_zero,List.getElem?_cons_succ,e1,hu]
  apply hK;clear hK K
  refine W.cond rfl (fun h0=>?_) (fun h0=>?_)
  ·try simp only[RL]at h0
   refine W.r fun K hK=>?_
   simp(disch:=omega)only[↓RU,RW,↓reduceIte,qE,reduceCtorEq,iP,↓RS,RG,qA,qM,qL,zad]
   apply hK;clear hK K
   refine W.ret ?_
   refine XBlock.ret ?_
   refine ⟨_,_,_,_,2,rfl,?_⟩
   simp only[hb,Bool.not_true,if_true]
   refine ⟨trivial,_,?_,rfl⟩
   first | exact Nat.le_add_right _ 1 | exact Nat.le_add_right _ 2
  try simp only[RL]at h0
  exact absurd h0 (by simp)
 rintro v S2 (⟨t2,hq2,rfl⟩ | ⟨t2,hq2,rfl⟩)
 ·skip
  refine ⟨_,_,_,_,.normal,rfl,by rw [hst]; simp,by rw [hpd]; rfl,?_⟩
  change XBlock _ _ _ _ ⟨[_],_⟩
  refine XbN ?_
  refine xn ?_
  refine W.v ?_
  refine W.r fun K hK=>?_
  simp(disch:=omega)only[↓RU,RW,↓reduceIte,qE,reduceCtorEq,iP,↓RS,RG,qA,qM,qL,zad]
  apply hK;clear hK K
  refine W.ret ?_
  refine Br rfl ?_
  rw [hfv.2 hq2]
  rfl
 skip
 refine ⟨_,_,_,_,.ret,rfl,by simp,rfl,?_⟩
 change XBlock _ _ _ _ ⟨[_],_⟩
 refine XBlock.ret ?_
 refine XThen.ret ?_
 refine Br rfl ?_
 rw [show fv=false by cases fv with | false=>rfl | true=>exact absurd (hfv.1 rfl) hq2]
 rfl
theorem z0o {q:List Int} (hl:q.length<2147483648) {x:Int} {i:Nat} (hx:q[i]?=some x) (hi:∀ (j:Nat),j<i→q[j]?≠some x):PC Tryz.prog 31 [eInts q,.int .i64 x] (.bool true) true:=by
 have hd:decide ((i:Int) ≥ 0)=true:=decide_eq_true (by omega)
 refine PC.of ⟨Tryz.func31,by kernel_rfl,rfl,by kernel_rfl⟩ zav mixed (by show 2≤Tryz.f31.ntmps; decide) ?_
 refine W.r fun K hK=>?_
 simp(disch:=omega)only[↓RU,RW,↓reduceIte,qE,reduceCtorEq,iP]
 apply hK;clear hK K
 refine W.r fun K hK=>?_
 simp(disch:=omega)only[↓RU,RW,↓reduceIte,qE,reduceCtorEq,iP,qN,w64,zaa,hd]
 refine zac.pc (ztd hl hx hi) rfl (.inl rfl) ?_
 simp(disch:=omega)only[↓RU,RW,↓reduceIte,qE,reduceCtorEq,iP,qN,w64,zaa,hd]
 apply hK;clear hK K
 refine W.ret ?_
 refine Br rfl ?_
 rfl
theorem zmp {q:List Int} (hl1:1≤q.length) (hl7:q.length≤7) (hq:∀ i:Nat,i<q.length→∃ j:Nat,q[j]?=some (i:Int)∧∀ k,k<j→q[k]?≠some (i:Int)):PC Tryz.prog 8 [eInts q] (.bool true) true:=by
 have hd1:decide ((q.length:Int)<1)=false:=decide_eq_false (by omega)
 have hd2:decide ((q.length:Int)>7)=false:=decide_eq_false (by omega)
 refine PC.of ⟨Tryz.func8,by kernel_rfl,rfl,by kernel_rfl⟩ zav mixed (by show 1≤Tryz.f8.ntmps; decide) ?_
 refine W.r fun K hK=>?_
 simp(disch:=omega)only[↓RU,RW,↓reduceIte,qE,reduceCtorEq,iP]
 apply hK;clear hK K
 refine W.seq ?_
 refine W.r fun K hK=>?_
 simp(disch:=omega)only[↓RU,RW,↓reduceIte,qE,reduceCtorEq,iP,w64,zab,zaa,hd1,hd2]
 apply hK;clear hK K
 refine W.cond rfl (fun h0=>?_) (fun h0=>?_)
 ·try simp only[RL]at h0
  exact absurd h0 (by simp)
 try simp only[RL]at h0
 refine W.skip ?_
 refine xn ?_
 refine W.seq ?_
 refine W.r fun K hK=>?_
 simp(disch:=omega)only[↓RU,RW,↓reduceIte,qE,reduceCtorEq,iP,zab,zaa]
 apply hK;clear hK K
 refine W.block ?_
 refine W.loop [0,13,14] (fun n vs S=>∃ i:Nat,n=q.length - i∧i≤q.length∧vs=[eInts q,.int .i64 q.length,.int .i64 i]∧S=⟨[],0⟩) (q.length) ?_ ?_
 ·refine ⟨0,0,rfl,Nat.zero_le _,?_,rfl⟩
  simp [Env.put,Env.of,zai]
 rintro n vs S - ⟨i,rfl,h_i,rfl,rfl⟩
 refine W.r fun K hK=>?_
 simp(disch:=omega)only[↓RU,RW,↓reduceIte,qE,reduceCtorEq,iP,w64,zaa]
 apply hK;clear hK K
 refine W.seq ?_
 refine W.cond rfl (fun h1=>?_) (fun h1=>?_)
 ·try simp only[RL]at h1
  obtain ⟨j,hj,hj2⟩:=hq i (by omega)
  refine W.skip ?_
  refine xn ?_
  refine W.seq ?_
  refine W.block ?_
  refine W.r fun K hK=>?_
  simp(disch:=omega)only[↓RU,RW,↓reduceIte,qE,reduceCtorEq,iP]
  apply hK;clear hK K
  refine W.r fun K hK=>?_
  simp(disch:=omega)only[↓RU,RW,↓reduceIte,qE,reduceCtorEq,iP,qN]
  refine zac.pc (z0o (by omega) hj hj2) rfl (.inl rfl) ?_
  simp(disch:=omega)only[↓RU,RW,↓reduceIte,qE,reduceCtorEq,iP,qN]
  apply hK;clear hK K
  refine W.cond rfl (fun h2=>?_) (fun h2=>?_)
  ·try simp only[RL]at h2
   exact absurd h2 (by simp)
  try simp only[RL]at h2
  refine W.skip ?_
  refine XbN ?_
  refine xn ?_
  refine W.k fun K hK=>?_
  simp(disch:=omega)only[↓RU,RW,↓reduceIte,qE,reduceCtorEq,iP,w64,zaa]
  apply hK;clear hK K
  refine xn ?_
  refine ⟨q.length - (i+1),by omega,0,i+1,rfl,by omega,?_,rfl⟩
  simp [Env.put,Env.of]
 try simp only[RL]at h1
 obtain rfl:i=q.length:=by omega
 refine W.exit ?_
 refine xe ?_
 refine xe ?_
 refine XBlock.hit ?_
 refine xn ?_
 refine W.r fun K hK=>?_
 simp(disch:=omega)only[↓RU,RW,↓reduceIte,qE,reduceCtorEq,iP]
 apply hK;clear hK K
 refine W.ret ?_
 refine Br rfl ?_
 rfl
theorem z1l {q:List Int} (hl1:1≤q.length) (hl7:q.length≤7) (hq:∀ i:Nat,i<q.length→∃ j:Nat,q[j]?=some (i:Int)∧∀ k,k<j→q[k]?≠some (i:Int)) {fv:Bool} (hfv:fv=true↔Fine q.length (z7d q)):PC Tryz.prog 22 [eInts q] (.bool fv) true:=by
 refine PC.of ⟨Tryz.func22,by kernel_rfl,rfl,by kernel_rfl⟩ zav mixed (by show 1≤Tryz.f22.ntmps; decide) ?_
 refine W.r fun K hK=>?_
 simp(disch:=omega)only[↓RU,RW,↓reduceIte,qE,reduceCtorEq,iP]
 apply hK;clear hK K
 refine W.r fun K hK=>?_
 simp(disch:=omega)only[↓RU,RW,↓reduceIte,qE,reduceCtorEq,iP,qN]
 refine zac.pc (zmp hl1 hl7 hq) rfl (.inl rfl) ?_
 simp(disch:=omega)only[↓RU,RW,↓reduceIte,qE,reduceCtorEq,iP,qN]
 refine zac.pc (yhc (by omega) hfv) rfl (.inl rfl) ?_
 simp(disch:=omega)only[↓RU,RW,↓reduceIte,qE,reduceCtorEq,iP,qN]
 apply hK;clear hK K
 refine W.ret ?_
 refine Br rfl ?_
 rfl
theorem zys {q:List Int} (hl1:1≤q.length) (hl7:q.length≤7) (hq:∀ i:Nat,i<q.length→∃ j:Nat,q[j]?=some (i:Int)∧∀ k,k<j→q[k]?≠some (i:Int)) {fv:Bool} (hfv:fv=true↔Fine q.length (yfo q)):PC Tryz.prog 23 [eInts q] (.bool fv) true:=by
 refine PC.of ⟨Tryz.func23,by kernel_rfl,rfl,by kernel_rfl⟩ zav mixed (by show 1≤Tryz.f23.ntmps; decide) ?_
 refine W.r fun K hK=>?_
 simp(disch:=omega)only[↓RU,RW,↓reduceIte,qE,reduceCtorEq,iP]
 apply hK;clear hK K
 refine W.r fun K hK=>?_
 simp(disch:=omega)only[↓RU,RW,↓reduceIte,qE,reduceCtorEq,iP,qN]
 refine zac.pc (zmp hl1 hl7 hq) rfl (.inl rfl) ?_
 simp(disch:=omega)only[↓RU,RW,↓reduceIte,qE,reduceCtorEq,iP,qN]
 refine zac.pc (ydu (by omega) hfv) rfl (.inl rfl) ?_
 simp(disch:=omega)only[↓RU,RW,↓reduceIte,qE,reduceCtorEq,iP,qN]
 apply hK;clear hK K
 refine W.ret ?_
 refine Br rfl ?_
 rfl
theorem z33 {p:List Txt} (hp:zcd p=true):∀ i:Nat,i<(zf2 p).length→∃ j:Nat,(zf2 p)[j]?=some (i:Int)∧∀ k,k<j→(zf2 p)[k]?≠some (i:Int):=by
 intro i hi
 rw [zgj]at hi
 obtain ⟨a,ha,hai,-⟩:=z16 (below:=false) hp hi
 have hj:=zvn hp (z4t (below:=true) hp ha)
 rw [hai]at hj
 refine ⟨_,hj,fun k hk e=>?_⟩
 have h1:=zb5 hj
 have h2:=zb5 e
 rw [zgj]at h1 h2
 rw [yfa hp h1]at hj
 rw [yfa hp h2]at e
 have:=ygq hp h1 h2 ((Option.some.inj hj).trans (Option.some.inj e).symm)
 omega
theorem yid {p:List Txt} (hv:zdx p=true):PC Tryz.prog 47 [.agg [zhn (lfM p),zhn (abM p)]] (eInts (zf2 p)) true:=PN.ints0 (yie hv) rfl zgj
theorem yac {p:List Txt} {b:Bool} (h:zdx p=b):zcd p=b:=by rw [← zgk]; exact h
theorem zyb {p:List Txt} (hs:Sm p) (hv:zdx p=false):PC Tryz.prog 21 [zbi p] (.tup [eInts [],.bool false]) false:=by
 refine PC.of ⟨Tryz.func21,by kernel_rfl,rfl,by kernel_rfl⟩ zav mixed (by show 1≤Tryz.f21.ntmps; decide) ?_
 refine W.r fun K hK=>?_
 simp(disch:=omega)only[↓RU,RW,↓reduceIte,qE,reduceCtorEq,iP,↓RS,RG,qA,qM,qL]
 apply hK;clear hK K
 refine W.r fun K hK=>?_
 simp(disch:=omega)only[↓RU,RW,↓reduceIte,qE,reduceCtorEq,iP,qN,↓RS,RG,qA,qM,qL,ty0,ty2,zad,zg1,ze6,zg2]
 refine zac.pc (z1k hs hv) rfl (.inr rfl) ?_
 simp(disch:=omega)only[↓RU,RW,↓reduceIte,qE,reduceCtorEq,iP,qN,↓RS,RG,qA,qM,qL,ty0,ty2,zad,zg1,ze6,zg2]
 apply hK;clear hK K
 refine W.seq ?_
 refine W.r fun K hK=>?_
 simp(disch:=omega)only[↓RU,RW,↓reduceIte,qE,reduceCtorEq,iP,↓RS,RG,qA,qM,qL]
 apply hK;clear hK K
 refine W.cond rfl (fun h=>?_) (fun h=>?_)
 ·try simp only[RL]at h
  refine W.r fun K hK=>?_
  simp(disch:=omega)only[↓RU,RW,↓reduceIte,qE,reduceCtorEq,iP,↓RS,RG,qA,qM,qL]
  apply hK;clear hK K
  refine W.ret ?_
  refine XThen.ret ?_
  refine Br rfl ?_
  rfl
 try simp only[RL]at h
 exact absurd h (by simp)
theorem zvl {p:List Txt} (hs:Sm p) (hv:zdx p=true):PC Tryz.prog 21 [zbi p] (.tup [eInts (zf2 p),.bool true]) false:=by
 refine PC.of ⟨Tryz.func21,by kernel_rfl,rfl,by kernel_rfl⟩ zav mixed (by show 1≤Tryz.f21.ntmps; decide) ?_
 refine W.r fun K hK=>?_
 simp(disch:=omega)only[↓RU,RW,↓reduceIte,qE,reduceCtorEq,iP,↓RS,RG,qA,qM,qL]
 apply hK;clear hK K
 refine W.r fun K hK=>?_
 simp(disch:=omega)only[↓RU,RW,↓reduceIte,qE,reduceCtorEq,iP,qN,↓RS,RG,qA,qM,qL,ty0,ty2,zad,zg1,ze6,zg2]
 refine zac.pc (zyc hs hv) rfl (.inr rfl) ?_
 simp(disch:=omega)only[↓RU,RW,↓reduceIte,qE,reduceCtorEq,iP,qN,↓RS,RG,qA,qM,qL,ty0,ty2,zad,zg1,ze6,zg2]
 apply hK;clear hK K
 refine W.seq ?_
 refine W.r fun K hK=>?_
 simp(disch:=omega)only[↓RU,RW,↓reduceIte,qE,reduceCtorEq,iP,↓RS,RG,qA,qM,qL]
 apply hK;clear hK K
 refine W.cond rfl (fun h=>?_) (fun h=>?_)
 ·try simp only[RL]at h
  exact absurd h (by simp)
 try simp only[RL]at h
 refine W.skip ?_
 refine xn ?_
 refine W.r fun K hK=>?_
 simp(disch:=omega)only[↓RU,RW,↓reduceIte,qE,reduceCtorEq,iP,qN,↓RS,RG,qA,qM,qL,ty0,ty2,zad,zg1,ze6,zg2]
 refine zac.pc (yid hv) rfl (.inl rfl) ?_
 simp(disch:=omega)only[↓RU,RW,↓reduceIte,qE,reduceCtorEq,iP,qN,↓RS,RG,qA,qM,qL,ty0,ty2,zad,zg1,ze6,zg2]
 apply hK;clear hK K
 refine W.ret ?_
 refine Br rfl ?_
 rfl
theorem zel {S:Store} {a b:Bool}:pEq tab S 4 (.bool a) (.bool b)=some (a == b):=rfl
theorem yh2 {b:Bool}:((!b) == b)=false:=by cases b <;> rfl
theorem z1n {p:List Txt} (hp:zbk p=true):zdx p=decide (((crs (zaf p) p.length (zag p).length:Nat):Int)=0):=by
 have hv:zeb p=true:=by rw [zc3]; exact hp
 unfold zdx
 rw [hv,zfy,yah hp,Bool.true_and]
theorem yc6 {p:List Txt} (hp:zbk p=true):((((crs (zaf p) p.length (zag p).length:Nat):Int) == 0) == zdx p)=true:=by
 rw [z1n hp,z0g]; simp
theorem z73 {n:Nat}:((((n:Nat):Int) == 0) == decide (n≠0))=false:=by
 rw [z0g]
 by_cases h:n=0
 ·subst h; rfl
 have:¬ ((n:Nat):Int)=0:=by omega
 simp [h,this]
theorem zv4 {p q:List Txt} (hs:Sm p):PC Tryz.prog 15 [zbi p,zbi q] (.bool (decide (p=q))) true:=by
 have hp:=hs.rows
 have hr:=hs.cols
 refine PC.of ⟨Tryz.func15,by kernel_rfl,rfl,by kernel_rfl⟩ zav mixed (by show 2≤Tryz.f15.ntmps; decide) ?_
 refine W.r fun K hK=>?_
 simp(disch:=omega)only[↓RU,RW,↓reduceIte,qE,reduceCtorEq,iP]
 apply hK;clear hK K
 refine W.seq ?_
 refine W.r fun K hK=>?_
 simp(disch:=omega)only[↓RU,RW,↓reduceIte,qE,reduceCtorEq,iP,w64,ty5,zaa,zal]
 apply hK;clear hK K
 refine W.cond rfl (fun h0=>?_) (fun h0=>?_)
 ·try simp only[RL]at h0
  skip
  refine W.r fun K hK=>?_
  simp(disch:=omega)only[↓RU,RW,↓reduceIte,qE,reduceCtorEq,iP]
  apply hK;clear hK K
  refine W.ret ?_
  refine XThen.ret ?_
  refine Br rfl ?_
  have:p≠q:=fun e=>h0 (by rw [e])
  simp [this]; rfl
 try simp only[RL]at h0
 refine W.skip ?_
 refine xn ?_
 refine W.seq ?_
 refine W.r fun K hK=>?_
 simp(disch:=omega)only[↓RU,RW,↓reduceIte,qE,reduceCtorEq,iP]
 apply hK;clear hK K
 refine W.block ?_
 refine W.loop [0,1,5] (fun n vs S=>∃ i:Nat,n=p.length - i∧i≤p.length∧(p.take i=q.take i)∧vs=[zbi p,zbi q,.int .i64 i]∧S=⟨[],0⟩) (p.length) ?_ ?_
 ·refine ⟨0,0,rfl,Nat.zero_le _,rfl,?_,rfl⟩
  simp [Env.put,Env.of,zai]
 rintro n vs S - ⟨i,rfl,h_i,hq,rfl,rfl⟩
 refine W.seq ?_
 refine W.r fun K hK=>?_
 simp(disch:=omega)only[↓RU,RW,↓reduceIte,qE,reduceCtorEq,iP,w64,ty5,zaa,zal]
 apply hK;clear hK K
 refine W.cond rfl (fun h1=>?_) (fun h1=>?_)
 ·try simp only[RL]at h1
  obtain ⟨row,hrow,hrm⟩:=zaj (show i<p.length by omega)
  obtain ⟨row2,hrow2,-⟩:=zaj (show i<q.length by omega)
  refine W.skip ?_
  refine xn ?_
  refine W.seq ?_
  refine W.block ?_
  refine W.seq_draw (by kernel_rfl) fun K hK=>?_
  simp(disch:=omega)only[↓RU,RW,↓reduceIte,qE,reduceCtorEq,iP,w64,ty5,zal,hrow,hrow2,yck]
  apply hK;clear hK K
  refine W.cond rfl (fun h2=>?_) (fun h2=>?_)
  ·try simp only[RL]at h2
   refine W.r fun K hK=>?_
   simp(disch:=omega)only[↓RU,RW,↓reduceIte,qE,reduceCtorEq,iP]
   apply hK;clear hK K
   refine W.ret ?_
   refine XBlock.ret ?_
   refine XThen.ret ?_
   refine XThen.ret ?_
   refine XBlock.ret ?_
   refine XThen.ret ?_
   refine Br rfl ?_
   have:p≠q:=fun e=>h2 (by rw [e,hrow2]at hrow; exact (Option.some.inj hrow).symm)
   simp [this]; rfl
  try simp only[RL]at h2
  refine W.skip ?_
  refine XbN ?_
  refine xn ?_
  refine W.k fun K hK=>?_
  simp(disch:=omega)only[↓RU,RW,↓reduceIte,qE,reduceCtorEq,iP,w64,zaa]
  apply hK;clear hK K
  refine xn ?_
  refine ⟨p.length - (i+1),by omega,0,i+1,rfl,by omega,by rw [tk hrow,tk hrow2,hq,h2],?_,rfl⟩
  simp [Env.put,Env.of]
 try simp only[RL]at h1
 refine W.exit ?_
 refine xe ?_
 refine xe ?_
 refine XBlock.hit ?_
 refine xn ?_
 refine W.r fun K hK=>?_
 simp(disch:=omega)only[↓RU,RW,↓reduceIte,qE,reduceCtorEq,iP]
 apply hK;clear hK K
 refine W.ret ?_
 refine Br rfl ?_
 have hip:i=p.length:=by omega
 have h0n:p.length=q.length:=by omega
 have:p=q:=by rw [hip,List.take_length,h0n,List.take_length]at hq; exact hq
 simp [this]; rfl
theorem znd {p:List Txt} (hs:Sm p):PC Tryz.prog 12 [zbi p] (.bool (zdx p)) true:=by
 obtain ⟨x,hx,hxy,hxr⟩:=znz hs
 refine PC.of ⟨Tryz.func12,by kernel_rfl,rfl,by kernel_rfl⟩ zav mixed (by show 1≤Tryz.f12.ntmps; decide) ?_
 refine W.r fun K hK=>?_
 simp(disch:=omega)only[↓RU,RW,↓reduceIte,qE,reduceCtorEq,iP,↓RS,RG,qA,qM,qL]
 apply hK;clear hK K
 refine W.r fun K hK=>?_
 simp(disch:=omega)only[↓RU,RW,↓reduceIte,qE,reduceCtorEq,iP,qN,↓RS,RG,qA,qM,qL]
 refine zac.pc (hx) rfl (.inr rfl) ?_
 simp(disch:=omega)only[↓RU,RW,↓reduceIte,qE,reduceCtorEq,iP,qN,↓RS,RG,qA,qM,qL]
 apply hK;clear hK K
 refine W.r fun K hK=>?_
 simp(disch:=omega)only[↓RU,RW,↓reduceIte,qE,reduceCtorEq,iP,↓RS,RG,qA,qM,qL]
 apply hK;clear hK K
 refine W.ret ?_
 refine Br rfl ?_
 rfl
theorem z0q {p:List Txt} (hs:Sm p) (hp:zbk p=true):∃ x:Int,PC Tryz.prog 19 [zbi p] (.tup [.int .i64 x,.bool (decide (z71 p≠0))]) true:=by
 by_cases h:z71 p=0
 ·exact ⟨0,by rw [h]; exact z0r hs hp h⟩
 exact ⟨zcw (z5g p) 0,by rw [decide_eq_true h]; exact zw4 hs hp h⟩
theorem Of.sm {p t:List Txt} {H W:Nat} {f g:Nat→Nat→Nat} (h:Of p t H W f g):Sm t:=Sm.grid (zde h.plan)
theorem z3n:∀ i:Nat,i<([0]:List Int).length→∃ j:Nat,([0]:List Int)[j]?=some (i:Int)∧∀ k,k<j→([0]:List Int)[k]?≠some (i:Int):=by
 intro i hi
 simp only[List.length_cons,List.length_nil]at hi
 obtain rfl:i=0:=by omega
 exact ⟨0,rfl,fun k h=>by omega⟩
set_option maxRecDepth 8000 in
set_option maxHeartbeats 1000000 in
theorem zvo {text:Txt} (htext:text.length≤9223372036854775807):PC Tryz.prog 3 [.str text] (.bool true) true:=by
 refine PC.of ⟨Tryz.func3,by kernel_rfl,rfl,by kernel_rfl⟩ zav mixed (by show 1≤Tryz.f3.ntmps; decide) ?_
 refine W.r fun K hK=>?_
 simp(disch:=omega)only[↓RU,RW,↓reduceIte,qE,reduceCtorEq,iP,↓RS,RG,qA,qM,qL]
 apply hK;clear hK K
 refine W.seq ?_
 refine W.r fun K hK=>?_
 simp(disch:=omega)only[↓RU,RW,↓reduceIte,qE,reduceCtorEq,iP,w64,↓RS,RG,qA,qM,qL,zaa,zal]
 apply hK;clear hK K
 refine W.cond rfl (fun h0=>?_) (fun h0=>?_)
 ·try simp only[RL]at h0
  refine W.r fun K hK=>?_
  simp(disch:=omega)only[↓RU,RW,↓reduceIte,qE,reduceCtorEq,iP,↓RS,RG,qA,qM,qL]
  apply hK;clear hK K
  refine W.ret ?_
  refine XThen.ret ?_
  refine Br rfl ?_
  rfl
 try simp only[RL]at h0
 have ht:text.length≤2147483647:=by omega
 refine W.skip ?_
 refine xn ?_
 refine W.r fun K hK=>?_
 simp(disch:=omega)only[↓RU,RW,↓reduceIte,qE,reduceCtorEq,iP,qN,↓RS,RG,qA,qM,qL]
 refine zac.pc (z5v ht) rfl (.inl rfl) ?_
 simp(disch:=omega)only[↓RU,RW,↓reduceIte,qE,reduceCtorEq,iP,qN,↓RS,RG,qA,qM,qL]
 apply hK;clear hK K
 have hs:=ydr ht
 generalize z3e text=p at hs ⊢
 refine W.r fun K hK=>?_
 cases hp:zbk p
 ·skip
  have hv:zeb p=false:=by rw [zc3]; exact hp
  have hcb:zur p=false:=by unfold zur; rw [hp]; rfl
  have hpl:zdx p=false:=by rw [zgk]; unfold zcd; rw [hp]; rfl
  simp(disch:=omega)only[↓RU,RW,↓reduceIte,qE,reduceCtorEq,iP,qN,↓RS,RG,qA,qM,qL,hp]
  refine zac.pc (zyu hs) rfl (.inl rfl) ?_
  simp(disch:=omega)only[↓RU,RW,↓reduceIte,qE,reduceCtorEq,iP,qN,↓RS,RG,qA,qM,qL,hp]
  apply hK;clear hK K
  refine W.r fun K hK=>?_
  simp(disch:=omega)only[↓RU,RW,↓reduceIte,qE,reduceCtorEq,iP,qN,↓RS,RG,qA,qM,qL]
  refine zac.pc (zyv hs hv) rfl (.inl rfl) ?_
  simp(disch:=omega)only[↓RU,RW,↓reduceIte,qE,reduceCtorEq,iP,qN,↓RS,RG,qA,qM,qL]
  apply hK;clear hK K
  refine W.seq ?_
  refine W.r fun K hK=>?_
  simp(disch:=omega)only[↓RU,RW,↓reduceIte,qE,reduceCtorEq,iP,qN,w64,↓RS,RG,qA,qM,qL,zab,zad,zaa,zel,qO,bne_self_eq_false,beq_self_eq_true,Bool.not_true,Bool.not_false,decide_true,hp]
  refine zac.pc (zn4 hs) rfl (.inl rfl) ?_
  simp(disch:=omega)only[↓RU,RW,↓reduceIte,qE,reduceCtorEq,iP,qN,w64,↓RS,RG,qA,qM,qL,zab,zad,zaa,zel,qO,bne_self_eq_false,beq_self_eq_true,Bool.not_true,Bool.not_false,decide_true,hp]
  refine zac.pc (zmp (q:=[0]) (by simp) (by simp) z3n) (za5 (zce (k:=9) rfl rfl rfl) rfl) (.inl rfl) ?_
  simp(disch:=omega)only[↓RU,RW,↓reduceIte,qE,reduceCtorEq,iP,qN,w64,↓RS,RG,qA,qM,qL,zab,zad,zaa,zel,qO,bne_self_eq_false,beq_self_eq_true,Bool.not_true,Bool.not_false,decide_true,hp]
  apply hK;clear hK K
  refine W.cond rfl (fun h1=>?_) (fun h1=>?_)
  ·try simp only[RL]at h1
   exact absurd h1 (by simp)
  try simp only[RL]at h1
  refine W.skip ?_
  refine xn ?_
  refine W.r fun K hK=>?_
  simp(disch:=omega)only[↓RU,RW,↓reduceIte,qE,reduceCtorEq,iP,qN,↓RS,RG,qA,qM,qL]
  refine zac.pc (zus hs) rfl (.inl rfl) ?_
  simp(disch:=omega)only[↓RU,RW,↓reduceIte,qE,reduceCtorEq,iP,qN,↓RS,RG,qA,qM,qL]
  apply hK;clear hK K
  refine W.r fun K hK=>?_
  simp(disch:=omega)only[↓RU,RW,↓reduceIte,qE,reduceCtorEq,iP,qN,↓RS,RG,qA,qM,qL]
  refine zac.pc (zyy hs hp) rfl (.inr rfl) ?_
  simp(disch:=omega)only[↓RU,RW,↓reduceIte,qE,reduceCtorEq,iP,qN,↓RS,RG,qA,qM,qL]
  apply hK;clear hK K
  refine W.seq ?_
  refine W.r fun K hK=>?_
  simp(disch:=omega)only[↓RU,RW,↓reduceIte,qE,reduceCtorEq,iP,w64,qN,↓RS,RG,qA,qM,qL,zad,zel,qO,bne_self_eq_false,beq_self_eq_true,Bool.not_true,Bool.not_false,decide_true]
  refine zac.pc (zzk hs) rfl (.inl rfl) ?_
  simp(disch:=omega)only[↓RU,RW,↓reduceIte,qE,reduceCtorEq,iP,w64,qN,↓RS,RG,qA,qM,qL,zad,zel,qO,bne_self_eq_false,beq_self_eq_true,Bool.not_true,Bool.not_false,decide_true]
  apply hK;clear hK K
  refine W.cond rfl (fun h2=>?_) (fun h2=>?_)
  ·try simp only[RL]at h2
   exact absurd h2 (by simp)
  try simp only[RL]at h2
  refine W.skip ?_
  refine xn ?_
  refine W.seq ?_
  refine W.r fun K hK=>?_
  simp(disch:=omega)only[↓RU,RW,↓reduceIte,qE,reduceCtorEq,iP,↓RS,RG,qA,qM,qL]
  apply hK;clear hK K
  refine W.cond rfl (fun h3=>?_) (fun h3=>?_)
  ·try simp only[RL]at h3
   refine W.r fun K hK=>?_
   simp(disch:=omega)only[↓RU,RW,↓reduceIte,qE,reduceCtorEq,iP,qN,↓RS,RG,qA,qM,qL,zel,qO,bne_self_eq_false,beq_self_eq_true,Bool.not_true,Bool.not_false,decide_true,hcb,hpl]
   refine zac.pc (znd hs) rfl (.inl rfl) ?_
   simp(disch:=omega)only[↓RU,RW,↓reduceIte,qE,reduceCtorEq,iP,qN,↓RS,RG,qA,qM,qL,zel,qO,bne_self_eq_false,beq_self_eq_true,Bool.not_true,Bool.not_false,decide_true,hcb,hpl]
   apply hK;clear hK K
   refine W.ret ?_
   refine XThen.ret ?_
   refine Br rfl ?_
   rfl
  try simp only[RL]at h3
  exact absurd h3 (by simp)
 skip
 have hv:zeb p=true:=by rw [zc3]; exact hp
 have h9:=(zco hp).2.2.2.2.2.2.1
 simp(disch:=omega)only[↓RU,RW,↓reduceIte,qE,reduceCtorEq,iP,qN,↓RS,RG,qA,qM,qL,hp]
 refine zac.pc (zyu hs) rfl (.inl rfl) ?_
 simp(disch:=omega)only[↓RU,RW,↓reduceIte,qE,reduceCtorEq,iP,qN,↓RS,RG,qA,qM,qL,hp]
 apply hK;clear hK K
 refine W.r fun K hK=>?_
 simp(disch:=omega)only[↓RU,RW,↓reduceIte,qE,reduceCtorEq,iP,qN,↓RS,RG,qA,qM,qL]
 refine zac.pc (zyw hs hv) rfl (.inl rfl) ?_
 simp(disch:=omega)only[↓RU,RW,↓reduceIte,qE,reduceCtorEq,iP,qN,↓RS,RG,qA,qM,qL]
 apply hK;clear hK K
 refine W.seq ?_
 refine W.r fun K hK=>?_
 simp(disch:=omega)only[↓RU,RW,↓reduceIte,qE,reduceCtorEq,iP,qN,w64,↓RS,RG,qA,qM,qL,zab,zad,zaa,zel,qO,bne_self_eq_false,beq_self_eq_true,Bool.not_true,Bool.not_false,decide_true,hp]
 refine zac.pc (zn4 hs) rfl (.inl rfl) ?_
 simp(disch:=omega)only[↓RU,RW,↓reduceIte,qE,reduceCtorEq,iP,qN,w64,↓RS,RG,qA,qM,qL,zab,zad,zaa,zel,qO,bne_self_eq_false,beq_self_eq_true,Bool.not_true,Bool.not_false,decide_true,hp]
 refine zac.pc (zmp (q:=[0]) (by simp) (by simp) z3n) (za5 (zce (k:=9) rfl rfl rfl) rfl) (.inl rfl) ?_
 simp(disch:=omega)only[↓RU,RW,↓reduceIte,qE,reduceCtorEq,iP,qN,w64,↓RS,RG,qA,qM,qL,zab,zad,zaa,zel,qO,bne_self_eq_false,beq_self_eq_true,Bool.not_true,Bool.not_false,decide_true,hp]
 apply hK;clear hK K
 refine W.cond rfl (fun h1=>?_) (fun h1=>?_)
 ·try simp only[RL]at h1
  exact absurd h1 (by simp)
 try simp only[RL]at h1
 refine W.skip ?_
 refine xn ?_
 refine W.r fun K hK=>?_
 simp(disch:=omega)only[↓RU,RW,↓reduceIte,qE,reduceCtorEq,iP,qN,↓RS,RG,qA,qM,qL]
 refine zac.pc (zus hs) rfl (.inl rfl) ?_
 simp(disch:=omega)only[↓RU,RW,↓reduceIte,qE,reduceCtorEq,iP,qN,↓RS,RG,qA,qM,qL]
 apply hK;clear hK K
 refine W.r fun K hK=>?_
 simp(disch:=omega)only[↓RU,RW,↓reduceIte,qE,reduceCtorEq,iP,qN,↓RS,RG,qA,qM,qL]
 refine zac.pc (zmq hs hp) rfl (.inr rfl) ?_
 simp(disch:=omega)only[↓RU,RW,↓reduceIte,qE,reduceCtorEq,iP,qN,↓RS,RG,qA,qM,qL]
 apply hK;clear hK K
 have hT1:=zlh hp
 refine W.seq ?_
 refine W.r fun K hK=>?_
 simp(disch:=omega)only[↓RU,RW,↓reduceIte,qE,reduceCtorEq,iP,w64,qN,↓RS,RG,qA,qM,qL,zad,zel,qO,bne_self_eq_false,beq_self_eq_true,Bool.not_true,Bool.not_false,decide_true]
 refine zac.pc (zzk hs) rfl (.inl rfl) ?_
 simp(disch:=omega)only[↓RU,RW,↓reduceIte,qE,reduceCtorEq,iP,w64,qN,↓RS,RG,qA,qM,qL,zad,zel,qO,bne_self_eq_false,beq_self_eq_true,Bool.not_true,Bool.not_false,decide_true]
 apply hK;clear hK K
 refine W.cond rfl (fun h2=>?_) (fun h2=>?_)
 ·try simp only[RL]at h2
  exact absurd h2 (by simp)
 try simp only[RL]at h2
 refine W.skip ?_
 refine xn ?_
 refine W.seq ?_
 refine W.r fun K hK=>?_
 simp(disch:=omega)only[↓RU,RW,↓reduceIte,qE,reduceCtorEq,iP,↓RS,RG,qA,qM,qL]
 apply hK;clear hK K
 refine W.cond rfl (fun h3=>?_) (fun h3=>?_)
 ·try simp only[RL]at h3
  exact absurd h3 (by simp)
 try simp only[RL]at h3
 refine W.skip ?_
 refine xn ?_
 refine W.r fun K hK=>?_
 simp(disch:=omega)only[↓RU,RW,↓reduceIte,qE,reduceCtorEq,iP,qN,↓RS,RG,qA,qM,qL]
 refine zac.pc (zmq hT1.sm hT1.plan) rfl (.inr rfl) ?_
 simp(disch:=omega)only[↓RU,RW,↓reduceIte,qE,reduceCtorEq,iP,qN,↓RS,RG,qA,qM,qL]
 apply hK;clear hK K
 have hT2:=zlh hT1.plan
 refine W.r fun K hK=>?_
 simp(disch:=omega)only[↓RU,RW,↓reduceIte,qE,reduceCtorEq,iP,qN,↓RS,RG,qA,qM,qL]
 refine zac.pc (zmq hT2.sm hT2.plan) rfl (.inr rfl) ?_
 simp(disch:=omega)only[↓RU,RW,↓reduceIte,qE,reduceCtorEq,iP,qN,↓RS,RG,qA,qM,qL]
 apply hK;clear hK K
 have hT3:=zlh hT2.plan
 refine W.r fun K hK=>?_
 simp(disch:=omega)only[↓RU,RW,↓reduceIte,qE,reduceCtorEq,iP,qN,↓RS,RG,qA,qM,qL]
 refine zac.pc (zmq hT3.sm hT3.plan) rfl (.inr rfl) ?_
 simp(disch:=omega)only[↓RU,RW,↓reduceIte,qE,reduceCtorEq,iP,qN,↓RS,RG,qA,qM,qL]
 apply hK;clear hK K
 rw [zz4 hT1 hT2 hT3 (zlh hT3.plan)]
 refine W.r fun K hK=>?_
 simp(disch:=omega)only[↓RU,RW,↓reduceIte,qE,reduceCtorEq,iP,qN,↓RS,RG,qA,qM,qL]
 refine zac.pc (zyt hs hp) rfl (.inr rfl) ?_
 simp(disch:=omega)only[↓RU,RW,↓reduceIte,qE,reduceCtorEq,iP,qN,↓RS,RG,qA,qM,qL]
 apply hK;clear hK K
 have hF1:=z8h hp
 refine W.r fun K hK=>?_
 simp(disch:=omega)only[↓RU,RW,↓reduceIte,qE,reduceCtorEq,iP,qN,↓RS,RG,qA,qM,qL]
 refine zac.pc (zyt hF1.sm hF1.plan) rfl (.inr rfl) ?_
 simp(disch:=omega)only[↓RU,RW,↓reduceIte,qE,reduceCtorEq,iP,qN,↓RS,RG,qA,qM,qL]
 apply hK;clear hK K
 rw [ydd hF1 (z8h hF1.plan)]
 refine W.r fun K hK=>?_
 simp(disch:=omega)only[↓RU,RW,↓reduceIte,qE,reduceCtorEq,iP,qN,↓RS,RG,qA,qM,qL]
 refine zac.pc (zyx hs hp) rfl (.inr rfl) ?_
 simp(disch:=omega)only[↓RU,RW,↓reduceIte,qE,reduceCtorEq,iP,qN,↓RS,RG,qA,qM,qL]
 apply hK;clear hK K
 have hX1:=yb2 hp
 refine W.r fun K hK=>?_
 simp(disch:=omega)only[↓RU,RW,↓reduceIte,qE,reduceCtorEq,iP,qN,↓RS,RG,qA,qM,qL]
 refine zac.pc (zyx hX1.sm hX1.plan) rfl (.inr rfl) ?_
 simp(disch:=omega)only[↓RU,RW,↓reduceIte,qE,reduceCtorEq,iP,qN,↓RS,RG,qA,qM,qL]
 apply hK;clear hK K
 rw [yey hX1 (yb2 hX1.plan)]
 refine W.seq ?_
 refine W.r fun K hK=>?_
 simp(disch:=omega)only[↓RU,RW,↓reduceIte,qE,reduceCtorEq,iP,qN,↓RS,RG,qA,qM,qL,zel,qO,bne_self_eq_false,beq_self_eq_true,Bool.not_true,Bool.not_false,decide_true]
 refine zac.pc (zv4 (p:=p) (q:=p) hs) rfl (.inl rfl) ?_
 simp(disch:=omega)only[↓RU,RW,↓reduceIte,qE,reduceCtorEq,iP,qN,↓RS,RG,qA,qM,qL,zel,qO,bne_self_eq_false,beq_self_eq_true,Bool.not_true,Bool.not_false,decide_true]
 refine zac.pc (zv4 (p:=p) (q:=p) hs) rfl (.inl rfl) ?_
 simp(disch:=omega)only[↓RU,RW,↓reduceIte,qE,reduceCtorEq,iP,qN,↓RS,RG,qA,qM,qL,zel,qO,bne_self_eq_false,beq_self_eq_true,Bool.not_true,Bool.not_false,decide_true]
 refine zac.pc (zv4 (p:=p) (q:=p) hs) rfl (.inl rfl) ?_
 simp(disch:=omega)only[↓RU,RW,↓reduceIte,qE,reduceCtorEq,iP,qN,↓RS,RG,qA,qM,qL,zel,qO,bne_self_eq_false,beq_self_eq_true,Bool.not_true,Bool.not_false,decide_true]
 apply hK;clear hK K
 refine W.cond rfl (fun h4=>?_) (fun h4=>?_)
 ·try simp only[RL]at h4
  exact absurd h4 (by simp)
 try simp only[RL]at h4
 refine W.skip ?_
 refine xn ?_
 refine W.r fun K hK=>?_
 simp(disch:=omega)only[↓RU,RW,↓reduceIte,qE,reduceCtorEq,iP,qN,↓RS,RG,qA,qM,qL]
 refine zac.pc (zjt hs hp) rfl (.inl rfl) ?_
 simp(disch:=omega)only[↓RU,RW,↓reduceIte,qE,reduceCtorEq,iP,qN,↓RS,RG,qA,qM,qL]
 apply hK;clear hK K
 refine W.r fun K hK=>?_
 have hW:=zjt hT1.sm hT1.plan
 rw [yc8 hT1]at hW
 simp(disch:=omega)only[↓RU,RW,↓reduceIte,qE,reduceCtorEq,iP,qN,↓RS,RG,qA,qM,qL]
 refine zac.pc (hW) rfl (.inl rfl) ?_
 simp(disch:=omega)only[↓RU,RW,↓reduceIte,qE,reduceCtorEq,iP,qN,↓RS,RG,qA,qM,qL]
 apply hK;clear hK K
 refine W.r fun K hK=>?_
 have hW:=zjt hF1.sm hF1.plan
 rw [yc7 hF1]at hW
 simp(disch:=omega)only[↓RU,RW,↓reduceIte,qE,reduceCtorEq,iP,qN,↓RS,RG,qA,qM,qL]
 refine zac.pc (hW) rfl (.inl rfl) ?_
 simp(disch:=omega)only[↓RU,RW,↓reduceIte,qE,reduceCtorEq,iP,qN,↓RS,RG,qA,qM,qL]
 apply hK;clear hK K
 refine W.r fun K hK=>?_
 simp(disch:=omega)only[↓RU,RW,↓reduceIte,qE,reduceCtorEq,iP,qN,↓RS,RG,qA,qM,qL]
 refine zac.pc (z0s hs hp) rfl (.inr rfl) ?_
 simp(disch:=omega)only[↓RU,RW,↓reduceIte,qE,reduceCtorEq,iP,qN,↓RS,RG,qA,qM,qL]
 apply hK;clear hK K
 refine W.r fun K hK=>?_
 simp(disch:=omega)only[↓RU,RW,↓reduceIte,qE,reduceCtorEq,iP,qN,↓RS,RG,qA,qM,qL]
 refine zac.pc (zsz hs hp) rfl (.inl rfl) ?_
 simp(disch:=omega)only[↓RU,RW,↓reduceIte,qE,reduceCtorEq,iP,qN,↓RS,RG,qA,qM,qL]
 apply hK;clear hK K
 refine W.r fun K hK=>?_
 have hW:=zsz hT1.sm hT1.plan
 rw [z72 hT1]at hW
 simp(disch:=omega)only[↓RU,RW,↓reduceIte,qE,reduceCtorEq,iP,qN,↓RS,RG,qA,qM,qL]
 refine zac.pc (hW) rfl (.inl rfl) ?_
 simp(disch:=omega)only[↓RU,RW,↓reduceIte,qE,reduceCtorEq,iP,qN,↓RS,RG,qA,qM,qL]
 apply hK;clear hK K
 refine W.r fun K hK=>?_
 obtain ⟨xf,hxf⟩:=z0q hs hp
 simp(disch:=omega)only[↓RU,RW,↓reduceIte,qE,reduceCtorEq,iP,qN,↓RS,RG,qA,qM,qL]
 refine zac.pc (hxf) rfl (.inl rfl) ?_
 simp(disch:=omega)only[↓RU,RW,↓reduceIte,qE,reduceCtorEq,iP,qN,↓RS,RG,qA,qM,qL]
 apply hK;clear hK K
 refine W.seq ?_
 refine W.r fun K hK=>?_
 have hCT:=zus hT1.sm
 rw [z70 hT1]at hCT
 have hce:=yc6 hp
 have hbi:(((crs (zaf p) p.length (zag p).length:Nat):Int) != (crs (zaf p) p.length (zag p).length:Nat))=false:=bne_self_eq_false _
 simp(disch:=omega)only[↓RU,RW,↓reduceIte,qE,reduceCtorEq,iP,w64,qN,↓RS,RG,qA,qM,qL,zad,zaa,zel,qO,bne_self_eq_false,beq_self_eq_true,Bool.not_true,Bool.not_false,decide_true,yh2,hce,z73]
 refine zac.pc (znd hs) rfl (.inl rfl) ?_
 simp(disch:=omega)only[↓RU,RW,↓reduceIte,qE,reduceCtorEq,iP,w64,qN,↓RS,RG,qA,qM,qL,zad,zaa,zel,qO,bne_self_eq_false,beq_self_eq_true,Bool.not_true,Bool.not_false,decide_true,yh2,hce,z73]
 refine zac.pc (hCT) rfl (.inl rfl) ?_
 simp(disch:=omega)only[↓RU,RW,↓reduceIte,qE,reduceCtorEq,iP,w64,qN,↓RS,RG,qA,qM,qL,zad,zaa,zel,qO,bne_self_eq_false,beq_self_eq_true,Bool.not_true,Bool.not_false,decide_true,yh2,hce,z73]
 apply hK;clear hK K
 refine W.cond rfl (fun h5=>?_) (fun h5=>?_)
 ·try simp only[RL]at h5
  exact absurd h5 (by simp)
 try simp only[RL]at h5
 refine W.skip ?_
 refine xn ?_
 refine W.r fun K hK=>?_
 obtain ⟨r,hr,hrl,hrb⟩:=zx6 hp
 simp(disch:=omega)only[↓RU,RW,↓reduceIte,qE,reduceCtorEq,iP,qN,↓RS,RG,qA,qM,qL]
 refine zac.pc (zsh hs hp hr) rfl (.inl rfl) ?_
 simp(disch:=omega)only[↓RU,RW,↓reduceIte,qE,reduceCtorEq,iP,qN,↓RS,RG,qA,qM,qL]
 apply hK;clear hK K
 have hmx:=hrb _ (z3h (l:=r) (fun e=>by rw [e]at hrl; have:=zrj hp; simp only[List.length_nil]at hrl; omega))
 have hlt:decide (yjd r+1<1)=false:=decide_eq_false (by omega)
 have hgt:decide (yjd r+1>4)=false:=decide_eq_false (by omega)
 refine W.seq ?_
 refine W.r fun K hK=>?_
 simp(disch:=omega)only[↓RU,RW,↓reduceIte,qE,reduceCtorEq,iP,w64,↓RS,RG,qA,qM,qL,zaa,hlt,hgt]
 apply hK;clear hK K
 refine W.cond rfl (fun h6=>?_) (fun h6=>?_)
 ·try simp only[RL]at h6
  exact absurd h6 (by simp)
 try simp only[RL]at h6
 refine W.skip ?_
 refine xn ?_
 refine W.seq ?_
 refine W.r fun K hK=>?_
 simp(disch:=omega)only[↓RU,RW,↓reduceIte,qE,reduceCtorEq,iP,w64,↓RS,RG,qA,qM,qL,zaa]
 apply hK;clear hK K
 refine W.cond rfl (fun h7=>?_) (fun h7=>?_)
 ·try simp only[RL]at h7
  refine W.r fun K hK=>?_
  simp(disch:=omega)only[↓RU,RW,↓reduceIte,qE,reduceCtorEq,iP,↓RS,RG,qA,qM,qL]
  apply hK;clear hK K
  refine W.ret ?_
  refine XThen.ret ?_
  refine Br rfl ?_
  rfl
 try simp only[RL]at h7
 have hpl:=zgj (p:=p)
 have hn0:=zrj hp
 refine W.skip ?_
 refine xn ?_
 refine W.r fun K hK=>?_
 cases hvi:zdx p
 ·skip
  simp(disch:=omega)only[↓RU,RW,↓reduceIte,qE,reduceCtorEq,iP,qN,↓RS,RG,qA,qM,qL]
  refine zac.pc (zyb hs hvi) rfl (.inr rfl) ?_
  simp(disch:=omega)only[↓RU,RW,↓reduceIte,qE,reduceCtorEq,iP,qN,↓RS,RG,qA,qM,qL]
  apply hK;clear hK K
  refine W.r fun K hK=>?_
  simp(disch:=omega)only[↓RU,RW,↓reduceIte,qE,reduceCtorEq,iP,qN,w64,↓RS,RG,qA,qM,qL,zad,zel,qO,bne_self_eq_false,beq_self_eq_true,Bool.not_true,Bool.not_false,decide_true]
  apply hK;clear hK K
  refine W.ret ?_
  refine Br rfl ?_
  rfl
 skip
 have hpp:=yac hvi
 simp(disch:=omega)only[↓RU,RW,↓reduceIte,qE,reduceCtorEq,iP,qN,↓RS,RG,qA,qM,qL]
 refine zac.pc (zvl hs hvi) rfl (.inr rfl) ?_
 simp(disch:=omega)only[↓RU,RW,↓reduceIte,qE,reduceCtorEq,iP,qN,↓RS,RG,qA,qM,qL]
 apply hK;clear hK K
 refine W.r fun K hK=>?_
 simp(disch:=omega)only[↓RU,RW,↓reduceIte,qE,reduceCtorEq,iP,qN,w64,↓RS,RG,qA,qM,qL,zad,zel,qO,bne_self_eq_false,beq_self_eq_true,Bool.not_true,Bool.not_false,decide_true]
 refine zac.pc (z1l (fv:=true) (by omega) (by omega) (z33 hpp) ⟨fun _=>yab hpp,fun _=>rfl⟩) rfl (.inl rfl) ?_
 simp(disch:=omega)only[↓RU,RW,↓reduceIte,qE,reduceCtorEq,iP,qN,w64,↓RS,RG,qA,qM,qL,zad,zel,qO,bne_self_eq_false,beq_self_eq_true,Bool.not_true,Bool.not_false,decide_true]
 refine zac.pc (zys (by omega) (by omega) (z33 hpp) (z9h hpp).symm) rfl (.inl rfl) ?_
 simp(disch:=omega)only[↓RU,RW,↓reduceIte,qE,reduceCtorEq,iP,qN,w64,↓RS,RG,qA,qM,qL,zad,zel,qO,bne_self_eq_false,beq_self_eq_true,Bool.not_true,Bool.not_false,decide_true]
 apply hK;clear hK K
 refine W.ret ?_
 refine Br rfl ?_
 rfl
end Fw
end Go.Proofs.YtbbphnladjdllaaGreat
namespace Go.Proofs.YtbbphnladjdllaaGreat
open Go Go.ChangeShapes Go.WideShapes Go.ChangeAt Go.RowKit Fw
theorem Tryz.ownRxa:ownKnob Tryz.prog.godebug=none:=by kernel_rfl
theorem Tryz.laidOutRxa:laidOutB Tryz.prog=true:=by kernel_rfl
set_option maxRecDepth 100000 in
theorem vi_text {W:World} {base:Nat} {v:Value} (hval:Value.okWide Tryz.prog W .any base 9 v):∃ l:Txt,VI W.heap (fun b=>b<W.heap.size) (.str l) v∧l.length≤9223372036854775807:=by
 have hv:=hval
 obtain ⟨s,rfl⟩:=okWide_string Tryz.underlying9 hval
 simp only[Value.okWide,Tryz.underlying9,Cell.okWide,Cell.ok]at hv
 have h2:IntKind.i64.max=9223372036854775807:=rfl
 have h3:s.data.toList.length=s.size:=Array.length_toList
 exact ⟨s.data.toList,.str _ _ rfl,by omega⟩
set_option maxRecDepth 100000 in
theorem rxa_lifted (os:Os) (started:os.Started) (H:Type) (enc:TypeId × Value→H) :
  ReturnsInHanded {} Tryz.checked os 3 .any (Rows.fnPlanWholeSpec.pre6 enc Tryz.prog Tryz.f3 Rows.fnPlanWholeRow.domain false) (Rows.fnPlanWholeSpec.post enc Tryz.prog Tryz.f3 false true false false):=by
 refine returnsInHanded_of_change (C:=Tryz.checked) Tryz.ownRxa started (by kernel_rfl) Tryz.func3
  (ChangeSpec.witness6 (enc:=enc) (C:=Tryz.checked) false ⟨#[],#[.string ByteArray.empty],[]⟩ 8 (by kernel_rfl) (by kernel_rfl) (by kernel_rfl) (by kernel_rfl)) ?_
 intro W base args ds gs before hval0 hW hcnd _
 have hval:∀ (j:Nat) t v,Tryz.f3.params[j]?=some t→args[j]?=some v→Value.okWide Tryz.prog W .any base t v:=hval0
 have hW':=hW
 obtain ⟨p,q,hA0,hV,rfl,hfz,hnd⟩:=hW
 have hA:DataW.TrodAll enc Tryz.prog W 0 (fun _=>true) true Tryz.f3.params.toList args.toList ds p:=hA0
 rw [Tryz.params3]at hA hval
 obtain ⟨v0,d0,rfl,rfl,h0⟩:=trodAll_one hA
 obtain ⟨rfl,rfl⟩:=trodVars_none hV
 obtain ⟨l0,i0,b0⟩:=vi_text (hval 0 _ v0 rfl rfl)
 have hlt:∀ x∈p,x.block<W.heap.size:=fun x hx=>hW'.lt x (by simp [hx])
 refine ((zvo b0).run (fun b=>b<W.heap.size) W #[v0] (fun _ h=>h) rfl ?_).mono ?_
 ·rintro (_ | i) p c hp hc
  ·cases hp; cases hc; exact i0
  simp at hp
 rintro e W' ⟨cv,rfl,⟨hB,_⟩,hr⟩
 have hcv:cv = .bool true:=by cases hr; rfl
 subst hcv
 have t0:=Below.trod Tryz.laidOutRxa (by kernel_rfl) (of_decide_eq_true (by kernel_rfl)) h0 hB fun x hx=>hlt x (by simp [hx])
 refine ⟨_,rfl,_,_,_,[],p,[],hW',?_,?_,?_,hB.frame _,fun h=>by cases h⟩
 ·exact trodAll_mk1 (shut_bool Tryz.underlying4 true)
 ·rw [Tryz.params3]; exact trodAll_mk1 t0
 trivial
theorem rxa_holds:Rows.FnPlanWholeSaid :=
 OpenClaim.holds_of_wide 3 Tryz.f3 rfl rfl rfl rfl rfl rfl rfl ⟨rfl,rfl,rfl,rfl,rfl⟩ rfl rfl rfl rfl rfl (by kernel_rfl) Tryz.func3 (by kernel_rfl)
  (of_decide_eq_true (by kernel_rfl)) (by unfold Func.isWrapper; first | (rw [if_pos (by decide +kernel)]; kernel_rfl) | (rw [if_neg (by decide +kernel)]; exact ⟨rfl,rfl⟩))
  (fun os started H enc _=>rxa_lifted os started H enc)
end Go.Proofs.YtbbphnladjdllaaGreat
