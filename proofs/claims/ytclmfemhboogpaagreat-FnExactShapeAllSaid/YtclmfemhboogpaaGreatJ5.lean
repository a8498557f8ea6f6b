/- The program's ShapeAll answers as the specification's, for all arguments, in rows of its own: the statement FnExactShapeAll. No condition. -/
import Derived.Test.YtclmfemhboogpaaGreatJ4
import Derived.Test.YtclmfemhboogpaaGreatJ3
import Derived.Shelf.SlSortCmp.WholeK
import Derived.Ground.SlsfProg
import Derived.Test.YtclmfemhboogpaaGreatProg
import Derived.Test.YtclmfemhboogpaaGreatJ1
import Derived.Lib.ConvBytes
import Derived.Test.YtclmfemhboogpaaGreatJ2
set_option linter.all false
namespace Go.Proofs.YtclmfemhboogpaaGreat
namespace Fw
open Go
open Nat (reduceEqDiff reduceLeDiff reduceAdd reduceMul)
abbrev Shp := Int × Int
def Stc (l : List Shp) : Prop := l.Pairwise fun x y => x.1 < y.1 ∧ y.2 < x.2
def Dom (l : List Shp) (x : Shp) : Prop := ∃ y ∈ l,y.1 ≤ x.1 ∧ y.2 ≤ x.2
theorem pw_or {α : Type} {R : α → α → Prop} : ∀ {l : List α},l.Pairwise R → ∀ {x y : α},x ∈ l → y ∈ l → x = y ∨ R x y ∨ R y x
 | [],_,x,y,h,_ => by simp at h
 | a :: l,hp,x,y,hx,hy => by
  obtain ⟨h1,h2⟩ := List.pairwise_cons.1 hp
  rcases List.mem_cons.1 hx with ex | ex
  ·rcases List.mem_cons.1 hy with ey | ey
   ·exact .inl (ex.trans ey.symm)
   ·rw [ex]; exact .inr (.inl (h1 _ ey))
  ·rcases List.mem_cons.1 hy with ey | ey
   ·rw [ey]; exact .inr (.inr (h1 _ ex))
   ·exact pw_or h2 ex ey
theorem Stc.one {l : List Shp} (h : Stc l) {x y : Shp} (hx : x ∈ l) (hy : y ∈ l) (h1 : x.1 ≤ y.1) (h2 : x.2 ≤ y.2) : x = y := by
 rcases pw_or h hx hy with e | e | e
 ·exact e
 ·omega
 ·omega
theorem stc_mem : ∀ {B C : List Shp},Stc B → Stc C → (∀ x,x ∈ B ↔ x ∈ C) → B = C
 | [],[],_,_,_ => rfl
 | [],c :: C,_,_,h => by have := (h c).2 (by simp); simp at this
 | b :: B,[],_,_,h => by have := (h b).1 (by simp); simp at this
 | b :: B,c :: C,hB,hC,h => by
  obtain ⟨b1,b2⟩ := List.pairwise_cons.1 hB
  obtain ⟨c1,c2⟩ := List.pairwise_cons.1 hC
  have e : b = c := by
   rcases List.mem_cons.1 ((h b).1 (by simp)) with e | e
   ·exact e
   ·rcases List.mem_cons.1 ((h c).2 (by simp)) with e2 | e2
    ·exact e2.symm
    ·have := c1 b e; have := b1 c e2; omega
  subst e
  congr 1
  refine stc_mem b2 c2 fun x => ⟨fun hx => ?_,fun hx => ?_⟩
  ·rcases List.mem_cons.1 ((h x).1 (List.mem_cons_of_mem _ hx)) with e | e
   ·subst e; have := b1 x hx; omega
   ·exact e
  ·rcases List.mem_cons.1 ((h x).2 (List.mem_cons_of_mem _ hx)) with e | e
   ·subst e; have := c1 x hx; omega
   ·exact e
theorem stc_uniq {B C : List Shp} (hB : Stc B) (hC : Stc C) (h1 : ∀ x ∈ B,Dom C x) (h2 : ∀ x ∈ C,Dom B x) : B = C := by
 have key : ∀ {B C : List Shp},Stc B → (∀ x ∈ B,Dom C x) → (∀ x ∈ C,Dom B x) → ∀ x ∈ B,x ∈ C := by
  intro B C hB h1 h2 x hx
  obtain ⟨y,hy,y1,y2⟩ := h1 x hx
  obtain ⟨z,hz,z1,z2⟩ := h2 y hy
  have e := hB.one hz hx (by omega) (by omega)
  subst e
  have e2 : y = z := Prod.ext (by omega) (by omega)
  rw [← e2]; exact hy
 exact stc_mem hB hC fun x => ⟨key hB h1 h2 x,key hC h2 h1 x⟩
structure Best (l B : List Shp) : Prop where
 st : Stc B
 sub : ∀ x ∈ B,x ∈ l
 dom : ∀ x ∈ l,Dom B x
theorem Best.uniq {l B C : List Shp} (h : Best l B) (k : Best l C) : B = C := stc_uniq h.st k.st (fun x hx => k.dom x (h.sub x hx)) fun x hx => h.dom x (k.sub x hx)
theorem Best.mem {l m B : List Shp} (h : Best l B) (e : ∀ x,x ∈ l ↔ x ∈ m) : Best m B := ⟨h.st,fun x hx => (e x).1 (h.sub x hx),fun x hx => h.dom x ((e x).2 hx)⟩
def bsS (out : List Shp) (s : Shp) : List Shp :=
 match out.getLast? with
 | none => [s]
 | some q => if s.2 < q.2 then out ++ [s] else out
def bsF (z : List Shp) : List Shp := z.foldl bsS []
theorem bsF_succ {z : List Shp} {i : Nat} {x : Shp} (h : z[i]? = some x) : bsF (z.take (i + 1)) = bsS (bsF (z.take i)) x := foldl_tk h
def LexLe (x y : Shp) : Prop := x.1 < y.1 ∨ (x.1 = y.1 ∧ x.2 ≤ y.2)
theorem bsS_len {o : List Shp} {s : Shp} : (bsS o s).length ≤ o.length + 1 := by
 unfold bsS
 split
 ·simp
 ·split <;> simp
theorem bsF_len (z : List Shp) : ∀ i,i ≤ z.length → (bsF (z.take i)).length ≤ i
 | 0,_ => by simp [bsF]
 | i + 1,hi => by
  obtain ⟨x,hx,-⟩ := get_of (show i < z.length by omega)
  have := bsF_len z i (by omega)
  rw [bsF_succ hx]
  have := bsS_len (o := bsF (z.take i)) (s := x)
  omega
theorem bsF_inv {z : List Shp} (hz : z.Pairwise LexLe) : ∀ i,i ≤ z.length → Best (z.take i) (bsF (z.take i)) ∧ ∀ q,(bsF (z.take i)).getLast? = some q → ∀ x ∈ z.take i,q.2 ≤ x.2
 | 0,_ => by
  refine ⟨⟨?_,?_,?_⟩,?_⟩
  ·simp [bsF,Stc]
  ·simp [bsF]
  ·simp
  ·simp
 | i + 1,hi => by
  obtain ⟨⟨h1,h2,h3⟩,h4⟩ := bsF_inv hz i (by omega)
  obtain ⟨s,hs,-⟩ := get_of (show i < z.length by omega)
  have et : z.take (i + 1) = z.take i ++ [s] := tk hs
  rw [bsF_succ hs,et]
  have hlex : ∀ x ∈ z.take i,LexLe x s := by
   have := List.pairwise_iff_getElem.1 hz
   intro x hx
   obtain ⟨j,hj⟩ := List.getElem?_of_mem hx
   have hjl := len_of hj
   rw [List.length_take] at hjl
   rw [List.getElem?_take_of_lt (by omega)] at hj
   obtain ⟨a1,a2⟩ := List.getElem?_eq_some_iff.1 hj
   obtain ⟨b1,b2⟩ := List.getElem?_eq_some_iff.1 hs
   rw [← a2,← b2]
   exact this j i a1 b1 (by omega)
  generalize bsF (z.take i) = o at h1 h2 h3 h4
  unfold bsS
  cases ho : o.getLast? with
  | none =>
   have e : o = [] := List.getLast?_eq_none_iff.1 ho
   subst e
   have en : z.take i = [] := by
    cases hq : z.take i with
    | nil => rfl
    | cons a l => obtain ⟨y,hy,-⟩ := h3 a (by rw [hq]; simp); simp at hy
   rw [en]
   simp only [List.nil_append]
   refine ⟨⟨List.pairwise_singleton _ _,fun x hx => hx,fun x hx => ⟨x,hx,Int.le_refl _,Int.le_refl _⟩⟩,fun q hq x hx => ?_⟩
   simp at hq hx; subst hq; subst hx; exact Int.le_refl _
  | some q =>
   have hqm : q ∈ o := List.mem_of_getLast? ho
   have hql := hlex q (h2 q hqm)
   simp only
   by_cases c : s.2 < q.2
   ·rw [if_pos c]
    have hq1 : q.1 < s.1 := by rcases hql with e | ⟨e,e2⟩ <;> omega
    have hall : ∀ y ∈ o,y.1 < s.1 ∧ s.2 < y.2 := by
     intro y hy
     have hyq : q.2 ≤ y.2 := h4 q ho y (h2 y hy)
     rcases hlex y (h2 y hy) with e | ⟨e,e2⟩ <;> omega
    refine ⟨⟨List.pairwise_append.2 ⟨h1,List.pairwise_singleton _ _,fun y hy x hx => by simp at hx; subst hx; exact hall y hy⟩,fun x hx => ?_,fun x hx => ?_⟩,fun r hr x hx => ?_⟩
    ·rcases List.mem_append.1 hx with e | e
     ·exact List.mem_append_left _ (h2 x e)
     ·exact List.mem_append_right _ e
    ·rcases List.mem_append.1 hx with e | e
     ·obtain ⟨y,hy,k⟩ := h3 x e; exact ⟨y,List.mem_append_left _ hy,k⟩
     ·exact ⟨x,List.mem_append_right _ e,Int.le_refl _,Int.le_refl _⟩
    ·simp at hr; subst hr
     rcases List.mem_append.1 hx with e | e
     ·have := h4 q ho x e; omega
     ·simp at e; subst e; exact Int.le_refl _
   ·rw [if_neg c]
    refine ⟨⟨h1,fun x hx => List.mem_append_left _ (h2 x hx),fun x hx => ?_⟩,fun r hr x hx => ?_⟩
    ·rcases List.mem_append.1 hx with e | e
     ·exact h3 x e
     ·simp at e; subst e
      exact ⟨q,hqm,by rcases hql with e | ⟨e,-⟩ <;> omega,by omega⟩
    ·rw [ho] at hr; cases hr
     rcases List.mem_append.1 hx with e | e
     ·exact h4 q ho x e
     ·simp at e; subst e; omega
theorem bs_best {z l : List Shp} (hz : z.Pairwise LexLe) (hp : z.Perm l) : Best l (bsF z) := by
 have h := (bsF_inv hz z.length (Nat.le_refl _)).1
 rw [List.take_length] at h
 exact h.mem fun x => hp.mem_iff
theorem put_stc {l : List Shp} (hl : Stc l) {w h : Int} : Stc (put l w h) := by
 unfold put
 by_cases hd : l.any (fun x => domB x w h) = true
 ·rw [if_pos hd]; exact hl
 ·rw [if_neg hd]
  have hno : ∀ x ∈ l,w < x.1 ∨ h < x.2 := by
   intro x hx
   have := hd
   rw [List.any_eq_true] at this
   refine Classical.byContradiction fun hn => this ⟨x,hx,?_⟩
   unfold domB
   simp only [Bool.and_eq_true,decide_eq_true_eq]
   omega
  have key : ∀ i,i ≤ l.length → Stc (putF (l.take i) w h).1 ∧ (∀ y ∈ (putF (l.take i) w h).1,(y ∈ l.take i ∧ ¬ (w ≤ y.1 ∧ h ≤ y.2)) ∨ (y = (w,h) ∧ (putF (l.take i) w h).2 = true)) ∧
    ((putF (l.take i) w h).2 = false → ∀ y ∈ (putF (l.take i) w h).1,y.1 < w ∧ h < y.2) ∧ ((putF (l.take i) w h).2 = true → ∃ x ∈ l.take i,w < x.1) := by
   intro i
   induction i with
   | zero => intro _; simp [putF,Stc]
   | succ i ih =>
    intro hi
    obtain ⟨k1,k2,k3,k4⟩ := ih (by omega)
    obtain ⟨x,hx,hxm⟩ := get_of (show i < l.length by omega)
    have e : putF (l.take (i + 1)) w h = putStep w h (putF (l.take i) w h) x := foldl_tk hx
    have et : l.take (i + 1) = l.take i ++ [x] := tk hx
    have hlt : ∀ y ∈ l.take i,y.1 < x.1 ∧ x.2 < y.2 := by
     have := List.pairwise_iff_getElem.1 hl
     intro y hy
     obtain ⟨j,hj⟩ := List.getElem?_of_mem hy
     have hjl := len_of hj
     rw [List.length_take] at hjl
     rw [List.getElem?_take_of_lt (by omega)] at hj
     obtain ⟨a1,a2⟩ := List.getElem?_eq_some_iff.1 hj
     obtain ⟨b1,b2⟩ := List.getElem?_eq_some_iff.1 hx
     rw [← a2,← b2]
     exact this j i a1 b1 (by omega)
    have hnx := hno x hxm
    rw [e,et]
    generalize putF (l.take i) w h = s at k1 k2 k3 k4
    obtain ⟨o,d⟩ := s
    unfold putStep
    simp only at k1 k2 k3 k4 ⊢
    by_cases c1 : w ≤ x.1 ∧ h ≤ x.2
    ·rw [if_pos c1]
     refine ⟨k1,fun y hy => ?_,k3,fun hd => ?_⟩
     ·rcases k2 y hy with ⟨a,b⟩ | b
      ·exact .inl ⟨List.mem_append_left _ a,b⟩
      ·exact .inr b
     ·obtain ⟨z,hz,hzw⟩ := k4 hd; exact ⟨z,List.mem_append_left _ hz,hzw⟩
    ·rw [if_neg c1]
     by_cases c2 : d = false ∧ w < x.1
     ·rw [if_pos c2]
      obtain ⟨rfl,c3⟩ := c2
      have k5 := k3 rfl
      refine ⟨?_,fun y hy => ?_,fun hd => by simp at hd,fun _ => ⟨x,by simp,c3⟩⟩
      ·refine List.pairwise_append.2 ⟨k1,?_,fun y hy z hz => ?_⟩
       ·refine List.pairwise_cons.2 ⟨fun z hz => ?_,List.pairwise_singleton _ _⟩
        simp at hz; subst hz
        exact ⟨c3,by omega⟩
       ·simp at hz
        have hy5 := k5 y hy
        rcases hz with rfl | rfl
        ·exact hy5
        ·rcases k2 y hy with ⟨a,b⟩ | ⟨-,b⟩
         ·exact hlt y a
         ·cases b
      ·simp only [List.mem_append,List.mem_cons,List.not_mem_nil,or_false] at hy
       rcases hy with a | a | a
       ·rcases k2 y a with ⟨q,r⟩ | ⟨-,q⟩
        ·exact .inl ⟨List.mem_append_left _ q,r⟩
        ·cases q
       ·exact .inr ⟨a,rfl⟩
       ·subst a; exact .inl ⟨by simp,c1⟩
     ·rw [if_neg c2]
      refine ⟨?_,fun y hy => ?_,fun hd => ?_,fun hd => ?_⟩
      ·refine List.pairwise_append.2 ⟨k1,List.pairwise_singleton _ _,fun y hy z hz => ?_⟩
       simp at hz; subst hz
       rcases k2 y hy with ⟨a,b⟩ | ⟨a,b⟩
       ·exact hlt y a
       ·subst a
        obtain ⟨q,hq,hqw⟩ := k4 b
        have := hlt q hq
        simp only
        omega
      ·rcases List.mem_append.1 hy with a | a
       ·rcases k2 y a with ⟨q,r⟩ | q
        ·exact .inl ⟨List.mem_append_left _ q,r⟩
        ·exact .inr q
       ·simp at a; subst a; exact .inl ⟨by simp,c1⟩
      ·intro y hy
       rcases List.mem_append.1 hy with a | a
       ·exact k3 hd y a
       ·simp at a; subst a
        have : ¬ w < y.1 := fun q => c2 ⟨hd,q⟩
        omega
      ·obtain ⟨z,hz,hzw⟩ := k4 hd; exact ⟨z,List.mem_append_left _ hz,hzw⟩
  obtain ⟨k1,k2,k3,k4⟩ := key l.length (Nat.le_refl _)
  rw [List.take_length] at k1 k2 k3 k4
  cases hd2 : (putF l w h).2 with
  | true => rw [if_pos rfl]; exact k1
  | false =>
   rw [if_neg (by simp)]
   refine List.pairwise_append.2 ⟨k1,List.pairwise_singleton _ _,fun y hy z hz => ?_⟩
   simp at hz; subst hz
   exact k3 hd2 y hy
theorem all_best {sh : Nat → Int × Int} (k : Nat) : Best ((List.range k).map sh) (allP sh k) := by
 obtain ⟨h1,h2,-⟩ := allP_inv (sh := sh) k
 refine ⟨?_,fun x hx => ?_,fun x hx => ?_⟩
 ·have : ∀ k,Stc (allP sh k) := by
   intro k
   induction k with
   | zero => simp [allP,Stc]
   | succ k ih => rw [allP_succ]; exact put_stc ih
  exact this k
 ·obtain ⟨s,hs,rfl⟩ := h1 x hx
  exact List.mem_map.2 ⟨s,List.mem_range.2 hs,rfl⟩
 ·obtain ⟨s,hs,rfl⟩ := List.mem_map.1 hx
  exact h2 s (List.mem_range.1 hs)
theorem best_same {z : List Shp} {sh : Nat → Int × Int} {k : Nat} (hz : z.Pairwise LexLe) (hp : z.Perm ((List.range k).map sh)) : bsF z = allP sh k := (bs_best hz hp).uniq (all_best k)
def cmpI (a b : Int) : Int := if a < b then -1 else if b < a then 1 else 0
def orI (l : List Int) : Int := (l.find? fun x => decide (x ≠ 0)).getD 0
def cmpSh (x y : Shp) : Int := orI [cmpI x.1 y.1,cmpI x.2 y.2]
theorem orI_0 {l : List Int} : orI (0 :: l) = orI l := by simp [orI]
theorem orI_n {l : List Int} {x : Int} (h : x ≠ 0) : orI (x :: l) = x := by simp [orI,h]
theorem dropc {l : List Int} {i : Nat} {x : Int} (h : l[i]? = some x) : l.drop i = x :: l.drop (i + 1) := by
 obtain ⟨hi,rfl⟩ := List.getElem?_eq_some_iff.1 h
 exact List.drop_eq_getElem_cons hi
theorem compare_pc {x y : Int} : PC Tryz.prog 145 [.int .i64 x,.int .i64 y] (.int .i64 (cmpI x y)) true := by
 refine PC.of ⟨Tryz.func145,by kernel_rfl,rfl,by kernel_rfl⟩ tabOk mixed (by show 2 ≤ Tryz.f145.ntmps; decide) ?_
 refine W.r fun K hK => ?_
 simp (disch := omega) only [↓RU,RV,RH,↓reduceIte,reduceEqDiff,reduceCtorEq,if_pos]
 refine hK _ _ ?_;clear hK K
 refine W.r fun K hK => ?_
 simp (disch := omega) only [↓RU,RV,RH,↓reduceIte,reduceEqDiff,reduceCtorEq,if_pos,List.append_nil]
 refine CallR.pc (isNaN_pc) rfl (.inl rfl) ?_
 simp (disch := omega) only [↓RU,RV,RH,↓reduceIte,reduceEqDiff,reduceCtorEq,if_pos,List.append_nil]
 refine hK _ _ ?_;clear hK K
 refine W.r fun K hK => ?_
 simp (disch := omega) only [↓RU,RV,RH,↓reduceIte,reduceEqDiff,reduceCtorEq,if_pos,List.append_nil]
 refine CallR.pc (isNaN_pc) rfl (.inl rfl) ?_
 simp (disch := omega) only [↓RU,RV,RH,↓reduceIte,reduceEqDiff,reduceCtorEq,if_pos,List.append_nil]
 refine hK _ _ ?_;clear hK K
 refine W.seq ?_
 refine W.r fun K hK => ?_
 simp (disch := omega) only [↓RU,RV,RH,↓reduceIte,reduceEqDiff,reduceCtorEq,if_pos]
 refine hK _ _ ?_;clear hK K
 refine W.cond rfl (fun h => ?_) (fun h => ?_)
 ·try simp only [RL] at h
  exact absurd h (by simp)
 ·try simp only [RL] at h
  refine W.skip ?_
  refine xn ?_
  refine W.seq ?_
  refine W.r fun K hK => ?_
  simp (disch := omega) only [↓RU,RV,RH,↓reduceIte,reduceEqDiff,reduceCtorEq,if_pos]
  refine hK _ _ ?_;clear hK K
  refine W.cond rfl (fun h1 => ?_) (fun h1 => ?_)
  ·try simp only [RL] at h1
   exact absurd h1 (by simp)
  ·try simp only [RL] at h1
   refine W.skip ?_
   refine xn ?_
   refine W.seq ?_
   refine W.r fun K hK => ?_
   simp (disch := omega) only [↓RU,RV,RH,↓reduceIte,reduceEqDiff,reduceCtorEq,if_pos,w64,tyint]
   refine hK _ _ ?_;clear hK K
   refine W.cond rfl (fun h3 => ?_) (fun h3 => ?_)
   ·try simp only [RL] at h3
    refine W.r fun K hK => ?_
    simp (disch := omega) only [↓RU,RV,RH,↓reduceIte,reduceEqDiff,reduceCtorEq,if_pos]
    refine hK _ _ ?_;clear hK K
    refine W.ret ?_
    refine XThen.ret ?_
    refine Br rfl ?_
    rw [cmpI,if_pos (by simpa using h3)]
    rfl
   ·try simp only [RL] at h3
    refine W.skip ?_
    refine xn ?_
    refine W.seq ?_
    refine W.r fun K hK => ?_
    simp (disch := omega) only [↓RU,RV,RH,↓reduceIte,reduceEqDiff,reduceCtorEq,if_pos,w64,tyint]
    refine hK _ _ ?_;clear hK K
    refine W.cond rfl (fun h4 => ?_) (fun h4 => ?_)
    ·try simp only [RL] at h4
     refine W.r fun K hK => ?_
     simp (disch := omega) only [↓RU,RV,RH,↓reduceIte,reduceEqDiff,reduceCtorEq,if_pos]
     refine hK _ _ ?_;clear hK K
     refine W.ret ?_
     refine XThen.ret ?_
     refine Br rfl ?_
     rw [cmpI,if_neg (by simpa using h3),if_pos (by simpa using h4)]
     rfl
    ·try simp only [RL] at h4
     refine W.skip ?_
     refine xn ?_
     refine W.r fun K hK => ?_
     simp (disch := omega) only [↓RU,RV,RH,↓reduceIte,reduceEqDiff,reduceCtorEq,if_pos]
     refine hK _ _ ?_;clear hK K
     refine W.ret ?_
     refine Br rfl ?_
     rw [cmpI,if_neg (by simpa using h3),if_neg (by simpa using h4)]
     rfl
theorem or_pc {l : List Int} (hl : l.length ≤ 1048576) : PC Tryz.prog 144 [eInts l] (.int .i64 (orI l)) true := by
 refine PC.of ⟨Tryz.func144,by kernel_rfl,rfl,by kernel_rfl⟩ tabOk mixed (by show 1 ≤ Tryz.f144.ntmps; decide) ?_
 refine W.r fun K hK => ?_
 simp (disch := omega) only [↓RU,RV,RH,↓reduceIte,reduceEqDiff,reduceCtorEq,if_pos]
 refine hK _ _ ?_;clear hK K
 refine W.r fun K hK => ?_
 simp (disch := omega) only [↓RU,RV,RH,↓reduceIte,reduceEqDiff,reduceCtorEq,if_pos]
 refine hK _ _ ?_;clear hK K
 refine W.seq ?_
 refine W.r fun K hK => ?_
 simp (disch := omega) only [↓RU,RV,RH,↓reduceIte,reduceEqDiff,reduceCtorEq,if_pos,tyLint,tyint]
 refine hK _ _ ?_;clear hK K
 refine W.block ?_
 refine W.loop [0,3,6,7,8] (fun n vs S => ∃ i : Nat,n = l.length - i ∧ i ≤ l.length ∧ (orI l = orI (l.drop i)) ∧ vs = [eInts l,.int .i64 0,eInts l,.int .i64 l.length,.int .i64 i] ∧ S = ⟨[],0⟩) (l.length) ?_ ?_
 ·refine ⟨0,0,rfl,Nat.zero_le _,rfl,?_,rfl⟩
  simp [Env.put,Env.of,argEnv]
 rintro n vs S - ⟨i,rfl,h_i,he,rfl,rfl⟩
 refine W.r fun K hK => ?_
 simp (disch := omega) only [↓RU,RV,RH,↓reduceIte,reduceEqDiff,reduceCtorEq,if_pos,w64,tyint]
 refine hK _ _ ?_;clear hK K
 refine W.seq ?_
 refine W.cond rfl (fun h => ?_) (fun h => ?_)
 ·try simp only [RL] at h
  obtain ⟨x,hx,-⟩ := get_of (show i < l.length by omega)
  refine W.skip ?_
  refine xn ?_
  refine W.seq ?_
  refine W.block ?_
  refine W.r fun K hK => ?_
  simp (disch := omega) only [↓RU,RV,RH,↓reduceIte,reduceEqDiff,reduceCtorEq,if_pos,tyLint,tyint,hx]
  refine hK _ _ ?_;clear hK K
  refine W.r fun K hK => ?_
  simp (disch := omega) only [↓RU,RV,RH,↓reduceIte,reduceEqDiff,reduceCtorEq,if_pos,w64,tyint]
  refine hK _ _ ?_;clear hK K
  refine W.cond rfl (fun h1 => ?_) (fun h1 => ?_)
  ·try simp only [RL] at h1
   refine W.r fun K hK => ?_
   simp (disch := omega) only [↓RU,RV,RH,↓reduceIte,reduceEqDiff,reduceCtorEq,if_pos]
   refine hK _ _ ?_;clear hK K
   refine W.ret ?_
   refine XBlock.ret ?_
   refine XThen.ret ?_
   refine XThen.ret ?_
   refine XBlock.ret ?_
   refine XThen.ret ?_
   refine Br rfl ?_
   rw [he,dropc hx,orI_n (by simpa using h1)]
   rfl
  ·try simp only [RL] at h1
   have h1z : x = 0 := by simpa using h1
   refine W.skip ?_
   refine XbN ?_
   refine xn ?_
   refine W.k fun K hK => ?_
   simp (disch := omega) only [↓RU,RV,RH,↓reduceIte,reduceEqDiff,reduceCtorEq,if_pos,w64,tyint]
   refine hK _ _ ?_;clear hK K
   refine xn ?_
   refine ⟨l.length - (i + 1),by omega,0,i + 1,rfl,by omega,by rw [he,dropc hx,h1z,orI_0],?_,rfl⟩
   simp [Env.put,Env.of]
 ·try simp only [RL] at h
  obtain rfl : i = l.length := by omega
  refine W.exit ?_
  refine xe ?_
  refine xe ?_
  refine XBlock.hit ?_
  refine xn ?_
  refine W.r fun K hK => ?_
  simp (disch := omega) only [↓RU,RV,RH,↓reduceIte,reduceEqDiff,reduceCtorEq,if_pos]
  refine hK _ _ ?_;clear hK K
  refine W.ret ?_
  refine Br rfl ?_
  rw [he,List.drop_length]
  rfl
theorem bestc_pc {x y : Shp} : PC Tryz.prog 143 [.agg (eShp x),.agg (eShp y)] (.int .i64 (cmpSh x y)) true := by
 unfold eShp
 refine PC.of ⟨Tryz.func143,by kernel_rfl,rfl,by kernel_rfl⟩ tabOk mixed (by show 2 ≤ Tryz.f143.ntmps; decide) ?_
 refine W.r fun K hK => ?_
 simp (disch := omega) only [↓RU,RV,RH,↓reduceIte,reduceEqDiff,reduceCtorEq,if_pos,↓RS,RG,reduceAdd,reduceMul,reduceLeDiff,ty16,tyint,ty25]
 refine hK _ _ ?_;clear hK K
 refine W.seq_draw (by kernel_rfl) fun K hK => ?_
 simp (disch := omega) only [↓RU,RV,RH,↓reduceIte,reduceEqDiff,reduceCtorEq,if_pos,List.append_nil,↓RS,RG,reduceAdd,reduceMul,reduceLeDiff,tyLint,ty16,tyint,ty25]
 refine CallR.pc (compare_pc) rfl (.inl rfl) ?_
 simp (disch := omega) only [↓RU,RV,RH,↓reduceIte,reduceEqDiff,reduceCtorEq,if_pos,List.append_nil,↓RS,RG,reduceAdd,reduceMul,reduceLeDiff,tyLint,ty16,tyint,ty25]
 refine CallR.pc (compare_pc) rfl (.inl rfl) ?_
 simp (disch := omega) only [↓RU,RV,RH,↓reduceIte,reduceEqDiff,reduceCtorEq,if_pos,List.append_nil,↓RS,RG,reduceAdd,reduceMul,reduceLeDiff,tyLint,ty16,tyint,ty25]
 refine CallR.pc (or_pc (l := [cmpI x.1 y.1,cmpI x.2 y.2]) (by simp)) (mapM_one (reify_ints_n (k := 8) (l := [cmpI x.1 y.1,cmpI x.2 y.2]) rfl rfl) rfl) (.inl rfl) ?_
 simp (disch := omega) only [↓RU,RV,RH,↓reduceIte,reduceEqDiff,reduceCtorEq,if_pos,List.append_nil,↓RS,RG,reduceAdd,reduceMul,reduceLeDiff,tyLint,ty16,tyint,ty25]
 refine hK _ _ ?_;clear hK K
 refine W.ret ?_
 refine Br rfl ?_
 rfl
end Fw
end Go.Proofs.YtclmfemhboogpaaGreat
namespace Go.Proofs.YtclmfemhboogpaaGreat
open Go Go.Proofs
open Go.Shelf
def layS_ren : Go.Shelf.Ren := ⟨fun | 6 => 142 | 15 => 173 | 14 => 172 | 28 => 198 | 29 => 199 | 20 => 190 | 21 => 191 | 22 => 192 | 23 => 193 | 24 => 194 | 25 => 195 | 26 => 196 | 27 => 197 | 46 => 214 | 47 => 215 | 48 => 216 | 49 => 217 | 50 => 218 | 57 => 226 | n => n,fun | 22 => 101 | 24 => 142 | 25 => 145 | 3 => 3 | 39 => 172 | 0 => 0 | 53 => 189 | 55 => 191 | 4 => 4 | 46 => 183 | 45 => 182 | 50 => 27 | 5 => 5 | 9 => 9 | 66 => 203 | 70 => 207 | 76 => 215 | 77 => 115 | n => n,fun | n => n⟩
theorem layS : Go.Proofs.SlLaysF0.n6 Tryz.prog layS_ren := {
 mixed := by kernel_rfl
 f6 := ⟨Tryz.f142.name,by decide,Tryz.func142.trans (congrArg some (by kernel_rfl))⟩
 f14 := ⟨Tryz.f172.name,by decide,Tryz.func172.trans (congrArg some (by kernel_rfl))⟩
 f15 := Tryz.func173.trans (congrArg some (by kernel_rfl))
 f20 := ⟨Tryz.f190.name,by decide,Tryz.func190.trans (congrArg some (by kernel_rfl))⟩
 f21 := ⟨Tryz.f191.name,by decide,Tryz.func191.trans (congrArg some (by kernel_rfl))⟩
 f22 := ⟨Tryz.f192.name,by decide,Tryz.func192.trans (congrArg some (by kernel_rfl))⟩
 f23 := ⟨Tryz.f193.name,by decide,Tryz.func193.trans (congrArg some (by kernel_rfl))⟩
 f24 := ⟨Tryz.f194.name,by decide,Tryz.func194.trans (congrArg some (by kernel_rfl))⟩
 f25 := ⟨Tryz.f195.name,by decide,Tryz.func195.trans (congrArg some (by kernel_rfl))⟩
 f26 := ⟨Tryz.f196.name,by decide,Tryz.func196.trans (congrArg some (by kernel_rfl))⟩
 f27 := ⟨Tryz.f197.name,by decide,Tryz.func197.trans (congrArg some (by kernel_rfl))⟩
 f28 := Tryz.func198.trans (congrArg some (by kernel_rfl))
 f29 := Tryz.func199.trans (congrArg some (by kernel_rfl))
 f46 := ⟨Tryz.f214.name,by decide,Tryz.func214.trans (congrArg some (by kernel_rfl))⟩
 f47 := Tryz.func215.trans (congrArg some (by kernel_rfl))
 f48 := Tryz.func216.trans (congrArg some (by kernel_rfl))
 f49 := ⟨Tryz.f217.name,by decide,Tryz.func217.trans (congrArg some (by kernel_rfl))⟩
 f50 := ⟨Tryz.f218.name,by decide,Tryz.func218.trans (congrArg some (by kernel_rfl))⟩
 f57 := ⟨Tryz.f226.name,by decide,Tryz.func226.trans (congrArg some (by kernel_rfl))⟩
 t0 := Tryz.underlying0
 a0 := Tryz.isAgg0
 z0 := Tryz.sizeOf0
 v0 := Tryz.zeroValue0
 t3 := Tryz.underlying3
 a3 := Tryz.isAgg3
 z3 := Tryz.sizeOf3
 v3 := Tryz.zeroValue3
 t4 := Tryz.underlying4
 a4 := Tryz.isAgg4
 z4 := Tryz.sizeOf4
 v4 := Tryz.zeroValue4
 t5 := Tryz.underlying5
 a5 := Tryz.isAgg5
 z5 := Tryz.sizeOf5
 v5 := Tryz.zeroValue5
 t9 := Tryz.underlying9
 a9 := Tryz.isAgg9
 z9 := Tryz.sizeOf9
 v9 := Tryz.zeroValue9
 t22 := Tryz.underlying101
 a22 := Tryz.isAgg101
 z22 := Tryz.sizeOf101
 v22 := Tryz.zeroValue101
 t25 := Tryz.underlying145
 a25 := Tryz.isAgg145
 z25 := Tryz.sizeOf145
 v25 := Tryz.zeroValue145
 t39 := Tryz.underlying172
 a39 := Tryz.isAgg172
 z39 := Tryz.sizeOf172
 v39 := Tryz.zeroValue172
 t45 := Tryz.underlying182
 a45 := Tryz.isAgg182
 z45 := Tryz.sizeOf182
 v45 := Tryz.zeroValue182
 t46 := Tryz.underlying183
 a46 := Tryz.isAgg183
 z46 := Tryz.sizeOf183
 v46 := Tryz.zeroValue183
 t50 := Tryz.underlying27
 a50 := Tryz.isAgg27
 z50 := Tryz.sizeOf27
 v50 := Tryz.zeroValue27
 t53 := Tryz.underlying189
 a53 := Tryz.isAgg189
 z53 := Tryz.sizeOf189
 v53 := Tryz.zeroValue189
 t55 := Tryz.underlying191
 a55 := Tryz.isAgg191
 z55 := Tryz.sizeOf191
 v55 := Tryz.zeroValue191
 t66 := Tryz.underlying203
 a66 := Tryz.isAgg203
 z66 := Tryz.sizeOf203
 v66 := Tryz.zeroValue203
 t70 := Tryz.underlying207
 a70 := Tryz.isAgg207
 z70 := Tryz.sizeOf207
 v70 := Tryz.zeroValue207
 t76 := Tryz.underlying215
 a76 := Tryz.isAgg215
 z76 := Tryz.sizeOf215
 v76 := Tryz.zeroValue215
 t77 := Tryz.underlying115
 a77 := Tryz.isAgg115
 z77 := Tryz.sizeOf115
 v77 := Tryz.zeroValue115 }
end Go.Proofs.YtclmfemhboogpaaGreat
namespace Go.Proofs.YtclmfemhboogpaaGreat
namespace Fw
open Go
open Nat (reduceEqDiff reduceLeDiff reduceAdd reduceMul)
section
open Go Go.RowKit
theorem cmpSh_lt {x y : Shp} : decide (cmpSh x y < 0) = decide (x.1 < y.1 ∨ (x.1 = y.1 ∧ x.2 < y.2)) := by
 apply decide_eq_decide.2
 unfold cmpSh
 by_cases h1 : x.1 < y.1
 ·rw [cmpI,if_pos h1,orI_n (by decide)]; simp [h1]
 ·by_cases h2 : y.1 < x.1
  ·rw [cmpI,if_neg h1,if_pos h2,orI_n (by decide)]; omega
  ·have e : x.1 = y.1 := by omega
   rw [cmpI,if_neg h1,if_neg h2,orI_0]
   by_cases h3 : x.2 < y.2
   ·rw [cmpI,if_pos h3,orI_n (by decide)]; omega
   ·by_cases h4 : y.2 < x.2
    ·rw [cmpI,if_neg h3,if_pos h4,orI_n (by decide)]; omega
    ·rw [cmpI,if_neg h3,if_neg h4,orI_0]; simp [orI]; omega
theorem cmpSh_swo : Sort.SWO (ltOf cmpSh) := by
 refine ⟨fun x => ?_,fun x y z h1 h2 => ?_,fun x y z h1 h2 => ?_⟩ <;> simp only [ltOf,cmpSh_lt,decide_eq_true_eq,decide_eq_false_iff_not] at * <;> omega
def encS (x : Shp) : List Value := [.int .i64 x.1,.int .i64 x.2]
theorem scs_flat : ∀ (l : List Shp) (j : Nat),j < l.length * 2 → ∃ n : Int,(scs l)[j]? = some (.int .i64 n) ∧ (encS l.toArray[j / 2]!)[j % 2]! = .int .i64 n
 | [],j,h => by simp at h
 | x :: l,0,_ => ⟨x.1,rfl,rfl⟩
 | x :: l,1,_ => ⟨x.2,rfl,rfl⟩
 | x :: l,j + 2,h => by
  obtain ⟨n,h1,h2⟩ := scs_flat l j (by simp at h; omega)
  refine ⟨n,by rw [scs_cons]; simpa [eShp] using h1,?_⟩
  rw [show (j + 2) / 2 = j / 2 + 1 by omega,show (j + 2) % 2 = j % 2 by omega]
  simpa using h2
theorem VI.fn_none {H : Array Obj} {F : Nat → Prop} {G : GSt} {f : FuncId} {v : Value} (h : VR H F G (.fn f []) v) : v = .func (.func f) #[] #[] := by
 cases h with
 | imm _ _ h => cases h with | fn _ _ vs e _ => rw [show vs = #[] from Array.eq_empty_of_size_eq_zero (by simpa using e.symm)]
 | fn _ _ vs e _ => rw [show vs = #[] from Array.eq_empty_of_size_eq_zero (by simpa using e.symm)]
theorem blw_grow {w w' : World} (h : Blw w w') : ∃ q os',w' = Sort.grow (w.drewN q) os' := by
 obtain ⟨⟨h1,h2,h3,h4,h5⟩,h6⟩ := h
 refine ⟨w'.drawn - w.drawn,w'.heap.extract w.heap.size w'.heap.size,?_⟩
 have hh : w'.heap = w.heap ++ w'.heap.extract w.heap.size w'.heap.size := by
  apply Array.ext_getElem?
  intro k
  rw [Array.getElem?_append]
  by_cases hk : k < w.heap.size
  ·rw [if_pos hk,h5 k hk]
  ·rw [if_neg hk,Array.getElem?_extract]
   by_cases hk2 : k < w'.heap.size
   ·rw [if_pos (by omega)]; congr 1; omega
   ·rw [if_neg (by omega),Array.getElem?_eq_none (by omega)]
 have hd : w.drawn + (w'.drawn - w.drawn) = w'.drawn := by omega
 have e1 : w' = { w with heap := w'.heap,drawn := w'.drawn } := by
  cases w'; cases w
  simp only at h1 h2 h3
  subst h1; subst h2; subst h3
  rfl
 rw [Sort.grow,World.drewN,hd]
 exact e1.trans (by rw [← hh])
set_option maxHeartbeats 1000000 in
theorem sortSh_ev {F R : List Ob} {ver t : Nat} {l : List Shp} (hl : l.length < 2147483648) :
  Ev Tryz.prog 142 [.loc F.length ver 0 l.length,.fn 143 []] ⟨F ++ .arr ver 142 2 (scs l) :: R,t⟩
   fun v S => v = .tup [] ∧ ∃ z : List Shp,z.Perm l ∧ z.Pairwise LexLe ∧ S = ⟨F ++ .arr ver 142 2 (scs z) :: R,t⟩ := by
 refine ⟨Fn.ent ⟨Tryz.func142,by kernel_rfl,rfl,by kernel_rfl⟩,fun F' G w cargs hE hi hlen hv => ?_⟩
 obtain ⟨c,d,rfl⟩ : ∃ c d,cargs = #[c,d] := by
  match cargs,hlen with
  | ⟨[c,d]⟩,_ => exact ⟨c,d,rfl⟩
 have hobs : G.er.obs = F ++ .arr ver 142 2 (scs l) :: R := by rw [hE]
 have hSo : G.er.obs[F.length]? = some (.arr ver 142 2 (scs l)) := by rw [hobs]; simp
 obtain ⟨et,sz,lo,cap,hG,rfl,hver,hn,hcm,hroom⟩ := (hv 0 _ c rfl rfl).loc_at hi (cells := scs l) (by simp [Store.cellsOf,hSo])
 obtain ⟨lo2,hG2⟩ := er_get hSo
 rw [hG] at hG2
 cases hG2
 obtain rfl := VI.fn_none (hv 1 _ d rfl rfl)
 obtain ⟨cs,⟨fz,hb,hz⟩,hcs,hle,hcell⟩ := hi.arr _ _ _ _ _ lo hG
 rw [scs_len] at hle
 have hblk : lo.blk < w.heap.size := hi.blk_lt hG
 have hH : Sort.HoldsK encS 2 w lo.blk 0 l.toArray := by
  intro j hj
  rw [Sort.size_flatK,List.size_toArray] at hj
  obtain ⟨n,h1,h2⟩ := scs_flat l j hj
  rw [Sort.get_flatK _ _ _ _ (by simpa using hj),h2]
  obtain ⟨-,u,k1,k2⟩ := hcell j _ h1
  rw [k2.int] at k1
  refine ⟨by simp [World.cell?,hb,k1],?_⟩
  obtain ⟨a,b⟩ := fz
  simp only [World.frozen?,hb,Bool.and_eq_false_iff,decide_eq_false_iff_not,Nat.zero_add]
  rcases hz with h | h <;> simp only at h <;> omega
 have hcmp : CmpLays Tryz.prog 143 #[] encS 2 cmpSh lo.blk 0 l.toArray.size w := by
  intro m os dk _ x y
  generalize sortWorldK encS 2 w lo.blk 0 m dk os = W
  refine ((bestc_pc (x := x) (y := y)).run (fun _ => False) W #[.agg (encS x).toArray,.agg (encS y).toArray] (fun _ h => h.elim) rfl ?_).mono ?_
  ·have ag : ∀ x : Shp,VI W.heap (fun _ => False) (.agg (eShp x)) (.agg (encS x).toArray) := fun x => by
    refine .agg _ _ rfl ?_
    rintro (_ | _ | i) p v h1 h2
    ·simp [eShp] at h1; simp [encS] at h2; subst h1; subst h2; exact .int _ _
    ·simp [eShp] at h1; simp [encS] at h2; subst h1; subst h2; exact .int _ _
    ·simp [eShp] at h1
   rintro (_ | _ | i) p v h1 h2
   ·simp at h1 h2; subst h1; subst h2; exact ag x
   ·simp at h1 h2; subst h1; subst h2; exact ag y
   ·simp at h1
  ·rintro e w' ⟨cv,rfl,hB,hr⟩
   cases hr
   exact ⟨rfl,blw_grow hB⟩
 refine (AnyQ.slices_SortFunc layS 2 Tryz.isAgg142 Tryz.sizeOf142 encS (fun _ => rfl) (fun x v hv => by simp [encS] at hv; rcases hv with rfl | rfl <;> rfl) cmpSh cmpSh_swo 143 #[] lo.blk 0 cap l.toArray w (fun _ _ => (bestc_pc (x := (0,0)) (y := (0,0))).ent _ _) hcmp hH hblk (by simp; omega)).mono ?_
 rintro e w' ⟨rfl,d',n,os,⟨hds,-,hdp⟩,hsorted,rfl⟩
 have hds : d'.size = l.length := hds
 obtain ⟨z,hz'⟩ : ∃ z : List Shp,d' = z.toArray := ⟨d'.toList,rfl⟩
 subst hz'
 have hds : z.length = l.length := hds
 have hp : z.Perm l := by
  have e1 : ∀ x : List Shp,x.length = l.length → (x.toArray.extract 0 l.toArray.size).toList = x := fun x hx => by simp [← hx]
  rw [e1 z hds,e1 l rfl] at hdp
  exact hdp
 have hs : z.Pairwise LexLe := by
  rw [List.pairwise_iff_getElem]
  intro i j hi hj hij
  have h := hsorted i j (Nat.zero_le _) hij (by simp; omega)
  rw [getElem!_pos _ j (by simpa using hj),getElem!_pos _ i (by simpa using hi)] at h
  simp only [ltOf,cmpSh_lt,decide_eq_false_iff_not,List.getElem_toArray] at h
  unfold LexLe; omega
 have hw1 : (Sort.putRowK encS 2 (Sort.ahead w n) lo.blk 0 z.toArray).heap[lo.blk]? = some (.cells (Sort.putCells id 0 (Sort.flatK encS 2 z.toArray) cs) 142 fz) := by
  simp [Sort.putRowK,Sort.putRow,Sort.mapBlock,Sort.ahead,Array.getElem?_modify,hb,Sort.onCells]
 have hsz : (Sort.putRowK encS 2 (Sort.ahead w n) lo.blk 0 z.toArray).heap.size = w.heap.size := by simp [Sort.putRowK,Sort.putRow,Sort.mapBlock,Sort.ahead]
 obtain ⟨i1,n1⟩ := put_obj hi hG (.arr ver 142 2 (scs z)) lo G.tick (Sort.putRowK encS 2 (Sort.ahead w n) lo.blk 0 z.toArray) rfl rfl rfl
  (show w.drawn ≤ w.drawn + n from Nat.le_add_right _ _) (by omega) (.inl rfl) (fun b _ hb' => by simp [Sort.putRowK,Sort.putRow,Sort.mapBlock,Sort.ahead,Array.getElem?_modify,Ne.symm hb']) (Nat.le_refl _) (show ver < G.tick from hver) (.inl ⟨rfl,by simp [Ob.like],rfl⟩) (by
   refine ⟨_,⟨fz,hw1,hz.of (by simp [Sort.putCells])⟩,by simpa [Sort.putCells] using hcs,by rw [scs_len]; omega,fun i p hp => ?_⟩
   have hi2 : i < z.length * 2 := by rw [← scs_len]; exact (List.getElem?_eq_some_iff.1 hp).1
   obtain ⟨m,h1,h2⟩ := scs_flat z i hi2
   rw [h1] at hp
   cases hp
   refine ⟨rfl,.int .i64 m,?_,.imm _ _ (.int _ _)⟩
   simp only [Sort.putCells,Array.getElem?_mapIdx]
   rw [Array.getElem?_eq_getElem (show i < cs.size by omega),Option.map_some,if_pos ⟨Nat.zero_le _,by simp [Sort.size_flatK]; omega⟩]
   simp only [Nat.sub_zero,id]
   rw [Sort.get_flatK _ _ _ _ (by simpa using hi2),h2])
 obtain ⟨i2,n2⟩ := below_step i1 (w' := sortWorldK encS 2 w lo.blk 0 n z.toArray os) ⟨⟨rfl,rfl,rfl,by simp [sortWorldK,Sort.grow],fun k hk => by simp [sortWorldK,Sort.grow,Array.getElem?_append,hk]⟩,Nat.le_refl _⟩
 refine ⟨.tup [],_,_,_,rfl,⟨rfl,z,hp,hs,?_⟩,i2,n1.trans n2,.tup [] #[] rfl (by simp)⟩
 have : ∀ ob,(⟨G.obs.set F.length (ob,lo),G.tick⟩ : GSt).er = ⟨G.er.obs.set F.length ob,G.er.tick⟩ := by intro ob; simp [GSt.er,List.map_set]
 rw [this,hE]
 simp
end
section
structure Pl (c : Nat → Nat → Nat) (H W : Nat) : Prop where
 rect : ∀ {i j i' j' : Nat} (k l : Nat),i < H → i' < H → j < W → j' < W → c i j = c i' j' → min i i' ≤ k → k ≤ max i i' → min j j' ≤ l → l ≤ max j j' → c k l = c i j
 plain : ∀ {i j : Nat},i + 1 < H → j + 1 < W → c i j ≠ c i (j + 1) → c (i + 1) j ≠ c (i + 1) (j + 1) → c i j ≠ c (i + 1) j → c i (j + 1) = c (i + 1) (j + 1)
def DL (c : Nat → Nat → Nat) (H W a b : Nat) : Prop := ∃ j i1 i2,j + 1 < W ∧ i1 < H ∧ i2 < H ∧ (∀ r,min i1 i2 ≤ r → r ≤ max i1 i2 → c r j ≠ c r (j + 1)) ∧ a = c i1 j ∧ b = c i2 (j + 1)
def DU (c : Nat → Nat → Nat) (H W a b : Nat) : Prop := ∃ i j1 j2,i + 1 < H ∧ j1 < W ∧ j2 < W ∧ (∀ k,min j1 j2 ≤ k → k ≤ max j1 j2 → c i k ≠ c (i + 1) k) ∧ a = c i j1 ∧ b = c (i + 1) j2
theorem flip_of {P : Nat → Prop} {i : Nat} : ∀ {n : Nat},i ≤ n → P i → ¬ P n → ∃ e,i ≤ e ∧ e + 1 ≤ n ∧ P e ∧ ¬ P (e + 1)
 | 0,h,h1,h2 => by
    obtain rfl : i = 0 := by omega
    exact absurd h1 h2
 | n + 1,h,h1,h2 => by
  by_cases c : P n
  ·by_cases e : i = n + 1
   ·subst e; exact absurd h1 h2
   ·exact ⟨n,by omega,Nat.le_refl _,c,h2⟩
  ·by_cases e : i = n + 1
   ·subst e; exact absurd h1 h2
   ·obtain ⟨m,k1,k2,k3⟩ := flip_of (P := P) (i := i) (n := n) (by omega) h1 c
    exact ⟨m,k1,by omega,k3⟩
section
variable {c : Nat → Nat → Nat} {H W : Nat}
def tr (c : Nat → Nat → Nat) (i j : Nat) : Nat := c j i
theorem Pl.ex (h : Pl c H W) : Pl (tr c) W H :=
 ⟨fun k l h1 h2 h3 h4 h5 h6 h7 h8 h9 => h.rect l k h3 h4 h1 h2 h5 h8 h9 h6 h7,fun {i j} h1 h2 h3 h4 h5 => by
  unfold Fw.tr at *
  by_cases q : c j i = c j (i + 1)
  ·exact absurd q h5
  ·by_cases q2 : c (j + 1) i = c (j + 1) (i + 1)
   ·exact q2
   ·exact absurd (h.plain (i := j) (j := i) h2 h1 h5 q2 h3) h4⟩
theorem DL.ex {a b : Nat} (h : DL (tr c) W H a b) : DU c H W a b := h
theorem DU.ex {a b : Nat} (h : DU (tr c) W H a b) : DL c H W a b := h
inductive TC (R : Nat → Nat → Prop) : Nat → Nat → Prop
 | one {a b : Nat} : R a b → TC R a b
 | tail {a b d : Nat} : TC R a b → R b d → TC R a d
theorem TC.mono {R S : Nat → Nat → Prop} (h : ∀ a b,R a b → S a b) {a b : Nat} (k : TC R a b) : TC S a b := by
 induction k with
 | one k => exact .one (h _ _ k)
 | tail _ k ih => exact .tail ih (h _ _ k)
theorem TC.trans {R : Nat → Nat → Prop} {a b d : Nat} (h : TC R a b) (k : TC R b d) : TC R a d := by
 induction k with
 | one k => exact .tail h k
 | tail _ k ih => exact .tail ih k
theorem TC.last {R : Nat → Nat → Prop} {a b : Nat} (h : TC R a b) : ∃ x,(x = a ∨ TC R a x) ∧ R x b := by
 cases h with
 | one k => exact ⟨a,.inl rfl,k⟩
 | tail h k => exact ⟨_,.inr h,k⟩
end
end
section
section
variable {n : Nat} {M : List (List Bool)}
theorem absorb {p q : Bool} : (p || (q && p)) = p := by cases p <;> cases q <;> rfl
theorem clK_to (h : Sq n M) {k : Nat} (hk : k < n) : ∀ i,i ≤ n → Sq n ((List.range i).foldl (clA n k) M) ∧
  ∀ x y,x < n → y < n → getB ((List.range i).foldl (clA n k) M) x y = if x < i then getB M x y || (getB M x k && getB M k y) else getB M x y
 | 0,_ => ⟨h,fun x y _ _ => by simp⟩
 | i + 1,hi => by
  obtain ⟨h1,h2⟩ := clK_to h hk i (by omega)
  rw [foldl_rg]
  generalize (List.range i).foldl (clA n k) M = X at h1 h2 ⊢
  obtain ⟨h3,h4⟩ := clA_to h1 hk (show i < n by omega) n (Nat.le_refl _)
  refine ⟨h3,fun x y hx hy => ?_⟩
  unfold clA
  rw [h4 x y hx hy]
  by_cases e : x = i
  ·subst e
   have e1 : getB X x y = getB M x y := by rw [h2 x y hx hy,if_neg (Nat.lt_irrefl _)]
   have e2 : getB X x k = getB M x k := by rw [h2 x k hx hk,if_neg (Nat.lt_irrefl _)]
   have e3 : getB X k y = getB M k y := by
    rw [h2 k y hk hy]
    split
    ·exact absorb
    ·rfl
   rw [if_pos ⟨rfl,hy⟩,if_pos (by omega),e1,e2,e3]
  ·rw [if_neg (fun q => e q.1),h2 x y hx hy]
   by_cases e2 : x < i
   ·rw [if_pos e2,if_pos (by omega)]
   ·rw [if_neg e2,if_neg (by omega)]
theorem clK_get (h : Sq n M) {k : Nat} (hk : k < n) {x y : Nat} (hx : x < n) (hy : y < n) : getB (clK n M k) x y = (getB M x y || (getB M x k && getB M k y)) := by
 have := (clK_to h hk n (Nat.le_refl _)).2 x y hx hy
 rw [if_pos hx] at this
 exact this
theorem close_to (h : Sq n M) : ∀ i,i ≤ n → Sq n ((List.range i).foldl (clK n) M) ∧
  (∀ a b,a < n → b < n → getB M a b = true → getB ((List.range i).foldl (clK n) M) a b = true) ∧
  (∀ m a b,m < i → a < n → b < n → getB ((List.range i).foldl (clK n) M) a m = true → getB ((List.range i).foldl (clK n) M) m b = true → getB ((List.range i).foldl (clK n) M) a b = true) ∧
  (∀ T : Nat → Nat → Prop,(∀ a b d,T a b → T b d → T a d) → (∀ a b,a < n → b < n → getB M a b = true → T a b) → ∀ a b,a < n → b < n → getB ((List.range i).foldl (clK n) M) a b = true → T a b)
 | 0,_ => ⟨h,fun a b _ _ k => k,fun m a b k => by omega,fun T _ k => k⟩
 | i + 1,hi => by
  obtain ⟨h1,h2,h3,h4⟩ := close_to h i (by omega)
  rw [foldl_rg]
  generalize (List.range i).foldl (clK n) M = X at h1 h2 h3 h4 ⊢
  have hin : i < n := by omega
  have g : ∀ {x y : Nat},x < n → y < n → (getB (clK n X i) x y = true ↔ getB X x y = true ∨ (getB X x i = true ∧ getB X i y = true)) := by
   intro x y hx hy
   rw [clK_get h1 hin hx hy]; simp
  refine ⟨(clK_to h1 hin n (Nat.le_refl _)).1,fun a b ha hb k => (g ha hb).2 (.inl (h2 a b ha hb k)),fun m a b hm ha hb k1 k2 => ?_,fun T tr hT a b ha hb k => ?_⟩
  ·have hmn : m < n := by omega
   rw [g ha hmn] at k1
   rw [g hmn hb] at k2
   rw [g ha hb]
   by_cases e : m = i
   ·subst e
    rcases k1 with k1 | k1 <;> rcases k2 with k2 | k2
    ·exact .inr ⟨k1,k2⟩
    ·exact .inr ⟨k1,k2.2⟩
    ·exact .inr ⟨k1.1,k2⟩
    ·exact .inr ⟨k1.1,k2.2⟩
   ·have hmi : m < i := by omega
    rcases k1 with k1 | k1 <;> rcases k2 with k2 | k2
    ·exact .inl (h3 m a b hmi ha hb k1 k2)
    ·exact .inr ⟨h3 m a i hmi ha hin k1 k2.1,k2.2⟩
    ·exact .inr ⟨k1.1,h3 m i b hmi hin hb k1.2 k2⟩
    ·exact .inr ⟨k1.1,k2.2⟩
  ·rw [g ha hb] at k
   rcases k with k | k
   ·exact h4 T tr hT a b ha hb k
   ·exact tr a i b (h4 T tr hT a i ha hin k.1) (h4 T tr hT i b hin hb k.2)
def MR (n : Nat) (M : List (List Bool)) (a b : Nat) : Prop := a < n ∧ b < n ∧ getB M a b = true
theorem close_tc (h : Sq n M) {a b : Nat} (ha : a < n) (hb : b < n) : getB (closeM M) a b = true ↔ TC (MR n M) a b := by
 obtain ⟨h1,h2,h3,h4⟩ := close_to h n (Nat.le_refl _)
 have e : closeM M = (List.range n).foldl (clK n) M := by unfold closeM; rw [h.1]
 rw [e]
 constructor
 ·exact h4 (TC (MR n M)) (fun _ _ _ p q => p.trans q) (fun a b ha hb k => .one ⟨ha,hb,k⟩) a b ha hb
 ·intro k
  induction k with
  | one k => exact h2 _ _ k.1 k.2.1 k.2.2
  | tail _ k ih => exact h3 _ _ _ k.1 ha k.2.1 (ih k.1) (h2 _ _ k.1 k.2.1 k.2.2)
end
def Cov (ws : List Wall) (level : Bool) (line i1 i2 : Nat) : Prop := ∃ w ∈ ws,w.level = level ∧ w.line = line ∧ w.fr ≤ i1 ∧ (i2 : Int) < w.fr + w.long
theorem Cov.app {ws vs : List Wall} {level : Bool} {line i1 i2 : Nat} (h : Cov ws level line i1 i2) : Cov (ws ++ vs) level line i1 i2 := by
 obtain ⟨w,hw,k⟩ := h
 exact ⟨w,List.mem_append_left _ hw,k⟩
theorem Cov.long {ws : List Wall} {w : Wall} {level : Bool} {line i1 i2 : Nat} (h : Cov (ws ++ [w]) level line i1 i2) : Cov (ws ++ [{ w with long := w.long + 1 }]) level line i1 i2 := by
 obtain ⟨v,hv,k1,k2,k3,k4⟩ := h
 rcases List.mem_append.1 hv with hv | hv
 ·exact ⟨v,List.mem_append_left _ hv,k1,k2,k3,k4⟩
 ·rw [List.mem_singleton] at hv
  subst hv
  exact ⟨_,List.mem_append_right _ (List.mem_singleton.2 rfl),k1,k2,k3,by simp only; omega⟩
def Run (g : List (List Int)) (level : Bool) (line i1 i2 : Nat) : Prop := ∀ j,i1 ≤ j → j ≤ i2 → difG g level line j = true
theorem wlLine_cov {g : List (List Int)} {level : Bool} {line : Nat} {ws : List Wall} : ∀ n,(∀ lv ln i1 i2,Cov ws lv ln i1 i2 → Cov (wlLine g level line ws n).1 lv ln i1 i2) ∧
  (∀ i1 i2,i1 ≤ i2 → i2 < n → Run g level line i1 i2 → Cov (wlLine g level line ws n).1 level line i1 i2) ∧
  ((wlLine g level line ws n).2 = false → ∀ m,n = m + 1 → difG g level line m = false) ∧
  ((wlLine g level line ws n).2 = true → ∃ (ws0 : List Wall) (w : Wall),(wlLine g level line ws n).1 = ws0 ++ [w] ∧ w.level = level ∧ w.line = (line : Int) ∧ w.fr + w.long = (n : Int) ∧ 1 ≤ w.long ∧ ∀ i : Nat,i < n → Run g level line i (n - 1) → w.fr ≤ (i : Int))
 | 0 => by
  rw [wlLine_zero]
  exact ⟨fun _ _ _ _ h => h,fun i1 i2 _ h => by omega,fun _ m h => by omega,fun h => by cases h⟩
 | n + 1 => by
  obtain ⟨h1,h2,h3,h4⟩ := wlLine_cov (g := g) (level := level) (line := line) (ws := ws) n
  rw [wlLine_succ]
  generalize wlLine g level line ws n = s at h1 h2 h3 h4
  obtain ⟨l,op⟩ := s
  simp only at h1 h2 h3 h4
  cases hd : difG g level line n with
  | false =>
   have e : wlStep false level line n (l,op) = (l,false) := by simp [wlStep]
   rw [e]
   refine ⟨h1,fun i1 i2 k1 k2 k3 => ?_,fun _ m hm => (by have e0 : m = n := (by omega); rw [e0]; exact hd),fun h => by cases h⟩
   by_cases e2 : i2 = n
   ·subst e2
    have := k3 i2 k1 (Nat.le_refl _)
    rw [hd] at this; cases this
   ·exact h2 i1 i2 k1 (by omega) k3
  | true =>
   cases op with
   | false =>
    have e : wlStep true level line n (l,false) = (l ++ [⟨level,line,n,1⟩],true) := by simp [wlStep]
    rw [e]
    have hno : ∀ m,n = m + 1 → difG g level line m = false := h3 rfl
    have first : ∀ i,i < n + 1 → Run g level line i n → i = n := by
     intro i hi hr
     by_cases e2 : i = n
     ·exact e2
     ·have := hr (n - 1) (by omega) (by omega)
      rw [hno (n - 1) (by omega)] at this; cases this
    refine ⟨fun lv ln i1 i2 k => (h1 lv ln i1 i2 k).app,fun i1 i2 k1 k2 k3 => ?_,fun h => (by cases h),fun _ => ⟨l,_,rfl,rfl,rfl,by simp,by simp,fun i hi hr => ?_⟩⟩
    ·by_cases e2 : i2 = n
     ·subst e2
      obtain rfl := first i1 (by omega) k3
      exact ⟨_,List.mem_append_right _ (List.mem_singleton.2 rfl),rfl,rfl,Int.le_refl _,by simp only; omega⟩
     ·exact (h2 i1 i2 k1 (by omega) k3).app
    ·have := first i hi hr
     simp only; omega
   | true =>
    obtain ⟨ws0,w,rfl,w1,w2,w3,w4,w5⟩ := h4 rfl
    have e : wlStep true level line n (ws0 ++ [w],true) = (ws0 ++ [{ w with long := w.long + 1 }],true) := by simp [wlStep]
    rw [e]
    have hfr : ∀ i : Nat,i < n + 1 → Run g level line i n → w.fr ≤ (i : Int) := by
     intro i hi hr
     by_cases e2 : i = n
     ·omega
     ·exact w5 i (by omega) fun j j1 j2 => hr j j1 (by omega)
    refine ⟨fun lv ln i1 i2 k => (h1 lv ln i1 i2 k).long,fun i1 i2 k1 k2 k3 => ?_,fun h => (by cases h),fun _ => ⟨ws0,_,rfl,w1,w2,by simp only; omega,by simp only; omega,fun i hi hr => hfr i hi hr⟩⟩
    by_cases e2 : i2 = n
    ·subst e2
     have := hfr i1 (by omega) k3
     exact ⟨_,List.mem_append_right _ (List.mem_singleton.2 rfl),w1,w2,this,by simp only; omega⟩
    ·exact (h2 i1 i2 k1 (by omega) k3).long
theorem wlLevel_cov {g : List (List Int)} {level : Bool} {places : Nat} {ws : List Wall} : ∀ lines,(∀ lv ln i1 i2,Cov ws lv ln i1 i2 → Cov (wlLevel g level places ws lines) lv ln i1 i2) ∧
  (∀ line i1 i2,1 ≤ line → line < lines → i1 ≤ i2 → i2 < places → Run g level line i1 i2 → Cov (wlLevel g level places ws lines) level line i1 i2)
 | 0 => ⟨fun _ _ _ _ h => h,fun line _ _ _ h => by omega⟩
 | k + 1 => by
  obtain ⟨h1,h2⟩ := wlLevel_cov (g := g) (level := level) (places := places) (ws := ws) k
  by_cases hk : 1 ≤ k
  ·rw [wlLevel_succ hk]
   obtain ⟨l1,l2,-,-⟩ := wlLine_cov (g := g) (level := level) (line := k) (ws := wlLevel g level places ws k) places
   refine ⟨fun lv ln i1 i2 q => l1 _ _ _ _ (h1 _ _ _ _ q),fun line i1 i2 q1 q2 q3 q4 q5 => ?_⟩
   by_cases e : line = k
   ·subst e; exact l2 i1 i2 q3 q4 q5
   ·exact l1 _ _ _ _ (h2 line i1 i2 q1 (by omega) q3 q4 q5)
  ·obtain rfl : k = 0 := by omega
   rw [wlLevel_one]
   exact ⟨fun _ _ _ _ h => h,fun line _ _ q1 q2 => by omega⟩
theorem wallsG_cov {g : List (List Int)} {H W : Nat} {level : Bool} {line i1 i2 : Nat} (h1 : 1 ≤ line) (h2 : line < if level then H else W) (h3 : i1 ≤ i2) (h4 : i2 < if level then W else H) (hr : Run g level line i1 i2) : Cov (wallsG g H W) level line i1 i2 := by
 unfold wallsG
 obtain ⟨a1,a2⟩ := wlLevel_cov (g := g) (level := false) (places := H) (ws := []) W
 obtain ⟨b1,b2⟩ := wlLevel_cov (g := g) (level := true) (places := W) (ws := wlLevel g false H [] W) H
 cases level with
 | false => exact b1 _ _ _ _ (a2 line i1 i2 h1 h2 h3 h4 hr)
 | true => exact b2 line i1 i2 h1 h2 h3 h4 hr
section
variable {n : Nat}
theorem relB_get {a : Int} (ha : 0 ≤ a ∧ a < n) : ∀ {bs : List Int} {M : List (List Bool)},Rm n bs → Sq n M → Sq n (relB a bs M) ∧ ∀ x y,getB (relB a bs M) x y = true ↔ getB M x y = true ∨ (x = a.toNat ∧ ∃ b ∈ bs,y = b.toNat)
 | [],M,_,h => ⟨h,fun x y => by simp [relB]⟩
 | b :: bs,M,hb,h => by
  have hb0 := hb b (by simp)
  obtain ⟨k1,k2⟩ := relB_get ha (bs := bs) (M := setB M a.toNat b.toNat true) (fun x hx => hb x (by simp [hx])) (h.set (by omega))
  refine ⟨k1,fun x y => ?_⟩
  have e : relB a (b :: bs) M = relB a bs (setB M a.toNat b.toNat true) := rfl
  rw [e,k2,getB_setB h (by omega) (by omega)]
  by_cases q : x = a.toNat ∧ y = b.toNat
  ·rw [if_pos q]; simp [q.1,q.2]
  ·rw [if_neg q]
   constructor
   ·rintro (k | ⟨k,c,hc,rfl⟩)
    ·exact .inl k
    ·exact .inr ⟨k,c,by simp [hc],rfl⟩
   ·rintro (k | ⟨k,c,hc,rfl⟩)
    ·exact .inl k
    ·rcases List.mem_cons.1 hc with rfl | hc
     ·exact absurd ⟨k,rfl⟩ q
     ·exact .inr ⟨k,c,hc,rfl⟩
theorem relW_get {bs : List Int} (hb : Rm n bs) : ∀ {la : List Int} {M : List (List Bool)},Rm n la → Sq n M → Sq n (relW M la bs) ∧ ∀ x y,getB (relW M la bs) x y = true ↔ getB M x y = true ∨ (∃ a ∈ la,x = a.toNat) ∧ ∃ b ∈ bs,y = b.toNat
 | [],M,_,h => ⟨h,fun x y => by simp [relW]⟩
 | a :: la,M,ha,h => by
  obtain ⟨j1,j2⟩ := relB_get (ha a (by simp)) hb h
  obtain ⟨k1,k2⟩ := relW_get hb (la := la) (M := relB a bs M) (fun x hx => ha x (by simp [hx])) j1
  refine ⟨k1,fun x y => ?_⟩
  have e : relW M (a :: la) bs = relW (relB a bs M) la bs := rfl
  rw [e,k2,j2]
  constructor
  ·rintro ((k | ⟨k,q⟩) | ⟨⟨c,hc,k⟩,q⟩)
   ·exact .inl k
   ·exact .inr ⟨⟨a,by simp,k⟩,q⟩
   ·exact .inr ⟨⟨c,by simp [hc],k⟩,q⟩
  ·rintro (k | ⟨⟨c,hc,k⟩,q⟩)
   ·exact .inl (.inl k)
   ·rcases List.mem_cons.1 hc with rfl | hc
    ·exact .inl (.inr ⟨k,q⟩)
    ·exact .inr ⟨⟨c,hc,k⟩,q⟩
def By (g : List (List Int)) (ws : List Wall) (lv : Bool) (x y : Nat) : Prop := ∃ w ∈ ws,w.level = lv ∧ (∃ a ∈ (sidesOf g w).1,x = a.toNat) ∧ ∃ b ∈ (sidesOf g w).2,y = b.toNat
theorem By.cons {g : List (List Int)} {w : Wall} {ws : List Wall} {lv : Bool} {x y : Nat} : By g (w :: ws) lv x y ↔ (w.level = lv ∧ (∃ a ∈ (sidesOf g w).1,x = a.toNat) ∧ ∃ b ∈ (sidesOf g w).2,y = b.toNat) ∨ By g ws lv x y := by
 unfold By; simp
theorem ord_get {g : List (List Int)} {nh nw : Nat} (hrm : RmOk g nh nw n) : ∀ (ws : List Wall),(∀ w ∈ ws,WlOk g nh nw w) → ∀ {M : List (List Bool) × List (List Bool)},Sq n M.1 → Sq n M.2 →
  (Sq n (ws.foldl (ordW g) M).1 ∧ ∀ x y,getB (ws.foldl (ordW g) M).1 x y = true ↔ getB M.1 x y = true ∨ By g ws false x y) ∧
  (Sq n (ws.foldl (ordW g) M).2 ∧ ∀ x y,getB (ws.foldl (ordW g) M).2 x y = true ↔ getB M.2 x y = true ∨ By g ws true x y)
 | [],_,M,h0,h1 => ⟨⟨h0,fun x y => by simp [By]⟩,⟨h1,fun x y => by simp [By]⟩⟩
 | w :: ws,hws,M,h0,h1 => by
  obtain ⟨r1,r2⟩ := sidesOf_rooms hrm (hws w (by simp))
  rw [List.foldl_cons]
  cases hlv : w.level with
  | false =>
   obtain ⟨k1,k2⟩ := relW_get r2 r1 h0
   have e : ordW g M w = (relW M.1 (sidesOf g w).1 (sidesOf g w).2,M.2) := by unfold ordW; rw [hlv]; rfl
   rw [e]
   obtain ⟨⟨a1,a2⟩,⟨b1,b2⟩⟩ := ord_get hrm ws (fun w hw => hws w (by simp [hw])) (M := (relW M.1 (sidesOf g w).1 (sidesOf g w).2,M.2)) k1 h1
   refine ⟨⟨a1,fun x y => ?_⟩,⟨b1,fun x y => ?_⟩⟩
   ·rw [a2,k2,By.cons,hlv]; simp only [true_and,or_assoc]
   ·rw [b2,By.cons,hlv]; simp
  | true =>
   obtain ⟨k1,k2⟩ := relW_get r2 r1 h1
   have e : ordW g M w = (M.1,relW M.2 (sidesOf g w).1 (sidesOf g w).2) := by unfold ordW; rw [hlv]; rfl
   rw [e]
   obtain ⟨⟨a1,a2⟩,⟨b1,b2⟩⟩ := ord_get hrm ws (fun w hw => hws w (by simp [hw])) (M := (M.1,relW M.2 (sidesOf g w).1 (sidesOf g w).2)) h0 k1
   refine ⟨⟨a1,fun x y => ?_⟩,⟨b1,fun x y => ?_⟩⟩
   ·rw [a2,By.cons,hlv]; simp
   ·rw [b2,k2,By.cons,hlv]; simp only [true_and,or_assoc]
theorem emptyM_no {x y : Nat} : getB (emptyM n) x y = false := by
 unfold getB emptyM
 rw [List.getElem?_replicate]
 split
 ·rw [Option.getD_some,List.getElem?_replicate]; split <;> rfl
 ·rfl
def cn (g : List (List Int)) (i j : Nat) : Nat := (gz g i j).toNat
theorem RmOk.ne {g : List (List Int)} {nh nw : Nat} (h : RmOk g nh nw n) {i j i' j' : Nat} (h1 : i < nh) (h2 : j < nw) (h3 : i' < nh) (h4 : j' < nw) : gz g i j ≠ gz g i' j' ↔ cn g i j ≠ cn g i' j' := by
 have a := h i j h1 h2
 have b := h i' j' h3 h4
 unfold cn
 omega
theorem side_mem1 {g : List (List Int)} {level : Bool} {line fr long j : Nat} (h1 : fr ≤ j) (h2 : j < fr + long) : (sidesG g level line j).1 ∈ (sidesOf g ⟨level,line,fr,long⟩).1 := by
 simp only [sidesOf,Int.toNat_natCast]
 rw [mem_ddp]
 simp only [alongG,List.mem_map,List.mem_range]
 exact ⟨j - fr,by omega,by rw [show fr + (j - fr) = j by omega]⟩
theorem side_mem2 {g : List (List Int)} {level : Bool} {line fr long j : Nat} (h1 : fr ≤ j) (h2 : j < fr + long) : (sidesG g level line j).2 ∈ (sidesOf g ⟨level,line,fr,long⟩).2 := by
 simp only [sidesOf,Int.toNat_natCast]
 rw [mem_ddp]
 simp only [alongG,List.mem_map,List.mem_range]
 exact ⟨j - fr,by omega,by rw [show fr + (j - fr) = j by omega]⟩
theorem side_of1 {g : List (List Int)} {level : Bool} {line fr long : Nat} {x : Int} (h : x ∈ (sidesOf g ⟨level,line,fr,long⟩).1) : ∃ j,fr ≤ j ∧ j < fr + long ∧ x = (sidesG g level line j).1 := by
 simp only [sidesOf,Int.toNat_natCast] at h
 rw [mem_ddp] at h
 simp only [alongG,List.mem_map,List.mem_range] at h
 obtain ⟨j,hj,rfl⟩ := h
 exact ⟨fr + j,by omega,by omega,rfl⟩
theorem side_of2 {g : List (List Int)} {level : Bool} {line fr long : Nat} {x : Int} (h : x ∈ (sidesOf g ⟨level,line,fr,long⟩).2) : ∃ j,fr ≤ j ∧ j < fr + long ∧ x = (sidesG g level line j).2 := by
 simp only [sidesOf,Int.toNat_natCast] at h
 rw [mem_ddp] at h
 simp only [alongG,List.mem_map,List.mem_range] at h
 obtain ⟨j,hj,rfl⟩ := h
 exact ⟨fr + j,by omega,by omega,rfl⟩
theorem by_left {g : List (List Int)} {nh nw : Nat} (h : RmOk g nh nw n) {x y : Nat} : By g (wallsG g nh nw) false x y ↔ DL (cn g) nh nw x y := by
 constructor
 ·rintro ⟨w,hw,hlv,⟨a,ha,rfl⟩,b,hb,rfl⟩
  obtain ⟨line,fr,long,he,hl,hin⟩ := wallsG_ok w hw
  rw [hlv] at he hin
  subst he
  obtain ⟨j1,p1,p2,rfl⟩ := side_of1 ha
  obtain ⟨j2,q1,q2,rfl⟩ := side_of2 hb
  have i1 := (hin j1 p1 p2).1
  have i2 := (hin j2 q1 q2).1
  unfold InL at i1 i2
  simp only [Bool.false_eq_true,if_false] at i1 i2
  obtain ⟨L,rfl⟩ : ∃ L,line = L + 1 := ⟨line - 1,by omega⟩
  refine ⟨L,j1,j2,i1.2.1,i1.2.2,i2.2.2,fun r r1 r2 => ?_,?_,?_⟩
  ·have hr := hin r (by omega) (by omega)
   have hr1 := hr.1
   unfold InL at hr1
   simp only [Bool.false_eq_true,if_false] at hr1
   have hr2 := hr.2
   unfold difG sidesG at hr2
   simp only [Bool.false_eq_true,if_false,decide_eq_true_eq,Nat.add_sub_cancel] at hr2
   exact (h.ne hr1.2.2 (by omega) hr1.2.2 hr1.2.1).1 hr2
  ·simp [sidesG,cn]
  ·simp [sidesG,cn]
 ·rintro ⟨L,i1,i2,h1,h2,h3,run,rfl,rfl⟩
  have hrun : Run g false (L + 1) (min i1 i2) (max i1 i2) := by
   intro r r1 r2
   have := run r r1 r2
   rw [← h.ne (by omega) (by omega) (by omega) h1] at this
   unfold difG sidesG
   simpa using this
  obtain ⟨w,hw,w1,w2,w3,w4⟩ := wallsG_cov (g := g) (H := nh) (W := nw) (level := false) (line := L + 1) (by omega) (by simpa using h1) (by omega) (by simp only [Bool.false_eq_true,if_false]; omega) hrun
  obtain ⟨line,fr,long,he,hl,hin⟩ := wallsG_ok w hw
  rw [w1] at he
  subst he
  simp only at w2 w3 w4
  obtain rfl : line = L + 1 := by omega
  refine ⟨_,hw,rfl,⟨_,side_mem1 (j := i1) (by omega) (by omega),?_⟩,_,side_mem2 (j := i2) (by omega) (by omega),?_⟩
  ·simp [sidesG,cn]
  ·simp [sidesG,cn]
theorem by_above {g : List (List Int)} {nh nw : Nat} (h : RmOk g nh nw n) {x y : Nat} : By g (wallsG g nh nw) true x y ↔ DU (cn g) nh nw x y := by
 constructor
 ·rintro ⟨w,hw,hlv,⟨a,ha,rfl⟩,b,hb,rfl⟩
  obtain ⟨line,fr,long,he,hl,hin⟩ := wallsG_ok w hw
  rw [hlv] at he hin
  subst he
  obtain ⟨j1,p1,p2,rfl⟩ := side_of1 ha
  obtain ⟨j2,q1,q2,rfl⟩ := side_of2 hb
  have i1 := (hin j1 p1 p2).1
  have i2 := (hin j2 q1 q2).1
  unfold InL at i1 i2
  simp only [if_true] at i1 i2
  obtain ⟨L,rfl⟩ : ∃ L,line = L + 1 := ⟨line - 1,by omega⟩
  refine ⟨L,j1,j2,i1.2.1,i1.2.2,i2.2.2,fun r r1 r2 => ?_,?_,?_⟩
  ·have hr := hin r (by omega) (by omega)
   have hr1 := hr.1
   unfold InL at hr1
   simp only [if_true] at hr1
   have hr2 := hr.2
   unfold difG sidesG at hr2
   simp only [if_true,decide_eq_true_eq,Nat.add_sub_cancel] at hr2
   exact (h.ne (by omega) hr1.2.2 hr1.2.1 hr1.2.2).1 hr2
  ·simp [sidesG,cn]
  ·simp [sidesG,cn]
 ·rintro ⟨L,i1,i2,h1,h2,h3,run,rfl,rfl⟩
  have hrun : Run g true (L + 1) (min i1 i2) (max i1 i2) := by
   intro r r1 r2
   have := run r r1 r2
   rw [← h.ne (by omega) (by omega) h1 (by omega)] at this
   unfold difG sidesG
   simpa using this
  obtain ⟨w,hw,w1,w2,w3,w4⟩ := wallsG_cov (g := g) (H := nh) (W := nw) (level := true) (line := L + 1) (by omega) (by simpa using h1) (by omega) (by simp only [if_true]; omega) hrun
  obtain ⟨line,fr,long,he,hl,hin⟩ := wallsG_ok w hw
  rw [w1] at he
  subst he
  simp only at w2 w3 w4
  obtain rfl : line = L + 1 := by omega
  refine ⟨_,hw,rfl,⟨_,side_mem1 (j := i1) (by omega) (by omega),?_⟩,_,side_mem2 (j := i2) (by omega) (by omega),?_⟩
  ·simp [sidesG,cn]
  ·simp [sidesG,cn]
theorem cn_lt {g : List (List Int)} {nh nw : Nat} (h : RmOk g nh nw n) {i j : Nat} (hi : i < nh) (hj : j < nw) : cn g i j < n := by
 have := h i j hi hj
 unfold cn; omega
theorem left_tc {g : List (List Int)} {nh nw : Nat} (h : RmOk g nh nw n) {a b : Nat} (ha : a < n) (hb : b < n) : getB (leftG g nh nw n) a b = true ↔ TC (DL (cn g) nh nw) a b := by
 obtain ⟨⟨k1,k2⟩,-⟩ := ord_get h (wallsG g nh nw) wallsG_ok (M := (emptyM n,emptyM n)) (emptyM_sq n) (emptyM_sq n)
 have hd : ∀ x y,getB (ordM g nh nw n).1 x y = true ↔ DL (cn g) nh nw x y := fun x y => by
  unfold ordM; rw [k2,by_left h]; simp [emptyM_no]
 unfold leftG
 have k3 : Sq n (ordM g nh nw n).1 := k1
 rw [close_tc k3 ha hb]
 constructor
 ·exact TC.mono fun x y q => (hd x y).1 q.2.2
 ·refine TC.mono fun x y q => ⟨?_,?_,(hd x y).2 q⟩
  ·obtain ⟨j,i1,i2,q1,q2,q3,-,rfl,-⟩ := q
   exact cn_lt h q2 (by omega)
  ·obtain ⟨j,i1,i2,q1,q2,q3,-,-,rfl⟩ := q
   exact cn_lt h q3 q1
theorem above_tc {g : List (List Int)} {nh nw : Nat} (h : RmOk g nh nw n) {a b : Nat} (ha : a < n) (hb : b < n) : getB (aboveG g nh nw n) a b = true ↔ TC (DU (cn g) nh nw) a b := by
 obtain ⟨-,⟨k1,k2⟩⟩ := ord_get h (wallsG g nh nw) wallsG_ok (M := (emptyM n,emptyM n)) (emptyM_sq n) (emptyM_sq n)
 have hd : ∀ x y,getB (ordM g nh nw n).2 x y = true ↔ DU (cn g) nh nw x y := fun x y => by
  unfold ordM; rw [k2,by_above h]; simp [emptyM_no]
 unfold aboveG
 have k3 : Sq n (ordM g nh nw n).2 := k1
 rw [close_tc k3 ha hb]
 constructor
 ·exact TC.mono fun x y q => (hd x y).1 q.2.2
 ·refine TC.mono fun x y q => ⟨?_,?_,(hd x y).2 q⟩
  ·obtain ⟨j,i1,i2,q1,q2,q3,-,rfl,-⟩ := q
   exact cn_lt h (by omega) q2
  ·obtain ⟨j,i1,i2,q1,q2,q3,-,-,rfl⟩ := q
   exact cn_lt h q1 q3
end
end
section
def lfM (p : List Txt) : List (List Bool) := leftG (gP p) p.length (hdRow p).length (rP p).length
def abM (p : List Txt) : List (List Bool) := aboveG (gP p) p.length (hdRow p).length (rP p).length
def Lf (p : List Txt) (a b : Nat) : Prop := getB (lfM p) a b = true
def Ab (p : List Txt) (a b : Nat) : Prop := getB (abM p) a b = true
section
variable {p : List Txt} {a b d : Nat}
theorem Lf.iff (ha : a < (rP p).length) (hb : b < (rP p).length) : Lf p a b ↔ TC (DL (cn (gP p)) p.length (hdRow p).length) a b := left_tc gP_room ha hb
theorem Ab.iff (ha : a < (rP p).length) (hb : b < (rP p).length) : Ab p a b ↔ TC (DU (cn (gP p)) p.length (hdRow p).length) a b := above_tc gP_room ha hb
theorem Lf.trans (ha : a < (rP p).length) (hb : b < (rP p).length) (hd : d < (rP p).length) (h : Lf p a b) (k : Lf p b d) : Lf p a d := by
 rw [Lf.iff ha hd]; exact ((Lf.iff ha hb).1 h).trans ((Lf.iff hb hd).1 k)
theorem Ab.trans (ha : a < (rP p).length) (hb : b < (rP p).length) (hd : d < (rP p).length) (h : Ab p a b) (k : Ab p b d) : Ab p a d := by
 rw [Ab.iff ha hd]; exact ((Ab.iff ha hb).1 h).trans ((Ab.iff hb hd).1 k)
end
end
section
def rooms (n : Nat) : List Int := (List.range n).map fun i : Nat => (i : Int)
section
variable {n : Nat} {f : Nat → Nat}
end
end
section
section
variable {p : List Txt} {below : Bool}
end
end
section
section
variable {M : List (List Bool)} {ws : List Int} {n : Nat} {rk : Nat → Nat}
end
end

section
variable {M : List (List Bool)} {ms : List Nat} {n : Nat} {rk : Nat → Nat} {ws out : List Int}
abbrev ones (n : Nat) : List Int := List.replicate n 1
def RB (M : List (List Bool)) (n b : Nat) : Int := HB (revM n M) (ones n) n b
def LgOk (M : List (List Bool)) (n : Nat) (out : List Int) : Prop := out.length = n ∧ ∀ a,a < n → 0 ≤ getI out a ∧ getI out a ≤ RB M n a
theorem LgOk.set (h : LgOk M n out) {a : Nat} {v : Int} (ha : a < n) (h0 : 0 ≤ v) (h1 : v ≤ RB M n a) : LgOk M n (out.set a v) := by
 refine ⟨by simp [h.1],fun y hy => ?_⟩
 rw [getI_set (by rw [h.1]; exact ha)]
 split
 ·rename_i e; subst e; exact ⟨h0,h1⟩
 ·exact h.2 y hy
end
section
variable {p : List Txt}
end

def Pat (g1 g2 : List (List Int)) (H W : Nat) : Prop := ∀ i j i' j',i < H → j < W → i' < H → j' < W → (gz g1 i j = gz g1 i' j' ↔ gz g2 i j = gz g2 i' j')
theorem Pat.symm {g1 g2 : List (List Int)} {H W : Nat} (h : Pat g1 g2 H W) : Pat g2 g1 H W := fun i j i' j' a b c d => (h i j i' j' a b c d).symm
theorem Pat.trans {g1 g2 g3 : List (List Int)} {H W : Nat} (h : Pat g1 g2 H W) (k : Pat g2 g3 H W) : Pat g1 g3 H W := fun i j i' j' a b c d => (h i j i' j' a b c d).trans (k i j i' j' a b c d)
structure KC (g1 g2 : List (List Int)) (H W : Nat) (k1 k2 : List Int) : Prop where
 len : k1.length = k2.length
 at_ : ∀ i j,i < H → j < W → k1.idxOf (gz g1 i j) = k2.idxOf (gz g2 i j)
theorem idxOf_snoc {l : List Int} {z x : Int} (h : l.idxOf x = l.length) : (l ++ [z]).idxOf x = if x = z then l.length else l.length + 1 := by
 have hn := idxOf_not h
 rw [List.idxOf_append,if_neg hn]
 by_cases e : x = z
 ·subst e; simp
 ·rw [if_neg e]
  have e2 : (z == x) = false := by simpa using fun h => e h.symm
  simp [List.idxOf_cons,e2]
  omega
theorem KC.step {g1 g2 : List (List Int)} {H W : Nat} (hp : Pat g1 g2 H W) {k1 k2 : List Int} (h : KC g1 g2 H W k1 k2) {a b : Nat} (ha : a < H) (hb : b < W) : KC g1 g2 H W (seKs k1 (gz g1 a b)) (seKs k2 (gz g2 a b)) := by
 have h1 := h.at_ a b ha hb
 unfold seKs
 by_cases e : k1.idxOf (gz g1 a b) = k1.length
 ·have e2 : k2.idxOf (gz g2 a b) = k2.length := by rw [← h1,e,h.len]
  rw [if_pos e,if_pos e2]
  refine ⟨by simp [h.len],fun i j hi hj => ?_⟩
  have h2 := h.at_ i j hi hj
  have hpt := hp i j a b hi hj ha hb
  by_cases q : k1.idxOf (gz g1 i j) = k1.length
  ·have q2 : k2.idxOf (gz g2 i j) = k2.length := by rw [← h2,q,h.len]
   rw [idxOf_snoc q,idxOf_snoc q2,h.len]
   by_cases r : gz g1 i j = gz g1 a b
   ·rw [if_pos r,if_pos (hpt.1 r)]
   ·rw [if_neg r,if_neg fun x => r (hpt.2 x)]
  ·have q2 : ¬ k2.idxOf (gz g2 i j) = k2.length := by rw [← h2,← h.len]; exact q
   rw [idxOf_app q,idxOf_app q2,h2]
 ·have e2 : ¬ k2.idxOf (gz g2 a b) = k2.length := by rw [← h1,← h.len]; exact e
  rw [if_neg e,if_neg e2]
  exact h
theorem seRs_same {k1 k2 rs : List Int} {R : List Rect} {z1 z2 : Int} {q : Rect} (hl : k1.length = k2.length) (hi : k1.idxOf z1 = k2.idxOf z2) : seRs k1 R z1 q = seRs k2 R z2 q := by
 unfold seRs seIn
 rw [hl,hi]
theorem seRow_same {g1 g2 : List (List Int)} {H W : Nat} (hp : Pat g1 g2 H W) {i : Nat} (hi : i < H) {s1 s2 : List Int × List Rect} (h : KC g1 g2 H W s1.1 s2.1) (hr : s1.2 = s2.2) : ∀ j,j ≤ W →
  KC g1 g2 H W (seRow g1 i s1 j).1 (seRow g2 i s2 j).1 ∧ (seRow g1 i s1 j).2 = (seRow g2 i s2 j).2
 | 0,_ => ⟨h,hr⟩
 | j + 1,hj => by
  obtain ⟨h1,h2⟩ := seRow_same hp hi h hr j (by omega)
  unfold seRow
  refine ⟨h1.step hp hi (by omega),?_⟩
  show seRs _ _ _ _ = seRs _ _ _ _
  rw [h2]
  exact seRs_same (rs := []) h1.len (h1.at_ i j hi (by omega))
theorem seRows_same {g1 g2 : List (List Int)} {H W : Nat} (hp : Pat g1 g2 H W) : ∀ i,i ≤ H → KC g1 g2 H W (seRows g1 W i).1 (seRows g2 W i).1 ∧ (seRows g1 W i).2 = (seRows g2 W i).2
 | 0,_ => ⟨⟨rfl,fun _ _ _ _ => rfl⟩,rfl⟩
 | i + 1,hi => by
  obtain ⟨h1,h2⟩ := seRows_same hp i (by omega)
  exact seRow_same hp (by omega) h1 h2 W (Nat.le_refl _)
theorem zRow_same {g1 g2 : List (List Int)} {H W : Nat} (hp : Pat g1 g2 H W) {i : Nat} (hi : i < H) {s1 s2 : List Int × List Rect} (h : KC g1 g2 H W s1.1 s2.1) (hr : s1.2 = s2.2) : ∀ j,j ≤ W → zRow g1 i s1 j = zRow g2 i s2 j
 | 0,_ => rfl
 | j + 1,hj => by
  unfold zRow
  rw [zRow_same hp hi h hr j (by omega),(seRow_same hp hi h hr j (by omega)).1.at_ i j hi (by omega)]
theorem zRows_same {g1 g2 : List (List Int)} {H W : Nat} (hp : Pat g1 g2 H W) : ∀ i,i ≤ H → zRows g1 W i = zRows g2 W i
 | 0,_ => rfl
 | i + 1,hi => by
  obtain ⟨h1,h2⟩ := seRows_same hp i (by omega)
  unfold zRows
  rw [zRows_same hp i (by omega),zRow_same hp (by omega) h1 h2 W (Nat.le_refl _)]
theorem GW.w0 {g : List (List Int)} {H W : Nat} (h : GW g H W) : w0 g = W := by
 obtain ⟨row,hrow,hl,-⟩ := h.at_ (show 0 < H by have := h.2.2.1; omega) (show 0 < W by have := h.2.2.2.2.1; omega)
 rw [w0_is hrow,hl]
theorem GW.zG {g : List (List Int)} {H W : Nat} (h : GW g H W) : zG g = zRows g W H ∧ stG g = seRows g W H := by
 unfold Fw.zG stG; rw [h.w0,h.1]; exact ⟨rfl,rfl⟩
theorem zG_at {g : List (List Int)} {H W i j : Nat} (h : GW g H W) (hi : i < H) (hj : j < W) : gz (zG g) i j = (((seRows g W H).1.idxOf (gz g i j) : Nat) : Int) := by
 rw [h.zG.1]
 unfold gz
 rw [zRows_at hi,Option.getD_some,zRow_at hj,Option.getD_some]
 congr 1
 exact zNum hi hj
theorem zG_gw2 {g : List (List Int)} {H W : Nat} (h : GW g H W) : GW (zG g) H W := by
 rw [h.zG.1]
 refine ⟨zRows_len _,fun r hr => ?_,h.2.2⟩
 obtain ⟨k,hk⟩ := List.getElem?_of_mem hr
 have := len_of hk
 rw [zRows_len] at this
 rw [zRows_at this] at hk
 cases hk
 exact zRow_len _
theorem zG_mem {g : List (List Int)} {H W i j : Nat} (hi : i < H) (hj : j < W) : gz g i j ∈ (seRows g W H).1 := (SeInv.rows (g := g) (W := W) H).mem i j (gone_all hi hj)
theorem zG_pat {g : List (List Int)} {H W : Nat} (h : GW g H W) : Pat (zG g) g H W := by
 intro i j i' j' hi hj hi' hj'
 rw [zG_at h hi hj,zG_at h hi' hj']
 constructor
 ·intro e
  have h1 := idxOf_mem (ks := (seRows g W H).1) (z := gz g i j) (by have := List.idxOf_lt_length_iff.2 (zG_mem (g := g) hi hj); omega)
  have h2 := idxOf_mem (ks := (seRows g W H).1) (z := gz g i' j') (by have := List.idxOf_lt_length_iff.2 (zG_mem (g := g) hi' hj'); omega)
  rw [show (seRows g W H).1.idxOf (gz g i j) = (seRows g W H).1.idxOf (gz g i' j') by omega,h2] at h1
  exact (Option.some.inj h1).symm
 ·intro e; rw [e]
theorem zG_lt {g : List (List Int)} {H W i j : Nat} (h : GW g H W) (hi : i < H) (hj : j < W) : 0 ≤ gz (zG g) i j ∧ gz (zG g) i j < (seRows g W H).2.length := by
 rw [zG_at h hi hj]
 have h1 := List.idxOf_lt_length_iff.2 (zG_mem (g := g) hi hj)
 have h2 := (SeInv.rows (g := g) (W := W) H).len
 omega
theorem readG_text {g : List (List Int)} {H W i j : Nat} (h : GW g H W) (hi : i < H) (hj : j < W) (h0 : 0 ≤ gz g i j) (h1 : gz g i j ≤ 100) : gz (readG (textG g)) i j = gz g i j + 97 := by
 obtain ⟨row,hrow,hl,hx⟩ := h.at_ hi hj
 have e1 : (readG (textG g))[i]? = some (rowZ (rowT row)) := by simp [readG,textG_at hrow]
 have e2 : (rowZ (rowT row))[j]? = some ((letZ (gz g i j)).toNat : Int) := by simp [rowZ,rowT,hx]
 have e3 : gz (readG (textG g)) i j = ((letZ (gz g i j)).toNat : Int) := by
  conv => lhs; unfold gz
  rw [e1,Option.getD_some,e2,Option.getD_some]
 rw [e3]
 unfold letZ
 rw [UInt8.toNat_ofNat_of_lt' (by show 97 + (gz g i j).toNat < 256; omega)]
 omega
theorem text_hd {g : List (List Int)} {H W : Nat} (h : GW g H W) : (textG g).length = H ∧ (hdRow (textG g)).length = W := by
 refine ⟨by rw [textG_len,h.1],?_⟩
 obtain ⟨row,hrow,hl,-⟩ := h.at_ (show 0 < H by have := h.2.2.1; omega) (show 0 < W by have := h.2.2.2.2.1; omega)
 rw [hdRow_of (textG_at hrow)]
 simp [rowT,hl]
theorem text_grid {g : List (List Int)} {H W : Nat} (h : GW g H W) (hz : ∀ i j,i < H → j < W → 0 ≤ gz g i j ∧ gz g i j < 26) : gridB (textG g) = true := by
 obtain ⟨t1,t2⟩ := text_hd h
 unfold gridB
 rw [t1,t2]
 have h2 := h.2.2
 have : (textG g).all (rowB W) = true := by
  rw [List.all_eq_true]
  intro r hr
  obtain ⟨i,hi⟩ := List.getElem?_of_mem hr
  have hil := len_of hi
  rw [t1] at hil
  obtain ⟨row,hrow,hrm⟩ := get_of (show i < g.length by rw [h.1]; exact hil)
  have hrl := h.2.1 row hrm
  rw [textG_at hrow] at hi
  cases hi
  unfold rowB
  simp only [Bool.and_eq_true,decide_eq_true_eq,List.all_eq_true]
  refine ⟨⟨⟨by simp [rowT,hrl],by simp [rowT]; omega⟩,by simp [rowT]; omega⟩,fun c hc => ?_⟩
  obtain ⟨z,hzm,rfl⟩ := List.mem_map.1 hc
  obtain ⟨j,hj⟩ := List.getElem?_of_mem hzm
  have hjl := len_of hj
  have e : gz g i j = z := by simp [gz,hrow,hj]
  have := hz i j hil (by omega)
  rw [e] at this
  unfold letterB letZ
  rw [UInt8.toNat_ofNat_of_lt' (by show 97 + z.toNat < 256; omega)]
  simp only [Bool.and_eq_true,decide_eq_true_eq]
  omega
 rw [this]
 simp only [Bool.true_and,Bool.and_eq_true,decide_eq_true_eq]
 omega
def nm (g : List (List Int)) : List Txt := textG (zG g)
structure NmOk (g : List (List Int)) (H W : Nat) : Prop where
 gw : GW g H W
 le : (seRows g W H).2.length ≤ 9
theorem NmOk.bound {g : List (List Int)} {H W : Nat} (h : NmOk g H W) {i j : Nat} (hi : i < H) (hj : j < W) : 0 ≤ gz (zG g) i j ∧ gz (zG g) i j ≤ 8 := by
 have h1 := zG_lt h.gw hi hj
 have h2 := h.le
 omega
theorem NmOk.hd {g : List (List Int)} {H W : Nat} (h : NmOk g H W) : (nm g).length = H ∧ (hdRow (nm g)).length = W := text_hd (zG_gw2 h.gw)
theorem NmOk.pat {g : List (List Int)} {H W : Nat} (h : NmOk g H W) : Pat (readG (nm g)) g H W := by
 refine Pat.trans (fun i j i' j' hi hj hi' hj' => ?_) (zG_pat h.gw)
 have b1 := h.bound hi hj
 have b2 := h.bound hi' hj'
 unfold nm
 rw [readG_text (zG_gw2 h.gw) hi hj b1.1 (by omega),readG_text (zG_gw2 h.gw) hi' hj' b2.1 (by omega)]
 constructor <;> intro e <;> omega
theorem NmOk.gP {g : List (List Int)} {H W : Nat} (h : NmOk g H W) : gP (nm g) = zG g ∧ rP (nm g) = (seRows g W H).2 := by
 rw [gP_eq,rP_eq,h.hd.1,h.hd.2,h.gw.zG.1]
 exact ⟨zRows_same h.pat H (Nat.le_refl _),(seRows_same h.pat H (Nat.le_refl _)).2⟩
theorem NmOk.named {g : List (List Int)} {H W : Nat} (h : NmOk g H W) : Named (nm g) := by
 refine ⟨text_grid (zG_gw2 h.gw) fun i j hi hj => by have := h.bound hi hj; omega,?_⟩
 rw [h.gP.1]; rfl
theorem NmOk.cell {g : List (List Int)} {H W : Nat} (h : NmOk g H W) {i j : Nat} (hi : i < H) (hj : j < W) : cellZ (nm g) i j = gz (zG g) i j := by
 rw [← h.named.cell (by rw [h.hd.1]; exact hi) (by rw [h.hd.2]; exact hj),h.gP.1]
structure Cells (c : Nat → Nat → Nat) (g : List (List Int)) (H W : Nat) : Prop where
 gw : GW g H W
 at_ : ∀ i j,i < H → j < W → gz g i j = ((c i j : Nat) : Int)
structure Ren (c : Nat → Nat → Nat) (H W : Nat) (t : List Txt) : Prop where
 hl : t.length = H
 wl : (hdRow t).length = W
 pat : ∀ i j i' j',i < H → j < W → i' < H → j' < W → (cn (gP t) i j = cn (gP t) i' j' ↔ c i j = c i' j')
section
variable {c c' : Nat → Nat → Nat} {H W : Nat}
theorem TC.map {R S : Nat → Nat → Prop} {f : Nat → Nat} (h : ∀ a b,R a b → S (f a) (f b)) {a b : Nat} (k : TC R a b) : TC S (f a) (f b) := by
 induction k with
 | one k => exact .one (h _ _ k)
 | tail _ k ih => exact .tail ih (h _ _ k)
structure Iso (p t : List Txt) (L U : Nat → Nat → Prop) (σ : Nat → Nat) : Prop where
 pl : plainB t = true
 n : (rP t).length = (rP p).length
 lt : ∀ a,a < (rP p).length → σ a < (rP p).length
 inj : ∀ a b,a < (rP p).length → b < (rP p).length → σ a = σ b → a = b
 lf : ∀ a b,a < (rP p).length → b < (rP p).length → (Lf t (σ a) (σ b) ↔ L a b)
 ab : ∀ a b,a < (rP p).length → b < (rP p).length → (Ab t (σ a) (σ b) ↔ U a b)
theorem Iso.imp {p t : List Txt} {L U L' U' : Nat → Nat → Prop} {σ : Nat → Nat} (h : Iso p t L U σ) (hL : ∀ a b,a < (rP p).length → b < (rP p).length → (L a b ↔ L' a b)) (hU : ∀ a b,a < (rP p).length → b < (rP p).length → (U a b ↔ U' a b)) : Iso p t L' U' σ :=
 ⟨h.pl,h.n,h.lt,h.inj,fun a b ha hb => (h.lf a b ha hb).trans (hL a b ha hb),fun a b ha hb => (h.ab a b ha hb).trans (hU a b ha hb)⟩
structure Fold1 (f : Nat → Nat) (m n : Nat) : Prop where
 pos : 1 ≤ m
 z : f 0 = 0
 s : ∀ i,i + 1 < m → f (i + 1) = f i ∨ f (i + 1) = f i + 1
 e : f (m - 1) + 1 = n
theorem Fold1.mono {f : Nat → Nat} {m n : Nat} (h : Fold1 f m n) : ∀ {i j : Nat},i ≤ j → j < m → f i ≤ f j := by
 intro i j hij
 induction j with
 | zero => intro _; rw [show i = 0 by omega]; exact Nat.le_refl _
 | succ j ih =>
  intro hj
  by_cases e : i = j + 1
  ·subst e; exact Nat.le_refl _
  ·have h1 := ih (by omega) (by omega)
   have := h.s j hj
   omega
theorem Fold1.lt {f : Nat → Nat} {m n i : Nat} (h : Fold1 f m n) (hi : i < m) : f i < n := by
 have := h.mono (i := i) (j := m - 1) (by omega) (by have := h.pos; omega)
 have := h.e
 omega
theorem Fold1.mid {f : Nat → Nat} {m n i : Nat} (h : Fold1 f m n) {v : Nat} : ∀ {j : Nat},i ≤ j → j < m → f i ≤ v → v ≤ f j → ∃ r,i ≤ r ∧ r ≤ j ∧ f r = v := by
 intro j
 induction j with
 | zero => intro h1 h2 h3 h4; exact ⟨0,by omega,Nat.le_refl _,by rw [show i = 0 by omega] at h3; omega⟩
 | succ j ih =>
  intro h1 h2 h3 h4
  by_cases e : f (j + 1) = v
  ·exact ⟨j + 1,h1,Nat.le_refl _,e⟩
  ·by_cases e2 : i = j + 1
   ·subst e2; omega
   ·have := h.s j h2
    obtain ⟨r,r1,r2,r3⟩ := ih (by omega) (by omega) h3 (by omega)
    exact ⟨r,r1,by omega,r3⟩
theorem Fold1.last {f : Nat → Nat} {m n v : Nat} (h : Fold1 f m n) (hv : v + 1 < n) : ∃ r,r + 1 < m ∧ f r = v ∧ f (r + 1) = v + 1 := by
 have hp := h.pos
 have he := h.e
 obtain ⟨e,h1,h2,h3,h4⟩ := flip_of (P := fun r => f r ≤ v) (i := 0) (n := m - 1) (by omega) (by rw [h.z]; omega) (by omega)
 have := h.s e (by omega)
 exact ⟨e,by omega,by omega,by omega⟩
theorem DL.fold {f g : Nat → Nat} {H' W' : Nat} (hf : Fold1 f H H') (hg : Fold1 g W W') (hc : ∀ i j,i < H → j < W → c i j = c' (f i) (g j)) {a b : Nat} : DL c H W a b ↔ DL c' H' W' a b := by
 constructor
 ·rintro ⟨j,i1,i2,h1,h2,h3,run,rfl,rfl⟩
  have hgj : g (j + 1) = g j + 1 := by
   rcases hg.s j h1 with e | e
   ·have := run i1 (by omega) (by omega)
    rw [hc i1 j h2 (by omega),hc i1 (j + 1) h2 h1,e] at this
    exact absurd rfl this
   ·exact e
  have hlt := hg.lt h1
  refine ⟨g j,f i1,f i2,by omega,hf.lt h2,hf.lt h3,fun r r1 r2 => ?_,hc _ _ h2 (by omega),by rw [hc _ _ h3 h1,hgj]⟩
  have : ∃ r0,min i1 i2 ≤ r0 ∧ r0 ≤ max i1 i2 ∧ f r0 = r := by
   rcases Nat.le_total i1 i2 with q | q
   ·have := hf.mono q h3
    obtain ⟨r0,q1,q2,q3⟩ := hf.mid (v := r) q h3 (by omega) (by omega)
    exact ⟨r0,by omega,by omega,q3⟩
   ·have := hf.mono q h2
    obtain ⟨r0,q1,q2,q3⟩ := hf.mid (v := r) q h2 (by omega) (by omega)
    exact ⟨r0,by omega,by omega,q3⟩
  obtain ⟨r0,q1,q2,rfl⟩ := this
  have := run r0 q1 q2
  rw [hc r0 j (by omega) (by omega),hc r0 (j + 1) (by omega) h1,hgj] at this
  exact this
 ·rintro ⟨j,i1,i2,h1,h2,h3,run,rfl,rfl⟩
  obtain ⟨j0,k1,k2,k3⟩ := hg.last h1
  have hfe := hf.e
  have hfp := hf.pos
  obtain ⟨r1,-,q2,q3⟩ := hf.mid (i := 0) (j := H - 1) (v := i1) (by omega) (by omega) (by rw [hf.z]; omega) (by omega)
  obtain ⟨r2,-,q5,q6⟩ := hf.mid (i := 0) (j := H - 1) (v := i2) (by omega) (by omega) (by rw [hf.z]; omega) (by omega)
  refine ⟨j0,r1,r2,k1,by omega,by omega,fun r s1 s2 => ?_,by rw [hc _ _ (by omega) (by omega),q3,k2],by rw [hc _ _ (by omega) (by omega),q6,k3]⟩
  rw [hc r j0 (by omega) (by omega),hc r (j0 + 1) (by omega) k1,k2,k3]
  refine run (f r) ?_ ?_
  ·rcases Nat.le_total r1 r2 with q | q
   ·have := hf.mono (show r1 ≤ r by omega) (show r < H by omega); omega
   ·have := hf.mono (show r2 ≤ r by omega) (show r < H by omega); omega
  ·rcases Nat.le_total r1 r2 with q | q
   ·have := hf.mono (show r ≤ r2 by omega) (show r2 < H by omega); omega
   ·have := hf.mono (show r ≤ r1 by omega) (show r1 < H by omega); omega
theorem DU.fold {f g : Nat → Nat} {H' W' : Nat} (hf : Fold1 f H H') (hg : Fold1 g W W') (hc : ∀ i j,i < H → j < W → c i j = c' (f i) (g j)) {a b : Nat} : DU c H W a b ↔ DU c' H' W' a b :=
 DL.fold (c := tr c) (c' := tr c') hg hf fun i j hi hj => hc j i hj hi
theorem TC.iff {R S : Nat → Nat → Prop} (h : ∀ a b,R a b ↔ S a b) {a b : Nat} : TC R a b ↔ TC S a b := ⟨TC.mono fun a b => (h a b).1,TC.mono fun a b => (h a b).2⟩
end
section
variable {p t : List Txt} {L U : Nat → Nat → Prop} {σ : Nat → Nat}
end
section
variable {c : Nat → Nat → Nat} {H W : Nat}
theorem DL.cols (h : Pl c H W) {i j i' j' : Nat} (hi : i < H) (hj : j < W) (hi' : i' < H) (hj' : j' < W) (hd : DL c H W (c i j) (c i' j')) : j < j' := by
 obtain ⟨k,i1,i2,h1,h2,h3,run,e1,e2⟩ := hd
 have a1 : j ≤ k := by
  refine Classical.byContradiction fun hn => ?_
  have := h.rect (i := i1) (j := k) (i' := i) (j' := j) i1 (k + 1) h2 hi (by omega) hj e1.symm (by omega) (by omega) (by omega) (by omega)
  exact run i1 (by omega) (by omega) this.symm
 have a2 : k + 1 ≤ j' := by
  refine Classical.byContradiction fun hn => ?_
  have := h.rect (i := i2) (j := k + 1) (i' := i') (j' := j') i2 k h3 hi' h1 hj' e2.symm (by omega) (by omega) (by omega) (by omega)
  exact run i2 (by omega) (by omega) this
 omega
theorem DL.cells {a b : Nat} (hd : DL c H W a b) : (∃ i j,i < H ∧ j < W ∧ c i j = a) ∧ ∃ i j,i < H ∧ j < W ∧ c i j = b := by
 obtain ⟨k,i1,i2,h1,h2,h3,run,e1,e2⟩ := hd
 exact ⟨⟨i1,k,h2,by omega,e1.symm⟩,i2,k + 1,h3,h1,e2.symm⟩
theorem TC.cols (h : Pl c H W) {a b : Nat} (hd : TC (DL c H W) a b) : ∀ {i j i' j' : Nat},i < H → j < W → i' < H → j' < W → c i j = a → c i' j' = b → j < j' := by
 induction hd with
 | one hd => intro i j i' j' h1 h2 h3 h4 e1 e2; subst e1; subst e2; exact hd.cols h h1 h2 h3 h4
 | tail _ hd ih =>
  intro i j i' j' h1 h2 h3 h4 e1 e2
  obtain ⟨⟨x,y,hx,hy,e3⟩,-⟩ := hd.cells
  have q1 := ih h1 h2 hx hy e1 e3
  subst e2; rw [← e3] at hd
  have q2 := hd.cols h hx hy h3 h4
  omega
variable {p : List Txt}
end
structure Made (c : Nat → Nat → Nat) (H W : Nat) (g : List (List Int)) : Prop where
 gw : GW g H W
 ok : okS g = true
 full : fullG g = true
 plan : planB (nm g) = true
 ren : Ren c H W (nm g)
section
section
variable {P : Program} {T : Tab} {F : Nat → Prop} {G : GSt} {w : World} {e : Env} {a : Act} {F0 : Nat → Prop} {G0 : GSt} {w0 : World} {N : Nat}
end
section
variable {P : Program} {T : Tab} {Q : Exit → Env → Store → Prop} {e : Env} {S : Store} {b : Code}
end
end

section
section
variable {p : List Txt} {room : Int} {s : Txt} {t l h w k : Nat}
end
end








theorem sameInts_pc {p q : List Int} (hp : p.length < 2147483648) (hq : q.length < 2147483648) : PC Tryz.prog 24 [eInts p,eInts q] (.bool (decide (p = q))) true := by
 refine PC.of ⟨Tryz.func24,by kernel_rfl,rfl,by kernel_rfl⟩ tabOk mixed (by show 2 ≤ Tryz.f24.ntmps; decide) ?_
 refine W.r fun K hK => ?_
 simp (disch := omega) only [↓RU,RV,RH,↓reduceIte,reduceEqDiff,reduceCtorEq,if_pos]
 refine hK _ _ ?_;clear hK K
 refine W.seq ?_
 refine W.r fun K hK => ?_
 simp (disch := omega) only [↓RU,RV,RH,↓reduceIte,reduceEqDiff,reduceCtorEq,if_pos,w64,tyLint,tyint]
 refine hK _ _ ?_;clear hK K
 refine W.cond rfl (fun h => ?_) (fun h => ?_)
 ·try simp only [RL] at h
  refine W.r fun K hK => ?_
  simp (disch := omega) only [↓RU,RV,RH,↓reduceIte,reduceEqDiff,reduceCtorEq,if_pos]
  refine hK _ _ ?_;clear hK K
  refine W.ret ?_
  refine XThen.ret ?_
  refine Br rfl ?_
  rw [show decide (p = q) = false by simp; rintro rfl; exact h rfl]
  rfl
 ·try simp only [RL] at h
  refine W.skip ?_
  refine xn ?_
  refine W.seq ?_
  refine W.r fun K hK => ?_
  simp (disch := omega) only [↓RU,RV,RH,↓reduceIte,reduceEqDiff,reduceCtorEq,if_pos]
  refine hK _ _ ?_;clear hK K
  refine W.block ?_
  refine W.loop [0,1,5] (fun n vs S => ∃ i : Nat,n = p.length - i ∧ i ≤ p.length ∧ (p.take i = q.take i) ∧ vs = [eInts p,eInts q,.int .i64 i] ∧ S = ⟨[],0⟩) (p.length) ?_ ?_
  ·refine ⟨0,0,rfl,Nat.zero_le _,rfl,?_,rfl⟩
   simp [Env.put,Env.of,argEnv]
  rintro n vs S - ⟨i,rfl,h_i,htk,rfl,rfl⟩
  refine W.seq ?_
  refine W.r fun K hK => ?_
  simp (disch := omega) only [↓RU,RV,RH,↓reduceIte,reduceEqDiff,reduceCtorEq,if_pos,w64,tyLint,tyint]
  refine hK _ _ ?_;clear hK K
  refine W.cond rfl (fun h1 => ?_) (fun h1 => ?_)
  ·try simp only [RL] at h1
   obtain ⟨x,hx,-⟩ := get_of (show i < p.length by omega)
   obtain ⟨y,hy,-⟩ := get_of (show i < q.length by omega)
   refine W.skip ?_
   refine xn ?_
   refine W.seq ?_
   refine W.block ?_
   refine W.seq_draw (by kernel_rfl) fun K hK => ?_
   simp (disch := omega) only [↓RU,RV,RH,↓reduceIte,reduceEqDiff,reduceCtorEq,if_pos,w64,tyLint,tyint,hx,hy]
   refine hK _ _ ?_;clear hK K
   refine W.cond rfl (fun h2 => ?_) (fun h2 => ?_)
   ·try simp only [RL] at h2
    refine W.r fun K hK => ?_
    simp (disch := omega) only [↓RU,RV,RH,↓reduceIte,reduceEqDiff,reduceCtorEq,if_pos]
    refine hK _ _ ?_;clear hK K
    refine W.ret ?_
    refine XBlock.ret ?_
    refine XThen.ret ?_
    refine XThen.ret ?_
    refine XBlock.ret ?_
    refine XThen.ret ?_
    refine Br rfl ?_
    rw [show decide (p = q) = false by simp; rintro rfl; rw [hx] at hy; simp_all]
    rfl
   ·try simp only [RL] at h2
    have h2 : x = y := by simpa using h2
    refine W.skip ?_
    refine XbN ?_
    refine xn ?_
    refine W.k fun K hK => ?_
    simp (disch := omega) only [↓RU,RV,RH,↓reduceIte,reduceEqDiff,reduceCtorEq,if_pos,w64,tyint]
    refine hK _ _ ?_;clear hK K
    refine xn ?_
    refine ⟨p.length - (i + 1),by omega,0,i + 1,rfl,by omega,take_eq_succ htk hx hy h2,?_,rfl⟩
    simp [Env.put,Env.of]
  ·try simp only [RL] at h1
   refine W.exit ?_
   refine xe ?_
   refine xe ?_
   refine XBlock.hit ?_
   refine xn ?_
   refine W.r fun K hK => ?_
   simp (disch := omega) only [↓RU,RV,RH,↓reduceIte,reduceEqDiff,reduceCtorEq,if_pos]
   refine hK _ _ ?_;clear hK K
   refine W.ret ?_
   refine Br rfl ?_
   have h1 : p.take i = p := List.take_of_length_le (by omega)
   have h2 : q.take i = q := List.take_of_length_le (by omega)
   rw [show decide (p = q) = true by simp; rw [← h1,← h2]; exact htk]
   rfl

section
section
variable {S : Store} {fr : Nat → Bool} {f : Nat}
end
end





def slR (rows : List (List Int)) (v : Nat) : PV := match rows with | [] => .nils | _ => .loc 0 v 0 rows.length
def stR (rows : List (List Int)) (v t : Nat) : Store := match rows with | [] => ⟨[],t⟩ | _ => ⟨[.arr v 24 1 (rows.map eInts)],t⟩
theorem slR_nil {v : Nat} : slR [] v = .nils := rfl
theorem stR_nil {v t : Nat} : stR [] v t = ⟨[],t⟩ := rfl
theorem slR_ne {rows : List (List Int)} {v : Nat} (h : rows ≠ []) : slR rows v = .loc 0 v 0 rows.length := by cases rows with | nil => exact absurd rfl h | cons a l => rfl
theorem stR_ne {rows : List (List Int)} {v t : Nat} (h : rows ≠ []) : stR rows v t = ⟨[.arr v 24 1 (rows.map eInts)],t⟩ := by cases rows with | nil => exact absurd rfl h | cons a l => rfl
theorem rn_eIntss {S : Store} {k f : Nat} {sel : List Nat} (l : List (List Int)) : (l.map eInts).mapM (rn S k sel (f + 1)) = some (l.map eInts) :=
 mapM_same fun x hx => by obtain ⟨a,_,rfl⟩ := List.mem_map.1 hx; rfl
theorem reify_slR {rows : List (List Int)} {v t : Nat} : reify (stR rows v t) true 9 (slR rows v) = some (eGrid rows) := by
 by_cases h : rows = []
 ·subst h; rfl
 ·rw [slR_ne h,stR_ne h]
  exact reify_loc rfl (by simp) (mapM_ints2 _)

theorem scs_at1 {l : List (Int × Int)} {n : Nat} {x : Int × Int} (h : l[n]? = some x) : (scs l)[n * 2 + 1]? = some (.int .i64 x.2) := by
 induction l generalizing n with
 | nil => simp at h
 | cons a l ih =>
  cases n with
  | zero => simp at h; subst h; rw [scs_cons]; simp [eShp]
  | succ n =>
   simp at h
   rw [scs_cons,show (n + 1) * 2 + 1 = (eShp a).length + (n * 2 + 1) by simp [eShp]; omega,List.getElem?_append_right (by omega),Nat.add_sub_cancel_left]
   exact ih h
theorem last_at {l : List Shp} (h : l ≠ []) : ∃ q,l[l.length - 1]? = some q ∧ l.getLast? = some q := by
 refine ⟨l.getLast h,?_,List.getLast?_eq_some_getLast h⟩
 rw [← List.getLast?_eq_getElem?]; exact List.getLast?_eq_some_getLast h
theorem bsS_some {o : List Shp} {x q : Shp} (h : o.getLast? = some q) : bsS o x = if x.2 < q.2 then o ++ [x] else o := by unfold bsS; rw [h]
theorem bsF_ne {z : List Shp} {i : Nat} (h : i ≠ 0) (hz : i ≤ z.length) : bsF (z.take i) ≠ [] := by
 have key : ∀ (z : List Shp) (o : List Shp),o ≠ [] → z.foldl bsS o ≠ [] := by
  intro z
  induction z with
  | nil => intro o ho; exact ho
  | cons a z ih =>
   intro o ho
   refine ih _ ?_
   obtain ⟨q,-,hq⟩ := last_at ho
   rw [bsS_some hq]; split
   ·simp
   ·exact ho
 match z,i,h,hz with
 | a :: z,i + 1,_,_ => exact key (z.take i) [a] (by simp)
 | [],i + 1,_,h => simp at h
theorem insSh0_pc  : PC Tryz.prog 190 [.sl [] 0,.int .i64 0,.int .i64 0,.fn 143 []] (.tup []) true := by
 refine PC.of ⟨Tryz.func190,by kernel_rfl,rfl,by kernel_rfl⟩ tabOk mixed (by show 4 ≤ Tryz.f190.ntmps; decide) ?_
 refine W.r fun K hK => ?_
 simp (disch := omega) only [↓RU,RV,RH,↓reduceIte,reduceEqDiff,reduceCtorEq,if_pos,w64,tyint]
 refine hK _ _ ?_;clear hK K
 refine W.block ?_
 refine W.loop [2,8] (fun n vs S => n = 0 ∧ vs = [.int .i64 0,.int .i64 1] ∧ S = ⟨[],0⟩) 0 ?_ ?_
 ·refine ⟨0,rfl,?_,rfl⟩
  simp [Env.put,Env.of,argEnv]
 rintro n vs S - ⟨rfl,rfl,rfl⟩
 refine W.seq ?_
 refine W.r fun K hK => ?_
 simp (disch := omega) only [↓RU,RV,RH,↓reduceIte,reduceEqDiff,reduceCtorEq,if_pos,w64,tyint]
 refine hK _ _ ?_;clear hK K
 refine W.cond rfl (fun h => ?_) (fun h => ?_)
 ·try simp only [RL] at h
  exact absurd h (by decide)
 ·try simp only [RL] at h
  refine W.exit ?_
  refine xe ?_
  refine xe ?_
  refine XBlock.hit ?_
  refine BodyQ.norm rfl ?_
  rfl
theorem len640_pc  : PC Tryz.prog 199 [.int .u64 0] (.int .i64 0) true := by
 refine PC.of ⟨Tryz.func199,by kernel_rfl,rfl,by kernel_rfl⟩ tabOk mixed (by show 1 ≤ Tryz.f199.ntmps; decide) ?_
 refine W.r fun K hK => ?_
 simp (disch := omega) only [↓RU,RV,RH,↓reduceIte,reduceEqDiff,reduceCtorEq,if_pos]
 refine hK _ _ ?_;clear hK K
 refine W.seq ?_
 refine W.r fun K hK => ?_
 simp (disch := omega) only [↓RU,RV,RH,↓reduceIte,reduceEqDiff,reduceCtorEq,if_pos,w64,ty26]
 refine hK _ _ ?_;clear hK K
 refine W.cond rfl (fun h => ?_) (fun h => ?_)
 ·try simp only [RL] at h
  exact absurd h (by decide)
 ·try simp only [RL] at h
  refine W.skip ?_
  refine xn ?_
  refine W.seq ?_
  refine W.r fun K hK => ?_
  simp (disch := omega) only [↓RU,RV,RH,↓reduceIte,reduceEqDiff,reduceCtorEq,if_pos,w64,ty26]
  refine hK _ _ ?_;clear hK K
  refine W.cond rfl (fun h1 => ?_) (fun h1 => ?_)
  ·try simp only [RL] at h1
   exact absurd h1 (by decide)
  ·try simp only [RL] at h1
   refine W.skip ?_
   refine xn ?_
   refine W.seq ?_
   refine W.r fun K hK => ?_
   simp (disch := omega) only [↓RU,RV,RH,↓reduceIte,reduceEqDiff,reduceCtorEq,if_pos,w64,ty26]
   refine hK _ _ ?_;clear hK K
   refine W.cond rfl (fun h2 => ?_) (fun h2 => ?_)
   ·try simp only [RL] at h2
    exact absurd h2 (by decide)
   ·try simp only [RL] at h2
    refine W.skip ?_
    refine xn ?_
    refine W.r fun K hK => ?_
    simp (disch := omega) only [↓RU,RV,RH,↓reduceIte,reduceEqDiff,reduceCtorEq,if_pos,w64,w64,tyint,tystring,ty26,ty27]
    refine hK _ _ ?_;clear hK K
    refine W.ret ?_
    refine Br rfl ?_
    rfl
theorem len0_pc  : PC Tryz.prog 173 [.int .u64 0] (.int .i64 0) true := by
 refine PC.of ⟨Tryz.func173,by kernel_rfl,rfl,by kernel_rfl⟩ tabOk mixed (by show 1 ≤ Tryz.f173.ntmps; decide) ?_
 refine W.r fun K hK => ?_
 simp (disch := omega) only [↓RU,RV,RH,↓reduceIte,reduceEqDiff,reduceCtorEq,if_pos]
 refine hK _ _ ?_;clear hK K
 refine W.seq ?_
 refine W.cond rfl (fun h => ?_) (fun h => ?_)
 ·try simp only [RL] at h
  exact absurd h (by decide)
 ·try simp only [RL] at h
  refine W.skip ?_
  refine xn ?_
  refine W.r fun K hK => ?_
  simp (disch := omega) only [↓RU,RV,RH,↓reduceIte,reduceEqDiff,reduceCtorEq,if_pos,List.append_nil]
  refine CallR.pc (len640_pc) rfl (.inl rfl) ?_
  simp (disch := omega) only [↓RU,RV,RH,↓reduceIte,reduceEqDiff,reduceCtorEq,if_pos,List.append_nil]
  refine hK _ _ ?_;clear hK K
  refine W.ret ?_
  refine Br rfl ?_
  rfl
theorem pdqSh0_pc  : PC Tryz.prog 172 [.sl [] 0,.int .i64 0,.int .i64 0,.int .i64 0,.fn 143 []] (.tup []) true := by
 refine PC.of ⟨Tryz.func172,by kernel_rfl,rfl,by kernel_rfl⟩ tabOk mixed (by show 5 ≤ Tryz.f172.ntmps; decide) ?_
 refine W.r fun K hK => ?_
 simp (disch := omega) only [↓RU,RV,RH,↓reduceIte,reduceEqDiff,reduceCtorEq,if_pos]
 refine hK _ _ ?_;clear hK K
 refine W.r fun K hK => ?_
 simp (disch := omega) only [↓RU,RV,RH,↓reduceIte,reduceEqDiff,reduceCtorEq,if_pos]
 refine hK _ _ ?_;clear hK K
 refine W.block ?_
 refine W.loop [0,1,2,4] (fun n vs S => n = 1 ∧ vs = [.sl [] 0,.int .i64 0,.int .i64 0,.fn 143 []] ∧ S = ⟨[],0⟩) 1 ?_ ?_
 ·refine ⟨0,rfl,?_,rfl⟩
  simp [Env.put,Env.of,argEnv]
 rintro n vs S - ⟨rfl,rfl,rfl⟩
 refine W.block ?_
 refine W.r fun K hK => ?_
 simp (disch := omega) only [↓RU,RV,RH,↓reduceIte,reduceEqDiff,reduceCtorEq,if_pos,w64,tyint]
 refine hK _ _ ?_;clear hK K
 refine W.seq ?_
 refine W.r fun K hK => ?_
 simp (disch := omega) only [↓RU,RV,RH,↓reduceIte,reduceEqDiff,reduceCtorEq,if_pos,w64,tyint]
 refine hK _ _ ?_;clear hK K
 refine W.cond rfl (fun h => ?_) (fun h => ?_)
 ·try simp only [RL] at h
  refine W.r fun K hK => ?_
  simp (disch := omega) only [↓RU,RV,RH,↓reduceIte,reduceEqDiff,reduceCtorEq,if_pos,List.append_nil]
  refine CallR.pc (insSh0_pc) rfl (.inl rfl) ?_
  simp (disch := omega) only [↓RU,RV,RH,↓reduceIte,reduceEqDiff,reduceCtorEq,if_pos,List.append_nil]
  refine hK _ _ ?_;clear hK K
  refine W.ret ?_
  refine XThen.ret ?_
  refine XBlock.ret ?_
  refine XThen.ret ?_
  refine XBlock.ret ?_
  refine Br rfl ?_
  rfl
 ·try simp only [RL] at h
  exact absurd h (by decide)
theorem sortSh0_pc  : PC Tryz.prog 142 [.sl [] 0,.fn 143 []] (.tup []) true := by
 refine PC.of ⟨Tryz.func142,by kernel_rfl,rfl,by kernel_rfl⟩ tabOk mixed (by show 2 ≤ Tryz.f142.ntmps; decide) ?_
 refine W.r fun K hK => ?_
 simp (disch := omega) only [↓RU,RV,RH,↓reduceIte,reduceEqDiff,reduceCtorEq,if_pos,ty4,ty16,tyint,ty25]
 refine hK _ _ ?_;clear hK K
 refine W.k fun K hK => ?_
 simp (disch := omega) only [↓RU,RV,RH,↓reduceIte,reduceEqDiff,reduceCtorEq,if_pos,w64,List.append_nil,tyint,tyuint]
 refine CallR.pc (len0_pc) rfl (.inl rfl) ?_
 simp (disch := omega) only [↓RU,RV,RH,↓reduceIte,reduceEqDiff,reduceCtorEq,if_pos,w64,List.append_nil,tyint,tyuint]
 refine CallR.pc (pdqSh0_pc) rfl (.inl rfl) ?_
 simp (disch := omega) only [↓RU,RV,RH,↓reduceIte,reduceEqDiff,reduceCtorEq,if_pos,w64,List.append_nil,tyint,tyuint]
 refine hK _ _ ?_;clear hK K
 refine BodyQ.norm rfl ?_
 rfl
theorem best0_pc  : PC Tryz.prog 92 [.sl [] 0] (.sl [] 0) true := by
 refine PC.of ⟨Tryz.func92,by kernel_rfl,rfl,by kernel_rfl⟩ tabOk mixed (by show 1 ≤ Tryz.f92.ntmps; decide) ?_
 refine W.r fun K hK => ?_
 simp (disch := omega) only [↓RU,RV,RH,↓reduceIte,reduceEqDiff,reduceCtorEq,if_pos,↓RS,RG,reduceAdd,reduceMul,reduceLeDiff]
 refine hK _ _ ?_;clear hK K
 refine W.r fun K hK => ?_
 simp (disch := omega) only [↓RU,RV,RH,↓reduceIte,reduceEqDiff,reduceCtorEq,if_pos,List.append_nil,↓RS,RG,reduceAdd,reduceMul,reduceLeDiff]
 refine CallR.pc (sortSh0_pc) rfl (.inl rfl) ?_
 simp (disch := omega) only [↓RU,RV,RH,↓reduceIte,reduceEqDiff,reduceCtorEq,if_pos,List.append_nil,↓RS,RG,reduceAdd,reduceMul,reduceLeDiff]
 refine hK _ _ ?_;clear hK K
 refine W.r fun K hK => ?_
 simp (disch := omega) only [↓RU,RV,RH,↓reduceIte,reduceEqDiff,reduceCtorEq,if_pos,↓RS,RG,reduceAdd,reduceMul,reduceLeDiff]
 refine hK _ _ ?_;clear hK K
 refine W.seq ?_
 refine W.r fun K hK => ?_
 simp (disch := omega) only [↓RU,RV,RH,↓reduceIte,reduceEqDiff,reduceCtorEq,if_pos,↓RS,RG,reduceAdd,reduceMul,reduceLeDiff,ty4,ty16,tyint,ty25]
 refine hK _ _ ?_;clear hK K
 refine W.block ?_
 refine W.loop [3,8,9,10] (fun n vs S => n = 0 ∧ vs = [.nils,.sl [] 0,.int .i64 0,.int .i64 0] ∧ S = ⟨[],0⟩) 0 ?_ ?_
 ·refine ⟨_,rfl,?_,take_all⟩
  simp [Env.put,Env.of,argEnv]
 rintro n vs S - ⟨rfl,rfl,rfl⟩
 refine W.r fun K hK => ?_
 simp (disch := omega) only [↓RU,RV,RH,↓reduceIte,reduceEqDiff,reduceCtorEq,if_pos,w64,↓RS,RG,reduceAdd,reduceMul,reduceLeDiff,tyint]
 refine hK _ _ ?_;clear hK K
 refine W.seq ?_
 refine W.cond rfl (fun h => ?_) (fun h => ?_)
 ·try simp only [RL] at h
  exact absurd h (by decide)
 ·try simp only [RL] at h
  refine W.exit ?_
  refine xe ?_
  refine xe ?_
  refine XBlock.hit ?_
  refine xn ?_
  refine W.r fun K hK => ?_
  simp (disch := omega) only [↓RU,RV,RH,↓reduceIte,reduceEqDiff,reduceCtorEq,if_pos,↓RS,RG,reduceAdd,reduceMul,reduceLeDiff]
  refine hK _ _ ?_;clear hK K
  refine W.ret ?_
  refine Br rfl ?_
  rfl
theorem best_ev {l : List Shp} (hl : l.length ≤ 1048576) (h1 : 1 ≤ l.length) {o0 : Ob} {ver t : Nat} : Ev Tryz.prog 92 [.loc 1 ver 0 l.length] ⟨[o0,.arr ver 142 2 (scs l)],t⟩ fun v S => ∃ (z : List Shp) (ver2 v2 t2 : Nat),z.Perm l ∧ z.Pairwise LexLe ∧ v = .loc 1 v2 0 (bsF z).length ∧ S = ⟨[.arr ver2 142 2 (scs z),.arr v2 142 2 (scs (bsF z))],t2⟩ := by
 refine Ev.of ⟨Tryz.func92,by kernel_rfl,rfl,by kernel_rfl⟩ tabOk mixed (by show 1 ≤ Tryz.f92.ntmps; decide) ?_
 refine W.r fun K hK => ?_
 simp (disch := omega) only [↓RU,RV,RH,↓reduceIte,reduceEqDiff,reduceCtorEq,if_pos,↓RS,RG,reduceAdd,reduceMul,reduceLeDiff]
 refine hK _ _ ?_;clear hK K
 refine W.r fun K hK => ?_
 simp (disch := omega) only [↓RU,RV,RH,↓reduceIte,reduceEqDiff,reduceCtorEq,if_pos,List.append_nil,↓RS,RG,reduceAdd,reduceMul,reduceLeDiff]
 refine CallR.ev (sortSh_ev (F := [o0]) (R := []) (by omega)) ?_
 rintro _ _ ⟨rfl,z,hzp,hzs,rfl⟩
 have hzl : z.length = l.length := hzp.length_eq
 simp (disch := omega) only [↓RU,RV,RH,↓reduceIte,reduceEqDiff,reduceCtorEq,if_pos,List.append_nil,↓RS,RG,reduceAdd,reduceMul,reduceLeDiff]
 refine hK _ _ ?_;clear hK K
 refine W.r fun K hK => ?_
 simp (disch := omega) only [↓RU,RV,RH,↓reduceIte,reduceEqDiff,reduceCtorEq,if_pos,↓RS,RG,reduceAdd,reduceMul,reduceLeDiff]
 refine hK _ _ ?_;clear hK K
 refine W.seq ?_
 refine W.r fun K hK => ?_
 simp (disch := omega) only [↓RU,RV,RH,↓reduceIte,reduceEqDiff,reduceCtorEq,if_pos,↓RS,RG,reduceAdd,reduceMul,reduceLeDiff,ty4,ty16,tyint,ty25]
 refine hK _ _ ?_;clear hK K
 refine W.block ?_
 refine W.loopS [3,8,9,10] (fun n vs S => ∃ i ver v t : Nat,n = l.length - i ∧ i ≤ l.length ∧ vs = [slC 1 (bsF (z.take i)) v,.loc 0 ver 0 l.length,.int .i64 l.length,.int .i64 i] ∧ S = ⟨.arr ver 142 2 (scs z) :: tlC (bsF (z.take i)) v,t⟩) l.length ?_ ?_
 ·refine ⟨0,[1],[.nils,.loc 0 t 0 l.length,.int .i64 l.length,.int .i64 (0 : Nat)],⟨[.arr t 142 2 (scs z)],t + 1⟩,?_,?_,0,t,0,t + 1,rfl,Nat.zero_le _,rfl,rfl⟩
  ·simp [-List.mapM_map,Env.put,Env.of,argEnv,Srn_eq,rnObs_cons,rnObs_nil,rnOb_arr,rnOb_map,rn_loc,rn_ref,rn_mp,rn_int,rn_bool,rn_str,rn_ip,rn_sl,rn_nils,rn_nilp,rn_undef,rn_agg,rn_tup,rn_fn,rfq_loc,rfq_int,rfq_bool,rfq_str,rfq_sl,frOf,List.range_succ,List.mapM_append,List.mapM_cons]
  ·simp [-List.mapM_map,Env.put,Env.of,argEnv,Srn_eq,rnObs_cons,rnObs_nil,rnOb_arr,rnOb_map,rn_loc,rn_ref,rn_mp,rn_int,rn_bool,rn_str,rn_ip,rn_sl,rn_nils,rn_nilp,rn_undef,rn_agg,rn_tup,rn_fn,rfq_loc,rfq_int,rfq_bool,rfq_str,rfq_sl,frOf,List.range_succ,List.mapM_append,List.mapM_cons,rn_scs]
 rintro n vs S - ⟨i,ver2,v,t2,rfl,h_i,rfl,rfl⟩
 refine W.r fun K hK => ?_
 simp (disch := omega) only [↓RU,RV,RH,↓reduceIte,reduceEqDiff,reduceCtorEq,if_pos,w64,↓RS,RG,reduceAdd,reduceMul,reduceLeDiff,tyint]
 refine hK _ _ ?_;clear hK K
 refine W.seq ?_
 refine W.cond rfl (fun h => ?_) (fun h => ?_)
 ·try simp only [RL] at h
  obtain ⟨x,hx,-⟩ := get_of (show i < z.length by omega)
  have hsu := bsF_succ hx
  have hol := bsF_len (z := z) (i := i) (by omega)
  have hpx : ((scs z).drop (i * 2)).take 2 = [.int .i64 x.1,.int .i64 x.2] := scs_at hx
  refine W.skip ?_
  refine xn ?_
  refine W.seq ?_
  refine W.block ?_
  refine W.r fun K hK => ?_
  by_cases hi0 : i = 0
  ·skip
   subst hi0
   have ho : bsF (z.take 0) = [] := rfl
   rw [ho] at hsu
   simp only [ho,slC_nil,tlC_nil]
   have hpx : (scs z).take 2 = [.int .i64 x.1,.int .i64 x.2] := by simpa using hpx
   have hpq := True.intro
   have ho0 := True.intro
   have ho1 := True.intro
   simp (disch := omega) only [↓RU,RV,RH,↓reduceIte,reduceEqDiff,reduceCtorEq,if_pos,↓RS,RG,reduceAdd,reduceMul,reduceLeDiff,ty4,ty16,tyint,ty25,hpx,scs_len,hzl]
   refine hK _ _ ?_;clear hK K
   refine W.seq_draw (by kernel_rfl) fun K hK => ?_
   simp (disch := omega) only [↓RU,RV,RH,↓reduceIte,reduceEqDiff,reduceCtorEq,if_pos,w64,↓RS,RG,reduceAdd,reduceMul,reduceLeDiff,ty4,ty16,tyint,ty25,hpq,ho0,toNat_pred,scs_len]
   refine hK _ _ ?_;clear hK K
   refine W.cond rfl (fun h1 => ?_) (fun h1 => ?_)
   ·try simp only [RL] at h1
    refine W.k fun K hK => ?_
    simp (disch := omega) only [↓RU,RV,RH,↓reduceIte,reduceEqDiff,reduceCtorEq,if_pos,↓RS,RG,reduceAdd,reduceMul,reduceLeDiff,ty4,ty16,tyint,ty25,scs_len,scs_tk]
    refine hK _ _ ?_;clear hK K
    refine XbN ?_
    refine xn ?_
    refine W.k fun K hK => ?_
    simp (disch := omega) only [↓RU,RV,RH,↓reduceIte,reduceEqDiff,reduceCtorEq,if_pos,w64,↓RS,RG,reduceAdd,reduceMul,reduceLeDiff,tyint]
    refine hK _ _ ?_;clear hK K
    refine xn ?_
    refine ⟨l.length - (0 + 1),by omega,1,[3],[.loc 1 (t2 + 3) 0 1,.loc 0 ver2 0 l.length,.int .i64 l.length,.int .i64 ((0 + 1 : Nat) : Int)],⟨[.arr ver2 142 2 (scs z),.arr (t2 + 3) 142 2 ([.int .i64 x.1,.int .i64 x.2])],t2 + 4⟩,?_,?_,1,ver2,t2 + 3,t2 + 4,rfl,by omega,by rw [hsu]; rfl,by rw [hsu]; rfl⟩
    ·simp [-List.mapM_map,Env.put,Env.of,argEnv,Srn_eq,rnObs_cons,rnObs_nil,rnOb_arr,rnOb_map,rn_loc,rn_ref,rn_mp,rn_int,rn_bool,rn_str,rn_ip,rn_sl,rn_nils,rn_nilp,rn_undef,rn_agg,rn_tup,rn_fn,rfq_loc,rfq_int,rfq_bool,rfq_str,rfq_sl,frOf,List.range_succ,List.mapM_append,List.mapM_cons]
    ·simp [-List.mapM_map,Env.put,Env.of,argEnv,Srn_eq,rnObs_cons,rnObs_nil,rnOb_arr,rnOb_map,rn_loc,rn_ref,rn_mp,rn_int,rn_bool,rn_str,rn_ip,rn_sl,rn_nils,rn_nilp,rn_undef,rn_agg,rn_tup,rn_fn,rfq_loc,rfq_int,rfq_bool,rfq_str,rfq_sl,frOf,List.range_succ,List.mapM_append,List.mapM_cons,rn_scs]
   ·try simp only [RL] at h1
    exact absurd h1 (by simp)
  ·skip
   have hne := bsF_ne hi0 (show i ≤ z.length by omega)
   generalize bsF (z.take i) = o at hsu hol hne ⊢
   simp only [slC_ne hne,tlC_ne hne]
   obtain ⟨q,hq,hq2⟩ := last_at hne
   have hpq := scs_at1 hq
   have ho1 : 1 ≤ o.length := List.length_pos_iff.2 hne
   have ho0 : ((o.length : Int) == 0) = false := by simp; omega
   rw [bsS_some hq2] at hsu
   simp (disch := omega) only [↓RU,RV,RH,↓reduceIte,reduceEqDiff,reduceCtorEq,if_pos,↓RS,RG,reduceAdd,reduceMul,reduceLeDiff,ty4,ty16,tyint,ty25,hpx,scs_len,hzl]
   refine hK _ _ ?_;clear hK K
   refine W.seq_draw (by kernel_rfl) fun K hK => ?_
   simp (disch := omega) only [↓RU,RV,RH,↓reduceIte,reduceEqDiff,reduceCtorEq,if_pos,w64,↓RS,RG,reduceAdd,reduceMul,reduceLeDiff,ty4,ty16,tyint,ty25,hpq,ho0,toNat_pred,scs_len]
   refine hK _ _ ?_;clear hK K
   refine W.cond rfl (fun h1 => ?_) (fun h1 => ?_)
   ·try simp only [RL] at h1
    have h1 : x.2 < q.2 := by simpa using h1
    rw [if_pos h1] at hsu
    refine W.k fun K hK => ?_
    simp (disch := omega) only [↓RU,RV,RH,↓reduceIte,reduceEqDiff,reduceCtorEq,if_pos,↓RS,RG,reduceAdd,reduceMul,reduceLeDiff,ty4,ty16,tyint,ty25,scs_len,scs_tk]
    refine hK _ _ ?_;clear hK K
    refine XbN ?_
    refine xn ?_
    refine W.k fun K hK => ?_
    simp (disch := omega) only [↓RU,RV,RH,↓reduceIte,reduceEqDiff,reduceCtorEq,if_pos,w64,↓RS,RG,reduceAdd,reduceMul,reduceLeDiff,tyint]
    refine hK _ _ ?_;clear hK K
    refine xn ?_
    refine ⟨l.length - (i + 1),by omega,2,[],[.loc 1 (t2 + 2) 0 (o.length + 1),.loc 0 ver2 0 l.length,.int .i64 l.length,.int .i64 ((i + 1 : Nat) : Int)],⟨[.arr ver2 142 2 (scs z),.arr (t2 + 2) 142 2 (scs o ++ [.int .i64 x.1,.int .i64 x.2])],t2 + 4⟩,?_,?_,i + 1,ver2,t2 + 2,t2 + 4,rfl,by omega,by rw [hsu,slC_ne (by simp)]; simp,by rw [hsu,tlC_ne (by simp),scs_snoc]⟩
    ·simp [-List.mapM_map,Env.put,Env.of,argEnv,Srn_eq,rnObs_cons,rnObs_nil,rnOb_arr,rnOb_map,rn_loc,rn_ref,rn_mp,rn_int,rn_bool,rn_str,rn_ip,rn_sl,rn_nils,rn_nilp,rn_undef,rn_agg,rn_tup,rn_fn,rfq_loc,rfq_int,rfq_bool,rfq_str,rfq_sl,frOf,List.range_succ,List.mapM_append,List.mapM_cons]
    ·simp [-List.mapM_map,Env.put,Env.of,argEnv,Srn_eq,rnObs_cons,rnObs_nil,rnOb_arr,rnOb_map,rn_loc,rn_ref,rn_mp,rn_int,rn_bool,rn_str,rn_ip,rn_sl,rn_nils,rn_nilp,rn_undef,rn_agg,rn_tup,rn_fn,rfq_loc,rfq_int,rfq_bool,rfq_str,rfq_sl,frOf,List.range_succ,List.mapM_append,List.mapM_cons,rn_scs]
   ·try simp only [RL] at h1
    have h1 : ¬ x.2 < q.2 := by simpa using h1
    rw [if_neg h1] at hsu
    refine W.skip ?_
    refine XbN ?_
    refine xn ?_
    refine W.k fun K hK => ?_
    simp (disch := omega) only [↓RU,RV,RH,↓reduceIte,reduceEqDiff,reduceCtorEq,if_pos,w64,↓RS,RG,reduceAdd,reduceMul,reduceLeDiff,tyint]
    refine hK _ _ ?_;clear hK K
    refine xn ?_
    refine ⟨l.length - (i + 1),by omega,2,[],[.loc 1 v 0 o.length,.loc 0 ver2 0 l.length,.int .i64 l.length,.int .i64 ((i + 1 : Nat) : Int)],⟨[.arr ver2 142 2 (scs z),.arr v 142 2 (scs o)],t2 + 2⟩,?_,?_,i + 1,ver2,v,t2 + 2,rfl,by omega,by rw [hsu,slC_ne hne],by rw [hsu,tlC_ne hne]⟩
    ·simp [-List.mapM_map,Env.put,Env.of,argEnv,Srn_eq,rnObs_cons,rnObs_nil,rnOb_arr,rnOb_map,rn_loc,rn_ref,rn_mp,rn_int,rn_bool,rn_str,rn_ip,rn_sl,rn_nils,rn_nilp,rn_undef,rn_agg,rn_tup,rn_fn,rfq_loc,rfq_int,rfq_bool,rfq_str,rfq_sl,frOf,List.range_succ,List.mapM_append,List.mapM_cons]
    ·simp [-List.mapM_map,Env.put,Env.of,argEnv,Srn_eq,rnObs_cons,rnObs_nil,rnOb_arr,rnOb_map,rn_loc,rn_ref,rn_mp,rn_int,rn_bool,rn_str,rn_ip,rn_sl,rn_nils,rn_nilp,rn_undef,rn_agg,rn_tup,rn_fn,rfq_loc,rfq_int,rfq_bool,rfq_str,rfq_sl,frOf,List.range_succ,List.mapM_append,List.mapM_cons,rn_scs]
 ·try simp only [RL] at h
  obtain rfl : i = l.length := by omega
  refine W.exit ?_
  refine xe ?_
  refine xe ?_
  refine XBlock.hit ?_
  refine xn ?_
  refine W.r fun K hK => ?_
  simp (disch := omega) only [↓RU,RV,RH,↓reduceIte,reduceEqDiff,reduceCtorEq,if_pos,↓RS,RG,reduceAdd,reduceMul,reduceLeDiff]
  refine hK _ _ ?_;clear hK K
  refine W.ret ?_
  refine Br rfl ?_
  have hne := bsF_ne (z := z) (show l.length ≠ 0 by omega) (by omega)
  rw [List.take_of_length_le (by omega)] at hne ⊢
  rw [slC_ne hne,tlC_ne hne]
  exact ⟨2,z,_,_,_,hzp,hzs,rfl,rfl⟩
theorem rowsOf_succ {l : List Shp} {i : Nat} {x : Shp} (h : l[i]? = some x) : rowsOf (l.take (i + 1)) = rowsOf (l.take i) ++ [[x.1,x.2]] := by rw [tk h,rowsOf_app,rowsOf_one]
theorem rfq_scs {S : Store} {fr : Nat → Bool} {f : Nat} (l : List Shp) : (scs l).mapM (rfq S fr (f + 1)) = some (scs l) := by
 have h := scal_scs l
 rw [List.all_eq_true] at h
 exact mapM_same fun x hx => by have := h x hx; cases x <;> simp [scal] at this <;> rfl
theorem listed0_pc  : PC Tryz.prog 91 [.sl [] 0] (.sl [] 0) true := by
 refine PC.of ⟨Tryz.func91,by kernel_rfl,rfl,by kernel_rfl⟩ tabOk mixed (by show 1 ≤ Tryz.f91.ntmps; decide) ?_
 refine W.r fun K hK => ?_
 simp (disch := omega) only [↓RU,RV,RH,↓reduceIte,reduceEqDiff,reduceCtorEq,if_pos,↓RS,RG,reduceAdd,reduceMul,reduceLeDiff]
 refine hK _ _ ?_;clear hK K
 refine W.r fun K hK => ?_
 simp (disch := omega) only [↓RU,RV,RH,↓reduceIte,reduceEqDiff,reduceCtorEq,if_pos,↓RS,RG,reduceAdd,reduceMul,reduceLeDiff]
 refine hK _ _ ?_;clear hK K
 refine W.seq ?_
 refine W.r fun K hK => ?_
 simp (disch := omega) only [↓RU,RV,RH,↓reduceIte,reduceEqDiff,reduceCtorEq,if_pos,↓RS,RG,reduceAdd,reduceMul,reduceLeDiff,ty4,ty16,tyint,ty25]
 refine hK _ _ ?_;clear hK K
 refine W.block ?_
 refine W.loop [3,6,7,8] (fun n vs S => n = 0 ∧ vs = [.nils,.sl [] 0,.int .i64 0,.int .i64 0] ∧ S = ⟨[],0⟩) 0 ?_ ?_
 ·refine ⟨_,rfl,?_,take_all⟩
  simp [Env.put,Env.of,argEnv]
 rintro n vs S - ⟨rfl,rfl,rfl⟩
 refine W.r fun K hK => ?_
 simp (disch := omega) only [↓RU,RV,RH,↓reduceIte,reduceEqDiff,reduceCtorEq,if_pos,w64,↓RS,RG,reduceAdd,reduceMul,reduceLeDiff,tyint]
 refine hK _ _ ?_;clear hK K
 refine W.seq ?_
 refine W.cond rfl (fun h => ?_) (fun h => ?_)
 ·try simp only [RL] at h
  exact absurd h (by decide)
 ·try simp only [RL] at h
  refine W.exit ?_
  refine xe ?_
  refine xe ?_
  refine XBlock.hit ?_
  refine xn ?_
  refine W.r fun K hK => ?_
  simp (disch := omega) only [↓RU,RV,RH,↓reduceIte,reduceEqDiff,reduceCtorEq,if_pos,↓RS,RG,reduceAdd,reduceMul,reduceLeDiff]
  refine hK _ _ ?_;clear hK K
  refine W.ret ?_
  refine Br rfl ?_
  rfl
theorem listed_ev {l : List Shp} (hl : l.length ≤ 1048576) {o0 : Ob} {ver t : Nat} : Ev Tryz.prog 91 [.loc 1 ver 0 l.length] ⟨[o0,.arr ver 142 2 (scs l)],t⟩ fun v S => ∃ v2 t2 : Nat,v = slR (rowsOf l) v2 ∧ S = stR (rowsOf l) v2 t2 := by
 refine Ev.of ⟨Tryz.func91,by kernel_rfl,rfl,by kernel_rfl⟩ tabOk mixed (by show 1 ≤ Tryz.f91.ntmps; decide) ?_
 refine W.r fun K hK => ?_
 simp (disch := omega) only [↓RU,RV,RH,↓reduceIte,reduceEqDiff,reduceCtorEq,if_pos,↓RS,RG,reduceAdd,reduceMul,reduceLeDiff]
 refine hK _ _ ?_;clear hK K
 refine W.r fun K hK => ?_
 simp (disch := omega) only [↓RU,RV,RH,↓reduceIte,reduceEqDiff,reduceCtorEq,if_pos,↓RS,RG,reduceAdd,reduceMul,reduceLeDiff]
 refine hK _ _ ?_;clear hK K
 refine W.seq ?_
 refine W.r fun K hK => ?_
 simp (disch := omega) only [↓RU,RV,RH,↓reduceIte,reduceEqDiff,reduceCtorEq,if_pos,↓RS,RG,reduceAdd,reduceMul,reduceLeDiff,ty4,ty16,tyint,ty25]
 refine hK _ _ ?_;clear hK K
 refine W.block ?_
 refine W.loopS [3,6,7,8] (fun n vs S => ∃ (i v t : Nat),n = l.length - i ∧ i ≤ l.length ∧ vs = [slR (rowsOf (l.take i)) v,eShl l,.int .i64 l.length,.int .i64 i] ∧ S = stR (rowsOf (l.take i)) v t) l.length ?_ ?_
 ·refine ⟨0,[],[.nils,eShl l,.int .i64 l.length,.int .i64 (0 : Nat)],⟨[],t + 1⟩,?_,?_,0,0,t + 1,rfl,Nat.zero_le _,rfl,rfl⟩
  ·simp [-List.mapM_map,Env.put,Env.of,argEnv,Srn_eq,rnObs_cons,rnObs_nil,rnOb_arr,rnOb_map,rn_loc,rn_ref,rn_mp,rn_int,rn_bool,rn_str,rn_ip,rn_sl,rn_nils,rn_nilp,rn_undef,rn_agg,rn_tup,rn_fn,rfq_loc,rfq_int,rfq_bool,rfq_str,rfq_sl,frOf,List.range_succ,List.mapM_append,List.mapM_cons,rfq_scs,scs_len,scs_tk]
  ·simp [-List.mapM_map,Env.put,Env.of,argEnv,Srn_eq,rnObs_cons,rnObs_nil,rnOb_arr,rnOb_map,rn_loc,rn_ref,rn_mp,rn_int,rn_bool,rn_str,rn_ip,rn_sl,rn_nils,rn_nilp,rn_undef,rn_agg,rn_tup,rn_fn,rfq_loc,rfq_int,rfq_bool,rfq_str,rfq_sl,frOf,List.range_succ,List.mapM_append,List.mapM_cons]
 rintro n vs S - ⟨i,v,t,rfl,h_i,rfl,rfl⟩
 refine W.r fun K hK => ?_
 simp (disch := omega) only [↓RU,RV,RH,↓reduceIte,reduceEqDiff,reduceCtorEq,if_pos,w64,↓RS,RG,reduceAdd,reduceMul,reduceLeDiff,tyint]
 refine hK _ _ ?_;clear hK K
 refine W.seq ?_
 refine W.cond rfl (fun h1 => ?_) (fun h1 => ?_)
 ·try simp only [RL] at h1
  obtain ⟨x,hx,-⟩ := get_of (show i < l.length by omega)
  have hrl : (rowsOf (l.take i)).length = i := by rw [rowsOf_len,List.length_take]; omega
  have hrs := rowsOf_succ hx
  have hpx : ((scs l).drop (i * 2)).take 2 = [.int .i64 x.1,.int .i64 x.2] := scs_at hx
  refine W.skip ?_
  refine xn ?_
  refine W.seq ?_
  refine W.block ?_
  refine W.r fun K hK => ?_
  by_cases hi0 : i = 0
  ·skip
   subst hi0
   have hr0 : rowsOf (l.take 0) = [] := rfl
   rw [hr0,slR_nil,stR_nil]
   have hpx : (scs l).take 2 = [.int .i64 x.1,.int .i64 x.2] := by simpa using hpx
   simp (disch := omega) only [↓RU,RV,RH,↓reduceIte,reduceEqDiff,reduceCtorEq,if_pos,↓RS,RG,reduceAdd,reduceMul,reduceLeDiff,ty4,ty16,tyint,ty25,hpx,scs_len]
   refine hK _ _ ?_;clear hK K
   refine W.k fun K hK => ?_
   simp (disch := omega) only [↓RU,RV,RH,↓reduceIte,reduceEqDiff,reduceCtorEq,if_pos,↓RS,RG,reduceAdd,reduceMul,reduceLeDiff,ty1,tyLint,ty16,tyint,ty25,hrl,List.length_append,List.map_append,List.map_cons,List.map_nil]
   refine hK _ _ ?_;clear hK K
   refine XbN ?_
   refine xn ?_
   refine W.k fun K hK => ?_
   simp (disch := omega) only [↓RU,RV,RH,↓reduceIte,reduceEqDiff,reduceCtorEq,if_pos,w64,↓RS,RG,reduceAdd,reduceMul,reduceLeDiff,tyint]
   refine hK _ _ ?_;clear hK K
   refine xn ?_
   rw [hr0,List.nil_append] at hrs
   refine ⟨l.length - (0 + 1),by omega,0,[3],[.loc 0 (t + 4) 0 1,eShl l,.int .i64 l.length,.int .i64 ((0 + 1 : Nat) : Int)],⟨[.arr (t + 4) 24 1 [eInts [x.1,x.2]]],t + 5⟩,?_,?_,1,t + 4,t + 5,rfl,by omega,by rw [hrs]; rfl,by rw [hrs]; rfl⟩
   ·simp [-List.mapM_map,Env.put,Env.of,argEnv,Srn_eq,rnObs_cons,rnObs_nil,rnOb_arr,rnOb_map,rn_loc,rn_ref,rn_mp,rn_int,rn_bool,rn_str,rn_ip,rn_sl,rn_nils,rn_nilp,rn_undef,rn_agg,rn_tup,rn_fn,rfq_loc,rfq_int,rfq_bool,rfq_str,rfq_sl,frOf,List.range_succ,List.mapM_append,List.mapM_cons]
   ·simp [-List.mapM_map,Env.put,Env.of,argEnv,Srn_eq,rnObs_cons,rnObs_nil,rnOb_arr,rnOb_map,rn_loc,rn_ref,rn_mp,rn_int,rn_bool,rn_str,rn_ip,rn_sl,rn_nils,rn_nilp,rn_undef,rn_agg,rn_tup,rn_fn,rfq_loc,rfq_int,rfq_bool,rfq_str,rfq_sl,frOf,List.range_succ,List.mapM_append,List.mapM_cons,rn_eIntss]
  ·skip
   have hne : rowsOf (l.take i) ≠ [] := fun e => hi0 (by rw [e] at hrl; simpa using hrl.symm)
   rw [slR_ne hne,stR_ne hne,hrl]
   simp (disch := omega) only [↓RU,RV,RH,↓reduceIte,reduceEqDiff,reduceCtorEq,if_pos,↓RS,RG,reduceAdd,reduceMul,reduceLeDiff,ty4,ty16,tyint,ty25,hpx,scs_len]
   refine hK _ _ ?_;clear hK K
   refine W.k fun K hK => ?_
   simp (disch := omega) only [↓RU,RV,RH,↓reduceIte,reduceEqDiff,reduceCtorEq,if_pos,↓RS,RG,reduceAdd,reduceMul,reduceLeDiff,ty1,tyLint,ty16,tyint,ty25,hrl,List.length_append,List.map_append,List.map_cons,List.map_nil]
   refine hK _ _ ?_;clear hK K
   refine XbN ?_
   refine xn ?_
   refine W.k fun K hK => ?_
   simp (disch := omega) only [↓RU,RV,RH,↓reduceIte,reduceEqDiff,reduceCtorEq,if_pos,w64,↓RS,RG,reduceAdd,reduceMul,reduceLeDiff,tyint]
   refine hK _ _ ?_;clear hK K
   refine xn ?_
   have hne2 : rowsOf (l.take (i + 1)) ≠ [] := by rw [hrs]; simp
   refine ⟨l.length - (i + 1),by omega,1,[],[.loc 0 (t + 3) 0 (i + 1),eShl l,.int .i64 l.length,.int .i64 ((i + 1 : Nat) : Int)],⟨[.arr (t + 3) 24 1 ((rowsOf (l.take i)).map eInts ++ [eInts [x.1,x.2]])],t + 5⟩,?_,?_,i + 1,t + 3,t + 5,rfl,by omega,by rw [slR_ne hne2,hrs]; simp [hrl],by rw [stR_ne hne2,hrs]; simp⟩
   ·simp [-List.mapM_map,Env.put,Env.of,argEnv,Srn_eq,rnObs_cons,rnObs_nil,rnOb_arr,rnOb_map,rn_loc,rn_ref,rn_mp,rn_int,rn_bool,rn_str,rn_ip,rn_sl,rn_nils,rn_nilp,rn_undef,rn_agg,rn_tup,rn_fn,rfq_loc,rfq_int,rfq_bool,rfq_str,rfq_sl,frOf,List.range_succ,List.mapM_append,List.mapM_cons]
   ·simp [-List.mapM_map,Env.put,Env.of,argEnv,Srn_eq,rnObs_cons,rnObs_nil,rnOb_arr,rnOb_map,rn_loc,rn_ref,rn_mp,rn_int,rn_bool,rn_str,rn_ip,rn_sl,rn_nils,rn_nilp,rn_undef,rn_agg,rn_tup,rn_fn,rfq_loc,rfq_int,rfq_bool,rfq_str,rfq_sl,frOf,List.range_succ,List.mapM_append,List.mapM_cons,rn_eIntss]
 ·try simp only [RL] at h1
  obtain rfl : i = l.length := by omega
  refine W.exit ?_
  refine xe ?_
  refine xe ?_
  refine XBlock.hit ?_
  refine xn ?_
  refine W.r fun K hK => ?_
  simp (disch := omega) only [↓RU,RV,RH,↓reduceIte,reduceEqDiff,reduceCtorEq,if_pos,↓RS,RG,reduceAdd,reduceMul,reduceLeDiff]
  refine hK _ _ ?_;clear hK K
  refine W.ret ?_
  refine Br rfl ?_
  rw [List.take_length]
  exact ⟨_,_,_,rfl,take_all⟩
theorem tried_ev {p : List Txt} (hs : Sm p) {ws ht : List Int} (hw : ws.length ≤ 1048576) (hh : ht.length ≤ 1048576) (hv : givenI p ws ht = true) : Ev Tryz.prog 90 [eStrs p,eInts ws,eInts ht] ⟨[],0⟩ fun v S => ∃ (o0 : Ob) (v1 t1 : Nat),v = .tup [.loc 1 v1 0 (shL (leftG (gP p) p.length (w0 (readG p)) (rP p).length) (aboveG (gP p) p.length (w0 (readG p)) (rP p).length) (rP p).length ws ht (2 ^ (rP p).length)).length,.bool true] ∧ S = ⟨[o0,.arr v1 142 2 (scs (shL (leftG (gP p) p.length (w0 (readG p)) (rP p).length) (aboveG (gP p) p.length (w0 (readG p)) (rP p).length) (rP p).length ws ht (2 ^ (rP p).length)))],t1⟩ := by
 obtain ⟨hv1,hv2,hn8⟩ := givenI_ok hv
 obtain ⟨hpl,hwl,hwok⟩ := needV_one hv1
 obtain ⟨-,hhl,hhok⟩ := needV_one hv2
 have hok := (plain_okB hpl).1
 have hg := okB_gw hok
 have hn9 := okB_rooms hok
 have hn1 := okB_rooms1 hok
 obtain ⟨hrm,⟨rk,hu⟩,⟨rk2,hu2⟩⟩ := plan_all hpl
 generalize hMe : (leftG (gP p) p.length (w0 (readG p)) (rP p).length) = M at hu ⊢
 generalize hAe : (aboveG (gP p) p.length (w0 (readG p)) (rP p).length) = A at hu2 ⊢
 obtain ⟨nr,hnr⟩ : ∃ nr : Nat,(rP p).length = nr := ⟨_,rfl⟩
 rw [hnr] at hwl hhl hn8 hn9 hn1 hu hu2
 have hp8 := pow8 hn8
 obtain ⟨N,hN⟩ : ∃ N : Nat,2 ^ nr = N := ⟨_,rfl⟩
 have hsh := w_shl (b := nr) (by omega)
 rw [hN] at hp8 hsh
 refine Ev.of ⟨Tryz.func90,by kernel_rfl,rfl,by kernel_rfl⟩ tabOk mixed (by show 3 ≤ Tryz.f90.ntmps; decide) ?_
 refine W.r fun K hK => ?_
 simp (disch := omega) only [↓RU,RV,RH,↓reduceIte,reduceEqDiff,reduceCtorEq,if_pos,↓RS,RG,reduceAdd,reduceMul,reduceLeDiff]
 refine hK _ _ ?_;clear hK K
 refine W.r fun K hK => ?_
 simp (disch := omega) only [↓RU,RV,RH,↓reduceIte,reduceEqDiff,reduceCtorEq,if_pos,List.append_nil,↓RS,RG,reduceAdd,reduceMul,reduceLeDiff,hv]
 refine CallR.ev (shaping_ev hs hw hh) ?_
 rintro _ _ ⟨x,rfl,hx,rfl⟩
 simp (disch := omega) only [↓RU,RV,RH,↓reduceIte,reduceEqDiff,reduceCtorEq,if_pos,List.append_nil,↓RS,RG,reduceAdd,reduceMul,reduceLeDiff,hv]
 refine hK _ _ ?_;clear hK K
 refine W.seq ?_
 refine W.r fun K hK => ?_
 simp (disch := omega) only [↓RU,RV,RH,↓reduceIte,reduceEqDiff,reduceCtorEq,if_pos,↓RS,RG,reduceAdd,reduceMul,reduceLeDiff]
 refine hK _ _ ?_;clear hK K
 refine W.cond rfl (fun h => ?_) (fun h => ?_)
 ·try simp only [RL] at h
  exact absurd h (by simp)
 ·try simp only [RL] at h
  obtain rfl := hx hv
  refine W.skip ?_
  refine xn ?_
  refine W.r fun K hK => ?_
  simp (disch := omega) only [↓RU,RV,RH,↓reduceIte,reduceEqDiff,reduceCtorEq,if_pos,List.append_nil,↓RS,RG,reduceAdd,reduceMul,reduceLeDiff,ty0,ty2,tybool,ty13,ty15,ty22,hMe,hAe]
  refine CallR.pc (orders_pc hg rfl (by omega) hrm) rfl (.inl rfl) ?_
  simp (disch := omega) only [↓RU,RV,RH,↓reduceIte,reduceEqDiff,reduceCtorEq,if_pos,List.append_nil,↓RS,RG,reduceAdd,reduceMul,reduceLeDiff,ty0,ty2,tybool,ty13,ty15,ty22,hMe,hAe]
  refine hK _ _ ?_;clear hK K
  refine W.r fun K hK => ?_
  simp (disch := omega) only [↓RU,RV,RH,↓reduceIte,reduceEqDiff,reduceCtorEq,if_pos,↓RS,RG,reduceAdd,reduceMul,reduceLeDiff]
  refine hK _ _ ?_;clear hK K
  refine W.seq ?_
  refine W.r fun K hK => ?_
  simp (disch := omega) only [↓RU,RV,RH,↓reduceIte,reduceEqDiff,reduceCtorEq,if_pos,w64,↓RS,RG,reduceAdd,reduceMul,reduceLeDiff,ty1,ty3,tyLint,ty11,ty12,ty14,tyint,ty21,ty24,rcs_len,hnr,pShl,hsh]
  refine hK _ _ ?_;clear hK K
  refine W.block ?_
  refine W.loopS [1,2,10,11,32,33] (fun n vs S => ∃ k vo v t : Nat,n = N - k ∧ k ≤ N ∧ vs = [eInts ws,eInts ht,.ref 0 vo 0,slC 1 (shL M A nr ws ht k) v,.int .i64 N,.int .i64 k] ∧ S = ⟨.arr vo 62 2 [eRel M,eRel A] :: tlC (shL M A nr ws ht k) v,t⟩) N ?_ ?_
  ·refine ⟨0,[1],[eInts ws,eInts ht,.ref 0 2 0,.nils,.int .i64 N,.int .i64 (0 : Nat)],⟨[.arr 2 62 2 [eRel M,eRel A]],3⟩,?_,?_,0,2,0,3,rfl,by omega,rfl,rfl⟩
   ·simp [-List.mapM_map,Env.put,Env.of,argEnv,Srn_eq,rnObs_cons,rnObs_nil,rnOb_arr,rnOb_map,rn_loc,rn_ref,rn_mp,rn_int,rn_bool,rn_str,rn_ip,rn_sl,rn_nils,rn_nilp,rn_undef,rn_agg,rn_tup,rn_fn,rfq_loc,rfq_int,rfq_bool,rfq_str,rfq_sl,frOf,List.range_succ,List.mapM_append,List.mapM_cons]
   ·simp [-List.mapM_map,Env.put,Env.of,argEnv,Srn_eq,rnObs_cons,rnObs_nil,rnOb_arr,rnOb_map,rn_loc,rn_ref,rn_mp,rn_int,rn_bool,rn_str,rn_ip,rn_sl,rn_nils,rn_nilp,rn_undef,rn_agg,rn_tup,rn_fn,rfq_loc,rfq_int,rfq_bool,rfq_str,rfq_sl,frOf,List.range_succ,List.mapM_append,List.mapM_cons]
  rintro n vs S - ⟨k,vo,v,t,rfl,h_k,rfl,rfl⟩
  refine W.r fun K hK => ?_
  simp (disch := omega) only [↓RU,RV,RH,↓reduceIte,reduceEqDiff,reduceCtorEq,if_pos,w64,↓RS,RG,reduceAdd,reduceMul,reduceLeDiff,tyint]
  refine hK _ _ ?_;clear hK K
  refine W.seq ?_
  refine W.cond rfl (fun h1 => ?_) (fun h1 => ?_)
  ·try simp only [RL] at h1
   refine W.skip ?_
   refine xn ?_
   refine W.seq ?_
   refine W.block ?_
   refine W.r fun K hK => ?_
   simp (disch := omega) only [↓RU,RV,RH,↓reduceIte,reduceEqDiff,reduceCtorEq,if_pos,↓RS,RG,reduceAdd,reduceMul,reduceLeDiff]
   refine hK _ _ ?_;clear hK K
   refine W.joinS [1,2,10,11,32,33,12,13,14] (fun vs S => ∃ v t : Nat,vs = [eInts ws,eInts ht,.ref 2 v 0,slC 3 (shL M A nr ws ht k) v,.int .i64 N,.int .i64 k,.int .i64 k,.loc 0 v 0 nr,.loc 1 v 0 nr] ∧ S = ⟨.arr v 3 1 (ws.map (.int .i64)) :: .arr v 3 1 (ht.map (.int .i64)) :: .arr v 62 2 [eRel M,eRel A] :: tlC (shL M A nr ws ht k) v,t⟩) ?_ ?_
   ·
    refine W.k fun K hK => ?_
    by_cases hk : k = 0
    ·skip
     have hk0 : shL M A nr ws ht k = [] := by subst hk; rfl
     simp only [hk0,slC_nil,tlC_nil]
     simp (disch := omega) only [↓RU,RV,RH,↓reduceIte,reduceEqDiff,reduceCtorEq,if_pos,List.append_nil,↓RS,RG,reduceAdd,reduceMul,reduceLeDiff]
     refine CallR.pn (clone_pn (l := ws) (by omega) (by omega)) rfl (.inl rfl) ?_
     simp (disch := omega) only [↓RU,RV,RH,↓reduceIte,reduceEqDiff,reduceCtorEq,if_pos,List.append_nil,↓RS,RG,reduceAdd,reduceMul,reduceLeDiff,RN]
     refine CallR.pn (clone_pn (l := ht) (by omega) (by omega)) rfl (.inl rfl) ?_
     simp (disch := omega) only [↓RU,RV,RH,↓reduceIte,reduceEqDiff,reduceCtorEq,if_pos,List.append_nil,↓RS,RG,reduceAdd,reduceMul,reduceLeDiff,RN]
     refine hK _ _ ?_;clear hK K
     refine xn ?_
     refine ⟨0,[1,2,0],[eInts ws,eInts ht,.ref 2 (t + 2) 0,slC 3 (shL M A nr ws ht k) (t + 2),.int .i64 N,.int .i64 k,.int .i64 k,.loc 0 (t + 2) 0 nr,.loc 1 (t + 2) 0 nr],⟨.arr (t + 2) 3 1 (ws.map (.int .i64)) :: .arr (t + 2) 3 1 (ht.map (.int .i64)) :: .arr (t + 2) 62 2 [eRel M,eRel A] :: tlC (shL M A nr ws ht k) (t + 2),t + 3⟩,?_,?_,t + 2,t + 3,rfl,rfl⟩
     ·rw [hk0,slC_nil]; simp [-List.mapM_map,Env.put,Env.of,argEnv,Srn_eq,rnObs_cons,rnObs_nil,rnOb_arr,rnOb_map,rn_loc,rn_ref,rn_mp,rn_int,rn_bool,rn_str,rn_ip,rn_sl,rn_nils,rn_nilp,rn_undef,rn_agg,rn_tup,rn_fn,rfq_loc,rfq_int,rfq_bool,rfq_str,rfq_sl,frOf,List.range_succ,List.mapM_append,List.mapM_cons,hwl,hhl] <;> decide
     ·rw [hk0,tlC_nil]; simp [-List.mapM_map,Env.put,Env.of,argEnv,Srn_eq,rnObs_cons,rnObs_nil,rnOb_arr,rnOb_map,rn_loc,rn_ref,rn_mp,rn_int,rn_bool,rn_str,rn_ip,rn_sl,rn_nils,rn_nilp,rn_undef,rn_agg,rn_tup,rn_fn,rfq_loc,rfq_int,rfq_bool,rfq_str,rfq_sl,frOf,List.range_succ,List.mapM_append,List.mapM_cons,rn_ints]
    ·skip
     simp only [slC_ne (shL_ne hk),tlC_ne (shL_ne hk)]
     simp (disch := omega) only [↓RU,RV,RH,↓reduceIte,reduceEqDiff,reduceCtorEq,if_pos,List.append_nil,↓RS,RG,reduceAdd,reduceMul,reduceLeDiff]
     refine CallR.pn (clone_pn (l := ws) (by omega) (by omega)) rfl (.inl rfl) ?_
     simp (disch := omega) only [↓RU,RV,RH,↓reduceIte,reduceEqDiff,reduceCtorEq,if_pos,List.append_nil,↓RS,RG,reduceAdd,reduceMul,reduceLeDiff,RN]
     refine CallR.pn (clone_pn (l := ht) (by omega) (by omega)) rfl (.inl rfl) ?_
     simp (disch := omega) only [↓RU,RV,RH,↓reduceIte,reduceEqDiff,reduceCtorEq,if_pos,List.append_nil,↓RS,RG,reduceAdd,reduceMul,reduceLeDiff,RN]
     refine hK _ _ ?_;clear hK K
     refine xn ?_
     refine ⟨0,[2,3,0,1],[eInts ws,eInts ht,.ref 2 (t + 2) 0,slC 3 (shL M A nr ws ht k) (t + 2),.int .i64 N,.int .i64 k,.int .i64 k,.loc 0 (t + 2) 0 nr,.loc 1 (t + 2) 0 nr],⟨.arr (t + 2) 3 1 (ws.map (.int .i64)) :: .arr (t + 2) 3 1 (ht.map (.int .i64)) :: .arr (t + 2) 62 2 [eRel M,eRel A] :: tlC (shL M A nr ws ht k) (t + 2),t + 3⟩,?_,?_,t + 2,t + 3,rfl,rfl⟩
     ·rw [slC_ne (shL_ne hk)]; simp [-List.mapM_map,Env.put,Env.of,argEnv,Srn_eq,rnObs_cons,rnObs_nil,rnOb_arr,rnOb_map,rn_loc,rn_ref,rn_mp,rn_int,rn_bool,rn_str,rn_ip,rn_sl,rn_nils,rn_nilp,rn_undef,rn_agg,rn_tup,rn_fn,rfq_loc,rfq_int,rfq_bool,rfq_str,rfq_sl,frOf,List.range_succ,List.mapM_append,List.mapM_cons,hwl,hhl] <;> decide
     ·rw [tlC_ne (shL_ne hk)]; simp [-List.mapM_map,Env.put,Env.of,argEnv,Srn_eq,rnObs_cons,rnObs_nil,rnOb_arr,rnOb_map,rn_loc,rn_ref,rn_mp,rn_int,rn_bool,rn_str,rn_ip,rn_sl,rn_nils,rn_nilp,rn_undef,rn_agg,rn_tup,rn_fn,rfq_loc,rfq_int,rfq_bool,rfq_str,rfq_sl,frOf,List.range_succ,List.mapM_append,List.mapM_cons,rn_ints,rn_scs]
   rintro vs S - ⟨v2,t2,rfl,rfl⟩
   refine W.seq ?_
   refine W.r fun K hK => ?_
   simp (disch := omega) only [↓RU,RV,RH,↓reduceIte,reduceEqDiff,reduceCtorEq,if_pos,↓RS,RG,reduceAdd,reduceMul,reduceLeDiff,tyLint,tyint,hwl]
   refine hK _ _ ?_;clear hK K
   refine W.block ?_
   refine W.loop [1,2,10,11,32,33,12,13,14,41,42] (fun n vs S => ∃ i t : Nat,n = nr - i ∧ i ≤ nr ∧ vs = [eInts ws,eInts ht,.ref 2 v2 0,slC 3 (shL M A nr ws ht k) v2,.int .i64 N,.int .i64 k,.int .i64 k,.loc 0 v2 0 nr,.loc 1 v2 0 nr,.int .i64 nr,.int .i64 i] ∧ S = ⟨.arr v2 3 1 (((swp ws ht k).take i ++ ws.drop i).map (.int .i64)) :: .arr v2 3 1 (((swp ht ws k).take i ++ ht.drop i).map (.int .i64)) :: .arr v2 62 2 [eRel M,eRel A] :: tlC (shL M A nr ws ht k) v2,t⟩) nr ?_ ?_
   ·refine ⟨_,0,t2,rfl,by omega,?_,take_all_of (by simp)⟩
    simp [Env.put,Env.of]
   rintro n vs S - ⟨i,t3,rfl,h_i,rfl,rfl⟩
   refine W.r fun K hK => ?_
   simp (disch := omega) only [↓RU,RV,RH,↓reduceIte,reduceEqDiff,reduceCtorEq,if_pos,w64,↓RS,RG,reduceAdd,reduceMul,reduceLeDiff,tyint]
   refine hK _ _ ?_;clear hK K
   refine W.seq ?_
   refine W.cond rfl (fun h2 => ?_) (fun h2 => ?_)
   ·try simp only [RL] at h2
    obtain ⟨x,hx,-⟩ := get_of (show i < ws.length by omega)
    obtain ⟨y,hy,-⟩ := get_of (show i < ht.length by omega)
    have hs1 := swp_at (set := k) hx hy
    have hs2 := swp_at (set := k) hy hx
    have hl1 : (swp ws ht k).length = ws.length := swp_len
    have hl2 : (swp ht ws k).length = ht.length := swp_len
    have hm1 := mix_at (i := i) hl1
    have hm2 := mix_at (i := i) hl2
    rw [hx] at hm1
    rw [hy] at hm2
    have hn1a := mix_len (i := i) hl1
    have hn2a := mix_len (i := i) hl2
    refine W.skip ?_
    refine xn ?_
    refine W.seq ?_
    refine W.block ?_
    refine W.r fun K hK => ?_
    simp (disch := omega) only [↓RU,RV,RH,↓reduceIte,reduceEqDiff,reduceCtorEq,if_pos,↓RS,RG,reduceAdd,reduceMul,reduceLeDiff]
    refine hK _ _ ?_;clear hK K
    refine W.r fun K hK => ?_
    simp (disch := omega) only [↓RU,RV,RH,↓reduceIte,reduceEqDiff,reduceCtorEq,if_pos,w64,↓RS,RG,reduceAdd,reduceMul,reduceLeDiff,tyint,pShr,w_bit]
    refine hK _ _ ?_;clear hK K
    refine W.cond rfl (fun h3 => ?_) (fun h3 => ?_)
    ·try simp only [RL] at h3
     rw [h3] at hs1 hs2
     simp only [if_true] at hs1 hs2
     refine W.draw_k (by kernel_rfl) fun K hK => ?_
     simp (disch := omega) only [↓RU,RV,RH,↓reduceIte,reduceEqDiff,reduceCtorEq,if_pos,↓RS,RG,reduceAdd,reduceMul,reduceLeDiff,tyLint,tyint,hm1,hm2,hn1a,hn2a,set_spl,set_int]
     refine hK _ _ ?_;clear hK K
     refine XbN ?_
     refine xn ?_
     refine W.k fun K hK => ?_
     simp (disch := omega) only [↓RU,RV,RH,↓reduceIte,reduceEqDiff,reduceCtorEq,if_pos,w64,↓RS,RG,reduceAdd,reduceMul,reduceLeDiff,tyint]
     refine hK _ _ ?_;clear hK K
     refine xn ?_
     refine ⟨nr - (i + 1),by omega,_,i + 1,t3,rfl,by omega,?_,take_all_of (by rw [mix_succ hs1 hl1,mix_succ hs2 hl2])⟩
     simp [Env.put,Env.of]
    ·try simp only [RL] at h3
     rw [h3] at hs1 hs2
     simp only [Bool.false_eq_true,if_false] at hs1 hs2
     refine W.skip ?_
     refine XbN ?_
     refine xn ?_
     refine W.k fun K hK => ?_
     simp (disch := omega) only [↓RU,RV,RH,↓reduceIte,reduceEqDiff,reduceCtorEq,if_pos,w64,↓RS,RG,reduceAdd,reduceMul,reduceLeDiff,tyint]
     refine hK _ _ ?_;clear hK K
     refine xn ?_
     refine ⟨nr - (i + 1),by omega,_,i + 1,t3,rfl,by omega,?_,take_all_of (by rw [← mix_same hs1 hx,← mix_same hs2 hy])⟩
     simp [Env.put,Env.of]
   ·try simp only [RL] at h2
    obtain rfl : i = nr := by omega
    rw [List.take_of_length_le (by rw [swp_len]; omega),List.drop_of_length_le (by omega),List.append_nil,List.take_of_length_le (by rw [swp_len]; omega),List.drop_of_length_le (by omega),List.append_nil]
    have hok1 := swp_ok (set := k) hwok hhok (by omega)
    have hok2 := swp_ok (set := k) hhok hwok (by omega)
    have hl1 : (swp ws ht k).length = i := by rw [swp_len]; omega
    have hl2 : (swp ht ws k).length = i := by rw [swp_len]; omega
    have hh1 := heaviest_len (M := M) (ws := swp ws ht k) (n := i)
    have hh2 := heaviest_len (M := A) (ws := swp ht ws k) (n := i)
    obtain ⟨y1,hy1,-⟩ := get_of (show 0 < (heaviest M (swp ws ht k) i).length by omega)
    obtain ⟨y2,hy2,-⟩ := get_of (show 0 < (heaviest A (swp ht ws k) i).length by omega)
    have hSl := shL_len (L := M) (A := A) (n := i) (ws := ws) (ht := ht) (k := k)
    have hcl := scs_len (shL M A i ws ht k)
    have hct : (scs (shL M A i ws ht k)).take (k * 2) = scs (shL M A i ws ht k) := List.take_of_length_le (by omega)
    refine W.exit ?_
    refine xe ?_
    refine xe ?_
    refine XBlock.hit ?_
    refine xn ?_
    refine W.draw_k (by kernel_rfl) fun K hK => ?_
    by_cases hk : k = 0
    ·skip
     have hk0 : shL M A i ws ht k = [] := by subst hk; rfl
     simp only [hk0,slC_nil,tlC_nil]
     simp (disch := omega) only [↓RU,RV,RH,↓reduceIte,reduceEqDiff,reduceCtorEq,if_pos,List.append_nil,↓RS,RG,reduceAdd,reduceMul,reduceLeDiff,ty0,ty2,ty4,tybool,ty13,ty15,ty16,tyint,ty22,ty25]
     refine CallR.pc (heaviest_pc hu hn9 hl1 hok1) (mapM_one rfl (mapM_one (reify_ints_n (k := 8) rfl hl1) rfl)) (.inl rfl) ?_
     simp (disch := omega) only [↓RU,RV,RH,↓reduceIte,reduceEqDiff,reduceCtorEq,if_pos,List.append_nil,↓RS,RG,reduceAdd,reduceMul,reduceLeDiff,ty0,ty2,ty4,tybool,ty13,ty15,ty16,tyint,ty22,ty25]
     refine CallR.pc (max_pc hy1 (by omega)) rfl (.inl rfl) ?_
     simp (disch := omega) only [↓RU,RV,RH,↓reduceIte,reduceEqDiff,reduceCtorEq,if_pos,List.append_nil,↓RS,RG,reduceAdd,reduceMul,reduceLeDiff,ty0,ty2,ty4,tybool,ty13,ty15,ty16,tyint,ty22,ty25]
     refine CallR.pc (heaviest_pc hu2 hn9 hl2 hok2) (mapM_one rfl (mapM_one (reify_ints_n (k := 8) rfl hl2) rfl)) (.inl rfl) ?_
     simp (disch := omega) only [↓RU,RV,RH,↓reduceIte,reduceEqDiff,reduceCtorEq,if_pos,List.append_nil,↓RS,RG,reduceAdd,reduceMul,reduceLeDiff,ty0,ty2,ty4,tybool,ty13,ty15,ty16,tyint,ty22,ty25]
     refine CallR.pc (max_pc hy2 (by omega)) rfl (.inl rfl) ?_
     simp (disch := omega) only [↓RU,RV,RH,↓reduceIte,reduceEqDiff,reduceCtorEq,if_pos,List.append_nil,↓RS,RG,reduceAdd,reduceMul,reduceLeDiff,ty0,ty2,ty4,tybool,ty13,ty15,ty16,tyint,ty22,ty25]
     refine hK _ _ ?_;clear hK K
     refine XbN ?_
     refine xn ?_
     refine W.k fun K hK => ?_
     simp (disch := omega) only [↓RU,RV,RH,↓reduceIte,reduceEqDiff,reduceCtorEq,if_pos,w64,↓RS,RG,reduceAdd,reduceMul,reduceLeDiff,tyint]
     refine hK _ _ ?_;clear hK K
     refine xn ?_
     refine ⟨N - (k + 1),by omega,0,[2,4],[eInts ws,eInts ht,.ref 0 (t3 + 2) 0,slC 1 (shL M A i ws ht (k + 1)) (t3 + 2),.int .i64 N,.int .i64 ((k + 1 : Nat) : Int)],⟨.arr (t3 + 2) 62 2 [eRel M,eRel A] :: tlC (shL M A i ws ht (k + 1)) (t3 + 2),t3 + 3⟩,?_,?_,k + 1,t3 + 2,t3 + 2,t3 + 3,rfl,by omega,rfl,rfl⟩
     ·rw [slC_ne (shL_ne (by omega)),shL_succ,hk0]; simp [-List.mapM_map,Env.put,Env.of,argEnv,Srn_eq,rnObs_cons,rnObs_nil,rnOb_arr,rnOb_map,rn_loc,rn_ref,rn_mp,rn_int,rn_bool,rn_str,rn_ip,rn_sl,rn_nils,rn_nilp,rn_undef,rn_agg,rn_tup,rn_fn,rfq_loc,rfq_int,rfq_bool,rfq_str,rfq_sl,frOf,List.range_succ,List.mapM_append,List.mapM_cons] <;> decide
     ·rw [tlC_ne (shL_ne (by omega)),shL_succ,hk0]; simp [-List.mapM_map,Env.put,Env.of,argEnv,Srn_eq,rnObs_cons,rnObs_nil,rnOb_arr,rnOb_map,rn_loc,rn_ref,rn_mp,rn_int,rn_bool,rn_str,rn_ip,rn_sl,rn_nils,rn_nilp,rn_undef,rn_agg,rn_tup,rn_fn,rfq_loc,rfq_int,rfq_bool,rfq_str,rfq_sl,frOf,List.range_succ,List.mapM_append,List.mapM_cons,scs,eShp,shI]
    ·skip
     simp only [slC_ne (shL_ne hk),tlC_ne (shL_ne hk)]
     simp (disch := omega) only [↓RU,RV,RH,↓reduceIte,reduceEqDiff,reduceCtorEq,if_pos,List.append_nil,↓RS,RG,reduceAdd,reduceMul,reduceLeDiff,ty0,ty2,ty4,tybool,ty13,ty15,ty16,tyint,ty22,ty25,hcl,hSl]
     refine CallR.pc (heaviest_pc hu hn9 hl1 hok1) (mapM_one rfl (mapM_one (reify_ints_n (k := 8) rfl hl1) rfl)) (.inl rfl) ?_
     simp (disch := omega) only [↓RU,RV,RH,↓reduceIte,reduceEqDiff,reduceCtorEq,if_pos,List.append_nil,↓RS,RG,reduceAdd,reduceMul,reduceLeDiff,ty0,ty2,ty4,tybool,ty13,ty15,ty16,tyint,ty22,ty25,hcl,hSl]
     refine CallR.pc (max_pc hy1 (by omega)) rfl (.inl rfl) ?_
     simp (disch := omega) only [↓RU,RV,RH,↓reduceIte,reduceEqDiff,reduceCtorEq,if_pos,List.append_nil,↓RS,RG,reduceAdd,reduceMul,reduceLeDiff,ty0,ty2,ty4,tybool,ty13,ty15,ty16,tyint,ty22,ty25,hcl,hSl]
     refine CallR.pc (heaviest_pc hu2 hn9 hl2 hok2) (mapM_one rfl (mapM_one (reify_ints_n (k := 8) rfl hl2) rfl)) (.inl rfl) ?_
     simp (disch := omega) only [↓RU,RV,RH,↓reduceIte,reduceEqDiff,reduceCtorEq,if_pos,List.append_nil,↓RS,RG,reduceAdd,reduceMul,reduceLeDiff,ty0,ty2,ty4,tybool,ty13,ty15,ty16,tyint,ty22,ty25,hcl,hSl]
     refine CallR.pc (max_pc hy2 (by omega)) rfl (.inl rfl) ?_
     simp (disch := omega) only [↓RU,RV,RH,↓reduceIte,reduceEqDiff,reduceCtorEq,if_pos,List.append_nil,↓RS,RG,reduceAdd,reduceMul,reduceLeDiff,ty0,ty2,ty4,tybool,ty13,ty15,ty16,tyint,ty22,ty25,hcl,hSl]
     refine hK _ _ ?_;clear hK K
     refine XbN ?_
     refine xn ?_
     refine W.k fun K hK => ?_
     simp (disch := omega) only [↓RU,RV,RH,↓reduceIte,reduceEqDiff,reduceCtorEq,if_pos,w64,↓RS,RG,reduceAdd,reduceMul,reduceLeDiff,tyint]
     refine hK _ _ ?_;clear hK K
     refine xn ?_
     refine ⟨N - (k + 1),by omega,0,[2,3],[eInts ws,eInts ht,.ref 0 (t3 + 2) 0,slC 1 (shL M A i ws ht (k + 1)) (t3 + 2),.int .i64 N,.int .i64 ((k + 1 : Nat) : Int)],⟨.arr (t3 + 2) 62 2 [eRel M,eRel A] :: tlC (shL M A i ws ht (k + 1)) (t3 + 2),t3 + 3⟩,?_,?_,k + 1,t3 + 2,t3 + 2,t3 + 3,rfl,by omega,rfl,rfl⟩
     ·rw [slC_ne (shL_ne (by omega)),shL_succ]; simp [-List.mapM_map,Env.put,Env.of,argEnv,Srn_eq,rnObs_cons,rnObs_nil,rnOb_arr,rnOb_map,rn_loc,rn_ref,rn_mp,rn_int,rn_bool,rn_str,rn_ip,rn_sl,rn_nils,rn_nilp,rn_undef,rn_agg,rn_tup,rn_fn,rfq_loc,rfq_int,rfq_bool,rfq_str,rfq_sl,frOf,List.range_succ,List.mapM_append,List.mapM_cons,hSl] <;> decide
     ·rw [tlC_ne (shL_ne (by omega)),shL_succ,scs_snoc]; simp [-List.mapM_map,Env.put,Env.of,argEnv,Srn_eq,rnObs_cons,rnObs_nil,rnOb_arr,rnOb_map,rn_loc,rn_ref,rn_mp,rn_int,rn_bool,rn_str,rn_ip,rn_sl,rn_nils,rn_nilp,rn_undef,rn_agg,rn_tup,rn_fn,rfq_loc,rfq_int,rfq_bool,rfq_str,rfq_sl,frOf,List.range_succ,List.mapM_append,List.mapM_cons,rn_scs,shI,hct]
  ·try simp only [RL] at h1
   obtain rfl : k = N := by omega
   refine W.exit ?_
   refine xe ?_
   refine xe ?_
   refine XBlock.hit ?_
   refine xn ?_
   refine W.r fun K hK => ?_
   simp (disch := omega) only [↓RU,RV,RH,↓reduceIte,reduceEqDiff,reduceCtorEq,if_pos,↓RS,RG,reduceAdd,reduceMul,reduceLeDiff]
   refine hK _ _ ?_;clear hK K
   refine W.ret ?_
   refine Br rfl ?_
   rw [hnr,hN,slC_ne (shL_ne (by omega)),tlC_ne (shL_ne (by omega))]
   exact ⟨2,_,_,_,rfl,rfl⟩
theorem shapeAll_no {p : List Txt} (hs : Sm p) {ws ht : List Int} (hw : ws.length ≤ 1048576) (hh : ht.length ≤ 1048576) (hv : givenI p ws ht = false) : PC Tryz.prog 32 [eStrs p,eInts ws,eInts ht] (.tup [.sl [] 0,.bool false]) true := by
 refine PC.of ⟨Tryz.func32,by kernel_rfl,rfl,by kernel_rfl⟩ tabOk mixed (by show 3 ≤ Tryz.f32.ntmps; decide) ?_
 refine W.r fun K hK => ?_
 simp (disch := omega) only [↓RU,RV,RH,↓reduceIte,reduceEqDiff,reduceCtorEq,if_pos,↓RS,RG,reduceAdd,reduceMul,reduceLeDiff]
 refine hK _ _ ?_;clear hK K
 refine W.r fun K hK => ?_
 simp (disch := omega) only [↓RU,RV,RH,↓reduceIte,reduceEqDiff,reduceCtorEq,if_pos,List.append_nil,↓RS,RG,reduceAdd,reduceMul,reduceLeDiff]
 refine CallR.pc (tried_no hs hw hh hv) rfl (.inl rfl) ?_
 simp (disch := omega) only [↓RU,RV,RH,↓reduceIte,reduceEqDiff,reduceCtorEq,if_pos,List.append_nil,↓RS,RG,reduceAdd,reduceMul,reduceLeDiff]
 refine hK _ _ ?_;clear hK K
 refine W.r fun K hK => ?_
 simp (disch := omega) only [↓RU,RV,RH,↓reduceIte,reduceEqDiff,reduceCtorEq,if_pos,List.append_nil,↓RS,RG,reduceAdd,reduceMul,reduceLeDiff]
 refine CallR.pc (best0_pc) rfl (.inl rfl) ?_
 simp (disch := omega) only [↓RU,RV,RH,↓reduceIte,reduceEqDiff,reduceCtorEq,if_pos,List.append_nil,↓RS,RG,reduceAdd,reduceMul,reduceLeDiff]
 refine CallR.pc (listed0_pc) rfl (.inl rfl) ?_
 simp (disch := omega) only [↓RU,RV,RH,↓reduceIte,reduceEqDiff,reduceCtorEq,if_pos,List.append_nil,↓RS,RG,reduceAdd,reduceMul,reduceLeDiff]
 refine hK _ _ ?_;clear hK K
 refine W.ret ?_
 refine Br rfl ?_
 rfl
theorem shapeAll_yes {p : List Txt} (hs : Sm p) {ws ht : List Int} (hw : ws.length ≤ 1048576) (hh : ht.length ≤ 1048576) (hv : givenI p ws ht = true) : PC Tryz.prog 32 [eStrs p,eInts ws,eInts ht] (.tup [eShps (allP (shI (leftG (gP p) p.length (w0 (readG p)) (rP p).length) (aboveG (gP p) p.length (w0 (readG p)) (rP p).length) (rP p).length ws ht) (2 ^ (rP p).length)),.bool true]) false := by
 have hp8 := pow8 (givenI_ok hv).2.2
 have hp1 : 1 ≤ 2 ^ (rP p).length := Nat.one_le_two_pow
 have hsl : (shL (leftG (gP p) p.length (w0 (readG p)) (rP p).length) (aboveG (gP p) p.length (w0 (readG p)) (rP p).length) (rP p).length ws ht (2 ^ (rP p).length)).length = 2 ^ (rP p).length := shL_len
 refine PC.of ⟨Tryz.func32,by kernel_rfl,rfl,by kernel_rfl⟩ tabOk mixed (by show 3 ≤ Tryz.f32.ntmps; decide) ?_
 refine W.r fun K hK => ?_
 simp (disch := omega) only [↓RU,RV,RH,↓reduceIte,reduceEqDiff,reduceCtorEq,if_pos,↓RS,RG,reduceAdd,reduceMul,reduceLeDiff]
 refine hK _ _ ?_;clear hK K
 refine W.r fun K hK => ?_
 simp (disch := omega) only [↓RU,RV,RH,↓reduceIte,reduceEqDiff,reduceCtorEq,if_pos,List.append_nil,↓RS,RG,reduceAdd,reduceMul,reduceLeDiff]
 refine CallR.ev (tried_ev hs hw hh hv) ?_
 rintro _ _ ⟨o0,v1,t1,rfl,rfl⟩
 simp (disch := omega) only [↓RU,RV,RH,↓reduceIte,reduceEqDiff,reduceCtorEq,if_pos,List.append_nil,↓RS,RG,reduceAdd,reduceMul,reduceLeDiff]
 refine hK _ _ ?_;clear hK K
 refine W.r fun K hK => ?_
 simp (disch := omega) only [↓RU,RV,RH,↓reduceIte,reduceEqDiff,reduceCtorEq,if_pos,List.append_nil,↓RS,RG,reduceAdd,reduceMul,reduceLeDiff]
 refine CallR.ev (best_ev (l := (shL (leftG (gP p) p.length (w0 (readG p)) (rP p).length) (aboveG (gP p) p.length (w0 (readG p)) (rP p).length) (rP p).length ws ht (2 ^ (rP p).length))) (by omega) (by omega)) ?_
 rintro _ _ ⟨z,ver2,v2,t2,hzp,hzs,rfl,rfl⟩
 have hbs := best_same hzs hzp
 have hbl : (bsF z).length ≤ 1048576 := by have := bsF_len z z.length (Nat.le_refl _); rw [List.take_length] at this; have := hzp.length_eq; omega
 simp (disch := omega) only [↓RU,RV,RH,↓reduceIte,reduceEqDiff,reduceCtorEq,if_pos,List.append_nil,↓RS,RG,reduceAdd,reduceMul,reduceLeDiff]
 refine CallR.ev (listed_ev hbl) ?_
 rintro _ _ ⟨v3,t3,rfl,rfl⟩
 simp (disch := omega) only [↓RU,RV,RH,↓reduceIte,reduceEqDiff,reduceCtorEq,if_pos,List.append_nil,↓RS,RG,reduceAdd,reduceMul,reduceLeDiff]
 refine hK _ _ ?_;clear hK K
 refine W.ret ?_
 refine Br rfl ?_
 rw [← hbs]
 exact reify_tup2 (k := 9) (reify_slR.trans (by rw [eGrid,rowsOf_len])) rfl
def lcO (b : Nat) : List (Nat × List Int) → List PV
 | [] => []
 | q :: r => .loc b q.1 0 q.2.length :: lcO (b + 1) r
def inO (inn : List (Nat × List Int)) : List Ob := inn.map fun q => .arr q.1 3 1 (q.2.map (.int .i64))
theorem lcO_len {b : Nat} : ∀ {inn : List (Nat × List Int)},(lcO b inn).length = inn.length
 | [] => rfl
 | q :: r => by rw [lcO,List.length_cons,lcO_len,List.length_cons]
theorem inO_len {inn : List (Nat × List Int)} : (inO inn).length = inn.length := by simp [inO]
theorem lcO_app {b : Nat} : ∀ {a c : List (Nat × List Int)},lcO b (a ++ c) = lcO b a ++ lcO (b + a.length) c
 | [],c => rfl
 | q :: r,c => by rw [List.cons_append,lcO,lcO_app,lcO,List.length_cons,List.cons_append]; congr 3; omega
theorem inO_app {a c : List (Nat × List Int)} : inO (a ++ c) = inO a ++ inO c := by simp [inO]
theorem rn_lcO {S : Store} {k f : Nat} {sel : List Nat} : ∀ {inn : List (Nat × List Int)} {b : Nat},b + inn.length ≤ k → (lcO b inn).mapM (rn S k sel (f + 1)) = some (lcO b inn)
 | [],_,_ => rfl
 | q :: r,b,h => by
  rw [List.length_cons] at h
  refine mapM_one ?_ (rn_lcO (by omega))
  show (if b < k then some (PV.loc b q.1 0 q.2.length) else _) = _
  rw [if_pos (by omega)]
theorem rnObs_at {S : Store} {k : Nat} {sel : List Nat} : ∀ {A A' : List Ob} {j : Nat},A'.length = A.length → (∀ (m : Nat) a a',A[m]? = some a → A'[m]? = some a' → S.obs[j + m]? = some a ∧ rnOb S k sel true a = some a') → rnObs S k sel true (List.range' j A.length) = some A'
 | [],A',j,hl,_ => by
  have : A' = [] := List.eq_nil_of_length_eq_zero hl
  subst this; rfl
 | a :: A,[],j,hl,_ => by simp at hl
 | a :: A,a' :: A',j,hl,h => by
  obtain ⟨h1,h2⟩ := h 0 a a' rfl rfl
  rw [List.length_cons,List.range'_succ,rnObs,show S.obs[j]? = some a from h1,Option.bind_some,h2,Option.bind_some,rnObs_at (A := A) (A' := A') (by simpa using hl) fun m b b' hb hb' => by
   have := h (m + 1) b b' hb hb'
   rwa [show j + (m + 1) = j + 1 + m by omega] at this]
  rfl
theorem rnOb_in {S : Store} {k : Nat} {sel : List Nat} {ob : Ob} {inn : List (Nat × List Int)} (h : ob ∈ inO inn) : rnOb S k sel true ob = some ob := by
 obtain ⟨q,-,rfl⟩ := List.mem_map.1 h
 rw [rnOb_arr,rn_ints]; rfl
def slQ (inn : List (Nat × List Int)) (v : Nat) : PV := match inn with | [] => .nils | _ => .loc 0 v 0 inn.length
def stQ (inn : List (Nat × List Int)) (v t : Nat) : Store := match inn with | [] => ⟨[],t⟩ | _ => ⟨.arr v 24 1 (lcO 1 inn) :: inO inn,t⟩
theorem slQ_nil {v : Nat} : slQ [] v = .nils := rfl
theorem stQ_nil {v t : Nat} : stQ [] v t = ⟨[],t⟩ := rfl
theorem slQ_ne {inn : List (Nat × List Int)} {v : Nat} (h : inn ≠ []) : slQ inn v = .loc 0 v 0 inn.length := by cases inn with | nil => exact absurd rfl h | cons a l => rfl
theorem stQ_ne {inn : List (Nat × List Int)} {v t : Nat} (h : inn ≠ []) : stQ inn v t = ⟨.arr v 24 1 (lcO 1 inn) :: inO inn,t⟩ := by cases inn with | nil => exact absurd rfl h | cons a l => rfl
theorem rn_more {A : List (Nat × List Int)} {v t t5 i : Nat} {a b c : Ob} {r : List Int} (hA : A.length = i) (hb : b = .arr (t5 + 1) 3 1 (r.map (.int .i64))) :
  (⟨.arr v 24 1 (lcO 1 A ++ [.loc (i + 2) (t5 + 1) 0 r.length]) :: (inO A ++ [a,b,c]),t⟩ : Store).rn (i + 1) [i + 2] = some ⟨.arr v 24 1 (lcO 1 (A ++ [(t,r)])) :: inO (A ++ [(t,r)]),t + 1⟩ := by
 subst hA; subst hb
 have hl := inO_len (inn := A)
 have g2 : (inO A ++ [a,Ob.arr (t5 + 1) 3 1 (r.map (.int .i64)),c])[A.length + 1]? = some (.arr (t5 + 1) 3 1 (r.map (.int .i64))) := by rw [List.getElem?_append_right (by omega),hl]; simp
 obtain ⟨S,hS⟩ : ∃ S : Store,(⟨.arr v 24 1 (lcO 1 A ++ [.loc (A.length + 2) (t5 + 1) 0 r.length]) :: (inO A ++ [a,.arr (t5 + 1) 3 1 (r.map (.int .i64)),c]),t⟩ : Store) = S := ⟨_,rfl⟩
 have ho : S.obs = .arr v 24 1 (lcO 1 A ++ [.loc (A.length + 2) (t5 + 1) 0 r.length]) :: (inO A ++ [a,.arr (t5 + 1) 3 1 (r.map (.int .i64)),c]) := by rw [← hS]
 have ht : S.tick = t := by rw [← hS]
 have g3 : S.obs[A.length + 2]? = some (.arr (t5 + 1) 3 1 (r.map (.int .i64))) := by rw [ho]; exact g2
 rw [hS,Srn_eq,if_pos (by rw [ho]; simp [hl])]
 have e1 : rnObs S (A.length + 1) [A.length + 2] true (List.range (A.length + 1)) = some (.arr v 24 1 (lcO 1 A ++ [.loc (A.length + 1) t 0 r.length]) :: inO A) := by
  rw [List.range_eq_range',← hl]
  refine rnObs_at (A := .arr v 24 1 (lcO 1 A ++ [.loc (A.length + 2) (t5 + 1) 0 r.length]) :: inO A) rfl ?_
  intro m x x' hx hx'
  cases m with
  | zero =>
   simp at hx hx'; subst hx; subst hx'
   refine ⟨by rw [ho]; rfl,?_⟩
   rw [rnOb_arr,List.mapM_append,rn_lcO (by omega),mapM_one (b := .loc (A.length + 1) t 0 r.length) (by rw [rn_loc,if_neg (by omega),if_pos (by simp [hl]),hl]; simp [g3,ht]) rfl,hl]
   rfl
  | succ m =>
   simp at hx hx'
   rw [hx] at hx'; cases hx'
   refine ⟨?_,rnOb_in (List.mem_of_getElem? hx)⟩
   rw [ho,Nat.zero_add,List.getElem?_cons_succ,List.getElem?_append_left (len_of hx)]; exact hx
 have e2 : rnObs S (A.length + 1) [A.length + 2] false [A.length + 2] = some [.arr t 3 1 (r.map (.int .i64))] := by
  rw [rnObs_cons,g3,Option.bind_some,rnOb_arr,rn_ints,rnObs_nil,ht]; rfl
 rw [e1,e2,Option.bind_some,Option.map_some,lcO_app,inO_app,ht]
 simp [lcO,inO,Nat.add_comm 1 A.length]
theorem listed_live {l : List Shp} (hl : l.length ≤ 1048576) {o0 : Ob} {ver t : Nat} : Ev Tryz.prog 91 [.loc 1 ver 0 l.length] ⟨[o0,.arr ver 142 2 (scs l)],t⟩ fun v S => ∃ (v2 t2 : Nat) (inn : List (Nat × List Int)),inn.map (·.2) = rowsOf l ∧ v = slQ inn v2 ∧ S = stQ inn v2 t2 := by
 refine Ev.of ⟨Tryz.func91,by kernel_rfl,rfl,by kernel_rfl⟩ tabOk mixed (by show 1 ≤ Tryz.f91.ntmps; decide) ?_
 refine W.r fun K hK => ?_
 simp (disch := omega) only [↓RU,RV,RH,↓reduceIte,reduceEqDiff,reduceCtorEq,if_pos,↓RS,RG,reduceAdd,reduceMul,reduceLeDiff]
 refine hK _ _ ?_;clear hK K
 refine W.r fun K hK => ?_
 simp (disch := omega) only [↓RU,RV,RH,↓reduceIte,reduceEqDiff,reduceCtorEq,if_pos,↓RS,RG,reduceAdd,reduceMul,reduceLeDiff]
 refine hK _ _ ?_;clear hK K
 refine W.seq ?_
 refine W.r fun K hK => ?_
 simp (disch := omega) only [↓RU,RV,RH,↓reduceIte,reduceEqDiff,reduceCtorEq,if_pos,↓RS,RG,reduceAdd,reduceMul,reduceLeDiff,ty4,ty16,tyint,ty25]
 refine hK _ _ ?_;clear hK K
 refine W.block ?_
 refine W.loopS [3,6,7,8] (fun n vs S => ∃ (i v t : Nat) (inn : List (Nat × List Int)),n = l.length - i ∧ i ≤ l.length ∧ inn.map (·.2) = rowsOf (l.take i) ∧ vs = [slQ inn v,eShl l,.int .i64 l.length,.int .i64 i] ∧ S = stQ inn v t) l.length ?_ ?_
 ·refine ⟨0,[],[.nils,eShl l,.int .i64 l.length,.int .i64 (0 : Nat)],⟨[],t + 1⟩,?_,?_,0,0,t + 1,[],rfl,Nat.zero_le _,rfl,rfl,rfl⟩
  ·simp [-List.mapM_map,Env.put,Env.of,argEnv,Srn_eq,rnObs_cons,rnObs_nil,rnOb_arr,rnOb_map,rn_loc,rn_ref,rn_mp,rn_int,rn_bool,rn_str,rn_ip,rn_sl,rn_nils,rn_nilp,rn_undef,rn_agg,rn_tup,rn_fn,rfq_loc,rfq_int,rfq_bool,rfq_str,rfq_sl,frOf,List.range_succ,List.mapM_append,List.mapM_cons,rfq_scs,scs_len,scs_tk]
  ·simp [-List.mapM_map,Env.put,Env.of,argEnv,Srn_eq,rnObs_cons,rnObs_nil,rnOb_arr,rnOb_map,rn_loc,rn_ref,rn_mp,rn_int,rn_bool,rn_str,rn_ip,rn_sl,rn_nils,rn_nilp,rn_undef,rn_agg,rn_tup,rn_fn,rfq_loc,rfq_int,rfq_bool,rfq_str,rfq_sl,frOf,List.range_succ,List.mapM_append,List.mapM_cons]
 rintro n vs S - ⟨i,v,t,inn,rfl,h_i,hin,rfl,rfl⟩
 refine W.r fun K hK => ?_
 simp (disch := omega) only [↓RU,RV,RH,↓reduceIte,reduceEqDiff,reduceCtorEq,if_pos,w64,↓RS,RG,reduceAdd,reduceMul,reduceLeDiff,tyint]
 refine hK _ _ ?_;clear hK K
 refine W.seq ?_
 refine W.cond rfl (fun h1 => ?_) (fun h1 => ?_)
 ·try simp only [RL] at h1
  obtain ⟨x,hx,-⟩ := get_of (show i < l.length by omega)
  have hrs := rowsOf_succ hx
  have hil : inn.length = i := by have := congrArg List.length hin; rw [rowsOf_len,List.length_map,List.length_take] at this; omega
  have hpx : ((scs l).drop (i * 2)).take 2 = [.int .i64 x.1,.int .i64 x.2] := scs_at hx
  refine W.skip ?_
  refine xn ?_
  refine W.seq ?_
  refine W.block ?_
  refine W.r fun K hK => ?_
  by_cases hi0 : i = 0
  ·skip
   obtain rfl : inn = [] := List.eq_nil_of_length_eq_zero (by omega)
   simp only [slQ_nil,stQ_nil]
   have gX0 := True.intro
   have gX1 := True.intro
   have gX2 := True.intro
   have hXl := True.intro
   have sX0 := True.intro
   have hct := True.intro
   simp (disch := omega) only [↓RU,RV,RH,↓reduceIte,reduceEqDiff,reduceCtorEq,if_pos,↓RS,RG,reduceAdd,reduceMul,reduceLeDiff,ty4,ty16,tyint,ty25,hpx,scs_len,gX0,gX1,sX0,hXl]
   refine hK _ _ ?_;clear hK K
   refine W.k fun K hK => ?_
   simp (disch := omega) only [↓RU,RV,RH,↓reduceIte,reduceEqDiff,reduceCtorEq,if_pos,↓RS,RG,reduceAdd,reduceMul,reduceLeDiff,ty1,tyLint,ty16,tyint,ty25,gX0,gX1,gX2,sX0,hct,lcO_len,hil,hXl,List.append_assoc,List.cons_append,List.nil_append,List.length_append,List.length_cons,List.length_nil]
   refine hK _ _ ?_;clear hK K
   refine XbN ?_
   refine xn ?_
   refine W.k fun K hK => ?_
   simp (disch := omega) only [↓RU,RV,RH,↓reduceIte,reduceEqDiff,reduceCtorEq,if_pos,w64,↓RS,RG,reduceAdd,reduceMul,reduceLeDiff,tyint]
   refine hK _ _ ?_;clear hK K
   refine xn ?_
   refine ⟨l.length - (i + 1),by omega,0,[3,1],[.loc 0 (t + 4) 0 1,eShl l,.int .i64 l.length,.int .i64 ((i + 1 : Nat) : Int)],⟨[.arr (t + 4) 24 1 [.loc 1 (t + 4) 0 2],.arr (t + 4) 3 1 [.int .i64 x.1,.int .i64 x.2]],t + 5⟩,?_,?_,i + 1,t + 4,t + 5,[(t + 4,[x.1,x.2])],rfl,by omega,by rw [hrs,← hin]; rfl,rfl,rfl⟩
   ·simp [-List.mapM_map,Env.put,Env.of,argEnv,Srn_eq,rnObs_cons,rnObs_nil,rnOb_arr,rnOb_map,rn_loc,rn_ref,rn_mp,rn_int,rn_bool,rn_str,rn_ip,rn_sl,rn_nils,rn_nilp,rn_undef,rn_agg,rn_tup,rn_fn,rfq_loc,rfq_int,rfq_bool,rfq_str,rfq_sl,frOf,List.range_succ,List.mapM_append,List.mapM_cons] <;> decide
   ·simp [-List.mapM_map,Env.put,Env.of,argEnv,Srn_eq,rnObs_cons,rnObs_nil,rnOb_arr,rnOb_map,rn_loc,rn_ref,rn_mp,rn_int,rn_bool,rn_str,rn_ip,rn_sl,rn_nils,rn_nilp,rn_undef,rn_agg,rn_tup,rn_fn,rfq_loc,rfq_int,rfq_bool,rfq_str,rfq_sl,frOf,List.range_succ,List.mapM_append,List.mapM_cons] <;> decide
  ·skip
   have hne : inn ≠ [] := fun e => hi0 (by rw [e] at hil; exact hil.symm)
   rw [slQ_ne hne,stQ_ne hne]
   have hXl : (inO inn).length = i := by rw [inO_len,hil]
   have gX0 : ∀ ys : List Ob,(inO inn ++ ys)[i]? = ys[0]? := fun ys => by rw [List.getElem?_append_right (by omega),hXl,Nat.sub_self]
   have gX1 : ∀ ys : List Ob,(inO inn ++ ys)[i + 1]? = ys[1]? := fun ys => by rw [List.getElem?_append_right (by omega),hXl,Nat.add_sub_cancel_left]
   have gX2 : ∀ ys : List Ob,(inO inn ++ ys)[i + 2]? = ys[2]? := fun ys => by rw [List.getElem?_append_right (by omega),hXl,Nat.add_sub_cancel_left]
   have sX0 : ∀ (ys : List Ob) (b : Ob),(inO inn ++ ys).set i b = inO inn ++ ys.set 0 b := fun ys b => by rw [List.set_append_right _ _ (by omega),hXl,Nat.sub_self]
   have hct : (lcO 1 inn).take i = lcO 1 inn := List.take_of_length_le (by rw [lcO_len]; omega)
   simp (disch := omega) only [↓RU,RV,RH,↓reduceIte,reduceEqDiff,reduceCtorEq,if_pos,↓RS,RG,reduceAdd,reduceMul,reduceLeDiff,ty4,ty16,tyint,ty25,hpx,scs_len,gX0,gX1,sX0,hXl]
   refine hK _ _ ?_;clear hK K
   refine W.k fun K hK => ?_
   simp (disch := omega) only [↓RU,RV,RH,↓reduceIte,reduceEqDiff,reduceCtorEq,if_pos,↓RS,RG,reduceAdd,reduceMul,reduceLeDiff,ty1,tyLint,ty16,tyint,ty25,gX0,gX1,gX2,sX0,hct,lcO_len,hil,hXl,List.append_assoc,List.cons_append,List.nil_append,List.length_append,List.length_cons,List.length_nil]
   refine hK _ _ ?_;clear hK K
   refine XbN ?_
   refine xn ?_
   refine W.k fun K hK => ?_
   simp (disch := omega) only [↓RU,RV,RH,↓reduceIte,reduceEqDiff,reduceCtorEq,if_pos,w64,↓RS,RG,reduceAdd,reduceMul,reduceLeDiff,tyint]
   refine hK _ _ ?_;clear hK K
   refine xn ?_
   refine ⟨l.length - (i + 1),by omega,i + 1,[i + 2],[.loc 0 (t + 3) 0 (i + 1),eShl l,.int .i64 l.length,.int .i64 ((i + 1 : Nat) : Int)],⟨.arr (t + 3) 24 1 (lcO 1 (inn ++ [(t + 4,[x.1,x.2])])) :: inO (inn ++ [(t + 4,[x.1,x.2])]),t + 5⟩,?_,?_,i + 1,t + 3,t + 5,inn ++ [(t + 4,[x.1,x.2])],rfl,by omega,by rw [hrs,List.map_append,hin]; rfl,by rw [slQ_ne (by simp)]; simp [hil],by rw [stQ_ne (by simp)]⟩
   ·simp [-List.mapM_map,Env.put,Env.of,argEnv,Srn_eq,rnObs_cons,rnObs_nil,rnOb_arr,rnOb_map,rn_loc,rn_ref,rn_mp,rn_int,rn_bool,rn_str,rn_ip,rn_sl,rn_nils,rn_nilp,rn_undef,rn_agg,rn_tup,rn_fn,rfq_loc,rfq_int,rfq_bool,rfq_str,rfq_sl,frOf,List.range_succ,List.mapM_append,List.mapM_cons]
   ·exact rn_more (r := [x.1,x.2]) hil rfl
 ·try simp only [RL] at h1
  obtain rfl : i = l.length := by omega
  refine W.exit ?_
  refine xe ?_
  refine xe ?_
  refine XBlock.hit ?_
  refine xn ?_
  refine W.r fun K hK => ?_
  simp (disch := omega) only [↓RU,RV,RH,↓reduceIte,reduceEqDiff,reduceCtorEq,if_pos,↓RS,RG,reduceAdd,reduceMul,reduceLeDiff]
  refine hK _ _ ?_;clear hK K
  refine W.ret ?_
  refine Br rfl ?_
  rw [List.take_length] at hin
  exact ⟨_,_,_,inn,hin,rfl,take_all⟩
section
theorem needs_is {p : List Txt} {ws : List Int} : needsB p ws = needV p [ws] := (needV_needs).symm
theorem given_eq {p : List Txt} {ws ht : List Int} : given8 p ws ht = givenI p ws ht := by
 unfold given8
 rw [needs_is,needs_is]
 unfold givenI
 cases h1 : needV p [ws] with
 | false =>
  have : needV p [ws,ht] = false := by
   unfold needV at h1 ⊢
   simp only [List.all_cons,List.all_nil,Bool.and_true] at h1 ⊢
   cases ha : plainI p <;> cases hb : needW p ws <;> simp_all
  rw [this]; simp
 | true =>
  cases h2 : needV p [ht] with
  | false =>
   have : needV p [ws,ht] = false := by
    unfold needV at h2 ⊢
    simp only [List.all_cons,List.all_nil,Bool.and_true] at h2 ⊢
    cases ha : plainI p <;> cases hb : needW p ht <;> simp_all
   rw [this]; simp
  | true =>
   have h3 := (needV_one h1).2.1
   have : needV p [ws,ht] = true := by
    unfold needV at h1 h2 ⊢
    simp only [List.all_cons,List.all_nil,Bool.and_true,Bool.and_eq_true] at h1 h2 ⊢
    exact ⟨h1.1,h1.2,h2.2⟩
   rw [this,h3]; simp
section
variable {p : List Txt} {ws ht : List Int}
end
end
section
theorem PC.old {P : Program} {f : FuncId} {args : List PV} {r : PV} (h : PC P f args r true) : PC P f args r false :=
 ⟨h.ent,fun F w c h1 h2 h3 => (h.run F w c h1 h2 h3).mono fun _ _ ⟨cv,a,b,d⟩ => ⟨cv,a,b,d.mono (fun _ hb => .inl (hb.resolve_right (by simp))) (fun _ _ => rfl)⟩⟩
theorem allP_congr {f g : Nat → Shp} : ∀ {k : Nat},(∀ s,s < k → f s = g s) → allP f k = allP g k
 | 0,_ => rfl
 | k + 1,h => by rw [allP_succ,allP_succ,allP_congr (k := k) fun s hs => h s (by omega),h k (by omega)]
section
variable {p : List Txt} {ws ht : List Int}
def bestV (p : List Txt) (ws ht : List Int) : List Shp := if givenI p ws ht then allP (shS p ws ht) (2 ^ ws.length) else []
theorem shapeAll_pc (hs : Sm p) (hw : ws.length ≤ 1048576) (hh : ht.length ≤ 1048576) : PC Tryz.prog 32 [eStrs p,eInts ws,eInts ht] (.tup [eShps (bestV p ws ht),.bool (givenI p ws ht)]) false := by
 cases hv : givenI p ws ht with
 | false =>
  have e : bestV p ws ht = [] := by unfold bestV; rw [hv,if_neg Bool.false_ne_true]
  rw [e]
  exact (shapeAll_no hs hw hh hv).old
 | true =>
  obtain ⟨h1,h2,-⟩ := givenI_ok hv
  have e : bestV p ws ht = allP (shI (leftG (gP p) p.length (w0 (readG p)) (rP p).length) (aboveG (gP p) p.length (w0 (readG p)) (rP p).length) (rP p).length ws ht) (2 ^ (rP p).length) := by
   unfold bestV
   rw [hv,if_pos rfl,(needV_one h1).2.1]
   exact allP_congr fun s _ => (sh_eq h1 h2 s).symm
  rw [e]
  exact shapeAll_yes hs hw hh hv
theorem given_len (h : givenI p ws ht = true) : ht.length = ws.length ∧ ws.length ≤ 8 := by
 obtain ⟨h1,h2,h3⟩ := givenI_ok h
 have := (needV_one h1).2.1
 have := (needV_one h2).2.1
 omega
theorem bestV_yes (h : givenI p ws ht = true) : bestV p ws ht = allP (shS p ws ht) (2 ^ ws.length) := by unfold bestV; rw [h,if_pos rfl]
theorem bestV_facts (h : givenI p ws ht = true) : 1 ≤ (bestV p ws ht).length ∧ (bestV p ws ht).length ≤ 256 ∧
  (∀ x ∈ bestV p ws ht,0 ≤ x.1 ∧ x.1 ≤ 6570 ∧ 0 ≤ x.2 ∧ x.2 ≤ 6570 ∧ 0 ≤ x.1 * x.2 ∧ x.1 * x.2 ≤ 43164900 ∧ ∃ s,s < 2 ^ ws.length ∧ x = shS p ws ht s) ∧ (∀ s,s < 2 ^ ws.length → ∃ y ∈ bestV p ws ht,y.1 ≤ (shS p ws ht s).1 ∧ y.2 ≤ (shS p ws ht s).2) ∧ Stc (bestV p ws ht) := by
 have hp := pow8 (given_len h).2
 obtain ⟨g1,g2,-⟩ := givenI_ok h
 rw [← needs_is] at g1 g2
 rw [bestV_yes h]
 obtain ⟨h1,h2,h3⟩ := allP_inv (sh := shS p ws ht) (2 ^ ws.length)
 refine ⟨List.length_pos_iff.2 (allP_ne hp.1),by omega,fun x hx => ?_,h2,(all_best _).st⟩
 obtain ⟨s,q1,rfl⟩ := h1 x hx
 obtain ⟨a,b,c,d⟩ := shS_bnd g1 g2 s
 have e := areaF_bnd g1 g2 s
 exact ⟨a,b,c,d,e.1,e.2,s,q1,rfl⟩
theorem sBest_is : (if given8 p ws ht then allP (shS p ws ht) (2 ^ ws.length) else []) = bestV p ws ht := by rw [given_eq]; rfl
end
end
theorem bestV_no {p : List Txt} {ws ht : List Int} (h : givenI p ws ht = false) : bestV p ws ht = [] := by unfold bestV; rw [h,if_neg Bool.false_ne_true]
theorem bestV_len {p : List Txt} {ws ht : List Int} : (bestV p ws ht).length ≤ 256 := by
 cases h : givenI p ws ht with
 | false => rw [bestV_no h]; simp
 | true => exact (bestV_facts h).2.1
theorem sameRows_pc {l : List Shp} (hl : l.length ≤ 1048576) : PC Tryz.prog 46 [eShps l,eShps l] (.bool true) true := by
 refine PC.of ⟨Tryz.func46,by kernel_rfl,rfl,by kernel_rfl⟩ tabOk mixed (by show 2 ≤ Tryz.f46.ntmps; decide) ?_
 refine W.r fun K hK => ?_
 simp (disch := omega) only [↓RU,RV,RH,↓reduceIte,reduceEqDiff,reduceCtorEq,if_pos]
 refine hK _ _ ?_;clear hK K
 refine W.seq ?_
 refine W.r fun K hK => ?_
 simp (disch := omega) only [↓RU,RV,RH,↓reduceIte,reduceEqDiff,reduceCtorEq,if_pos,w64,ty1,tyLint,tyint]
 refine hK _ _ ?_;clear hK K
 refine W.cond rfl (fun h0 => ?_) (fun h0 => ?_)
 ·try simp only [RL] at h0
  exact absurd h0 (by simp)
 ·try simp only [RL] at h0
  refine W.skip ?_
  refine xn ?_
  refine W.seq ?_
  refine W.r fun K hK => ?_
  simp (disch := omega) only [↓RU,RV,RH,↓reduceIte,reduceEqDiff,reduceCtorEq,if_pos]
  refine hK _ _ ?_;clear hK K
  refine W.block ?_
  refine W.loop [0,1,5] (fun n vs S => ∃ i : Nat,n = l.length - i ∧ i ≤ l.length ∧ vs = [eShps l,eShps l,.int .i64 i] ∧ S = ⟨[],0⟩) (l.length) ?_ ?_
  ·refine ⟨0,0,rfl,Nat.zero_le _,?_,rfl⟩
   simp [Env.put,Env.of,argEnv]
  rintro n vs S - ⟨i,rfl,h_i,rfl,rfl⟩
  refine W.seq ?_
  refine W.r fun K hK => ?_
  simp (disch := omega) only [↓RU,RV,RH,↓reduceIte,reduceEqDiff,reduceCtorEq,if_pos,w64,ty1,tyLint,tyint]
  refine hK _ _ ?_;clear hK K
  refine W.cond rfl (fun h1 => ?_) (fun h1 => ?_)
  ·try simp only [RL] at h1
   obtain ⟨x,hx,-⟩ := get_of (show i < l.length by omega)
   have hxr := rowsOf_at hx
   have hrl := rowsOf_len (l := l)
   refine W.skip ?_
   refine xn ?_
   refine W.seq ?_
   refine W.block ?_
   refine W.seq_draw (by kernel_rfl) fun K hK => ?_
   simp (disch := omega) only [↓RU,RV,RH,↓reduceIte,reduceEqDiff,reduceCtorEq,if_pos,List.append_nil,ty1,tyLint,tyint,hxr,hrl]
   refine CallR.pc (sameInts_pc (p := [x.1,x.2]) (q := [x.1,x.2]) (by simp) (by simp)) rfl (.inl rfl) ?_
   simp (disch := omega) only [↓RU,RV,RH,↓reduceIte,reduceEqDiff,reduceCtorEq,if_pos,List.append_nil,ty1,tyLint,tyint,hxr,hrl]
   refine hK _ _ ?_;clear hK K
   refine W.cond rfl (fun h2 => ?_) (fun h2 => ?_)
   ·try simp only [RL] at h2
    exact absurd h2 (by simp)
   ·try simp only [RL] at h2
    refine W.skip ?_
    refine XbN ?_
    refine xn ?_
    refine W.k fun K hK => ?_
    simp (disch := omega) only [↓RU,RV,RH,↓reduceIte,reduceEqDiff,reduceCtorEq,if_pos,w64,tyint]
    refine hK _ _ ?_;clear hK K
    refine xn ?_
    refine ⟨l.length - (i + 1),by omega,0,i + 1,rfl,by omega,?_,rfl⟩
    simp [Env.put,Env.of]
  ·try simp only [RL] at h1
   obtain rfl : i = l.length := by omega
   refine W.exit ?_
   refine xe ?_
   refine xe ?_
   refine XBlock.hit ?_
   refine xn ?_
   refine W.r fun K hK => ?_
   simp (disch := omega) only [↓RU,RV,RH,↓reduceIte,reduceEqDiff,reduceCtorEq,if_pos]
   refine hK _ _ ?_;clear hK K
   refine W.ret ?_
   refine Br rfl ?_
   rfl
theorem sShapeAll_pc {p : List Txt} (hs : Sm p) {ws ht : List Int} (hw : ws.length ≤ 1048576) (hh : ht.length ≤ 1048576) : PC Tryz.prog 29 [eStrs p,eInts ws,eInts ht] (.tup [eShps (bestV p ws ht),.bool (givenI p ws ht)]) false := by
 refine PC.of ⟨Tryz.func29,by kernel_rfl,rfl,by kernel_rfl⟩ tabOk mixed (by show 3 ≤ Tryz.f29.ntmps; decide) ?_
 refine W.r fun K hK => ?_
 simp (disch := omega) only [↓RU,RV,RH,↓reduceIte,reduceEqDiff,reduceCtorEq,if_pos,↓RS,RG,reduceAdd,reduceMul,reduceLeDiff]
 refine hK _ _ ?_;clear hK K
 refine W.seq ?_
 refine W.r fun K hK => ?_
 simp (disch := omega) only [↓RU,RV,RH,↓reduceIte,reduceEqDiff,reduceCtorEq,if_pos,List.append_nil,↓RS,RG,reduceAdd,reduceMul,reduceLeDiff]
 refine CallR.pc (l8Given_pc hs hw hh) rfl (.inl rfl) ?_
 simp (disch := omega) only [↓RU,RV,RH,↓reduceIte,reduceEqDiff,reduceCtorEq,if_pos,List.append_nil,↓RS,RG,reduceAdd,reduceMul,reduceLeDiff]
 refine hK _ _ ?_;clear hK K
 refine W.cond rfl (fun h0 => ?_) (fun h0 => ?_)
 ·try simp only [RL] at h0
  have hg : given8 p ws ht = false := by simpa using h0
  rw [← sBest_is,← given_eq]
  refine W.r fun K hK => ?_
  simp (disch := omega) only [↓RU,RV,RH,↓reduceIte,reduceEqDiff,reduceCtorEq,if_pos,↓RS,RG,reduceAdd,reduceMul,reduceLeDiff,ty1,tyLint,tyint]
  refine hK _ _ ?_;clear hK K
  refine W.ret ?_
  refine XThen.ret ?_
  refine Br rfl ?_
  rw [hg,if_neg Bool.false_ne_true]
  rfl
 ·try simp only [RL] at h0
  have hg : given8 p ws ht = true := by simpa using h0
  rw [← sBest_is,← given_eq]
  refine W.skip ?_
  refine xn ?_
  refine W.r fun K hK => ?_
  simp (disch := omega) only [↓RU,RV,RH,↓reduceIte,reduceEqDiff,reduceCtorEq,if_pos,List.append_nil,↓RS,RG,reduceAdd,reduceMul,reduceLeDiff]
  refine CallR.pc (l8All_pc hs hg) rfl (.inr rfl) ?_
  simp (disch := omega) only [↓RU,RV,RH,↓reduceIte,reduceEqDiff,reduceCtorEq,if_pos,List.append_nil,↓RS,RG,reduceAdd,reduceMul,reduceLeDiff]
  refine hK _ _ ?_;clear hK K
  refine W.ret ?_
  refine Br rfl ?_
  rw [hg,if_pos rfl]
  rfl
def vrs (v : Nat) (rows : List (List Int)) : List (Nat × List Int) := rows.map fun r => (v,r)
def lc2 (b v n : Nat) : List PV := (List.range n).map fun j => .loc (b + j) v 0 2
def rowO (v : Nat) (rows : List (List Int)) : List Ob := rows.map fun r => .arr v 3 1 (r.map (.int .i64))
theorem lcO_two {v : Nat} : ∀ {rows : List (List Int)} {b : Nat},(∀ r ∈ rows,r.length = 2) → lcO b (vrs v rows) = lc2 b v rows.length
 | [],_,_ => rfl
 | r :: rows,b,h => by
  have e := lcO_two (v := v) (rows := rows) (b := b + 1) fun r hr => h r (List.mem_cons_of_mem _ hr)
  show PV.loc b v 0 r.length :: lcO (b + 1) (vrs v rows) = _
  rw [e,h r (by simp)]
  unfold lc2
  rw [List.length_cons,List.range_succ_eq_map,List.map_cons,List.map_map]
  congr 1
  refine List.map_congr_left fun j _ => ?_
  show PV.loc (b + 1 + j) v 0 2 = PV.loc (b + (j + 1)) v 0 2
  rw [show b + 1 + j = b + (j + 1) by omega]
theorem lc2_at {b v n i : Nat} (h : i < n) : (lc2 b v n)[i]? = some (.loc (b + i) v 0 2) := by simp [lc2,h]
theorem lc2_len {b v n : Nat} : (lc2 b v n).length = n := by simp [lc2]
theorem rowO_len {v : Nat} {rows : List (List Int)} : (rowO v rows).length = rows.length := by simp [rowO]
theorem rowO_app {v : Nat} {a b : List (List Int)} : rowO v (a ++ b) = rowO v a ++ rowO v b := by simp [rowO]
theorem up_lc2 {b v n k t f : Nat} : (lc2 b v n).map (up k t (f + 1)) = lc2 (b + k) t n := by
 unfold lc2
 rw [List.map_map]
 refine List.map_congr_left fun j _ => ?_
 show PV.loc (b + j + k) t 0 2 = _
 rw [show b + j + k = b + k + j by omega]
theorem up_rowO {v k t : Nat} {rows : List (List Int)} : (rowO v rows).map (upOb k t) = rowO t rows := by
 unfold rowO
 rw [List.map_map]
 refine List.map_congr_left fun r _ => ?_
 show Ob.arr t _ 1 ((r.map (PV.int .i64)).map (up k t 10)) = _
 rw [up_ints]
theorem rows_two {l : List Shp} : ∀ r ∈ rowsOf l,r.length = 2 := fun r hr => by obtain ⟨x,-,rfl⟩ := List.mem_map.1 hr; rfl
theorem sh_lcO {S : Store} {im : Bool} {f : Nat} : ∀ {inn : List (Nat × List Int)} {b : Nat},(∀ (j : Nat) q,inn[j]? = some q → S.obs[b + j]? = some (.arr q.1 3 1 (q.2.map (.int .i64)))) → (lcO b inn).mapM (sh S im (f + 1)) = some (lcO b (vrs 0 (inn.map (·.2))))
 | [],_,_ => rfl
 | q :: r,b,h => by
  refine mapM_one ?_ (sh_lcO fun j q hq => by have := h (j + 1) q hq; rwa [show b + (j + 1) = b + 1 + j by omega] at this)
  have := h 0 q rfl
  show (match S.obs[b]? with | some (.arr v _ _ _) => if v = q.1 then some (PV.loc b 0 0 q.2.length) else none | _ => none) = _
  rw [show S.obs[b]? = some (.arr q.1 3 1 (q.2.map (.int .i64))) from this]
  simp
theorem sh_inO {S : Store} {im : Bool} : ∀ {inn : List (Nat × List Int)},shObs S im (inO inn) = some (rowO 0 (inn.map (·.2)))
 | [] => rfl
 | q :: r => by
  show ((((q.2.map (PV.int .i64)).mapM (sh S im 10)).map (Ob.arr 0 3 1 ·)).bind fun a => (shObs S im (inO r)).map (a :: ·)) = _
  rw [sh_ints,sh_inO]; rfl
theorem sh_stQ {inn : List (Nat × List Int)} {v t : Nat} {rows : List (List Int)} (hin : inn.map (·.2) = rows) (h2 : ∀ r ∈ rows,r.length = 2) (h1 : 1 ≤ rows.length) {bb : Bool} :
  ∃ k,sh ((stQ inn v t).take k) false 10 (.tup [slQ inn v,.bool bb]) = some (.tup [.loc 0 0 0 rows.length,.bool bb]) ∧ shObs ((stQ inn v t).take k) false ((stQ inn v t).take k).obs = some (.arr 0 24 1 (lc2 1 0 rows.length) :: rowO 0 rows) := by
 have hl : inn.length = rows.length := by rw [← hin,List.length_map]
 have hne : inn ≠ [] := by rintro rfl; rw [← hin] at h1; simp at h1
 refine ⟨inn.length + 1,?_⟩
 have e : (stQ inn v t).take (inn.length + 1) = ⟨.arr v 24 1 (lcO 1 inn) :: inO inn,t⟩ := by
  rw [stQ_ne hne]
  show (⟨List.take _ _,t⟩ : Store) = _
  rw [List.take_of_length_le (by simp [inO_len])]
 rw [e,slQ_ne hne,hl]
 refine ⟨by simp [sh],?_⟩
 show ((((lcO 1 inn).mapM (sh _ false 10)).map (Ob.arr 0 24 1 ·)).bind fun a => (shObs _ false (inO inn)).map (a :: ·)) = _
 rw [sh_lcO (fun j q hq => by
  show (Ob.arr v 24 1 (lcO 1 inn) :: inO inn)[1 + j]? = _
  rw [Nat.add_comm,List.getElem?_cons_succ]; simp [inO,hq]),sh_inO,hin,lcO_two h2]
 rfl
def mkR (k0 : Int) (n : Nat) : List (List Int) := (List.range n).map fun j : Nat => [k0 + 2 * j,k0 + 2 * j + 1]
theorem mkR_succ {k0 : Int} {n : Nat} : mkR k0 (n + 1) = mkR k0 n ++ [[k0 + 2 * n,k0 + 2 * n + 1]] := by simp [mkR,List.range_succ]
theorem mkR_len {k0 : Int} {n : Nat} : (mkR k0 n).length = n := by simp [mkR]
theorem two_is {ts : List Int} {k : Int} (hl : ts.length = 2) (h : ∀ j : Nat,j < 2 → ts[j]? = some (k + j)) : ts = [k,k + 1] := by
 match ts,hl with
 | [a,b],_ =>
  have h0 := h 0 (by omega); have h1 := h 1 (by omega)
  simp at h0 h1
  rw [h0,h1]
theorem shapeAll_live {p : List Txt} (hs : Sm p) {ws ht : List Int} (hw : ws.length ≤ 1048576) (hh : ht.length ≤ 1048576) (hv : givenI p ws ht = true) : PN Tryz.prog 32 [eStrs p,eInts ws,eInts ht] (.tup [.loc 0 0 0 (bestV p ws ht).length,.bool true]) (.arr 0 24 1 (lc2 1 0 (bestV p ws ht).length) :: rowO 0 (rowsOf (bestV p ws ht))) false := by
 have hp8 := pow8 (givenI_ok hv).2.2
 have hp1 : 1 ≤ 2 ^ (rP p).length := Nat.one_le_two_pow
 have hsl : (shL (leftG (gP p) p.length (w0 (readG p)) (rP p).length) (aboveG (gP p) p.length (w0 (readG p)) (rP p).length) (rP p).length ws ht (2 ^ (rP p).length)).length = 2 ^ (rP p).length := shL_len
 have hbe : bestV p ws ht = allP (shI (leftG (gP p) p.length (w0 (readG p)) (rP p).length) (aboveG (gP p) p.length (w0 (readG p)) (rP p).length) (rP p).length ws ht) (2 ^ (rP p).length) := by
  obtain ⟨g1,g2,-⟩ := givenI_ok hv
  unfold bestV
  rw [hv,if_pos rfl,(needV_one g1).2.1]
  exact allP_congr fun s _ => (sh_eq g1 g2 s).symm
 have hb1 := (bestV_facts hv).1
 refine PN.of ⟨Tryz.func32,by kernel_rfl,rfl,by kernel_rfl⟩ tabOk mixed (by show 3 ≤ Tryz.f32.ntmps; decide) ?_
 refine W.r fun K hK => ?_
 simp (disch := omega) only [↓RU,RV,RH,↓reduceIte,reduceEqDiff,reduceCtorEq,if_pos,↓RS,RG,reduceAdd,reduceMul,reduceLeDiff]
 refine hK _ _ ?_;clear hK K
 refine W.r fun K hK => ?_
 simp (disch := omega) only [↓RU,RV,RH,↓reduceIte,reduceEqDiff,reduceCtorEq,if_pos,List.append_nil,↓RS,RG,reduceAdd,reduceMul,reduceLeDiff]
 refine CallR.ev (tried_ev hs hw hh hv) ?_
 rintro _ _ ⟨o0,v1,t1,rfl,rfl⟩
 simp (disch := omega) only [↓RU,RV,RH,↓reduceIte,reduceEqDiff,reduceCtorEq,if_pos,List.append_nil,↓RS,RG,reduceAdd,reduceMul,reduceLeDiff]
 refine hK _ _ ?_;clear hK K
 refine W.r fun K hK => ?_
 simp (disch := omega) only [↓RU,RV,RH,↓reduceIte,reduceEqDiff,reduceCtorEq,if_pos,List.append_nil,↓RS,RG,reduceAdd,reduceMul,reduceLeDiff]
 refine CallR.ev (best_ev (l := (shL (leftG (gP p) p.length (w0 (readG p)) (rP p).length) (aboveG (gP p) p.length (w0 (readG p)) (rP p).length) (rP p).length ws ht (2 ^ (rP p).length))) (by omega) (by omega)) ?_
 rintro _ _ ⟨z,ver2,v2,t2,hzp,hzs,rfl,rfl⟩
 have hbs := best_same hzs hzp
 have hbl : (bsF z).length ≤ 1048576 := by have := bsF_len z z.length (Nat.le_refl _); rw [List.take_length] at this; have := hzp.length_eq; omega
 simp (disch := omega) only [↓RU,RV,RH,↓reduceIte,reduceEqDiff,reduceCtorEq,if_pos,List.append_nil,↓RS,RG,reduceAdd,reduceMul,reduceLeDiff]
 refine CallR.ev (listed_live hbl) ?_
 rintro _ _ ⟨v3,t3,inn,hinn,rfl,rfl⟩
 simp (disch := omega) only [↓RU,RV,RH,↓reduceIte,reduceEqDiff,reduceCtorEq,if_pos,List.append_nil,↓RS,RG,reduceAdd,reduceMul,reduceLeDiff]
 refine hK _ _ ?_;clear hK K
 refine W.ret ?_
 refine Br rfl ?_
 rw [hbs,← hbe] at hinn
 have e := sh_stQ (v := v3) (t := t3) (bb := true) hinn rows_two (by rw [rowsOf_len]; exact hb1)
 rw [rowsOf_len] at e
 exact e

theorem reify_lcO {S : Store} {f : Nat} : ∀ {inn : List (Nat × List Int)} {b : Nat},(∀ (j : Nat) q,inn[j]? = some q → S.obs[b + j]? = some (.arr q.1 3 1 (q.2.map (.int .i64)))) → (lcO b inn).mapM (reify S true (f + 2)) = some (inn.map fun q => eInts q.2)
 | [],_,_ => rfl
 | q :: r,b,h => by
  have h0 := h 0 q rfl
  exact mapM_one (reify_loc (k := f + 1) h0 (by simp) (mapM_int _)) (reify_lcO fun j q hq => by have := h (j + 1) q hq; rwa [show b + (j + 1) = b + 1 + j by omega] at this)
theorem reify_rows {S : Store} {o v b n : Nat} {rows : List (List Int)} (hS : S.obs[o]? = some (.arr v 24 1 (lc2 b v n))) (hn : n = rows.length) (h2 : ∀ r ∈ rows,r.length = 2) (hr : ∀ (j : Nat) r,rows[j]? = some r → S.obs[b + j]? = some (.arr v 3 1 (r.map (.int .i64)))) :
  reify S true 10 (.loc o v 0 n) = some (.sl (rows.map eInts) n) := by
 subst hn
 have e := reify_lcO (S := S) (f := 7) (inn := vrs v rows) (b := b) fun j q hq => by
  obtain ⟨r,hr1,hr2⟩ : ∃ r,rows[j]? = some r ∧ q = (v,r) := by
   unfold vrs at hq; rw [List.getElem?_map] at hq
   cases h : rows[j]? with
   | none => rw [h] at hq; cases hq
   | some r => rw [h] at hq; exact ⟨r,rfl,(Option.some.inj hq).symm⟩
  subst hr2; exact hr j r hr1
 rw [lcO_two h2,show (vrs v rows).map (fun q => eInts q.2) = rows.map eInts by simp [vrs]] at e
 exact reify_loc (k := 9) hS (by rw [lc2_len]; omega) e
theorem mkR_two {k0 : Int} {n : Nat} : ∀ r ∈ mkR k0 n,r.length = 2 := fun r hr => by obtain ⟨x,-,rfl⟩ := List.mem_map.1 hr; rfl
theorem mkR_at {k0 : Int} {n i : Nat} (h : i < n) : (mkR k0 n)[i]? = some [k0 + 2 * i,k0 + 2 * i + 1] := by simp [mkR,h]
theorem eqIntSS_pc {l : List Shp} (hl : l.length ≤ 1048576) : PC Tryz.prog 33 [eShps l,eShps l] (.bool true) true := by
 refine PC.of ⟨Tryz.func33,by kernel_rfl,rfl,by kernel_rfl⟩ tabOk mixed (by show 2 ≤ Tryz.f33.ntmps; decide) ?_
 refine W.r fun K hK => ?_
 simp (disch := omega) only [↓RU,RV,RH,↓reduceIte,reduceEqDiff,reduceCtorEq,if_pos]
 refine hK _ _ ?_;clear hK K
 refine W.seq ?_
 refine W.r fun K hK => ?_
 simp (disch := omega) only [↓RU,RV,RH,↓reduceIte,reduceEqDiff,reduceCtorEq,if_pos,w64,ty1,tyLint,tyint]
 refine hK _ _ ?_;clear hK K
 refine W.cond rfl (fun h0 => ?_) (fun h0 => ?_)
 ·try simp only [RL] at h0
  exact absurd h0 (by simp)
 ·try simp only [RL] at h0
  refine W.skip ?_
  refine xn ?_
  refine W.seq ?_
  refine W.r fun K hK => ?_
  simp (disch := omega) only [↓RU,RV,RH,↓reduceIte,reduceEqDiff,reduceCtorEq,if_pos]
  refine hK _ _ ?_;clear hK K
  refine W.block ?_
  refine W.loop [0,1,5] (fun n vs S => ∃ i : Nat,n = l.length - i ∧ i ≤ l.length ∧ vs = [eShps l,eShps l,.int .i64 i] ∧ S = ⟨[],0⟩) (l.length) ?_ ?_
  ·refine ⟨0,0,rfl,Nat.zero_le _,?_,rfl⟩
   simp [Env.put,Env.of,argEnv]
  rintro n vs S - ⟨i,rfl,h_i,rfl,rfl⟩
  refine W.seq ?_
  refine W.r fun K hK => ?_
  simp (disch := omega) only [↓RU,RV,RH,↓reduceIte,reduceEqDiff,reduceCtorEq,if_pos,w64,ty1,tyLint,tyint]
  refine hK _ _ ?_;clear hK K
  refine W.cond rfl (fun h1 => ?_) (fun h1 => ?_)
  ·try simp only [RL] at h1
   obtain ⟨x,hx,-⟩ := get_of (show i < l.length by omega)
   have hxr := rowsOf_at hx
   have hrl := rowsOf_len (l := l)
   refine W.skip ?_
   refine xn ?_
   refine W.seq ?_
   refine W.block ?_
   refine W.seq_draw (by kernel_rfl) fun K hK => ?_
   simp (disch := omega) only [↓RU,RV,RH,↓reduceIte,reduceEqDiff,reduceCtorEq,if_pos,List.append_nil,ty1,tyLint,tyint,hxr,hrl]
   refine CallR.pc (eqIntS_pc (p := [x.1,x.2]) (q := [x.1,x.2]) (by simp) (by simp)) rfl (.inl rfl) ?_
   simp (disch := omega) only [↓RU,RV,RH,↓reduceIte,reduceEqDiff,reduceCtorEq,if_pos,List.append_nil,ty1,tyLint,tyint,hxr,hrl]
   refine hK _ _ ?_;clear hK K
   refine W.cond rfl (fun h2 => ?_) (fun h2 => ?_)
   ·try simp only [RL] at h2
    exact absurd h2 (by simp)
   ·try simp only [RL] at h2
    refine W.skip ?_
    refine XbN ?_
    refine xn ?_
    refine W.k fun K hK => ?_
    simp (disch := omega) only [↓RU,RV,RH,↓reduceIte,reduceEqDiff,reduceCtorEq,if_pos,w64,tyint]
    refine hK _ _ ?_;clear hK K
    refine xn ?_
    refine ⟨l.length - (i + 1),by omega,0,i + 1,rfl,by omega,?_,rfl⟩
    simp [Env.put,Env.of]
  ·try simp only [RL] at h1
   obtain rfl : i = l.length := by omega
   refine W.exit ?_
   refine xe ?_
   refine xe ?_
   refine XBlock.hit ?_
   refine xn ?_
   refine W.r fun K hK => ?_
   simp (disch := omega) only [↓RU,RV,RH,↓reduceIte,reduceEqDiff,reduceCtorEq,if_pos]
   refine hK _ _ ?_;clear hK K
   refine W.ret ?_
   refine Br rfl ?_
   rfl
theorem heldIntSS_pc {k0 : Int} {m : Nat} (hn : m ≤ 1048576) (hk0 : 0 ≤ k0) (hk1 : k0 ≤ 1048576) : PC Tryz.prog 39 [.sl ((mkR k0 m).map eInts) m,.int .i64 k0] (.int .i64 (k0 + 2 * m)) true := by
 have hml := mkR_len (k0 := k0) (n := m)
 refine PC.of ⟨Tryz.func39,by kernel_rfl,rfl,by kernel_rfl⟩ tabOk mixed (by show 2 ≤ Tryz.f39.ntmps; decide) ?_
 refine W.r fun K hK => ?_
 simp (disch := omega) only [↓RU,RV,RH,↓reduceIte,reduceEqDiff,reduceCtorEq,if_pos]
 refine hK _ _ ?_;clear hK K
 refine W.seq ?_
 refine W.r fun K hK => ?_
 simp (disch := omega) only [↓RU,RV,RH,↓reduceIte,reduceEqDiff,reduceCtorEq,if_pos]
 refine hK _ _ ?_;clear hK K
 refine W.block ?_
 refine W.loop [0,1,5] (fun n vs S => ∃ i : Nat,n = m - i ∧ i ≤ m ∧ vs = [.sl ((mkR k0 m).map eInts) m,.int .i64 (k0 + 2 * i),.int .i64 i] ∧ S = ⟨[],0⟩) (m) ?_ ?_
 ·refine ⟨0,0,rfl,Nat.zero_le _,?_,rfl⟩
  simp [Env.put,Env.of,argEnv]
 rintro n vs S - ⟨i,rfl,h_i,rfl,rfl⟩
 refine W.seq ?_
 refine W.r fun K hK => ?_
 simp (disch := omega) only [↓RU,RV,RH,↓reduceIte,reduceEqDiff,reduceCtorEq,if_pos,w64,ty1,tyLint,tyint]
 refine hK _ _ ?_;clear hK K
 refine W.cond rfl (fun h => ?_) (fun h => ?_)
 ·try simp only [RL] at h
  have hx := mkR_at (k0 := k0) (show i < m by omega)
  have h2l : ([k0 + 2 * (i : Int),k0 + 2 * i + 1] : List Int).length = 2 := rfl
  refine W.skip ?_
  refine xn ?_
  refine W.seq ?_
  refine W.block ?_
  refine W.r fun K hK => ?_
  simp (disch := omega) only [↓RU,RV,RH,↓reduceIte,reduceEqDiff,reduceCtorEq,if_pos,List.append_nil,ty1,tyLint,tyint,hx,hml]
  refine CallR.pc (heldIntS_pc (l := [k0 + 2 * (i : Int),k0 + 2 * i + 1]) (k0 := k0 + 2 * i) (by simp) (by omega) (by omega) (fun j hj => by match j,hj with | 0,_ => simp | 1,_ => simp)) rfl (.inl rfl) ?_
  simp (disch := omega) only [↓RU,RV,RH,↓reduceIte,reduceEqDiff,reduceCtorEq,if_pos,List.append_nil,ty1,tyLint,tyint,hx,hml]
  refine hK _ _ ?_;clear hK K
  refine W.r fun K hK => ?_
  simp (disch := omega) only [↓RU,RV,RH,↓reduceIte,reduceEqDiff,reduceCtorEq,if_pos,w64,tyint]
  refine hK _ _ ?_;clear hK K
  refine W.cond rfl (fun h1 => ?_) (fun h1 => ?_)
  ·try simp only [RL] at h1
   exact absurd h1 (by simp; omega)
  ·try simp only [RL] at h1
   refine W.skip ?_
   refine XbN ?_
   refine xn ?_
   refine W.k fun K hK => ?_
   simp (disch := omega) only [↓RU,RV,RH,↓reduceIte,reduceEqDiff,reduceCtorEq,if_pos,w64,tyint]
   refine hK _ _ ?_;clear hK K
   refine xn ?_
   refine ⟨m - (i + 1),by omega,0,i + 1,rfl,by omega,?_,rfl⟩
   simp [Env.put,Env.of]; omega
 ·try simp only [RL] at h
  obtain rfl : i = m := by omega
  refine W.exit ?_
  refine xe ?_
  refine xe ?_
  refine XBlock.hit ?_
  refine xn ?_
  refine W.r fun K hK => ?_
  simp (disch := omega) only [↓RU,RV,RH,↓reduceIte,reduceEqDiff,reduceCtorEq,if_pos]
  refine hK _ _ ?_;clear hK K
  refine W.ret ?_
  refine Br rfl ?_
  rfl
theorem markIntSS_ev {F : List Ob} {ver vv t : Nat} {l : List Shp} (hl : l.length ≤ 1048576) {k0 : Int} (hk0 : 0 ≤ k0) (hk1 : k0 ≤ 1048576) : Ev Tryz.prog 38 [.loc F.length ver 0 l.length,.int .i64 k0] ⟨F ++ .arr ver 24 1 (lc2 (F.length + 1) vv l.length) :: rowO vv (rowsOf l),t⟩ fun v S => v = .int .i64 (k0 + 2 * l.length) ∧ S = ⟨F ++ .arr ver 24 1 (lc2 (F.length + 1) vv l.length) :: rowO vv (mkR k0 l.length),t⟩ := by
 refine Ev.of ⟨Tryz.func38,by kernel_rfl,rfl,by kernel_rfl⟩ tabOk mixed (by show 2 ≤ Tryz.f38.ntmps; decide) ?_
 refine W.r fun K hK => ?_
 simp (disch := omega) only [↓RU,RV,RH,↓reduceIte,reduceEqDiff,reduceCtorEq,if_pos,↓RS,RG,reduceAdd,reduceMul,reduceLeDiff,gF,setF]
 refine hK _ _ ?_;clear hK K
 refine W.seq ?_
 refine W.r fun K hK => ?_
 simp (disch := omega) only [↓RU,RV,RH,↓reduceIte,reduceEqDiff,reduceCtorEq,if_pos,↓RS,RG,reduceAdd,reduceMul,reduceLeDiff,gF,setF]
 refine hK _ _ ?_;clear hK K
 refine W.block ?_
 refine W.loop [0,1,5] (fun n vs S => ∃ i : Nat,n = l.length - i ∧ i ≤ l.length ∧ vs = [.loc F.length ver 0 l.length,.int .i64 (k0 + 2 * i),.int .i64 i] ∧ S = ⟨F ++ .arr ver 24 1 (lc2 (F.length + 1) vv l.length) :: rowO vv (mkR k0 i ++ (rowsOf l).drop i),t⟩) l.length ?_ ?_
 ·refine ⟨_,0,rfl,by omega,?_,take_all_of (by simp [mkR])⟩
  simp [Env.put,Env.of,argEnv]
 rintro n vs S - ⟨i,rfl,h_i,rfl,rfl⟩
 refine W.seq ?_
 refine W.r fun K hK => ?_
 simp (disch := omega) only [↓RU,RV,RH,↓reduceIte,reduceEqDiff,reduceCtorEq,if_pos,w64,↓RS,RG,reduceAdd,reduceMul,reduceLeDiff,ty1,tyLint,tyint,gF,setF]
 refine hK _ _ ?_;clear hK K
 refine W.cond rfl (fun h => ?_) (fun h => ?_)
 ·try simp only [RL] at h
  obtain ⟨x,hx,-⟩ := get_of (show i < l.length by omega)
  have hxr := rowsOf_at hx
  obtain ⟨F2,hF2⟩ : ∃ F2 : List Ob,F2 = F ++ .arr ver 24 1 (lc2 (F.length + 1) vv l.length) :: rowO vv (mkR k0 i) := ⟨_,rfl⟩
  have hFl : F2.length = F.length + 1 + i := by rw [hF2,List.length_append,List.length_cons,rowO_len,mkR_len]; omega
  have hlc : (lc2 (F.length + 1) vv l.length)[i]? = some (.loc F2.length vv 0 [x.1,x.2].length) := by rw [lc2_at (by omega),hFl]; rfl
  have hS : F ++ .arr ver 24 1 (lc2 (F.length + 1) vv l.length) :: rowO vv (mkR k0 i ++ (rowsOf l).drop i) = F2 ++ .arr vv 3 1 ([x.1,x.2].map (.int .i64)) :: rowO vv ((rowsOf l).drop (i + 1)) := by
   obtain ⟨hlt,hget⟩ := List.getElem?_eq_some_iff.1 hxr
   rw [hF2,List.drop_eq_getElem_cons hlt,hget,rowO_app]; simp [rowO]
  have hll := lc2_len (b := F.length + 1) (v := vv) (n := l.length)
  refine W.skip ?_
  refine xn ?_
  refine W.seq ?_
  refine W.block ?_
  refine W.k fun K hK => ?_
  simp (disch := omega) only [↓RU,RV,RH,↓reduceIte,reduceEqDiff,reduceCtorEq,if_pos,List.append_nil,↓RS,RG,reduceAdd,reduceMul,reduceLeDiff,ty1,tyLint,tyint,gF,setF,hlc,hll]
  rw [hS]
  refine CallR.ev (markIntS_ev (F := F2) (R := rowO vv ((rowsOf l).drop (i + 1))) (l := [x.1,x.2]) (by simp) (k0 := k0 + 2 * i) (by omega) (by omega)) ?_
  rintro _ _ ⟨rfl,ts,hts,htd,rfl⟩
  have htt := two_is hts htd
  simp (disch := omega) only [↓RU,RV,RH,↓reduceIte,reduceEqDiff,reduceCtorEq,if_pos,List.append_nil,↓RS,RG,reduceAdd,reduceMul,reduceLeDiff,ty1,tyLint,tyint,gF,setF,hlc,hll]
  refine hK _ _ ?_;clear hK K
  refine XbN ?_
  refine xn ?_
  refine W.k fun K hK => ?_
  simp (disch := omega) only [↓RU,RV,RH,↓reduceIte,reduceEqDiff,reduceCtorEq,if_pos,w64,↓RS,RG,reduceAdd,reduceMul,reduceLeDiff,tyint,gF,setF]
  refine hK _ _ ?_;clear hK K
  refine xn ?_
  refine ⟨l.length - (i + 1),by omega,_,i + 1,rfl,by omega,?_,take_all_of (by rw [htt,hF2,mkR_succ]; simp [rowO])⟩
  simp [Env.put,Env.of]; omega
 ·try simp only [RL] at h
  obtain rfl : i = l.length := by omega
  refine W.exit ?_
  refine xe ?_
  refine xe ?_
  refine XBlock.hit ?_
  refine xn ?_
  refine W.r fun K hK => ?_
  simp (disch := omega) only [↓RU,RV,RH,↓reduceIte,reduceEqDiff,reduceCtorEq,if_pos,↓RS,RG,reduceAdd,reduceMul,reduceLeDiff,gF,setF]
  refine hK _ _ ?_;clear hK K
  refine W.ret ?_
  refine Br rfl ?_
  rw [List.drop_of_length_le (by rw [rowsOf_len]; omega),List.append_nil]
  exact ⟨_,rfl,take_all⟩
theorem markIntSS0_pc (k0 : Int) : PC Tryz.prog 38 [.sl [] 0,.int .i64 k0] (.int .i64 k0) true := by
 refine PC.of ⟨Tryz.func38,by kernel_rfl,rfl,by kernel_rfl⟩ tabOk mixed (by show 2 ≤ Tryz.f38.ntmps; decide) ?_
 refine W.r fun K hK => ?_
 simp (disch := omega) only [↓RU,RV,RH,↓reduceIte,reduceEqDiff,reduceCtorEq,if_pos,↓RS,RG,reduceAdd,reduceMul,reduceLeDiff]
 refine hK _ _ ?_;clear hK K
 refine W.seq ?_
 refine W.r fun K hK => ?_
 simp (disch := omega) only [↓RU,RV,RH,↓reduceIte,reduceEqDiff,reduceCtorEq,if_pos,↓RS,RG,reduceAdd,reduceMul,reduceLeDiff]
 refine hK _ _ ?_;clear hK K
 refine W.block ?_
 refine W.loop [0,1,5] (fun n vs S => n = 0 ∧ vs = [.sl [] 0,.int .i64 k0,.int .i64 0] ∧ S = ⟨[],0⟩) 0 ?_ ?_
 ·refine ⟨0,rfl,?_,rfl⟩
  simp [Env.put,Env.of,argEnv]
 rintro n vs S - ⟨rfl,rfl,rfl⟩
 refine W.seq ?_
 refine W.r fun K hK => ?_
 simp (disch := omega) only [↓RU,RV,RH,↓reduceIte,reduceEqDiff,reduceCtorEq,if_pos,w64,↓RS,RG,reduceAdd,reduceMul,reduceLeDiff,ty1,tyLint,tyint]
 refine hK _ _ ?_;clear hK K
 refine W.cond rfl (fun h => ?_) (fun h => ?_)
 ·try simp only [RL] at h
  exact absurd h (by simp)
 ·try simp only [RL] at h
  refine W.exit ?_
  refine xe ?_
  refine xe ?_
  refine XBlock.hit ?_
  refine xn ?_
  refine W.r fun K hK => ?_
  simp (disch := omega) only [↓RU,RV,RH,↓reduceIte,reduceEqDiff,reduceCtorEq,if_pos,↓RS,RG,reduceAdd,reduceMul,reduceLeDiff]
  refine hK _ _ ?_;clear hK K
  refine W.ret ?_
  refine Br rfl ?_
  rfl
theorem rowO_at {v t : Nat} {rows : List (List Int)} {a b c d : Ob} : ∀ (j : Nat) r,rows[j]? = some r → (⟨a :: b :: c :: d :: rowO v rows,t⟩ : Store).obs[4 + j]? = some (.arr v 3 1 (r.map (.int .i64))) := fun j r h => by
 show (a :: b :: c :: d :: rowO v rows)[4 + j]? = _
 rw [show 4 + j = j + 1 + 1 + 1 + 1 by omega]
 simp [rowO,h]
theorem shapeAllLaw_no {p : List Txt} (hl : p.length ≤ 9223372036854775807) (hr : ∀ r ∈ p,r.length ≤ 9223372036854775807) (ws ht : List Int) (hv : givenI p ws ht = false) : PC Tryz.prog 8 [eStrs p,eInts ws,eInts ht] (.bool true) true := by
 refine PC.of ⟨Tryz.func8,by kernel_rfl,rfl,by kernel_rfl⟩ tabOk mixed (by show 3 ≤ Tryz.f8.ntmps; decide) ?_
 refine W.r fun K hK => ?_
 simp (disch := omega) only [↓RU,RV,RH,↓reduceIte,reduceEqDiff,reduceCtorEq,if_pos,↓RS,RG,reduceAdd,reduceMul,reduceLeDiff]
 refine hK _ _ ?_;clear hK K
 refine W.seq ?_
 refine W.r fun K hK => ?_
 simp (disch := omega) only [↓RU,RV,RH,↓reduceIte,reduceEqDiff,reduceCtorEq,if_pos,w64,↓RS,RG,reduceAdd,reduceMul,reduceLeDiff,tyLint,tyint]
 refine hK _ _ ?_;clear hK K
 refine W.cond rfl (fun h0 => ?_) (fun h0 => ?_)
 ·try simp only [RL] at h0
  refine W.r fun K hK => ?_
  simp (disch := omega) only [↓RU,RV,RH,↓reduceIte,reduceEqDiff,reduceCtorEq,if_pos,↓RS,RG,reduceAdd,reduceMul,reduceLeDiff]
  refine hK _ _ ?_;clear hK K
  refine W.ret ?_
  refine XThen.ret ?_
  refine Br rfl ?_
  rfl
 ·try simp only [RL] at h0
  refine W.skip ?_
  refine xn ?_
  refine W.seq ?_
  refine W.r fun K hK => ?_
  simp (disch := omega) only [↓RU,RV,RH,↓reduceIte,reduceEqDiff,reduceCtorEq,if_pos,w64,↓RS,RG,reduceAdd,reduceMul,reduceLeDiff,tyLint,tyint]
  refine hK _ _ ?_;clear hK K
  refine W.cond rfl (fun h2 => ?_) (fun h2 => ?_)
  ·try simp only [RL] at h2
   refine W.r fun K hK => ?_
   simp (disch := omega) only [↓RU,RV,RH,↓reduceIte,reduceEqDiff,reduceCtorEq,if_pos,↓RS,RG,reduceAdd,reduceMul,reduceLeDiff]
   refine hK _ _ ?_;clear hK K
   refine W.ret ?_
   refine XThen.ret ?_
   refine Br rfl ?_
   rfl
  ·try simp only [RL] at h2
   have hwl : ws.length ≤ 1048576 := by omega
   have hhl : ht.length ≤ 1048576 := by omega
   have hbn := bestV_no hv
   refine W.skip ?_
   refine xn ?_
   refine W.r fun K hK => ?_
   simp (disch := omega) only [↓RU,RV,RH,↓reduceIte,reduceEqDiff,reduceCtorEq,if_pos,↓RS,RG,reduceAdd,reduceMul,reduceLeDiff]
   refine hK _ _ ?_;clear hK K
   refine W.r fun K hK => ?_
   simp (disch := omega) only [↓RU,RV,RH,↓reduceIte,reduceEqDiff,reduceCtorEq,if_pos,List.append_nil,↓RS,RG,reduceAdd,reduceMul,reduceLeDiff]
   refine CallR.pc (szStringS_pc hl hr (left := 1048576) (by omega) (by omega)) rfl (.inl rfl) ?_
   simp (disch := omega) only [↓RU,RV,RH,↓reduceIte,reduceEqDiff,reduceCtorEq,if_pos,List.append_nil,↓RS,RG,reduceAdd,reduceMul,reduceLeDiff]
   refine hK _ _ ?_;clear hK K
   refine W.seq ?_
   refine W.r fun K hK => ?_
   simp (disch := omega) only [↓RU,RV,RH,↓reduceIte,reduceEqDiff,reduceCtorEq,if_pos,w64,↓RS,RG,reduceAdd,reduceMul,reduceLeDiff,tyint]
   refine hK _ _ ?_;clear hK K
   refine W.cond rfl (fun h3 => ?_) (fun h3 => ?_)
   ·try simp only [RL] at h3
    refine W.r fun K hK => ?_
    simp (disch := omega) only [↓RU,RV,RH,↓reduceIte,reduceEqDiff,reduceCtorEq,if_pos,↓RS,RG,reduceAdd,reduceMul,reduceLeDiff]
    refine hK _ _ ?_;clear hK K
    refine W.ret ?_
    refine XThen.ret ?_
    refine Br rfl ?_
    rfl
   ·try simp only [RL] at h3
    have hs : Sm p := sz_sm (Int.le_refl _) (by omega)
    have hs1 := hs.1
    refine W.skip ?_
    refine xn ?_
    refine W.r fun K hK => ?_
    simp (disch := omega) only [↓RU,RV,RH,↓reduceIte,reduceEqDiff,reduceCtorEq,if_pos,List.append_nil,↓RS,RG,reduceAdd,reduceMul,reduceLeDiff]
    refine CallR.pc (toStringS_pc hs1) rfl (.inl rfl) ?_
    simp (disch := omega) only [↓RU,RV,RH,↓reduceIte,reduceEqDiff,reduceCtorEq,if_pos,List.append_nil,↓RS,RG,reduceAdd,reduceMul,reduceLeDiff]
    refine CallR.pc (toIntS_pc hwl) rfl (.inl rfl) ?_
    simp (disch := omega) only [↓RU,RV,RH,↓reduceIte,reduceEqDiff,reduceCtorEq,if_pos,List.append_nil,↓RS,RG,reduceAdd,reduceMul,reduceLeDiff]
    refine CallR.pc (toIntS_pc hhl) rfl (.inl rfl) ?_
    simp (disch := omega) only [↓RU,RV,RH,↓reduceIte,reduceEqDiff,reduceCtorEq,if_pos,List.append_nil,↓RS,RG,reduceAdd,reduceMul,reduceLeDiff]
    refine CallR.pc (sShapeAll_pc hs hwl hhl) rfl (.inr rfl) ?_
    simp (disch := omega) only [↓RU,RV,RH,↓reduceIte,reduceEqDiff,reduceCtorEq,if_pos,List.append_nil,↓RS,RG,reduceAdd,reduceMul,reduceLeDiff,hv,hbn]
    refine hK _ _ ?_;clear hK K
    refine W.r fun K hK => ?_
    simp (disch := omega) only [↓RU,RV,RH,↓reduceIte,reduceEqDiff,reduceCtorEq,if_pos,List.append_nil,↓RS,RG,reduceAdd,reduceMul,reduceLeDiff]
    refine CallR.pn (toStringS_pn hs1) rfl (.inl rfl) ?_
    simp (disch := omega) only [↓RU,RV,RH,↓reduceIte,reduceEqDiff,reduceCtorEq,if_pos,List.append_nil,↓RS,RG,reduceAdd,reduceMul,reduceLeDiff,RN]
    refine hK _ _ ?_;clear hK K
    refine W.r fun K hK => ?_
    simp (disch := omega) only [↓RU,RV,RH,↓reduceIte,reduceEqDiff,reduceCtorEq,if_pos,List.append_nil,↓RS,RG,reduceAdd,reduceMul,reduceLeDiff]
    refine CallR.pn (toIntS_pn hwl) rfl (.inl rfl) ?_
    simp (disch := omega) only [↓RU,RV,RH,↓reduceIte,reduceEqDiff,reduceCtorEq,if_pos,List.append_nil,↓RS,RG,reduceAdd,reduceMul,reduceLeDiff,RN]
    refine hK _ _ ?_;clear hK K
    refine W.r fun K hK => ?_
    simp (disch := omega) only [↓RU,RV,RH,↓reduceIte,reduceEqDiff,reduceCtorEq,if_pos,List.append_nil,↓RS,RG,reduceAdd,reduceMul,reduceLeDiff]
    refine CallR.pn (toIntS_pn hhl) rfl (.inl rfl) ?_
    simp (disch := omega) only [↓RU,RV,RH,↓reduceIte,reduceEqDiff,reduceCtorEq,if_pos,List.append_nil,↓RS,RG,reduceAdd,reduceMul,reduceLeDiff,RN]
    refine hK _ _ ?_;clear hK K
    refine W.r fun K hK => ?_
    simp (disch := omega) only [↓RU,RV,RH,↓reduceIte,reduceEqDiff,reduceCtorEq,if_pos,List.append_nil,↓RS,RG,reduceAdd,reduceMul,reduceLeDiff]
    refine CallR.pc (shapeAll_no hs hwl hhl hv) (mapM_one (reify_loc (k := 9) rfl (by simp) (mapM_str _)) (mapM_one (reify_loc (k := 9) rfl (by simp) (mapM_int _)) (mapM_one (reify_loc (k := 9) rfl (by simp) (mapM_int _)) rfl))) (.inl rfl) ?_
    simp (disch := omega) only [↓RU,RV,RH,↓reduceIte,reduceEqDiff,reduceCtorEq,if_pos,List.append_nil,↓RS,RG,reduceAdd,reduceMul,reduceLeDiff]
    refine hK _ _ ?_;clear hK K
    refine W.seq ?_
    refine W.r fun K hK => ?_
    simp (disch := omega) only [↓RU,RV,RH,↓reduceIte,reduceEqDiff,reduceCtorEq,if_pos,List.append_nil,w64,↓RS,RG,reduceAdd,reduceMul,reduceLeDiff,tybool]
    refine CallR.pc (eqIntSS_pc (l := []) (by simp)) rfl (.inl rfl) ?_
    simp (disch := omega) only [↓RU,RV,RH,↓reduceIte,reduceEqDiff,reduceCtorEq,if_pos,List.append_nil,w64,↓RS,RG,reduceAdd,reduceMul,reduceLeDiff,tybool,decide_true,Bool.not_true,bne_self_eq_false]
    refine hK _ _ ?_;clear hK K
    refine W.cond rfl (fun h4 => ?_) (fun h4 => ?_)
    ·try simp only [RL] at h4
     first | (exfalso; omega) | exact absurd h4 (by simp)
    ·try simp only [RL] at h4
     refine W.skip ?_
     refine xn ?_
     refine W.seq ?_
     refine W.r fun K hK => ?_
     simp (disch := omega) only [↓RU,RV,RH,↓reduceIte,reduceEqDiff,reduceCtorEq,if_pos,List.append_nil,↓RS,RG,reduceAdd,reduceMul,reduceLeDiff]
     refine CallR.pc (toStringS_pc hs1) rfl (.inl rfl) ?_
     simp (disch := omega) only [↓RU,RV,RH,↓reduceIte,reduceEqDiff,reduceCtorEq,if_pos,List.append_nil,↓RS,RG,reduceAdd,reduceMul,reduceLeDiff]
     refine CallR.pc (eqStringS_pc (p := p) (q := p) (by omega) (by omega)) (mapM_one (reify_loc (k := 9) rfl (by simp) (mapM_str _)) (mapM_one rfl rfl)) (.inl rfl) ?_
     simp (disch := omega) only [↓RU,RV,RH,↓reduceIte,reduceEqDiff,reduceCtorEq,if_pos,List.append_nil,↓RS,RG,reduceAdd,reduceMul,reduceLeDiff]
     refine hK _ _ ?_;clear hK K
     refine W.cond rfl (fun h5 => ?_) (fun h5 => ?_)
     ·try simp only [RL] at h5
      first | (exfalso; omega) | exact absurd h5 (by simp)
     ·try simp only [RL] at h5
      refine W.skip ?_
      refine xn ?_
      refine W.seq ?_
      refine W.r fun K hK => ?_
      simp (disch := omega) only [↓RU,RV,RH,↓reduceIte,reduceEqDiff,reduceCtorEq,if_pos,List.append_nil,↓RS,RG,reduceAdd,reduceMul,reduceLeDiff]
      refine CallR.pc (toIntS_pc hwl) rfl (.inl rfl) ?_
      simp (disch := omega) only [↓RU,RV,RH,↓reduceIte,reduceEqDiff,reduceCtorEq,if_pos,List.append_nil,↓RS,RG,reduceAdd,reduceMul,reduceLeDiff]
      refine CallR.pc (eqIntS_pc (p := ws) (q := ws) (by omega) (by omega)) (mapM_one (reify_loc (k := 9) rfl (by simp) (mapM_int _)) (mapM_one rfl rfl)) (.inl rfl) ?_
      simp (disch := omega) only [↓RU,RV,RH,↓reduceIte,reduceEqDiff,reduceCtorEq,if_pos,List.append_nil,↓RS,RG,reduceAdd,reduceMul,reduceLeDiff]
      refine hK _ _ ?_;clear hK K
      refine W.cond rfl (fun h6 => ?_) (fun h6 => ?_)
      ·try simp only [RL] at h6
       first | (exfalso; omega) | exact absurd h6 (by simp)
      ·try simp only [RL] at h6
       refine W.skip ?_
       refine xn ?_
       refine W.seq ?_
       refine W.r fun K hK => ?_
       simp (disch := omega) only [↓RU,RV,RH,↓reduceIte,reduceEqDiff,reduceCtorEq,if_pos,List.append_nil,↓RS,RG,reduceAdd,reduceMul,reduceLeDiff]
       refine CallR.pc (toIntS_pc hhl) rfl (.inl rfl) ?_
       simp (disch := omega) only [↓RU,RV,RH,↓reduceIte,reduceEqDiff,reduceCtorEq,if_pos,List.append_nil,↓RS,RG,reduceAdd,reduceMul,reduceLeDiff]
       refine CallR.pc (eqIntS_pc (p := ht) (q := ht) (by omega) (by omega)) (mapM_one (reify_loc (k := 9) rfl (by simp) (mapM_int _)) (mapM_one rfl rfl)) (.inl rfl) ?_
       simp (disch := omega) only [↓RU,RV,RH,↓reduceIte,reduceEqDiff,reduceCtorEq,if_pos,List.append_nil,↓RS,RG,reduceAdd,reduceMul,reduceLeDiff]
       refine hK _ _ ?_;clear hK K
       refine W.cond rfl (fun h7 => ?_) (fun h7 => ?_)
       ·try simp only [RL] at h7
        first | (exfalso; omega) | exact absurd h7 (by simp)
       ·try simp only [RL] at h7
        refine W.skip ?_
        refine xn ?_
        refine W.r fun K hK => ?_
        simp (disch := omega) only [↓RU,RV,RH,↓reduceIte,reduceEqDiff,reduceCtorEq,if_pos,↓RS,RG,reduceAdd,reduceMul,reduceLeDiff]
        refine hK _ _ ?_;clear hK K
        refine W.r fun K hK => ?_
        simp (disch := omega) only [↓RU,RV,RH,↓reduceIte,reduceEqDiff,reduceCtorEq,if_pos,List.append_nil,↓RS,RG,reduceAdd,reduceMul,reduceLeDiff]
        refine CallR.ev (markStringS_ev (F := []) (R := _) (l := p) hs1 (k0 := 1) (by omega) (by omega)) ?_
        rintro _ _ ⟨rfl,t1,ht1,rfl⟩
        simp (disch := omega) only [↓RU,RV,RH,↓reduceIte,reduceEqDiff,reduceCtorEq,if_pos,List.append_nil,↓RS,RG,reduceAdd,reduceMul,reduceLeDiff,List.nil_append,List.cons_append,List.append_nil]
        refine hK _ _ ?_;clear hK K
        refine W.r fun K hK => ?_
        simp (disch := omega) only [↓RU,RV,RH,↓reduceIte,reduceEqDiff,reduceCtorEq,if_pos,List.append_nil,↓RS,RG,reduceAdd,reduceMul,reduceLeDiff]
        refine CallR.ev (markIntS_ev (F := [_]) (R := _) (l := ws) hwl (k0 := 1 + (p.length : Int)) (by omega) (by omega)) ?_
        rintro _ _ ⟨rfl,t2,ht2,hd2,rfl⟩
        simp (disch := omega) only [↓RU,RV,RH,↓reduceIte,reduceEqDiff,reduceCtorEq,if_pos,List.append_nil,↓RS,RG,reduceAdd,reduceMul,reduceLeDiff,List.nil_append,List.cons_append,List.append_nil]
        refine hK _ _ ?_;clear hK K
        refine W.r fun K hK => ?_
        simp (disch := omega) only [↓RU,RV,RH,↓reduceIte,reduceEqDiff,reduceCtorEq,if_pos,List.append_nil,↓RS,RG,reduceAdd,reduceMul,reduceLeDiff]
        refine CallR.ev (markIntS_ev (F := [_,_]) (R := _) (l := ht) hhl (k0 := 1 + (p.length : Int) + (ws.length : Int)) (by omega) (by omega)) ?_
        rintro _ _ ⟨rfl,t3,ht3,hd3,rfl⟩
        simp (disch := omega) only [↓RU,RV,RH,↓reduceIte,reduceEqDiff,reduceCtorEq,if_pos,List.append_nil,↓RS,RG,reduceAdd,reduceMul,reduceLeDiff,List.nil_append,List.cons_append,List.append_nil]
        refine hK _ _ ?_;clear hK K
        refine W.seq ?_
        refine W.r fun K hK => ?_
        have hk0 : decide ((1 + (p.length : Int) + (ws.length : Int) + (ht.length : Int)) < 0) = false := by simp; omega
        simp (disch := omega) only [↓RU,RV,RH,↓reduceIte,reduceEqDiff,reduceCtorEq,if_pos,w64,List.append_nil,↓RS,RG,reduceAdd,reduceMul,reduceLeDiff,tybool,tyint,hk0]
        refine CallR.pc (eqIntSS_pc (l := []) (by simp)) rfl (.inl rfl) ?_
        simp (disch := omega) only [↓RU,RV,RH,↓reduceIte,reduceEqDiff,reduceCtorEq,if_pos,w64,List.append_nil,↓RS,RG,reduceAdd,reduceMul,reduceLeDiff,tybool,tyint,hk0,decide_true,Bool.not_true,bne_self_eq_false]
        refine hK _ _ ?_;clear hK K
        refine W.cond rfl (fun h8 => ?_) (fun h8 => ?_)
        ·try simp only [RL] at h8
         first | (exfalso; omega) | exact absurd h8 (by simp)
        ·try simp only [RL] at h8
         refine W.skip ?_
         refine xn ?_
         refine W.r fun K hK => ?_
         simp (disch := omega) only [↓RU,RV,RH,↓reduceIte,reduceEqDiff,reduceCtorEq,if_pos,↓RS,RG,reduceAdd,reduceMul,reduceLeDiff]
         refine hK _ _ ?_;clear hK K
         refine W.r fun K hK => ?_
         simp (disch := omega) only [↓RU,RV,RH,↓reduceIte,reduceEqDiff,reduceCtorEq,if_pos,List.append_nil,↓RS,RG,reduceAdd,reduceMul,reduceLeDiff]
         refine CallR.pc (markIntSS0_pc 1) rfl (.inl rfl) ?_
         simp (disch := omega) only [↓RU,RV,RH,↓reduceIte,reduceEqDiff,reduceCtorEq,if_pos,List.append_nil,↓RS,RG,reduceAdd,reduceMul,reduceLeDiff]
         refine hK _ _ ?_;clear hK K
         refine W.r fun K hK => ?_
         simp (disch := omega) only [↓RU,RV,RH,↓reduceIte,reduceEqDiff,reduceCtorEq,if_pos,↓RS,RG,reduceAdd,reduceMul,reduceLeDiff]
         refine hK _ _ ?_;clear hK K
         refine W.r fun K hK => ?_
         simp (disch := omega) only [↓RU,RV,RH,↓reduceIte,reduceEqDiff,reduceCtorEq,if_pos,List.append_nil,↓RS,RG,reduceAdd,reduceMul,reduceLeDiff]
         refine CallR.pc (heldIntSS_pc (k0 := 1) (m := 0) (by omega) (by omega) (by omega)) rfl (.inl rfl) ?_
         simp (disch := omega) only [↓RU,RV,RH,↓reduceIte,reduceEqDiff,reduceCtorEq,if_pos,List.append_nil,↓RS,RG,reduceAdd,reduceMul,reduceLeDiff]
         refine hK _ _ ?_;clear hK K
         refine W.seq ?_
         refine W.r fun K hK => ?_
         simp (disch := omega) only [↓RU,RV,RH,↓reduceIte,reduceEqDiff,reduceCtorEq,if_pos,w64,↓RS,RG,reduceAdd,reduceMul,reduceLeDiff,tyint]
         refine hK _ _ ?_;clear hK K
         refine W.cond rfl (fun h9 => ?_) (fun h9 => ?_)
         ·try simp only [RL] at h9
          first | (exfalso; omega) | exact absurd h9 (by simp)
         ·try simp only [RL] at h9
          refine W.skip ?_
          refine xn ?_
          refine W.seq ?_
          refine W.r fun K hK => ?_
          simp (disch := omega) only [↓RU,RV,RH,↓reduceIte,reduceEqDiff,reduceCtorEq,if_pos,w64,↓RS,RG,reduceAdd,reduceMul,reduceLeDiff,tyint]
          refine hK _ _ ?_;clear hK K
          refine W.cond rfl (fun h10 => ?_) (fun h10 => ?_)
          ·try simp only [RL] at h10
           first | (exfalso; omega) | exact absurd h10 (by simp)
          ·try simp only [RL] at h10
           refine W.skip ?_
           refine xn ?_
           refine W.r fun K hK => ?_
           simp (disch := omega) only [↓RU,RV,RH,↓reduceIte,reduceEqDiff,reduceCtorEq,if_pos,List.append_nil,↓RS,RG,reduceAdd,reduceMul,reduceLeDiff]
           refine CallR.pc (toStringS_pc hs1) rfl (.inl rfl) ?_
           simp (disch := omega) only [↓RU,RV,RH,↓reduceIte,reduceEqDiff,reduceCtorEq,if_pos,List.append_nil,↓RS,RG,reduceAdd,reduceMul,reduceLeDiff]
           refine CallR.pc (toIntS_pc hwl) rfl (.inl rfl) ?_
           simp (disch := omega) only [↓RU,RV,RH,↓reduceIte,reduceEqDiff,reduceCtorEq,if_pos,List.append_nil,↓RS,RG,reduceAdd,reduceMul,reduceLeDiff]
           refine CallR.pc (toIntS_pc hhl) rfl (.inl rfl) ?_
           simp (disch := omega) only [↓RU,RV,RH,↓reduceIte,reduceEqDiff,reduceCtorEq,if_pos,List.append_nil,↓RS,RG,reduceAdd,reduceMul,reduceLeDiff]
           refine CallR.pc (shapeAll_pc hs hwl hhl) rfl (.inr rfl) ?_
           simp (disch := omega) only [↓RU,RV,RH,↓reduceIte,reduceEqDiff,reduceCtorEq,if_pos,List.append_nil,↓RS,RG,reduceAdd,reduceMul,reduceLeDiff,hv,hbn]
           refine hK _ _ ?_;clear hK K
           refine W.seq ?_
           refine W.r fun K hK => ?_
           simp (disch := omega) only [↓RU,RV,RH,↓reduceIte,reduceEqDiff,reduceCtorEq,if_pos,List.append_nil,w64,↓RS,RG,reduceAdd,reduceMul,reduceLeDiff,tybool]
           refine CallR.pc (eqIntSS_pc (l := []) (by simp)) rfl (.inl rfl) ?_
           simp (disch := omega) only [↓RU,RV,RH,↓reduceIte,reduceEqDiff,reduceCtorEq,if_pos,List.append_nil,w64,↓RS,RG,reduceAdd,reduceMul,reduceLeDiff,tybool,decide_true,Bool.not_true,bne_self_eq_false]
           refine hK _ _ ?_;clear hK K
           refine W.cond rfl (fun h11 => ?_) (fun h11 => ?_)
           ·try simp only [RL] at h11
            first | (exfalso; omega) | exact absurd h11 (by simp)
           ·try simp only [RL] at h11
            refine W.skip ?_
            refine xn ?_
            refine W.r fun K hK => ?_
            simp (disch := omega) only [↓RU,RV,RH,↓reduceIte,reduceEqDiff,reduceCtorEq,if_pos,↓RS,RG,reduceAdd,reduceMul,reduceLeDiff]
            refine hK _ _ ?_;clear hK K
            refine W.r fun K hK => ?_
            simp (disch := omega) only [↓RU,RV,RH,↓reduceIte,reduceEqDiff,reduceCtorEq,if_pos,List.append_nil,↓RS,RG,reduceAdd,reduceMul,reduceLeDiff]
            refine CallR.pc (heldIntSS_pc (k0 := 1) (m := 0) (by omega) (by omega) (by omega)) rfl (.inl rfl) ?_
            simp (disch := omega) only [↓RU,RV,RH,↓reduceIte,reduceEqDiff,reduceCtorEq,if_pos,List.append_nil,↓RS,RG,reduceAdd,reduceMul,reduceLeDiff]
            refine hK _ _ ?_;clear hK K
            refine W.seq ?_
            refine W.r fun K hK => ?_
            simp (disch := omega) only [↓RU,RV,RH,↓reduceIte,reduceEqDiff,reduceCtorEq,if_pos,w64,↓RS,RG,reduceAdd,reduceMul,reduceLeDiff,tyint]
            refine hK _ _ ?_;clear hK K
            refine W.cond rfl (fun h12 => ?_) (fun h12 => ?_)
            ·try simp only [RL] at h12
             first | (exfalso; omega) | exact absurd h12 (by simp)
            ·try simp only [RL] at h12
             refine W.skip ?_
             refine xn ?_
             refine W.seq ?_
             refine W.r fun K hK => ?_
             simp (disch := omega) only [↓RU,RV,RH,↓reduceIte,reduceEqDiff,reduceCtorEq,if_pos,w64,↓RS,RG,reduceAdd,reduceMul,reduceLeDiff,tyint]
             refine hK _ _ ?_;clear hK K
             refine W.cond rfl (fun h13 => ?_) (fun h13 => ?_)
             ·try simp only [RL] at h13
              first | (exfalso; omega) | exact absurd h13 (by simp)
             ·try simp only [RL] at h13
              refine W.skip ?_
              refine xn ?_
              refine W.r fun K hK => ?_
              simp (disch := omega) only [↓RU,RV,RH,↓reduceIte,reduceEqDiff,reduceCtorEq,if_pos,↓RS,RG,reduceAdd,reduceMul,reduceLeDiff]
              refine hK _ _ ?_;clear hK K
              refine W.ret ?_
              refine Br rfl ?_
              rfl
theorem shapeAllLaw_yes {p : List Txt} (hl : p.length ≤ 9223372036854775807) (hr : ∀ r ∈ p,r.length ≤ 9223372036854775807) (ws ht : List Int) (hv : givenI p ws ht = true) : PC Tryz.prog 8 [eStrs p,eInts ws,eInts ht] (.bool true) true := by
 refine PC.of ⟨Tryz.func8,by kernel_rfl,rfl,by kernel_rfl⟩ tabOk mixed (by show 3 ≤ Tryz.f8.ntmps; decide) ?_
 refine W.r fun K hK => ?_
 simp (disch := omega) only [↓RU,RV,RH,↓reduceIte,reduceEqDiff,reduceCtorEq,if_pos,↓RS,RG,reduceAdd,reduceMul,reduceLeDiff]
 refine hK _ _ ?_;clear hK K
 refine W.seq ?_
 refine W.r fun K hK => ?_
 simp (disch := omega) only [↓RU,RV,RH,↓reduceIte,reduceEqDiff,reduceCtorEq,if_pos,w64,↓RS,RG,reduceAdd,reduceMul,reduceLeDiff,tyLint,tyint]
 refine hK _ _ ?_;clear hK K
 refine W.cond rfl (fun h0 => ?_) (fun h0 => ?_)
 ·try simp only [RL] at h0
  refine W.r fun K hK => ?_
  simp (disch := omega) only [↓RU,RV,RH,↓reduceIte,reduceEqDiff,reduceCtorEq,if_pos,↓RS,RG,reduceAdd,reduceMul,reduceLeDiff]
  refine hK _ _ ?_;clear hK K
  refine W.ret ?_
  refine XThen.ret ?_
  refine Br rfl ?_
  rfl
 ·try simp only [RL] at h0
  refine W.skip ?_
  refine xn ?_
  refine W.seq ?_
  refine W.r fun K hK => ?_
  simp (disch := omega) only [↓RU,RV,RH,↓reduceIte,reduceEqDiff,reduceCtorEq,if_pos,w64,↓RS,RG,reduceAdd,reduceMul,reduceLeDiff,tyLint,tyint]
  refine hK _ _ ?_;clear hK K
  refine W.cond rfl (fun h2 => ?_) (fun h2 => ?_)
  ·try simp only [RL] at h2
   refine W.r fun K hK => ?_
   simp (disch := omega) only [↓RU,RV,RH,↓reduceIte,reduceEqDiff,reduceCtorEq,if_pos,↓RS,RG,reduceAdd,reduceMul,reduceLeDiff]
   refine hK _ _ ?_;clear hK K
   refine W.ret ?_
   refine XThen.ret ?_
   refine Br rfl ?_
   rfl
  ·try simp only [RL] at h2
   have hwl : ws.length ≤ 1048576 := by omega
   have hhl : ht.length ≤ 1048576 := by omega
   have hbl := bestV_len (p := p) (ws := ws) (ht := ht)
   refine W.skip ?_
   refine xn ?_
   refine W.r fun K hK => ?_
   simp (disch := omega) only [↓RU,RV,RH,↓reduceIte,reduceEqDiff,reduceCtorEq,if_pos,↓RS,RG,reduceAdd,reduceMul,reduceLeDiff]
   refine hK _ _ ?_;clear hK K
   refine W.r fun K hK => ?_
   simp (disch := omega) only [↓RU,RV,RH,↓reduceIte,reduceEqDiff,reduceCtorEq,if_pos,List.append_nil,↓RS,RG,reduceAdd,reduceMul,reduceLeDiff]
   refine CallR.pc (szStringS_pc hl hr (left := 1048576) (by omega) (by omega)) rfl (.inl rfl) ?_
   simp (disch := omega) only [↓RU,RV,RH,↓reduceIte,reduceEqDiff,reduceCtorEq,if_pos,List.append_nil,↓RS,RG,reduceAdd,reduceMul,reduceLeDiff]
   refine hK _ _ ?_;clear hK K
   refine W.seq ?_
   refine W.r fun K hK => ?_
   simp (disch := omega) only [↓RU,RV,RH,↓reduceIte,reduceEqDiff,reduceCtorEq,if_pos,w64,↓RS,RG,reduceAdd,reduceMul,reduceLeDiff,tyint]
   refine hK _ _ ?_;clear hK K
   refine W.cond rfl (fun h3 => ?_) (fun h3 => ?_)
   ·try simp only [RL] at h3
    refine W.r fun K hK => ?_
    simp (disch := omega) only [↓RU,RV,RH,↓reduceIte,reduceEqDiff,reduceCtorEq,if_pos,↓RS,RG,reduceAdd,reduceMul,reduceLeDiff]
    refine hK _ _ ?_;clear hK K
    refine W.ret ?_
    refine XThen.ret ?_
    refine Br rfl ?_
    rfl
   ·try simp only [RL] at h3
    have hs : Sm p := sz_sm (Int.le_refl _) (by omega)
    have hs1 := hs.1
    refine W.skip ?_
    refine xn ?_
    refine W.r fun K hK => ?_
    simp (disch := omega) only [↓RU,RV,RH,↓reduceIte,reduceEqDiff,reduceCtorEq,if_pos,List.append_nil,↓RS,RG,reduceAdd,reduceMul,reduceLeDiff]
    refine CallR.pc (toStringS_pc hs1) rfl (.inl rfl) ?_
    simp (disch := omega) only [↓RU,RV,RH,↓reduceIte,reduceEqDiff,reduceCtorEq,if_pos,List.append_nil,↓RS,RG,reduceAdd,reduceMul,reduceLeDiff]
    refine CallR.pc (toIntS_pc hwl) rfl (.inl rfl) ?_
    simp (disch := omega) only [↓RU,RV,RH,↓reduceIte,reduceEqDiff,reduceCtorEq,if_pos,List.append_nil,↓RS,RG,reduceAdd,reduceMul,reduceLeDiff]
    refine CallR.pc (toIntS_pc hhl) rfl (.inl rfl) ?_
    simp (disch := omega) only [↓RU,RV,RH,↓reduceIte,reduceEqDiff,reduceCtorEq,if_pos,List.append_nil,↓RS,RG,reduceAdd,reduceMul,reduceLeDiff]
    refine CallR.pc (sShapeAll_pc hs hwl hhl) rfl (.inr rfl) ?_
    simp (disch := omega) only [↓RU,RV,RH,↓reduceIte,reduceEqDiff,reduceCtorEq,if_pos,List.append_nil,↓RS,RG,reduceAdd,reduceMul,reduceLeDiff,hv]
    refine hK _ _ ?_;clear hK K
    refine W.r fun K hK => ?_
    simp (disch := omega) only [↓RU,RV,RH,↓reduceIte,reduceEqDiff,reduceCtorEq,if_pos,List.append_nil,↓RS,RG,reduceAdd,reduceMul,reduceLeDiff]
    refine CallR.pn (toStringS_pn hs1) rfl (.inl rfl) ?_
    simp (disch := omega) only [↓RU,RV,RH,↓reduceIte,reduceEqDiff,reduceCtorEq,if_pos,List.append_nil,↓RS,RG,reduceAdd,reduceMul,reduceLeDiff,RN]
    refine hK _ _ ?_;clear hK K
    refine W.r fun K hK => ?_
    simp (disch := omega) only [↓RU,RV,RH,↓reduceIte,reduceEqDiff,reduceCtorEq,if_pos,List.append_nil,↓RS,RG,reduceAdd,reduceMul,reduceLeDiff]
    refine CallR.pn (toIntS_pn hwl) rfl (.inl rfl) ?_
    simp (disch := omega) only [↓RU,RV,RH,↓reduceIte,reduceEqDiff,reduceCtorEq,if_pos,List.append_nil,↓RS,RG,reduceAdd,reduceMul,reduceLeDiff,RN]
    refine hK _ _ ?_;clear hK K
    refine W.r fun K hK => ?_
    simp (disch := omega) only [↓RU,RV,RH,↓reduceIte,reduceEqDiff,reduceCtorEq,if_pos,List.append_nil,↓RS,RG,reduceAdd,reduceMul,reduceLeDiff]
    refine CallR.pn (toIntS_pn hhl) rfl (.inl rfl) ?_
    simp (disch := omega) only [↓RU,RV,RH,↓reduceIte,reduceEqDiff,reduceCtorEq,if_pos,List.append_nil,↓RS,RG,reduceAdd,reduceMul,reduceLeDiff,RN]
    refine hK _ _ ?_;clear hK K
    refine W.r fun K hK => ?_
    simp (disch := omega) only [↓RU,RV,RH,↓reduceIte,reduceEqDiff,reduceCtorEq,if_pos,List.append_nil,↓RS,RG,reduceAdd,reduceMul,reduceLeDiff]
    refine CallR.pn (shapeAll_live hs hwl hhl hv) (mapM_one (reify_loc (k := 9) rfl (by simp) (mapM_str _)) (mapM_one (reify_loc (k := 9) rfl (by simp) (mapM_int _)) (mapM_one (reify_loc (k := 9) rfl (by simp) (mapM_int _)) rfl))) (.inl rfl) ?_
    simp (disch := omega) only [↓RU,RV,RH,↓reduceIte,reduceEqDiff,reduceCtorEq,if_pos,List.append_nil,↓RS,RG,reduceAdd,reduceMul,reduceLeDiff,up_lc2,up_rowO,List.map_cons,upOb_arr,RN]
    refine hK _ _ ?_;clear hK K
    refine W.seq ?_
    refine W.r fun K hK => ?_
    simp (disch := omega) only [↓RU,RV,RH,↓reduceIte,reduceEqDiff,reduceCtorEq,if_pos,List.append_nil,w64,↓RS,RG,reduceAdd,reduceMul,reduceLeDiff,tybool]
    refine CallR.pc (eqIntSS_pc (l := (bestV p ws ht)) (by omega)) (mapM_one (reify_rows (rows := rowsOf (bestV p ws ht)) rfl rowsOf_len.symm rows_two rowO_at) rfl) (.inl rfl) ?_
    simp (disch := omega) only [↓RU,RV,RH,↓reduceIte,reduceEqDiff,reduceCtorEq,if_pos,List.append_nil,w64,↓RS,RG,reduceAdd,reduceMul,reduceLeDiff,tybool,decide_true,Bool.not_true,bne_self_eq_false]
    refine hK _ _ ?_;clear hK K
    refine W.cond rfl (fun h4 => ?_) (fun h4 => ?_)
    ·try simp only [RL] at h4
     first | (exfalso; omega) | exact absurd h4 (by simp)
    ·try simp only [RL] at h4
     refine W.skip ?_
     refine xn ?_
     refine W.seq ?_
     refine W.r fun K hK => ?_
     simp (disch := omega) only [↓RU,RV,RH,↓reduceIte,reduceEqDiff,reduceCtorEq,if_pos,List.append_nil,↓RS,RG,reduceAdd,reduceMul,reduceLeDiff]
     refine CallR.pc (toStringS_pc hs1) rfl (.inl rfl) ?_
     simp (disch := omega) only [↓RU,RV,RH,↓reduceIte,reduceEqDiff,reduceCtorEq,if_pos,List.append_nil,↓RS,RG,reduceAdd,reduceMul,reduceLeDiff]
     refine CallR.pc (eqStringS_pc (p := p) (q := p) (by omega) (by omega)) (mapM_one (reify_loc (k := 9) rfl (by simp) (mapM_str _)) (mapM_one rfl rfl)) (.inl rfl) ?_
     simp (disch := omega) only [↓RU,RV,RH,↓reduceIte,reduceEqDiff,reduceCtorEq,if_pos,List.append_nil,↓RS,RG,reduceAdd,reduceMul,reduceLeDiff]
     refine hK _ _ ?_;clear hK K
     refine W.cond rfl (fun h5 => ?_) (fun h5 => ?_)
     ·try simp only [RL] at h5
      first | (exfalso; omega) | exact absurd h5 (by simp)
     ·try simp only [RL] at h5
      refine W.skip ?_
      refine xn ?_
      refine W.seq ?_
      refine W.r fun K hK => ?_
      simp (disch := omega) only [↓RU,RV,RH,↓reduceIte,reduceEqDiff,reduceCtorEq,if_pos,List.append_nil,↓RS,RG,reduceAdd,reduceMul,reduceLeDiff]
      refine CallR.pc (toIntS_pc hwl) rfl (.inl rfl) ?_
      simp (disch := omega) only [↓RU,RV,RH,↓reduceIte,reduceEqDiff,reduceCtorEq,if_pos,List.append_nil,↓RS,RG,reduceAdd,reduceMul,reduceLeDiff]
      refine CallR.pc (eqIntS_pc (p := ws) (q := ws) (by omega) (by omega)) (mapM_one (reify_loc (k := 9) rfl (by simp) (mapM_int _)) (mapM_one rfl rfl)) (.inl rfl) ?_
      simp (disch := omega) only [↓RU,RV,RH,↓reduceIte,reduceEqDiff,reduceCtorEq,if_pos,List.append_nil,↓RS,RG,reduceAdd,reduceMul,reduceLeDiff]
      refine hK _ _ ?_;clear hK K
      refine W.cond rfl (fun h6 => ?_) (fun h6 => ?_)
      ·try simp only [RL] at h6
       first | (exfalso; omega) | exact absurd h6 (by simp)
      ·try simp only [RL] at h6
       refine W.skip ?_
       refine xn ?_
       refine W.seq ?_
       refine W.r fun K hK => ?_
       simp (disch := omega) only [↓RU,RV,RH,↓reduceIte,reduceEqDiff,reduceCtorEq,if_pos,List.append_nil,↓RS,RG,reduceAdd,reduceMul,reduceLeDiff]
       refine CallR.pc (toIntS_pc hhl) rfl (.inl rfl) ?_
       simp (disch := omega) only [↓RU,RV,RH,↓reduceIte,reduceEqDiff,reduceCtorEq,if_pos,List.append_nil,↓RS,RG,reduceAdd,reduceMul,reduceLeDiff]
       refine CallR.pc (eqIntS_pc (p := ht) (q := ht) (by omega) (by omega)) (mapM_one (reify_loc (k := 9) rfl (by simp) (mapM_int _)) (mapM_one rfl rfl)) (.inl rfl) ?_
       simp (disch := omega) only [↓RU,RV,RH,↓reduceIte,reduceEqDiff,reduceCtorEq,if_pos,List.append_nil,↓RS,RG,reduceAdd,reduceMul,reduceLeDiff]
       refine hK _ _ ?_;clear hK K
       refine W.cond rfl (fun h7 => ?_) (fun h7 => ?_)
       ·try simp only [RL] at h7
        first | (exfalso; omega) | exact absurd h7 (by simp)
       ·try simp only [RL] at h7
        refine W.skip ?_
        refine xn ?_
        refine W.r fun K hK => ?_
        simp (disch := omega) only [↓RU,RV,RH,↓reduceIte,reduceEqDiff,reduceCtorEq,if_pos,↓RS,RG,reduceAdd,reduceMul,reduceLeDiff]
        refine hK _ _ ?_;clear hK K
        refine W.r fun K hK => ?_
        simp (disch := omega) only [↓RU,RV,RH,↓reduceIte,reduceEqDiff,reduceCtorEq,if_pos,List.append_nil,↓RS,RG,reduceAdd,reduceMul,reduceLeDiff]
        refine CallR.ev (markStringS_ev (F := []) (R := _) (l := p) hs1 (k0 := 1) (by omega) (by omega)) ?_
        rintro _ _ ⟨rfl,t1,ht1,rfl⟩
        simp (disch := omega) only [↓RU,RV,RH,↓reduceIte,reduceEqDiff,reduceCtorEq,if_pos,List.append_nil,↓RS,RG,reduceAdd,reduceMul,reduceLeDiff,List.nil_append,List.cons_append,List.append_nil]
        refine hK _ _ ?_;clear hK K
        refine W.r fun K hK => ?_
        simp (disch := omega) only [↓RU,RV,RH,↓reduceIte,reduceEqDiff,reduceCtorEq,if_pos,List.append_nil,↓RS,RG,reduceAdd,reduceMul,reduceLeDiff]
        refine CallR.ev (markIntS_ev (F := [_]) (R := _) (l := ws) hwl (k0 := 1 + (p.length : Int)) (by omega) (by omega)) ?_
        rintro _ _ ⟨rfl,t2,ht2,hd2,rfl⟩
        simp (disch := omega) only [↓RU,RV,RH,↓reduceIte,reduceEqDiff,reduceCtorEq,if_pos,List.append_nil,↓RS,RG,reduceAdd,reduceMul,reduceLeDiff,List.nil_append,List.cons_append,List.append_nil]
        refine hK _ _ ?_;clear hK K
        refine W.r fun K hK => ?_
        simp (disch := omega) only [↓RU,RV,RH,↓reduceIte,reduceEqDiff,reduceCtorEq,if_pos,List.append_nil,↓RS,RG,reduceAdd,reduceMul,reduceLeDiff]
        refine CallR.ev (markIntS_ev (F := [_,_]) (R := _) (l := ht) hhl (k0 := 1 + (p.length : Int) + (ws.length : Int)) (by omega) (by omega)) ?_
        rintro _ _ ⟨rfl,t3,ht3,hd3,rfl⟩
        simp (disch := omega) only [↓RU,RV,RH,↓reduceIte,reduceEqDiff,reduceCtorEq,if_pos,List.append_nil,↓RS,RG,reduceAdd,reduceMul,reduceLeDiff,List.nil_append,List.cons_append,List.append_nil]
        refine hK _ _ ?_;clear hK K
        refine W.seq ?_
        refine W.r fun K hK => ?_
        have hk0 : decide ((1 + (p.length : Int) + (ws.length : Int) + (ht.length : Int)) < 0) = false := by simp; omega
        simp (disch := omega) only [↓RU,RV,RH,↓reduceIte,reduceEqDiff,reduceCtorEq,if_pos,w64,List.append_nil,↓RS,RG,reduceAdd,reduceMul,reduceLeDiff,tybool,tyint,hk0]
        refine CallR.pc (eqIntSS_pc (l := (bestV p ws ht)) (by omega)) (mapM_one (reify_rows (rows := rowsOf (bestV p ws ht)) rfl rowsOf_len.symm rows_two rowO_at) rfl) (.inl rfl) ?_
        simp (disch := omega) only [↓RU,RV,RH,↓reduceIte,reduceEqDiff,reduceCtorEq,if_pos,w64,List.append_nil,↓RS,RG,reduceAdd,reduceMul,reduceLeDiff,tybool,tyint,hk0,decide_true,Bool.not_true,bne_self_eq_false]
        refine hK _ _ ?_;clear hK K
        refine W.cond rfl (fun h8 => ?_) (fun h8 => ?_)
        ·try simp only [RL] at h8
         first | (exfalso; omega) | exact absurd h8 (by simp)
        ·try simp only [RL] at h8
         refine W.skip ?_
         refine xn ?_
         refine W.r fun K hK => ?_
         simp (disch := omega) only [↓RU,RV,RH,↓reduceIte,reduceEqDiff,reduceCtorEq,if_pos,↓RS,RG,reduceAdd,reduceMul,reduceLeDiff]
         refine hK _ _ ?_;clear hK K
         refine W.r fun K hK => ?_
         simp (disch := omega) only [↓RU,RV,RH,↓reduceIte,reduceEqDiff,reduceCtorEq,if_pos,List.append_nil,↓RS,RG,reduceAdd,reduceMul,reduceLeDiff]
         refine CallR.ev (markIntSS_ev (F := [_,_,_]) (l := (bestV p ws ht)) (by omega) (k0 := 1) (by omega) (by omega)) ?_
         rintro _ _ ⟨rfl,rfl⟩
         simp (disch := omega) only [↓RU,RV,RH,↓reduceIte,reduceEqDiff,reduceCtorEq,if_pos,List.append_nil,↓RS,RG,reduceAdd,reduceMul,reduceLeDiff,List.nil_append,List.cons_append,List.append_nil]
         refine hK _ _ ?_;clear hK K
         refine W.r fun K hK => ?_
         simp (disch := omega) only [↓RU,RV,RH,↓reduceIte,reduceEqDiff,reduceCtorEq,if_pos,↓RS,RG,reduceAdd,reduceMul,reduceLeDiff]
         refine hK _ _ ?_;clear hK K
         refine W.r fun K hK => ?_
         simp (disch := omega) only [↓RU,RV,RH,↓reduceIte,reduceEqDiff,reduceCtorEq,if_pos,List.append_nil,↓RS,RG,reduceAdd,reduceMul,reduceLeDiff]
         refine CallR.pc (heldIntSS_pc (k0 := 1) (m := (bestV p ws ht).length) (by omega) (by omega) (by omega)) (mapM_one (reify_rows (rows := mkR 1 (bestV p ws ht).length) rfl mkR_len.symm mkR_two rowO_at) rfl) (.inl rfl) ?_
         simp (disch := omega) only [↓RU,RV,RH,↓reduceIte,reduceEqDiff,reduceCtorEq,if_pos,List.append_nil,↓RS,RG,reduceAdd,reduceMul,reduceLeDiff]
         refine hK _ _ ?_;clear hK K
         refine W.seq ?_
         refine W.r fun K hK => ?_
         simp (disch := omega) only [↓RU,RV,RH,↓reduceIte,reduceEqDiff,reduceCtorEq,if_pos,w64,↓RS,RG,reduceAdd,reduceMul,reduceLeDiff,tyint]
         refine hK _ _ ?_;clear hK K
         refine W.cond rfl (fun h9 => ?_) (fun h9 => ?_)
         ·try simp only [RL] at h9
          first | (exfalso; omega) | exact absurd h9 (by simp)
         ·try simp only [RL] at h9
          refine W.skip ?_
          refine xn ?_
          refine W.seq ?_
          refine W.r fun K hK => ?_
          simp (disch := omega) only [↓RU,RV,RH,↓reduceIte,reduceEqDiff,reduceCtorEq,if_pos,w64,↓RS,RG,reduceAdd,reduceMul,reduceLeDiff,tyint]
          refine hK _ _ ?_;clear hK K
          refine W.cond rfl (fun h10 => ?_) (fun h10 => ?_)
          ·try simp only [RL] at h10
           first | (exfalso; omega) | exact absurd h10 (by simp)
          ·try simp only [RL] at h10
           refine W.skip ?_
           refine xn ?_
           refine W.r fun K hK => ?_
           simp (disch := omega) only [↓RU,RV,RH,↓reduceIte,reduceEqDiff,reduceCtorEq,if_pos,List.append_nil,↓RS,RG,reduceAdd,reduceMul,reduceLeDiff]
           refine CallR.pc (toStringS_pc hs1) rfl (.inl rfl) ?_
           simp (disch := omega) only [↓RU,RV,RH,↓reduceIte,reduceEqDiff,reduceCtorEq,if_pos,List.append_nil,↓RS,RG,reduceAdd,reduceMul,reduceLeDiff]
           refine CallR.pc (toIntS_pc hwl) rfl (.inl rfl) ?_
           simp (disch := omega) only [↓RU,RV,RH,↓reduceIte,reduceEqDiff,reduceCtorEq,if_pos,List.append_nil,↓RS,RG,reduceAdd,reduceMul,reduceLeDiff]
           refine CallR.pc (toIntS_pc hhl) rfl (.inl rfl) ?_
           simp (disch := omega) only [↓RU,RV,RH,↓reduceIte,reduceEqDiff,reduceCtorEq,if_pos,List.append_nil,↓RS,RG,reduceAdd,reduceMul,reduceLeDiff]
           refine CallR.pc (shapeAll_pc hs hwl hhl) rfl (.inr rfl) ?_
           simp (disch := omega) only [↓RU,RV,RH,↓reduceIte,reduceEqDiff,reduceCtorEq,if_pos,List.append_nil,↓RS,RG,reduceAdd,reduceMul,reduceLeDiff,hv]
           refine hK _ _ ?_;clear hK K
           refine W.seq ?_
           refine W.r fun K hK => ?_
           simp (disch := omega) only [↓RU,RV,RH,↓reduceIte,reduceEqDiff,reduceCtorEq,if_pos,List.append_nil,w64,↓RS,RG,reduceAdd,reduceMul,reduceLeDiff,tybool]
           refine CallR.pc (eqIntSS_pc (l := (bestV p ws ht)) (by omega)) (mapM_one rfl (mapM_one rfl rfl)) (.inl rfl) ?_
           simp (disch := omega) only [↓RU,RV,RH,↓reduceIte,reduceEqDiff,reduceCtorEq,if_pos,List.append_nil,w64,↓RS,RG,reduceAdd,reduceMul,reduceLeDiff,tybool,decide_true,Bool.not_true,bne_self_eq_false]
           refine hK _ _ ?_;clear hK K
           refine W.cond rfl (fun h11 => ?_) (fun h11 => ?_)
           ·try simp only [RL] at h11
            first | (exfalso; omega) | exact absurd h11 (by simp)
           ·try simp only [RL] at h11
            refine W.skip ?_
            refine xn ?_
            refine W.r fun K hK => ?_
            simp (disch := omega) only [↓RU,RV,RH,↓reduceIte,reduceEqDiff,reduceCtorEq,if_pos,↓RS,RG,reduceAdd,reduceMul,reduceLeDiff]
            refine hK _ _ ?_;clear hK K
            refine W.r fun K hK => ?_
            simp (disch := omega) only [↓RU,RV,RH,↓reduceIte,reduceEqDiff,reduceCtorEq,if_pos,List.append_nil,↓RS,RG,reduceAdd,reduceMul,reduceLeDiff]
            refine CallR.pc (heldIntSS_pc (k0 := 1) (m := (bestV p ws ht).length) (by omega) (by omega) (by omega)) (mapM_one (reify_rows (rows := mkR 1 (bestV p ws ht).length) rfl mkR_len.symm mkR_two rowO_at) rfl) (.inl rfl) ?_
            simp (disch := omega) only [↓RU,RV,RH,↓reduceIte,reduceEqDiff,reduceCtorEq,if_pos,List.append_nil,↓RS,RG,reduceAdd,reduceMul,reduceLeDiff]
            refine hK _ _ ?_;clear hK K
            refine W.seq ?_
            refine W.r fun K hK => ?_
            simp (disch := omega) only [↓RU,RV,RH,↓reduceIte,reduceEqDiff,reduceCtorEq,if_pos,w64,↓RS,RG,reduceAdd,reduceMul,reduceLeDiff,tyint]
            refine hK _ _ ?_;clear hK K
            refine W.cond rfl (fun h12 => ?_) (fun h12 => ?_)
            ·try simp only [RL] at h12
             first | (exfalso; omega) | exact absurd h12 (by simp)
            ·try simp only [RL] at h12
             refine W.skip ?_
             refine xn ?_
             refine W.seq ?_
             refine W.r fun K hK => ?_
             simp (disch := omega) only [↓RU,RV,RH,↓reduceIte,reduceEqDiff,reduceCtorEq,if_pos,w64,↓RS,RG,reduceAdd,reduceMul,reduceLeDiff,tyint]
             refine hK _ _ ?_;clear hK K
             refine W.cond rfl (fun h13 => ?_) (fun h13 => ?_)
             ·try simp only [RL] at h13
              first | (exfalso; omega) | exact absurd h13 (by simp)
             ·try simp only [RL] at h13
              refine W.skip ?_
              refine xn ?_
              refine W.r fun K hK => ?_
              simp (disch := omega) only [↓RU,RV,RH,↓reduceIte,reduceEqDiff,reduceCtorEq,if_pos,↓RS,RG,reduceAdd,reduceMul,reduceLeDiff]
              refine hK _ _ ?_;clear hK K
              refine W.ret ?_
              refine Br rfl ?_
              rfl
theorem lawShapeAll {p : List Txt} (hl : p.length ≤ 9223372036854775807) (hr : ∀ r ∈ p,r.length ≤ 9223372036854775807) (ws ht : List Int) : PC Tryz.prog 8 [eStrs p,eInts ws,eInts ht] (.bool true) true := by
 cases hv : givenI p ws ht with
 | false => exact shapeAllLaw_no hl hr ws ht hv
 | true => exact shapeAllLaw_yes hl hr ws ht hv
end Fw
end Go.Proofs.YtclmfemhboogpaaGreat
namespace Go.Proofs.YtclmfemhboogpaaGreat
open Go Go.ChangeShapes Go.WideShapes Go.ChangeAt Go.RowKit Fw
theorem Tryz.ownRmh : ownKnob Tryz.prog.godebug = none := by kernel_rfl
theorem Tryz.laidOutRmh : laidOutB Tryz.prog = true := by kernel_rfl
set_option maxRecDepth 100000 in
theorem rmh_lifted (os : Os) (started : os.Started) (H : Type) (enc : TypeId × Value → H) :
  ReturnsInHanded {} Tryz.checked os 8 .any (Rows.fnExactShapeAllSpec.pre6 enc Tryz.prog Tryz.f8 Rows.fnExactShapeAllRow.domain false) (Rows.fnExactShapeAllSpec.post enc Tryz.prog Tryz.f8 false true false false) := by
 refine returnsInHanded_of_change (C := Tryz.checked) Tryz.ownRmh started (by kernel_rfl) Tryz.func8
  (ChangeSpec.witness6 (enc := enc) (C := Tryz.checked) false ⟨#[],#[.slice none 0 0,.slice none 0 0,.slice none 0 0],[]⟩ 8 (by kernel_rfl) (by kernel_rfl) (by kernel_rfl) (by kernel_rfl)) ?_
 intro W base args ds gs before hval0 hW hcnd _
 have hval : ∀ (j : Nat) t v,Tryz.f8.params[j]? = some t → args[j]? = some v → Value.okWide Tryz.prog W .any base t v := hval0
 have hW' := hW
 obtain ⟨p,q,hA0,hV,rfl,hfz,hnd⟩ := hW
 have hA : DataW.TrodAll enc Tryz.prog W 0 (fun _ => true) true Tryz.f8.params.toList args.toList ds p := hA0
 rw [Tryz.params8] at hA hval
 obtain ⟨v0,v1,v2,d0,d1,d2,p0,p1,p2,rfl,rfl,rfl,h0,h1,h2⟩ := trodAll_three hA
 obtain ⟨rfl,rfl⟩ := trodVars_none hV
 obtain ⟨l0,i0,b0,c0⟩ := vi_strs (hval 0 _ v0 rfl rfl) h0
 obtain ⟨l1,i1⟩ := vi_ints (hval 1 _ v1 rfl rfl) h1
 obtain ⟨l2,i2⟩ := vi_ints (hval 2 _ v2 rfl rfl) h2
 have hlt : ∀ x ∈ p0 ++ p1 ++ p2,x.block < W.heap.size := fun x hx => hW'.lt x (by simp only [List.mem_append] at hx ⊢; simp [hx])
 refine ((lawShapeAll b0 c0 l1 l2).run (fun b => b < W.heap.size) W #[v0,v1,v2] (fun _ h => h) rfl ?_).mono ?_
 ·rintro (_ | _ | _ | i) p c hp hc
  ·cases hp; cases hc; exact i0
  ·cases hp; cases hc; exact i1
  ·cases hp; cases hc; exact i2
  ·simp at hp
 ·rintro e W' ⟨cv,rfl,⟨hB,_⟩,hr⟩
  have hcv : cv = .bool true := by cases hr; rfl
  subst hcv
  have t0 := Below.trod Tryz.laidOutRmh (by kernel_rfl) (of_decide_eq_true (by kernel_rfl)) h0 hB fun x hx => hlt x (by simp [hx])
  have t1 := Below.trod Tryz.laidOutRmh (by kernel_rfl) (of_decide_eq_true (by kernel_rfl)) h1 hB fun x hx => hlt x (by simp [hx])
  have t2 := Below.trod Tryz.laidOutRmh (by kernel_rfl) (of_decide_eq_true (by kernel_rfl)) h2 hB fun x hx => hlt x (by simp [hx])
  refine ⟨_,rfl,_,_,_,[],p0 ++ (p1 ++ p2),[],hW',?_,?_,?_,hB.frame _,fun h => by cases h⟩
  ·exact trodAll_mk1 (shut_bool Tryz.underlying4 true)
  ·rw [Tryz.params8]; exact trodAll_mk3 t0 t1 t2
  ·trivial
theorem rmh_holds : Rows.FnExactShapeAllSaid :=
 OpenClaim.holds_of_wide 8 Tryz.f8 rfl rfl rfl rfl rfl rfl rfl ⟨rfl,rfl,rfl,rfl,rfl⟩ rfl rfl rfl rfl rfl (by kernel_rfl) Tryz.func8 (by kernel_rfl)
  (of_decide_eq_true (by kernel_rfl)) (by unfold Func.isWrapper; first | (rw [if_pos (by decide +kernel)]; kernel_rfl) | (rw [if_neg (by decide +kernel)]; exact ⟨rfl,rfl⟩))
  (fun os started H enc _ => rmh_lifted os started H enc)
end Go.Proofs.YtclmfemhboogpaaGreat
