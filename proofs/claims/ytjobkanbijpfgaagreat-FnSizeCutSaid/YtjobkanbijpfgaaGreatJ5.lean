/- Parts of the framework and of the proof: Cut trees, gone down; what is told along them; Texts along cuts and widths along cuts in the specification, gone through; What comes of parts along first cuts, gone through; Sizes by the program, gone through; Sizes, gone through; the small functions of the statements; Where rooms begin and how far they may be moved: the program's lists are the specification's; Shapes in plain words: the program's least shapes are the specification's; Sizes in plain words: areas, places, slacks, longest rows; What the laws of sizes ask, of plans in plain words; Widths and texts along cuts, gone through; Widths along cuts in the specification; is a plan cuttable: gone through; Rooms put in a row by how many are ahead of them; Plans that are cut, in plain words; Orders of two rooms, gone through; Sorting by a function, gone through; Heaviest sums, gone through; Marks, gone through; Places and slack by the specification, gone through; A relation the other way round, place by place; Places and slack by the program, gone through; Rooms in order by the program, gone through; The first and the second order, gone through; The orders by the specification, gone through; The two orders are orders of all rooms; the places of the second order in the first one; The framework, part z: a region in which the bytes of a text become a new row that is written later; Drawing: the reader, gone through; Plans cut in two, gone through; Drawing plans, gone through; Drawing plans, gone through, continued; Drawing needs, gone through; Areas, gone through; The law of areas, gone through; The laws of left and above, gone through; The law of places, gone through; Permutations by the program and by the specification, gone through; Permutations of plans, gone through; Longest rows of rooms, as the specification finds them, in plain words; Longest rows, gone through; The law of least widths, gone through. -/
import Derived.Test.YtjobkanbijpfgaaGreatJ4
import Derived.Test.YtjobkanbijpfgaaGreatJ3
import Derived.Test.YtjobkanbijpfgaaGreatJ2
import Derived.Test.YtjobkanbijpfgaaGreatJ1
import Derived.Lib.ConvBytes
set_option linter.all false
namespace Go.Proofs.YtjobkanbijpfgaaGreat
namespace Fw
open Go
open Nat (reduceEqDiff reduceLeDiff reduceAdd reduceMul)
section
def treeP (z : Nat → Nat → Int) (t : Pt) : Option CT := tree z (t.h * t.w) t
section
variable {z : Nat → Nat → Int} {H W : Nat} {t : Pt}
theorem area_pos (h : t.In H W) : t.h * t.w = (t.h * t.w - 1) + 1 := by have := Nat.mul_pos h.1 h.2.1; omega
theorem treeP_one (h : t.In H W) (h1 : oneZ z t = true) : treeP z t = some (.leaf (z t.r t.c)) := by
 unfold treeP; rw [area_pos h,tree,if_pos h1]
theorem treeP_none (h : t.In H W) (h1 : oneZ z t = false) (h2 : cutOf z t = none) : treeP z t = none := by
 unfold treeP; rw [area_pos h,tree,h1,h2]; rfl
theorem treeP_cut (h : t.In H W) (h1 : oneZ z t = false) {q : Bool × Nat} (h2 : cutOf z t = some q) : treeP z t = match treeP z (t.one q),treeP z (t.two q) with | some x,some y => some (.node q.1 x y) | _,_ => none := by
 obtain ⟨i1,i2,a1,a2⟩ := h.cut h2
 have := area_pos h
 rw [show treeP z t = tree z ((t.h * t.w - 1) + 1) t by unfold treeP; rw [← this]]
 simp only [tree,h1,h2,Bool.false_eq_true,if_false]
 unfold treeP
 rw [tree_fuel (z := z) _ i1 (Nat.le_refl _) (f := t.h * t.w - 1) (g := (t.one q).h * (t.one q).w) (by omega) (Nat.le_refl _),tree_fuel (z := z) _ i2 (Nat.le_refl _) (f := t.h * t.w - 1) (g := (t.two q).h * (t.two q).w) (by omega) (Nat.le_refl _)]
 cases tree z ((t.one q).h * (t.one q).w) (t.one q) <;> cases tree z ((t.two q).h * (t.two q).w) (t.two q) <;> rfl
def txtT (z : Nat → Nat → Int) : Nat → Pt → Txt × Bool
 | 0,_ => ([],false)
 | f + 1,t => if oneZ z t then ([UInt8.ofNat (z t.r t.c + 65).toNat],true) else
  match cutOf z t with
  | none => ([],false)
  | some q => ((if q.1 then [104] else [118]) ++ (txtT z f (t.one q)).1 ++ (txtT z f (t.two q)).1,(txtT z f (t.one q)).2 && (txtT z f (t.two q)).2)
theorem txt_fuel : ∀ (n : Nat) {t : Pt} {f g : Nat},t.In H W → t.h * t.w ≤ n → t.h * t.w ≤ f → t.h * t.w ≤ g → txtT z f t = txtT z g t
 | 0,t,f,g,hi,hn,_,_ => by have := Nat.mul_pos hi.1 hi.2.1; omega
 | n + 1,t,f,g,hi,hn,hf,hg => by
  have := Nat.mul_pos hi.1 hi.2.1
  obtain ⟨f,rfl⟩ : ∃ f',f = f' + 1 := ⟨f - 1,by omega⟩
  obtain ⟨g,rfl⟩ : ∃ g',g = g' + 1 := ⟨g - 1,by omega⟩
  simp only [txtT]
  split
  ·rfl
  ·cases hc : cutOf z t with
   | none => rfl
   | some q =>
    obtain ⟨i1,i2,a1,a2⟩ := hi.cut hc
    simp only
    rw [txt_fuel n i1 (f := f) (g := g) (by omega) (by omega) (by omega),txt_fuel n i2 (f := f) (g := g) (by omega) (by omega) (by omega)]
def txtP (z : Nat → Nat → Int) (t : Pt) : Txt × Bool := txtT z (t.h * t.w) t
theorem txtP_one (h : t.In H W) (h1 : oneZ z t = true) : txtP z t = ([UInt8.ofNat (z t.r t.c + 65).toNat],true) := by
 unfold txtP; rw [area_pos h,txtT,if_pos h1]
theorem txtP_none (h : t.In H W) (h1 : oneZ z t = false) (h2 : cutOf z t = none) : txtP z t = ([],false) := by
 unfold txtP; rw [area_pos h,txtT,h1,h2]; rfl
theorem txtP_cut (h : t.In H W) (h1 : oneZ z t = false) {q : Bool × Nat} (h2 : cutOf z t = some q) :
  txtP z t = ((if q.1 then [104] else [118]) ++ (txtP z (t.one q)).1 ++ (txtP z (t.two q)).1,(txtP z (t.one q)).2 && (txtP z (t.two q)).2) := by
 obtain ⟨i1,i2,a1,a2⟩ := h.cut h2
 have := area_pos h
 rw [show txtP z t = txtT z ((t.h * t.w - 1) + 1) t by unfold txtP; rw [← this]]
 simp only [txtT,h1,h2,Bool.false_eq_true,if_false]
 unfold txtP
 rw [txt_fuel (z := z) _ i1 (Nat.le_refl _) (f := t.h * t.w - 1) (g := (t.one q).h * (t.one q).w) (by omega) (Nat.le_refl _),txt_fuel (z := z) _ i2 (Nat.le_refl _) (f := t.h * t.w - 1) (g := (t.two q).h * (t.two q).w) (by omega) (Nat.le_refl _)]
theorem area_cut {q : Bool × Nat} (h2 : cutOf z t = some q) : (t.one q).h * (t.one q).w + (t.two q).h * (t.two q).w = t.h * t.w := by
 obtain ⟨h1,h3⟩ := cutOf_some h2
 obtain ⟨lv,k⟩ := q
 cases lv with
 | true =>
  simp only [if_true] at h3
  simp only [Pt.one,Pt.two,if_true]
  rw [← Nat.add_mul,show k + (t.h - k) = t.h by omega]
 | false =>
  simp only [Bool.false_eq_true,if_false] at h3
  simp only [Pt.one,Pt.two,Bool.false_eq_true,if_false]
  rw [← Nat.mul_add,show k + (t.w - k) = t.w by omega]
theorem txt_facts : ∀ (n : Nat) {t : Pt},t.In H W → t.h * t.w ≤ n → (txtP z t).1.length + 1 ≤ 2 * (t.h * t.w) ∧ (txtP z t).2 = (treeP z t).isSome
 | 0,t,hi,hn => by have := Nat.mul_pos hi.1 hi.2.1; omega
 | n + 1,t,hi,hn => by
  have := Nat.mul_pos hi.1 hi.2.1
  cases h1 : oneZ z t with
  | true => rw [txtP_one hi h1,treeP_one hi h1]; simp; omega
  | false =>
   cases hc : cutOf z t with
   | none => rw [txtP_none hi h1 hc,treeP_none hi h1 hc]; simp; omega
   | some q =>
    obtain ⟨i1,i2,a1,a2⟩ := hi.cut hc
    have ha := area_cut hc
    obtain ⟨b1,b2⟩ := txt_facts n i1 (by omega)
    obtain ⟨c1,c2⟩ := txt_facts n i2 (by omega)
    have p1 := Nat.mul_pos i1.1 i1.2.1
    rw [txtP_cut hi h1 hc,treeP_cut hi h1 hc]
    constructor
    ·simp only [List.length_append]
     have : (if q.1 then [(104 : UInt8)] else [118]).length = 1 := by split <;> rfl
     omega
    ·rw [b2,c2]
     cases treeP z (t.one q) <;> cases treeP z (t.two q) <;> rfl
def CT.leaves : CT → List Int
 | .leaf a => [a]
 | .node _ x y => x.leaves ++ y.leaves
theorem CT.pos (x : CT) : 1 ≤ x.leaves.length := by
 induction x with
 | leaf a => simp [CT.leaves]
 | node lv x y h1 h2 => simp [CT.leaves]; omega
theorem tree_leaves (hz : RectZ z H W) : ∀ (n : Nat) {t : Pt} {x : CT},Whole z H W t → t.h * t.w ≤ n → treeP z t = some x →
  x.leaves.Nodup ∧ (∀ v,v ∈ x.leaves ↔ ∃ a c,t.r ≤ a ∧ a < t.r + t.h ∧ t.c ≤ c ∧ c < t.c + t.w ∧ z a c = v) ∧ x.leaves.length ≤ t.h * t.w
 | 0,t,x,hw,hn,_ => by have := Nat.mul_pos hw.inn.1 hw.inn.2.1; omega
 | n + 1,t,x,hw,hn,hx => by
  have hi := hw.inn
  have hpos := Nat.mul_pos hi.1 hi.2.1
  cases h1 : oneZ z t with
  | true =>
   rw [treeP_one hi h1] at hx
   cases hx
   have hall := oneZ_iff.1 h1
   refine ⟨by simp [CT.leaves],fun v => ?_,by simp [CT.leaves]; omega⟩
   simp only [CT.leaves,List.mem_singleton]
   constructor
   ·rintro rfl; exact ⟨t.r,t.c,by omega,by have := hi.1; omega,by omega,by have := hi.2.1; omega,rfl⟩
   ·rintro ⟨a,c,e1,e2,e3,e4,rfl⟩
    have := hall (a - t.r) (c - t.c) (by omega) (by omega)
    rwa [show t.r + (a - t.r) = a by omega,show t.c + (c - t.c) = c by omega] at this
  | false =>
   cases hc : cutOf z t with
   | none => rw [treeP_none hi h1 hc] at hx; cases hx
   | some q =>
    obtain ⟨i1,i2,a1,a2⟩ := hi.cut hc
    obtain ⟨w1,w2⟩ := hw.cut hz hc
    have ha := area_cut hc
    rw [treeP_cut hi h1 hc] at hx
    cases hx1 : treeP z (t.one q) with
    | none => rw [hx1] at hx; cases hx
    | some x1 =>
     cases hx2 : treeP z (t.two q) with
     | none => rw [hx1,hx2] at hx; cases hx
     | some x2 =>
      rw [hx1,hx2] at hx
      cases hx
      obtain ⟨b1,b2,b3⟩ := tree_leaves hz n w1 (by omega) hx1
      obtain ⟨c1,c2,c3⟩ := tree_leaves hz n w2 (by omega) hx2
      obtain ⟨k1,k2⟩ := cutOf_some hc
      refine ⟨?_,fun v => ?_,by simp [CT.leaves]; omega⟩
      ·simp only [CT.leaves,List.nodup_append]
       refine ⟨b1,c1,fun v hv u hu e => ?_⟩
       subst e
       obtain ⟨a,c,e1,e2,e3,e4,e5⟩ := (b2 v).1 hv
       obtain ⟨a',c',f1,f2,f3,f4,f5⟩ := (c2 v).1 hu
       have hin1 := i1; have hin2 := i2
       unfold Pt.In at hin1 hin2
       have := w1.all a c a' c' (by omega) (by omega) (by omega) (by omega) (e5.trans f5.symm) e1 e2 e3 e4
       obtain ⟨lv,k⟩ := q
       cases lv <;> simp only [Pt.one,Pt.two,Bool.false_eq_true,if_false,if_true] at * <;> omega
      ·simp only [CT.leaves,List.mem_append,b2,c2]
       obtain ⟨lv,k⟩ := q
       cases lv with
       | true =>
        simp only [Pt.one,Pt.two,if_true] at *
        constructor
        ·rintro (⟨a,c,e1,e2,e3,e4,e5⟩ | ⟨a,c,e1,e2,e3,e4,e5⟩)
         ·exact ⟨a,c,e1,by omega,e3,e4,e5⟩
         ·exact ⟨a,c,by omega,by omega,e3,e4,e5⟩
        ·rintro ⟨a,c,e1,e2,e3,e4,e5⟩
         rcases Nat.lt_or_ge a (t.r + k) with h | h
         ·exact .inl ⟨a,c,e1,h,e3,e4,e5⟩
         ·exact .inr ⟨a,c,h,by omega,e3,e4,e5⟩
       | false =>
        simp only [Pt.one,Pt.two,Bool.false_eq_true,if_false] at *
        constructor
        ·rintro (⟨a,c,e1,e2,e3,e4,e5⟩ | ⟨a,c,e1,e2,e3,e4,e5⟩)
         ·exact ⟨a,c,e1,e2,e3,by omega,e5⟩
         ·exact ⟨a,c,e1,e2,by omega,by omega,e5⟩
        ·rintro ⟨a,c,e1,e2,e3,e4,e5⟩
         rcases Nat.lt_or_ge c (t.c + k) with h | h
         ·exact .inl ⟨a,c,e1,e2,e3,h,e5⟩
         ·exact .inr ⟨a,c,e1,e2,h,by omega,e5⟩
end
def cutV (needs : List Int) (x : CT) : Int := x.fold (fun a => getI needs a.toNat) fun lv a b => if lv then max a b else a + b
theorem cutV_bnd {needs : List Int} {x : CT} (h : ∀ a ∈ x.leaves,1 ≤ getI needs a.toNat ∧ getI needs a.toNat ≤ 9) : 1 ≤ cutV needs x ∧ cutV needs x ≤ 9 * x.leaves.length := by
 induction x with
 | leaf a => have := h a (by simp [CT.leaves]); simp [cutV,CT.fold,CT.leaves]; omega
 | node lv x y h1 h2 =>
  have k1 := h1 fun a ha => h a (by simp [CT.leaves,ha])
  have k2 := h2 fun a ha => h a (by simp [CT.leaves,ha])
  simp only [cutV,CT.fold,CT.leaves,List.length_append] at *
  cases lv <;> simp <;> omega
end
theorem str_add1 {c : UInt8} {b : List UInt8} (h : b.length + 1 ≤ 9223372036854775807) : pStr .add [c] b = some (.str (c :: b)) := if_pos (by simp; omega)
theorem str_add2 {c : UInt8} {b d : List UInt8} (h : b.length + 1 + d.length ≤ 9223372036854775807) : pStr .add (c :: b) d = some (.str (c :: b ++ d)) := if_pos (by simp; omega)
theorem l3Text_go {p : List Txt} (hg : gridB p = true) {t : Pt} (hi : t.In p.length (hdRow p).length) (ih : ∀ t' : Pt,t'.In p.length (hdRow p).length → t'.h * t'.w < t.h * t.w → PC Tryz.prog 79 [eStrs (sub p t')] (.tup [.str (txtP (cellZ p) t').1,.bool (txtP (cellZ p) t').2]) true) : PC Tryz.prog 79 [eStrs (sub p t)] (.tup [.str (txtP (cellZ p) t).1,.bool (txtP (cellZ p) t).2]) true := by
 have hg2 := sub_grid hg hi
 have hs2 := Sm.grid hg2
 have hl2 := sub_len hi
 have hh2 := sub_hd hg hi
 have hib := hi
 unfold Pt.In at hib
 obtain ⟨row0,hrow0,hq0,hl0,-⟩ := sub_row hg hi (i := 0) hi.1
 obtain ⟨c0,hc0,hlet⟩ := grid_mem hg hrow0 (k := t.c + 0) (by omega)
 have hqc := (subRow_at (row := row0) (t := t) hib.2.1).trans hc0
 have hz0 : cellZ p t.r t.c = (c0.toNat : Int) - 97 := cellZ_is (by simpa using hrow0) (by simpa using hc0)
 simp only [letterB,Bool.and_eq_true,decide_eq_true_eq] at hlet
 have hcq := cutQ_sub hg hi
 refine PC.of ⟨Tryz.func79,by kernel_rfl,rfl,by kernel_rfl⟩ tabOk mixed (by show 1 ≤ Tryz.f79.ntmps; decide) ?_
 refine W.r fun K hK => ?_
 simp (disch := omega) only [↓RU,RV,RH,↓reduceIte,reduceEqDiff,reduceCtorEq,if_pos,↓RS,RG,reduceAdd,reduceMul,reduceLeDiff,w8]
 refine hK _ _ ?_;clear hK K
 refine W.seq ?_
 refine W.r fun K hK => ?_
 simp (disch := omega) only [↓RU,RV,RH,↓reduceIte,reduceEqDiff,reduceCtorEq,if_pos,List.append_nil,↓RS,RG,reduceAdd,reduceMul,reduceLeDiff,w8]
 refine CallR.pc (l3One_pc hs2 hg2) rfl (.inl rfl) ?_
 simp (disch := omega) only [↓RU,RV,RH,↓reduceIte,reduceEqDiff,reduceCtorEq,if_pos,List.append_nil,↓RS,RG,reduceAdd,reduceMul,reduceLeDiff,w8]
 refine hK _ _ ?_;clear hK K
 refine W.cond rfl (fun h0 => ?_) (fun h0 => ?_)
 ·skip
  have h0 : oneB (sub p t) = true := h0
  rw [oneB_sub hg hi] at h0
  refine W.r fun K hK => ?_
  simp (disch := omega) only [↓RU,RV,RH,↓reduceIte,reduceEqDiff,reduceCtorEq,if_pos,w64,w64,↓RS,RG,reduceAdd,reduceMul,reduceLeDiff,ty5,ty6,tystring,ty30,w8,hq0,hqc,Int.toNat_zero,Nat.zero_mul,Int.reduceToNat]
  refine hK _ _ ?_;clear hK K
  refine W.ret ?_
  refine XThen.ret ?_
  refine Br rfl ?_
  rw [txtP_one hi h0,hz0]
  rfl
 ·skip
  have h0 : oneB (sub p t) = false := h0
  rw [oneB_sub hg hi] at h0
  refine W.skip ?_
  refine xn ?_
  refine W.r fun K hK => ?_
  rcases hq : cutOf (cellZ p) t with _ | ⟨_ | _,k⟩
  ·skip
   rw [hq] at hcq
   simp only at hcq
   simp (disch := omega) only [↓RU,RV,RH,↓reduceIte,reduceEqDiff,reduceCtorEq,if_pos,List.append_nil,↓RS,RG,reduceAdd,reduceMul,reduceLeDiff,w8,hcq]
   refine CallR.pc (l3Cut_pc hs2 hg2) rfl (.inl rfl) ?_
   simp (disch := omega) only [↓RU,RV,RH,↓reduceIte,reduceEqDiff,reduceCtorEq,if_pos,List.append_nil,↓RS,RG,reduceAdd,reduceMul,reduceLeDiff,w8,hcq]
   refine hK _ _ ?_;clear hK K
   refine W.seq ?_
   refine W.r fun K hK => ?_
   simp (disch := omega) only [↓RU,RV,RH,↓reduceIte,reduceEqDiff,reduceCtorEq,if_pos,w64,↓RS,RG,reduceAdd,reduceMul,reduceLeDiff,tyint,w8]
   refine hK _ _ ?_;clear hK K
   refine W.cond rfl (fun h1 => ?_) (fun h1 => ?_)
   ·try simp only [RL] at h1
    refine W.r fun K hK => ?_
    simp (disch := omega) only [↓RU,RV,RH,↓reduceIte,reduceEqDiff,reduceCtorEq,if_pos,↓RS,RG,reduceAdd,reduceMul,reduceLeDiff,w8]
    refine hK _ _ ?_;clear hK K
    refine W.ret ?_
    refine XThen.ret ?_
    refine Br rfl ?_
    rw [txtP_none hi h0 hq]
    rfl
   ·try simp only [RL] at h1
    exact absurd h1 (by simp)
  ·skip
   rw [hq] at hcq
   simp only [Bool.false_eq_true,if_false] at hcq
   obtain ⟨i1,i2,a1,a2⟩ := hi.cut hq
   have hck := cutOf_some hq
   simp only [Bool.false_eq_true,if_false] at hck
   simp (disch := omega) only [↓RU,RV,RH,↓reduceIte,reduceEqDiff,reduceCtorEq,if_pos,List.append_nil,↓RS,RG,reduceAdd,reduceMul,reduceLeDiff,w8,hcq]
   refine CallR.pc (l3Cut_pc hs2 hg2) rfl (.inl rfl) ?_
   simp (disch := omega) only [↓RU,RV,RH,↓reduceIte,reduceEqDiff,reduceCtorEq,if_pos,List.append_nil,↓RS,RG,reduceAdd,reduceMul,reduceLeDiff,w8,hcq]
   refine hK _ _ ?_;clear hK K
   refine W.seq ?_
   refine W.r fun K hK => ?_
   simp (disch := omega) only [↓RU,RV,RH,↓reduceIte,reduceEqDiff,reduceCtorEq,if_pos,w64,↓RS,RG,reduceAdd,reduceMul,reduceLeDiff,tyint,w8]
   refine hK _ _ ?_;clear hK K
   refine W.cond rfl (fun h1 => ?_) (fun h1 => ?_)
   ·try simp only [RL] at h1
    exact absurd h1 (by simp; omega)
   ·try simp only [RL] at h1
    refine W.skip ?_
    refine xn ?_
    refine W.r fun K hK => ?_
    have hP := l3PartsU_pc hs2 hg2 (k := k) (by rw [hh2]; omega)
    rw [sub_one (q := (false,k)) (by simp; omega),sub_two (q := (false,k)) (by simp; omega)] at hP
    simp (disch := omega) only [↓RU,RV,RH,↓reduceIte,reduceEqDiff,reduceCtorEq,if_pos,List.append_nil,↓RS,RG,reduceAdd,reduceMul,reduceLeDiff,w8]
    refine CallR.pc (hP) rfl (.inl rfl) ?_
    simp (disch := omega) only [↓RU,RV,RH,↓reduceIte,reduceEqDiff,reduceCtorEq,if_pos,List.append_nil,↓RS,RG,reduceAdd,reduceMul,reduceLeDiff,w8]
    refine hK _ _ ?_;clear hK K
    refine W.r fun K hK => ?_
    simp (disch := omega) only [↓RU,RV,RH,↓reduceIte,reduceEqDiff,reduceCtorEq,if_pos,List.append_nil,↓RS,RG,reduceAdd,reduceMul,reduceLeDiff,w8]
    refine CallR.pc (ih (t.one (false,k)) i1 a1) rfl (.inl rfl) ?_
    simp (disch := omega) only [↓RU,RV,RH,↓reduceIte,reduceEqDiff,reduceCtorEq,if_pos,List.append_nil,↓RS,RG,reduceAdd,reduceMul,reduceLeDiff,w8]
    refine hK _ _ ?_;clear hK K
    refine W.r fun K hK => ?_
    simp (disch := omega) only [↓RU,RV,RH,↓reduceIte,reduceEqDiff,reduceCtorEq,if_pos,List.append_nil,↓RS,RG,reduceAdd,reduceMul,reduceLeDiff,w8]
    refine CallR.pc (ih (t.two (false,k)) i2 a2) rfl (.inl rfl) ?_
    simp (disch := omega) only [↓RU,RV,RH,↓reduceIte,reduceEqDiff,reduceCtorEq,if_pos,List.append_nil,↓RS,RG,reduceAdd,reduceMul,reduceLeDiff,w8]
    refine hK _ _ ?_;clear hK K
    refine W.r fun K hK => ?_
    have f1 := (txt_facts (z := cellZ p) _ i1 (Nat.le_refl _)).1
    have f2 := (txt_facts (z := cellZ p) _ i2 (Nat.le_refl _)).1
    have f3 : t.h * t.w ≤ 6 * 6 := Nat.mul_le_mul (by have := grid_small hg; omega) (by have := (grid_small hg2).2.2 _ (List.mem_of_getElem? hq0); omega)
    cases hb : (txtP (cellZ p) (t.one (false,k))).2
    ·skip
     simp (disch := omega) only [↓RU,RV,RH,↓reduceIte,reduceEqDiff,reduceCtorEq,if_pos,w64,Option.map_none,↓RS,RG,reduceAdd,reduceMul,reduceLeDiff,tyint,tystring,w8,str_add1,str_add2,Int.reduceAdd,Int.reduceToNat,List.take_succ_cons,List.take_zero,List.drop_zero,List.drop_succ_cons,List.length_append,List.length_cons,List.length_nil,hb]
     refine hK _ _ ?_;clear hK K
     refine W.ret ?_
     refine Br rfl ?_
     rw [txtP_cut hi h0 hq,hb]
     rfl
    ·skip
     simp (disch := omega) only [↓RU,RV,RH,↓reduceIte,reduceEqDiff,reduceCtorEq,if_pos,w64,Option.map_none,↓RS,RG,reduceAdd,reduceMul,reduceLeDiff,tyint,tystring,w8,str_add1,str_add2,Int.reduceAdd,Int.reduceToNat,List.take_succ_cons,List.take_zero,List.drop_zero,List.drop_succ_cons,List.length_append,List.length_cons,List.length_nil,hb]
     refine hK _ _ ?_;clear hK K
     refine W.ret ?_
     refine Br rfl ?_
     rw [txtP_cut hi h0 hq,hb]
     rfl
  ·skip
   rw [hq] at hcq
   simp only [if_true] at hcq
   obtain ⟨i1,i2,a1,a2⟩ := hi.cut hq
   have hck := cutOf_some hq
   simp only [if_true] at hck
   simp (disch := omega) only [↓RU,RV,RH,↓reduceIte,reduceEqDiff,reduceCtorEq,if_pos,List.append_nil,↓RS,RG,reduceAdd,reduceMul,reduceLeDiff,w8,hcq]
   refine CallR.pc (l3Cut_pc hs2 hg2) rfl (.inl rfl) ?_
   simp (disch := omega) only [↓RU,RV,RH,↓reduceIte,reduceEqDiff,reduceCtorEq,if_pos,List.append_nil,↓RS,RG,reduceAdd,reduceMul,reduceLeDiff,w8,hcq]
   refine hK _ _ ?_;clear hK K
   refine W.seq ?_
   refine W.r fun K hK => ?_
   simp (disch := omega) only [↓RU,RV,RH,↓reduceIte,reduceEqDiff,reduceCtorEq,if_pos,w64,↓RS,RG,reduceAdd,reduceMul,reduceLeDiff,tyint,w8]
   refine hK _ _ ?_;clear hK K
   refine W.cond rfl (fun h1 => ?_) (fun h1 => ?_)
   ·try simp only [RL] at h1
    exact absurd h1 (by simp; omega)
   ·try simp only [RL] at h1
    refine W.skip ?_
    refine xn ?_
    refine W.r fun K hK => ?_
    have hP := l3PartsL_pc hs2 hg2 (k := k) (by rw [hl2]; omega)
    rw [sub_one (q := (true,k)) (by simp; omega),sub_two (q := (true,k)) (by simp; omega)] at hP
    simp (disch := omega) only [↓RU,RV,RH,↓reduceIte,reduceEqDiff,reduceCtorEq,if_pos,List.append_nil,↓RS,RG,reduceAdd,reduceMul,reduceLeDiff,w8]
    refine CallR.pc (hP) rfl (.inl rfl) ?_
    simp (disch := omega) only [↓RU,RV,RH,↓reduceIte,reduceEqDiff,reduceCtorEq,if_pos,List.append_nil,↓RS,RG,reduceAdd,reduceMul,reduceLeDiff,w8]
    refine hK _ _ ?_;clear hK K
    refine W.r fun K hK => ?_
    simp (disch := omega) only [↓RU,RV,RH,↓reduceIte,reduceEqDiff,reduceCtorEq,if_pos,List.append_nil,↓RS,RG,reduceAdd,reduceMul,reduceLeDiff,w8]
    refine CallR.pc (ih (t.one (true,k)) i1 a1) rfl (.inl rfl) ?_
    simp (disch := omega) only [↓RU,RV,RH,↓reduceIte,reduceEqDiff,reduceCtorEq,if_pos,List.append_nil,↓RS,RG,reduceAdd,reduceMul,reduceLeDiff,w8]
    refine hK _ _ ?_;clear hK K
    refine W.r fun K hK => ?_
    simp (disch := omega) only [↓RU,RV,RH,↓reduceIte,reduceEqDiff,reduceCtorEq,if_pos,List.append_nil,↓RS,RG,reduceAdd,reduceMul,reduceLeDiff,w8]
    refine CallR.pc (ih (t.two (true,k)) i2 a2) rfl (.inl rfl) ?_
    simp (disch := omega) only [↓RU,RV,RH,↓reduceIte,reduceEqDiff,reduceCtorEq,if_pos,List.append_nil,↓RS,RG,reduceAdd,reduceMul,reduceLeDiff,w8]
    refine hK _ _ ?_;clear hK K
    refine W.r fun K hK => ?_
    have f1 := (txt_facts (z := cellZ p) _ i1 (Nat.le_refl _)).1
    have f2 := (txt_facts (z := cellZ p) _ i2 (Nat.le_refl _)).1
    have f3 : t.h * t.w ≤ 6 * 6 := Nat.mul_le_mul (by have := grid_small hg; omega) (by have := (grid_small hg2).2.2 _ (List.mem_of_getElem? hq0); omega)
    cases hb : (txtP (cellZ p) (t.one (true,k))).2
    ·skip
     simp (disch := omega) only [↓RU,RV,RH,↓reduceIte,reduceEqDiff,reduceCtorEq,if_pos,w64,Option.map_none,↓RS,RG,reduceAdd,reduceMul,reduceLeDiff,tyint,tystring,w8,str_add1,str_add2,Int.reduceAdd,Int.reduceToNat,List.take_succ_cons,List.take_zero,List.drop_zero,List.drop_succ_cons,List.length_append,List.length_cons,List.length_nil,hb]
     refine hK _ _ ?_;clear hK K
     refine W.ret ?_
     refine Br rfl ?_
     rw [txtP_cut hi h0 hq,hb]
     rfl
    ·skip
     simp (disch := omega) only [↓RU,RV,RH,↓reduceIte,reduceEqDiff,reduceCtorEq,if_pos,w64,Option.map_none,↓RS,RG,reduceAdd,reduceMul,reduceLeDiff,tyint,tystring,w8,str_add1,str_add2,Int.reduceAdd,Int.reduceToNat,List.take_succ_cons,List.take_zero,List.drop_zero,List.drop_succ_cons,List.length_append,List.length_cons,List.length_nil,hb]
     refine hK _ _ ?_;clear hK K
     refine W.ret ?_
     refine Br rfl ?_
     rw [txtP_cut hi h0 hq,hb]
     rfl
theorem l3Text_pc {p : List Txt} (hg : gridB p = true) : ∀ (n : Nat) {t : Pt},t.h * t.w ≤ n → t.In p.length (hdRow p).length → PC Tryz.prog 79 [eStrs (sub p t)] (.tup [.str (txtP (cellZ p) t).1,.bool (txtP (cellZ p) t).2]) true
 | 0,t,hn,hi => by have := Nat.mul_pos hi.1 hi.2.1; omega
 | n + 1,t,hn,hi => l3Text_go hg hi fun t' hi' ha => l3Text_pc hg n (by omega) hi'
def allPt (p : List Txt) : Pt := ⟨0,0,p.length,(hdRow p).length⟩
theorem sub_all {p : List Txt} (hg : gridB p = true) : sub p (allPt p) = p := by
 unfold sub allPt
 simp only [List.drop_zero,List.take_length]
 conv => rhs; rw [← List.map_id p]
 refine List.map_congr_left fun row hrow => ?_
 simp only [subRow,List.drop_zero,id_eq]
 rw [List.take_of_length_le (by rw [grid_rows hg row hrow]; exact Nat.le_refl _)]
theorem all_in {p : List Txt} (hg : gridB p = true) : (allPt p).In p.length (hdRow p).length := by
 have hsm := grid_small hg
 obtain ⟨row0,h0,hm0⟩ := get_of hsm.1
 have hw := row_pos hg h0
 rw [← hdRow_of h0] at hw
 exact ⟨hsm.1,hw,by simp [allPt],by simp [allPt]⟩
def cutB (p : List Txt) : Bool := planB p && (treeP (cellZ p) (allPt p)).isSome
theorem sCutIs_pc {p : List Txt} (hs : Sm p) : PC Tryz.prog 38 [eStrs p] (.bool (cutB p)) true := by
 refine PC.of ⟨Tryz.func38,by kernel_rfl,rfl,by kernel_rfl⟩ tabOk mixed (by show 1 ≤ Tryz.f38.ntmps; decide) ?_
 refine W.r fun K hK => ?_
 simp (disch := omega) only [↓RU,RV,RH,↓reduceIte,reduceEqDiff,reduceCtorEq,if_pos]
 refine hK _ _ ?_;clear hK K
 refine W.seq ?_
 refine W.r fun K hK => ?_
 simp (disch := omega) only [↓RU,RV,RH,↓reduceIte,reduceEqDiff,reduceCtorEq,if_pos,List.append_nil]
 refine CallR.pc (sPlanIn_pc hs) rfl (.inl rfl) ?_
 simp (disch := omega) only [↓RU,RV,RH,↓reduceIte,reduceEqDiff,reduceCtorEq,if_pos,List.append_nil]
 refine hK _ _ ?_;clear hK K
 refine W.cond rfl (fun h0 => ?_) (fun h0 => ?_)
 ·skip
  have h0 : planB p = false := by simpa using h0
  refine W.r fun K hK => ?_
  simp (disch := omega) only [↓RU,RV,RH,↓reduceIte,reduceEqDiff,reduceCtorEq,if_pos]
  refine hK _ _ ?_;clear hK K
  refine W.ret ?_
  refine XThen.ret ?_
  refine Br rfl ?_
  rw [show cutB p = false by simp [cutB,h0]]
  rfl
 ·skip
  have h0 : planB p = true := by simpa using h0
  have hg := planB_grid h0
  have hT := l3Text_pc hg _ (Nat.le_refl _) (all_in hg)
  rw [sub_all hg,(txt_facts (z := cellZ p) _ (all_in hg) (Nat.le_refl _)).2] at hT
  refine W.skip ?_
  refine xn ?_
  refine W.r fun K hK => ?_
  simp (disch := omega) only [↓RU,RV,RH,↓reduceIte,reduceEqDiff,reduceCtorEq,if_pos,List.append_nil]
  refine CallR.pc (hT) rfl (.inl rfl) ?_
  simp (disch := omega) only [↓RU,RV,RH,↓reduceIte,reduceEqDiff,reduceCtorEq,if_pos,List.append_nil]
  refine hK _ _ ?_;clear hK K
  refine W.r fun K hK => ?_
  simp (disch := omega) only [↓RU,RV,RH,↓reduceIte,reduceEqDiff,reduceCtorEq,if_pos]
  refine hK _ _ ?_;clear hK K
  refine W.ret ?_
  refine Br rfl ?_
  rw [show cutB p = (treeP (cellZ p) (allPt p)).isSome by simp [cutB,h0]]
  rfl
def foldR {α : Type} (enc : α → PV) (zero : PV) (room : Int → α) (cut : Bool → α → α → α) : Option CT → PV
 | some x => .tup [enc (x.fold room cut),.bool true]
 | none => .tup [zero,.bool false]
theorem foldR_tup {α : Type} {enc : α → PV} {zero : PV} {room : Int → α} {cut : Bool → α → α → α} (o : Option CT) : ∃ v b,foldR enc zero room cut o = .tup [v,.bool b] := by
 cases o with
 | none => exact ⟨_,_,rfl⟩
 | some x => exact ⟨_,_,rfl⟩
theorem tree_cases (a b : Option CT) : a = none ∨ (∃ x,a = some x ∧ b = none) ∨ ∃ x y,a = some x ∧ b = some y := by
 cases a <;> cases b <;> simp
theorem rooms_nine {p : List Txt} (hp : planB p = true) : (rP p).length ≤ 9 ∧ ∀ b ∈ rP p,b.Fit := by
 have hN := plan_named hp
 have h1 := hN.rooms
 have h2 : l1Rooms p ≤ 9 := by unfold planB at hp; simp only [Bool.and_eq_true,decide_eq_true_eq] at hp; exact hp.1.2
 have hsm := grid_small hN.hg
 obtain ⟨row0,hr0,hm0⟩ := get_of hsm.1
 have hh := hdRow_of hr0
 have hw6 := hsm.2.2 row0 hm0
 have hw1 := row_pos hN.hg hr0
 rw [← hh] at hw6 hw1
 have hok := (seRows_ok (g := readG p) hw6 hw1 p.length hsm.2.1).1
 rw [← rP_eq] at hok
 exact ⟨by omega,hok.2⟩
theorem part_fit {p : List Txt} (hp : planB p = true) {t : Pt} (h : t.In p.length (hdRow p).length) : t.rect.Fit := by
 have hg := plan_gw hp
 obtain ⟨g1,g2,g3,g4⟩ := hg.2.2
 unfold Pt.In at h
 simp only [Rect.Fit,Pt.rect]
 omega
theorem foldedInt_go {p : List Txt} (hp : planB p = true) {rf cf : FuncId} {rc cc : List PV} (hr9 : ∀ S,rc.mapM (reify S true 9) = some rc) (hr10 : ∀ S,rc.mapM (reify S true 10) = some rc) (hc9 : ∀ S,cc.mapM (reify S true 9) = some cc) (hc10 : ∀ S,cc.mapM (reify S true 10) = some cc)
  {room : Int → Int} {cut : Bool → Int → Int → Int} (hroom : ∀ a : Int,0 ≤ a → a < (rP p).length → PC Tryz.prog rf (.int .i64 a :: rc) ((fun x : Int => PV.int .i64 x) (room a)) true)
  (hcut : ∀ (t : Pt) q x y,Whole (cellZ p) p.length (hdRow p).length t → cutOf (cellZ p) t = some q → treeP (cellZ p) (t.one q) = some x → treeP (cellZ p) (t.two q) = some y → PC Tryz.prog cf (ePiece (gP p) (rP p) t q :: (fun x : Int => PV.int .i64 x) (x.fold room cut) :: (fun x : Int => PV.int .i64 x) (y.fold room cut) :: cc) ((fun x : Int => PV.int .i64 x) (cut q.1 (x.fold room cut) (y.fold room cut))) true) {t : Pt} (hw : Whole (cellZ p) p.length (hdRow p).length t) (ih : ∀ t' : Pt,Whole (cellZ p) p.length (hdRow p).length t' → t'.h * t'.w < t.h * t.w → PC Tryz.prog 34 [ePart (gP p) (rP p) t'.rect,.fn rf rc,.fn cf cc] (foldR (fun x : Int => PV.int .i64 x) (.int .i64 0) room cut (treeP (cellZ p) t')) true) : PC Tryz.prog 34 [ePart (gP p) (rP p) t.rect,.fn rf rc,.fn cf cc] (foldR (fun x : Int => PV.int .i64 x) (.int .i64 0) room cut (treeP (cellZ p) t)) true := by
 have hin := hw.inn
 unfold Pt.In at hin
 obtain ⟨hn9,hfit⟩ := rooms_nine hp
 have hv : 0 ≤ cellZ p t.r t.c ∧ cellZ p t.r t.c < (rP p).length := cell_room hp (by omega) (by omega)
 change PC _ _ [.agg [eFloor (gP p) (rP p),.int .i64 t.r,.int .i64 t.c,.int .i64 t.h,.int .i64 t.w],.fn rf rc,.fn cf cc] _ _
 refine PC.of ⟨Tryz.func34,by kernel_rfl,rfl,by kernel_rfl⟩ tabOk mixed (by show 3 ≤ Tryz.f34.ntmps; decide) ?_
 refine W.r fun K hK => ?_
 simp (disch := omega) only [↓RU,RV,RH,↓reduceIte,reduceEqDiff,reduceCtorEq,if_pos,↓RS,RG,reduceAdd,reduceMul,reduceLeDiff,ty7,ty13,ty15,tyint,ty21,ty28]
 refine hK _ _ ?_;clear hK K
 refine W.r fun K hK => ?_
 simp (disch := omega) only [↓RU,RV,RH,↓reduceIte,reduceEqDiff,reduceCtorEq,if_pos,↓RS,RG,reduceAdd,reduceMul,reduceLeDiff]
 refine hK _ _ ?_;clear hK K
 refine W.seq ?_
 refine W.r fun K hK => ?_
 cases h1 : oneZ (cellZ p) t
 ·skip
  have hmore := rms_more hp hw h1
  have hL := list_pc (gP p) (by omega) hfit (part_fit hp hw.inn)
  simp (disch := omega) only [↓RU,RV,RH,↓reduceIte,reduceEqDiff,reduceCtorEq,if_pos,List.append_nil,↓RS,RG,reduceAdd,reduceMul,reduceLeDiff,ty7,ty13,ty15,tyint,ty21,ty28]
  refine CallR.pc (hL) rfl (.inl rfl) ?_
  simp (disch := omega) only [↓RU,RV,RH,↓reduceIte,reduceEqDiff,reduceCtorEq,if_pos,List.append_nil,↓RS,RG,reduceAdd,reduceMul,reduceLeDiff,ty7,ty13,ty15,tyint,ty21,ty28]
  refine hK _ _ ?_;clear hK K
  refine W.r fun K hK => ?_
  simp (disch := omega) only [↓RU,RV,RH,↓reduceIte,reduceEqDiff,reduceCtorEq,if_pos,w64,↓RS,RG,reduceAdd,reduceMul,reduceLeDiff,tyLint,tyint]
  refine hK _ _ ?_;clear hK K
  refine W.cond rfl (fun h0 => ?_) (fun h0 => ?_)
  ·try simp only [RL] at h0
   exfalso; omega
  ·try simp only [RL] at h0
   refine W.skip ?_
   refine xn ?_
   refine W.r fun K hK => ?_
   rcases hq : cutOf (cellZ p) t with _ | q
   ·skip
    have hF : PC Tryz.prog 73 [ePart (gP p) (rP p) t.rect] (.tup [.agg [.bool false,.nilp,.int .i64 0,.int .i64 0,.int .i64 0,.int .i64 0,.nilp,.int .i64 0,.int .i64 0,.int .i64 0,.int .i64 0],.bool false]) false := by have h := first_pc hp hw.inn; simp only [firstV,hq] at h; exact h
    simp (disch := omega) only [↓RU,RV,RH,↓reduceIte,reduceEqDiff,reduceCtorEq,if_pos,List.append_nil,↓RS,RG,reduceAdd,reduceMul,reduceLeDiff,ty7,tybool,ty13,ty14,ty15,tyint,ty21,ty27,ty28]
    refine CallR.pc (hF) rfl (.inr rfl) ?_
    simp (disch := omega) only [↓RU,RV,RH,↓reduceIte,reduceEqDiff,reduceCtorEq,if_pos,List.append_nil,↓RS,RG,reduceAdd,reduceMul,reduceLeDiff,ty7,tybool,ty13,ty14,ty15,tyint,ty21,ty27,ty28]
    refine hK _ _ ?_;clear hK K
    refine W.seq ?_
    refine W.r fun K hK => ?_
    simp (disch := omega) only [↓RU,RV,RH,↓reduceIte,reduceEqDiff,reduceCtorEq,if_pos,↓RS,RG,reduceAdd,reduceMul,reduceLeDiff]
    refine hK _ _ ?_;clear hK K
    refine W.cond rfl (fun h2 => ?_) (fun h2 => ?_)
    ·try simp only [RL] at h2
     refine W.r fun K hK => ?_
     simp (disch := omega) only [↓RU,RV,RH,↓reduceIte,reduceEqDiff,reduceCtorEq,if_pos,↓RS,RG,reduceAdd,reduceMul,reduceLeDiff]
     refine hK _ _ ?_;clear hK K
     refine W.ret ?_
     refine XThen.ret ?_
     refine Br rfl ?_
     rw [treeP_none hw.inn h1 hq]
     rfl
    ·try simp only [RL] at h2
     exact absurd h2 (by simp)
   ·skip
    have hF : PC Tryz.prog 73 [ePart (gP p) (rP p) t.rect] (.tup [.agg [.bool q.1,eFloor (gP p) (rP p),.int .i64 (t.one q).r,.int .i64 (t.one q).c,.int .i64 (t.one q).h,.int .i64 (t.one q).w,eFloor (gP p) (rP p),.int .i64 (t.two q).r,.int .i64 (t.two q).c,.int .i64 (t.two q).h,.int .i64 (t.two q).w],.bool true]) false := by have h := first_pc hp hw.inn; simp only [firstV,hq] at h; exact h
    obtain ⟨i1,i2,a1,a2⟩ := hw.inn.cut hq
    obtain ⟨w1,w2⟩ := hw.cut (plan_rz hp) hq
    simp (disch := omega) only [↓RU,RV,RH,↓reduceIte,reduceEqDiff,reduceCtorEq,if_pos,List.append_nil,↓RS,RG,reduceAdd,reduceMul,reduceLeDiff,ty7,tybool,ty13,ty14,ty15,tyint,ty21,ty27,ty28]
    refine CallR.pc (hF) rfl (.inr rfl) ?_
    simp (disch := omega) only [↓RU,RV,RH,↓reduceIte,reduceEqDiff,reduceCtorEq,if_pos,List.append_nil,↓RS,RG,reduceAdd,reduceMul,reduceLeDiff,ty7,tybool,ty13,ty14,ty15,tyint,ty21,ty27,ty28]
    refine hK _ _ ?_;clear hK K
    refine W.seq ?_
    refine W.r fun K hK => ?_
    simp (disch := omega) only [↓RU,RV,RH,↓reduceIte,reduceEqDiff,reduceCtorEq,if_pos,↓RS,RG,reduceAdd,reduceMul,reduceLeDiff]
    refine hK _ _ ?_;clear hK K
    refine W.cond rfl (fun h2 => ?_) (fun h2 => ?_)
    ·try simp only [RL] at h2
     exact absurd h2 (by simp)
    ·try simp only [RL] at h2
     refine W.skip ?_
     refine xn ?_
     refine W.r fun K hK => ?_
     obtain hx1 | ⟨x1,hx1,hx2⟩ | ⟨x1,x2,hx1,hx2⟩ := tree_cases (treeP (cellZ p) (t.one q)) (treeP (cellZ p) (t.two q))
     ·skip
      have hI1 := ih (t.one q) w1 a1
      have hI2 := ih (t.two q) w2 a2
      simp only [foldR,hx1] at hI1
      obtain ⟨v2,b2,e2⟩ := foldR_tup (enc := (fun x : Int => PV.int .i64 x)) (zero := (.int .i64 0)) (room := room) (cut := cut) (treeP (cellZ p) (t.two q))
      rw [e2] at hI2
      simp (disch := omega) only [↓RU,RV,RH,↓reduceIte,reduceEqDiff,reduceCtorEq,if_pos,List.append_nil,↓RS,RG,reduceAdd,reduceMul,reduceLeDiff,ty7,tybool,ty13,ty14,ty15,tyint,ty21,ty27,ty28]
      refine CallR.pc (hI1) (mapM_one rfl (mapM_one (by rw [reify_fn,hr9]; rfl) (mapM_one (by rw [reify_fn,hc9]; rfl) rfl))) (.inl rfl) ?_
      simp (disch := omega) only [↓RU,RV,RH,↓reduceIte,reduceEqDiff,reduceCtorEq,if_pos,List.append_nil,↓RS,RG,reduceAdd,reduceMul,reduceLeDiff,ty7,tybool,ty13,ty14,ty15,tyint,ty21,ty27,ty28]
      refine hK _ _ ?_;clear hK K
      refine W.r fun K hK => ?_
      simp (disch := omega) only [↓RU,RV,RH,↓reduceIte,reduceEqDiff,reduceCtorEq,if_pos,List.append_nil,↓RS,RG,reduceAdd,reduceMul,reduceLeDiff,ty7,tybool,ty13,ty14,ty15,tyint,ty21,ty27,ty28]
      refine CallR.pc (hI2) (mapM_one rfl (mapM_one (by rw [reify_fn,hr9]; rfl) (mapM_one (by rw [reify_fn,hc9]; rfl) rfl))) (.inl rfl) ?_
      simp (disch := omega) only [↓RU,RV,RH,↓reduceIte,reduceEqDiff,reduceCtorEq,if_pos,List.append_nil,↓RS,RG,reduceAdd,reduceMul,reduceLeDiff,ty7,tybool,ty13,ty14,ty15,tyint,ty21,ty27,ty28]
      refine hK _ _ ?_;clear hK K
      refine W.seq ?_
      refine W.r fun K hK => ?_
      simp (disch := omega) only [↓RU,RV,RH,↓reduceIte,reduceEqDiff,reduceCtorEq,if_pos,↓RS,RG,reduceAdd,reduceMul,reduceLeDiff]
      refine hK _ _ ?_;clear hK K
      refine W.cond rfl (fun h3 => ?_) (fun h3 => ?_)
      ·try simp only [RL] at h3
       refine W.r fun K hK => ?_
       simp (disch := omega) only [↓RU,RV,RH,↓reduceIte,reduceEqDiff,reduceCtorEq,if_pos,↓RS,RG,reduceAdd,reduceMul,reduceLeDiff]
       refine hK _ _ ?_;clear hK K
       refine W.ret ?_
       refine XThen.ret ?_
       refine Br rfl ?_
       rw [treeP_cut hw.inn h1 hq,hx1]
       rfl
      ·try simp only [RL] at h3
       exact absurd h3 (by simp)
     ·skip
      have hI1 := ih (t.one q) w1 a1
      have hI2 := ih (t.two q) w2 a2
      simp only [foldR,hx1] at hI1
      simp only [foldR,hx2] at hI2
      simp (disch := omega) only [↓RU,RV,RH,↓reduceIte,reduceEqDiff,reduceCtorEq,if_pos,List.append_nil,↓RS,RG,reduceAdd,reduceMul,reduceLeDiff,ty7,tybool,ty13,ty14,ty15,tyint,ty21,ty27,ty28]
      refine CallR.pc (hI1) (mapM_one rfl (mapM_one (by rw [reify_fn,hr9]; rfl) (mapM_one (by rw [reify_fn,hc9]; rfl) rfl))) (.inl rfl) ?_
      simp (disch := omega) only [↓RU,RV,RH,↓reduceIte,reduceEqDiff,reduceCtorEq,if_pos,List.append_nil,↓RS,RG,reduceAdd,reduceMul,reduceLeDiff,ty7,tybool,ty13,ty14,ty15,tyint,ty21,ty27,ty28]
      refine hK _ _ ?_;clear hK K
      refine W.r fun K hK => ?_
      simp (disch := omega) only [↓RU,RV,RH,↓reduceIte,reduceEqDiff,reduceCtorEq,if_pos,List.append_nil,↓RS,RG,reduceAdd,reduceMul,reduceLeDiff,ty7,tybool,ty13,ty14,ty15,tyint,ty21,ty27,ty28]
      refine CallR.pc (hI2) (mapM_one rfl (mapM_one (by rw [reify_fn,hr9]; rfl) (mapM_one (by rw [reify_fn,hc9]; rfl) rfl))) (.inl rfl) ?_
      simp (disch := omega) only [↓RU,RV,RH,↓reduceIte,reduceEqDiff,reduceCtorEq,if_pos,List.append_nil,↓RS,RG,reduceAdd,reduceMul,reduceLeDiff,ty7,tybool,ty13,ty14,ty15,tyint,ty21,ty27,ty28]
      refine hK _ _ ?_;clear hK K
      refine W.seq ?_
      refine W.r fun K hK => ?_
      simp (disch := omega) only [↓RU,RV,RH,↓reduceIte,reduceEqDiff,reduceCtorEq,if_pos,↓RS,RG,reduceAdd,reduceMul,reduceLeDiff]
      refine hK _ _ ?_;clear hK K
      refine W.cond rfl (fun h3 => ?_) (fun h3 => ?_)
      ·try simp only [RL] at h3
       refine W.r fun K hK => ?_
       simp (disch := omega) only [↓RU,RV,RH,↓reduceIte,reduceEqDiff,reduceCtorEq,if_pos,↓RS,RG,reduceAdd,reduceMul,reduceLeDiff]
       refine hK _ _ ?_;clear hK K
       refine W.ret ?_
       refine XThen.ret ?_
       refine Br rfl ?_
       rw [treeP_cut hw.inn h1 hq,hx1,hx2]
       rfl
      ·try simp only [RL] at h3
       exact absurd h3 (by simp)
     ·skip
      have hI1 := ih (t.one q) w1 a1
      have hI2 := ih (t.two q) w2 a2
      simp only [foldR,hx1] at hI1
      simp only [foldR,hx2] at hI2
      simp (disch := omega) only [↓RU,RV,RH,↓reduceIte,reduceEqDiff,reduceCtorEq,if_pos,List.append_nil,↓RS,RG,reduceAdd,reduceMul,reduceLeDiff,ty7,tybool,ty13,ty14,ty15,tyint,ty21,ty27,ty28]
      refine CallR.pc (hI1) (mapM_one rfl (mapM_one (by rw [reify_fn,hr9]; rfl) (mapM_one (by rw [reify_fn,hc9]; rfl) rfl))) (.inl rfl) ?_
      simp (disch := omega) only [↓RU,RV,RH,↓reduceIte,reduceEqDiff,reduceCtorEq,if_pos,List.append_nil,↓RS,RG,reduceAdd,reduceMul,reduceLeDiff,ty7,tybool,ty13,ty14,ty15,tyint,ty21,ty27,ty28]
      refine hK _ _ ?_;clear hK K
      refine W.r fun K hK => ?_
      simp (disch := omega) only [↓RU,RV,RH,↓reduceIte,reduceEqDiff,reduceCtorEq,if_pos,List.append_nil,↓RS,RG,reduceAdd,reduceMul,reduceLeDiff,ty7,tybool,ty13,ty14,ty15,tyint,ty21,ty27,ty28]
      refine CallR.pc (hI2) (mapM_one rfl (mapM_one (by rw [reify_fn,hr9]; rfl) (mapM_one (by rw [reify_fn,hc9]; rfl) rfl))) (.inl rfl) ?_
      simp (disch := omega) only [↓RU,RV,RH,↓reduceIte,reduceEqDiff,reduceCtorEq,if_pos,List.append_nil,↓RS,RG,reduceAdd,reduceMul,reduceLeDiff,ty7,tybool,ty13,ty14,ty15,tyint,ty21,ty27,ty28]
      refine hK _ _ ?_;clear hK K
      refine W.seq ?_
      refine W.r fun K hK => ?_
      simp (disch := omega) only [↓RU,RV,RH,↓reduceIte,reduceEqDiff,reduceCtorEq,if_pos,↓RS,RG,reduceAdd,reduceMul,reduceLeDiff]
      refine hK _ _ ?_;clear hK K
      refine W.cond rfl (fun h3 => ?_) (fun h3 => ?_)
      ·try simp only [RL] at h3
       exact absurd h3 (by simp)
      ·try simp only [RL] at h3
       refine W.skip ?_
       refine xn ?_
       refine W.r fun K hK => ?_
       simp (disch := omega) only [↓RU,RV,RH,↓reduceIte,reduceEqDiff,reduceCtorEq,if_pos,List.append_nil,↓RS,RG,reduceAdd,reduceMul,reduceLeDiff,ty7,tybool,ty13,ty14,ty15,tyint,ty21,ty27,ty28]
       refine CallR.pc (hcut t q x1 x2 hw hq hx1 hx2) (mapM_one rfl (mapM_one rfl (mapM_one rfl (hc10 _)))) (.inl rfl) ?_
       simp (disch := omega) only [↓RU,RV,RH,↓reduceIte,reduceEqDiff,reduceCtorEq,if_pos,List.append_nil,↓RS,RG,reduceAdd,reduceMul,reduceLeDiff,ty7,tybool,ty13,ty14,ty15,tyint,ty21,ty27,ty28]
       refine hK _ _ ?_;clear hK K
       refine W.ret ?_
       refine Br rfl ?_
       rw [treeP_cut hw.inn h1 hq,hx1,hx2]
       rfl
 ·skip
  have hL : PC Tryz.prog 72 [ePart (gP p) (rP p) t.rect] (.sl [.int .i64 (cellZ p t.r t.c)] 1) true := by have h := list_pc (gP p) (by omega) hfit (part_fit hp hw.inn); rw [rms_one hp hw h1] at h; exact h
  have hv := cell_room hp (i := t.r) (j := t.c) (by omega) (by omega)
  simp (disch := omega) only [↓RU,RV,RH,↓reduceIte,reduceEqDiff,reduceCtorEq,if_pos,List.append_nil,↓RS,RG,reduceAdd,reduceMul,reduceLeDiff,ty7,ty13,ty15,tyint,ty21,ty28]
  refine CallR.pc (hL) rfl (.inl rfl) ?_
  simp (disch := omega) only [↓RU,RV,RH,↓reduceIte,reduceEqDiff,reduceCtorEq,if_pos,List.append_nil,↓RS,RG,reduceAdd,reduceMul,reduceLeDiff,ty7,ty13,ty15,tyint,ty21,ty28]
  refine hK _ _ ?_;clear hK K
  refine W.r fun K hK => ?_
  simp (disch := omega) only [↓RU,RV,RH,↓reduceIte,reduceEqDiff,reduceCtorEq,if_pos,w64,↓RS,RG,reduceAdd,reduceMul,reduceLeDiff,tyLint,tyint]
  refine hK _ _ ?_;clear hK K
  refine W.cond rfl (fun h0 => ?_) (fun h0 => ?_)
  ·try simp only [RL] at h0
   refine W.r fun K hK => ?_
   simp (disch := omega) only [↓RU,RV,RH,↓reduceIte,reduceEqDiff,reduceCtorEq,if_pos,List.append_nil,↓RS,RG,reduceAdd,reduceMul,reduceLeDiff,tyLint,tyint,Int.toNat_zero,Nat.zero_mul,Int.reduceToNat,List.getElem?_cons_zero]
   refine CallR.pc (hroom _ hv.1 hv.2) (mapM_one rfl (hr10 _)) (.inl rfl) ?_
   simp (disch := omega) only [↓RU,RV,RH,↓reduceIte,reduceEqDiff,reduceCtorEq,if_pos,List.append_nil,↓RS,RG,reduceAdd,reduceMul,reduceLeDiff,tyLint,tyint,Int.toNat_zero,Nat.zero_mul,Int.reduceToNat,List.getElem?_cons_zero]
   refine hK _ _ ?_;clear hK K
   refine W.ret ?_
   refine XThen.ret ?_
   refine Br rfl ?_
   rw [treeP_one hw.inn h1]
   rfl
  ·try simp only [RL] at h0
   exact absurd h0 (by simp)
theorem foldedInt_pc {p : List Txt} (hp : planB p = true) {rf cf : FuncId} {rc cc : List PV} (hr9 : ∀ S,rc.mapM (reify S true 9) = some rc) (hr10 : ∀ S,rc.mapM (reify S true 10) = some rc) (hc9 : ∀ S,cc.mapM (reify S true 9) = some cc) (hc10 : ∀ S,cc.mapM (reify S true 10) = some cc)
  {room : Int → Int} {cut : Bool → Int → Int → Int} (hroom : ∀ a : Int,0 ≤ a → a < (rP p).length → PC Tryz.prog rf (.int .i64 a :: rc) ((fun x : Int => PV.int .i64 x) (room a)) true)
  (hcut : ∀ (t : Pt) q x y,Whole (cellZ p) p.length (hdRow p).length t → cutOf (cellZ p) t = some q → treeP (cellZ p) (t.one q) = some x → treeP (cellZ p) (t.two q) = some y → PC Tryz.prog cf (ePiece (gP p) (rP p) t q :: (fun x : Int => PV.int .i64 x) (x.fold room cut) :: (fun x : Int => PV.int .i64 x) (y.fold room cut) :: cc) ((fun x : Int => PV.int .i64 x) (cut q.1 (x.fold room cut) (y.fold room cut))) true) : ∀ (n : Nat) {t : Pt},t.h * t.w ≤ n → Whole (cellZ p) p.length (hdRow p).length t → PC Tryz.prog 34 [ePart (gP p) (rP p) t.rect,.fn rf rc,.fn cf cc] (foldR (fun x : Int => PV.int .i64 x) (.int .i64 0) room cut (treeP (cellZ p) t)) true
 | 0,t,hn,hw => by have := Nat.mul_pos hw.inn.1 hw.inn.2.1; omega
 | n + 1,t,hn,hw => foldedInt_go hp hr9 hr10 hc9 hc10 hroom hcut hw fun t' hw' ha => foldedInt_pc hp hr9 hr10 hc9 hc10 hroom hcut n (by omega) hw'
theorem needing_ev {p : List Txt} (hs : Sm p) {wss : List (List Int)} (hn : wss.length ≤ 1000) (hw : ∀ ws ∈ wss,ws.length ≤ 1048576) {wv t : Nat} : Ev Tryz.prog 32 [eStrs p,.loc 0 wv 0 wss.length] ⟨[.arr wv 24 1 (wss.map eInts)],t⟩ fun v S => ∃ x,v = .tup [x,.bool (needV p wss)] ∧ ((needV p wss) = true → x = eFloor (gP p) (rP p)) ∧ S = ⟨[.arr wv 24 1 (wss.map eInts)],t⟩ := by
 obtain ⟨x,hx,hxy,hxr⟩ := plainOf_ex hs
 refine Ev.of ⟨Tryz.func32,by kernel_rfl,rfl,by kernel_rfl⟩ tabOk mixed (by show 2 ≤ Tryz.f32.ntmps; decide) ?_
 refine W.r fun K hK => ?_
 simp (disch := omega) only [↓RU,RV,RH,↓reduceIte,reduceEqDiff,reduceCtorEq,if_pos,↓RS,RG,reduceAdd,reduceMul,reduceLeDiff]
 refine hK _ _ ?_;clear hK K
 refine W.r fun K hK => ?_
 simp (disch := omega) only [↓RU,RV,RH,↓reduceIte,reduceEqDiff,reduceCtorEq,if_pos,List.append_nil,↓RS,RG,reduceAdd,reduceMul,reduceLeDiff]
 refine CallR.pc (hx) rfl (.inr rfl) ?_
 simp (disch := omega) only [↓RU,RV,RH,↓reduceIte,reduceEqDiff,reduceCtorEq,if_pos,List.append_nil,↓RS,RG,reduceAdd,reduceMul,reduceLeDiff]
 refine hK _ _ ?_;clear hK K
 refine W.seq ?_
 refine W.r fun K hK => ?_
 simp (disch := omega) only [↓RU,RV,RH,↓reduceIte,reduceEqDiff,reduceCtorEq,if_pos,↓RS,RG,reduceAdd,reduceMul,reduceLeDiff]
 refine hK _ _ ?_;clear hK K
 refine W.cond rfl (fun h => ?_) (fun h => ?_)
 ·try simp only [RL] at h
  refine W.r fun K hK => ?_
  simp (disch := omega) only [↓RU,RV,RH,↓reduceIte,reduceEqDiff,reduceCtorEq,if_pos,↓RS,RG,reduceAdd,reduceMul,reduceLeDiff]
  refine hK _ _ ?_;clear hK K
  refine W.ret ?_
  refine XThen.ret ?_
  refine Br rfl ?_
  exact ⟨_,_,by rw [needV,h]; rfl,fun h9 => absurd h9 (by unfold needV; rw [h]; exact Bool.false_ne_true),take_all⟩
 ·try simp only [RL] at h
  obtain rfl := hxy h
  refine W.skip ?_
  refine xn ?_
  refine W.r fun K hK => ?_
  simp (disch := omega) only [↓RU,RV,RH,↓reduceIte,reduceEqDiff,reduceCtorEq,if_pos,↓RS,RG,reduceAdd,reduceMul,reduceLeDiff]
  refine hK _ _ ?_;clear hK K
  refine W.seq ?_
  refine W.r fun K hK => ?_
  simp (disch := omega) only [↓RU,RV,RH,↓reduceIte,reduceEqDiff,reduceCtorEq,if_pos,↓RS,RG,reduceAdd,reduceMul,reduceLeDiff,ty1,tyLint,tyint,cells_fn,ic_fn]
  refine hK _ _ ?_;clear hK K
  refine W.block ?_
  refine W.loop [6,8,18,19,20] (fun n vs S => ∃ i : Nat,n = wss.length - i ∧ i ≤ wss.length ∧ ((wss.take i).all (needW p) = true) ∧ vs = [eFloor (gP p) (rP p),.fn 70 [],.loc 0 wv 0 wss.length,.int .i64 wss.length,.int .i64 i] ∧ S = ⟨[.arr wv 24 1 (wss.map eInts)],t⟩) (wss.length) ?_ ?_
  ·refine ⟨1,0,rfl,Nat.zero_le _,rfl,?_,rfl⟩
   simp [Env.put,Env.of,argEnv]
  rintro n vs S - ⟨i,rfl,h_i,hall,rfl,rfl⟩
  refine W.r fun K hK => ?_
  simp (disch := omega) only [↓RU,RV,RH,↓reduceIte,reduceEqDiff,reduceCtorEq,if_pos,w64,↓RS,RG,reduceAdd,reduceMul,reduceLeDiff,tyint]
  refine hK _ _ ?_;clear hK K
  refine W.seq ?_
  refine W.cond rfl (fun h1 => ?_) (fun h1 => ?_)
  ·try simp only [RL] at h1
   obtain ⟨ws,hws,hwm⟩ := get_of (show i < wss.length by omega)
   have hwl := hw ws hwm
   obtain ⟨hokp,-⟩ := plain_okB h
   have hrp : (rP p).length ≤ 1000 := by have := okB_rooms hokp; omega
   refine W.skip ?_
   refine xn ?_
   refine W.seq ?_
   refine W.block ?_
   refine W.r fun K hK => ?_
   simp (disch := omega) only [↓RU,RV,RH,↓reduceIte,reduceEqDiff,reduceCtorEq,if_pos,↓RS,RG,reduceAdd,reduceMul,reduceLeDiff,ty1,tyLint,tyint,hws]
   refine hK _ _ ?_;clear hK K
   refine W.r fun K hK => ?_
   by_cases hlen : ws.length = (rP p).length
   ·skip
    have hd : ((ws.length : Int) != ((rP p).length : Int)) = false := by rw [hlen]; simp
    simp (disch := omega) only [↓RU,RV,RH,↓reduceIte,reduceEqDiff,reduceCtorEq,if_pos,w64,List.append_nil,↓RS,RG,reduceAdd,reduceMul,reduceLeDiff,ty1,ty3,tyLint,ty10,ty11,ty15,tyint,ty24,ty28,hd,rcs_len]
    refine CallR.pc (containsInt_pc (l := ws) (by omega) (g := 70) (cap := []) rfl rfl (test := fun n => !needB n) (fun n _ => needing1_pc n)) rfl (.inl rfl) ?_
    simp (disch := omega) only [↓RU,RV,RH,↓reduceIte,reduceEqDiff,reduceCtorEq,if_pos,w64,List.append_nil,↓RS,RG,reduceAdd,reduceMul,reduceLeDiff,ty1,ty3,tyLint,ty10,ty11,ty15,tyint,ty24,ty28,hd,rcs_len]
    refine hK _ _ ?_;clear hK K
    refine W.cond rfl (fun h2 => ?_) (fun h2 => ?_)
    ·try simp only [RL] at h2
     have hok : needW p ws = false := by unfold needW; rw [List.all_eq_not_any_not,h2]; simp
     refine W.r fun K hK => ?_
     simp (disch := omega) only [↓RU,RV,RH,↓reduceIte,reduceEqDiff,reduceCtorEq,if_pos,↓RS,RG,reduceAdd,reduceMul,reduceLeDiff]
     refine hK _ _ ?_;clear hK K
     refine W.ret ?_
     refine XBlock.ret ?_
     refine XThen.ret ?_
     refine XThen.ret ?_
     refine XBlock.ret ?_
     refine XThen.ret ?_
     refine Br rfl ?_
     exact ⟨_,_,by rw [needV_no hwm hok]; rfl,fun h9 => absurd h9 (by rw [needV_no hwm hok]; exact Bool.false_ne_true),take_all⟩
    ·try simp only [RL] at h2
     have hok : needW p ws = true := by unfold needW; rw [decide_eq_true hlen,List.all_eq_not_any_not]; simpa using h2
     refine W.skip ?_
     refine XbN ?_
     refine xn ?_
     refine W.k fun K hK => ?_
     simp (disch := omega) only [↓RU,RV,RH,↓reduceIte,reduceEqDiff,reduceCtorEq,if_pos,w64,↓RS,RG,reduceAdd,reduceMul,reduceLeDiff,tyint]
     refine hK _ _ ?_;clear hK K
     refine xn ?_
     refine ⟨wss.length - (i + 1),by omega,1,i + 1,rfl,by omega,all_tk hws hall hok,?_,rfl⟩
     simp [Env.put,Env.of]
   ·skip
    have hd : ((ws.length : Int) != ((rP p).length : Int)) = true := by simp; omega
    simp (disch := omega) only [↓RU,RV,RH,↓reduceIte,reduceEqDiff,reduceCtorEq,if_pos,w64,List.append_nil,↓RS,RG,reduceAdd,reduceMul,reduceLeDiff,ty1,ty3,tyLint,ty10,ty11,ty15,tyint,ty24,ty28,hd,rcs_len]
    refine hK _ _ ?_;clear hK K
    refine W.cond rfl (fun h2 => ?_) (fun h2 => ?_)
    ·try simp only [RL] at h2
     have hok : needW p ws = false := by unfold needW; rw [decide_eq_false hlen]; rfl
     refine W.r fun K hK => ?_
     simp (disch := omega) only [↓RU,RV,RH,↓reduceIte,reduceEqDiff,reduceCtorEq,if_pos,↓RS,RG,reduceAdd,reduceMul,reduceLeDiff]
     refine hK _ _ ?_;clear hK K
     refine W.ret ?_
     refine XBlock.ret ?_
     refine XThen.ret ?_
     refine XThen.ret ?_
     refine XBlock.ret ?_
     refine XThen.ret ?_
     refine Br rfl ?_
     exact ⟨_,_,by rw [needV_no hwm hok]; rfl,fun h9 => absurd h9 (by rw [needV_no hwm hok]; exact Bool.false_ne_true),take_all⟩
    ·try simp only [RL] at h2
     exact absurd h2 (by simp)
  ·try simp only [RL] at h1
   obtain rfl : wss.length = i := by omega
   rw [List.take_length] at hall
   refine W.exit ?_
   refine xe ?_
   refine xe ?_
   refine XBlock.hit ?_
   refine xn ?_
   refine W.r fun K hK => ?_
   simp (disch := omega) only [↓RU,RV,RH,↓reduceIte,reduceEqDiff,reduceCtorEq,if_pos,↓RS,RG,reduceAdd,reduceMul,reduceLeDiff]
   refine hK _ _ ?_;clear hK K
   refine W.ret ?_
   refine Br rfl ?_
   exact ⟨_,_,by rw [needV,h,hall]; rfl,fun _ => rfl,take_all⟩
theorem l7Needs_pc {p : List Txt} (hs : Sm p) {needs : List Int} (hn : needs.length ≤ 1048576) : PC Tryz.prog 37 [eStrs p,eInts needs] (.bool (needsB p needs)) true := by
 refine PC.of ⟨Tryz.func37,by kernel_rfl,rfl,by kernel_rfl⟩ tabOk mixed (by show 2 ≤ Tryz.f37.ntmps; decide) ?_
 refine W.r fun K hK => ?_
 simp (disch := omega) only [↓RU,RV,RH,↓reduceIte,reduceEqDiff,reduceCtorEq,if_pos]
 refine hK _ _ ?_;clear hK K
 refine W.seq ?_
 refine W.r fun K hK => ?_
 cases hg : plainB p
 ·skip
  simp (disch := omega) only [↓RU,RV,RH,↓reduceIte,reduceEqDiff,reduceCtorEq,if_pos,List.append_nil,w64,tyLint,tyint,hg]
  refine CallR.pc (l5Plain_pc hs) rfl (.inl rfl) ?_
  simp (disch := omega) only [↓RU,RV,RH,↓reduceIte,reduceEqDiff,reduceCtorEq,if_pos,List.append_nil,w64,tyLint,tyint,hg]
  refine hK _ _ ?_;clear hK K
  refine W.cond rfl (fun h0 => ?_) (fun h0 => ?_)
  ·try simp only [RL] at h0
   refine W.r fun K hK => ?_
   simp (disch := omega) only [↓RU,RV,RH,↓reduceIte,reduceEqDiff,reduceCtorEq,if_pos]
   refine hK _ _ ?_;clear hK K
   refine W.ret ?_
   refine XThen.ret ?_
   refine Br rfl ?_
   rw [needsB,hg]
   rfl
  ·try simp only [RL] at h0
   exact absurd h0 (by simp)
 ·skip
  simp (disch := omega) only [↓RU,RV,RH,↓reduceIte,reduceEqDiff,reduceCtorEq,if_pos,List.append_nil,w64,tyLint,tyint,hg]
  refine CallR.pc (l5Plain_pc hs) rfl (.inl rfl) ?_
  simp (disch := omega) only [↓RU,RV,RH,↓reduceIte,reduceEqDiff,reduceCtorEq,if_pos,List.append_nil,w64,tyLint,tyint,hg]
  refine CallR.pc (l1Rooms_pc hs) rfl (.inl rfl) ?_
  simp (disch := omega) only [↓RU,RV,RH,↓reduceIte,reduceEqDiff,reduceCtorEq,if_pos,List.append_nil,w64,tyLint,tyint,hg]
  refine hK _ _ ?_;clear hK K
  refine W.cond rfl (fun h1 => ?_) (fun h1 => ?_)
  ·try simp only [RL] at h1
   refine W.r fun K hK => ?_
   simp (disch := omega) only [↓RU,RV,RH,↓reduceIte,reduceEqDiff,reduceCtorEq,if_pos]
   refine hK _ _ ?_;clear hK K
   refine W.ret ?_
   refine XThen.ret ?_
   refine Br rfl ?_
   rw [show needsB p needs = false by simp [needsB,h1]]
   rfl
  ·try simp only [RL] at h1
   refine W.skip ?_
   refine xn ?_
   refine W.seq ?_
   refine W.r fun K hK => ?_
   simp (disch := omega) only [↓RU,RV,RH,↓reduceIte,reduceEqDiff,reduceCtorEq,if_pos]
   refine hK _ _ ?_;clear hK K
   refine W.block ?_
   refine W.loop [0,1,5] (fun n vs S => ∃ i : Nat,n = needs.length - i ∧ i ≤ needs.length ∧ ((needs.take i).all needB = true) ∧ vs = [eStrs p,eInts needs,.int .i64 i] ∧ S = ⟨[],0⟩) (needs.length) ?_ ?_
   ·refine ⟨0,0,rfl,Nat.zero_le _,rfl,?_,rfl⟩
    simp [Env.put,Env.of,argEnv]
   rintro n vs S - ⟨i,rfl,h_i,hall,rfl,rfl⟩
   refine W.seq ?_
   refine W.r fun K hK => ?_
   simp (disch := omega) only [↓RU,RV,RH,↓reduceIte,reduceEqDiff,reduceCtorEq,if_pos,w64,tyLint,tyint]
   refine hK _ _ ?_;clear hK K
   refine W.cond rfl (fun h2 => ?_) (fun h2 => ?_)
   ·try simp only [RL] at h2
    obtain ⟨x,hx,hxm⟩ := get_of (show i < needs.length by omega)
    refine W.skip ?_
    refine xn ?_
    refine W.seq ?_
    refine W.block ?_
    refine W.r fun K hK => ?_
    simp (disch := omega) only [↓RU,RV,RH,↓reduceIte,reduceEqDiff,reduceCtorEq,if_pos,List.append_nil,tyLint,tyint,hx]
    refine CallR.pc (l6In_pc _ _ _) rfl (.inl rfl) ?_
    simp (disch := omega) only [↓RU,RV,RH,↓reduceIte,reduceEqDiff,reduceCtorEq,if_pos,List.append_nil,tyLint,tyint,hx]
    refine hK _ _ ?_;clear hK K
    refine W.cond rfl (fun h3 => ?_) (fun h3 => ?_)
    ·try simp only [RL] at h3
     refine W.r fun K hK => ?_
     simp (disch := omega) only [↓RU,RV,RH,↓reduceIte,reduceEqDiff,reduceCtorEq,if_pos]
     refine hK _ _ ?_;clear hK K
     refine W.ret ?_
     refine XBlock.ret ?_
     refine XThen.ret ?_
     refine XThen.ret ?_
     refine XBlock.ret ?_
     refine XThen.ret ?_
     refine Br rfl ?_
     rw [show needsB p needs = false by unfold needsB; rw [show needs.all needB = false from List.all_eq_false.2 ⟨x,hxm,by simpa [needB] using h3⟩]; simp]
     rfl
    ·try simp only [RL] at h3
     refine W.skip ?_
     refine XbN ?_
     refine xn ?_
     refine W.k fun K hK => ?_
     simp (disch := omega) only [↓RU,RV,RH,↓reduceIte,reduceEqDiff,reduceCtorEq,if_pos,w64,tyint]
     refine hK _ _ ?_;clear hK K
     refine xn ?_
     refine ⟨needs.length - (i + 1),by omega,0,i + 1,rfl,by omega,all_tk hx (by assumption) (by simpa [needB] using h3),?_,rfl⟩
     simp [Env.put,Env.of]
   ·try simp only [RL] at h2
    refine W.exit ?_
    refine xe ?_
    refine xe ?_
    refine XBlock.hit ?_
    refine xn ?_
    refine W.r fun K hK => ?_
    simp (disch := omega) only [↓RU,RV,RH,↓reduceIte,reduceEqDiff,reduceCtorEq,if_pos]
    refine hK _ _ ?_;clear hK K
    refine W.ret ?_
    refine Br rfl ?_
    have hip : needs.take i = needs := List.take_of_length_le (by omega)
    rw [hip] at hall
    rw [show needsB p needs = true by simp only [needsB,hg,hall,h1,decide_true,Bool.and_self]]
    rfl
section
theorem hv_at {M : List (List Bool)} {ws : List Int} {n b : Nat} (hb : b < n) : (heaviest M ws n)[b]? = some (HB M ws n b) := by simp [heaviest,hb]
section
variable {M : List (List Bool)} {ms : List Nat} {ws : List Int} {n : Nat} {rk : Nat → Nat}
def revM (n : Nat) (M : List (List Bool)) : List (List Bool) := (List.range n).map fun a => (List.range n).map fun b => getB M b a
def bhB (sets : List Nat) (needs : List Int) (a : Nat) (out : List Int) (b : Nat) : List Int :=
 if bitOf sets a b then out.set a (max (getI out a) (getI out b + getI needs b)) else out
def bhA (sets : List Nat) (needs : List Int) (out : List Int) (a : Nat) : List Int := (List.range needs.length).foldl (bhB sets needs a) out
def bhN (sets : List Nat) (needs : List Int) (out : List Int) (_ : Nat) : List Int := (List.range needs.length).foldl (bhA sets needs) out
def behind (sets : List Nat) (needs : List Int) : List Int := (List.range needs.length).foldl (bhN sets needs) (List.replicate needs.length 0)
end
theorem plan_same {p : List Txt} {ws : List Int} (h : needV p [ws] = true) : Same (rP p).length (leftG (gP p) p.length (w0 (readG p)) (rP p).length) (allS p 0) ∧ Same (rP p).length (aboveG (gP p) p.length (w0 (readG p)) (rP p).length) (allS p 1) ∧
  Up (leftG (gP p) p.length (w0 (readG p)) (rP p).length) (rP p).length (rkL p) ∧ Up (aboveG (gP p) p.length (w0 (readG p)) (rP p).length) (rP p).length (rkA p) ∧ ws.length = (rP p).length ∧ 1 ≤ (rP p).length ∧ NeedOk ws := by
 obtain ⟨h1,h2,h3⟩ := needV_one h
 have hok : okB p = true := by
  have h9 := h1
  unfold plainI floorI at h9
  simp only [Bool.and_eq_true] at h9
  exact h9.1.1
 have hn1 := okB_rooms1 hok
 rw [plainI_plain] at h1
 have hp := plain_plan h1
 have hN := plan_named hp
 obtain ⟨u0,u1⟩ := plan_up hp
 have hr := hN.rooms
 obtain ⟨s0,s1⟩ := same_all hN.hg (n := (rP p).length) (by omega) (fun i j hi hj => hN.cell hi hj) gP_room
 rw [w0_read]
 exact ⟨s0,s1,u0,u1,h2,hn1,h3⟩
end
def domB (x : Int × Int) (w h : Int) : Bool := decide (x.1 ≤ w) && decide (x.2 ≤ h)
def putStep (w h : Int) (s : List (Int × Int) × Bool) (x : Int × Int) : List (Int × Int) × Bool :=
 if w ≤ x.1 ∧ h ≤ x.2 then s else if s.2 = false ∧ w < x.1 then (s.1 ++ [(w,h),x],true) else (s.1 ++ [x],s.2)
def putF (l : List (Int × Int)) (w h : Int) : List (Int × Int) × Bool := l.foldl (putStep w h) ([],false)
def put (l : List (Int × Int)) (w h : Int) : List (Int × Int) := if l.any (fun x => domB x w h) then l else if (putF l w h).2 then (putF l w h).1 else (putF l w h).1 ++ [(w,h)]
section
theorem foldl_max_ge {l : List Int} : ∀ {m : Int},m ≤ l.foldl max m ∧ ∀ x ∈ l,x ≤ l.foldl max m := by
 induction l with
 | nil => intro m; simp
 | cons a l ih =>
  intro m
  obtain ⟨h1,h2⟩ := ih (m := max m a)
  refine ⟨by simp only [List.foldl_cons]; omega,fun x hx => ?_⟩
  simp only [List.foldl_cons]
  rcases List.mem_cons.1 hx with rfl | hx
  ·omega
  ·exact h2 x hx
theorem foldl_max_mem {l : List Int} : ∀ {m : Int},l.foldl max m = m ∨ l.foldl max m ∈ l := by
 induction l with
 | nil => intro m; simp
 | cons a l ih =>
  intro m
  simp only [List.foldl_cons]
  rcases ih (m := max m a) with h | h
  ·rw [h]
   by_cases q : a ≤ m
   ·left; omega
   ·right; rw [show max m a = a by omega]; simp
  ·right; exact List.mem_cons_of_mem _ h
theorem maxL_ge {l : List Int} {x : Int} (h : x ∈ l) : x ≤ maxL l := by
 cases l with
 | nil => simp at h
 | cons a l =>
  obtain ⟨h1,h2⟩ := foldl_max_ge (l := l) (m := a)
  unfold maxL
  rcases List.mem_cons.1 h with rfl | h
  ·exact h1
  ·exact h2 x h
theorem maxL_mem {l : List Int} (h : l ≠ []) : maxL l ∈ l := by
 cases l with
 | nil => exact absurd rfl h
 | cons a l =>
  show l.foldl max a ∈ a :: l
  rcases foldl_max_mem (l := l) (m := a) with h | h
  ·rw [h]; simp
  ·exact List.mem_cons_of_mem _ h
section
variable {M : List (List Bool)} {ws : List Int} {n : Nat} {rk : Nat → Nat}
theorem hb_le {b : Nat} (hb : b < n) : HB M ws n b ≤ maxL (heaviest M ws n) := maxL_ge (List.mem_of_getElem? (hv_at hb))
theorem hb_is (hn : 1 ≤ n) : ∃ b,b < n ∧ HB M ws n b = maxL (heaviest M ws n) := by
 have h := maxL_mem (l := heaviest M ws n) (by intro h; have := congrArg List.length h; rw [heaviest_len] at this; simp at this; omega)
 unfold heaviest at h
 obtain ⟨b,hb,e⟩ := List.mem_map.1 h
 exact ⟨b,by simpa using hb,e⟩
theorem beg_nn (b : Nat) : 0 ≤ beg M ws n b := hvF_pos n
theorem beg_ge {a b : Nat} (ha : a < n) (h : getB M a b = true) : HB M ws n a ≤ beg M ws n b := hvF_ge ha h
theorem hvF_at {g : Nat → Int} {b : Nat} : ∀ i,hvF M g b i = 0 ∨ ∃ a,a < i ∧ getB M a b = true ∧ hvF M g b i = g a
 | 0 => .inl rfl
 | i + 1 => by
  rw [hvF_succ]
  have ih := hvF_at (g := g) (b := b) i
  cases hc : getB M i b with
  | false =>
   simp only [Bool.false_eq_true,if_false]
   rcases ih with h | ⟨a,h1,h2,h3⟩
   ·exact .inl h
   ·exact .inr ⟨a,by omega,h2,h3⟩
  | true =>
   simp only [if_true]
   by_cases q : g i ≤ hvF M g b i
   ·rw [show max (hvF M g b i) (g i) = hvF M g b i by omega]
    rcases ih with h | ⟨a,h1,h2,h3⟩
    ·exact .inl h
    ·exact .inr ⟨a,by omega,h2,h3⟩
   ·rw [show max (hvF M g b i) (g i) = g i by omega]
    exact .inr ⟨i,by omega,hc,rfl⟩
theorem beg_at (b : Nat) : beg M ws n b = 0 ∨ ∃ a,a < n ∧ getB M a b = true ∧ beg M ws n b = HB M ws n a := hvF_at n
theorem need_at (hw : NeedOk ws) {b : Nat} (hb : b < ws.length) : 1 ≤ getI ws b ∧ getI ws b ≤ 9 := by
 obtain ⟨x,hx,hm⟩ := get_of hb
 rw [getI_is hx]; exact hw x hm
end
end
theorem lf_eq {p : List Txt} : leftG (gP p) p.length (w0 (readG p)) (rP p).length = lfM p := by rw [w0_read]; rfl
theorem ab_eq {p : List Txt} : aboveG (gP p) p.length (w0 (readG p)) (rP p).length = abM p := by rw [w0_read]; rfl
theorem needV_all {p : List Txt} {ws : List Int} (h : needV p [ws] = true) : Up (lfM p) (rP p).length (rkL p) ∧ Up (abM p) (rP p).length (rkA p) ∧ ws.length = (rP p).length ∧ 1 ≤ (rP p).length ∧ (rP p).length ≤ 9 ∧ NeedOk ws ∧ plainB p = true := by
 obtain ⟨-,-,h1,h2,h3,h4,h5⟩ := plan_same h
 rw [lf_eq] at h1; rw [ab_eq] at h2
 obtain ⟨k1,-,-⟩ := needV_one h
 have hok : okB p = true := by
  have h9 := k1
  unfold plainI floorI at h9
  simp only [Bool.and_eq_true] at h9
  exact h9.1.1
 have h9 := okB_rooms hok
 rw [plainI_plain] at k1
 exact ⟨h1,h2,h3,h4,h9,h5,k1⟩
theorem whole_all_pc {p : List Txt} (hp : planB p = true) : PC Tryz.prog 35 [eFloor (gP p) (rP p)] (ePart (gP p) (rP p) (allPt p).rect) false := by
 have hg := plan_gw hp
 obtain ⟨row,h1,h2,-⟩ := hg.at_ (i := 0) (j := 0) (by have := hg.2.2; omega) (by have := hg.2.2; omega)
 have h := whole_pc h1 (rP p)
 rw [hg.1,h2] at h
 exact h
theorem whole_in {p : List Txt} (hp : planB p = true) : Whole (cellZ p) p.length (hdRow p).length (allPt p) := whole_all hp
def scV (p : List Txt) (needs : List Int) : Int × Bool :=
 if needV p [needs] then match treeP (cellZ p) (allPt p) with | some x => (cutV needs x,true) | none => (0,false) else (0,false)
theorem leaves_need {p : List Txt} (hp : planB p = true) {needs : List Int} (hn : NeedOk needs) (hl : needs.length = (rP p).length) {t : Pt} (hw : Whole (cellZ p) p.length (hdRow p).length t) {x : CT} (hx : treeP (cellZ p) t = some x) :
  (1 ≤ cutV needs x ∧ cutV needs x ≤ 9 * x.leaves.length) ∧ x.leaves.length ≤ 36 := by
 obtain ⟨h1,h2,h3⟩ := tree_leaves (plan_rz hp) _ hw (Nat.le_refl _) hx
 have hin := hw.inn
 unfold Pt.In at hin
 have hg := plan_gw hp
 obtain ⟨g1,g2,g3,g4⟩ := hg.2.2
 refine ⟨cutV_bnd fun a ha => ?_,?_⟩
 ·obtain ⟨i,j,e1,e2,e3,e4,e5⟩ := (h2 a).1 ha
  have hc := cell_room hp (i := i) (j := j) (by omega) (by omega)
  rw [e5] at hc
  exact need_at hn (by omega)
 ·have : t.h * t.w ≤ 6 * 6 := Nat.mul_le_mul (by omega) (by omega)
  omega
theorem needing1_ev {p : List Txt} (hs : Sm p) {wss : List (List Int)} (hn : wss.length ≤ 1000) (hw : ∀ ws ∈ wss,ws.length ≤ 1048576) {b0 : Ob} {wv t : Nat} : Ev Tryz.prog 32 [eStrs p,.loc 1 wv 0 wss.length] ⟨[b0,.arr wv 24 1 (wss.map eInts)],t⟩ fun v S => ∃ x,v = .tup [x,.bool (needV p wss)] ∧ ((needV p wss) = true → x = eFloor (gP p) (rP p)) ∧ S = ⟨[b0,.arr wv 24 1 (wss.map eInts)],t⟩ := by
 obtain ⟨x,hx,hxy,hxr⟩ := plainOf_ex hs
 refine Ev.of ⟨Tryz.func32,by kernel_rfl,rfl,by kernel_rfl⟩ tabOk mixed (by show 2 ≤ Tryz.f32.ntmps; decide) ?_
 refine W.r fun K hK => ?_
 simp (disch := omega) only [↓RU,RV,RH,↓reduceIte,reduceEqDiff,reduceCtorEq,if_pos,↓RS,RG,reduceAdd,reduceMul,reduceLeDiff]
 refine hK _ _ ?_;clear hK K
 refine W.r fun K hK => ?_
 simp (disch := omega) only [↓RU,RV,RH,↓reduceIte,reduceEqDiff,reduceCtorEq,if_pos,List.append_nil,↓RS,RG,reduceAdd,reduceMul,reduceLeDiff]
 refine CallR.pc (hx) rfl (.inr rfl) ?_
 simp (disch := omega) only [↓RU,RV,RH,↓reduceIte,reduceEqDiff,reduceCtorEq,if_pos,List.append_nil,↓RS,RG,reduceAdd,reduceMul,reduceLeDiff]
 refine hK _ _ ?_;clear hK K
 refine W.seq ?_
 refine W.r fun K hK => ?_
 simp (disch := omega) only [↓RU,RV,RH,↓reduceIte,reduceEqDiff,reduceCtorEq,if_pos,↓RS,RG,reduceAdd,reduceMul,reduceLeDiff]
 refine hK _ _ ?_;clear hK K
 refine W.cond rfl (fun h => ?_) (fun h => ?_)
 ·try simp only [RL] at h
  refine W.r fun K hK => ?_
  simp (disch := omega) only [↓RU,RV,RH,↓reduceIte,reduceEqDiff,reduceCtorEq,if_pos,↓RS,RG,reduceAdd,reduceMul,reduceLeDiff]
  refine hK _ _ ?_;clear hK K
  refine W.ret ?_
  refine XThen.ret ?_
  refine Br rfl ?_
  exact ⟨_,_,by rw [needV,h]; rfl,fun h9 => absurd h9 (by unfold needV; rw [h]; exact Bool.false_ne_true),take_all⟩
 ·try simp only [RL] at h
  obtain rfl := hxy h
  refine W.skip ?_
  refine xn ?_
  refine W.r fun K hK => ?_
  simp (disch := omega) only [↓RU,RV,RH,↓reduceIte,reduceEqDiff,reduceCtorEq,if_pos,↓RS,RG,reduceAdd,reduceMul,reduceLeDiff]
  refine hK _ _ ?_;clear hK K
  refine W.seq ?_
  refine W.r fun K hK => ?_
  simp (disch := omega) only [↓RU,RV,RH,↓reduceIte,reduceEqDiff,reduceCtorEq,if_pos,↓RS,RG,reduceAdd,reduceMul,reduceLeDiff,ty1,tyLint,tyint,cells_fn,ic_fn]
  refine hK _ _ ?_;clear hK K
  refine W.block ?_
  refine W.loop [6,8,18,19,20] (fun n vs S => ∃ i : Nat,n = wss.length - i ∧ i ≤ wss.length ∧ ((wss.take i).all (needW p) = true) ∧ vs = [eFloor (gP p) (rP p),.fn 70 [],.loc 1 wv 0 wss.length,.int .i64 wss.length,.int .i64 i] ∧ S = ⟨[b0,.arr wv 24 1 (wss.map eInts)],t⟩) (wss.length) ?_ ?_
  ·refine ⟨2,0,rfl,Nat.zero_le _,rfl,?_,rfl⟩
   simp [Env.put,Env.of,argEnv]
  rintro n vs S - ⟨i,rfl,h_i,hall,rfl,rfl⟩
  refine W.r fun K hK => ?_
  simp (disch := omega) only [↓RU,RV,RH,↓reduceIte,reduceEqDiff,reduceCtorEq,if_pos,w64,↓RS,RG,reduceAdd,reduceMul,reduceLeDiff,tyint]
  refine hK _ _ ?_;clear hK K
  refine W.seq ?_
  refine W.cond rfl (fun h1 => ?_) (fun h1 => ?_)
  ·try simp only [RL] at h1
   obtain ⟨ws,hws,hwm⟩ := get_of (show i < wss.length by omega)
   have hwl := hw ws hwm
   obtain ⟨hokp,-⟩ := plain_okB h
   have hrp : (rP p).length ≤ 1000 := by have := okB_rooms hokp; omega
   refine W.skip ?_
   refine xn ?_
   refine W.seq ?_
   refine W.block ?_
   refine W.r fun K hK => ?_
   simp (disch := omega) only [↓RU,RV,RH,↓reduceIte,reduceEqDiff,reduceCtorEq,if_pos,↓RS,RG,reduceAdd,reduceMul,reduceLeDiff,ty1,tyLint,tyint,hws]
   refine hK _ _ ?_;clear hK K
   refine W.r fun K hK => ?_
   by_cases hlen : ws.length = (rP p).length
   ·skip
    have hd : ((ws.length : Int) != ((rP p).length : Int)) = false := by rw [hlen]; simp
    simp (disch := omega) only [↓RU,RV,RH,↓reduceIte,reduceEqDiff,reduceCtorEq,if_pos,w64,List.append_nil,↓RS,RG,reduceAdd,reduceMul,reduceLeDiff,ty1,ty3,tyLint,ty10,ty11,ty15,tyint,ty24,ty28,hd,rcs_len]
    refine CallR.pc (containsInt_pc (l := ws) (by omega) (g := 70) (cap := []) rfl rfl (test := fun n => !needB n) (fun n _ => needing1_pc n)) rfl (.inl rfl) ?_
    simp (disch := omega) only [↓RU,RV,RH,↓reduceIte,reduceEqDiff,reduceCtorEq,if_pos,w64,List.append_nil,↓RS,RG,reduceAdd,reduceMul,reduceLeDiff,ty1,ty3,tyLint,ty10,ty11,ty15,tyint,ty24,ty28,hd,rcs_len]
    refine hK _ _ ?_;clear hK K
    refine W.cond rfl (fun h2 => ?_) (fun h2 => ?_)
    ·try simp only [RL] at h2
     have hok : needW p ws = false := by unfold needW; rw [List.all_eq_not_any_not,h2]; simp
     refine W.r fun K hK => ?_
     simp (disch := omega) only [↓RU,RV,RH,↓reduceIte,reduceEqDiff,reduceCtorEq,if_pos,↓RS,RG,reduceAdd,reduceMul,reduceLeDiff]
     refine hK _ _ ?_;clear hK K
     refine W.ret ?_
     refine XBlock.ret ?_
     refine XThen.ret ?_
     refine XThen.ret ?_
     refine XBlock.ret ?_
     refine XThen.ret ?_
     refine Br rfl ?_
     exact ⟨_,_,by rw [needV_no hwm hok]; rfl,fun h9 => absurd h9 (by rw [needV_no hwm hok]; exact Bool.false_ne_true),take_all⟩
    ·try simp only [RL] at h2
     have hok : needW p ws = true := by unfold needW; rw [decide_eq_true hlen,List.all_eq_not_any_not]; simpa using h2
     refine W.skip ?_
     refine XbN ?_
     refine xn ?_
     refine W.k fun K hK => ?_
     simp (disch := omega) only [↓RU,RV,RH,↓reduceIte,reduceEqDiff,reduceCtorEq,if_pos,w64,↓RS,RG,reduceAdd,reduceMul,reduceLeDiff,tyint]
     refine hK _ _ ?_;clear hK K
     refine xn ?_
     refine ⟨wss.length - (i + 1),by omega,2,i + 1,rfl,by omega,all_tk hws hall hok,?_,rfl⟩
     simp [Env.put,Env.of]
   ·skip
    have hd : ((ws.length : Int) != ((rP p).length : Int)) = true := by simp; omega
    simp (disch := omega) only [↓RU,RV,RH,↓reduceIte,reduceEqDiff,reduceCtorEq,if_pos,w64,List.append_nil,↓RS,RG,reduceAdd,reduceMul,reduceLeDiff,ty1,ty3,tyLint,ty10,ty11,ty15,tyint,ty24,ty28,hd,rcs_len]
    refine hK _ _ ?_;clear hK K
    refine W.cond rfl (fun h2 => ?_) (fun h2 => ?_)
    ·try simp only [RL] at h2
     have hok : needW p ws = false := by unfold needW; rw [decide_eq_false hlen]; rfl
     refine W.r fun K hK => ?_
     simp (disch := omega) only [↓RU,RV,RH,↓reduceIte,reduceEqDiff,reduceCtorEq,if_pos,↓RS,RG,reduceAdd,reduceMul,reduceLeDiff]
     refine hK _ _ ?_;clear hK K
     refine W.ret ?_
     refine XBlock.ret ?_
     refine XThen.ret ?_
     refine XThen.ret ?_
     refine XBlock.ret ?_
     refine XThen.ret ?_
     refine Br rfl ?_
     exact ⟨_,_,by rw [needV_no hwm hok]; rfl,fun h9 => absurd h9 (by rw [needV_no hwm hok]; exact Bool.false_ne_true),take_all⟩
    ·try simp only [RL] at h2
     exact absurd h2 (by simp)
  ·try simp only [RL] at h1
   obtain rfl : wss.length = i := by omega
   rw [List.take_length] at hall
   refine W.exit ?_
   refine xe ?_
   refine xe ?_
   refine XBlock.hit ?_
   refine xn ?_
   refine W.r fun K hK => ?_
   simp (disch := omega) only [↓RU,RV,RH,↓reduceIte,reduceEqDiff,reduceCtorEq,if_pos,↓RS,RG,reduceAdd,reduceMul,reduceLeDiff]
   refine hK _ _ ?_;clear hK K
   refine W.ret ?_
   refine Br rfl ?_
   exact ⟨_,_,by rw [needV,h,hall]; rfl,fun _ => rfl,take_all⟩
theorem sizeCut1_pc {needs : List Int} {a : Int} {x : Int} (ha : 0 ≤ a) (hx : needs[a.toNat]? = some x) : PC Tryz.prog 33 [.int .i64 a,.ip [eInts needs] 0] (.int .i64 x) true := by
 have hl := len_of hx
 refine PC.of ⟨Tryz.func33,by kernel_rfl,rfl,by kernel_rfl⟩ tabOk mixed (by show 2 ≤ Tryz.f33.ntmps; decide) ?_
 refine W.r fun K hK => ?_
 simp (disch := omega) only [↓RU,RV,RH,↓reduceIte,reduceEqDiff,reduceCtorEq,if_pos,↓RS,RG,reduceAdd,reduceMul,reduceLeDiff]
 refine hK _ _ ?_;clear hK K
 refine W.r fun K hK => ?_
 simp (disch := omega) only [↓RU,RV,RH,↓reduceIte,reduceEqDiff,reduceCtorEq,if_pos,↓RS,RG,reduceAdd,reduceMul,reduceLeDiff,tyLint,tyint,hx]
 refine hK _ _ ?_;clear hK K
 refine W.ret ?_
 refine Br rfl ?_
 rfl
theorem sizeCut2_pc (g : List (List Int)) (rs : List Rect) (lv : Bool) (a b : Rect) {x y : Int} (hx : 0 ≤ x ∧ x ≤ 10000) (hy : 0 ≤ y ∧ y ≤ 10000) : PC Tryz.prog 36 [.agg (pcCells g rs lv a b),.int .i64 x,.int .i64 y] (.int .i64 (if lv then max x y else x + y)) true := by
 simp only [pcCells,Rect.cells]
 refine PC.of ⟨Tryz.func36,by kernel_rfl,rfl,by kernel_rfl⟩ tabOk mixed (by show 3 ≤ Tryz.f36.ntmps; decide) ?_
 refine W.r fun K hK => ?_
 simp (disch := omega) only [↓RU,RV,RH,↓reduceIte,reduceEqDiff,reduceCtorEq,if_pos,↓RS,RG,reduceAdd,reduceMul,reduceLeDiff,ty7,tybool,ty13,ty14,ty15,tyint,ty21,ty27,ty28]
 refine hK _ _ ?_;clear hK K
 refine W.seq ?_
 refine W.r fun K hK => ?_
 simp (disch := omega) only [↓RU,RV,RH,↓reduceIte,reduceEqDiff,reduceCtorEq,if_pos,↓RS,RG,reduceAdd,reduceMul,reduceLeDiff,ty7,tybool,ty13,ty14,ty15,tyint,ty21,ty27,ty28]
 refine hK _ _ ?_;clear hK K
 refine W.cond rfl (fun h0 => ?_) (fun h0 => ?_)
 ·try simp only [RL] at h0
  refine W.r fun K hK => ?_
  simp (disch := omega) only [↓RU,RV,RH,↓reduceIte,reduceEqDiff,reduceCtorEq,if_pos,ite_max,↓RS,RG,reduceAdd,reduceMul,reduceLeDiff,tyint]
  refine hK _ _ ?_;clear hK K
  refine W.ret ?_
  refine XThen.ret ?_
  refine Br rfl ?_
  subst h0
  simp only [if_true]
  rfl
 ·try simp only [RL] at h0
  refine W.skip ?_
  refine xn ?_
  refine W.r fun K hK => ?_
  simp (disch := omega) only [↓RU,RV,RH,↓reduceIte,reduceEqDiff,reduceCtorEq,if_pos,w64,↓RS,RG,reduceAdd,reduceMul,reduceLeDiff,tyint]
  refine hK _ _ ?_;clear hK K
  refine W.ret ?_
  refine Br rfl ?_
  subst h0
  rfl
theorem sizeCut_pc {p : List Txt} (hs : Sm p) {ws : List Int} (hw : ws.length ≤ 1048576) : PC Tryz.prog 8 [eStrs p,eInts ws] (.tup [.int .i64 (scV p ws).1,.bool (scV p ws).2]) true := by
 refine PC.of ⟨Tryz.func8,by kernel_rfl,rfl,by kernel_rfl⟩ tabOk mixed (by show 2 ≤ Tryz.f8.ntmps; decide) ?_
 refine W.r fun K hK => ?_
 simp (disch := omega) only [↓RU,RV,RH,↓reduceIte,reduceEqDiff,reduceCtorEq,if_pos,↓RS,RG,reduceAdd,reduceMul,reduceLeDiff,tyLint,tyint]
 refine hK _ _ ?_;clear hK K
 refine W.r fun K hK => ?_
 simp (disch := omega) only [↓RU,RV,RH,↓reduceIte,reduceEqDiff,reduceCtorEq,if_pos,List.append_nil,↓RS,RG,reduceAdd,reduceMul,reduceLeDiff,ty1,tyLint,tyint]
 refine CallR.ev (needing1_ev hs (wss := [ws]) (by simp) (by intro a ha; rw [List.mem_singleton] at ha; subst ha; exact hw)) ?_
 rintro _ _ ⟨x,rfl,hx,rfl⟩
 simp (disch := omega) only [↓RU,RV,RH,↓reduceIte,reduceEqDiff,reduceCtorEq,if_pos,List.append_nil,↓RS,RG,reduceAdd,reduceMul,reduceLeDiff,ty1,tyLint,tyint]
 refine hK _ _ ?_;clear hK K
 refine W.seq ?_
 refine W.r fun K hK => ?_
 simp (disch := omega) only [↓RU,RV,RH,↓reduceIte,reduceEqDiff,reduceCtorEq,if_pos,↓RS,RG,reduceAdd,reduceMul,reduceLeDiff]
 refine hK _ _ ?_;clear hK K
 refine W.cond rfl (fun h0 => ?_) (fun h0 => ?_)
 ·skip
  have hv : needV p [ws] = false := by simpa using h0
  refine W.r fun K hK => ?_
  simp (disch := omega) only [↓RU,RV,RH,↓reduceIte,reduceEqDiff,reduceCtorEq,if_pos,↓RS,RG,reduceAdd,reduceMul,reduceLeDiff]
  refine hK _ _ ?_;clear hK K
  refine W.ret ?_
  refine XThen.ret ?_
  refine Br rfl ?_
  rw [show scV p ws = (0,false) by unfold scV; rw [hv]; rfl]
  rfl
 ·skip
  have hv : needV p [ws] = true := by simpa using h0
  have hx := hx hv
  subst hx
  obtain ⟨u1,u2,q1,q2,q3,q4,q5⟩ := needV_all hv
  have hp := plain_plan q5
  have hF : PC Tryz.prog 34 [ePart (gP p) (rP p) (allPt p).rect,.fn 33 [.ip [eInts ws] 0],.fn 36 []] (.tup [.int .i64 (scV p ws).1,.bool (scV p ws).2]) true := by
   have h : PC Tryz.prog 34 [ePart (gP p) (rP p) (allPt p).rect,.fn 33 [.ip [eInts ws] 0],.fn 36 []] (foldR (fun x : Int => PV.int .i64 x) (.int .i64 0) (fun a => getI ws a.toNat) (fun lv a b => if lv then max a b else a + b) (treeP (cellZ p) (allPt p))) true := by
    refine foldedInt_pc hp (rf := 33) (cf := 36) (rc := [.ip [eInts ws] 0]) (cc := []) (fun _ => rfl) (fun _ => rfl) (fun _ => rfl) (fun _ => rfl) (room := fun a => getI ws a.toNat) (cut := fun lv a b => if lv then max a b else a + b) (fun a h1 h2 => ?_) (fun t q x y hw hq hx hy => ?_) _ (Nat.le_refl _) (whole_in hp)
    ·obtain ⟨y,hy,-⟩ := get_of (show a.toNat < ws.length by omega)
     have := sizeCut1_pc h1 hy
     rw [getI_is hy]
     exact this
    ·obtain ⟨w1,w2⟩ := hw.cut (plan_rz hp) hq
     have b1 := leaves_need hp q4 q1 w1 hx
     have b2 := leaves_need hp q4 q1 w2 hy
     exact (sizeCut2_pc (gP p) (rP p) q.1 (t.one q).rect (t.two q).rect (x := cutV ws x) (y := cutV ws y) (by omega) (by omega))
   have e : foldR (fun x : Int => PV.int .i64 x) (.int .i64 0) (fun a => getI ws a.toNat) (fun lv a b => if lv then max a b else a + b) (treeP (cellZ p) (allPt p)) = .tup [.int .i64 (scV p ws).1,.bool (scV p ws).2] := by
    unfold scV; rw [hv]; cases treeP (cellZ p) (allPt p) <;> rfl
   rw [e] at h; exact h
  refine W.skip ?_
  refine xn ?_
  refine W.r fun K hK => ?_
  simp (disch := omega) only [↓RU,RV,RH,↓reduceIte,reduceEqDiff,reduceCtorEq,if_pos,↓RS,RG,reduceAdd,reduceMul,reduceLeDiff]
  refine hK _ _ ?_;clear hK K
  refine W.r fun K hK => ?_
  simp (disch := omega) only [↓RU,RV,RH,↓reduceIte,reduceEqDiff,reduceCtorEq,if_pos,List.append_nil,↓RS,RG,reduceAdd,reduceMul,reduceLeDiff]
  refine CallR.pc (whole_all_pc hp) rfl (.inr rfl) ?_
  simp (disch := omega) only [↓RU,RV,RH,↓reduceIte,reduceEqDiff,reduceCtorEq,if_pos,List.append_nil,↓RS,RG,reduceAdd,reduceMul,reduceLeDiff]
  refine CallR.pc (hF) rfl (.inl rfl) ?_
  simp (disch := omega) only [↓RU,RV,RH,↓reduceIte,reduceEqDiff,reduceCtorEq,if_pos,List.append_nil,↓RS,RG,reduceAdd,reduceMul,reduceLeDiff]
  refine hK _ _ ?_;clear hK K
  refine W.ret ?_
  refine Br rfl ?_
  rfl
theorem l7Cut_go {p : List Txt} (hp : planB p = true) {needs : List Int} (hn : NeedOk needs) (hln : needs.length = (rP p).length) {t : Pt} (hw : Whole (cellZ p) p.length (hdRow p).length t) {x : CT} (hx : treeP (cellZ p) t = some x) (ih : ∀ (t' : Pt) (x' : CT),Whole (cellZ p) p.length (hdRow p).length t' → t'.h * t'.w < t.h * t.w → treeP (cellZ p) t' = some x' → PC Tryz.prog 39 [eStrs (sub p t'),eInts needs] (.int .i64 (cutV needs x')) true) : PC Tryz.prog 39 [eStrs (sub p t),eInts needs] (.int .i64 (cutV needs x)) true := by
 have hg := planB_grid hp
 have hi := hw.inn
 have hsmg := grid_small hg
 have hg2 := sub_grid hg hi
 have hs2 := Sm.grid hg2
 have hl2 := sub_len hi
 have hh2 := sub_hd hg hi
 have hib := hi
 unfold Pt.In at hib
 obtain ⟨row0,hrow0,hq0,hl0,-⟩ := sub_row hg hi (i := 0) hi.1
 obtain ⟨c0,hc0,hlet⟩ := grid_mem hg hrow0 (k := t.c + 0) (by omega)
 have hqc := (subRow_at (row := row0) (t := t) hib.2.1).trans hc0
 have hz0 : cellZ p t.r t.c = (c0.toNat : Int) - 97 := cellZ_is (by simpa using hrow0) (by simpa using hc0)
 simp only [letterB,Bool.and_eq_true,decide_eq_true_eq] at hlet
 have hcq := cutQ_sub hg hi
 refine PC.of ⟨Tryz.func39,by kernel_rfl,rfl,by kernel_rfl⟩ tabOk mixed (by show 2 ≤ Tryz.f39.ntmps; decide) ?_
 refine W.r fun K hK => ?_
 simp (disch := omega) only [↓RU,RV,RH,↓reduceIte,reduceEqDiff,reduceCtorEq,if_pos,↓RS,RG,reduceAdd,reduceMul,reduceLeDiff]
 refine hK _ _ ?_;clear hK K
 refine W.seq ?_
 refine W.r fun K hK => ?_
 simp (disch := omega) only [↓RU,RV,RH,↓reduceIte,reduceEqDiff,reduceCtorEq,if_pos,List.append_nil,↓RS,RG,reduceAdd,reduceMul,reduceLeDiff]
 refine CallR.pc (l3One_pc hs2 hg2) rfl (.inl rfl) ?_
 simp (disch := omega) only [↓RU,RV,RH,↓reduceIte,reduceEqDiff,reduceCtorEq,if_pos,List.append_nil,↓RS,RG,reduceAdd,reduceMul,reduceLeDiff]
 refine hK _ _ ?_;clear hK K
 refine W.cond rfl (fun h0 => ?_) (fun h0 => ?_)
 ·skip
  have h0 : oneB (sub p t) = true := h0
  rw [oneB_sub hg hi] at h0
  rw [treeP_one hi h0] at hx
  cases hx
  have hv := cell_room hp (i := t.r) (j := t.c) (by omega) (by omega)
  rw [hz0] at hv
  obtain ⟨y,hy,hym⟩ := get_of (show ((c0.toNat : Int) - 97).toNat < needs.length by omega)
  refine W.r fun K hK => ?_
  simp (disch := omega) only [↓RU,RV,RH,↓reduceIte,reduceEqDiff,reduceCtorEq,if_pos,w64,w64,↓RS,RG,reduceAdd,reduceMul,reduceLeDiff,tyLint,ty5,tyint,tystring,ty30,hq0,hqc,hy,Int.toNat_zero,Nat.zero_mul,Int.reduceToNat]
  refine hK _ _ ?_;clear hK K
  refine W.ret ?_
  refine XThen.ret ?_
  refine Br rfl ?_
  rw [show cutV needs (.leaf (cellZ p t.r t.c)) = y by rw [hz0]; exact getI_is hy]
  rfl
 ·skip
  have h0 : oneB (sub p t) = false := h0
  rw [oneB_sub hg hi] at h0
  refine W.skip ?_
  refine xn ?_
  refine W.r fun K hK => ?_
  rcases hq : cutOf (cellZ p) t with _ | ⟨_ | _,k⟩
  ·skip
   exfalso; rw [treeP_none hi h0 hq] at hx; cases hx
  ·skip
   rw [hq] at hcq
   simp only [Bool.false_eq_true,if_false] at hcq
   obtain ⟨i1,i2,a1,a2⟩ := hi.cut hq
   have hck := cutOf_some hq
   simp only [Bool.false_eq_true,if_false] at hck
   obtain ⟨w1,w2⟩ := hw.cut (plan_rz hp) hq
   rcases tree_cases (treeP (cellZ p) (t.one (false,k))) (treeP (cellZ p) (t.two (false,k))) with hx1 | ⟨x1,hx1,hx2⟩ | ⟨x1,x2,hx1,hx2⟩
   ·exfalso; rw [treeP_cut hi h0 hq,hx1] at hx; cases hx
   ·exfalso; rw [treeP_cut hi h0 hq,hx1,hx2] at hx; cases hx
   rw [treeP_cut hi h0 hq,hx1,hx2] at hx
   cases hx
   have b1 := leaves_need hp hn hln w1 hx1
   have b2 := leaves_need hp hn hln w2 hx2
   simp (disch := omega) only [↓RU,RV,RH,↓reduceIte,reduceEqDiff,reduceCtorEq,if_pos,List.append_nil,↓RS,RG,reduceAdd,reduceMul,reduceLeDiff,hcq]
   refine CallR.pc (l3Cut_pc hs2 hg2) rfl (.inl rfl) ?_
   simp (disch := omega) only [↓RU,RV,RH,↓reduceIte,reduceEqDiff,reduceCtorEq,if_pos,List.append_nil,↓RS,RG,reduceAdd,reduceMul,reduceLeDiff,hcq]
   refine hK _ _ ?_;clear hK K
   refine W.r fun K hK => ?_
   have hP := l3PartsU_pc hs2 hg2 (k := k) (by rw [hh2]; omega)
   rw [sub_one (q := (false,k)) (by simp; omega),sub_two (q := (false,k)) (by simp; omega)] at hP
   simp (disch := omega) only [↓RU,RV,RH,↓reduceIte,reduceEqDiff,reduceCtorEq,if_pos,List.append_nil,↓RS,RG,reduceAdd,reduceMul,reduceLeDiff]
   refine CallR.pc (hP) rfl (.inl rfl) ?_
   simp (disch := omega) only [↓RU,RV,RH,↓reduceIte,reduceEqDiff,reduceCtorEq,if_pos,List.append_nil,↓RS,RG,reduceAdd,reduceMul,reduceLeDiff]
   refine hK _ _ ?_;clear hK K
   refine W.seq ?_
   refine W.r fun K hK => ?_
   simp (disch := omega) only [↓RU,RV,RH,↓reduceIte,reduceEqDiff,reduceCtorEq,if_pos,w64,↓RS,RG,reduceAdd,reduceMul,reduceLeDiff,tyint]
   refine hK _ _ ?_;clear hK K
   refine W.cond rfl (fun h1 => ?_) (fun h1 => ?_)
   ·try simp only [RL] at h1
    refine W.r fun K hK => ?_
    simp (disch := omega) only [↓RU,RV,RH,↓reduceIte,reduceEqDiff,reduceCtorEq,if_pos,List.append_nil,w64,↓RS,RG,reduceAdd,reduceMul,reduceLeDiff,tyint]
    refine CallR.pc (ih (t.one (false,k)) _ w1 a1 hx1) rfl (.inl rfl) ?_
    simp (disch := omega) only [↓RU,RV,RH,↓reduceIte,reduceEqDiff,reduceCtorEq,if_pos,List.append_nil,w64,↓RS,RG,reduceAdd,reduceMul,reduceLeDiff,tyint]
    refine CallR.pc (ih (t.two (false,k)) _ w2 a2 hx2) rfl (.inl rfl) ?_
    simp (disch := omega) only [↓RU,RV,RH,↓reduceIte,reduceEqDiff,reduceCtorEq,if_pos,List.append_nil,w64,↓RS,RG,reduceAdd,reduceMul,reduceLeDiff,tyint]
    refine hK _ _ ?_;clear hK K
    refine W.ret ?_
    refine XThen.ret ?_
    refine Br rfl ?_
    rfl
   ·try simp only [RL] at h1
    exact absurd h1 (by simp)
  ·skip
   rw [hq] at hcq
   simp only [if_true] at hcq
   obtain ⟨i1,i2,a1,a2⟩ := hi.cut hq
   have hck := cutOf_some hq
   simp only [if_true] at hck
   obtain ⟨w1,w2⟩ := hw.cut (plan_rz hp) hq
   rcases tree_cases (treeP (cellZ p) (t.one (true,k))) (treeP (cellZ p) (t.two (true,k))) with hx1 | ⟨x1,hx1,hx2⟩ | ⟨x1,x2,hx1,hx2⟩
   ·exfalso; rw [treeP_cut hi h0 hq,hx1] at hx; cases hx
   ·exfalso; rw [treeP_cut hi h0 hq,hx1,hx2] at hx; cases hx
   rw [treeP_cut hi h0 hq,hx1,hx2] at hx
   cases hx
   have b1 := leaves_need hp hn hln w1 hx1
   have b2 := leaves_need hp hn hln w2 hx2
   simp (disch := omega) only [↓RU,RV,RH,↓reduceIte,reduceEqDiff,reduceCtorEq,if_pos,List.append_nil,↓RS,RG,reduceAdd,reduceMul,reduceLeDiff,hcq]
   refine CallR.pc (l3Cut_pc hs2 hg2) rfl (.inl rfl) ?_
   simp (disch := omega) only [↓RU,RV,RH,↓reduceIte,reduceEqDiff,reduceCtorEq,if_pos,List.append_nil,↓RS,RG,reduceAdd,reduceMul,reduceLeDiff,hcq]
   refine hK _ _ ?_;clear hK K
   refine W.r fun K hK => ?_
   have hP := l3PartsL_pc hs2 hg2 (k := k) (by rw [hl2]; omega)
   rw [sub_one (q := (true,k)) (by simp; omega),sub_two (q := (true,k)) (by simp; omega)] at hP
   simp (disch := omega) only [↓RU,RV,RH,↓reduceIte,reduceEqDiff,reduceCtorEq,if_pos,List.append_nil,↓RS,RG,reduceAdd,reduceMul,reduceLeDiff]
   refine CallR.pc (hP) rfl (.inl rfl) ?_
   simp (disch := omega) only [↓RU,RV,RH,↓reduceIte,reduceEqDiff,reduceCtorEq,if_pos,List.append_nil,↓RS,RG,reduceAdd,reduceMul,reduceLeDiff]
   refine hK _ _ ?_;clear hK K
   refine W.seq ?_
   refine W.r fun K hK => ?_
   simp (disch := omega) only [↓RU,RV,RH,↓reduceIte,reduceEqDiff,reduceCtorEq,if_pos,w64,↓RS,RG,reduceAdd,reduceMul,reduceLeDiff,tyint]
   refine hK _ _ ?_;clear hK K
   refine W.cond rfl (fun h1 => ?_) (fun h1 => ?_)
   ·try simp only [RL] at h1
    exact absurd h1 (by simp)
   ·try simp only [RL] at h1
    refine W.skip ?_
    refine xn ?_
    refine W.r fun K hK => ?_
    simp (disch := omega) only [↓RU,RV,RH,↓reduceIte,reduceEqDiff,reduceCtorEq,if_pos,List.append_nil,ite_max,↓RS,RG,reduceAdd,reduceMul,reduceLeDiff,tyint]
    refine CallR.pc (ih (t.one (true,k)) _ w1 a1 hx1) rfl (.inl rfl) ?_
    simp (disch := omega) only [↓RU,RV,RH,↓reduceIte,reduceEqDiff,reduceCtorEq,if_pos,List.append_nil,ite_max,↓RS,RG,reduceAdd,reduceMul,reduceLeDiff,tyint]
    refine CallR.pc (ih (t.two (true,k)) _ w2 a2 hx2) rfl (.inl rfl) ?_
    simp (disch := omega) only [↓RU,RV,RH,↓reduceIte,reduceEqDiff,reduceCtorEq,if_pos,List.append_nil,ite_max,↓RS,RG,reduceAdd,reduceMul,reduceLeDiff,tyint]
    refine hK _ _ ?_;clear hK K
    refine W.ret ?_
    refine Br rfl ?_
    rfl
theorem l7Cut_pc {p : List Txt} (hp : planB p = true) {needs : List Int} (hn : NeedOk needs) (hln : needs.length = (rP p).length) : ∀ (n : Nat) {t : Pt} {x : CT},t.h * t.w ≤ n → Whole (cellZ p) p.length (hdRow p).length t → treeP (cellZ p) t = some x → PC Tryz.prog 39 [eStrs (sub p t),eInts needs] (.int .i64 (cutV needs x)) true
 | 0,t,x,hn',hw,_ => by have := Nat.mul_pos hw.inn.1 hw.inn.2.1; omega
 | n + 1,t,x,hn',hw,hx => l7Cut_go hp hn hln hw hx fun t' x' hw' ha hx' => l7Cut_pc hp hn hln n (by omega) hw' hx'
theorem sSizeCut_pc {p : List Txt} (hs : Sm p) {needs : List Int} (hw : needs.length ≤ 1048576) : PC Tryz.prog 9 [eStrs p,eInts needs] (.tup [.int .i64 (scV p needs).1,.bool (scV p needs).2]) true := by
 refine PC.of ⟨Tryz.func9,by kernel_rfl,rfl,by kernel_rfl⟩ tabOk mixed (by show 2 ≤ Tryz.f9.ntmps; decide) ?_
 refine W.r fun K hK => ?_
 simp (disch := omega) only [↓RU,RV,RH,↓reduceIte,reduceEqDiff,reduceCtorEq,if_pos,↓RS,RG,reduceAdd,reduceMul,reduceLeDiff]
 refine hK _ _ ?_;clear hK K
 refine W.seq ?_
 refine W.r fun K hK => ?_
 rcases hgc : (needsB p needs,cutB p) with ⟨_ | _,_ | _⟩
 ·skip
  simp only [Prod.mk.injEq] at hgc
  obtain ⟨hgg,hcc⟩ := hgc
  simp (disch := omega) only [↓RU,RV,RH,↓reduceIte,reduceEqDiff,reduceCtorEq,if_pos,List.append_nil,↓RS,RG,reduceAdd,reduceMul,reduceLeDiff,hgg,hcc]
  refine CallR.pc (l7Needs_pc hs hw) rfl (.inl rfl) ?_
  simp (disch := omega) only [↓RU,RV,RH,↓reduceIte,reduceEqDiff,reduceCtorEq,if_pos,List.append_nil,↓RS,RG,reduceAdd,reduceMul,reduceLeDiff,hgg,hcc]
  refine hK _ _ ?_;clear hK K
  refine W.cond rfl (fun h0 => ?_) (fun h0 => ?_)
  ·try simp only [RL] at h0
   refine W.r fun K hK => ?_
   simp (disch := omega) only [↓RU,RV,RH,↓reduceIte,reduceEqDiff,reduceCtorEq,if_pos,↓RS,RG,reduceAdd,reduceMul,reduceLeDiff]
   refine hK _ _ ?_;clear hK K
   refine W.ret ?_
   refine XThen.ret ?_
   refine Br rfl ?_
   have hv : needV p [needs] = false := by rw [needV_needs]; exact hgg
   rw [show scV p needs = (0,false) by unfold scV; rw [hv]; rfl]
   rfl
  ·try simp only [RL] at h0
   exact absurd h0 (by simp)
 ·skip
  simp only [Prod.mk.injEq] at hgc
  obtain ⟨hgg,hcc⟩ := hgc
  simp (disch := omega) only [↓RU,RV,RH,↓reduceIte,reduceEqDiff,reduceCtorEq,if_pos,List.append_nil,↓RS,RG,reduceAdd,reduceMul,reduceLeDiff,hgg,hcc]
  refine CallR.pc (l7Needs_pc hs hw) rfl (.inl rfl) ?_
  simp (disch := omega) only [↓RU,RV,RH,↓reduceIte,reduceEqDiff,reduceCtorEq,if_pos,List.append_nil,↓RS,RG,reduceAdd,reduceMul,reduceLeDiff,hgg,hcc]
  refine hK _ _ ?_;clear hK K
  refine W.cond rfl (fun h0 => ?_) (fun h0 => ?_)
  ·try simp only [RL] at h0
   refine W.r fun K hK => ?_
   simp (disch := omega) only [↓RU,RV,RH,↓reduceIte,reduceEqDiff,reduceCtorEq,if_pos,↓RS,RG,reduceAdd,reduceMul,reduceLeDiff]
   refine hK _ _ ?_;clear hK K
   refine W.ret ?_
   refine XThen.ret ?_
   refine Br rfl ?_
   have hv : needV p [needs] = false := by rw [needV_needs]; exact hgg
   rw [show scV p needs = (0,false) by unfold scV; rw [hv]; rfl]
   rfl
  ·try simp only [RL] at h0
   exact absurd h0 (by simp)
 ·skip
  simp only [Prod.mk.injEq] at hgc
  obtain ⟨hgg,hcc⟩ := hgc
  simp (disch := omega) only [↓RU,RV,RH,↓reduceIte,reduceEqDiff,reduceCtorEq,if_pos,List.append_nil,↓RS,RG,reduceAdd,reduceMul,reduceLeDiff,hgg,hcc]
  refine CallR.pc (l7Needs_pc hs hw) rfl (.inl rfl) ?_
  simp (disch := omega) only [↓RU,RV,RH,↓reduceIte,reduceEqDiff,reduceCtorEq,if_pos,List.append_nil,↓RS,RG,reduceAdd,reduceMul,reduceLeDiff,hgg,hcc]
  refine CallR.pc (sCutIs_pc hs) rfl (.inl rfl) ?_
  simp (disch := omega) only [↓RU,RV,RH,↓reduceIte,reduceEqDiff,reduceCtorEq,if_pos,List.append_nil,↓RS,RG,reduceAdd,reduceMul,reduceLeDiff,hgg,hcc]
  refine hK _ _ ?_;clear hK K
  refine W.cond rfl (fun h0 => ?_) (fun h0 => ?_)
  ·try simp only [RL] at h0
   refine W.r fun K hK => ?_
   simp (disch := omega) only [↓RU,RV,RH,↓reduceIte,reduceEqDiff,reduceCtorEq,if_pos,↓RS,RG,reduceAdd,reduceMul,reduceLeDiff]
   refine hK _ _ ?_;clear hK K
   refine W.ret ?_
   refine XThen.ret ?_
   refine Br rfl ?_
   have hv : needV p [needs] = true := by rw [needV_needs]; exact hgg
   obtain ⟨u1,u2,q1,q2,q3,q4,q5⟩ := needV_all hv
   have hp := plain_plan q5
   simp only [cutB,hp,Bool.true_and,Option.isSome_eq_false_iff,Option.isNone_iff_eq_none] at hcc
   rw [show scV p needs = (0,false) by unfold scV; rw [hv,hcc]; rfl]
   rfl
  ·try simp only [RL] at h0
   exact absurd h0 (by simp)
 ·skip
  simp only [Prod.mk.injEq] at hgc
  obtain ⟨hgg,hcc⟩ := hgc
  simp (disch := omega) only [↓RU,RV,RH,↓reduceIte,reduceEqDiff,reduceCtorEq,if_pos,List.append_nil,↓RS,RG,reduceAdd,reduceMul,reduceLeDiff,hgg,hcc]
  refine CallR.pc (l7Needs_pc hs hw) rfl (.inl rfl) ?_
  simp (disch := omega) only [↓RU,RV,RH,↓reduceIte,reduceEqDiff,reduceCtorEq,if_pos,List.append_nil,↓RS,RG,reduceAdd,reduceMul,reduceLeDiff,hgg,hcc]
  refine CallR.pc (sCutIs_pc hs) rfl (.inl rfl) ?_
  simp (disch := omega) only [↓RU,RV,RH,↓reduceIte,reduceEqDiff,reduceCtorEq,if_pos,List.append_nil,↓RS,RG,reduceAdd,reduceMul,reduceLeDiff,hgg,hcc]
  refine hK _ _ ?_;clear hK K
  refine W.cond rfl (fun h0 => ?_) (fun h0 => ?_)
  ·try simp only [RL] at h0
   exact absurd h0 (by simp)
  ·try simp only [RL] at h0
   have hv : needV p [needs] = true := by rw [needV_needs]; exact hgg
   obtain ⟨u1,u2,q1,q2,q3,q4,q5⟩ := needV_all hv
   have hp := plain_plan q5
   simp only [cutB,hp,Bool.true_and] at hcc
   obtain ⟨x,hx⟩ := Option.isSome_iff_exists.1 hcc
   have hT := l7Cut_pc hp q4 q1 _ (Nat.le_refl _) (whole_in hp) hx
   rw [sub_all (planB_grid hp)] at hT
   refine W.skip ?_
   refine xn ?_
   refine W.r fun K hK => ?_
   simp (disch := omega) only [↓RU,RV,RH,↓reduceIte,reduceEqDiff,reduceCtorEq,if_pos,List.append_nil,↓RS,RG,reduceAdd,reduceMul,reduceLeDiff]
   refine CallR.pc (hT) rfl (.inl rfl) ?_
   simp (disch := omega) only [↓RU,RV,RH,↓reduceIte,reduceEqDiff,reduceCtorEq,if_pos,List.append_nil,↓RS,RG,reduceAdd,reduceMul,reduceLeDiff]
   refine hK _ _ ?_;clear hK K
   refine W.ret ?_
   refine Br rfl ?_
   rw [show scV p needs = (cutV needs x,true) by unfold scV; rw [hv,hx]; rfl]
   rfl
section
def rooms (n : Nat) : List Int := (List.range n).map fun i : Nat => (i : Int)
section
variable {n : Nat} {f : Nat → Nat}
end
end
section
def rowPut (row : Txt) (l : Nat) (c : UInt8) (k : Nat) : Txt := (List.range row.length).map fun x => if l ≤ x ∧ x < k then c else row.getD x 0
theorem rowPut_len {row : Txt} {l k : Nat} {c : UInt8} : (rowPut row l c k).length = row.length := by simp [rowPut]
theorem rowPut_zero {row : Txt} {l : Nat} {c : UInt8} : rowPut row l c l = row := by
 apply List.ext_getElem?
 intro j
 unfold rowPut
 rw [List.getElem?_map]
 by_cases hj : j < row.length
 ·rw [List.getElem?_range hj,Option.map_some,if_neg (by omega),List.getD_eq_getElem?_getD,List.getElem?_eq_getElem hj]; rfl
 ·rw [List.getElem?_eq_none (by simpa using hj),List.getElem?_eq_none (by omega)]; rfl
theorem rowPut_succ {row : Txt} {l k : Nat} {c : UInt8} (h1 : l ≤ k) (h2 : k < row.length) : (rowPut row l c k).set k c = rowPut row l c (k + 1) := by
 apply List.ext_getElem?
 intro j
 rw [List.getElem?_set,rowPut_len]
 unfold rowPut
 rw [List.getElem?_map,List.getElem?_map]
 by_cases hj : j < row.length
 ·rw [List.getElem?_range hj,Option.map_some,Option.map_some]
  by_cases e : k = j
  ·subst e; rw [if_pos rfl,if_pos h2,if_pos (by omega)]
  ·rw [if_neg e]
   by_cases q : l ≤ j ∧ j < k
   ·rw [if_pos q,if_pos (by omega)]
   ·rw [if_neg q,if_neg (by omega)]
 ·rw [if_neg (by omega),List.getElem?_eq_none (by simpa using hj)]; rfl
def putTo (p : List Txt) (t l w : Nat) (c : UInt8) (i : Nat) : List Txt := (List.range p.length).map fun j => if t ≤ j ∧ j < i then rowPut (p.getD j []) l c (l + w) else p.getD j []
theorem putTo_len {p : List Txt} {t l w i : Nat} {c : UInt8} : (putTo p t l w c i).length = p.length := by simp [putTo]
theorem putTo_at {p : List Txt} {t l w i : Nat} {c : UInt8} {row : Txt} (h : p[i]? = some row) : (putTo p t l w c i)[i]? = some row := by
 have hi := len_of h
 unfold putTo
 rw [List.getElem?_map,List.getElem?_range hi,Option.map_some,if_neg (by omega),List.getD_eq_getElem?_getD,h]; rfl
theorem putTo_zero {p : List Txt} {t l w : Nat} {c : UInt8} : putTo p t l w c t = p := by
 apply List.ext_getElem?
 intro j
 unfold putTo
 rw [List.getElem?_map]
 by_cases hj : j < p.length
 ·rw [List.getElem?_range hj,Option.map_some,if_neg (by omega),List.getD_eq_getElem?_getD,List.getElem?_eq_getElem hj]; rfl
 ·rw [List.getElem?_eq_none (by simpa using hj),List.getElem?_eq_none (by omega)]; rfl
theorem putTo_succ {p : List Txt} {t l w i : Nat} {c : UInt8} {row : Txt} (h1 : t ≤ i) (h : p[i]? = some row) : (putTo p t l w c i).set i (rowPut row l c (l + w)) = putTo p t l w c (i + 1) := by
 have hi := len_of h
 apply List.ext_getElem?
 intro j
 rw [List.getElem?_set,putTo_len]
 unfold putTo
 rw [List.getElem?_map,List.getElem?_map]
 by_cases hj : j < p.length
 ·rw [List.getElem?_range hj,Option.map_some,Option.map_some]
  by_cases e : i = j
  ·subst e; rw [if_pos rfl,if_pos hi,if_pos (by omega),List.getD_eq_getElem?_getD,h]; rfl
  ·rw [if_neg e]
   by_cases q : t ≤ j ∧ j < i
   ·rw [if_pos q,if_pos (by omega)]
   ·rw [if_neg q,if_neg (by omega)]
 ·rw [if_neg (by omega),List.getElem?_eq_none (by simpa using hj)]; rfl
theorem putTo_sm {p : List Txt} (hs : Sm p) {t l w i : Nat} {c : UInt8} : Sm (putTo p t l w c i) := by
 refine ⟨by rw [putTo_len]; exact hs.1,fun r hr => ?_⟩
 obtain ⟨j,hj,rfl⟩ := List.mem_map.1 hr
 have hjl : j < p.length := by simpa using hj
 have hm : p.getD j [] ∈ p := by
  rw [List.getD_eq_getElem?_getD,List.getElem?_eq_getElem hjl]; exact List.getElem_mem hjl
 have := hs.2 _ hm
 split
 ·rw [rowPut_len]; exact this
 ·exact this
def doneP (p : List Txt) : List Txt × Bool := if gridB p && planB (names p) then (names p,true) else ([],false)
theorem names_len {p : List Txt} (hg : gridB p = true) : (names p).length = p.length := by
 rw [names_text hg]
 have hr : (gP p).length = p.length := by rw [gP_eq]; exact zRows_len _
 unfold textG
 rw [List.length_map,hr]
theorem doneP_ok {p : List Txt} (h : (doneP p).2 = true) : planB (doneP p).1 = true ∧ (doneP p).1.length = p.length := by
 unfold doneP at h ⊢
 split at h
 ·rename_i hq
  rw [if_pos hq]
  simp only [Bool.and_eq_true] at hq
  exact ⟨hq.2,names_len hq.1⟩
 ·cases h
def splitP (p : List Txt) (room : Int) (s : Txt) (k : Int) : List Txt × Bool :=
 if planB p && (decide (0 ≤ room) && decide (room ≤ l1Rooms p - 1)) then
  if (s == [104]) && (decide (1 ≤ k) && decide (k ≤ highOf p room - 1)) then doneP (putTo p ((boxOf p room).top + k).toNat (boxOf p room).left.toNat (wideOf p room).toNat 122 ((boxOf p room).top + k + (highOf p room - k)).toNat)
  else if (s == [118]) && (decide (1 ≤ k) && decide (k ≤ wideOf p room - 1)) then doneP (putTo p (boxOf p room).top.toNat ((boxOf p room).left + k).toNat (wideOf p room - k).toNat 122 ((boxOf p room).top + highOf p room).toNat)
  else ([],false)
 else ([],false)
theorem splitP_ok {p : List Txt} {room k : Int} {s : Txt} (h : (splitP p room s k).2 = true) : planB (splitP p room s k).1 = true ∧ (splitP p room s k).1.length = p.length := by
 unfold splitP at h ⊢
 by_cases h1 : (planB p && (decide (0 ≤ room) && decide (room ≤ l1Rooms p - 1))) = true
 ·rw [if_pos h1] at h ⊢
  by_cases h2 : ((s == [104]) && (decide (1 ≤ k) && decide (k ≤ highOf p room - 1))) = true
  ·rw [if_pos h2] at h ⊢
   have := doneP_ok h
   rw [putTo_len] at this
   exact this
  ·rw [if_neg h2] at h ⊢
   by_cases h3 : ((s == [118]) && (decide (1 ≤ k) && decide (k ≤ wideOf p room - 1))) = true
   ·rw [if_pos h3] at h ⊢
    have := doneP_ok h
    rw [putTo_len] at this
    exact this
   ·rw [if_neg h3] at h; cases h
 ·rw [if_neg h1] at h; cases h
section
variable {p : List Txt} {room : Int} {s : Txt} {t l h w k : Nat}
theorem splitP_g {k : Int} (hgv : (planB p && (decide (0 ≤ room) && decide (room ≤ l1Rooms p - 1))) = false) : splitP p room s k = ([],false) := by
 unfold splitP; rw [hgv]; rfl
theorem splitP_no {k : Int} (h1 : ((s == [104]) && (decide (1 ≤ k) && decide (k ≤ highOf p room - 1))) = false) (h2 : ((s == [118]) && (decide (1 ≤ k) && decide (k ≤ wideOf p room - 1))) = false) : splitP p room s k = ([],false) := by
 unfold splitP; rw [h1,h2]; split <;> rfl
theorem splitP_h (hgv : (planB p && (decide (0 ≤ room) && decide (room ≤ l1Rooms p - 1))) = true) (e1 : (boxOf p room).top = t) (e2 : (boxOf p room).left = l) (e3 : highOf p room = h) (e4 : wideOf p room = w)
  (hb : ((s == [104]) && (decide (1 ≤ (k : Int)) && decide ((k : Int) ≤ highOf p room - 1))) = true) : splitP p room s k = doneP (putTo p (t + k) l w 122 (t + k + (h - k))) := by
 have hk : (k : Int) ≤ h - 1 := by simp only [Bool.and_eq_true,decide_eq_true_eq,e3] at hb; exact hb.2.2
 unfold splitP
 rw [if_pos hgv,if_pos hb,e1,e2,e3,e4]
 have a1 : ((t : Int) + (k : Int)).toNat = t + k := by omega
 have a2 : ((t : Int) + (k : Int) + ((h : Int) - (k : Int))).toNat = t + k + (h - k) := by omega
 rw [a1,a2,Int.toNat_natCast,Int.toNat_natCast]
theorem splitP_v (hgv : (planB p && (decide (0 ≤ room) && decide (room ≤ l1Rooms p - 1))) = true) (e1 : (boxOf p room).top = t) (e2 : (boxOf p room).left = l) (e3 : highOf p room = h) (e4 : wideOf p room = w)
  (ha : ((s == [104]) && (decide (1 ≤ (k : Int)) && decide ((k : Int) ≤ highOf p room - 1))) = false) (hb : ((s == [118]) && (decide (1 ≤ (k : Int)) && decide ((k : Int) ≤ wideOf p room - 1))) = true) : splitP p room s k = doneP (putTo p t (l + k) (w - k) 122 (t + h)) := by
 have hk : (k : Int) ≤ w - 1 := by simp only [Bool.and_eq_true,decide_eq_true_eq,e4] at hb; exact hb.2.2
 unfold splitP
 rw [if_pos hgv,ha,if_neg Bool.false_ne_true,if_pos hb,e1,e2,e3,e4]
 have a1 : ((l : Int) + (k : Int)).toNat = l + k := by omega
 have a2 : ((t : Int) + (h : Int)).toNat = t + h := by omega
 have a3 : ((w : Int) - (k : Int)).toNat = w - k := by omega
 rw [a1,a2,a3,Int.toNat_natCast]
end
theorem plan_box {p : List Txt} (hp : planB p = true) {room : Int} (h0 : 0 ≤ room) (h1 : room ≤ l1Rooms p - 1) : ∃ t l h w : Nat,(boxOf p room).top = t ∧ (boxOf p room).left = l ∧ highOf p room = h ∧ wideOf p room = w ∧ 1 ≤ h ∧ 1 ≤ w ∧ t + h ≤ p.length ∧ l + w ≤ (hdRow p).length := by
 have hN := plan_named hp
 have hr := hN.rooms
 obtain ⟨m,rfl⟩ : ∃ m : Nat,room = m := ⟨room.toNat,by omega⟩
 have hm : m < (rP p).length := by omega
 obtain ⟨b,hb,-⟩ := get_of hm
 have hi := keys_inv p
 obtain ⟨v,hv,-⟩ := get_of (show m < (keys p).length by rw [← hi.len]; exact hm)
 obtain ⟨e1,e2,e3,e4⟩ := hN.box hb
 obtain ⟨t,l,h,w,q1,q2,q3,q4,q5,q6,q7,q8,-⟩ := Hull.nat (hi.hull m v b hv hb)
 exact ⟨t,l,h,w,by omega,by omega,by omega,by omega,q5,q6,q7,q8⟩
theorem rows_wide {p : List Txt} (hp : planB p = true) {i : Nat} {row : Txt} (h : p[i]? = some row) : row.length = (hdRow p).length := grid_row (planB_grid hp) h
theorem plan_small {p : List Txt} (hp : planB p = true) : p.length ≤ 6 ∧ 1 ≤ p.length ∧ ∀ row ∈ p,1 ≤ row.length ∧ row.length ≤ 6 := by
 have hg := planB_grid hp
 have h := grid_small hg
 refine ⟨h.2.1,h.1,fun row hr => ⟨?_,h.2.2 row hr⟩⟩
 obtain ⟨i,hi,rfl⟩ := List.getElem_of_mem hr
 exact row_pos hg (List.getElem?_eq_getElem hi)
end


theorem heavy1_ev {M : List (List Bool)} {ws out : List Int} {nr : Nat} {rk : Nat → Nat} (hu : Up M nr rk) (hn : nr ≤ 9) (hwl : ws.length = nr) (hw : NeedOk ws) {b : Nat} (hb : b < nr) (hmo : Memo M ws nr out)
  (ih : ∀ a,a < nr → rk a < rk b → ∀ out0,Memo M ws nr out0 → Ev Tryz.prog 87 [.int .i64 (a : Nat),.ref 3 3 0,.ref 0 0 0,.ref 4 4 0,.ref 1 1 0] ⟨[.arr 0 66 1 [eRel M],.arr 1 24 1 [eInts ws],.arr 2 3 1 ((out0).map (.int .i64)),.arr 3 24 1 [.loc 2 2 0 nr],.arr 4 52 1 [.fn 87 [.ref 3 3 0,.ref 0 0 0,.ref 4 4 0,.ref 1 1 0]]],5⟩ (fun v S => v = .int .i64 (HB M ws nr a) ∧ ∃ out2,Memo M ws nr out2 ∧ Keep out0 out2 ∧ out2[a]? = some (HB M ws nr a) ∧ S = ⟨[.arr 0 66 1 [eRel M],.arr 1 24 1 [eInts ws],.arr 2 3 1 ((out2).map (.int .i64)),.arr 3 24 1 [.loc 2 2 0 nr],.arr 4 52 1 [.fn 87 [.ref 3 3 0,.ref 0 0 0,.ref 4 4 0,.ref 1 1 0]]],5⟩)) : Ev Tryz.prog 87 [.int .i64 (b : Nat),.ref 3 3 0,.ref 0 0 0,.ref 4 4 0,.ref 1 1 0] ⟨[.arr 0 66 1 [eRel M],.arr 1 24 1 [eInts ws],.arr 2 3 1 ((out).map (.int .i64)),.arr 3 24 1 [.loc 2 2 0 nr],.arr 4 52 1 [.fn 87 [.ref 3 3 0,.ref 0 0 0,.ref 4 4 0,.ref 1 1 0]]],5⟩ fun v S => v = .int .i64 (HB M ws nr b) ∧ ∃ out2,Memo M ws nr out2 ∧ Keep out out2 ∧ out2[b]? = some (HB M ws nr b) ∧ S = ⟨[.arr 0 66 1 [eRel M],.arr 1 24 1 [eInts ws],.arr 2 3 1 ((out2).map (.int .i64)),.arr 3 24 1 [.loc 2 2 0 nr],.arr 4 52 1 [.fn 87 [.ref 3 3 0,.ref 0 0 0,.ref 4 4 0,.ref 1 1 0]]],5⟩ := by
 obtain ⟨x0,hx0,hx0c⟩ := hmo.at_ hb
 have hml := hmo.1
 have hsq := hu.sq.1
 have hHb := HB_bound (M := M) (n := nr) hw b
 have hHp := HB_pos (M := M) (n := nr) hw (b := b) (by omega)
 have hHe := HB_eq (ws := ws) hu hb
 obtain ⟨wb,hwb,hwbm⟩ := get_of (show b < ws.length by omega)
 have hwb1 := hw wb hwbm
 rw [getI_is hwb] at hHe
 refine Ev.of ⟨Tryz.func87,by kernel_rfl,rfl,by kernel_rfl⟩ tabOk mixed (by show 5 ≤ Tryz.f87.ntmps; decide) ?_
 refine W.r fun K hK => ?_
 simp (disch := omega) only [↓RU,RV,RH,↓reduceIte,reduceEqDiff,reduceCtorEq,if_pos,↓RS,RG,reduceAdd,reduceMul,reduceLeDiff]
 refine hK _ _ ?_;clear hK K
 refine W.seq ?_
 refine W.r fun K hK => ?_
 simp (disch := omega) only [↓RU,RV,RH,↓reduceIte,reduceEqDiff,reduceCtorEq,if_pos,w64,↓RS,RG,reduceAdd,reduceMul,reduceLeDiff,tyLint,tyint,hx0]
 refine hK _ _ ?_;clear hK K
 refine W.cond rfl (fun h0 => ?_) (fun h0 => ?_)
 ·try simp only [RL] at h0
  subst h0
  refine W.r fun K hK => ?_
  simp (disch := omega) only [↓RU,RV,RH,↓reduceIte,reduceEqDiff,reduceCtorEq,if_pos,↓RS,RG,reduceAdd,reduceMul,reduceLeDiff]
  refine hK _ _ ?_;clear hK K
  refine W.seq ?_
  refine W.r fun K hK => ?_
  simp (disch := omega) only [↓RU,RV,RH,↓reduceIte,reduceEqDiff,reduceCtorEq,if_pos,↓RS,RG,reduceAdd,reduceMul,reduceLeDiff,ty0,ty2,tybool,ty16,hsq]
  refine hK _ _ ?_;clear hK K
  refine W.block ?_
  refine W.loop [0,1,2,3,4,7,15,16] (fun n vs S => ∃ (a : Nat) (out1 : List Int),n = nr - a ∧ a ≤ nr ∧ Memo M ws nr out1 ∧ Keep out out1 ∧ vs = [.int .i64 (b : Nat),.ref 3 3 0,.ref 0 0 0,.ref 4 4 0,.ref 1 1 0,.int .i64 (hvF M (HB M ws nr) b a),.int .i64 nr,.int .i64 a] ∧ S = ⟨[.arr 0 66 1 [eRel M],.arr 1 24 1 [eInts ws],.arr 2 3 1 ((out1).map (.int .i64)),.arr 3 24 1 [.loc 2 2 0 nr],.arr 4 52 1 [.fn 87 [.ref 3 3 0,.ref 0 0 0,.ref 4 4 0,.ref 1 1 0]]],5⟩) nr ?_ ?_
  ·refine ⟨5,0,out,rfl,by omega,hmo,Keep.refl _,?_,rfl⟩
   simp [Env.put,Env.of,argEnv,hvF,hsq]
  rintro n vs S - ⟨a,out1,rfl,h_a,hm1,hk1,rfl,rfl⟩
  refine W.r fun K hK => ?_
  simp (disch := omega) only [↓RU,RV,RH,↓reduceIte,reduceEqDiff,reduceCtorEq,if_pos,w64,↓RS,RG,reduceAdd,reduceMul,reduceLeDiff,tyint]
  refine hK _ _ ?_;clear hK K
  refine W.seq ?_
  refine W.cond rfl (fun h1 => ?_) (fun h1 => ?_)
  ·try simp only [RL] at h1
   have hal : a < nr := by omega
   have hF := hvF_bound (M := M) (g := HB M ws nr) (b := b) (B := 909) (by omega) (i := a) fun a _ _ => (HB_bound hw a).2
   have hHa := HB_bound (M := M) (n := nr) hw a
   obtain ⟨row,hrow,hrl,hrb⟩ := hu.sq.at_ hal hb
   refine W.skip ?_
   refine xn ?_
   refine W.seq ?_
   refine W.block ?_
   refine W.r fun K hK => ?_
   simp (disch := omega) only [↓RU,RV,RH,↓reduceIte,reduceEqDiff,reduceCtorEq,if_pos,↓RS,RG,reduceAdd,reduceMul,reduceLeDiff]
   refine hK _ _ ?_;clear hK K
   refine W.r fun K hK => ?_
   simp (disch := omega) only [↓RU,RV,RH,↓reduceIte,reduceEqDiff,reduceCtorEq,if_pos,↓RS,RG,reduceAdd,reduceMul,reduceLeDiff,ty0,ty2,tybool,ty16,hrow,hrb,hrl]
   refine hK _ _ ?_;clear hK K
   refine W.cond rfl (fun h2 => ?_) (fun h2 => ?_)
   ·try simp only [RL] at h2
    have hrk := hu.up a b hal hb h2
    refine W.k fun K hK => ?_
    simp (disch := omega) only [↓RU,RV,RH,↓reduceIte,reduceEqDiff,reduceCtorEq,if_pos,List.append_nil,ite_max,↓RS,RG,reduceAdd,reduceMul,reduceLeDiff,ty9,tyint]
    refine CallR.ev (ih a hal hrk out1 hm1) ?_
    rintro _ _ ⟨rfl,out2,hm2,hk2,ho2,rfl⟩
    simp (disch := omega) only [↓RU,RV,RH,↓reduceIte,reduceEqDiff,reduceCtorEq,if_pos,List.append_nil,ite_max,↓RS,RG,reduceAdd,reduceMul,reduceLeDiff,ty9,tyint]
    refine hK _ _ ?_;clear hK K
    refine XbN ?_
    refine xn ?_
    refine W.k fun K hK => ?_
    simp (disch := omega) only [↓RU,RV,RH,↓reduceIte,reduceEqDiff,reduceCtorEq,if_pos,w64,↓RS,RG,reduceAdd,reduceMul,reduceLeDiff,tyint]
    refine hK _ _ ?_;clear hK K
    refine xn ?_
    refine ⟨nr - (a + 1),by omega,5,a + 1,out2,rfl,by omega,hm2,hk1.trans hk2,?_,rfl⟩
    simp [Env.put,Env.of,hvF_succ,h2]
   ·try simp only [RL] at h2
    refine W.skip ?_
    refine XbN ?_
    refine xn ?_
    refine W.k fun K hK => ?_
    simp (disch := omega) only [↓RU,RV,RH,↓reduceIte,reduceEqDiff,reduceCtorEq,if_pos,w64,↓RS,RG,reduceAdd,reduceMul,reduceLeDiff,tyint]
    refine hK _ _ ?_;clear hK K
    refine xn ?_
    refine ⟨nr - (a + 1),by omega,5,a + 1,out1,rfl,by omega,hm1,hk1,?_,rfl⟩
    simp [Env.put,Env.of,hvF_succ,h2]
  ·try simp only [RL] at h1
   obtain rfl : nr = a := by omega
   have hF := hvF_bound (M := M) (g := HB M ws nr) (b := b) (B := 909) (by omega) (i := nr) fun a _ _ => (HB_bound hw a).2
   have hm1l := hm1.1
   have hset : (out1.set b (HB M ws nr b))[b]? = some (HB M ws nr b) := by rw [List.getElem?_set,if_pos rfl,if_pos (by omega)]
   refine W.exit ?_
   refine xe ?_
   refine xe ?_
   refine XBlock.hit ?_
   refine xn ?_
   refine W.draw_k (by kernel_rfl) fun K hK => ?_
   simp (disch := omega) only [↓RU,RV,RH,↓reduceIte,reduceEqDiff,reduceCtorEq,if_pos,w64,↓RS,RG,reduceAdd,reduceMul,reduceLeDiff,tyLint,tyint,hwb,hm1l,set_spl,set_int,← hHe]
   refine hK _ _ ?_;clear hK K
   refine xn ?_
   refine W.r fun K hK => ?_
   simp (disch := omega) only [↓RU,RV,RH,↓reduceIte,reduceEqDiff,reduceCtorEq,if_pos,↓RS,RG,reduceAdd,reduceMul,reduceLeDiff,tyLint,tyint,hset]
   refine hK _ _ ?_;clear hK K
   refine W.ret ?_
   refine Br rfl ?_
   exact ⟨5,rfl,_,hm1.set,hk1.trans hm1.keep,hset,rfl⟩
 ·try simp only [RL] at h0
  obtain rfl := hx0c.resolve_left h0
  have hset := hx0
  refine W.skip ?_
  refine xn ?_
  refine W.r fun K hK => ?_
  simp (disch := omega) only [↓RU,RV,RH,↓reduceIte,reduceEqDiff,reduceCtorEq,if_pos,↓RS,RG,reduceAdd,reduceMul,reduceLeDiff,tyLint,tyint,hset]
  refine hK _ _ ?_;clear hK K
  refine W.ret ?_
  refine Br rfl ?_
  exact ⟨5,rfl,_,hmo,Keep.refl _,hx0,rfl⟩
theorem heavy_ev {M : List (List Bool)} {ws : List Int} {nr : Nat} {rk : Nat → Nat} (hu : Up M nr rk) (hn : nr ≤ 9) (hwl : ws.length = nr) (hw : NeedOk ws) : ∀ (k b : Nat),rk b < k → b < nr → ∀ out,Memo M ws nr out → Ev Tryz.prog 87 [.int .i64 (b : Nat),.ref 3 3 0,.ref 0 0 0,.ref 4 4 0,.ref 1 1 0] ⟨[.arr 0 66 1 [eRel M],.arr 1 24 1 [eInts ws],.arr 2 3 1 ((out).map (.int .i64)),.arr 3 24 1 [.loc 2 2 0 nr],.arr 4 52 1 [.fn 87 [.ref 3 3 0,.ref 0 0 0,.ref 4 4 0,.ref 1 1 0]]],5⟩ (fun v S => v = .int .i64 (HB M ws nr b) ∧ ∃ out2,Memo M ws nr out2 ∧ Keep out out2 ∧ out2[b]? = some (HB M ws nr b) ∧ S = ⟨[.arr 0 66 1 [eRel M],.arr 1 24 1 [eInts ws],.arr 2 3 1 ((out2).map (.int .i64)),.arr 3 24 1 [.loc 2 2 0 nr],.arr 4 52 1 [.fn 87 [.ref 3 3 0,.ref 0 0 0,.ref 4 4 0,.ref 1 1 0]]],5⟩)
 | 0,b,h,_,_,_ => by omega
 | k + 1,b,h,hb,out,hm => heavy1_ev hu hn hwl hw hb hm fun a ha hr out0 h0 => heavy_ev hu hn hwl hw k a (by omega) ha out0 h0
theorem heaviest_pn {M : List (List Bool)} {ws : List Int} {nr : Nat} {rk : Nat → Nat} (hu : Up M nr rk) (hn : nr ≤ 9) (hwl : ws.length = nr) (hw : NeedOk ws) : PN Tryz.prog 42 [eRel M,eInts ws] (.loc 0 0 0 nr) [.arr 0 3 1 ((heaviest M ws nr).map (.int .i64))] false := by
 have hsq := hu.sq.1
 refine PN.of ⟨Tryz.func42,by kernel_rfl,rfl,by kernel_rfl⟩ tabOk mixed (by show 2 ≤ Tryz.f42.ntmps; decide) ?_
 refine W.r fun K hK => ?_
 simp (disch := omega) only [↓RU,RV,RH,↓reduceIte,reduceEqDiff,reduceCtorEq,if_pos,↓RS,RG,reduceAdd,reduceMul,reduceLeDiff,ty0,ty2,tyLint,tybool,ty16,tyint]
 refine hK _ _ ?_;clear hK K
 refine W.r fun K hK => ?_
 simp (disch := omega) only [↓RU,RV,RH,↓reduceIte,reduceEqDiff,reduceCtorEq,if_pos,↓RS,RG,reduceAdd,reduceMul,reduceLeDiff,ty0,ty2,tyLint,tybool,ty16,tyint,hsq,repz_int,ile_true]
 refine hK _ _ ?_;clear hK K
 refine W.r fun K hK => ?_
 simp (disch := omega) only [↓RU,RV,RH,↓reduceIte,reduceEqDiff,reduceCtorEq,if_pos,↓RS,RG,reduceAdd,reduceMul,reduceLeDiff,ty9]
 refine hK _ _ ?_;clear hK K
 refine W.r fun K hK => ?_
 simp (disch := omega) only [↓RU,RV,RH,↓reduceIte,reduceEqDiff,reduceCtorEq,if_pos,↓RS,RG,reduceAdd,reduceMul,reduceLeDiff,ty9,cells_fn,ic_fn]
 refine hK _ _ ?_;clear hK K
 refine W.seq ?_
 refine W.r fun K hK => ?_
 simp (disch := omega) only [↓RU,RV,RH,↓reduceIte,reduceEqDiff,reduceCtorEq,if_pos,↓RS,RG,reduceAdd,reduceMul,reduceLeDiff,ty0,ty2,tybool,ty16,hsq]
 refine hK _ _ ?_;clear hK K
 refine W.block ?_
 refine W.loop [5,6,13,14] (fun n vs S => ∃ (b : Nat) (out : List Int),n = nr - b ∧ b ≤ nr ∧ Memo M ws nr out ∧ (∀ c,c < b → out[c]? = some (HB M ws nr c)) ∧ vs = [.ref 3 3 0,.ref 4 4 0,.int .i64 nr,.int .i64 b] ∧ S = ⟨[.arr 0 66 1 [eRel M],.arr 1 24 1 [eInts ws],.arr 2 3 1 ((out).map (.int .i64)),.arr 3 24 1 [.loc 2 2 0 nr],.arr 4 52 1 [.fn 87 [.ref 3 3 0,.ref 0 0 0,.ref 4 4 0,.ref 1 1 0]]],5⟩) nr ?_ ?_
 ·refine ⟨5,0,List.replicate nr 0,rfl,by omega,memo_zero,fun c h => absurd h (by omega),?_,?_⟩
  ·simp [Env.put,Env.of,argEnv,hsq]
  ·simp [take_eq,spl,hsq]
 rintro n vs S - ⟨b,out,rfl,h_b,hm,hdone,rfl,rfl⟩
 refine W.r fun K hK => ?_
 simp (disch := omega) only [↓RU,RV,RH,↓reduceIte,reduceEqDiff,reduceCtorEq,if_pos,w64,↓RS,RG,reduceAdd,reduceMul,reduceLeDiff,tyint]
 refine hK _ _ ?_;clear hK K
 refine W.seq ?_
 refine W.cond rfl (fun h => ?_) (fun h => ?_)
 ·try simp only [RL] at h
  have hbn : b < nr := by omega
  refine W.skip ?_
  refine xn ?_
  refine W.seq ?_
  refine W.block ?_
  refine W.r fun K hK => ?_
  simp (disch := omega) only [↓RU,RV,RH,↓reduceIte,reduceEqDiff,reduceCtorEq,if_pos,↓RS,RG,reduceAdd,reduceMul,reduceLeDiff]
  refine hK _ _ ?_;clear hK K
  refine W.k fun K hK => ?_
  simp (disch := omega) only [↓RU,RV,RH,↓reduceIte,reduceEqDiff,reduceCtorEq,if_pos,List.append_nil,↓RS,RG,reduceAdd,reduceMul,reduceLeDiff,ty9]
  refine CallR.ev (heavy_ev hu hn hwl hw (rk b + 1) b (by omega) hbn out hm) ?_
  rintro _ _ ⟨rfl,out2,hm2,hk2,ho2,rfl⟩
  simp (disch := omega) only [↓RU,RV,RH,↓reduceIte,reduceEqDiff,reduceCtorEq,if_pos,List.append_nil,↓RS,RG,reduceAdd,reduceMul,reduceLeDiff,ty9]
  refine hK _ _ ?_;clear hK K
  refine XbN ?_
  refine xn ?_
  refine W.k fun K hK => ?_
  simp (disch := omega) only [↓RU,RV,RH,↓reduceIte,reduceEqDiff,reduceCtorEq,if_pos,w64,↓RS,RG,reduceAdd,reduceMul,reduceLeDiff,tyint]
  refine hK _ _ ?_;clear hK K
  refine xn ?_
  refine ⟨nr - (b + 1),by omega,5,b + 1,out2,rfl,by omega,hm2,?_,?_,rfl⟩
  ·intro c hc
   by_cases e : c = b
   ·subst e; exact ho2
   ·have h1 := hdone c (by omega)
    exact hk2 c _ h1 (by have := HB_pos (M := M) (n := nr) hw (b := c) (by omega); omega)
  ·simp [Env.put,Env.of]
 ·try simp only [RL] at h
  obtain rfl : nr = b := by omega
  obtain rfl := memo_all hm hdone
  refine W.exit ?_
  refine xe ?_
  refine xe ?_
  refine XBlock.hit ?_
  refine xn ?_
  refine W.joinS [4] (fun vs S => ∃ v t : Nat,vs = [.loc 0 v 0 nr] ∧ S = ⟨[.arr v 3 1 ((heaviest M ws nr).map (.int .i64))],t⟩) ?_ ?_
  ·
   refine W.k fun K hK => ?_
   simp (disch := omega) only [↓RU,RV,RH,↓reduceIte,reduceEqDiff,reduceCtorEq,if_pos,↓RS,RG,reduceAdd,reduceMul,reduceLeDiff,tyLint,tyint]
   refine hK _ _ ?_;clear hK K
   refine xn ?_
   refine ⟨0,[2],[.loc 0 5 0 nr],⟨[.arr 5 3 1 ((heaviest M ws nr).map (.int .i64))],6⟩,?_,?_,5,6,rfl,rfl⟩
   ·simp [-List.mapM_map,Env.put,Env.of,argEnv,Srn_eq,rnObs_cons,rnObs_nil,rnOb_arr,rnOb_map,rn_loc,rn_ref,rn_mp,rn_int,rn_bool,rn_str,rn_ip,rn_sl,rn_nils,rn_nilp,rn_undef,rn_agg,rn_tup,rn_fn,rfq_loc,rfq_int,rfq_bool,rfq_str,rfq_sl,frOf,List.range_succ,List.mapM_append,List.mapM_cons]
   ·simp [-List.mapM_map,Env.put,Env.of,argEnv,Srn_eq,rnObs_cons,rnObs_nil,rnOb_arr,rnOb_map,rn_loc,rn_ref,rn_mp,rn_int,rn_bool,rn_str,rn_ip,rn_sl,rn_nils,rn_nilp,rn_undef,rn_agg,rn_tup,rn_fn,rfq_loc,rfq_int,rfq_bool,rfq_str,rfq_sl,frOf,List.range_succ,List.mapM_append,List.mapM_cons,rn_ints]
  rintro vs S - ⟨v,t,rfl,rfl⟩
  refine W.ret ?_
  refine Br rfl ?_
  exact sh_one rfl (sh_ints _)
theorem max_pc {l : List Int} {x0 : Int} (h0 : l[0]? = some x0) (hl : l.length < 2147483648) : PC Tryz.prog 40 [eInts l] (.int .i64 (maxL l)) true := by
 have hl0 := len_of h0
 refine PC.of ⟨Tryz.func40,by kernel_rfl,rfl,by kernel_rfl⟩ tabOk mixed (by show 1 ≤ Tryz.f40.ntmps; decide) ?_
 refine W.r fun K hK => ?_
 simp (disch := omega) only [↓RU,RV,RH,↓reduceIte,reduceEqDiff,reduceCtorEq,if_pos]
 refine hK _ _ ?_;clear hK K
 refine W.seq ?_
 refine W.r fun K hK => ?_
 simp (disch := omega) only [↓RU,RV,RH,↓reduceIte,reduceEqDiff,reduceCtorEq,if_pos,w64,tyLint,tyint]
 refine hK _ _ ?_;clear hK K
 refine W.cond rfl (fun h => ?_) (fun h => ?_)
 ·try simp only [RL] at h
  exfalso; omega
 ·try simp only [RL] at h
  refine W.skip ?_
  refine xn ?_
  refine W.r fun K hK => ?_
  simp (disch := omega) only [↓RU,RV,RH,↓reduceIte,reduceEqDiff,reduceCtorEq,if_pos,tyLint,tyint,h0,Int.toNat_zero,Nat.zero_mul,Int.reduceToNat]
  refine hK _ _ ?_;clear hK K
  refine W.seq ?_
  refine W.r fun K hK => ?_
  simp (disch := omega) only [↓RU,RV,RH,↓reduceIte,reduceEqDiff,reduceCtorEq,if_pos]
  refine hK _ _ ?_;clear hK K
  refine W.block ?_
  refine W.loop [0,3,4] (fun n vs S => ∃ i : Nat,n = l.length - i ∧ i ≤ l.length ∧ (1 ≤ i) ∧ vs = [eInts l,.int .i64 (((l.take i).drop 1).foldl max x0),.int .i64 i] ∧ S = ⟨[],0⟩) (l.length - 1) ?_ ?_
  ·refine ⟨0,1,rfl,by omega,Nat.le_refl _,?_,rfl⟩
   simp [Env.put,Env.of,argEnv,maxL_start]
  rintro n vs S - ⟨i,rfl,h_i,h1i,rfl,rfl⟩
  refine W.seq ?_
  refine W.r fun K hK => ?_
  simp (disch := omega) only [↓RU,RV,RH,↓reduceIte,reduceEqDiff,reduceCtorEq,if_pos,w64,tyLint,tyint]
  refine hK _ _ ?_;clear hK K
  refine W.cond rfl (fun h1 => ?_) (fun h1 => ?_)
  ·try simp only [RL] at h1
   obtain ⟨x,hx,-⟩ := get_of (show i < l.length by omega)
   refine W.skip ?_
   refine xn ?_
   refine W.seq ?_
   refine W.block ?_
   refine W.k fun K hK => ?_
   simp (disch := omega) only [↓RU,RV,RH,↓reduceIte,reduceEqDiff,reduceCtorEq,if_pos,ite_max,tyLint,tyint,hx]
   refine hK _ _ ?_;clear hK K
   refine XbN ?_
   refine xn ?_
   refine W.k fun K hK => ?_
   simp (disch := omega) only [↓RU,RV,RH,↓reduceIte,reduceEqDiff,reduceCtorEq,if_pos,w64,tyint]
   refine hK _ _ ?_;clear hK K
   refine xn ?_
   refine ⟨l.length - (i + 1),by omega,0,i + 1,rfl,by omega,by omega,?_,rfl⟩
   rw [maxL_step h1i hx]
   simp [Env.put,Env.of]
  ·try simp only [RL] at h1
   refine W.exit ?_
   refine xe ?_
   refine xe ?_
   refine XBlock.hit ?_
   refine xn ?_
   refine W.r fun K hK => ?_
   simp (disch := omega) only [↓RU,RV,RH,↓reduceIte,reduceEqDiff,reduceCtorEq,if_pos]
   refine hK _ _ ?_;clear hK K
   refine W.ret ?_
   refine Br rfl ?_
   rw [maxL_end h0 (by omega)]
   rfl


section
section
variable {n : Nat} {M X : List (List Bool)}
def rvB (M : List (List Bool)) (a : Nat) (X : List (List Bool)) (b : Nat) : List (List Bool) := setB X b a (getB M a b)
def rvA (n : Nat) (M : List (List Bool)) (X : List (List Bool)) (a : Nat) : List (List Bool) := (List.range n).foldl (rvB M a) X
def rv (n : Nat) (M : List (List Bool)) : List (List Bool) := (List.range n).foldl (rvA n M) (emptyM n)
end
end

section
section
variable {S : Store} {fr : Nat → Bool} {f : Nat}
end
end


section
section
variable {p : List Txt} {below : Bool}
end
end
section
section
variable {P : Program} {T : Tab} {F : Nat → Prop} {G : GSt} {w : World} {e : Env} {a : Act} {F0 : Nat → Prop} {G0 : GSt} {w0 : World} {N : Nat}
theorem conv_new (hT : TabOk P T) (hi : Inv F G w) (he : EnvR w.heap F G e a) {o : Oper} {s d el : TypeId} {x : Operand} {str : List UInt8} (hop : o.op = .convert s d x) (hs : (T s).kd = .str) (hd : (T d).kd = .slice el) (hu8 : (T el).kd = .int .u8)
  (hx0 : e.ev x = .str str) (hlen63 : str.length ≤ 1048576) {K : PV → Store → Prop} (h : K (.loc G.er.obs.length G.er.tick 0 str.length) (G.er.push el 1 (str.map eB))) {next : Act → World → Prop} {Q : Exit → Act → World → Prop}
  (hk : Goes F G w K fun cv w' => next (a.put o.dst cv) w') : o.wp P a w next Q := by
 have hx := he.ev x
 rw [hx0] at hx
 obtain ⟨b,ex,hb⟩ := hx.str
 have hr : (execOp a.eval o).run P w = .ok (.value (.slice (some ⟨w.heap.size,0,none⟩) b.size (grownCap w b.size 0 el))) (Lib.bytesWorld w el b) := by
  simp only [execOp,hop,ex]
  rw [Sem.run_bind,Lib.run_convert_string_bytes w s d el b (kd_str hT hs) (kd_slice hT hd) (kd_int hT hu8)]
  rfl
 have hlen : str.length = b.size := by rw [← hb]; simp
 have hsz : (Lib.bytesWorld w el b).heap.size = w.heap.size + 1 := Lib.bytesWorld_size w el b
 have hge := grownCap_ge w b.size 0 el
 have hcs : (Lib.bytesCells w el b).size = grownCap w b.size 0 el := by
  simp [Lib.bytesCells]; omega
 have hpush : (Lib.bytesWorld w el b).heap = w.heap.push (.cells (Lib.bytesCells w el b) el ((Lib.bytesCells w el b).size,(Lib.bytesCells w el b).size + 1)) := by
  apply Array.ext_getElem?
  intro j
  rw [Array.getElem?_push]
  by_cases hj : j = w.heap.size
  ·subst hj; rw [if_pos rfl]; exact Lib.bytesWorld_at_new w el b
  ·rw [if_neg hj]
   by_cases hj2 : j < w.heap.size
   ·exact Lib.bytesWorld_at_old w el b j hj2
   ·rw [Array.getElem?_eq_none (by omega),Array.getElem?_eq_none (by omega)]
 obtain ⟨k1,k2⟩ := push_obj hi (.arr G.tick el 1 (str.map eB)) (Lib.bytesCells w el b).size (Lib.bytesWorld w el b) (w.drawn + 1) rfl (Nat.le_succ _) ⟨_,hpush⟩ rfl
  ⟨_,⟨_,Lib.bytesWorld_at_new w el b,.inr (Nat.le_refl _)⟩,rfl,by show (str.map eB).length ≤ (Lib.bytesCells w el b).size; rw [List.length_map,hcs]; omega,fun i p hp => by
   have hil : i < str.length := by have := (List.getElem?_eq_some_iff.1 hp).1; simpa using this
   rw [List.getElem?_map,List.getElem?_eq_getElem hil] at hp
   cases hp
   refine ⟨rfl,.int .u8 (str[i].toNat : Int),?_,.imm _ _ (.int _ _)⟩
   have := Lib.bytesWorld_cell w el b i (by omega)
   simp only [World.cell?,Lib.bytesWorld_at_new,Option.isSome_none,Bool.false_eq_true,if_false] at this
   rw [this,hb,List.getD_eq_getElem?_getD,List.getElem?_eq_getElem hil]
   rfl⟩
 unfold Oper.wp
 rw [hr]
 refine hk (.loc G.er.obs.length G.er.tick 0 str.length) _ _ _ _ (by rw [er_push]; exact h) k1 k2 ?_
 rw [hlen]
 exact new_loc (et := el) (sz := 1) (cells := str.map eB) (l := ⟨w.heap.size,(Lib.bytesCells w el b).size⟩) _ _ _ (by simp) (Nat.lt_succ_self _) rfl hge (grownCap_le_maxLen w _ _ _ (by unfold maxLen; omega)) (by rw [Nat.mul_one]; exact hcs.symm)
def pOpsT (P : Program) (T : Tab) (ops : Array Oper) (Q : Env → Store → Prop) : Nat → List Oper → Env → Store → Prop
 | _,[],e,S => Q e S
 | 0,o :: l,e,S => ∃ (s d el : TypeId) (x : Operand) (str : List UInt8),o.guard = none ∧ o.op = .convert s d x ∧ (T s).kd = .str ∧ (T d).kd = .slice el ∧ (T el).kd = .int .u8 ∧ e.ev x = .str str ∧ str.length ≤ 1048576 ∧
   pOps P T ops Q l (e.put o.dst (.loc S.obs.length S.tick 0 str.length)) (S.push el 1 (str.map eB))
 | k + 1,o :: l,e,S => o.guard = none ∧ pOp P T e S o.op fun v S' => pOpsT P T ops Q k l (e.put o.dst v) S'
theorem pOpsT_sound {R : Option Nat} {nn : Nat} (hT : TabOk P T) {ops : Array Oper} {Q : Env → Store → Prop} : ∀ (k : Nat) (l : List Oper) {e : Env} {F : Nat → Prop} {G : GSt} {a : Act} {w : World},pOpsT P T ops Q k l e G.er → Inv F G w → EnvR w.heap F G e a →
  Next F0 G0 w0 F G w → a.tmps.size = N → Marks w0 a.defers w → (∀ o ∈ l,∀ d,o.dst = some d → d < N) → wpListIn (fnc R) nn P ops (Sto F0 G0 w0 N (Nrm Q)) l a w
 | _,[],e,F,G,a,w,h,hi,he,hn,hs,hd,_ => by
  have h' : Q e G.er := by unfold pOpsT at h; exact h
  exact ⟨e,F,G,h',hi,he,hn,hs,hd⟩
 | 0,o :: l,e,F,G,a,w,h,hi,he,hn,hs,hd,hdst => by
  have ho : ∀ t,o.dst = some t → t < a.tmps.size := fun t ht => by rw [hs]; exact hdst o (by simp) t ht
  have hl : ∀ o ∈ l,∀ d,o.dst = some d → d < N := fun o' h' => hdst o' (by simp [h'])
  unfold pOpsT at h
  obtain ⟨s,d,el,x,str,hg,hop,q1,q2,q3,q4,q5,h⟩ := h
  unfold wpListIn
  have hw : Region.wanted o (yielded ops a.tmps) = true := by unfold Region.wanted; rw [hg]
  rw [if_pos hw]
  refine wp_in (by rw [hop]; intro c q; cases q) (conv_new hT hi he hop q1 q2 q3 q4 q5 (K := fun v S' => v = .loc G.er.obs.length G.er.tick 0 str.length ∧ S' = G.er.push el 1 (str.map eB)) ⟨rfl,rfl⟩ ?_)
  rintro v cv F' G' w' ⟨rfl,hE⟩ i1 i2 i3
  refine pOps_sound hT l (by rw [hE]; exact h) i1 ((he.next hi i2).put _ ho i3) (hn.trans i2) (by rw [put_size]; exact hs) (by rw [put_defers']; exact hd.next hi i2) hl
 | k + 1,o :: l,e,F,G,a,w,h,hi,he,hn,hs,hd,hdst => by
  have ho : ∀ t,o.dst = some t → t < a.tmps.size := fun t ht => by rw [hs]; exact hdst o (by simp) t ht
  have hl : ∀ o ∈ l,∀ d,o.dst = some d → d < N := fun o' h' => hdst o' (by simp [h'])
  unfold pOpsT at h
  obtain ⟨hg,h⟩ := h
  unfold wpListIn
  have hw : Region.wanted o (yielded ops a.tmps) = true := by unfold Region.wanted; rw [hg]
  rw [if_pos hw]
  refine op_sound hT hi he h ?_
  intro v cv F' G' w' hK i1 i2 i3
  exact pOpsT_sound hT k l hK i1 ((he.next hi i2).put _ ho i3) (hn.trans i2) (by rw [put_size]; exact hs) (by rw [put_defers']; exact hd.next hi i2) hl
end
section
variable {P : Program} {T : Tab} {Q : Exit → Env → Store → Prop} {e : Env} {S : Store} {b : Code}
theorem W.region_t (k : Nat) {id : Nat} {ops : Array Oper} (h : pOpsT P T ops (Q .normal) k ops.toList e S) : W P T (.region id ops false) Q e S := by
 refine ⟨?_⟩
 intro hT hm F0 G0 w0 N F G a w h3 h4 h5 h6 h7 h8 h9 R nn
 subst h3
 refine wpIn_mono (wpIn_region_list (pOpsT_sound hT k _ h h4 h5 h6 h7 h8 (dst_all h9))) ?_
 exact nrm_le
def ThawR (P : Program) (T : Tab) (ds : List (Option Tmp)) (o : Oper) (l : List Oper) (e : Env) (S : Store) (K : Env → Store → Prop) : Prop :=
 ∃ (s d el : TypeId) (x : Operand) (str : List UInt8),o.guard = none ∧ o.op = .convert s d x ∧ (T s).kd = .str ∧ (T d).kd = .slice el ∧ (T el).kd = .int .u8 ∧ e.ev x = .str str ∧ str.length ≤ 1048576 ∧
  eRun false P T ds l (e.put o.dst (.loc S.obs.length S.tick 0 str.length)) (S.push el 1 (str.map eB)) K
theorem pOps_mono {ops : Array Oper} {K K' : Env → Store → Prop} (h : ∀ e S,K e S → K' e S) : ∀ (l : List Oper) {e : Env} {S : Store},pOps P T ops K l e S → pOps P T ops K' l e S
 | [],e,S,k => h e S k
 | o :: l,e,S,k => by
  unfold pOps pGuard at k ⊢
  cases hg : gdec ops o e with
  | none => rw [hg] at k; exact k.elim
  | some b =>
   rw [hg] at k
   cases b with
   | true => exact pOp_mono (fun v S' k => pOps_mono h l k) k
   | false => exact pOps_mono h l k
theorem pOps_thaw {ops : Array Oper} {K : Env → Store → Prop} {o : Oper} {l2 : List Oper} : ∀ (l1 : List Oper) {e : Env} {S : Store},l1.all (fun o => o.guard.isNone) = true →
  pOps P T ops (fun e S => ∃ (s d el : TypeId) (x : Operand) (str : List UInt8),o.guard = none ∧ o.op = .convert s d x ∧ (T s).kd = .str ∧ (T d).kd = .slice el ∧ (T el).kd = .int .u8 ∧ e.ev x = .str str ∧ str.length ≤ 1048576 ∧
   pOps P T ops K l2 (e.put o.dst (.loc S.obs.length S.tick 0 str.length)) (S.push el 1 (str.map eB))) l1 e S → pOpsT P T ops K l1.length (l1 ++ o :: l2) e S
 | [],e,S,_,h => h
 | q :: l1,e,S,hg,h => by
  simp only [List.all_cons,Bool.and_eq_true,Option.isNone_iff_eq_none] at hg
  show q.guard = none ∧ _
  refine ⟨hg.1,?_⟩
  unfold pOps pGuard gdec at h
  rw [hg.1] at h
  exact pOp_mono (fun v S' h => pOps_thaw l1 hg.2 h) h
theorem W.seq_thaw {id : Nat} {l1 l2 : List Oper} {o : Oper} (hg : l1.all (fun o => o.guard.isNone) = true) (h : ∀ K : Env → Store → Prop,(∀ e S,W P T b Q e S → K e S) → eRun false P T (dsts (l1 ++ o :: l2)) l1 e S fun e S => ThawR P T (dsts (l1 ++ o :: l2)) o l2 e S K) :
  W P T (.seq (.region id (l1 ++ o :: l2).toArray false) b) Q e S := by
 refine W.seq (W.region_t l1.length ?_)
 have h1 := eRun_pOps l1 e S (h _ fun _ _ h => h)
 refine pOps_thaw l1 hg (pOps_mono ?_ l1 h1)
 rintro e S ⟨s,d,el,x,str,q1,q2,q3,q4,q5,q6,q7,q8⟩
 exact ⟨s,d,el,x,str,q1,q2,q3,q4,q5,q6,q7,eRun_pOps l2 _ _ q8⟩
end
end
abbrev eBy (l : Txt) : PV := .sl (l.map eB) l.length
theorem tmod_nn {a b : Nat} : ((a : Nat) : Int).tmod ((b : Nat) : Int) = ((a % b : Nat) : Int) := (Int.ofNat_tmod a b).symm
theorem tdiv_nn {a b : Nat} : ((a : Nat) : Int).tdiv ((b : Nat) : Int) = ((a / b : Nat) : Int) := (Int.ofNat_tdiv a b).symm
theorem w_xor {a b : Nat} (ha : a < 1099511627776) (hb : b < 1099511627776) : IntKind.i64.wrap ((BitVec.ofInt IntKind.i64.bits (a : Int) ^^^ BitVec.ofInt IntKind.i64.bits (b : Int)).toNat : Int) = ((a ^^^ b : Nat) : Int) := by
 have h1 : (BitVec.ofInt 64 (a : Int)).toNat = a := by simp [BitVec.toNat_ofInt]; omega
 have h2 : (BitVec.ofInt 64 (b : Int)).toNat = b := by simp [BitVec.toNat_ofInt]; omega
 have h3 : (BitVec.ofInt IntKind.i64.bits (a : Int) ^^^ BitVec.ofInt IntKind.i64.bits (b : Int)).toNat = a ^^^ b := by
  show (BitVec.ofInt 64 (a : Int) ^^^ BitVec.ofInt 64 (b : Int)).toNat = _
  rw [BitVec.toNat_xor,h1,h2]
 have h4 : a ^^^ b < 1099511627776 := Nat.xor_lt_two_pow (n := 40) ha hb
 rw [h3]
 exact w64 (by omega) (by omega)
theorem tdiv64 {k : Nat} : ((k : Nat) : Int).tdiv 64 = ((k / 64 : Nat) : Int) := (Int.ofNat_tdiv k 64).symm
theorem sf0 : ((64 : Int) = 0) = False := by simp
def rdO (vr : Nat) (code : Txt) (q : Nat) : Ob := .arr vr 121 2 [eBy code,.int .i64 (q : Int)]
theorem l6Open_pn {code : Txt} (hc : code.length ≤ 1048576) : PN Tryz.prog 43 [eBy code] (.ref 0 0 0) [rdO 0 (code.take 2000) 0] true := by
 refine PN.of ⟨Tryz.func43,by kernel_rfl,rfl,by kernel_rfl⟩ tabOk mixed (by show 1 ≤ Tryz.f43.ntmps; decide) ?_
 refine W.r fun K hK => ?_
 simp (disch := omega) only [↓RU,RV,RH,↓reduceIte,reduceEqDiff,reduceCtorEq,if_pos,↓RS,RG,reduceAdd,reduceMul,reduceLeDiff]
 refine hK _ _ ?_;clear hK K
 refine W.seq ?_
 refine W.r fun K hK => ?_
 simp (disch := omega) only [↓RU,RV,RH,↓reduceIte,reduceEqDiff,reduceCtorEq,if_pos,w64,↓RS,RG,reduceAdd,reduceMul,reduceLeDiff,ty6,tyint,ty30]
 refine hK _ _ ?_;clear hK K
 refine W.cond rfl (fun h => ?_) (fun h => ?_)
 ·try simp only [RL] at h
  refine W.k fun K hK => ?_
  simp (disch := omega) only [↓RU,RV,RH,↓reduceIte,reduceEqDiff,reduceCtorEq,if_pos,Option.map_none,↓RS,RG,reduceAdd,reduceMul,reduceLeDiff,ty6,ty30]
  refine hK _ _ ?_;clear hK K
  refine xn ?_
  refine W.r fun K hK => ?_
  simp (disch := omega) only [↓RU,RV,RH,↓reduceIte,reduceEqDiff,reduceCtorEq,if_pos,↓RS,RG,reduceAdd,reduceMul,reduceLeDiff,ty6,tyint,ty19,ty23,ty30]
  refine hK _ _ ?_;clear hK K
  refine W.ret ?_
  refine Br rfl ?_
  have e : (code.take 2000).length = 2000 := by rw [List.length_take]; omega
  refine ⟨1,rfl,?_⟩
  simp [Store.take,shObs,shOb,sh,rdO,eBy,e,List.map_take]
 ·try simp only [RL] at h
  refine W.skip ?_
  refine xn ?_
  refine W.r fun K hK => ?_
  simp (disch := omega) only [↓RU,RV,RH,↓reduceIte,reduceEqDiff,reduceCtorEq,if_pos,↓RS,RG,reduceAdd,reduceMul,reduceLeDiff,ty6,tyint,ty19,ty23,ty30]
  refine hK _ _ ?_;clear hK K
  refine W.ret ?_
  refine Br rfl ?_
  have e : code.take 2000 = code := List.take_of_length_le (by omega)
  refine ⟨1,rfl,?_⟩
  simp [Store.take,shObs,shOb,sh,rdO,eBy,e]
theorem pick_ev0 {code : Txt} {q vr t : Nat} {R : List Ob} (hc : code.length ≤ 1048576) (hq : q ≤ 1000000) (n : Int) (hn : n ≤ 1000000) (hn0 : -1000000 ≤ n) : Ev Tryz.prog 46 [.ref 0 vr 0,.int .i64 n] ⟨.arr vr 121 2 [eBy code,.int .i64 (q : Int)] :: R,t⟩ fun v S => ∃ k : Nat,v = .int .i64 (k : Int) ∧ (n < 1 → k = 0) ∧ (1 ≤ n → (k : Int) < n) ∧ S = ⟨.arr vr 121 2 [eBy code,.int .i64 ((q : Int) + 1)] :: R,t⟩ := by
 refine Ev.of ⟨Tryz.func46,by kernel_rfl,rfl,by kernel_rfl⟩ tabOk mixed (by show 2 ≤ Tryz.f46.ntmps; decide) ?_
 refine W.r fun K hK => ?_
 simp (disch := omega) only [↓RU,RV,RH,↓reduceIte,reduceEqDiff,reduceCtorEq,if_pos,↓RS,RG,reduceAdd,reduceMul,reduceLeDiff]
 refine hK _ _ ?_;clear hK K
 refine W.r fun K hK => ?_
 simp (disch := omega) only [↓RU,RV,RH,↓reduceIte,reduceEqDiff,reduceCtorEq,if_pos,w64,↓RS,RG,reduceAdd,reduceMul,reduceLeDiff,ty6,tyint,ty19,ty23,ty30]
 refine hK _ _ ?_;clear hK K
 refine W.seq ?_
 refine W.r fun K hK => ?_
 by_cases hn1 : n < 1
 ·skip
  have hd : decide (n < 1) = true := decide_eq_true hn1
  simp (disch := omega) only [↓RU,RV,RH,↓reduceIte,reduceEqDiff,reduceCtorEq,if_pos,w64,↓RS,RG,reduceAdd,reduceMul,reduceLeDiff,ty6,tyint,ty19,ty23,ty30,hd]
  refine hK _ _ ?_;clear hK K
  refine W.cond rfl (fun h0 => ?_) (fun h0 => ?_)
  ·try simp only [RL] at h0
   refine W.r fun K hK => ?_
   simp (disch := omega) only [↓RU,RV,RH,↓reduceIte,reduceEqDiff,reduceCtorEq,if_pos,↓RS,RG,reduceAdd,reduceMul,reduceLeDiff]
   refine hK _ _ ?_;clear hK K
   refine W.ret ?_
   refine XThen.ret ?_
   refine Br rfl ?_
   exact ⟨_,0,rfl,fun _ => rfl,fun h9 => by omega,take_all⟩
  ·try simp only [RL] at h0
   exact absurd h0 (by simp)
 ·skip
  have hd : decide (n < 1) = false := decide_eq_false hn1
  obtain ⟨m,rfl⟩ : ∃ m : Nat,n = m := ⟨n.toNat,by omega⟩
  simp (disch := omega) only [↓RU,RV,RH,↓reduceIte,reduceEqDiff,reduceCtorEq,if_pos,w64,↓RS,RG,reduceAdd,reduceMul,reduceLeDiff,ty6,tyint,ty19,ty23,ty30,hd]
  refine hK _ _ ?_;clear hK K
  refine W.cond rfl (fun h0 => ?_) (fun h0 => ?_)
  ·try simp only [RL] at h0
   have hl0 : code.length = 0 := by simpa using h0
   refine W.r fun K hK => ?_
   simp (disch := omega) only [↓RU,RV,RH,↓reduceIte,reduceEqDiff,reduceCtorEq,if_pos,↓RS,RG,reduceAdd,reduceMul,reduceLeDiff]
   refine hK _ _ ?_;clear hK K
   refine W.ret ?_
   refine XThen.ret ?_
   refine Br rfl ?_
   exact ⟨_,0,rfl,fun _ => rfl,fun h9 => by omega,take_all⟩
  ·try simp only [RL] at h0
   have hl0 : code.length ≠ 0 := by intro h9; rw [h9] at h0; simp at h0
   obtain ⟨L,hL⟩ : ∃ L : Nat,code.length = L := ⟨_,rfl⟩
   have hLi : ((L : Int) = 0) = False := by simp; omega
   have hmi : ((m : Int) = 0) = False := by simp; omega
   rw [hL] at hl0 hc
   refine W.skip ?_
   refine xn ?_
   refine W.r fun K hK => ?_
   simp (disch := omega) only [↓RU,RV,RH,↓reduceIte,reduceEqDiff,reduceCtorEq,if_pos,w64,↓RS,RG,reduceAdd,reduceMul,reduceLeDiff,ty6,tyint,ty19,ty23,ty30]
   refine hK _ _ ?_;clear hK K
   simp only [show ((q : Int) + 1 - 1) = (q : Int) from by omega]
   refine W.seq ?_
   refine W.r fun K hK => ?_
   simp (disch := omega) only [↓RU,RV,RH,↓reduceIte,reduceEqDiff,reduceCtorEq,if_pos,w64,↓RS,RG,reduceAdd,reduceMul,reduceLeDiff,ty6,tyint,ty19,ty23,ty30,hL]
   refine hK _ _ ?_;clear hK K
   refine W.cond rfl (fun h1 => ?_) (fun h1 => ?_)
   ·try simp only [RL] at h1
    obtain ⟨c,hcq,-⟩ := get_of (show q < code.length by omega)
    have hc8 := c.toNat_lt
    refine W.r fun K hK => ?_
    simp (disch := omega) only [↓RU,RV,RH,↓reduceIte,reduceEqDiff,reduceCtorEq,if_pos,w64,w64,↓RS,RG,reduceAdd,reduceMul,reduceLeDiff,ty6,tyint,ty19,ty23,ty30,hcq,hmi,tmod_nn]
    refine hK _ _ ?_;clear hK K
    refine W.ret ?_
    refine XThen.ret ?_
    refine Br rfl ?_
    exact ⟨_,_,rfl,fun h9 => by omega,fun _ => by have := Nat.mod_lt c.toNat (show 0 < m by omega); omega,take_all⟩
   ·try simp only [RL] at h1
    obtain ⟨c1,hc1,-⟩ := get_of (show q % L < code.length by rw [hL]; exact Nat.mod_lt _ (by omega))
    obtain ⟨c2,hc2,-⟩ := get_of (show (q * 7 + 3) % L < code.length by rw [hL]; exact Nat.mod_lt _ (by omega))
    have hb1 := c1.toNat_lt
    have hb2 := c2.toNat_lt
    have hq7 : (q : Int) * 7 + 3 = ((q * 7 + 3 : Nat) : Int) := by omega
    obtain ⟨d,hd⟩ : ∃ d,q / L = d := ⟨_,rfl⟩
    have hqL : d ≤ q := hd ▸ Nat.div_le_self _ _
    have hml1 := Nat.mod_lt q (show 0 < L by omega)
    have hml2 := Nat.mod_lt (q * 7 + 3) (show 0 < L by omega)
    refine W.skip ?_
    refine xn ?_
    refine W.seq_draw (by kernel_rfl) fun K hK => ?_
    simp (disch := omega) only [↓RU,RV,RH,↓reduceIte,reduceEqDiff,reduceCtorEq,if_pos,w64,w64,↓RS,RG,reduceAdd,reduceMul,reduceLeDiff,ty6,tyint,ty19,ty23,ty30,hL,hLi,tmod_nn,tdiv_nn,hc1,hc2,hq7,hd]
    refine hK _ _ ?_;clear hK K
    obtain ⟨Y,hY⟩ : ∃ Y : Nat,(c1.toNat : Int) * 131 + (c2.toNat : Int) * 1117 + (q : Int) * 29 + (d : Int) * 53 = Y := ⟨c1.toNat * 131 + c2.toNat * 1117 + q * 29 + d * 53,by omega⟩
    have hYb : Y < 1099511627776 := by omega
    have hYd : Y / 64 < 1099511627776 := by omega
    simp only [hY]
    refine W.r fun K hK => ?_
    simp (disch := omega) only [↓RU,RV,RH,↓reduceIte,reduceEqDiff,reduceCtorEq,if_pos,w64,↓RS,RG,reduceAdd,reduceMul,reduceLeDiff,tyint,sf0,tdiv64,w_xor hYb hYd]
    refine hK _ _ ?_;clear hK K
    refine W.r fun K hK => ?_
    simp (disch := omega) only [↓RU,RV,RH,↓reduceIte,reduceEqDiff,reduceCtorEq,if_pos,w64,↓RS,RG,reduceAdd,reduceMul,reduceLeDiff,tyint,hmi,tmod_nn]
    refine hK _ _ ?_;clear hK K
    refine W.ret ?_
    refine Br rfl ?_
    exact ⟨_,_,rfl,fun h9 => by omega,fun _ => by have := Nat.mod_lt (Y ^^^ Y / 64) (show 0 < m by omega); omega,take_all⟩
theorem set_eB {l : Txt} {a : Nat} {c : UInt8} : (l.map eB).set a (.int .u8 (c.toNat : Int)) = (l.set a c).map eB := by rw [List.map_set]
theorem bytesOf_eB (l : Txt) : bytesOf (l.map eB) = some l := bytesOf_map l
theorem l1None_pc  : PC Tryz.prog 90 [] (.tup [eStrs [],.bool false]) true := by
 refine PC.of ⟨Tryz.func90,by kernel_rfl,rfl,by kernel_rfl⟩ tabOk mixed (by show 0 ≤ Tryz.f90.ntmps; decide) ?_
 refine W.r fun K hK => ?_
 simp (disch := omega) only [↓RU,RV,RH,↓reduceIte,reduceEqDiff,reduceCtorEq,if_pos,↓RS,RG,reduceAdd,reduceMul,reduceLeDiff]
 refine hK _ _ ?_;clear hK K
 refine W.r fun K hK => ?_
 simp (disch := omega) only [↓RU,RV,RH,↓reduceIte,reduceEqDiff,reduceCtorEq,if_pos,↓RS,RG,reduceAdd,reduceMul,reduceLeDiff,ty5,tystring]
 refine hK _ _ ?_;clear hK K
 refine W.ret ?_
 refine Br rfl ?_
 exact reify_tup2 (k := 9) (reify_loc (k := 8) (n := 0) rfl rfl rfl) rfl
theorem l1Put_pc {p : List Txt} (hs : Sm p) {tp lf hg wd : Nat} {c : UInt8} (h1 : tp + hg ≤ p.length) (h2 : ∀ row ∈ p,lf + wd ≤ row.length) : PC Tryz.prog 179 [eStrs p,.int .i64 tp,.int .i64 lf,.int .i64 hg,.int .i64 wd,eB c] (eStrs (putTo p tp lf wd c (tp + hg))) true := by
 obtain ⟨hs1,hs2⟩ := hs
 refine PC.of ⟨Tryz.func179,by kernel_rfl,rfl,by kernel_rfl⟩ tabOk mixed (by show 6 ≤ Tryz.f179.ntmps; decide) ?_
 refine W.r fun K hK => ?_
 simp (disch := omega) only [↓RU,RV,RH,↓reduceIte,reduceEqDiff,reduceCtorEq,if_pos,↓RS,RG,reduceAdd,reduceMul,reduceLeDiff]
 refine hK _ _ ?_;clear hK K
 refine W.r fun K hK => ?_
 simp (disch := omega) only [↓RU,RV,RH,↓reduceIte,reduceEqDiff,reduceCtorEq,if_pos,↓RS,RG,reduceAdd,reduceMul,reduceLeDiff,ty5,tystring]
 refine hK _ _ ?_;clear hK K
 refine W.seq ?_
 refine W.r fun K hK => ?_
 simp (disch := omega) only [↓RU,RV,RH,↓reduceIte,reduceEqDiff,reduceCtorEq,if_pos,↓RS,RG,reduceAdd,reduceMul,reduceLeDiff]
 refine hK _ _ ?_;clear hK K
 refine W.block ?_
 refine W.loop [0,1,2,3,4,5,13,14] (fun n vs S => ∃ j t v : Nat,n = hg - j ∧ j ≤ hg ∧ vs = [eStrs p,.int .i64 tp,.int .i64 lf,.int .i64 hg,.int .i64 wd,eB c,.loc 0 v 0 p.length,.int .i64 ((tp + j : Nat) : Int)] ∧ S = ⟨[.arr v 9 1 ((putTo p tp lf wd c (tp + j)).map .str)],t⟩) hg ?_ ?_
 ·refine ⟨1,0,2,1,rfl,by omega,?_,?_⟩
  ·simp [Env.put,Env.of,argEnv]
  ·simp [take_eq,putTo_zero]
 rintro n vs S - ⟨j,t,v,rfl,h_j,rfl,rfl⟩
 refine W.seq ?_
 refine W.r fun K hK => ?_
 simp (disch := omega) only [↓RU,RV,RH,↓reduceIte,reduceEqDiff,reduceCtorEq,if_pos,w64,↓RS,RG,reduceAdd,reduceMul,reduceLeDiff,tyint]
 refine hK _ _ ?_;clear hK K
 refine W.cond rfl (fun h => ?_) (fun h => ?_)
 ·try simp only [RL] at h
  obtain ⟨i,hi⟩ : ∃ i,tp + j = i := ⟨_,rfl⟩
  simp only [hi]
  obtain ⟨row,hrow0,hrm⟩ := get_of (show i < p.length by omega)
  have hrow := putTo_at (t := tp) (l := lf) (w := wd) (c := c) hrow0
  have hlen := putTo_len (p := p) (t := tp) (l := lf) (w := wd) (c := c) (i := i)
  have hr1 := hs2 row hrm
  have hr2 := h2 row hrm
  refine W.skip ?_
  refine xn ?_
  refine W.seq ?_
  refine W.block ?_
  refine W.seq_thaw (l1 := [_,_,_,_]) (o := _) (l2 := [_]) rfl fun K hK => ?_
  simp (disch := omega) only [↓RU,RV,RH,↓reduceIte,reduceEqDiff,reduceCtorEq,if_pos,w64,↓RS,RG,reduceAdd,reduceMul,reduceLeDiff,ty5,ty6,tystring,ty30,hrow,hlen]
  refine ⟨_,_,_,_,_,rfl,rfl,rfl,rfl,rfl,rfl,by omega,?_⟩
  simp (disch := omega) only [↓RU,RV,RH,↓reduceIte,reduceEqDiff,reduceCtorEq,if_pos,w64,↓RS,RG,reduceAdd,reduceMul,reduceLeDiff,ty5,ty6,tystring,ty30,hrow,hlen]
  refine hK _ _ ?_;clear hK K
  refine W.seq ?_
  refine W.r fun K hK => ?_
  simp (disch := omega) only [↓RU,RV,RH,↓reduceIte,reduceEqDiff,reduceCtorEq,if_pos,↓RS,RG,reduceAdd,reduceMul,reduceLeDiff]
  refine hK _ _ ?_;clear hK K
  refine W.block ?_
  refine W.loop [0,1,2,3,4,5,13,14,15,16] (fun n vs S => ∃ k t2 : Nat,n = wd - k ∧ k ≤ wd ∧ vs = [eStrs p,.int .i64 tp,.int .i64 lf,.int .i64 hg,.int .i64 wd,eB c,.loc 0 v 0 p.length,.int .i64 (i : Int),.loc 1 t 0 row.length,.int .i64 ((lf + k : Nat) : Int)] ∧ S = ⟨[.arr v 9 1 ((putTo p tp lf wd c i).map .str),.arr t 5 1 ((rowPut row lf c (lf + k)).map eB)],t2⟩) wd ?_ ?_
  ·refine ⟨2,0,t + 1,rfl,by omega,?_,?_⟩
   ·simp [Env.put,Env.of]
   ·simp [take_eq,rowPut_zero]
  rintro n vs S - ⟨k,t2,rfl,h_k,rfl,rfl⟩
  refine W.seq ?_
  refine W.r fun K hK => ?_
  simp (disch := omega) only [↓RU,RV,RH,↓reduceIte,reduceEqDiff,reduceCtorEq,if_pos,w64,↓RS,RG,reduceAdd,reduceMul,reduceLeDiff,tyint]
  refine hK _ _ ?_;clear hK K
  refine W.cond rfl (fun h3 => ?_) (fun h3 => ?_)
  ·try simp only [RL] at h3
   have hrl := rowPut_len (row := row) (l := lf) (k := lf + k) (c := c)
   refine W.skip ?_
   refine xn ?_
   refine W.seq ?_
   refine W.block ?_
   refine W.k fun K hK => ?_
   simp (disch := omega) only [↓RU,RV,RH,↓reduceIte,reduceEqDiff,reduceCtorEq,if_pos,↓RS,RG,reduceAdd,reduceMul,reduceLeDiff,ty6,ty30,hrl,set_spl,set_eB]
   refine hK _ _ ?_;clear hK K
   refine XbN ?_
   refine xn ?_
   refine W.k fun K hK => ?_
   simp (disch := omega) only [↓RU,RV,RH,↓reduceIte,reduceEqDiff,reduceCtorEq,if_pos,w64,↓RS,RG,reduceAdd,reduceMul,reduceLeDiff,tyint]
   refine hK _ _ ?_;clear hK K
   refine xn ?_
   refine ⟨wd - (k + 1),by omega,2,k + 1,t2,rfl,by omega,?_,?_⟩
   ·simp [Env.put,Env.of]; omega
   ·simp only [take_eq]; rw [rowPut_succ (by omega) (by omega)]; rfl
  ·try simp only [RL] at h3
   obtain rfl : k = wd := by omega
   have hrl := rowPut_len (row := row) (l := lf) (k := lf + k) (c := c)
   have htk : ((rowPut row lf c (lf + k)).map eB).take row.length = (rowPut row lf c (lf + k)).map eB := List.take_of_length_le (by simp [hrl])
   refine W.exit ?_
   refine xe ?_
   refine xe ?_
   refine XBlock.hit ?_
   refine xn ?_
   refine W.k fun K hK => ?_
   simp (disch := omega) only [↓RU,RV,RH,↓reduceIte,reduceEqDiff,reduceCtorEq,if_pos,w64,↓RS,RG,reduceAdd,reduceMul,reduceLeDiff,ty5,ty6,tystring,ty30,hrl,htk,bytesOf_eB,hlen,set_spl,set_str,cells_str,List.length_cons,List.length_nil,Option.map_some]
   refine hK _ _ ?_;clear hK K
   refine XbN ?_
   refine xn ?_
   refine W.k fun K hK => ?_
   simp (disch := omega) only [↓RU,RV,RH,↓reduceIte,reduceEqDiff,reduceCtorEq,if_pos,w64,↓RS,RG,reduceAdd,reduceMul,reduceLeDiff,tyint]
   refine hK _ _ ?_;clear hK K
   refine xn ?_
   refine ⟨hg - (j + 1),by omega,1,j + 1,t2,v,rfl,by omega,?_,?_⟩
   ·subst hi; simp [Env.put,Env.of]; omega
   ·subst hi; simp only [take_eq,List.take_succ_cons,List.take_zero]; rw [putTo_succ (by omega) hrow0]; rfl
 ·try simp only [RL] at h
  refine W.exit ?_
  refine xe ?_
  refine xe ?_
  refine XBlock.hit ?_
  refine xn ?_
  refine W.r fun K hK => ?_
  simp (disch := omega) only [↓RU,RV,RH,↓reduceIte,reduceEqDiff,reduceCtorEq,if_pos,↓RS,RG,reduceAdd,reduceMul,reduceLeDiff]
  refine hK _ _ ?_;clear hK K
  refine W.ret ?_
  refine Br rfl ?_
  obtain rfl : j = hg := by omega
  exact (reify_loc (k := 9) rfl (by simp [putTo_len]) (mapM_str _)).trans (by simp [putTo_len])
theorem l1Done_pc {p : List Txt} (hs : Sm p) : PC Tryz.prog 91 [eStrs p] (.tup [eStrs (doneP p).1,.bool (doneP p).2]) false := by
 refine PC.of ⟨Tryz.func91,by kernel_rfl,rfl,by kernel_rfl⟩ tabOk mixed (by show 1 ≤ Tryz.f91.ntmps; decide) ?_
 refine W.r fun K hK => ?_
 simp (disch := omega) only [↓RU,RV,RH,↓reduceIte,reduceEqDiff,reduceCtorEq,if_pos,↓RS,RG,reduceAdd,reduceMul,reduceLeDiff]
 refine hK _ _ ?_;clear hK K
 refine W.seq ?_
 refine W.r fun K hK => ?_
 rcases hgg : (gridB p,planB (names p)) with ⟨_ | _,_ | _⟩
 ·skip
  simp only [Prod.mk.injEq] at hgg
  obtain ⟨hg1,hg2⟩ := hgg
  simp (disch := omega) only [↓RU,RV,RH,↓reduceIte,reduceEqDiff,reduceCtorEq,if_pos,List.append_nil,↓RS,RG,reduceAdd,reduceMul,reduceLeDiff,hg1,hg2]
  refine CallR.pc (l1Grid_pc hs) rfl (.inl rfl) ?_
  simp (disch := omega) only [↓RU,RV,RH,↓reduceIte,reduceEqDiff,reduceCtorEq,if_pos,List.append_nil,↓RS,RG,reduceAdd,reduceMul,reduceLeDiff,hg1,hg2]
  refine hK _ _ ?_;clear hK K
  refine W.cond rfl (fun h => ?_) (fun h => ?_)
  ·try simp only [RL] at h
   refine W.r fun K hK => ?_
   simp (disch := omega) only [↓RU,RV,RH,↓reduceIte,reduceEqDiff,reduceCtorEq,if_pos,List.append_nil,↓RS,RG,reduceAdd,reduceMul,reduceLeDiff]
   refine CallR.pc (l1None_pc) rfl (.inl rfl) ?_
   simp (disch := omega) only [↓RU,RV,RH,↓reduceIte,reduceEqDiff,reduceCtorEq,if_pos,List.append_nil,↓RS,RG,reduceAdd,reduceMul,reduceLeDiff]
   refine hK _ _ ?_;clear hK K
   refine W.ret ?_
   refine XThen.ret ?_
   refine Br rfl ?_
   rw [show doneP p = ([],false) by unfold doneP; rw [hg1]; rfl]
   rfl
  ·try simp only [RL] at h
   exact absurd h (by simp)
 ·skip
  simp only [Prod.mk.injEq] at hgg
  obtain ⟨hg1,hg2⟩ := hgg
  simp (disch := omega) only [↓RU,RV,RH,↓reduceIte,reduceEqDiff,reduceCtorEq,if_pos,List.append_nil,↓RS,RG,reduceAdd,reduceMul,reduceLeDiff,hg1,hg2]
  refine CallR.pc (l1Grid_pc hs) rfl (.inl rfl) ?_
  simp (disch := omega) only [↓RU,RV,RH,↓reduceIte,reduceEqDiff,reduceCtorEq,if_pos,List.append_nil,↓RS,RG,reduceAdd,reduceMul,reduceLeDiff,hg1,hg2]
  refine hK _ _ ?_;clear hK K
  refine W.cond rfl (fun h => ?_) (fun h => ?_)
  ·try simp only [RL] at h
   refine W.r fun K hK => ?_
   simp (disch := omega) only [↓RU,RV,RH,↓reduceIte,reduceEqDiff,reduceCtorEq,if_pos,List.append_nil,↓RS,RG,reduceAdd,reduceMul,reduceLeDiff]
   refine CallR.pc (l1None_pc) rfl (.inl rfl) ?_
   simp (disch := omega) only [↓RU,RV,RH,↓reduceIte,reduceEqDiff,reduceCtorEq,if_pos,List.append_nil,↓RS,RG,reduceAdd,reduceMul,reduceLeDiff]
   refine hK _ _ ?_;clear hK K
   refine W.ret ?_
   refine XThen.ret ?_
   refine Br rfl ?_
   rw [show doneP p = ([],false) by unfold doneP; rw [hg1]; rfl]
   rfl
  ·try simp only [RL] at h
   exact absurd h (by simp)
 ·skip
  simp only [Prod.mk.injEq] at hgg
  obtain ⟨hg1,hg2⟩ := hgg
  simp (disch := omega) only [↓RU,RV,RH,↓reduceIte,reduceEqDiff,reduceCtorEq,if_pos,List.append_nil,↓RS,RG,reduceAdd,reduceMul,reduceLeDiff,hg1,hg2]
  refine CallR.pc (l1Grid_pc hs) rfl (.inl rfl) ?_
  simp (disch := omega) only [↓RU,RV,RH,↓reduceIte,reduceEqDiff,reduceCtorEq,if_pos,List.append_nil,↓RS,RG,reduceAdd,reduceMul,reduceLeDiff,hg1,hg2]
  refine CallR.pc (l1Names_pc hs) rfl (.inl rfl) ?_
  simp (disch := omega) only [↓RU,RV,RH,↓reduceIte,reduceEqDiff,reduceCtorEq,if_pos,List.append_nil,↓RS,RG,reduceAdd,reduceMul,reduceLeDiff,hg1,hg2]
  refine CallR.pc (sPlanIn_pc hs.names) rfl (.inl rfl) ?_
  simp (disch := omega) only [↓RU,RV,RH,↓reduceIte,reduceEqDiff,reduceCtorEq,if_pos,List.append_nil,↓RS,RG,reduceAdd,reduceMul,reduceLeDiff,hg1,hg2]
  refine hK _ _ ?_;clear hK K
  refine W.cond rfl (fun h => ?_) (fun h => ?_)
  ·try simp only [RL] at h
   refine W.r fun K hK => ?_
   simp (disch := omega) only [↓RU,RV,RH,↓reduceIte,reduceEqDiff,reduceCtorEq,if_pos,List.append_nil,↓RS,RG,reduceAdd,reduceMul,reduceLeDiff]
   refine CallR.pc (l1None_pc) rfl (.inl rfl) ?_
   simp (disch := omega) only [↓RU,RV,RH,↓reduceIte,reduceEqDiff,reduceCtorEq,if_pos,List.append_nil,↓RS,RG,reduceAdd,reduceMul,reduceLeDiff]
   refine hK _ _ ?_;clear hK K
   refine W.ret ?_
   refine XThen.ret ?_
   refine Br rfl ?_
   rw [show doneP p = ([],false) by unfold doneP; rw [hg1,hg2]; rfl]
   rfl
  ·try simp only [RL] at h
   exact absurd h (by simp)
 ·skip
  simp only [Prod.mk.injEq] at hgg
  obtain ⟨hg1,hg2⟩ := hgg
  simp (disch := omega) only [↓RU,RV,RH,↓reduceIte,reduceEqDiff,reduceCtorEq,if_pos,List.append_nil,↓RS,RG,reduceAdd,reduceMul,reduceLeDiff,hg1,hg2]
  refine CallR.pc (l1Grid_pc hs) rfl (.inl rfl) ?_
  simp (disch := omega) only [↓RU,RV,RH,↓reduceIte,reduceEqDiff,reduceCtorEq,if_pos,List.append_nil,↓RS,RG,reduceAdd,reduceMul,reduceLeDiff,hg1,hg2]
  refine CallR.pc (l1Names_pc hs) rfl (.inl rfl) ?_
  simp (disch := omega) only [↓RU,RV,RH,↓reduceIte,reduceEqDiff,reduceCtorEq,if_pos,List.append_nil,↓RS,RG,reduceAdd,reduceMul,reduceLeDiff,hg1,hg2]
  refine CallR.pc (sPlanIn_pc hs.names) rfl (.inl rfl) ?_
  simp (disch := omega) only [↓RU,RV,RH,↓reduceIte,reduceEqDiff,reduceCtorEq,if_pos,List.append_nil,↓RS,RG,reduceAdd,reduceMul,reduceLeDiff,hg1,hg2]
  refine hK _ _ ?_;clear hK K
  refine W.cond rfl (fun h => ?_) (fun h => ?_)
  ·try simp only [RL] at h
   exact absurd h (by simp)
  ·try simp only [RL] at h
   refine W.skip ?_
   refine xn ?_
   refine W.r fun K hK => ?_
   simp (disch := omega) only [↓RU,RV,RH,↓reduceIte,reduceEqDiff,reduceCtorEq,if_pos,List.append_nil,↓RS,RG,reduceAdd,reduceMul,reduceLeDiff]
   refine CallR.pc (l1Names_pc hs) rfl (.inl rfl) ?_
   simp (disch := omega) only [↓RU,RV,RH,↓reduceIte,reduceEqDiff,reduceCtorEq,if_pos,List.append_nil,↓RS,RG,reduceAdd,reduceMul,reduceLeDiff]
   refine hK _ _ ?_;clear hK K
   refine W.ret ?_
   refine Br rfl ?_
   rw [show doneP p = (names p,true) by unfold doneP; rw [hg1,hg2]; rfl]
   rfl
theorem planSplit_pc {p : List Txt} (hs : Sm p) (room : Int) {s : Txt} (hsl : s.length ≤ 1048576) (k : Int) : PC Tryz.prog 165 [eStrs p,.int .i64 room,.str s,.int .i64 k] (.tup [eStrs (splitP p room s k).1,.bool (splitP p room s k).2]) false := by
 have hrb := l1Rooms_bound p
 refine PC.of ⟨Tryz.func165,by kernel_rfl,rfl,by kernel_rfl⟩ tabOk mixed (by show 4 ≤ Tryz.f165.ntmps; decide) ?_
 refine W.r fun K hK => ?_
 simp (disch := omega) only [↓RU,RV,RH,↓reduceIte,reduceEqDiff,reduceCtorEq,if_pos,↓RS,RG,reduceAdd,reduceMul,reduceLeDiff]
 refine hK _ _ ?_;clear hK K
 refine W.seq ?_
 refine W.r fun K hK => ?_
 simp (disch := omega) only [↓RU,RV,RH,↓reduceIte,reduceEqDiff,reduceCtorEq,if_pos,List.append_nil,↓RS,RG,reduceAdd,reduceMul,reduceLeDiff]
 refine CallR.pc (l1Given_pc hs room) rfl (.inl rfl) ?_
 simp (disch := omega) only [↓RU,RV,RH,↓reduceIte,reduceEqDiff,reduceCtorEq,if_pos,List.append_nil,↓RS,RG,reduceAdd,reduceMul,reduceLeDiff]
 refine hK _ _ ?_;clear hK K
 refine W.cond rfl (fun h0 => ?_) (fun h0 => ?_)
 ·try simp only [RL] at h0
  have hgv : (planB p && (decide (0 ≤ room) && decide (room ≤ l1Rooms p - 1))) = false := by simpa using h0
  refine W.r fun K hK => ?_
  simp (disch := omega) only [↓RU,RV,RH,↓reduceIte,reduceEqDiff,reduceCtorEq,if_pos,List.append_nil,↓RS,RG,reduceAdd,reduceMul,reduceLeDiff]
  refine CallR.pc (l1None_pc) rfl (.inl rfl) ?_
  simp (disch := omega) only [↓RU,RV,RH,↓reduceIte,reduceEqDiff,reduceCtorEq,if_pos,List.append_nil,↓RS,RG,reduceAdd,reduceMul,reduceLeDiff]
  refine hK _ _ ?_;clear hK K
  refine W.ret ?_
  refine XThen.ret ?_
  refine Br rfl ?_
  first | (rw [splitP_g hgv]; rfl) | (rw [splitP_h hgv e1 e2 e3 e4 hB1]; rfl) | (rw [splitP_v hgv e1 e2 e3 e4 hB1 hB2]; rfl) | (rw [splitP_no hB1 hB2]; rfl)
 ·try simp only [RL] at h0
  have hgv : (planB p && (decide (0 ≤ room) && decide (room ≤ l1Rooms p - 1))) = true := by simpa using h0
  have hgv2 := hgv
  simp only [Bool.and_eq_true,decide_eq_true_eq] at hgv2
  obtain ⟨hp,hr0,hr1⟩ := hgv2
  obtain ⟨t,l,h,w,e1,e2,e3,e4,q1,q2,q3,q4⟩ := plan_box hp hr0 hr1
  obtain ⟨ps1,ps2,ps3⟩ := plan_small hp
  have hrw : ∀ row ∈ p,row.length = (hdRow p).length := fun row hr => by obtain ⟨i,hi,rfl⟩ := List.getElem_of_mem hr; exact rows_wide hp (List.getElem?_eq_getElem hi)
  have hw6 : (hdRow p).length ≤ 6 := by obtain ⟨row,hrow,hrm⟩ := get_of ps2; rw [← hrw row hrm]; exact (ps3 row hrm).2
  refine W.skip ?_
  refine xn ?_
  refine W.r fun K hK => ?_
  simp (disch := omega) only [↓RU,RV,RH,↓reduceIte,reduceEqDiff,reduceCtorEq,if_pos,List.append_nil,↓RS,RG,reduceAdd,reduceMul,reduceLeDiff,e1,e2,e3,e4]
  refine CallR.pc (l1Room_pc hs (by omega) room) rfl (.inl rfl) ?_
  simp (disch := omega) only [↓RU,RV,RH,↓reduceIte,reduceEqDiff,reduceCtorEq,if_pos,List.append_nil,↓RS,RG,reduceAdd,reduceMul,reduceLeDiff,e1,e2,e3,e4]
  refine hK _ _ ?_;clear hK K
  refine W.seq ?_
  refine W.block ?_
  refine W.r fun K hK => ?_
  cases hb1 : (s == ([104] : Txt))
  ·skip
   have hB1 : ((s == [104]) && (decide (1 ≤ k) && decide (k ≤ highOf p room - 1))) = false := by rw [hb1]; rfl
   simp (disch := omega) only [↓RU,RV,RH,↓reduceIte,reduceEqDiff,reduceCtorEq,if_pos,w64,List.append_nil,↓RS,RG,reduceAdd,reduceMul,reduceLeDiff,tyint,tystring,hb1,pStr]
   refine hK _ _ ?_;clear hK K
   refine W.cond rfl (fun h1 => ?_) (fun h1 => ?_)
   ·try simp only [RL] at h1
    exact absurd h1 (by simp)
   ·try simp only [RL] at h1
    refine W.r fun K hK => ?_
    cases hb2 : (s == ([118] : Txt))
    ·skip
     have hB2 : ((s == [118]) && (decide (1 ≤ k) && decide (k ≤ wideOf p room - 1))) = false := by rw [hb2]; rfl
     simp (disch := omega) only [↓RU,RV,RH,↓reduceIte,reduceEqDiff,reduceCtorEq,if_pos,w64,List.append_nil,↓RS,RG,reduceAdd,reduceMul,reduceLeDiff,tyint,tystring,hb2,pStr]
     refine hK _ _ ?_;clear hK K
     refine W.cond rfl (fun h2 => ?_) (fun h2 => ?_)
     ·try simp only [RL] at h2
      exact absurd h2 (by simp)
     ·try simp only [RL] at h2
      refine W.skip ?_
      refine XbN ?_
      refine xn ?_
      refine W.r fun K hK => ?_
      simp (disch := omega) only [↓RU,RV,RH,↓reduceIte,reduceEqDiff,reduceCtorEq,if_pos,List.append_nil,↓RS,RG,reduceAdd,reduceMul,reduceLeDiff]
      refine CallR.pc (l1None_pc) rfl (.inl rfl) ?_
      simp (disch := omega) only [↓RU,RV,RH,↓reduceIte,reduceEqDiff,reduceCtorEq,if_pos,List.append_nil,↓RS,RG,reduceAdd,reduceMul,reduceLeDiff]
      refine hK _ _ ?_;clear hK K
      refine W.ret ?_
      refine Br rfl ?_
      first | (rw [splitP_g hgv]; rfl) | (rw [splitP_h hgv e1 e2 e3 e4 hB1]; rfl) | (rw [splitP_v hgv e1 e2 e3 e4 hB1 hB2]; rfl) | (rw [splitP_no hB1 hB2]; rfl)
    ·skip
     simp (disch := omega) only [↓RU,RV,RH,↓reduceIte,reduceEqDiff,reduceCtorEq,if_pos,w64,List.append_nil,↓RS,RG,reduceAdd,reduceMul,reduceLeDiff,tyint,tystring,hb2,pStr]
     refine CallR.pc (l6In_pc _ _ _) rfl (.inl rfl) ?_
     simp (disch := omega) only [↓RU,RV,RH,↓reduceIte,reduceEqDiff,reduceCtorEq,if_pos,w64,List.append_nil,↓RS,RG,reduceAdd,reduceMul,reduceLeDiff,tyint,tystring,hb2,pStr]
     refine hK _ _ ?_;clear hK K
     refine W.cond rfl (fun h2 => ?_) (fun h2 => ?_)
     ·try simp only [RL] at h2
      have hB2 : ((s == [118]) && (decide (1 ≤ k) && decide (k ≤ wideOf p room - 1))) = true := by rw [hb2,e4]; exact h2
      have hk := h2
      simp only [Bool.and_eq_true,decide_eq_true_eq] at hk
      obtain ⟨kn,rfl⟩ : ∃ kn : Nat,k = kn := ⟨k.toNat,by omega⟩
      refine W.r fun K hK => ?_
      simp (disch := omega) only [↓RU,RV,RH,↓reduceIte,reduceEqDiff,reduceCtorEq,if_pos,w64,List.append_nil,↓RS,RG,reduceAdd,reduceMul,reduceLeDiff,tyint,show ((l : Int) + (kn : Int)) = ((l + kn : Nat) : Int) from by omega,show ((w : Int) - (kn : Int)) = ((w - kn : Nat) : Int) from by omega]
      refine CallR.pc (l1Put_pc hs (tp := t) (lf := l + kn) (hg := h) (wd := w - kn) (c := 122) (by omega) (fun row hr => by rw [hrw row hr]; omega)) rfl (.inl rfl) ?_
      simp (disch := omega) only [↓RU,RV,RH,↓reduceIte,reduceEqDiff,reduceCtorEq,if_pos,w64,List.append_nil,↓RS,RG,reduceAdd,reduceMul,reduceLeDiff,tyint,show ((l : Int) + (kn : Int)) = ((l + kn : Nat) : Int) from by omega,show ((w : Int) - (kn : Int)) = ((w - kn : Nat) : Int) from by omega]
      refine CallR.pc (l1Done_pc (putTo_sm hs)) rfl (.inr rfl) ?_
      simp (disch := omega) only [↓RU,RV,RH,↓reduceIte,reduceEqDiff,reduceCtorEq,if_pos,w64,List.append_nil,↓RS,RG,reduceAdd,reduceMul,reduceLeDiff,tyint,show ((l : Int) + (kn : Int)) = ((l + kn : Nat) : Int) from by omega,show ((w : Int) - (kn : Int)) = ((w - kn : Nat) : Int) from by omega]
      refine hK _ _ ?_;clear hK K
      refine W.ret ?_
      refine XBlock.ret ?_
      refine XThen.ret ?_
      refine Br rfl ?_
      first | (rw [splitP_g hgv]; rfl) | (rw [splitP_h hgv e1 e2 e3 e4 hB1]; rfl) | (rw [splitP_v hgv e1 e2 e3 e4 hB1 hB2]; rfl) | (rw [splitP_no hB1 hB2]; rfl)
     ·try simp only [RL] at h2
      have hB2 : ((s == [118]) && (decide (1 ≤ k) && decide (k ≤ wideOf p room - 1))) = false := by rw [hb2,e4]; exact h2
      refine W.skip ?_
      refine XbN ?_
      refine xn ?_
      refine W.r fun K hK => ?_
      simp (disch := omega) only [↓RU,RV,RH,↓reduceIte,reduceEqDiff,reduceCtorEq,if_pos,List.append_nil,↓RS,RG,reduceAdd,reduceMul,reduceLeDiff]
      refine CallR.pc (l1None_pc) rfl (.inl rfl) ?_
      simp (disch := omega) only [↓RU,RV,RH,↓reduceIte,reduceEqDiff,reduceCtorEq,if_pos,List.append_nil,↓RS,RG,reduceAdd,reduceMul,reduceLeDiff]
      refine hK _ _ ?_;clear hK K
      refine W.ret ?_
      refine Br rfl ?_
      first | (rw [splitP_g hgv]; rfl) | (rw [splitP_h hgv e1 e2 e3 e4 hB1]; rfl) | (rw [splitP_v hgv e1 e2 e3 e4 hB1 hB2]; rfl) | (rw [splitP_no hB1 hB2]; rfl)
  ·skip
   simp (disch := omega) only [↓RU,RV,RH,↓reduceIte,reduceEqDiff,reduceCtorEq,if_pos,w64,List.append_nil,↓RS,RG,reduceAdd,reduceMul,reduceLeDiff,tyint,tystring,hb1,pStr]
   refine CallR.pc (l6In_pc _ _ _) rfl (.inl rfl) ?_
   simp (disch := omega) only [↓RU,RV,RH,↓reduceIte,reduceEqDiff,reduceCtorEq,if_pos,w64,List.append_nil,↓RS,RG,reduceAdd,reduceMul,reduceLeDiff,tyint,tystring,hb1,pStr]
   refine hK _ _ ?_;clear hK K
   refine W.cond rfl (fun h1 => ?_) (fun h1 => ?_)
   ·try simp only [RL] at h1
    have hB1 : ((s == [104]) && (decide (1 ≤ k) && decide (k ≤ highOf p room - 1))) = true := by rw [hb1,e3]; exact h1
    have hk := h1
    simp only [Bool.and_eq_true,decide_eq_true_eq] at hk
    obtain ⟨kn,rfl⟩ : ∃ kn : Nat,k = kn := ⟨k.toNat,by omega⟩
    refine W.r fun K hK => ?_
    simp (disch := omega) only [↓RU,RV,RH,↓reduceIte,reduceEqDiff,reduceCtorEq,if_pos,w64,List.append_nil,↓RS,RG,reduceAdd,reduceMul,reduceLeDiff,tyint,show ((t : Int) + (kn : Int)) = ((t + kn : Nat) : Int) from by omega,show ((h : Int) - (kn : Int)) = ((h - kn : Nat) : Int) from by omega]
    refine CallR.pc (l1Put_pc hs (tp := t + kn) (lf := l) (hg := h - kn) (wd := w) (c := 122) (by omega) (fun row hr => by rw [hrw row hr]; omega)) rfl (.inl rfl) ?_
    simp (disch := omega) only [↓RU,RV,RH,↓reduceIte,reduceEqDiff,reduceCtorEq,if_pos,w64,List.append_nil,↓RS,RG,reduceAdd,reduceMul,reduceLeDiff,tyint,show ((t : Int) + (kn : Int)) = ((t + kn : Nat) : Int) from by omega,show ((h : Int) - (kn : Int)) = ((h - kn : Nat) : Int) from by omega]
    refine CallR.pc (l1Done_pc (putTo_sm hs)) rfl (.inr rfl) ?_
    simp (disch := omega) only [↓RU,RV,RH,↓reduceIte,reduceEqDiff,reduceCtorEq,if_pos,w64,List.append_nil,↓RS,RG,reduceAdd,reduceMul,reduceLeDiff,tyint,show ((t : Int) + (kn : Int)) = ((t + kn : Nat) : Int) from by omega,show ((h : Int) - (kn : Int)) = ((h - kn : Nat) : Int) from by omega]
    refine hK _ _ ?_;clear hK K
    refine W.ret ?_
    refine XBlock.ret ?_
    refine XThen.ret ?_
    refine Br rfl ?_
    first | (rw [splitP_g hgv]; rfl) | (rw [splitP_h hgv e1 e2 e3 e4 hB1]; rfl) | (rw [splitP_v hgv e1 e2 e3 e4 hB1 hB2]; rfl) | (rw [splitP_no hB1 hB2]; rfl)
   ·try simp only [RL] at h1
    have hB1 : ((s == [104]) && (decide (1 ≤ k) && decide (k ≤ highOf p room - 1))) = false := by rw [hb1,e3]; exact h1
    refine W.r fun K hK => ?_
    cases hb2 : (s == ([118] : Txt))
    ·skip
     have hB2 : ((s == [118]) && (decide (1 ≤ k) && decide (k ≤ wideOf p room - 1))) = false := by rw [hb2]; rfl
     simp (disch := omega) only [↓RU,RV,RH,↓reduceIte,reduceEqDiff,reduceCtorEq,if_pos,w64,List.append_nil,↓RS,RG,reduceAdd,reduceMul,reduceLeDiff,tyint,tystring,hb2,pStr]
     refine hK _ _ ?_;clear hK K
     refine W.cond rfl (fun h2 => ?_) (fun h2 => ?_)
     ·try simp only [RL] at h2
      exact absurd h2 (by simp)
     ·try simp only [RL] at h2
      refine W.skip ?_
      refine XbN ?_
      refine xn ?_
      refine W.r fun K hK => ?_
      simp (disch := omega) only [↓RU,RV,RH,↓reduceIte,reduceEqDiff,reduceCtorEq,if_pos,List.append_nil,↓RS,RG,reduceAdd,reduceMul,reduceLeDiff]
      refine CallR.pc (l1None_pc) rfl (.inl rfl) ?_
      simp (disch := omega) only [↓RU,RV,RH,↓reduceIte,reduceEqDiff,reduceCtorEq,if_pos,List.append_nil,↓RS,RG,reduceAdd,reduceMul,reduceLeDiff]
      refine hK _ _ ?_;clear hK K
      refine W.ret ?_
      refine Br rfl ?_
      first | (rw [splitP_g hgv]; rfl) | (rw [splitP_h hgv e1 e2 e3 e4 hB1]; rfl) | (rw [splitP_v hgv e1 e2 e3 e4 hB1 hB2]; rfl) | (rw [splitP_no hB1 hB2]; rfl)
    ·skip
     simp (disch := omega) only [↓RU,RV,RH,↓reduceIte,reduceEqDiff,reduceCtorEq,if_pos,w64,List.append_nil,↓RS,RG,reduceAdd,reduceMul,reduceLeDiff,tyint,tystring,hb2,pStr]
     refine CallR.pc (l6In_pc _ _ _) rfl (.inl rfl) ?_
     simp (disch := omega) only [↓RU,RV,RH,↓reduceIte,reduceEqDiff,reduceCtorEq,if_pos,w64,List.append_nil,↓RS,RG,reduceAdd,reduceMul,reduceLeDiff,tyint,tystring,hb2,pStr]
     refine hK _ _ ?_;clear hK K
     refine W.cond rfl (fun h2 => ?_) (fun h2 => ?_)
     ·try simp only [RL] at h2
      have hB2 : ((s == [118]) && (decide (1 ≤ k) && decide (k ≤ wideOf p room - 1))) = true := by rw [hb2,e4]; exact h2
      have hk := h2
      simp only [Bool.and_eq_true,decide_eq_true_eq] at hk
      obtain ⟨kn,rfl⟩ : ∃ kn : Nat,k = kn := ⟨k.toNat,by omega⟩
      refine W.r fun K hK => ?_
      simp (disch := omega) only [↓RU,RV,RH,↓reduceIte,reduceEqDiff,reduceCtorEq,if_pos,w64,List.append_nil,↓RS,RG,reduceAdd,reduceMul,reduceLeDiff,tyint,show ((l : Int) + (kn : Int)) = ((l + kn : Nat) : Int) from by omega,show ((w : Int) - (kn : Int)) = ((w - kn : Nat) : Int) from by omega]
      refine CallR.pc (l1Put_pc hs (tp := t) (lf := l + kn) (hg := h) (wd := w - kn) (c := 122) (by omega) (fun row hr => by rw [hrw row hr]; omega)) rfl (.inl rfl) ?_
      simp (disch := omega) only [↓RU,RV,RH,↓reduceIte,reduceEqDiff,reduceCtorEq,if_pos,w64,List.append_nil,↓RS,RG,reduceAdd,reduceMul,reduceLeDiff,tyint,show ((l : Int) + (kn : Int)) = ((l + kn : Nat) : Int) from by omega,show ((w : Int) - (kn : Int)) = ((w - kn : Nat) : Int) from by omega]
      refine CallR.pc (l1Done_pc (putTo_sm hs)) rfl (.inr rfl) ?_
      simp (disch := omega) only [↓RU,RV,RH,↓reduceIte,reduceEqDiff,reduceCtorEq,if_pos,w64,List.append_nil,↓RS,RG,reduceAdd,reduceMul,reduceLeDiff,tyint,show ((l : Int) + (kn : Int)) = ((l + kn : Nat) : Int) from by omega,show ((w : Int) - (kn : Int)) = ((w - kn : Nat) : Int) from by omega]
      refine hK _ _ ?_;clear hK K
      refine W.ret ?_
      refine XBlock.ret ?_
      refine XThen.ret ?_
      refine Br rfl ?_
      first | (rw [splitP_g hgv]; rfl) | (rw [splitP_h hgv e1 e2 e3 e4 hB1]; rfl) | (rw [splitP_v hgv e1 e2 e3 e4 hB1 hB2]; rfl) | (rw [splitP_no hB1 hB2]; rfl)
     ·try simp only [RL] at h2
      have hB2 : ((s == [118]) && (decide (1 ≤ k) && decide (k ≤ wideOf p room - 1))) = false := by rw [hb2,e4]; exact h2
      refine W.skip ?_
      refine XbN ?_
      refine xn ?_
      refine W.r fun K hK => ?_
      simp (disch := omega) only [↓RU,RV,RH,↓reduceIte,reduceEqDiff,reduceCtorEq,if_pos,List.append_nil,↓RS,RG,reduceAdd,reduceMul,reduceLeDiff]
      refine CallR.pc (l1None_pc) rfl (.inl rfl) ?_
      simp (disch := omega) only [↓RU,RV,RH,↓reduceIte,reduceEqDiff,reduceCtorEq,if_pos,List.append_nil,↓RS,RG,reduceAdd,reduceMul,reduceLeDiff]
      refine hK _ _ ?_;clear hK K
      refine W.ret ?_
      refine Br rfl ?_
      first | (rw [splitP_g hgv]; rfl) | (rw [splitP_h hgv e1 e2 e3 e4 hB1]; rfl) | (rw [splitP_v hgv e1 e2 e3 e4 hB1 hB2]; rfl) | (rw [splitP_no hB1 hB2]; rfl)
theorem pick_ev {code : Txt} {q vr t : Nat} {R : List Ob} (hc : code.length ≤ 1048576) (hq : q ≤ 1000000) (n : Int) (hn : n ≤ 1000000) (hn0 : -1000000 ≤ n) :
  Ev Tryz.prog 46 [.ref 0 vr 0,.int .i64 n] ⟨.arr vr 121 2 [eBy code,.int .i64 (q : Int)] :: R,t⟩ fun v S => ∃ k : Nat,v = .int .i64 (k : Int) ∧ (n < 1 → k = 0) ∧ (1 ≤ n → (k : Int) < n) ∧ S = ⟨.arr vr 121 2 [eBy code,.int .i64 ((q + 1 : Nat) : Int)] :: R,t⟩ :=
 pick_ev0 hc hq n hn hn0
theorem of_ev {code : Txt} {q vr t v1 : Nat} {R : List Ob} {l : List Txt} (hc : code.length ≤ 1048576) (hq : q ≤ 1000000) (hl : 1 ≤ l.length) (hl2 : l.length ≤ 1000) : Ev Tryz.prog 166 [.ref 0 vr 0,.loc 1 v1 0 l.length] ⟨.arr vr 121 2 [eBy code,.int .i64 (q : Int)] :: .arr v1 9 1 (l.map .str) :: R,t⟩ fun v S => ∃ s,s ∈ l ∧ v = .str s ∧ S = ⟨.arr vr 121 2 [eBy code,.int .i64 ((q + 1 : Nat) : Int)] :: .arr v1 9 1 (l.map .str) :: R,t⟩ := by
 refine Ev.of ⟨Tryz.func166,by kernel_rfl,rfl,by kernel_rfl⟩ tabOk mixed (by show 2 ≤ Tryz.f166.ntmps; decide) ?_
 refine W.r fun K hK => ?_
 simp (disch := omega) only [↓RU,RV,RH,↓reduceIte,reduceEqDiff,reduceCtorEq,if_pos,↓RS,RG,reduceAdd,reduceMul,reduceLeDiff]
 refine hK _ _ ?_;clear hK K
 refine W.r fun K hK => ?_
 simp (disch := omega) only [↓RU,RV,RH,↓reduceIte,reduceEqDiff,reduceCtorEq,if_pos,List.append_nil,↓RS,RG,reduceAdd,reduceMul,reduceLeDiff,ty5,tystring]
 refine CallR.ev (pick_ev hc hq (l.length : Int) (by omega) (by omega)) ?_
 rintro _ _ ⟨k,rfl,-,hk,rfl⟩
 have hk2 := hk (by omega)
 obtain ⟨s,hsk,hsm⟩ := get_of (show k < l.length by omega)
 simp (disch := omega) only [↓RU,RV,RH,↓reduceIte,reduceEqDiff,reduceCtorEq,if_pos,List.append_nil,↓RS,RG,reduceAdd,reduceMul,reduceLeDiff,ty5,tystring,hsk]
 refine hK _ _ ?_;clear hK K
 refine W.ret ?_
 refine Br rfl ?_
 exact ⟨_,s,hsm,rfl,take_all⟩
theorem l91Empty_pc {nh nw : Nat} (hn : nh ≤ 100) (hm : nw ≤ 100) : PC Tryz.prog 143 [.int .i64 nh,.int .i64 nw] (eStrs (List.replicate nh (List.replicate nw (97 : UInt8)))) true := by
 refine PC.of ⟨Tryz.func143,by kernel_rfl,rfl,by kernel_rfl⟩ tabOk mixed (by show 2 ≤ Tryz.f143.ntmps; decide) ?_
 refine W.r fun K hK => ?_
 simp (disch := omega) only [↓RU,RV,RH,↓reduceIte,reduceEqDiff,reduceCtorEq,if_pos,↓RS,RG,reduceAdd,reduceMul,reduceLeDiff]
 refine hK _ _ ?_;clear hK K
 refine W.r fun K hK => ?_
 simp (disch := omega) only [↓RU,RV,RH,↓reduceIte,reduceEqDiff,reduceCtorEq,if_pos,↓RS,RG,reduceAdd,reduceMul,reduceLeDiff,ty5,tystring]
 refine hK _ _ ?_;clear hK K
 refine W.seq ?_
 refine W.r fun K hK => ?_
 simp (disch := omega) only [↓RU,RV,RH,↓reduceIte,reduceEqDiff,reduceCtorEq,if_pos,↓RS,RG,reduceAdd,reduceMul,reduceLeDiff]
 refine hK _ _ ?_;clear hK K
 refine W.block ?_
 refine W.loop [0,1,5,6] (fun n vs S => ∃ i v0 tk : Nat,n = nh - i ∧ i ≤ nh ∧ vs = [.int .i64 nh,.int .i64 nw,.loc 0 v0 0 i,.int .i64 i] ∧ S = ⟨[.arr v0 9 1 ((List.replicate i (List.replicate nw (97 : UInt8))).map .str)],tk⟩) (nh) ?_ ?_
 ·refine ⟨1,0,0,1,rfl,Nat.zero_le _,?_,rfl⟩
  simp [Env.put,Env.of,argEnv]
 rintro n vs S - ⟨i,v0,tk,rfl,h_i,rfl,rfl⟩
 refine W.seq ?_
 refine W.r fun K hK => ?_
 simp (disch := omega) only [↓RU,RV,RH,↓reduceIte,reduceEqDiff,reduceCtorEq,if_pos,w64,↓RS,RG,reduceAdd,reduceMul,reduceLeDiff,tyint]
 refine hK _ _ ?_;clear hK K
 refine W.cond rfl (fun h => ?_) (fun h => ?_)
 ·try simp only [RL] at h
  refine W.skip ?_
  refine xn ?_
  refine W.seq ?_
  refine W.block ?_
  refine W.r fun K hK => ?_
  simp (disch := omega) only [↓RU,RV,RH,↓reduceIte,reduceEqDiff,reduceCtorEq,if_pos,↓RS,RG,reduceAdd,reduceMul,reduceLeDiff,ty6,ty30]
  refine hK _ _ ?_;clear hK K
  refine W.seq ?_
  refine W.r fun K hK => ?_
  simp (disch := omega) only [↓RU,RV,RH,↓reduceIte,reduceEqDiff,reduceCtorEq,if_pos,↓RS,RG,reduceAdd,reduceMul,reduceLeDiff]
  refine hK _ _ ?_;clear hK K
  refine W.block ?_
  refine W.loop [0,1,5,6,7,8] (fun n vs S => ∃ k v1 tk : Nat,n = nw - k ∧ k ≤ nw ∧ vs = [.int .i64 nh,.int .i64 nw,.loc 0 v0 0 i,.int .i64 i,.loc 1 v1 0 k,.int .i64 k] ∧ S = ⟨[.arr v0 9 1 ((List.replicate i (List.replicate nw (97 : UInt8))).map .str),.arr v1 5 1 ((List.replicate k (97 : UInt8)).map eB)],tk⟩) (nw) ?_ ?_
  ·refine ⟨2,0,tk,tk + 1,rfl,Nat.zero_le _,?_,rfl⟩
   simp [Env.put,Env.of]
  rintro n vs S - ⟨k,v1,tk,rfl,h_k,rfl,rfl⟩
  refine W.seq ?_
  refine W.r fun K hK => ?_
  simp (disch := omega) only [↓RU,RV,RH,↓reduceIte,reduceEqDiff,reduceCtorEq,if_pos,w64,↓RS,RG,reduceAdd,reduceMul,reduceLeDiff,tyint]
  refine hK _ _ ?_;clear hK K
  refine W.cond rfl (fun h1 => ?_) (fun h1 => ?_)
  ·try simp only [RL] at h1
   refine W.skip ?_
   refine xn ?_
   refine W.seq ?_
   refine W.block ?_
   refine W.k fun K hK => ?_
   simp (disch := omega) only [↓RU,RV,RH,↓reduceIte,reduceEqDiff,reduceCtorEq,if_pos,↓RS,RG,reduceAdd,reduceMul,reduceLeDiff,ty6,ty30,List.length_replicate]
   refine hK _ _ ?_;clear hK K
   refine XbN ?_
   refine xn ?_
   refine W.k fun K hK => ?_
   simp (disch := omega) only [↓RU,RV,RH,↓reduceIte,reduceEqDiff,reduceCtorEq,if_pos,w64,↓RS,RG,reduceAdd,reduceMul,reduceLeDiff,tyint]
   refine hK _ _ ?_;clear hK K
   refine xn ?_
   refine ⟨nw - (k + 1),by omega,2,k + 1,tk + 1,tk + 2,rfl,by omega,?_,?_⟩
   all_goals simp [Env.put,Env.of,take_eq,tk_le,List.replicate_succ',List.map_append]
  ·try simp only [RL] at h1
   obtain rfl : k = nw := by omega
   have hbo := bytesOf_eB (List.replicate k (97 : UInt8))
   have htk : ((List.replicate k (97 : UInt8)).map eB).take k = (List.replicate k (97 : UInt8)).map eB := List.take_of_length_le (by simp)
   refine W.exit ?_
   refine xe ?_
   refine xe ?_
   refine XBlock.hit ?_
   refine xn ?_
   refine W.k fun K hK => ?_
   simp (disch := omega) only [↓RU,RV,RH,↓reduceIte,reduceEqDiff,reduceCtorEq,if_pos,w64,↓RS,RG,reduceAdd,reduceMul,reduceLeDiff,ty5,ty6,tystring,ty30,List.length_replicate,htk,hbo]
   refine hK _ _ ?_;clear hK K
   refine XbN ?_
   refine xn ?_
   refine W.k fun K hK => ?_
   simp (disch := omega) only [↓RU,RV,RH,↓reduceIte,reduceEqDiff,reduceCtorEq,if_pos,w64,↓RS,RG,reduceAdd,reduceMul,reduceLeDiff,tyint]
   refine hK _ _ ?_;clear hK K
   refine xn ?_
   refine ⟨nh - (i + 1),by omega,1,i + 1,tk + 1,tk + 2,rfl,by omega,?_,?_⟩
   all_goals simp [Env.put,Env.of,take_eq,tk_le,List.replicate_succ',List.map_append]
 ·try simp only [RL] at h
  obtain rfl : i = nh := by omega
  refine W.exit ?_
  refine xe ?_
  refine xe ?_
  refine XBlock.hit ?_
  refine xn ?_
  refine W.r fun K hK => ?_
  simp (disch := omega) only [↓RU,RV,RH,↓reduceIte,reduceEqDiff,reduceCtorEq,if_pos,↓RS,RG,reduceAdd,reduceMul,reduceLeDiff]
  refine hK _ _ ?_;clear hK K
  refine W.ret ?_
  refine Br rfl ?_
  exact (reify_loc (k := 9) rfl (by simp) (mapM_str _)).trans (by simp)
theorem frz_ref0 {S : Store} {k ver off : Nat} : frz S 1 (k + 1) (.ref 0 ver off) = some (.ref 0 ver off) := by simp [frz]
theorem tk_strs (p : List Txt) : List.take p.length (p.map PV.str) = p.map .str := List.take_of_length_le (by simp)
theorem rfz_tstr {S : Store} {lo k : Nat} (l : List Txt) : (l.map PV.str).mapM (rfz S lo (k + 1)) = some (l.map PV.str) := rfz_map (fun _ => rfl) l
theorem plan_sm {p : List Txt} (h : planB p = true) : Sm p := by
 obtain ⟨h1,-,h3⟩ := plan_small h
 exact ⟨by omega,fun r hr => by have := (h3 r hr).2; omega⟩
theorem plan_rooms9 {p : List Txt} (h : planB p = true) : l1Rooms p ≤ 9 := by
 unfold planB at h; simp only [Bool.and_eq_true,decide_eq_true_eq] at h; omega
theorem hv_len {s : Txt} (h : s ∈ ([[104],[118]] : List Txt)) : s.length ≤ 1048576 := by
 simp only [List.mem_cons,List.not_mem_nil,or_false] at h
 rcases h with rfl | rfl <;> simp
theorem l91Cut_ev {code : Txt} {q vr t : Nat} {R : List Ob} (hc : code.length ≤ 1048576) (hq : q ≤ 900000) {p : List Txt} (hp : planB p = true) {many : Nat} (hm : many ≤ 1000) : Ev Tryz.prog 142 [.ref 0 vr 0,eStrs p,.int .i64 many] ⟨.arr vr 121 2 [eBy code,.int .i64 (q : Int)] :: R,t⟩ fun v S => ∃ (p2 : List Txt) (q2 t2 : Nat),v = eStrs p2 ∧ planB p2 = true ∧ p2.length = p.length ∧ q2 ≤ q + 3 * many ∧ S = ⟨[.arr vr 121 2 [eBy code,.int .i64 (q2 : Int)]],t2⟩ := by
 refine Ev.of ⟨Tryz.func142,by kernel_rfl,rfl,by kernel_rfl⟩ tabOk mixed (by show 3 ≤ Tryz.f142.ntmps; decide) ?_
 refine W.r fun K hK => ?_
 simp (disch := omega) only [↓RU,RV,RH,↓reduceIte,reduceEqDiff,reduceCtorEq,if_pos,↓RS,RG,reduceAdd,reduceMul,reduceLeDiff]
 refine hK _ _ ?_;clear hK K
 refine W.seq ?_
 refine W.r fun K hK => ?_
 simp (disch := omega) only [↓RU,RV,RH,↓reduceIte,reduceEqDiff,reduceCtorEq,if_pos,↓RS,RG,reduceAdd,reduceMul,reduceLeDiff]
 refine hK _ _ ?_;clear hK K
 refine W.block ?_
 refine W.loopZ [0,1,2,7] (fun n vs S => ∃ (i : Nat) (p2 : List Txt) (q2 tk : Nat),n = many - i ∧ i ≤ many ∧ planB p2 = true ∧ p2.length = p.length ∧ q2 ≤ q + 3 * i ∧ vs = [.ref 0 vr 0,eStrs p2,.int .i64 many,.int .i64 i] ∧ S = ⟨[.arr vr 121 2 [eBy code,.int .i64 (q2 : Int)]],tk⟩) many ?_ ?_
 ·refine ⟨1,[.ref 0 vr 0,eStrs p,.int .i64 many,.int .i64 (0 : Nat)],⟨[.arr vr 121 2 [eBy code,.int .i64 (q : Int)]],t⟩,?_,?_,0,p,q,t,rfl,by omega,hp,rfl,by omega,rfl,rfl⟩
  ·simp [-List.mapM_map,Store.frz,frzObs,frzOb,frz_eInts,frz_loc,rfz_loc,frz_int,frz_sl,frz_ints,rfz_ints,frz_strs,frz_bytes,rfz_bytes,rfz_str,rfz_bool,frz_str,frz_bool,Env.put,Env.of,argEnv,rfz_int,List.mapM_append,List.mapM_cons,frz_ref0,tk_strs,rfz_tstr]
  ·simp [-List.mapM_map,Store.frz,frzObs,frzOb,frz_eInts,frz_loc,rfz_loc,frz_int,frz_sl,frz_ints,rfz_ints,frz_strs,frz_bytes,rfz_bytes,rfz_str,rfz_bool,frz_str,frz_bool,Env.put,Env.of,argEnv,rfz_int,List.mapM_append,List.mapM_cons,frz_ref0,tk_strs,rfz_tstr]
 rintro n vs S - ⟨i,p2,q2,tk,rfl,h_i,hp2,hl2,hq2,rfl,rfl⟩
 refine W.seq ?_
 refine W.r fun K hK => ?_
 simp (disch := omega) only [↓RU,RV,RH,↓reduceIte,reduceEqDiff,reduceCtorEq,if_pos,w64,↓RS,RG,reduceAdd,reduceMul,reduceLeDiff,tyint]
 refine hK _ _ ?_;clear hK K
 refine W.cond rfl (fun h => ?_) (fun h => ?_)
 ·try simp only [RL] at h
  have hs2 := plan_sm hp2
  have hr9 := plan_rooms9 hp2
  have hrb := l1Rooms_bound p2
  refine W.skip ?_
  refine xn ?_
  refine W.seq ?_
  refine W.block ?_
  refine W.r fun K hK => ?_
  simp (disch := omega) only [↓RU,RV,RH,↓reduceIte,reduceEqDiff,reduceCtorEq,if_pos,List.append_nil,↓RS,RG,reduceAdd,reduceMul,reduceLeDiff]
  refine CallR.pc (l1Rooms_pc hs2) rfl (.inl rfl) ?_
  simp (disch := omega) only [↓RU,RV,RH,↓reduceIte,reduceEqDiff,reduceCtorEq,if_pos,List.append_nil,↓RS,RG,reduceAdd,reduceMul,reduceLeDiff]
  refine CallR.ev (pick_ev hc (by omega) (l1Rooms p2) (by omega) (by omega)) ?_
  rintro _ _ ⟨k1,rfl,-,-,rfl⟩
  simp (disch := omega) only [↓RU,RV,RH,↓reduceIte,reduceEqDiff,reduceCtorEq,if_pos,List.append_nil,↓RS,RG,reduceAdd,reduceMul,reduceLeDiff]
  refine hK _ _ ?_;clear hK K
  refine W.r fun K hK => ?_
  simp (disch := omega) only [↓RU,RV,RH,↓reduceIte,reduceEqDiff,reduceCtorEq,if_pos,List.append_nil,w64,↓RS,RG,reduceAdd,reduceMul,reduceLeDiff,ty5,tyint,tystring]
  refine CallR.ev (of_ev (R := []) (l := [[104],[118]]) hc (by omega) (by simp) (by simp)) ?_
  rintro _ _ ⟨s,hsm,rfl,rfl⟩
  have hsl := hv_len hsm
  simp (disch := omega) only [↓RU,RV,RH,↓reduceIte,reduceEqDiff,reduceCtorEq,if_pos,List.append_nil,w64,↓RS,RG,reduceAdd,reduceMul,reduceLeDiff,ty5,tyint,tystring]
  refine CallR.ev (pick_ev (q := q2 + 1 + 1) hc (by omega) 3 (by omega) (by omega)) ?_
  rintro _ _ ⟨k2,rfl,-,hk2,rfl⟩
  have hk3 := hk2 (by omega)
  simp (disch := omega) only [↓RU,RV,RH,↓reduceIte,reduceEqDiff,reduceCtorEq,if_pos,List.append_nil,w64,↓RS,RG,reduceAdd,reduceMul,reduceLeDiff,ty5,tyint,tystring]
  refine CallR.pc (planSplit_pc hs2 k1 hsl (1 + k2)) rfl (.inr rfl) ?_
  simp (disch := omega) only [↓RU,RV,RH,↓reduceIte,reduceEqDiff,reduceCtorEq,if_pos,List.append_nil,w64,↓RS,RG,reduceAdd,reduceMul,reduceLeDiff,ty5,tyint,tystring]
  refine hK _ _ ?_;clear hK K
  refine W.r fun K hK => ?_
  simp (disch := omega) only [↓RU,RV,RH,↓reduceIte,reduceEqDiff,reduceCtorEq,if_pos,↓RS,RG,reduceAdd,reduceMul,reduceLeDiff]
  refine hK _ _ ?_;clear hK K
  refine W.cond rfl (fun h1 => ?_) (fun h1 => ?_)
  ·try simp only [RL] at h1
   obtain ⟨ho1,ho2⟩ := splitP_ok h1
   refine W.k fun K hK => ?_
   simp (disch := omega) only [↓RU,RV,RH,↓reduceIte,reduceEqDiff,reduceCtorEq,if_pos,↓RS,RG,reduceAdd,reduceMul,reduceLeDiff]
   refine hK _ _ ?_;clear hK K
   refine XbN ?_
   refine xn ?_
   refine W.k fun K hK => ?_
   simp (disch := omega) only [↓RU,RV,RH,↓reduceIte,reduceEqDiff,reduceCtorEq,if_pos,w64,↓RS,RG,reduceAdd,reduceMul,reduceLeDiff,tyint]
   refine hK _ _ ?_;clear hK K
   refine xn ?_
   refine ⟨many - (i + 1),by omega,1,[.ref 0 vr 0,eStrs (splitP p2 k1 s (1 + k2)).1,.int .i64 many,.int .i64 ((i + 1 : Nat) : Int)],⟨[.arr vr 121 2 [eBy code,.int .i64 ((q2 + 1 + 1 + 1 : Nat) : Int)]],tk + 1⟩,?_,?_,i + 1,(splitP p2 k1 s (1 + k2)).1,q2 + 1 + 1 + 1,tk + 1,rfl,by omega,ho1,ho2.trans hl2,by omega,rfl,rfl⟩
   ·simp [-List.mapM_map,Store.frz,frzObs,frzOb,frz_eInts,frz_loc,rfz_loc,frz_int,frz_sl,frz_ints,rfz_ints,frz_strs,frz_bytes,rfz_bytes,rfz_str,rfz_bool,frz_str,frz_bool,Env.put,Env.of,argEnv,rfz_int,List.mapM_append,List.mapM_cons,frz_ref0,tk_strs,rfz_tstr]
   ·simp [-List.mapM_map,Store.frz,frzObs,frzOb,frz_eInts,frz_loc,rfz_loc,frz_int,frz_sl,frz_ints,rfz_ints,frz_strs,frz_bytes,rfz_bytes,rfz_str,rfz_bool,frz_str,frz_bool,Env.put,Env.of,argEnv,rfz_int,List.mapM_append,List.mapM_cons,frz_ref0,tk_strs,rfz_tstr]
  ·try simp only [RL] at h1
   refine W.skip ?_
   refine XbN ?_
   refine xn ?_
   refine W.k fun K hK => ?_
   simp (disch := omega) only [↓RU,RV,RH,↓reduceIte,reduceEqDiff,reduceCtorEq,if_pos,w64,↓RS,RG,reduceAdd,reduceMul,reduceLeDiff,tyint]
   refine hK _ _ ?_;clear hK K
   refine xn ?_
   refine ⟨many - (i + 1),by omega,1,[.ref 0 vr 0,eStrs p2,.int .i64 many,.int .i64 ((i + 1 : Nat) : Int)],⟨[.arr vr 121 2 [eBy code,.int .i64 ((q2 + 1 + 1 + 1 : Nat) : Int)]],tk + 1⟩,?_,?_,i + 1,p2,q2 + 1 + 1 + 1,tk + 1,rfl,by omega,hp2,hl2,by omega,rfl,rfl⟩
   ·simp [-List.mapM_map,Store.frz,frzObs,frzOb,frz_eInts,frz_loc,rfz_loc,frz_int,frz_sl,frz_ints,rfz_ints,frz_strs,frz_bytes,rfz_bytes,rfz_str,rfz_bool,frz_str,frz_bool,Env.put,Env.of,argEnv,rfz_int,List.mapM_append,List.mapM_cons,frz_ref0,tk_strs,rfz_tstr]
   ·simp [-List.mapM_map,Store.frz,frzObs,frzOb,frz_eInts,frz_loc,rfz_loc,frz_int,frz_sl,frz_ints,rfz_ints,frz_strs,frz_bytes,rfz_bytes,rfz_str,rfz_bool,frz_str,frz_bool,Env.put,Env.of,argEnv,rfz_int,List.mapM_append,List.mapM_cons,frz_ref0,tk_strs,rfz_tstr]
 ·try simp only [RL] at h
  obtain rfl : i = many := by omega
  refine W.exit ?_
  refine xe ?_
  refine xe ?_
  refine XBlock.hit ?_
  refine xn ?_
  refine W.r fun K hK => ?_
  simp (disch := omega) only [↓RU,RV,RH,↓reduceIte,reduceEqDiff,reduceCtorEq,if_pos,↓RS,RG,reduceAdd,reduceMul,reduceLeDiff]
  refine hK _ _ ?_;clear hK K
  refine W.ret ?_
  refine Br rfl ?_
  exact ⟨_,p2,q2,tk,rfl,hp2,hl2,by omega,take_all⟩
theorem l91Cut_loc {code : Txt} {q vr t v1 : Nat} {R : List Ob} (hc : code.length ≤ 1048576) (hq : q ≤ 900000) {p : List Txt} (hp : planB p = true) {many : Nat} (hm : many ≤ 1000) : Ev Tryz.prog 142 [.ref 0 vr 0,.loc 1 v1 0 p.length,.int .i64 many] ⟨.arr vr 121 2 [eBy code,.int .i64 (q : Int)] :: .arr v1 9 1 (p.map .str) :: R,t⟩ fun v S => ∃ (p2 : List Txt) (q2 t2 : Nat),v = eStrs p2 ∧ planB p2 = true ∧ p2.length = p.length ∧ q2 ≤ q + 3 * many ∧ S = ⟨[.arr vr 121 2 [eBy code,.int .i64 (q2 : Int)]],t2⟩ := by
 refine Ev.of ⟨Tryz.func142,by kernel_rfl,rfl,by kernel_rfl⟩ tabOk mixed (by show 3 ≤ Tryz.f142.ntmps; decide) ?_
 refine W.r fun K hK => ?_
 simp (disch := omega) only [↓RU,RV,RH,↓reduceIte,reduceEqDiff,reduceCtorEq,if_pos,↓RS,RG,reduceAdd,reduceMul,reduceLeDiff]
 refine hK _ _ ?_;clear hK K
 refine W.seq ?_
 refine W.r fun K hK => ?_
 simp (disch := omega) only [↓RU,RV,RH,↓reduceIte,reduceEqDiff,reduceCtorEq,if_pos,↓RS,RG,reduceAdd,reduceMul,reduceLeDiff]
 refine hK _ _ ?_;clear hK K
 refine W.block ?_
 refine W.loopZ [0,1,2,7] (fun n vs S => ∃ (i : Nat) (p2 : List Txt) (q2 tk : Nat),n = many - i ∧ i ≤ many ∧ planB p2 = true ∧ p2.length = p.length ∧ q2 ≤ q + 3 * i ∧ vs = [.ref 0 vr 0,eStrs p2,.int .i64 many,.int .i64 i] ∧ S = ⟨[.arr vr 121 2 [eBy code,.int .i64 (q2 : Int)]],tk⟩) many ?_ ?_
 ·refine ⟨1,[.ref 0 vr 0,eStrs p,.int .i64 many,.int .i64 (0 : Nat)],⟨[.arr vr 121 2 [eBy code,.int .i64 (q : Int)]],t⟩,?_,?_,0,p,q,t,rfl,by omega,hp,rfl,by omega,rfl,rfl⟩
  ·simp [-List.mapM_map,Store.frz,frzObs,frzOb,frz_eInts,frz_loc,rfz_loc,frz_int,frz_sl,frz_ints,rfz_ints,frz_strs,frz_bytes,rfz_bytes,rfz_str,rfz_bool,frz_str,frz_bool,Env.put,Env.of,argEnv,rfz_int,List.mapM_append,List.mapM_cons,frz_ref0,tk_strs,rfz_tstr]
  ·simp [-List.mapM_map,Store.frz,frzObs,frzOb,frz_eInts,frz_loc,rfz_loc,frz_int,frz_sl,frz_ints,rfz_ints,frz_strs,frz_bytes,rfz_bytes,rfz_str,rfz_bool,frz_str,frz_bool,Env.put,Env.of,argEnv,rfz_int,List.mapM_append,List.mapM_cons,frz_ref0,tk_strs,rfz_tstr]
 rintro n vs S - ⟨i,p2,q2,tk,rfl,h_i,hp2,hl2,hq2,rfl,rfl⟩
 refine W.seq ?_
 refine W.r fun K hK => ?_
 simp (disch := omega) only [↓RU,RV,RH,↓reduceIte,reduceEqDiff,reduceCtorEq,if_pos,w64,↓RS,RG,reduceAdd,reduceMul,reduceLeDiff,tyint]
 refine hK _ _ ?_;clear hK K
 refine W.cond rfl (fun h => ?_) (fun h => ?_)
 ·try simp only [RL] at h
  have hs2 := plan_sm hp2
  have hr9 := plan_rooms9 hp2
  have hrb := l1Rooms_bound p2
  refine W.skip ?_
  refine xn ?_
  refine W.seq ?_
  refine W.block ?_
  refine W.r fun K hK => ?_
  simp (disch := omega) only [↓RU,RV,RH,↓reduceIte,reduceEqDiff,reduceCtorEq,if_pos,List.append_nil,↓RS,RG,reduceAdd,reduceMul,reduceLeDiff]
  refine CallR.pc (l1Rooms_pc hs2) rfl (.inl rfl) ?_
  simp (disch := omega) only [↓RU,RV,RH,↓reduceIte,reduceEqDiff,reduceCtorEq,if_pos,List.append_nil,↓RS,RG,reduceAdd,reduceMul,reduceLeDiff]
  refine CallR.ev (pick_ev hc (by omega) (l1Rooms p2) (by omega) (by omega)) ?_
  rintro _ _ ⟨k1,rfl,-,-,rfl⟩
  simp (disch := omega) only [↓RU,RV,RH,↓reduceIte,reduceEqDiff,reduceCtorEq,if_pos,List.append_nil,↓RS,RG,reduceAdd,reduceMul,reduceLeDiff]
  refine hK _ _ ?_;clear hK K
  refine W.r fun K hK => ?_
  simp (disch := omega) only [↓RU,RV,RH,↓reduceIte,reduceEqDiff,reduceCtorEq,if_pos,List.append_nil,w64,↓RS,RG,reduceAdd,reduceMul,reduceLeDiff,ty5,tyint,tystring]
  refine CallR.ev (of_ev (R := []) (l := [[104],[118]]) hc (by omega) (by simp) (by simp)) ?_
  rintro _ _ ⟨s,hsm,rfl,rfl⟩
  have hsl := hv_len hsm
  simp (disch := omega) only [↓RU,RV,RH,↓reduceIte,reduceEqDiff,reduceCtorEq,if_pos,List.append_nil,w64,↓RS,RG,reduceAdd,reduceMul,reduceLeDiff,ty5,tyint,tystring]
  refine CallR.ev (pick_ev (q := q2 + 1 + 1) hc (by omega) 3 (by omega) (by omega)) ?_
  rintro _ _ ⟨k2,rfl,-,hk2,rfl⟩
  have hk3 := hk2 (by omega)
  simp (disch := omega) only [↓RU,RV,RH,↓reduceIte,reduceEqDiff,reduceCtorEq,if_pos,List.append_nil,w64,↓RS,RG,reduceAdd,reduceMul,reduceLeDiff,ty5,tyint,tystring]
  refine CallR.pc (planSplit_pc hs2 k1 hsl (1 + k2)) rfl (.inr rfl) ?_
  simp (disch := omega) only [↓RU,RV,RH,↓reduceIte,reduceEqDiff,reduceCtorEq,if_pos,List.append_nil,w64,↓RS,RG,reduceAdd,reduceMul,reduceLeDiff,ty5,tyint,tystring]
  refine hK _ _ ?_;clear hK K
  refine W.r fun K hK => ?_
  simp (disch := omega) only [↓RU,RV,RH,↓reduceIte,reduceEqDiff,reduceCtorEq,if_pos,↓RS,RG,reduceAdd,reduceMul,reduceLeDiff]
  refine hK _ _ ?_;clear hK K
  refine W.cond rfl (fun h1 => ?_) (fun h1 => ?_)
  ·try simp only [RL] at h1
   obtain ⟨ho1,ho2⟩ := splitP_ok h1
   refine W.k fun K hK => ?_
   simp (disch := omega) only [↓RU,RV,RH,↓reduceIte,reduceEqDiff,reduceCtorEq,if_pos,↓RS,RG,reduceAdd,reduceMul,reduceLeDiff]
   refine hK _ _ ?_;clear hK K
   refine XbN ?_
   refine xn ?_
   refine W.k fun K hK => ?_
   simp (disch := omega) only [↓RU,RV,RH,↓reduceIte,reduceEqDiff,reduceCtorEq,if_pos,w64,↓RS,RG,reduceAdd,reduceMul,reduceLeDiff,tyint]
   refine hK _ _ ?_;clear hK K
   refine xn ?_
   refine ⟨many - (i + 1),by omega,1,[.ref 0 vr 0,eStrs (splitP p2 k1 s (1 + k2)).1,.int .i64 many,.int .i64 ((i + 1 : Nat) : Int)],⟨[.arr vr 121 2 [eBy code,.int .i64 ((q2 + 1 + 1 + 1 : Nat) : Int)]],tk + 1⟩,?_,?_,i + 1,(splitP p2 k1 s (1 + k2)).1,q2 + 1 + 1 + 1,tk + 1,rfl,by omega,ho1,ho2.trans hl2,by omega,rfl,rfl⟩
   ·simp [-List.mapM_map,Store.frz,frzObs,frzOb,frz_eInts,frz_loc,rfz_loc,frz_int,frz_sl,frz_ints,rfz_ints,frz_strs,frz_bytes,rfz_bytes,rfz_str,rfz_bool,frz_str,frz_bool,Env.put,Env.of,argEnv,rfz_int,List.mapM_append,List.mapM_cons,frz_ref0,tk_strs,rfz_tstr]
   ·simp [-List.mapM_map,Store.frz,frzObs,frzOb,frz_eInts,frz_loc,rfz_loc,frz_int,frz_sl,frz_ints,rfz_ints,frz_strs,frz_bytes,rfz_bytes,rfz_str,rfz_bool,frz_str,frz_bool,Env.put,Env.of,argEnv,rfz_int,List.mapM_append,List.mapM_cons,frz_ref0,tk_strs,rfz_tstr]
  ·try simp only [RL] at h1
   refine W.skip ?_
   refine XbN ?_
   refine xn ?_
   refine W.k fun K hK => ?_
   simp (disch := omega) only [↓RU,RV,RH,↓reduceIte,reduceEqDiff,reduceCtorEq,if_pos,w64,↓RS,RG,reduceAdd,reduceMul,reduceLeDiff,tyint]
   refine hK _ _ ?_;clear hK K
   refine xn ?_
   refine ⟨many - (i + 1),by omega,1,[.ref 0 vr 0,eStrs p2,.int .i64 many,.int .i64 ((i + 1 : Nat) : Int)],⟨[.arr vr 121 2 [eBy code,.int .i64 ((q2 + 1 + 1 + 1 : Nat) : Int)]],tk + 1⟩,?_,?_,i + 1,p2,q2 + 1 + 1 + 1,tk + 1,rfl,by omega,hp2,hl2,by omega,rfl,rfl⟩
   ·simp [-List.mapM_map,Store.frz,frzObs,frzOb,frz_eInts,frz_loc,rfz_loc,frz_int,frz_sl,frz_ints,rfz_ints,frz_strs,frz_bytes,rfz_bytes,rfz_str,rfz_bool,frz_str,frz_bool,Env.put,Env.of,argEnv,rfz_int,List.mapM_append,List.mapM_cons,frz_ref0,tk_strs,rfz_tstr]
   ·simp [-List.mapM_map,Store.frz,frzObs,frzOb,frz_eInts,frz_loc,rfz_loc,frz_int,frz_sl,frz_ints,rfz_ints,frz_strs,frz_bytes,rfz_bytes,rfz_str,rfz_bool,frz_str,frz_bool,Env.put,Env.of,argEnv,rfz_int,List.mapM_append,List.mapM_cons,frz_ref0,tk_strs,rfz_tstr]
 ·try simp only [RL] at h
  obtain rfl : i = many := by omega
  refine W.exit ?_
  refine xe ?_
  refine xe ?_
  refine XBlock.hit ?_
  refine xn ?_
  refine W.r fun K hK => ?_
  simp (disch := omega) only [↓RU,RV,RH,↓reduceIte,reduceEqDiff,reduceCtorEq,if_pos,↓RS,RG,reduceAdd,reduceMul,reduceLeDiff]
  refine hK _ _ ?_;clear hK K
  refine W.ret ?_
  refine Br rfl ?_
  exact ⟨_,p2,q2,tk,rfl,hp2,hl2,by omega,take_all⟩
theorem empty_plan {nh nw : Nat} (h1 : 1 ≤ nh) (h2 : nh ≤ 6) (w1 : 1 ≤ nw) (w2 : nw ≤ 6) : planB (List.replicate nh (List.replicate nw (97 : UInt8))) = true := by
 rcases (show nh = 1 ∨ nh = 2 ∨ nh = 3 ∨ nh = 4 ∨ nh = 5 ∨ nh = 6 by omega) with rfl | rfl | rfl | rfl | rfl | rfl <;>
 rcases (show nw = 1 ∨ nw = 2 ∨ nw = 3 ∨ nw = 4 ∨ nw = 5 ∨ nw = 6 by omega) with rfl | rfl | rfl | rfl | rfl | rfl <;> decide +kernel
def wheel3 : List Txt := [[97,97,98],[99,100,98],[99,101,101]]
def wheel4 : List Txt := [[97,97,97,98],[99,100,100,98],[99,100,100,98],[99,101,101,101]]
theorem wheel3_plan : planB wheel3 = true := by decide +kernel
theorem wheel4_plan : planB wheel4 = true := by decide +kernel
theorem l91Plan_ev {code : Txt} {q vr t : Nat} (hc : code.length ≤ 1048576) (hq : q ≤ 800000) {nh nw : Nat} (h1 : 1 ≤ nh) (h2 : nh ≤ 6) (w1 : 1 ≤ nw) (w2 : nw ≤ 6) : Ev Tryz.prog 121 [.ref 0 vr 0,.int .i64 nh,.int .i64 nw] ⟨[.arr vr 121 2 [eBy code,.int .i64 (q : Int)]],t⟩ fun v S => ∃ (p2 : List Txt) (q2 t2 : Nat),v = eStrs p2 ∧ planB p2 = true ∧ p2.length = nh ∧ q2 ≤ q + 100 ∧ S = ⟨[.arr vr 121 2 [eBy code,.int .i64 (q2 : Int)]],t2⟩ := by
 refine Ev.of ⟨Tryz.func121,by kernel_rfl,rfl,by kernel_rfl⟩ tabOk mixed (by show 3 ≤ Tryz.f121.ntmps; decide) ?_
 refine W.r fun K hK => ?_
 simp (disch := omega) only [↓RU,RV,RH,↓reduceIte,reduceEqDiff,reduceCtorEq,if_pos,↓RS,RG,reduceAdd,reduceMul,reduceLeDiff]
 refine hK _ _ ?_;clear hK K
 refine W.seq ?_
 refine W.join [0,1,2,17] (fun vs S => ∃ (q2 : Nat) (b : Bool),q2 ≤ q + 1 ∧ (b = true → nh = 3) ∧ vs = [.ref 0 vr 0,.int .i64 nh,.int .i64 nw,.bool b] ∧ S = ⟨[.arr vr 121 2 [eBy code,.int .i64 (q2 : Int)]],t⟩) ?_ ?_
 ·
  refine W.k fun K hK => ?_
  rcases hd : (((nh : Int) == 3),((nw : Int) == 3)) with ⟨_ | _,_ | _⟩
  ·skip
   simp only [Prod.mk.injEq] at hd
   obtain ⟨hd1,hd2⟩ := hd
   simp (disch := omega) only [↓RU,RV,RH,↓reduceIte,reduceEqDiff,reduceCtorEq,if_pos,w64,List.append_nil,↓RS,RG,reduceAdd,reduceMul,reduceLeDiff,tyint,hd1,hd2]
   refine hK _ _ ?_;clear hK K
   refine xn ?_
   refine ⟨_,q,false,by omega,fun h9 => (by cases h9),?_,take_all⟩
   simp [Env.put,Env.of,argEnv]
  ·skip
   simp only [Prod.mk.injEq] at hd
   obtain ⟨hd1,hd2⟩ := hd
   simp (disch := omega) only [↓RU,RV,RH,↓reduceIte,reduceEqDiff,reduceCtorEq,if_pos,w64,List.append_nil,↓RS,RG,reduceAdd,reduceMul,reduceLeDiff,tyint,hd1,hd2]
   refine hK _ _ ?_;clear hK K
   refine xn ?_
   refine ⟨_,q,false,by omega,fun h9 => (by cases h9),?_,take_all⟩
   simp [Env.put,Env.of,argEnv]
  ·skip
   simp only [Prod.mk.injEq] at hd
   obtain ⟨hd1,hd2⟩ := hd
   simp (disch := omega) only [↓RU,RV,RH,↓reduceIte,reduceEqDiff,reduceCtorEq,if_pos,w64,List.append_nil,↓RS,RG,reduceAdd,reduceMul,reduceLeDiff,tyint,hd1,hd2]
   refine hK _ _ ?_;clear hK K
   refine xn ?_
   refine ⟨_,q,false,by omega,fun h9 => (by cases h9),?_,take_all⟩
   simp [Env.put,Env.of,argEnv]
  ·skip
   simp only [Prod.mk.injEq] at hd
   obtain ⟨hd1,hd2⟩ := hd
   simp (disch := omega) only [↓RU,RV,RH,↓reduceIte,reduceEqDiff,reduceCtorEq,if_pos,w64,List.append_nil,↓RS,RG,reduceAdd,reduceMul,reduceLeDiff,tyint,hd1,hd2]
   refine CallR.ev (pick_ev (q := q) hc (by omega) 2 (by omega) (by omega)) ?_
   rintro _ _ ⟨k1,rfl,-,hk1,rfl⟩
   have hk1b := hk1 (by omega)
   simp (disch := omega) only [↓RU,RV,RH,↓reduceIte,reduceEqDiff,reduceCtorEq,if_pos,w64,List.append_nil,↓RS,RG,reduceAdd,reduceMul,reduceLeDiff,tyint,hd1,hd2]
   refine hK _ _ ?_;clear hK K
   refine xn ?_
   refine ⟨_,q + 1,((k1 : Int) == 0),by omega,fun _ => (by have := beq_iff_eq.1 hd1; omega),?_,take_all⟩
   simp [Env.put,Env.of,argEnv]
 rintro vs S - ⟨qa,b3,hqa,hb3,rfl,rfl⟩
 refine W.cond rfl (fun h3 => ?_) (fun h3 => ?_)
 ·try simp only [RL] at h3
  refine W.r fun K hK => ?_
  simp (disch := omega) only [↓RU,RV,RH,↓reduceIte,reduceEqDiff,reduceCtorEq,if_pos,List.append_nil,↓RS,RG,reduceAdd,reduceMul,reduceLeDiff,ty5,tystring]
  refine CallR.ev (pick_ev (q := qa) hc (by omega) 2 (by omega) (by omega)) ?_
  rintro _ _ ⟨k1,rfl,-,hk1,rfl⟩
  have hk1b := hk1 (by omega)
  simp (disch := omega) only [↓RU,RV,RH,↓reduceIte,reduceEqDiff,reduceCtorEq,if_pos,List.append_nil,↓RS,RG,reduceAdd,reduceMul,reduceLeDiff,ty5,tystring]
  refine CallR.ev (l91Cut_loc (q := qa + 1) (R := []) hc (by omega) wheel3_plan (many := k1) (by omega)) ?_
  rintro _ _ ⟨p2,q2,t2,rfl,hp2,hl2,hq2,rfl⟩
  simp (disch := omega) only [↓RU,RV,RH,↓reduceIte,reduceEqDiff,reduceCtorEq,if_pos,List.append_nil,↓RS,RG,reduceAdd,reduceMul,reduceLeDiff,ty5,tystring]
  refine hK _ _ ?_;clear hK K
  refine W.ret ?_
  refine XThen.ret ?_
  refine Br rfl ?_
  exact ⟨_,p2,q2,t2,rfl,hp2,hl2.trans (hb3 h3).symm,by omega,take_all⟩
 ·try simp only [RL] at h3
  refine W.skip ?_
  refine xn ?_
  refine W.seq ?_
  refine W.join [0,1,2,33] (fun vs S => ∃ (q2 : Nat) (b : Bool),q2 ≤ q + 2 ∧ (b = true → nh = 4) ∧ vs = [.ref 0 vr 0,.int .i64 nh,.int .i64 nw,.bool b] ∧ S = ⟨[.arr vr 121 2 [eBy code,.int .i64 (q2 : Int)]],t⟩) ?_ ?_
  ·
   refine W.k fun K hK => ?_
   rcases hd : (((nh : Int) == 4),((nw : Int) == 4)) with ⟨_ | _,_ | _⟩
   ·skip
    simp only [Prod.mk.injEq] at hd
    obtain ⟨hd1,hd2⟩ := hd
    simp (disch := omega) only [↓RU,RV,RH,↓reduceIte,reduceEqDiff,reduceCtorEq,if_pos,w64,List.append_nil,↓RS,RG,reduceAdd,reduceMul,reduceLeDiff,tyint,hd1,hd2]
    refine hK _ _ ?_;clear hK K
    refine xn ?_
    refine ⟨_,qa,false,by omega,fun h9 => (by cases h9),?_,take_all⟩
    simp [Env.put,Env.of,argEnv]
   ·skip
    simp only [Prod.mk.injEq] at hd
    obtain ⟨hd1,hd2⟩ := hd
    simp (disch := omega) only [↓RU,RV,RH,↓reduceIte,reduceEqDiff,reduceCtorEq,if_pos,w64,List.append_nil,↓RS,RG,reduceAdd,reduceMul,reduceLeDiff,tyint,hd1,hd2]
    refine hK _ _ ?_;clear hK K
    refine xn ?_
    refine ⟨_,qa,false,by omega,fun h9 => (by cases h9),?_,take_all⟩
    simp [Env.put,Env.of,argEnv]
   ·skip
    simp only [Prod.mk.injEq] at hd
    obtain ⟨hd1,hd2⟩ := hd
    simp (disch := omega) only [↓RU,RV,RH,↓reduceIte,reduceEqDiff,reduceCtorEq,if_pos,w64,List.append_nil,↓RS,RG,reduceAdd,reduceMul,reduceLeDiff,tyint,hd1,hd2]
    refine hK _ _ ?_;clear hK K
    refine xn ?_
    refine ⟨_,qa,false,by omega,fun h9 => (by cases h9),?_,take_all⟩
    simp [Env.put,Env.of,argEnv]
   ·skip
    simp only [Prod.mk.injEq] at hd
    obtain ⟨hd1,hd2⟩ := hd
    simp (disch := omega) only [↓RU,RV,RH,↓reduceIte,reduceEqDiff,reduceCtorEq,if_pos,w64,List.append_nil,↓RS,RG,reduceAdd,reduceMul,reduceLeDiff,tyint,hd1,hd2]
    refine CallR.ev (pick_ev (q := qa) hc (by omega) 2 (by omega) (by omega)) ?_
    rintro _ _ ⟨k1,rfl,-,hk1,rfl⟩
    have hk1b := hk1 (by omega)
    simp (disch := omega) only [↓RU,RV,RH,↓reduceIte,reduceEqDiff,reduceCtorEq,if_pos,w64,List.append_nil,↓RS,RG,reduceAdd,reduceMul,reduceLeDiff,tyint,hd1,hd2]
    refine hK _ _ ?_;clear hK K
    refine xn ?_
    refine ⟨_,qa + 1,((k1 : Int) == 0),by omega,fun _ => (by have := beq_iff_eq.1 hd1; omega),?_,take_all⟩
    simp [Env.put,Env.of,argEnv]
  rintro vs S - ⟨qb,b4,hqb,hb4,rfl,rfl⟩
  refine W.cond rfl (fun h4 => ?_) (fun h4 => ?_)
  ·try simp only [RL] at h4
   refine W.r fun K hK => ?_
   simp (disch := omega) only [↓RU,RV,RH,↓reduceIte,reduceEqDiff,reduceCtorEq,if_pos,List.append_nil,↓RS,RG,reduceAdd,reduceMul,reduceLeDiff,ty5,tystring]
   refine CallR.ev (pick_ev (q := qb) hc (by omega) 4 (by omega) (by omega)) ?_
   rintro _ _ ⟨k2,rfl,-,hk2,rfl⟩
   have hk2b := hk2 (by omega)
   simp (disch := omega) only [↓RU,RV,RH,↓reduceIte,reduceEqDiff,reduceCtorEq,if_pos,List.append_nil,↓RS,RG,reduceAdd,reduceMul,reduceLeDiff,ty5,tystring]
   refine CallR.ev (l91Cut_loc (q := qb + 1) (R := []) hc (by omega) wheel4_plan (many := k2) (by omega)) ?_
   rintro _ _ ⟨p2,q2,t2,rfl,hp2,hl2,hq2,rfl⟩
   simp (disch := omega) only [↓RU,RV,RH,↓reduceIte,reduceEqDiff,reduceCtorEq,if_pos,List.append_nil,↓RS,RG,reduceAdd,reduceMul,reduceLeDiff,ty5,tystring]
   refine hK _ _ ?_;clear hK K
   refine W.ret ?_
   refine XThen.ret ?_
   refine Br rfl ?_
   exact ⟨_,p2,q2,t2,rfl,hp2,hl2.trans (hb4 h4).symm,by omega,take_all⟩
  ·try simp only [RL] at h4
   refine W.skip ?_
   refine xn ?_
   refine W.r fun K hK => ?_
   simp (disch := omega) only [↓RU,RV,RH,↓reduceIte,reduceEqDiff,reduceCtorEq,if_pos,List.append_nil,↓RS,RG,reduceAdd,reduceMul,reduceLeDiff]
   refine CallR.pc (l91Empty_pc (nh := nh) (nw := nw) (by omega) (by omega)) rfl (.inl rfl) ?_
   simp (disch := omega) only [↓RU,RV,RH,↓reduceIte,reduceEqDiff,reduceCtorEq,if_pos,List.append_nil,↓RS,RG,reduceAdd,reduceMul,reduceLeDiff]
   refine CallR.ev (pick_ev (q := qb) hc (by omega) 9 (by omega) (by omega)) ?_
   rintro _ _ ⟨k3,rfl,-,hk3,rfl⟩
   have hk3b := hk3 (by omega)
   simp (disch := omega) only [↓RU,RV,RH,↓reduceIte,reduceEqDiff,reduceCtorEq,if_pos,List.append_nil,↓RS,RG,reduceAdd,reduceMul,reduceLeDiff]
   refine CallR.ev (l91Cut_ev (q := qb + 1) (R := []) hc (by omega) (empty_plan h1 h2 w1 w2) (many := k3) (by omega)) ?_
   rintro _ _ ⟨p2,q2,t2,rfl,hp2,hl2,hq2,rfl⟩
   simp (disch := omega) only [↓RU,RV,RH,↓reduceIte,reduceEqDiff,reduceCtorEq,if_pos,List.append_nil,↓RS,RG,reduceAdd,reduceMul,reduceLeDiff]
   refine hK _ _ ?_;clear hK K
   refine W.ret ?_
   refine Br rfl ?_
   exact ⟨_,p2,q2,t2,rfl,hp2,by simpa using hl2,by omega,take_all⟩
theorem sm_set {p : List Txt} (h : Sm p) {i : Nat} {r : Txt} (hr : r.length ≤ 1048576) : Sm (p.set i r) := by
 refine ⟨by rw [List.length_set]; exact h.1,fun x hx => ?_⟩
 rcases List.mem_or_eq_of_mem_set hx with k | rfl
 ·exact h.2 x k
 ·exact hr
theorem set_hd {p : List Txt} {x : Txt} (h : 0 < p.length) : PV.str x :: List.drop 1 (p.map PV.str) = (p.set 0 x).map .str := by cases p with | nil => simp at h | cons a p => simp
theorem one_add {k : Nat} : (1 : Int) + (k : Int) = ((1 + k : Nat) : Int) := by omega
theorem l91Some_ev {code : Txt} {q vr t : Nat} (hc : code.length ≤ 1048576) (hq : q ≤ 700000) {rows cols : Nat} (h1 : 1 ≤ rows) (h2 : rows ≤ 6) (w1 : 1 ≤ cols) (w2 : cols ≤ 6) : Ev Tryz.prog 88 [.ref 0 vr 0,.int .i64 rows,.int .i64 cols] ⟨[.arr vr 121 2 [eBy code,.int .i64 (q : Int)]],t⟩ fun v S => ∃ (p2 : List Txt) (q2 t2 : Nat),v = eStrs p2 ∧ Sm p2 ∧ p2.length ≤ 6 ∧ q2 ≤ q + 200 ∧ S = ⟨[.arr vr 121 2 [eBy code,.int .i64 (q2 : Int)]],t2⟩ := by
 refine Ev.of ⟨Tryz.func88,by kernel_rfl,rfl,by kernel_rfl⟩ tabOk mixed (by show 3 ≤ Tryz.f88.ntmps; decide) ?_
 refine W.r fun K hK => ?_
 simp (disch := omega) only [↓RU,RV,RH,↓reduceIte,reduceEqDiff,reduceCtorEq,if_pos,↓RS,RG,reduceAdd,reduceMul,reduceLeDiff]
 refine hK _ _ ?_;clear hK K
 refine W.r fun K hK => ?_
 simp (disch := omega) only [↓RU,RV,RH,↓reduceIte,reduceEqDiff,reduceCtorEq,if_pos,List.append_nil,w64,↓RS,RG,reduceAdd,reduceMul,reduceLeDiff,tyint]
 refine CallR.ev (pick_ev hc (by omega) (rows : Int) (by omega) (by omega)) ?_
 rintro _ _ ⟨k1,rfl,-,hk1,rfl⟩
 have hk1b := hk1 (by omega)
 simp (disch := omega) only [↓RU,RV,RH,↓reduceIte,reduceEqDiff,reduceCtorEq,if_pos,List.append_nil,w64,↓RS,RG,reduceAdd,reduceMul,reduceLeDiff,tyint,one_add]
 refine hK _ _ ?_;clear hK K
 refine W.r fun K hK => ?_
 simp (disch := omega) only [↓RU,RV,RH,↓reduceIte,reduceEqDiff,reduceCtorEq,if_pos,List.append_nil,w64,↓RS,RG,reduceAdd,reduceMul,reduceLeDiff,tyint]
 refine CallR.ev (pick_ev hc (by omega) (cols : Int) (by omega) (by omega)) ?_
 rintro _ _ ⟨k2,rfl,-,hk2,rfl⟩
 have hk2b := hk2 (by omega)
 simp (disch := omega) only [↓RU,RV,RH,↓reduceIte,reduceEqDiff,reduceCtorEq,if_pos,List.append_nil,w64,↓RS,RG,reduceAdd,reduceMul,reduceLeDiff,tyint,one_add]
 refine CallR.ev (l91Plan_ev (q := q + 1 + 1) hc (by omega) (nh := 1 + k1) (nw := 1 + k2) (by omega) (by omega) (by omega) (by omega)) ?_
 rintro _ _ ⟨p2,q2,t2,rfl,hp2,hl2,hq2,rfl⟩
 simp (disch := omega) only [↓RU,RV,RH,↓reduceIte,reduceEqDiff,reduceCtorEq,if_pos,List.append_nil,w64,↓RS,RG,reduceAdd,reduceMul,reduceLeDiff,tyint]
 refine hK _ _ ?_;clear hK K
 obtain ⟨ps1,ps2,ps3⟩ := plan_small hp2
 have hsm := plan_sm hp2
 obtain ⟨nh,hnh⟩ : ∃ nh : Nat,1 + k1 = nh := ⟨_,rfl⟩
 simp only [hnh] at hl2 ⊢
 refine W.joinZ [8] (fun vs S => ∃ (p3 : List Txt) (q3 tk : Nat),Sm p3 ∧ p3.length ≤ 6 ∧ q3 ≤ q + 200 ∧ vs = [eStrs p3] ∧ S = ⟨[.arr vr 121 2 [eBy code,.int .i64 (q3 : Int)]],tk⟩) ?_ ?_
 ·
  refine W.r fun K hK => ?_
  simp (disch := omega) only [↓RU,RV,RH,↓reduceIte,reduceEqDiff,reduceCtorEq,if_pos,List.append_nil,↓RS,RG,reduceAdd,reduceMul,reduceLeDiff]
  refine CallR.ev (pick_ev hc (by omega) 50 (by omega) (by omega)) ?_
  rintro _ _ ⟨k3,rfl,-,hk3,rfl⟩
  simp (disch := omega) only [↓RU,RV,RH,↓reduceIte,reduceEqDiff,reduceCtorEq,if_pos,List.append_nil,↓RS,RG,reduceAdd,reduceMul,reduceLeDiff]
  refine hK _ _ ?_;clear hK K
  refine W.block ?_
  refine W.r fun K hK => ?_
  simp (disch := omega) only [↓RU,RV,RH,↓reduceIte,reduceEqDiff,reduceCtorEq,if_pos,w64,↓RS,RG,reduceAdd,reduceMul,reduceLeDiff,tyint]
  refine hK _ _ ?_;clear hK K
  refine W.cond rfl (fun h0 => ?_) (fun h0 => ?_)
  ·try simp only [RL] at h0
   obtain ⟨row,hrow,hrm⟩ := get_of (show nh - 1 < p2.length by omega)
   have hr6 := (ps3 row hrm).2
   refine W.r fun K hK => ?_
   simp (disch := omega) only [↓RU,RV,RH,↓reduceIte,reduceEqDiff,reduceCtorEq,if_pos,↓RS,RG,reduceAdd,reduceMul,reduceLeDiff,ty5,tystring]
   refine hK _ _ ?_;clear hK K
   refine W.k fun K hK => ?_
   simp (disch := omega) only [↓RU,RV,RH,↓reduceIte,reduceEqDiff,reduceCtorEq,if_pos,w64,↓RS,RG,reduceAdd,reduceMul,reduceLeDiff,ty5,tyint,tystring,toNat_pred,hrow,pStr,set_spl,set_str,cells_str,List.length_cons,List.length_nil]
   refine hK _ _ ?_;clear hK K
   refine XbN ?_
   refine xn ?_
   have hPs : Sm (p2.set (nh - 1) (row ++ [97])) := sm_set hsm (by simp; omega)
   have hPl : (p2.set (nh - 1) (row ++ [97])).length = p2.length := by simp
   generalize p2.set (nh - 1) (row ++ [97]) = P at hPs hPl ⊢
   have htk : (P.map PV.str).take p2.length = P.map .str := List.take_of_length_le (by simp [hPl])
   refine ⟨1,[eStrs P],⟨[.arr vr 121 2 [eBy code,.int .i64 ((q2 + 1 : Nat) : Int)]],t2 + 1 + 1⟩,?_,?_,P,q2 + 1,t2 + 1 + 1,hPs,by omega,by omega,rfl,rfl⟩
   ·simp [-List.mapM_map,Store.frz,frzObs,frzOb,frz_eInts,frz_loc,rfz_loc,frz_int,frz_sl,frz_ints,rfz_ints,frz_strs,frz_bytes,rfz_bytes,rfz_str,rfz_bool,frz_str,frz_bool,Env.put,Env.of,argEnv,rfz_int,List.mapM_append,List.mapM_cons,frz_ref0,tk_strs,rfz_tstr,htk,hPl]
   ·simp [-List.mapM_map,Store.frz,frzObs,frzOb,frz_eInts,frz_loc,rfz_loc,frz_int,frz_sl,frz_ints,rfz_ints,frz_strs,frz_bytes,rfz_bytes,rfz_str,rfz_bool,frz_str,frz_bool,Env.put,Env.of,argEnv,rfz_int,List.mapM_append,List.mapM_cons,frz_ref0,tk_strs,rfz_tstr]
  ·try simp only [RL] at h0
   refine W.r fun K hK => ?_
   simp (disch := omega) only [↓RU,RV,RH,↓reduceIte,reduceEqDiff,reduceCtorEq,if_pos,w64,↓RS,RG,reduceAdd,reduceMul,reduceLeDiff,tyint]
   refine hK _ _ ?_;clear hK K
   refine W.cond rfl (fun h1 => ?_) (fun h1 => ?_)
   ·try simp only [RL] at h1
    obtain ⟨row,hrow,hrm⟩ := get_of (show 0 < p2.length by omega)
    have hr6 := ps3 row hrm
    have hdl : (row.drop 1).length ≤ 6 := by rw [List.length_drop]; omega
    refine W.r fun K hK => ?_
    simp (disch := omega) only [↓RU,RV,RH,↓reduceIte,reduceEqDiff,reduceCtorEq,if_pos,↓RS,RG,reduceAdd,reduceMul,reduceLeDiff,ty5,tystring]
    refine hK _ _ ?_;clear hK K
    refine W.k fun K hK => ?_
    simp (disch := omega) only [↓RU,RV,RH,↓reduceIte,reduceEqDiff,reduceCtorEq,if_pos,Option.map_none,w64,↓RS,RG,reduceAdd,reduceMul,reduceLeDiff,ty5,tystring,hrow,pStr,set_spl,set_str,cells_str,List.length_cons,List.length_nil,Int.toNat_zero,Int.reduceToNat,List.take_length,Nat.zero_mul,Nat.zero_add]
    refine hK _ _ ?_;clear hK K
    rw [set_hd (show 0 < p2.length by omega)]
    refine XbN ?_
    refine xn ?_
    have hPs : Sm (p2.set 0 (122 :: row.drop 1)) := sm_set hsm (by simp; omega)
    have hPl : (p2.set 0 (122 :: row.drop 1)).length = p2.length := by simp
    generalize p2.set 0 (122 :: row.drop 1) = P at hPs hPl ⊢
    have htk : (P.map PV.str).take p2.length = P.map .str := List.take_of_length_le (by simp [hPl])
    refine ⟨1,[eStrs P],⟨[.arr vr 121 2 [eBy code,.int .i64 ((q2 + 1 : Nat) : Int)]],t2 + 1 + 1⟩,?_,?_,P,q2 + 1,t2 + 1 + 1,hPs,by omega,by omega,rfl,rfl⟩
    ·simp [-List.mapM_map,Store.frz,frzObs,frzOb,frz_eInts,frz_loc,rfz_loc,frz_int,frz_sl,frz_ints,rfz_ints,frz_strs,frz_bytes,rfz_bytes,rfz_str,rfz_bool,frz_str,frz_bool,Env.put,Env.of,argEnv,rfz_int,List.mapM_append,List.mapM_cons,frz_ref0,tk_strs,rfz_tstr,htk,hPl]
    ·simp [-List.mapM_map,Store.frz,frzObs,frzOb,frz_eInts,frz_loc,rfz_loc,frz_int,frz_sl,frz_ints,rfz_ints,frz_strs,frz_bytes,rfz_bytes,rfz_str,rfz_bool,frz_str,frz_bool,Env.put,Env.of,argEnv,rfz_int,List.mapM_append,List.mapM_cons,frz_ref0,tk_strs,rfz_tstr]
   ·try simp only [RL] at h1
    refine W.skip ?_
    refine XbN ?_
    refine xn ?_
    have hPs := hsm
    have hPl : p2.length = p2.length := rfl
    have htk : True := trivial
    refine ⟨1,[eStrs p2],⟨[.arr vr 121 2 [eBy code,.int .i64 ((q2 + 1 : Nat) : Int)]],t2⟩,?_,?_,p2,q2 + 1,t2,hPs,by omega,by omega,rfl,rfl⟩
    ·simp [-List.mapM_map,Store.frz,frzObs,frzOb,frz_eInts,frz_loc,rfz_loc,frz_int,frz_sl,frz_ints,rfz_ints,frz_strs,frz_bytes,rfz_bytes,rfz_str,rfz_bool,frz_str,frz_bool,Env.put,Env.of,argEnv,rfz_int,List.mapM_append,List.mapM_cons,frz_ref0,tk_strs,rfz_tstr,htk,hPl]
    ·simp [-List.mapM_map,Store.frz,frzObs,frzOb,frz_eInts,frz_loc,rfz_loc,frz_int,frz_sl,frz_ints,rfz_ints,frz_strs,frz_bytes,rfz_bytes,rfz_str,rfz_bool,frz_str,frz_bool,Env.put,Env.of,argEnv,rfz_int,List.mapM_append,List.mapM_cons,frz_ref0,tk_strs,rfz_tstr]
 rintro vs S - ⟨p3,q3,tk,hs3,hl3,hq3,rfl,rfl⟩
 refine W.r fun K hK => ?_
 simp (disch := omega) only [↓RU,RV,RH,↓reduceIte,reduceEqDiff,reduceCtorEq,if_pos,↓RS,RG,reduceAdd,reduceMul,reduceLeDiff]
 refine hK _ _ ?_;clear hK K
 refine W.ret ?_
 refine Br rfl ?_
 exact ⟨_,p3,q3,tk,rfl,hs3,hl3,hq3,take_all⟩
theorem l91Plain_ev {code : Txt} {q vr t : Nat} (hc : code.length ≤ 1048576) (hq : q ≤ 600000) {rows cols : Nat} (h1 : 1 ≤ rows) (h2 : rows ≤ 6) (w1 : 1 ≤ cols) (w2 : cols ≤ 6) : Ev Tryz.prog 44 [.ref 0 vr 0,.int .i64 rows,.int .i64 cols] ⟨[.arr vr 121 2 [eBy code,.int .i64 (q : Int)]],t⟩ fun v S => ∃ (p2 : List Txt) (q2 t2 : Nat),v = eStrs p2 ∧ Sm p2 ∧ p2.length ≤ 6 ∧ q2 ≤ q + 1000 ∧ S = ⟨[.arr vr 121 2 [eBy code,.int .i64 (q2 : Int)]],t2⟩ := by
 refine Ev.of ⟨Tryz.func44,by kernel_rfl,rfl,by kernel_rfl⟩ tabOk mixed (by show 3 ≤ Tryz.f44.ntmps; decide) ?_
 refine W.r fun K hK => ?_
 simp (disch := omega) only [↓RU,RV,RH,↓reduceIte,reduceEqDiff,reduceCtorEq,if_pos,↓RS,RG,reduceAdd,reduceMul,reduceLeDiff]
 refine hK _ _ ?_;clear hK K
 refine W.r fun K hK => ?_
 simp (disch := omega) only [↓RU,RV,RH,↓reduceIte,reduceEqDiff,reduceCtorEq,if_pos,List.append_nil,↓RS,RG,reduceAdd,reduceMul,reduceLeDiff]
 refine CallR.ev (l91Some_ev (q := q) hc (by omega) h1 h2 w1 w2) ?_
 rintro _ _ ⟨p3,q3,t3,rfl,hs3,hl3,hq3,rfl⟩
 simp (disch := omega) only [↓RU,RV,RH,↓reduceIte,reduceEqDiff,reduceCtorEq,if_pos,List.append_nil,↓RS,RG,reduceAdd,reduceMul,reduceLeDiff]
 refine hK _ _ ?_;clear hK K
 refine W.seq ?_
 refine W.r fun K hK => ?_
 simp (disch := omega) only [↓RU,RV,RH,↓reduceIte,reduceEqDiff,reduceCtorEq,if_pos,↓RS,RG,reduceAdd,reduceMul,reduceLeDiff]
 refine hK _ _ ?_;clear hK K
 refine W.block ?_
 refine W.loop [0,1,2,7,8] (fun n vs S => ∃ (i : Nat) (p2 : List Txt) (q2 tk : Nat),n = 3 - i ∧ i ≤ 3 ∧ Sm p2 ∧ p2.length ≤ 6 ∧ q2 ≤ q + 200 + 200 * i ∧ vs = [.ref 0 vr 0,.int .i64 rows,.int .i64 cols,eStrs p2,.int .i64 i] ∧ S = ⟨[.arr vr 121 2 [eBy code,.int .i64 (q2 : Int)]],tk⟩) 3 ?_ ?_
 ·refine ⟨1,0,p3,q3,t3,rfl,by omega,hs3,hl3,by omega,?_,rfl⟩
  simp [Env.put,Env.of,argEnv]
 rintro n vs S - ⟨i,p2,q2,tk,rfl,h_i,hs2,hl2,hq2,rfl,rfl⟩
 refine W.seq ?_
 refine W.r fun K hK => ?_
 by_cases hi3 : i < 3
 ·skip
  have hd : decide ((i : Int) < 3) = true := decide_eq_true (by omega)
  simp (disch := omega) only [↓RU,RV,RH,↓reduceIte,reduceEqDiff,reduceCtorEq,if_pos,w64,List.append_nil,↓RS,RG,reduceAdd,reduceMul,reduceLeDiff,tyint,hd]
  refine CallR.pc (sWallPlain_pc hs2) rfl (.inl rfl) ?_
  simp (disch := omega) only [↓RU,RV,RH,↓reduceIte,reduceEqDiff,reduceCtorEq,if_pos,w64,List.append_nil,↓RS,RG,reduceAdd,reduceMul,reduceLeDiff,tyint,hd]
  refine hK _ _ ?_;clear hK K
  refine W.cond rfl (fun h => ?_) (fun h => ?_)
  ·try simp only [RL] at h
   refine W.skip ?_
   refine xn ?_
   refine W.seq ?_
   refine W.block ?_
   refine W.k fun K hK => ?_
   simp (disch := omega) only [↓RU,RV,RH,↓reduceIte,reduceEqDiff,reduceCtorEq,if_pos,List.append_nil,↓RS,RG,reduceAdd,reduceMul,reduceLeDiff]
   refine CallR.ev (l91Some_ev (q := q2) hc (by omega) h1 h2 w1 w2) ?_
   rintro _ _ ⟨p3,q3,t3,rfl,hs3,hl3,hq3,rfl⟩
   simp (disch := omega) only [↓RU,RV,RH,↓reduceIte,reduceEqDiff,reduceCtorEq,if_pos,List.append_nil,↓RS,RG,reduceAdd,reduceMul,reduceLeDiff]
   refine hK _ _ ?_;clear hK K
   refine XbN ?_
   refine xn ?_
   refine W.k fun K hK => ?_
   simp (disch := omega) only [↓RU,RV,RH,↓reduceIte,reduceEqDiff,reduceCtorEq,if_pos,w64,↓RS,RG,reduceAdd,reduceMul,reduceLeDiff,tyint]
   refine hK _ _ ?_;clear hK K
   refine xn ?_
   refine ⟨3 - (i + 1),by omega,1,i + 1,p3,q3,t3,rfl,by omega,hs3,hl3,by omega,?_,rfl⟩
   simp [Env.put,Env.of]
  ·try simp only [RL] at h
   refine W.exit ?_
   refine xe ?_
   refine xe ?_
   refine XBlock.hit ?_
   refine xn ?_
   refine W.r fun K hK => ?_
   simp (disch := omega) only [↓RU,RV,RH,↓reduceIte,reduceEqDiff,reduceCtorEq,if_pos,↓RS,RG,reduceAdd,reduceMul,reduceLeDiff]
   refine hK _ _ ?_;clear hK K
   refine W.ret ?_
   refine Br rfl ?_
   exact ⟨_,p2,q2,tk,rfl,hs2,hl2,by omega,take_all⟩
 ·skip
  have hd : decide ((i : Int) < 3) = false := decide_eq_false (by omega)
  simp (disch := omega) only [↓RU,RV,RH,↓reduceIte,reduceEqDiff,reduceCtorEq,if_pos,w64,List.append_nil,↓RS,RG,reduceAdd,reduceMul,reduceLeDiff,tyint,hd]
  refine hK _ _ ?_;clear hK K
  refine W.cond rfl (fun h => ?_) (fun h => ?_)
  ·try simp only [RL] at h
   exact absurd h (by simp)
  ·try simp only [RL] at h
   refine W.exit ?_
   refine xe ?_
   refine xe ?_
   refine XBlock.hit ?_
   refine xn ?_
   refine W.r fun K hK => ?_
   simp (disch := omega) only [↓RU,RV,RH,↓reduceIte,reduceEqDiff,reduceCtorEq,if_pos,↓RS,RG,reduceAdd,reduceMul,reduceLeDiff]
   refine hK _ _ ?_;clear hK K
   refine W.ret ?_
   refine Br rfl ?_
   exact ⟨_,p2,q2,tk,rfl,hs2,hl2,by omega,take_all⟩
theorem tdiv39 {k : Nat} : ((k : Nat) : Int).tdiv 39 = ((k / 39 : Nat) : Int) := (Int.ofNat_tdiv k 39).symm
theorem tdiv59 {k : Nat} : ((k : Nat) : Int).tdiv 59 = ((k / 59 : Nat) : Int) := (Int.ofNat_tdiv k 59).symm
theorem tw39 : ((39 : Int) = 0) = False := by simp
theorem tw59 : ((59 : Int) = 0) = False := by simp
theorem tk_ints {l : List Int} {q : IntKind} : (l.map (PV.int q)).take l.length = l.map (.int q) := List.take_of_length_le (by simp)
theorem tk_i {l : List Int} {q : IntKind} {i : Nat} (h : l.length = i) : (l.map (PV.int q)).take i = l.map (.int q) := List.take_of_length_le (by simp [h])
theorem l92Needs_ev {code : Txt} {q vr t : Nat} (hc : code.length ≤ 1048576) (hq : q ≤ 700000) {p : List Txt} (hs : Sm p) : Ev Tryz.prog 68 [.ref 0 vr 0,eStrs p] ⟨[.arr vr 121 2 [eBy code,.int .i64 (q : Int)]],t⟩ fun v S => ∃ (l : List Int) (q2 t2 v1 : Nat),v = .loc 1 v1 0 l.length ∧ l.length ≤ 400 ∧ q2 ≤ q + 1000 ∧ S = ⟨[.arr vr 121 2 [eBy code,.int .i64 (q2 : Int)],.arr v1 3 1 (l.map (.int .i64))],t2⟩ := by
 have hrb := l1Rooms_bound p
 refine Ev.of ⟨Tryz.func68,by kernel_rfl,rfl,by kernel_rfl⟩ tabOk mixed (by show 2 ≤ Tryz.f68.ntmps; decide) ?_
 refine W.r fun K hK => ?_
 simp (disch := omega) only [↓RU,RV,RH,↓reduceIte,reduceEqDiff,reduceCtorEq,if_pos,↓RS,RG,reduceAdd,reduceMul,reduceLeDiff]
 refine hK _ _ ?_;clear hK K
 refine W.r fun K hK => ?_
 simp (disch := omega) only [↓RU,RV,RH,↓reduceIte,reduceEqDiff,reduceCtorEq,if_pos,↓RS,RG,reduceAdd,reduceMul,reduceLeDiff,tyLint,tyint]
 refine hK _ _ ?_;clear hK K
 refine W.r fun K hK => ?_
 simp (disch := omega) only [↓RU,RV,RH,↓reduceIte,reduceEqDiff,reduceCtorEq,if_pos,List.append_nil,w64,↓RS,RG,reduceAdd,reduceMul,reduceLeDiff,tyint]
 refine CallR.pc (l1Rooms_pc hs) rfl (.inl rfl) ?_
 simp (disch := omega) only [↓RU,RV,RH,↓reduceIte,reduceEqDiff,reduceCtorEq,if_pos,List.append_nil,w64,↓RS,RG,reduceAdd,reduceMul,reduceLeDiff,tyint]
 refine CallR.ev (pick_ev (q := q) hc (by omega) 40 (by omega) (by omega)) ?_
 rintro _ _ ⟨k0,rfl,hk0z,hk0,rfl⟩
 have hk0b := hk0 (by omega)
 simp (disch := omega) only [↓RU,RV,RH,↓reduceIte,reduceEqDiff,reduceCtorEq,if_pos,List.append_nil,w64,↓RS,RG,reduceAdd,reduceMul,reduceLeDiff,tyint,tdiv39,tw39,tdiv59,tw59]
 refine hK _ _ ?_;clear hK K
 obtain ⟨N,hN⟩ : ∃ N : Nat,l1Rooms p + ((k0 / 39 : Nat) : Int) = N := ⟨(l1Rooms p + ((k0 / 39 : Nat) : Int)).toNat,by omega⟩
 have hN2 : N ≤ 300 := by omega
 simp only [hN]
 refine W.seq ?_
 refine W.r fun K hK => ?_
 simp (disch := omega) only [↓RU,RV,RH,↓reduceIte,reduceEqDiff,reduceCtorEq,if_pos,↓RS,RG,reduceAdd,reduceMul,reduceLeDiff]
 refine hK _ _ ?_;clear hK K
 refine W.block ?_
 refine W.loop [0,1,5,6,7] (fun n vs S => ∃ (i q2 v1 t2 : Nat) (l : List Int),n = N - i ∧ i ≤ N ∧ l.length = i ∧ q2 ≤ q + 1 + 2 * i ∧ vs = [.ref 0 vr 0,eStrs p,.loc 1 v1 0 i,.int .i64 N,.int .i64 i] ∧ S = ⟨[.arr vr 121 2 [eBy code,.int .i64 (q2 : Int)],.arr v1 3 1 (l.map (.int .i64))],t2⟩) N ?_ ?_
 ·refine ⟨2,0,q + 1,t,t + 1,[],rfl,by omega,rfl,by omega,?_,rfl⟩
  simp [Env.put,Env.of,argEnv]
 rintro n vs S - ⟨i,q2,v1,t2,l,rfl,h_i,hll,hq2,rfl,rfl⟩
 refine W.seq ?_
 refine W.r fun K hK => ?_
 simp (disch := omega) only [↓RU,RV,RH,↓reduceIte,reduceEqDiff,reduceCtorEq,if_pos,w64,↓RS,RG,reduceAdd,reduceMul,reduceLeDiff,tyint]
 refine hK _ _ ?_;clear hK K
 refine W.cond rfl (fun h => ?_) (fun h => ?_)
 ·try simp only [RL] at h
  refine W.skip ?_
  refine xn ?_
  refine W.seq ?_
  refine W.block ?_
  refine W.k fun K hK => ?_
  simp (disch := omega) only [↓RU,RV,RH,↓reduceIte,reduceEqDiff,reduceCtorEq,if_pos,List.append_nil,w64,↓RS,RG,reduceAdd,reduceMul,reduceLeDiff,tyLint,tyint,tk_i hll]
  refine CallR.ev (pick_ev (q := q2) hc (by omega) 6 (by omega) (by omega)) ?_
  rintro _ _ ⟨k1,rfl,hk1z,hk1,rfl⟩
  have hk1b := hk1 (by omega)
  simp (disch := omega) only [↓RU,RV,RH,↓reduceIte,reduceEqDiff,reduceCtorEq,if_pos,List.append_nil,w64,↓RS,RG,reduceAdd,reduceMul,reduceLeDiff,tyLint,tyint,tk_i hll,tdiv39,tw39,tdiv59,tw59]
  refine CallR.ev (pick_ev (q := q2 + 1) hc (by omega) 60 (by omega) (by omega)) ?_
  rintro _ _ ⟨k2,rfl,hk2z,hk2,rfl⟩
  have hk2b := hk2 (by omega)
  simp (disch := omega) only [↓RU,RV,RH,↓reduceIte,reduceEqDiff,reduceCtorEq,if_pos,List.append_nil,w64,↓RS,RG,reduceAdd,reduceMul,reduceLeDiff,tyLint,tyint,tk_i hll,tdiv39,tw39,tdiv59,tw59]
  refine hK _ _ ?_;clear hK K
  refine XbN ?_
  refine xn ?_
  refine W.k fun K hK => ?_
  simp (disch := omega) only [↓RU,RV,RH,↓reduceIte,reduceEqDiff,reduceCtorEq,if_pos,w64,↓RS,RG,reduceAdd,reduceMul,reduceLeDiff,tyint]
  refine hK _ _ ?_;clear hK K
  refine xn ?_
  refine ⟨N - (i + 1),by omega,2,i + 1,q2 + 1 + 1,t2 + 1,t2 + 2,l ++ [1 + (k1 : Int) + ((k2 / 59 : Nat) : Int) * 9],rfl,by omega,by simp [hll],by omega,?_,?_⟩
  all_goals simp [Env.put,Env.of,take_eq,tk_le,hll,tk_i hll]
 ·try simp only [RL] at h
  obtain rfl : i = N := by omega
  refine W.exit ?_
  refine xe ?_
  refine xe ?_
  refine XBlock.hit ?_
  refine xn ?_
  refine W.r fun K hK => ?_
  simp (disch := omega) only [↓RU,RV,RH,↓reduceIte,reduceEqDiff,reduceCtorEq,if_pos,↓RS,RG,reduceAdd,reduceMul,reduceLeDiff]
  refine hK _ _ ?_;clear hK K
  refine W.ret ?_
  refine Br rfl ?_
  exact ⟨_,l,q2,t2,v1,by rw [hll]; rfl,by omega,by omega,take_all⟩
theorem l92Sized_ev {code : Txt} (hc : code.length ≤ 1048576) : Ev Tryz.prog 31 [eBy code] ⟨[],0⟩ fun v S => ∃ (p : List Txt) (ws : List Int) (t : Nat),Sm p ∧ ws.length ≤ 400 ∧ v = .tup [eStrs p,eInts ws] ∧ S = ⟨[],t⟩ := by
 refine Ev.of ⟨Tryz.func31,by kernel_rfl,rfl,by kernel_rfl⟩ tabOk mixed (by show 1 ≤ Tryz.f31.ntmps; decide) ?_
 refine W.r fun K hK => ?_
 simp (disch := omega) only [↓RU,RV,RH,↓reduceIte,reduceEqDiff,reduceCtorEq,if_pos,↓RS,RG,reduceAdd,reduceMul,reduceLeDiff]
 refine hK _ _ ?_;clear hK K
 refine W.r fun K hK => ?_
 simp (disch := omega) only [↓RU,RV,RH,↓reduceIte,reduceEqDiff,reduceCtorEq,if_pos,List.append_nil,↓RS,RG,reduceAdd,reduceMul,reduceLeDiff,rdO]
 refine CallR.pn (l6Open_pn hc) rfl (.inr rfl) ?_
 simp (disch := omega) only [↓RU,RV,RH,↓reduceIte,reduceEqDiff,reduceCtorEq,if_pos,List.append_nil,↓RS,RG,reduceAdd,reduceMul,reduceLeDiff,rdO,rdO,RN]
 refine hK _ _ ?_;clear hK K
 refine W.r fun K hK => ?_
 have hc2 : (code.take 2000).length ≤ 1048576 := by rw [List.length_take]; omega
 generalize code.take 2000 = code2 at hc2 ⊢
 simp (disch := omega) only [↓RU,RV,RH,↓reduceIte,reduceEqDiff,reduceCtorEq,if_pos,List.append_nil,↓RS,RG,reduceAdd,reduceMul,reduceLeDiff]
 refine CallR.ev (l91Plain_ev (q := 0) (code := code2) hc2 (by omega) (rows := 5) (cols := 5) (by omega) (by omega) (by omega) (by omega)) ?_
 rintro _ _ ⟨p,q,t,rfl,hs,hl,hq,rfl⟩
 simp (disch := omega) only [↓RU,RV,RH,↓reduceIte,reduceEqDiff,reduceCtorEq,if_pos,List.append_nil,↓RS,RG,reduceAdd,reduceMul,reduceLeDiff]
 refine hK _ _ ?_;clear hK K
 refine W.joinZ [2,3] (fun vs S => ∃ (ws : List Int) (tk : Nat),ws.length ≤ 400 ∧ vs = [eStrs p,eInts ws] ∧ S = ⟨[],tk⟩) ?_ ?_
 ·
  refine W.k fun K hK => ?_
  simp (disch := omega) only [↓RU,RV,RH,↓reduceIte,reduceEqDiff,reduceCtorEq,if_pos,List.append_nil,↓RS,RG,reduceAdd,reduceMul,reduceLeDiff]
  refine CallR.ev (l92Needs_ev (q := q) hc2 (by omega) hs) ?_
  rintro _ _ ⟨ws,q2,t2,v1,rfl,hwsl,hq2,rfl⟩
  simp (disch := omega) only [↓RU,RV,RH,↓reduceIte,reduceEqDiff,reduceCtorEq,if_pos,List.append_nil,↓RS,RG,reduceAdd,reduceMul,reduceLeDiff]
  refine hK _ _ ?_;clear hK K
  refine xn ?_
  refine ⟨0,[eStrs p,eInts ws],⟨[],t2⟩,?_,?_,ws,t2,hwsl,rfl,rfl⟩
  ·simp [-List.mapM_map,Store.frz,frzObs,frzOb,frz_eInts,frz_loc,rfz_loc,frz_int,frz_sl,frz_ints,rfz_ints,frz_strs,frz_bytes,rfz_bytes,rfz_str,rfz_bool,frz_str,frz_bool,Env.put,Env.of,argEnv,rfz_int,List.mapM_append,List.mapM_cons,frz_ref0,tk_strs,rfz_tstr,tk_ints,← frz_eInts]
  ·simp [-List.mapM_map,Store.frz,frzObs,frzOb,frz_eInts,frz_loc,rfz_loc,frz_int,frz_sl,frz_ints,rfz_ints,frz_strs,frz_bytes,rfz_bytes,rfz_str,rfz_bool,frz_str,frz_bool,Env.put,Env.of,argEnv,rfz_int,List.mapM_append,List.mapM_cons,frz_ref0,tk_strs,rfz_tstr,tk_ints]
 rintro vs S - ⟨ws,tk,hwsl,rfl,rfl⟩
 refine W.ret ?_
 refine Br rfl ?_
 exact ⟨0,p,ws,tk,hs,hwsl,rfl,rfl⟩
theorem sizeWide_pc {p : List Txt} (hs : Sm p) {ws : List Int} (hw : ws.length ≤ 1048576) (hrm : plainI p = true → RmOk (gP p) p.length (w0 (readG p)) (rP p).length) (hup : plainI p = true → ∃ rk,Up (leftG (gP p) p.length (w0 (readG p)) (rP p).length) (rP p).length rk) : PC Tryz.prog 10 [eStrs p,eInts ws] (sizeV (needV p [ws]) (leftG (gP p) p.length (w0 (readG p)) (rP p).length) ws (rP p).length) true := by
 refine PC.of ⟨Tryz.func10,by kernel_rfl,rfl,by kernel_rfl⟩ tabOk mixed (by show 2 ≤ Tryz.f10.ntmps; decide) ?_
 refine W.r fun K hK => ?_
 simp (disch := omega) only [↓RU,RV,RH,↓reduceIte,reduceEqDiff,reduceCtorEq,if_pos,↓RS,RG,reduceAdd,reduceMul,reduceLeDiff]
 refine hK _ _ ?_;clear hK K
 refine W.r fun K hK => ?_
 simp (disch := omega) only [↓RU,RV,RH,↓reduceIte,reduceEqDiff,reduceCtorEq,if_pos,List.append_nil,↓RS,RG,reduceAdd,reduceMul,reduceLeDiff,ty1,tyLint,tyint]
 refine CallR.ev (needing_ev hs (wss := [ws]) (by simp) (by intro a ha; rw [List.mem_singleton] at ha; subst ha; exact hw)) ?_
 rintro _ _ ⟨x,rfl,hx,rfl⟩
 simp (disch := omega) only [↓RU,RV,RH,↓reduceIte,reduceEqDiff,reduceCtorEq,if_pos,List.append_nil,↓RS,RG,reduceAdd,reduceMul,reduceLeDiff,ty1,tyLint,tyint]
 refine hK _ _ ?_;clear hK K
 refine W.seq ?_
 refine W.r fun K hK => ?_
 simp (disch := omega) only [↓RU,RV,RH,↓reduceIte,reduceEqDiff,reduceCtorEq,if_pos,↓RS,RG,reduceAdd,reduceMul,reduceLeDiff]
 refine hK _ _ ?_;clear hK K
 refine W.cond rfl (fun h => ?_) (fun h => ?_)
 ·try simp only [RL] at h
  refine W.r fun K hK => ?_
  simp (disch := omega) only [↓RU,RV,RH,↓reduceIte,reduceEqDiff,reduceCtorEq,if_pos,↓RS,RG,reduceAdd,reduceMul,reduceLeDiff]
  refine hK _ _ ?_;clear hK K
  refine W.ret ?_
  refine XThen.ret ?_
  refine Br rfl ?_
  rw [h]
  rfl
 ·try simp only [RL] at h
  obtain rfl := hx h
  obtain ⟨hpl,hwl,hwok⟩ := needV_one h
  have hok := (plain_okB hpl).1
  have hg := okB_gw hok
  have hn9 := okB_rooms hok
  have hn1 := okB_rooms1 hok
  obtain ⟨rk,hu⟩ := hup hpl
  have hhl := heaviest_len (M := (leftG (gP p) p.length (w0 (readG p)) (rP p).length)) (ws := ws) (n := (rP p).length)
  obtain ⟨y0,hy0,-⟩ := get_of (show 0 < (heaviest (leftG (gP p) p.length (w0 (readG p)) (rP p).length) ws (rP p).length).length by omega)
  refine W.skip ?_
  refine xn ?_
  refine W.r fun K hK => ?_
  simp (disch := omega) only [↓RU,RV,RH,↓reduceIte,reduceEqDiff,reduceCtorEq,if_pos,List.append_nil,↓RS,RG,reduceAdd,reduceMul,reduceLeDiff,ty0,ty2,tybool,ty12,ty16,ty25]
  refine CallR.pc (orders_pc hg rfl hn9 (hrm hpl)) rfl (.inl rfl) ?_
  simp (disch := omega) only [↓RU,RV,RH,↓reduceIte,reduceEqDiff,reduceCtorEq,if_pos,List.append_nil,↓RS,RG,reduceAdd,reduceMul,reduceLeDiff,ty0,ty2,tybool,ty12,ty16,ty25]
  refine CallR.pn (heaviest_pn hu hn9 hwl hwok) rfl (.inl rfl) ?_
  simp (disch := omega) only [↓RU,RV,RH,↓reduceIte,reduceEqDiff,reduceCtorEq,if_pos,List.append_nil,↓RS,RG,reduceAdd,reduceMul,reduceLeDiff,ty0,ty2,tybool,ty12,ty16,ty25,RN]
  refine CallR.pc (max_pc hy0 (by omega)) (mapM_one (reify_hv (k := 8) rfl) rfl) (.inl rfl) ?_
  simp (disch := omega) only [↓RU,RV,RH,↓reduceIte,reduceEqDiff,reduceCtorEq,if_pos,List.append_nil,↓RS,RG,reduceAdd,reduceMul,reduceLeDiff,ty0,ty2,tybool,ty12,ty16,ty25]
  refine hK _ _ ?_;clear hK K
  refine W.ret ?_
  refine Br rfl ?_
  rw [h]
  rfl
theorem pEq_bb {S : Store} {a b : Bool} : pEq tab S 4 (.bool a) (.bool b) = some (a == b) := rfl
theorem all_rm {p : List Txt} (h : plainI p = true) : RmOk (gP p) p.length (w0 (readG p)) (rP p).length := (plan_all h).1
theorem all_up0 {p : List Txt} (h : plainI p = true) : ∃ rk,Up (leftG (gP p) p.length (w0 (readG p)) (rP p).length) (rP p).length rk := (plan_all h).2.1




section
variable {M : List (List Bool)} {ms : List Nat} {n : Nat} {rk : Nat → Nat} {ws out : List Int}
abbrev ones (n : Nat) : List Int := List.replicate n 1
def RB (M : List (List Bool)) (n b : Nat) : Int := HB (revM n M) (ones n) n b
def LgOk (M : List (List Bool)) (n : Nat) (out : List Int) : Prop := out.length = n ∧ ∀ a,a < n → 0 ≤ getI out a ∧ getI out a ≤ RB M n a
theorem LgOk.set (h : LgOk M n out) {a : Nat} {v : Int} (ha : a < n) (h0 : 0 ≤ v) (h1 : v ≤ RB M n a) : LgOk M n (out.set a v) := by
 refine ⟨by simp [h.1],fun y hy => ?_⟩
 rw [getI_set (by rw [h.1]; exact ha)]
 split
 ·rename_i e; subst e; exact ⟨h0,h1⟩
 ·exact h.2 y hy
end
def LgK (n : Nat) (B : Int) (out : List Int) : Prop := out.length = n ∧ ∀ a,a < n → 0 ≤ getI out a ∧ getI out a ≤ B
theorem LgK.set {n : Nat} {B : Int} {out : List Int} (h : LgK n B out) {a : Nat} {v : Int} (ha : a < n) (h0 : 0 ≤ v) (h1 : v ≤ B) : LgK n B (out.set a v) := by
 refine ⟨by simp [h.1],fun y hy => ?_⟩
 rw [getI_set (by rw [h.1]; exact ha)]
 split
 ·exact ⟨h0,h1⟩
 ·exact h.2 y hy
theorem LgK.up {n : Nat} {B C : Int} {out : List Int} (h : LgK n B out) (hBC : B ≤ C) : LgK n C out := ⟨h.1,fun y hy => by have := h.2 y hy; omega⟩
def wideV (p : List Txt) (ws : List Int) : Int := if needV p [ws] then maxL (heaviest (lfM p) ws (rP p).length) else 0
theorem wideV_yes {p : List Txt} {ws : List Int} (h : needV p [ws] = true) : wideV p ws = maxL (heaviest (lfM p) ws (rP p).length) := by unfold wideV; rw [h]; rfl
theorem wideV_no {p : List Txt} {ws : List Int} (h : needV p [ws] = false) : wideV p ws = 0 := by unfold wideV; rw [h]; rfl
theorem sizeWide_v {p : List Txt} (hs : Sm p) {ws : List Int} (hw : ws.length ≤ 1048576) : PC Tryz.prog 10 [eStrs p,eInts ws] (.tup [.int .i64 (wideV p ws),.bool (needV p [ws])]) true := by
 have h := sizeWide_pc hs hw all_rm all_up0
 unfold sizeV at h
 cases hv : needV p [ws] with
 | false => rw [hv] at h; rw [wideV_no hv]; exact h
 | true => rw [hv,lf_eq] at h; rw [wideV_yes hv]; exact h
end Fw
end Go.Proofs.YtjobkanbijpfgaaGreat
