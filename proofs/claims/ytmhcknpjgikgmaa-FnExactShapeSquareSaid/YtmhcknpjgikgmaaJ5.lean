/- Parts of the framework and of the proof: Sums and counts of cells; The least rectangle around cells, by the program; The least rectangle around a room and its cells, by the specification; Plans that are read are the specification's: grids and names; Plans that are read are the specification's: numbers of rooms and rectangles; Plans that are read are the specification's: rooms fill their rectangles; Areas by the program are the specification's; Areas by the program are the specification's, joined; Arguments of laws as plain data; Where rooms begin and how far they may be moved: the program's lists are the specification's; Marks, gone through; Places and slack by the specification, gone through; Shapes in plain words: the program's least shapes are the specification's; Shapes by the specification, gone through; Best shapes by the specification, gone through; A relation the other way round, place by place; Places and slack by the program, gone through. -/
import Derived.Test.YtmhcknpjgikgmaaJ4
import Derived.Test.YtmhcknpjgikgmaaRows
import Derived.ProofKit
import Derived.SliceStrings
set_option linter.all false
/-! Sums and counts of cells. -/
namespace Go.Proofs.Ytmhcknpjgikgmaa
namespace Fw
open Go

def sN : Nat → (Nat → Nat) → Nat
  | 0, _ => 0
  | n + 1, f => sN n f + f n
theorem sN_congr {f g : Nat → Nat} : ∀ {n : Nat}, (∀ i, i < n → f i = g i) → sN n f = sN n g
  | 0, _ => rfl
  | n + 1, h => by rw [sN, sN, sN_congr (n := n) fun i hi => h i (by omega), h n (by omega)]
theorem sN_le {f g : Nat → Nat} : ∀ {n : Nat}, (∀ i, i < n → f i ≤ g i) → sN n f ≤ sN n g
  | 0, _ => Nat.le_refl _
  | n + 1, h => by
    have := sN_le (n := n) fun i hi => h i (by omega)
    have := h n (by omega)
    simp only [sN]; omega
theorem sN_eq {f g : Nat → Nat} : ∀ {n : Nat}, (∀ i, i < n → f i ≤ g i) → sN n f = sN n g → ∀ i, i < n → f i = g i
  | 0, _, _, i, hi => by omega
  | n + 1, h, e, i, hi => by
    have h1 := sN_le (n := n) fun i hi => h i (by omega)
    have h2 := h n (by omega)
    simp only [sN] at e
    by_cases hin : i = n
    · subst hin; omega
    · exact sN_eq (n := n) (fun i hi => h i (by omega)) (by omega) i (by omega)
theorem sN_zero : ∀ n, sN n (fun _ => 0) = 0
  | 0 => rfl
  | n + 1 => by rw [sN, sN_zero n]
theorem sN_one : ∀ n, sN n (fun _ => 1) = n
  | 0 => rfl
  | n + 1 => by rw [sN, sN_one n]
theorem sN_const (c : Nat) : ∀ n, sN n (fun _ => c) = n * c
  | 0 => by simp [sN]
  | n + 1 => by rw [sN, sN_const c n, Nat.succ_mul]
theorem sN_add {f g : Nat → Nat} : ∀ n, sN n (fun i => f i + g i) = sN n f + sN n g
  | 0 => rfl
  | n + 1 => by rw [sN, sN, sN, sN_add n]; omega
theorem sN_swap {f : Nat → Nat → Nat} {m : Nat} : ∀ n, sN n (fun i => sN m (fun j => f i j)) = sN m (fun j => sN n (fun i => f i j))
  | 0 => by simp only [sN]; rw [sN_zero]
  | n + 1 => by
    simp only [sN]
    rw [sN_swap n, sN_add]
theorem sN_mul {f : Nat → Nat} {c : Nat} : ∀ n, sN n (fun i => f i * c) = sN n f * c
  | 0 => by simp [sN]
  | n + 1 => by rw [sN, sN, sN_mul n, Nat.add_mul]
def b1 (b : Bool) : Nat := if b then 1 else 0
/-- How many cells hold. -/
def cnt (H W : Nat) (f : Nat → Nat → Bool) : Nat := sN H fun i => sN W fun j => b1 (f i j)
theorem b1_le {a b : Bool} (h : a = true → b = true) : b1 a ≤ b1 b := by
  cases a with
  | false => simp [b1]
  | true => rw [h rfl]; exact Nat.le_refl _
theorem b1_inj {a b : Bool} (h : b1 a = b1 b) : a = b := by cases a <;> cases b <;> simp [b1] at h ⊢
theorem cnt_le {H W : Nat} {f g : Nat → Nat → Bool} (h : ∀ i j, i < H → j < W → f i j = true → g i j = true) : cnt H W f ≤ cnt H W g :=
  sN_le fun i hi => sN_le fun j hj => b1_le (h i j hi hj)
theorem cnt_eq {H W : Nat} {f g : Nat → Nat → Bool} (h : ∀ i j, i < H → j < W → f i j = true → g i j = true) (e : cnt H W f = cnt H W g) : ∀ i j, i < H → j < W → f i j = g i j := by
  intro i j hi hj
  have h1 := sN_eq (n := H) (fun i hi => sN_le fun j hj => b1_le (h i j hi hj)) e i hi
  exact b1_inj (sN_eq (n := W) (fun j hj => b1_le (h i j hi hj)) h1 j hj)
theorem cnt_congr {H W : Nat} {f g : Nat → Nat → Bool} (h : ∀ i j, i < H → j < W → f i j = g i j) : cnt H W f = cnt H W g :=
  sN_congr fun i hi => sN_congr fun j hj => by rw [h i j hi hj]
/-- Numbers from a on, k of them. -/
theorem sN_seg {a k : Nat} : ∀ {n : Nat}, a + k ≤ n → sN n (fun i => b1 (decide (a ≤ i) && decide (i < a + k))) = k
  | 0, h => by simp [sN]; omega
  | n + 1, h => by
    rw [sN]
    by_cases hn : a + k ≤ n
    · rw [sN_seg hn, decide_eq_false (p := n < a + k) (by omega), Bool.and_false]; rfl
    · have hnk : n + 1 = a + k := by omega
      cases k with
      | zero =>
        have : sN n (fun i => b1 (decide (a ≤ i) && decide (i < a + 0))) = sN n (fun _ => 0) := sN_congr fun i hi => by
          rw [decide_eq_false (p := a ≤ i) (by omega)]; rfl
        rw [this, sN_zero, decide_eq_false (p := a ≤ n) (by omega)]; rfl
      | succ k =>
        have e : sN n (fun i => b1 (decide (a ≤ i) && decide (i < a + (k + 1)))) = sN n (fun i => b1 (decide (a ≤ i) && decide (i < a + k))) := sN_congr fun i hi => by
          congr 2
          apply decide_eq_decide.2; omega
        rw [e, sN_seg (k := k) (by omega), decide_eq_true (p := a ≤ n) (by omega), decide_eq_true (p := n < a + (k + 1)) (by omega)]
        rfl
/-- A rectangle: h rows from t on, w columns from l on. -/
def inR (t l h w i j : Nat) : Bool := (decide (t ≤ i) && decide (i < t + h)) && (decide (l ≤ j) && decide (j < l + w))
theorem b1_and {a b : Bool} : b1 (a && b) = b1 a * b1 b := by cases a <;> cases b <;> rfl
theorem cnt_rect {H W t l h w : Nat} (h1 : t + h ≤ H) (h2 : l + w ≤ W) : cnt H W (inR t l h w) = h * w := by
  unfold cnt inR
  have e : (fun i => sN W fun j => b1 ((decide (t ≤ i) && decide (i < t + h)) && (decide (l ≤ j) && decide (j < l + w)))) = fun i => b1 (decide (t ≤ i) && decide (i < t + h)) * w := by
    funext i
    have : (fun j => b1 ((decide (t ≤ i) && decide (i < t + h)) && (decide (l ≤ j) && decide (j < l + w)))) = fun j => b1 (decide (l ≤ j) && decide (j < l + w)) * b1 (decide (t ≤ i) && decide (i < t + h)) := by
      funext j; rw [b1_and, Nat.mul_comm]
    rw [this, sN_mul, sN_seg h2, Nat.mul_comm]
  rw [e, sN_mul, sN_seg h1]
/-- Each cell is in one of n classes. -/
theorem cnt_classes {H W n : Nat} {z : Nat → Nat → Nat} (hz : ∀ i j, i < H → j < W → z i j < n) : sN n (fun r => cnt H W fun i j => decide (z i j = r)) = H * W := by
  unfold cnt
  rw [sN_swap]
  have : sN H (fun i => sN n fun r => sN W fun j => b1 (decide (z i j = r))) = sN H (fun _ => W) := sN_congr fun i hi => by
    rw [sN_swap]
    have : sN W (fun j => sN n fun r => b1 (decide (z i j = r))) = sN W (fun _ => 1) := sN_congr fun j hj => by
      have h1 := hz i j hi hj
      have e : sN n (fun r => b1 (decide (z i j = r))) = sN n (fun r => b1 (decide (z i j ≤ r) && decide (r < z i j + 1))) := sN_congr fun r hr => by
        congr 1
        rw [Bool.eq_iff_iff]
        simp only [Bool.and_eq_true, decide_eq_true_eq]
        omega
      rw [e, sN_seg (by omega)]
    rw [this, sN_one]
  rw [this, sN_const]
end Fw
end Go.Proofs.Ytmhcknpjgikgmaa

/-! The least rectangle around cells, by the program. -/
namespace Go.Proofs.Ytmhcknpjgikgmaa
namespace Fw
open Go

/-- The least rectangle around the cells of pr. -/
structure Hull (pr : Nat → Nat → Prop) (t l lo ri : Int) : Prop where
  inn : ∀ a b, pr a b → t ≤ a ∧ (a : Int) ≤ lo ∧ l ≤ b ∧ (b : Int) ≤ ri
  at_ : ∃ a b : Nat, pr a b ∧ (a : Int) = t
  al : ∃ a b : Nat, pr a b ∧ (b : Int) = l
  ao : ∃ a b : Nat, pr a b ∧ (a : Int) = lo
  ar : ∃ a b : Nat, pr a b ∧ (b : Int) = ri
theorem Hull.uniq {pr : Nat → Nat → Prop} {t l lo ri t' l' lo' ri' : Int} (h : Hull pr t l lo ri) (k : Hull pr t' l' lo' ri') : t = t' ∧ l = l' ∧ lo = lo' ∧ ri = ri' := by
  obtain ⟨a1, b1, p1, e1⟩ := h.at_
  obtain ⟨a2, b2, p2, e2⟩ := h.al
  obtain ⟨a3, b3, p3, e3⟩ := h.ao
  obtain ⟨a4, b4, p4, e4⟩ := h.ar
  obtain ⟨a5, b5, p5, e5⟩ := k.at_
  obtain ⟨a6, b6, p6, e6⟩ := k.al
  obtain ⟨a7, b7, p7, e7⟩ := k.ao
  obtain ⟨a8, b8, p8, e8⟩ := k.ar
  have q1 := k.inn _ _ p1
  have q2 := k.inn _ _ p2
  have q3 := k.inn _ _ p3
  have q4 := k.inn _ _ p4
  have q5 := h.inn _ _ p5
  have q6 := h.inn _ _ p6
  have q7 := h.inn _ _ p7
  have q8 := h.inn _ _ p8
  omega
theorem Hull.congr {pr pr' : Nat → Nat → Prop} {t l lo ri : Int} (h : Hull pr t l lo ri) (e : ∀ a b, pr a b ↔ pr' a b) : Hull pr' t l lo ri := by
  have : pr = pr' := by funext a b; exact propext (e a b)
  exact this ▸ h
theorem Hull.add {pr : Nat → Nat → Prop} {t l lo ri : Int} (h : Hull pr t l lo ri) (i j : Nat) : Hull (fun a b => pr a b ∨ (a = i ∧ b = j)) (min t i) (min l j) (max lo i) (max ri j) := by
  refine ⟨?_, ?_, ?_, ?_, ?_⟩
  · rintro a b (p | ⟨rfl, rfl⟩)
    · have := h.inn a b p; omega
    · omega
  · by_cases e : t ≤ i
    · obtain ⟨a, b, p, q⟩ := h.at_; exact ⟨a, b, .inl p, by omega⟩
    · exact ⟨i, j, .inr ⟨rfl, rfl⟩, by omega⟩
  · by_cases e : l ≤ j
    · obtain ⟨a, b, p, q⟩ := h.al; exact ⟨a, b, .inl p, by omega⟩
    · exact ⟨i, j, .inr ⟨rfl, rfl⟩, by omega⟩
  · by_cases e : (i : Int) ≤ lo
    · obtain ⟨a, b, p, q⟩ := h.ao; exact ⟨a, b, .inl p, by omega⟩
    · exact ⟨i, j, .inr ⟨rfl, rfl⟩, by omega⟩
  · by_cases e : (j : Int) ≤ ri
    · obtain ⟨a, b, p, q⟩ := h.ar; exact ⟨a, b, .inl p, by omega⟩
    · exact ⟨i, j, .inr ⟨rfl, rfl⟩, by omega⟩
theorem Hull.one {pr : Nat → Nat → Prop} (h : ∀ a b, ¬ pr a b) (i j : Nat) : Hull (fun a b => pr a b ∨ (a = i ∧ b = j)) i j i j := by
  refine ⟨?_, ⟨i, j, .inr ⟨rfl, rfl⟩, rfl⟩, ⟨i, j, .inr ⟨rfl, rfl⟩, rfl⟩, ⟨i, j, .inr ⟨rfl, rfl⟩, rfl⟩, ⟨i, j, .inr ⟨rfl, rfl⟩, rfl⟩⟩
  rintro a b (p | ⟨rfl, rfl⟩)
  · exact absurd p (h a b)
  · omega
/-- Cells that are gone through: rows ahead of i, and of row i the first j. -/
def Gone (W i j a b : Nat) : Prop := b < W ∧ (a < i ∨ (a = i ∧ b < j))
theorem gone_succ {W i j a b : Nat} (hj : j < W) : Gone W i (j + 1) a b ↔ Gone W i j a b ∨ (a = i ∧ b = j) := by unfold Gone; omega
theorem gone_row {W i a b : Nat} : Gone W i W a b ↔ Gone W (i + 1) 0 a b := by unfold Gone; omega
/-- Cells of a value that are gone through. -/
def Val (z : Nat → Nat → Int) (W i j : Nat) (v : Int) (a b : Nat) : Prop := z a b = v ∧ Gone W i j a b
theorem val_hit {z : Nat → Nat → Int} {W i j : Nat} {v : Int} (hj : j < W) (h : z i j = v) (a b : Nat) : (Val z W i j v a b ∨ (a = i ∧ b = j)) ↔ Val z W i (j + 1) v a b := by
  unfold Val
  rw [gone_succ hj]
  constructor
  · rintro (⟨h1, h2⟩ | ⟨rfl, rfl⟩)
    · exact ⟨h1, .inl h2⟩
    · exact ⟨h, .inr ⟨rfl, rfl⟩⟩
  · rintro ⟨h1, h2 | h2⟩
    · exact .inl ⟨h1, h2⟩
    · exact .inr h2
theorem val_miss {z : Nat → Nat → Int} {W i j : Nat} {v : Int} (hj : j < W) (h : z i j ≠ v) (a b : Nat) : Val z W i j v a b ↔ Val z W i (j + 1) v a b := by
  unfold Val
  rw [gone_succ hj]
  constructor
  · rintro ⟨h1, h2⟩; exact ⟨h1, .inl h2⟩
  · rintro ⟨h1, h2 | ⟨rfl, rfl⟩⟩
    · exact ⟨h1, h2⟩
    · exact absurd h1 h
theorem val_row {z : Nat → Nat → Int} {W i : Nat} {v : Int} (a b : Nat) : Val z W i W v a b ↔ Val z W (i + 1) 0 v a b := by unfold Val; rw [gone_row]

def HullR (pr : Nat → Nat → Prop) (b : Rect) : Prop := Hull pr b.row b.col (b.row + b.high - 1) (b.col + b.wide - 1)
theorem HullR.both {pr : Nat → Nat → Prop} {b : Rect} (h : HullR pr b) (i j : Nat) : HullR (fun a c => pr a c ∨ (a = i ∧ c = j)) (b.both (oneR i j)) := by
  have := Hull.add h i j
  unfold HullR Rect.both oneR
  simp only
  rw [show min b.row (i : Int) + (max (b.row + b.high) ((i : Int) + 1) - min b.row (i : Int)) - 1 = max (b.row + b.high - 1) i by omega, show min b.col (j : Int) + (max (b.col + b.wide) ((j : Int) + 1) - min b.col (j : Int)) - 1 = max (b.col + b.wide - 1) j by omega]
  exact this
theorem one_both {i j : Nat} : (oneR i j).both (oneR i j) = oneR i j := by
  unfold Rect.both oneR
  simp only [Rect.mk.injEq]
  omega
theorem HullR.one {pr : Nat → Nat → Prop} (h : ∀ a b, ¬ pr a b) (i j : Nat) : HullR (fun a b => pr a b ∨ (a = i ∧ b = j)) (oneR i j) := by
  have := Hull.one h i j
  unfold HullR oneR
  simp only
  rw [show (i : Int) + 1 - 1 = i by omega, show (j : Int) + 1 - 1 = j by omega]
  exact this
theorem HullR.congr {pr pr' : Nat → Nat → Prop} {b : Rect} (h : HullR pr b) (e : ∀ a c, pr a c ↔ pr' a c) : HullR pr' b := Hull.congr h e

/-- Keys and rectangles while cells are gone through. -/
structure SeInv (z : Nat → Nat → Int) (W i j : Nat) (ks : List Int) (rs : List Rect) : Prop where
  nd : ks.Nodup
  len : rs.length = ks.length
  mem : ∀ a b, Gone W i j a b → z a b ∈ ks
  hull : ∀ (m : Nat) v b, ks[m]? = some v → rs[m]? = some b → HullR (Val z W i j v) b
theorem nodup_one {l : List Int} (h : l.Nodup) {a b : Nat} {v : Int} (ha : l[a]? = some v) (hb : l[b]? = some v) : a = b := by
  obtain ⟨p1, q1⟩ := List.getElem?_eq_some_iff.1 ha
  obtain ⟨p2, q2⟩ := List.getElem?_eq_some_iff.1 hb
  have := List.pairwise_iff_getElem.1 h
  rcases Nat.lt_trichotomy a b with hlt | heq | hgt
  · exact absurd (q1.trans q2.symm) (this a b p1 p2 hlt)
  · exact heq
  · exact absurd (q2.trans q1.symm) (this b a p2 p1 hgt)
theorem idxOf_mem {ks : List Int} {z : Int} (h : ¬ ks.idxOf z = ks.length) : ks[ks.idxOf z]? = some z := by
  have hl := idxOf_le (ks := ks) (z := z)
  have : z ∈ ks := by rw [← List.idxOf_lt_length_iff]; omega
  rw [List.getElem?_eq_getElem (List.idxOf_lt_length_iff.2 this), List.getElem_idxOf]
theorem idxOf_not {ks : List Int} {z : Int} (h : ks.idxOf z = ks.length) : z ∉ ks := by
  intro hm
  have := List.idxOf_lt_length_iff.2 hm
  omega
theorem SeInv.step {z : Nat → Nat → Int} {W i j : Nat} {ks : List Int} {rs : List Rect} (h : SeInv z W i j ks rs) (hj : j < W) : SeInv z W i (j + 1) (seKs ks (z i j)) (seRs ks rs (z i j) (oneR i j)) := by
  have hlen := h.len
  by_cases hin : ks.idxOf (z i j) = ks.length
  · have hnm := idxOf_not hin
    have e1 : seKs ks (z i j) = ks ++ [z i j] := by simp [seKs, hin]
    have e2 : seRs ks rs (z i j) (oneR i j) = rs ++ [oneR i j] := by
      unfold seRs seIn
      rw [if_pos hin, hin, ← hlen, List.getD_eq_getElem?_getD]
      simp [one_both]
    rw [e1, e2]
    refine ⟨?_, by simp [hlen], ?_, ?_⟩
    · rw [List.nodup_append]
      refine ⟨h.nd, by simp, ?_⟩
      intro a ha b hb
      rw [List.mem_singleton] at hb
      rintro rfl
      exact hnm (hb ▸ ha)
    · intro a b hab
      rw [gone_succ hj] at hab
      rcases hab with hab | ⟨rfl, rfl⟩
      · exact List.mem_append_left _ (h.mem a b hab)
      · simp
    · intro m v b hm hb
      by_cases hml : m < ks.length
      · rw [List.getElem?_append_left hml] at hm
        rw [List.getElem?_append_left (by omega)] at hb
        have hv : z i j ≠ v := fun e => hnm (e ▸ List.mem_of_getElem? hm)
        exact (h.hull m v b hm hb).congr (val_miss hj hv)
      · have hml2 := len_of hm
        simp only [List.length_append, List.length_singleton] at hml2
        obtain rfl : m = ks.length := by omega
        rw [List.getElem?_append_right (Nat.le_refl _), Nat.sub_self] at hm
        rw [← hlen, List.getElem?_append_right (Nat.le_refl _), Nat.sub_self] at hb
        simp only [List.getElem?_cons_zero, Option.some.injEq] at hm hb
        subst hm hb
        exact (HullR.one (pr := Val z W i j (z i j)) (fun a b hab => hnm (hab.1 ▸ h.mem a b hab.2)) i j).congr (val_hit hj rfl)
  · have hk := idxOf_mem hin
    have hkl := len_of hk
    have e1 : seKs ks (z i j) = ks := by simp [seKs, hin]
    obtain ⟨b0, hb0, -⟩ := get_of (show ks.idxOf (z i j) < rs.length by omega)
    have e2 : seRs ks rs (z i j) (oneR i j) = rs.set (ks.idxOf (z i j)) (b0.both (oneR i j)) := by
      unfold seRs seIn
      rw [if_neg hin, List.getD_eq_getElem?_getD, hb0]; rfl
    rw [e1, e2]
    refine ⟨h.nd, by simp [hlen], ?_, ?_⟩
    · intro a b hab
      rw [gone_succ hj] at hab
      rcases hab with hab | ⟨rfl, rfl⟩
      · exact h.mem a b hab
      · exact List.mem_of_getElem? hk
    · intro m v b hm hb
      rw [List.getElem?_set] at hb
      by_cases e : ks.idxOf (z i j) = m
      · subst e
        rw [if_pos rfl, if_pos (by omega)] at hb
        cases hb
        rw [hk] at hm
        cases hm
        exact ((h.hull _ _ _ hk hb0).both i j).congr (val_hit hj rfl)
      · rw [if_neg e] at hb
        have hv : z i j ≠ v := by
          rintro rfl
          exact e (nodup_one h.nd hk hm)
        exact (h.hull m v b hm hb).congr (val_miss hj hv)
theorem SeInv.nil {z : Nat → Nat → Int} {W : Nat} : SeInv z W 0 0 [] [] := by
  refine ⟨by simp, rfl, ?_, by simp⟩
  intro a b h
  unfold Gone at h; omega
theorem SeInv.row {g : List (List Int)} {W i : Nat} {s : List Int × List Rect} (h : SeInv (gz g) W i 0 s.1 s.2) : ∀ j, j ≤ W → SeInv (gz g) W i j (seRow g i s j).1 (seRow g i s j).2
  | 0, _ => h
  | j + 1, hj => (SeInv.row h j (by omega)).step (by omega)
theorem SeInv.rows {g : List (List Int)} {W : Nat} : ∀ i, SeInv (gz g) W i 0 (seRows g W i).1 (seRows g W i).2
  | 0 => SeInv.nil
  | i + 1 => by
    have h := (SeInv.rows (g := g) (W := W) i).row W (Nat.le_refl _)
    refine ⟨h.nd, h.len, fun a b hab => h.mem a b (gone_row.2 hab), fun m v b hm hb => (h.hull m v b hm hb).congr (fun a c => val_row a c)⟩
/-- The numbers of cells are places among the keys. -/
theorem seRow_pre {g : List (List Int)} {i : Nat} {s : List Int × List Rect} : ∀ {j k : Nat}, j ≤ k → ∃ r, (seRow g i s k).1 = (seRow g i s j).1 ++ r
  | j, 0, h => by
    have hj : j = 0 := by omega
    subst hj; exact ⟨[], by simp⟩
  | j, k + 1, h => by
    by_cases e : j = k + 1
    · subst e; exact ⟨[], by simp⟩
    · obtain ⟨r, hr⟩ := seRow_pre (g := g) (i := i) (s := s) (show j ≤ k by omega)
      simp only [seRow, seKs]
      split
      · exact ⟨r ++ [gz g i k], by rw [hr, List.append_assoc]⟩
      · exact ⟨r, hr⟩
theorem seRows_pre {g : List (List Int)} {W : Nat} : ∀ {i k : Nat}, i ≤ k → ∃ r, (seRows g W k).1 = (seRows g W i).1 ++ r
  | i, 0, h => by
    have hi : i = 0 := by omega
    subst hi; exact ⟨[], by simp⟩
  | i, k + 1, h => by
    by_cases e : i = k + 1
    · subst e; exact ⟨[], by simp⟩
    · obtain ⟨r, hr⟩ := seRows_pre (g := g) (W := W) (show i ≤ k by omega)
      obtain ⟨r2, hr2⟩ := seRow_pre (g := g) (i := k) (s := seRows g W k) (Nat.zero_le W)
      simp only [seRows]
      refine ⟨r ++ r2, ?_⟩
      rw [hr2, ← List.append_assoc, ← hr]; rfl
theorem idxOf_app {l r : List Int} {x : Int} (h : ¬ l.idxOf x = l.length) : (l ++ r).idxOf x = l.idxOf x := by
  have hl := idxOf_le (ks := l) (z := x)
  have hm : x ∈ l := by rw [← List.idxOf_lt_length_iff]; omega
  rw [List.idxOf_append, if_pos hm]
theorem idxOf_new {l r : List Int} {x : Int} (h : l.idxOf x = l.length) : (l ++ [x] ++ r).idxOf x = l.length := by
  have hm : x ∉ l := idxOf_not h
  rw [List.append_assoc, List.idxOf_append, if_neg hm]
  simp
theorem zNum {g : List (List Int)} {W nh i j : Nat} (hi : i < nh) (hj : j < W) : ((seRow g i (seRows g W i) j).1.idxOf (gz g i j)) = (seRows g W nh).1.idxOf (gz g i j) := by
  obtain ⟨r, hr⟩ := seRows_pre (g := g) (W := W) (show i + 1 ≤ nh by omega)
  obtain ⟨r2, hr2⟩ := seRow_pre (g := g) (i := i) (s := seRows g W i) (show j + 1 ≤ W by omega)
  have e : (seRows g W nh).1 = seKs (seRow g i (seRows g W i) j).1 (gz g i j) ++ (r2 ++ r) := by
    rw [hr, ← List.append_assoc]
    congr 1
  rw [e]
  generalize (seRow g i (seRows g W i) j).1 = ks
  unfold seKs
  by_cases hin : ks.idxOf (gz g i j) = ks.length
  · rw [if_pos hin, idxOf_new hin, hin]
  · rw [if_neg hin, idxOf_app hin]
end Fw
end Go.Proofs.Ytmhcknpjgikgmaa

/-! The least rectangle around a room and its cells, by the specification. -/
namespace Go.Proofs.Ytmhcknpjgikgmaa
namespace Fw
open Go

/-- The cells of a room. -/
def inZ (p : List Txt) (r : Int) (i j : Nat) : Bool := decide (cellZ p i j = r)
theorem inRoom_is {p : List Txt} {i k : Nat} {row : Txt} {c : UInt8} {r : Int} (h : p[i]? = some row) (hc : row[k]? = some c) : inRoom r c = inZ p r i k := by
  unfold inRoom inZ; rw [cellZ_is h hc]
theorem cellsRow_cnt {p : List Txt} {i : Nat} {row : Txt} {r : Int} (h : p[i]? = some row) (n : Int) : ∀ k, k ≤ row.length → cellsRow r n (row.take k) = n + sN k fun j => b1 (inZ p r i j)
  | 0, _ => by simp [cellsRow, sN]
  | k + 1, hk => by
    obtain ⟨c, hc, -⟩ := get_of (show k < row.length by omega)
    have ih := cellsRow_cnt (r := r) h n k (by omega)
    unfold cellsRow at ih ⊢
    rw [foldl_tk hc, ih, sN, inRoom_is h hc]
    cases inZ p r i k <;> simp [b1]
    omega
theorem l1Cells_cnt {p : List Txt} {W : Nat} (hW : ∀ row ∈ p, row.length = W) {r : Int} : ∀ i, i ≤ p.length → (p.take i).foldl (cellsRow r) 0 = ((sN i fun i => sN W fun j => b1 (inZ p r i j) : Nat) : Int)
  | 0, _ => by simp [sN]
  | i + 1, hi => by
    obtain ⟨row, hr, hm⟩ := get_of (show i < p.length by omega)
    have ih := l1Cells_cnt hW (r := r) i (by omega)
    have hl := hW row hm
    have := cellsRow_cnt (r := r) hr (((sN i fun i => sN W fun j => b1 (inZ p r i j) : Nat) : Int)) W (by omega)
    rw [List.take_of_length_le (by omega)] at this
    rw [foldl_tk hr, ih, this, sN]
    simp
theorem l1Cells_is {p : List Txt} {W : Nat} (hW : ∀ row ∈ p, row.length = W) {r : Int} : l1Cells p r = ((cnt p.length W (inZ p r) : Nat) : Int) := by
  have := l1Cells_cnt hW (r := r) p.length (Nat.le_refl _)
  rwa [List.take_length] at this
/-- What the specification knows of a room when some cells are gone through. -/
def BoxInv (H W : Nat) (pr : Nat → Nat → Prop) (b : Box) : Prop := ((∀ a c, ¬ pr a c) ∧ b = ⟨H, W, -1, -1⟩) ∨ Hull pr b.top b.left b.low b.right
theorem BoxInv.congr {H W : Nat} {pr pr' : Nat → Nat → Prop} {b : Box} (h : BoxInv H W pr b) (e : ∀ a c, pr a c ↔ pr' a c) : BoxInv H W pr' b := by
  have : pr = pr' := by funext a b; exact propext (e a b)
  exact this ▸ h
theorem BoxInv.add {H W : Nat} {pr : Nat → Nat → Prop} {b : Box} (h : BoxInv H W pr b) {i k : Nat} (hi : i < H) (hk : k < W) : BoxInv H W (fun a c => pr a c ∨ (a = i ∧ c = k)) ⟨min b.top i, min b.left k, max b.low i, max b.right k⟩ := by
  rcases h with ⟨h1, rfl⟩ | h
  · right
    have := Hull.one h1 i k
    simp only
    rw [show min (H : Int) i = i by omega, show min (W : Int) k = k by omega, show max (-1 : Int) i = i by omega, show max (-1 : Int) k = k by omega]
    exact this
  · exact .inr (Hull.add h i k)
theorem rowTo_inv {p : List Txt} {H W i : Nat} {row : Txt} {r : Int} (hr : p[i]? = some row) (hW : row.length = W) (hi : i < H) {b : Box} (h : BoxInv H W (Val (cellZ p) W i 0 r) b) : ∀ k, k ≤ W → BoxInv H W (Val (cellZ p) W i k r) (rowTo r i b row k)
  | 0, _ => by simpa [rowTo] using h
  | k + 1, hk => by
    obtain ⟨c, hc, -⟩ := get_of (show k < row.length by omega)
    have ih := rowTo_inv hr hW hi h k (by omega)
    rw [rowTo_succ hc]
    unfold boxCell
    simp only
    rw [inRoom_is hr hc]
    by_cases e : cellZ p i k = r
    · rw [if_pos (by unfold inZ; exact decide_eq_true e)]
      exact (ih.add hi (by omega)).congr (val_hit (by omega) e)
    · rw [if_neg (by unfold inZ; rw [decide_eq_false e]; exact Bool.false_ne_true)]
      exact ih.congr (val_miss (by omega) e)
theorem boxTo_inv {p : List Txt} {W : Nat} (hW : ∀ row ∈ p, row.length = W) (hh : (hdRow p).length = W) {r : Int} : ∀ i, i ≤ p.length → BoxInv p.length W (Val (cellZ p) W i 0 r) (boxTo p r i)
  | 0, _ => by
    left
    refine ⟨fun a c h => ?_, by simp [boxTo, hh]⟩
    have := h.2
    unfold Gone at this; omega
  | i + 1, hi => by
    obtain ⟨row, hr, hm⟩ := get_of (show i < p.length by omega)
    rw [boxTo_succ hr]
    have := rowTo_inv (r := r) hr (hW row hm) (by omega) (boxTo_inv hW hh i (by omega)) W (Nat.le_refl _)
    rw [hW row hm]
    exact this.congr fun a c => val_row a c
theorem boxOf_inv {p : List Txt} {W : Nat} (hW : ∀ row ∈ p, row.length = W) (hh : (hdRow p).length = W) {r : Int} : BoxInv p.length W (Val (cellZ p) W p.length 0 r) (boxOf p r) := by
  rw [← boxTo_all]; exact boxTo_inv hW hh p.length (Nat.le_refl _)
/-- A rectangle in whole numbers around cells of a grid. -/
theorem Hull.nat {z : Nat → Nat → Int} {H W : Nat} {v : Int} {t l lo ri : Int} (h : Hull (Val z W H 0 v) t l lo ri) : ∃ t' l' h' w' : Nat, t = t' ∧ l = l' ∧ lo = t' + h' - 1 ∧ ri = l' + w' - 1 ∧ 1 ≤ h' ∧ 1 ≤ w' ∧ t' + h' ≤ H ∧ l' + w' ≤ W ∧
    ∀ i j, i < H → j < W → z i j = v → inR t' l' h' w' i j = true := by
  obtain ⟨a1, b1, p1, e1⟩ := h.at_
  obtain ⟨a2, b2, p2, e2⟩ := h.al
  obtain ⟨a3, b3, p3, e3⟩ := h.ao
  obtain ⟨a4, b4, p4, e4⟩ := h.ar
  have q1 := h.inn _ _ p1
  have q2 := h.inn _ _ p2
  obtain ⟨-, g3, g3'⟩ := p3
  obtain ⟨-, g4, g4'⟩ := p4
  refine ⟨a1, b2, a3 + 1 - a1, b4 + 1 - b2, e1.symm, e2.symm, by omega, by omega, by omega, by omega, by omega, by omega, fun i j hi hj hv => ?_⟩
  have := h.inn i j ⟨hv, by unfold Gone; omega⟩
  unfold inR
  simp only [Bool.and_eq_true, decide_eq_true_eq]
  omega
end Fw
end Go.Proofs.Ytmhcknpjgikgmaa

/-! Plans that are read are the specification's: grids and names. -/
namespace Go.Proofs.Ytmhcknpjgikgmaa
namespace Fw
open Go

def u8I (c : UInt8) : Int := (c.toNat : Int)
theorem u8I_inj {a b : UInt8} (h : u8I a = u8I b) : a = b := by
  unfold u8I at h
  exact UInt8.toNat_inj.1 (by omega)
theorem idxOf_map {α β : Type} [DecidableEq α] [DecidableEq β] {f : α → β} (hf : ∀ a b, f a = f b → a = b) {c : α} : ∀ (l : List α), (l.map f).idxOf (f c) = l.idxOf c
  | [] => rfl
  | a :: l => by
    rw [List.map_cons, List.idxOf_cons, List.idxOf_cons, idxOf_map hf l]
    by_cases e : a = c
    · subst e; simp
    · have e2 : f a ≠ f c := fun h => e (hf _ _ h)
      rw [show (f a == f c) = false by simpa using e2, show (a == c) = false by simpa using e]
theorem gz_read {p : List Txt} {i k : Nat} {row : Txt} {c : UInt8} (h : p[i]? = some row) (hc : row[k]? = some c) : gz (readG p) i k = u8I c := by
  simp [gz, readG, rowZ, h, hc, u8I]
theorem nameRow_is {p : List Txt} {i : Nat} {row : Txt} (h : p[i]? = some row) {o : List UInt8} {s : List Int × List Rect} (ho : o.map u8I = s.1) : ∀ j, j ≤ row.length →
    ((row.take j).foldl nameStep (o, [])).1.map u8I = (seRow (readG p) i s j).1 ∧ ((row.take j).foldl nameStep (o, [])).2 = rowT (zRow (readG p) i s j)
  | 0, _ => ⟨by simpa [seRow] using ho, by simp [zRow, rowT]⟩
  | j + 1, hj => by
    obtain ⟨c, hc, -⟩ := get_of (show j < row.length by omega)
    obtain ⟨h1, h2⟩ := nameRow_is h ho j (by omega)
    rw [foldl_tk hc]
    generalize (row.take j).foldl nameStep (o, []) = q at h1 h2 ⊢
    have hz := gz_read h hc
    have hi : (seRow (readG p) i s j).1.idxOf (gz (readG p) i j) = q.1.idxOf c := by rw [← h1, hz, idxOf_map fun a b => u8I_inj]
    have hl : (seRow (readG p) i s j).1.length = q.1.length := by rw [← h1, List.length_map]
    constructor
    · simp only [nameStep, seRow, seKs]
      rw [hi, hl]
      split
      · rw [List.map_append, h1, hz]; rfl
      · exact h1
    · simp only [nameStep, zRow]
      rw [hi, h2]
      simp [rowT, letZ]
theorem names_to {p : List Txt} {W : Nat} (hW : ∀ row ∈ p, row.length = W) : ∀ i, i ≤ p.length →
    ((p.take i).foldl nameGo ([], [])).1.map u8I = (seRows (readG p) W i).1 ∧ ((p.take i).foldl nameGo ([], [])).2 = textG (zRows (readG p) W i)
  | 0, _ => by simp [seRows, zRows, textG]
  | i + 1, hi => by
    obtain ⟨row, hr, hm⟩ := get_of (show i < p.length by omega)
    obtain ⟨h1, h2⟩ := names_to hW i (by omega)
    rw [foldl_tk hr]
    generalize (p.take i).foldl nameGo ([], []) = q at h1 h2 ⊢
    have hl := hW row hm
    obtain ⟨k1, k2⟩ := nameRow_is hr h1 row.length (Nat.le_refl _)
    rw [List.take_length, hl] at k1 k2
    constructor
    · simp only [nameGo, nameRow, seRows]; exact k1
    · simp only [nameGo, nameRow, zRows, textG, List.map_append, List.map_cons, List.map_nil]
      rw [k2, h2]
      rfl
theorem w0_read {p : List Txt} : w0 (readG p) = (hdRow p).length := by
  cases p with
  | nil => rfl
  | cons a p => simp [w0, readG, rowZ, hdRow]
theorem grid_rows {p : List Txt} (hg : gridB p = true) : ∀ row ∈ p, row.length = (hdRow p).length := by
  intro row hm
  obtain ⟨i, hi⟩ := List.getElem?_of_mem hm
  exact grid_row hg hi
theorem names_text {p : List Txt} (hg : gridB p = true) : names p = textG (gP p) := by
  have := (names_to (grid_rows hg) p.length (Nat.le_refl _)).2
  rw [List.take_length] at this
  unfold names namesAll gP zG
  rw [this, w0_read, readG_len]
theorem grid_iff {p : List Txt} : gridB p = (lettersB p && okG (readG p)) := by
  rw [Bool.eq_iff_iff, Bool.and_eq_true, okG_iff, readG_len, w0_read]
  unfold gridB lettersB GW rowB
  simp only [Bool.and_eq_true, decide_eq_true_eq, List.all_eq_true, readG_len, true_and]
  constructor
  · rintro ⟨⟨h1, h2⟩, h3⟩
    obtain ⟨row0, hr0, hm0⟩ := get_of (show 0 < p.length by omega)
    have hh := hdRow_of hr0
    have h4 := h1 row0 hm0
    refine ⟨fun r hr => (h1 r hr).2, fun r hr => ?_, h2, h3, by rw [hh]; omega, by rw [hh]; omega⟩
    obtain ⟨t, ht, rfl⟩ := List.mem_map.1 hr
    rw [rowZ_len]; exact (h1 t ht).1.1.1
  · rintro ⟨h1, h2, h3, h4, h5, h6⟩
    refine ⟨⟨fun r hr => ?_, h3⟩, h4⟩
    have := h2 (rowZ r) (List.mem_map.2 ⟨r, hr, rfl⟩)
    rw [rowZ_len] at this
    exact ⟨⟨⟨this, by omega⟩, by omega⟩, h1 r hr⟩
end Fw
end Go.Proofs.Ytmhcknpjgikgmaa

/-! Plans that are read are the specification's: numbers of rooms and rectangles. -/
namespace Go.Proofs.Ytmhcknpjgikgmaa
namespace Fw
open Go

theorem zRow_at {g : List (List Int)} {i : Nat} {s : List Int × List Rect} : ∀ {j k : Nat}, k < j → (zRow g i s j)[k]? = some (((seRow g i s k).1.idxOf (gz g i k) : Nat) : Int)
  | 0, k, h => by omega
  | j + 1, k, h => by
    unfold zRow
    by_cases e : k = j
    · subst e; rw [List.getElem?_append_right (by rw [zRow_len]; exact Nat.le_refl _), zRow_len]; simp
    · rw [List.getElem?_append_left (by rw [zRow_len]; omega)]; exact zRow_at (by omega)
def keys (p : List Txt) : List Int := (seRows (readG p) (hdRow p).length p.length).1
theorem gP_eq {p : List Txt} : gP p = zRows (readG p) (hdRow p).length p.length := by unfold gP zG; rw [w0_read, readG_len]
theorem rP_eq {p : List Txt} : rP p = (seRows (readG p) (hdRow p).length p.length).2 := by unfold rP stG; rw [w0_read, readG_len]
theorem gP_at {p : List Txt} {i j : Nat} (hi : i < p.length) (hj : j < (hdRow p).length) : gz (gP p) i j = (((keys p).idxOf (gz (readG p) i j) : Nat) : Int) := by
  rw [gP_eq]
  unfold gz
  rw [zRows_at hi, Option.getD_some, zRow_at hj, Option.getD_some]
  congr 1
  exact zNum hi hj
theorem keys_inv (p : List Txt) : SeInv (gz (readG p)) (hdRow p).length p.length 0 (keys p) (rP p) := by
  rw [rP_eq]; exact SeInv.rows p.length
theorem gone_all {H W i j : Nat} (hi : i < H) (hj : j < W) : Gone W H 0 i j := ⟨hj, .inl hi⟩
theorem gP_room {p : List Txt} : RmOk (gP p) p.length (hdRow p).length (rP p).length := by
  intro i j hi hj
  rw [gP_at hi hj]
  have hm := (keys_inv p).mem i j (gone_all hi hj)
  have hl := (keys_inv p).len
  have := List.idxOf_lt_length_iff.2 hm
  omega
/-- A plan whose names are as they should be. -/
structure Named (p : List Txt) : Prop where
  hg : gridB p = true
  ht : textG (gP p) = p
theorem Named.cell {p : List Txt} (h : Named p) {i j : Nat} (hi : i < p.length) (hj : j < (hdRow p).length) : gz (gP p) i j = cellZ p i j := by
  have hgz := gP_at hi hj
  have hm := (keys_inv p).mem i j (gone_all hi hj)
  have hsm := grid_small h.hg
  obtain ⟨row0, hr0, hm0⟩ := get_of hsm.1
  have hh := hdRow_of hr0
  have hw6 := hsm.2.2 row0 hm0
  have hw1 := row_pos h.hg hr0
  rw [← hh] at hw6 hw1
  have hb := zRows_bound (g := readG p) hw6 hw1 p.length hsm.2.1
  rw [← gP_eq] at hb
  have hrl : (gP p).length = p.length := by rw [gP_eq]; exact zRows_len _
  obtain ⟨zr, hzr, hzm⟩ := get_of (show i < (gP p).length by omega)
  have hzl : zr.length = (hdRow p).length := by
    have e := hzr
    rw [gP_eq, zRows_at hi] at e
    cases e
    exact zRow_len _
  obtain ⟨z, hz, hzm2⟩ := get_of (show j < zr.length by omega)
  have hz1 := hb zr hzm z hzm2
  have e1 : gz (gP p) i j = z := by simp [gz, hzr, hz]
  have e2 : p[i]? = some (rowT zr) := by
    have := textG_at hzr
    rwa [h.ht] at this
  have e3 : (rowT zr)[j]? = some (letZ z) := by simp [rowT, hz]
  rw [e1, cellZ_is e2 e3]
  unfold letZ
  rw [UInt8.toNat_ofNat_of_lt' (by show 97 + z.toNat < 256; omega)]
  omega
theorem Named.room {p : List Txt} (h : Named p) {i j : Nat} (hi : i < p.length) (hj : j < (hdRow p).length) : 0 ≤ cellZ p i j ∧ cellZ p i j < (rP p).length := by
  rw [← h.cell hi hj]; exact gP_room i j hi hj
/-- A key is in a cell just if the cell's room is the key's number. -/
theorem Named.key {p : List Txt} (h : Named p) {m : Nat} {v : Int} (hm : (keys p)[m]? = some v) (a b : Nat) : Val (gz (readG p)) (hdRow p).length p.length 0 v a b ↔ Val (cellZ p) (hdRow p).length p.length 0 m a b := by
  unfold Val
  constructor
  · rintro ⟨h1, h2⟩
    refine ⟨?_, h2⟩
    obtain ⟨hb, ha⟩ := h2
    have ha' : a < p.length := by omega
    rw [← h.cell ha' hb, gP_at ha' hb, h1]
    congr 1
    have hv := List.mem_of_getElem? hm
    have hlt := List.idxOf_lt_length_iff.2 hv
    have := idxOf_mem (ks := keys p) (z := v) (by omega)
    exact nodup_one (keys_inv p).nd this hm
  · rintro ⟨h1, h2⟩
    refine ⟨?_, h2⟩
    obtain ⟨hb, ha⟩ := h2
    have ha' : a < p.length := by omega
    have hmem := (keys_inv p).mem a b (gone_all ha' hb)
    have hlt := List.idxOf_lt_length_iff.2 hmem
    rw [← h.cell ha' hb, gP_at ha' hb] at h1
    have := idxOf_mem (ks := keys p) (z := gz (readG p) a b) (by omega)
    rw [show (keys p).idxOf (gz (readG p) a b) = m by omega, hm] at this
    cases this; rfl
/-- The rectangle of a room. -/
theorem Named.rect {p : List Txt} (h : Named p) {m : Nat} {b : Rect} (hb : (rP p)[m]? = some b) : HullR (Val (cellZ p) (hdRow p).length p.length 0 m) b := by
  have hi := keys_inv p
  have hml := len_of hb
  rw [hi.len] at hml
  obtain ⟨v, hv, -⟩ := get_of hml
  exact (hi.hull m v b hv hb).congr (h.key hv)
theorem Named.box {p : List Txt} (h : Named p) {m : Nat} {b : Rect} (hb : (rP p)[m]? = some b) : b.row = (boxOf p m).top ∧ b.col = (boxOf p m).left ∧ b.high = highOf p m ∧ b.wide = wideOf p m := by
  have h1 := h.rect hb
  have h2 := boxOf_inv (grid_rows h.hg) rfl (r := (m : Int))
  rcases h2 with ⟨h2, -⟩ | h2
  · obtain ⟨a, c, q, -⟩ := h1.at_
    exact absurd q (h2 a c)
  · have := Hull.uniq h1 h2
    unfold highOf wideOf
    omega
theorem foldl_max_le {f : UInt8 → Int} {B : Int} : ∀ (row : Txt) (n : Int), n ≤ B → (∀ c ∈ row, f c ≤ B) → row.foldl (fun n c => max n (f c)) n ≤ B
  | [], n, h, _ => h
  | c :: row, n, h, hc => foldl_max_le row _ (by have := hc c (by simp); show max n (f c) ≤ B; omega) fun d hd => hc d (by simp [hd])
theorem rooms_le {B : Int} : ∀ (p : List Txt) (n : Int), n ≤ B → (∀ row ∈ p, ∀ c ∈ row, (c.toNat : Int) - 97 + 1 ≤ B) → p.foldl rowMax n ≤ B
  | [], n, h, _ => h
  | row :: p, n, h, hc => rooms_le p _ (foldl_max_le row n h (hc row (by simp))) fun r hr => hc r (by simp [hr])
theorem Named.rooms {p : List Txt} (h : Named p) : l1Rooms p = (rP p).length := by
  have hi := keys_inv p
  have hl := hi.len
  apply Int.le_antisymm
  · refine rooms_le p 0 (by omega) fun row hr c hc => ?_
    obtain ⟨i, hrow⟩ := List.getElem?_of_mem hr
    obtain ⟨j, hcol⟩ := List.getElem?_of_mem hc
    have hil := len_of hrow
    have hjl := len_of hcol
    have := h.room hil (by rw [← grid_row h.hg hrow]; exact hjl)
    rw [cellZ_is hrow hcol] at this
    omega
  · by_cases h0 : (rP p).length = 0
    · have := (l1Rooms_bound p).1; omega
    · obtain ⟨b, hb, -⟩ := get_of (show (rP p).length - 1 < (rP p).length by omega)
      obtain ⟨a, c, ⟨q1, q2⟩, -⟩ := (h.rect hb).at_
      obtain ⟨hc, ha⟩ := q2
      have ha' : a < p.length := by omega
      obtain ⟨row, hrow, hrm⟩ := get_of ha'
      have hrl := grid_row h.hg hrow
      obtain ⟨d, hd, -⟩ := get_of (show c < row.length by omega)
      have := (rooms_fold p 0).2 a c row d hrow hd
      rw [cellZ_is hrow hd] at q1
      unfold l1Rooms
      omega
end Fw
end Go.Proofs.Ytmhcknpjgikgmaa

/-! Plans that are read are the specification's: rooms fill their rectangles. -/
namespace Go.Proofs.Ytmhcknpjgikgmaa
namespace Fw
open Go

def inB (b : Rect) (i j : Nat) : Bool := (decide (b.row ≤ i) && decide ((i : Int) < b.row + b.high)) && (decide (b.col ≤ j) && decide ((j : Int) < b.col + b.wide))
theorem rect_cnt {z : Nat → Nat → Int} {H W : Nat} {v : Int} {b : Rect} (h : HullR (Val z W H 0 v) b) : ((cnt H W (inB b) : Nat) : Int) = b.high * b.wide ∧ ∀ i j, i < H → j < W → z i j = v → inB b i j = true := by
  obtain ⟨t, l, hh, w, e1, e2, e3, e4, h1, h2, h3, h4, h5⟩ := Hull.nat h
  have e5 : b.high = hh := by omega
  have e6 : b.wide = w := by omega
  have e : ∀ i j, inB b i j = inR t l hh w i j := by
    intro i j
    unfold inB inR
    rw [e1, e2, e5, e6, Bool.eq_iff_iff]
    simp only [Bool.and_eq_true, decide_eq_true_eq]
    omega
  have e7 : inB b = inR t l hh w := by funext i j; exact e i j
  rw [e7, cnt_rect h3 h4, e5, e6]
  exact ⟨by simp, h5⟩
/-- How many cells the rectangle of a room has. -/
def arN (p : List Txt) (m : Nat) : Nat :=
  match (rP p)[m]? with
  | some b => cnt p.length (hdRow p).length (inB b)
  | none => 0
theorem arN_is {p : List Txt} {m : Nat} {b : Rect} (h : (rP p)[m]? = some b) : arN p m = cnt p.length (hdRow p).length (inB b) := by simp [arN, h]
theorem sumA_is {p : List Txt} (h : Named p) : ∀ k, k ≤ (rP p).length → sumA ((rP p).take k) = ((sN k (arN p) : Nat) : Int)
  | 0, _ => by simp [sumA, sN]
  | k + 1, hk => by
    obtain ⟨b, hb, -⟩ := get_of (show k < (rP p).length by omega)
    rw [sumA_succ hb, sumA_is h k (by omega), sN, arN_is hb, ← (rect_cnt (h.rect hb)).1]
    simp
theorem Named.cells_le {p : List Txt} (h : Named p) {m : Nat} (hm : m < (rP p).length) : cnt p.length (hdRow p).length (inZ p m) ≤ arN p m := by
  obtain ⟨b, hb, -⟩ := get_of hm
  rw [arN_is hb]
  exact cnt_le fun i j hi hj hz => (rect_cnt (h.rect hb)).2 i j hi hj (by unfold inZ at hz; simpa using hz)
theorem Named.all {p : List Txt} (h : Named p) : sN (rP p).length (fun m => cnt p.length (hdRow p).length (inZ p m)) = p.length * (hdRow p).length := by
  rw [← cnt_classes (H := p.length) (W := (hdRow p).length) (n := (rP p).length) (z := fun i j => (cellZ p i j).toNat) fun i j hi hj => by have := h.room hi hj; omega]
  refine sN_congr fun m hm => cnt_congr fun i j hi hj => ?_
  unfold inZ
  have := h.room hi hj
  apply decide_eq_decide.2
  omega
theorem fullG_is {p : List Txt} (h : Named p) : fullG (readG p) = decide (sN (rP p).length (arN p) = p.length * (hdRow p).length) := by
  have := sumA_is h (rP p).length (Nat.le_refl _)
  rw [List.take_length] at this
  unfold fullG
  rw [show (stG (readG p)).2 = rP p from rfl, this, readG_len, w0_read]
  apply decide_eq_decide.2
  omega
theorem Named.area {p : List Txt} (h : Named p) {m : Nat} (hm : m < (rP p).length) : (l1Cells p m = highOf p m * wideOf p m) ↔ cnt p.length (hdRow p).length (inZ p m) = arN p m := by
  obtain ⟨b, hb, -⟩ := get_of hm
  obtain ⟨-, -, e1, e2⟩ := h.box hb
  rw [l1Cells_is (grid_rows h.hg), ← e1, ← e2, ← (rect_cnt (h.rect hb)).1, arN_is hb]
  omega
theorem Named.full {p : List Txt} (h : Named p) : fullG (readG p) = true ↔ ∀ m, m < (rP p).length → cnt p.length (hdRow p).length (inZ p m) = arN p m := by
  rw [fullG_is h, decide_eq_true_eq, ← h.all]
  constructor
  · intro e m hm
    exact sN_eq (fun m hm => h.cells_le hm) e.symm m hm
  · intro e
    exact sN_congr fun m hm => (e m hm).symm
/-- Where areas are cells, rooms fill their rectangles. -/
theorem Named.fill {p : List Txt} (h : Named p) (hf : fullG (readG p) = true) {m : Nat} {b : Rect} (hb : (rP p)[m]? = some b) {i j : Nat} (hi : i < p.length) (hj : j < (hdRow p).length) : inB b i j = decide (cellZ p i j = m) := by
  have e := h.full.1 hf m (len_of hb)
  rw [arN_is hb] at e
  exact (cnt_eq (fun i j hi hj hz => (rect_cnt (h.rect hb)).2 i j hi hj (by unfold inZ at hz; simpa using hz)) e i j hi hj).symm
theorem floorI_plan {p : List Txt} : floorI p = planB p := by
  unfold floorI floorV okB okS planB
  rw [Bool.eq_iff_iff]
  simp only [Bool.and_eq_true, decide_eq_true_eq, List.all_eq_true, List.mem_range]
  have hgi := grid_iff (p := p)
  constructor
  · rintro ⟨⟨h1, h2, h3⟩, h4, h5⟩
    have hg : gridB p = true := by rw [hgi, h1, h2]; rfl
    have hN : Named p := ⟨hg, h5⟩
    have hr := hN.rooms
    have h3' : (rP p).length ≤ 9 := h3
    refine ⟨⟨⟨hg, by rw [names_text hg]; exact h5⟩, by omega⟩, fun m hm => ?_⟩
    have hm' : m < (rP p).length := by omega
    exact (hN.area hm').2 (hN.full.1 h4 m hm')
  · rintro ⟨⟨⟨hg, h2⟩, h3⟩, h4⟩
    have h5 : textG (gP p) = p := by rw [← names_text hg]; exact h2
    have hN : Named p := ⟨hg, h5⟩
    have hr := hN.rooms
    rw [hgi, Bool.and_eq_true] at hg
    have h3' : (rP p).length ≤ 9 := by omega
    exact ⟨⟨hg.1, hg.2, h3'⟩, hN.full.2 fun m hm => (hN.area hm).1 (h4 m (by omega)), h5⟩
theorem plan_named {p : List Txt} (h : planB p = true) : Named p := by
  have h2 := h
  rw [← floorI_plan] at h2
  unfold floorI floorV at h2
  simp only [Bool.and_eq_true, decide_eq_true_eq] at h2
  exact ⟨planB_grid h, h2.2.2⟩
theorem plan_full {p : List Txt} (h : planB p = true) : fullG (readG p) = true := by
  rw [← floorI_plan] at h
  unfold floorI floorV at h
  simp only [Bool.and_eq_true, decide_eq_true_eq] at h
  exact h.2.1
end Fw
end Go.Proofs.Ytmhcknpjgikgmaa

/-! Areas by the program are the specification's. -/
namespace Go.Proofs.Ytmhcknpjgikgmaa
namespace Fw
open Go

/-! ### Points -/
def cz (c : UInt8) : Int := (c.toNat : Int) - 97
theorem cz_inj {a b : UInt8} : (cz a = cz b) = (a = b) := by
  rw [u8_eq]
  unfold cz
  apply propext; omega
theorem dn_dist (a b c d : UInt8) : ((dn [cz a, cz b, cz c, cz d] : Nat) : Int) = distTo [a, b, c, d] 4 := by
  simp only [dn, distTo, newAt, newTo, List.mem_cons, List.not_mem_nil, or_false, cz_inj]
  by_cases h1 : a = b <;> by_cases h2 : a = c <;> by_cases h3 : a = d <;> by_cases h4 : b = c <;> by_cases h5 : b = d <;> by_cases h6 : c = d <;> simp_all [eq_comm]
theorem four_meets {p : List Txt} (h : Named p) {i k : Nat} (hi : 1 ≤ i) (hi2 : i < p.length) (hk : 1 ≤ k) (hk2 : k < (hdRow p).length) : ((dn (four (gP p) i k) : Nat) : Int) = meetsAt p i k := by
  obtain ⟨r1, hr1, -⟩ := get_of (show i - 1 < p.length by omega)
  obtain ⟨r2, hr2, -⟩ := get_of hi2
  have l1 := grid_row h.hg hr1
  have l2 := grid_row h.hg hr2
  obtain ⟨a, ha, -⟩ := get_of (show k - 1 < r1.length by omega)
  obtain ⟨b, hb, -⟩ := get_of (show k < r1.length by omega)
  obtain ⟨c, hc, -⟩ := get_of (show k - 1 < r2.length by omega)
  obtain ⟨d, hd, -⟩ := get_of (show k < r2.length by omega)
  unfold four meetsAt
  rw [h.cell (by omega) (by omega), h.cell (by omega) (by omega), h.cell (by omega) (by omega), h.cell (by omega) (by omega), cellZ_is hr1 ha, cellZ_is hr1 hb, cellZ_is hr2 hc, cellZ_is hr2 hd]
  simp only [hr1, hr2, ha, hb, hc, hd]
  exact dn_dist a b c d
theorem ptsRow_eq {p : List Txt} (h : Named p) {many : Int} {i : Nat} (hi : 1 ≤ i) (hi2 : i < p.length) : ∀ k, k ≤ (hdRow p).length → ptsRowG (gP p) many i k = ptsRow p many i k
  | 0, _ => rfl
  | k + 1, hk => by
    unfold ptsRowG ptsRow
    rw [ptsRow_eq h hi hi2 k (by omega)]
    by_cases h1 : 1 ≤ k
    · rw [four_meets h hi hi2 h1 (by omega)]
    · rw [if_neg (fun e => h1 e.1), if_neg (fun e => h1 e.1)]
theorem pts_eq {p : List Txt} (h : Named p) {many : Int} : ∀ i, i ≤ p.length → ptsG (gP p) many (hdRow p).length i = ptsTo p many (hdRow p).length i
  | 0, _ => rfl
  | i + 1, hi => by
    unfold ptsG ptsTo
    rw [pts_eq h i (by omega)]
    by_cases h1 : 1 ≤ i
    · rw [ptsRow_eq h h1 (by omega) _ (Nat.le_refl _)]
    · rw [if_neg h1, if_neg h1]
theorem plainI_plain {p : List Txt} : plainI p = plainB p := by
  unfold plainI plainB
  rw [floorI_plan]
  cases hp : planB p with
  | false => rfl
  | true =>
    rw [w0_read, pts_eq (plan_named hp) p.length (Nat.le_refl _)]
    rfl
theorem plain_plan {p : List Txt} (h : plainB p = true) : planB p = true := by
  unfold plainB at h
  rw [Bool.and_eq_true] at h
  exact h.1
theorem needV_needs {p : List Txt} {ws : List Int} : needV p [ws] = needsB p ws := by
  unfold needV needsB needW
  rw [plainI_plain]
  cases hp : plainB p with
  | false => rfl
  | true =>
    have hr := (plan_named (plain_plan hp)).rooms
    simp only [List.all_cons, List.all_nil, Bool.and_true, Bool.true_and]
    congr 1
    rw [hr]
    apply decide_eq_decide.2
    omega

/-! ### Orders go up -/
theorem mem_ddp {l : List Int} {x : Int} : x ∈ ddp l ↔ x ∈ l := by
  have : ∀ (l m : List Int), x ∈ l.foldl putL m ↔ x ∈ m ∨ x ∈ l := by
    intro l
    induction l with
    | nil => intro m; simp
    | cons a l ih => intro m; rw [List.foldl_cons, ih, mem_putL, List.mem_cons, or_assoc]
  unfold ddp
  rw [this]
  simp
/-- A relation all of whose pairs go up. -/
def Rise (n : Nat) (rk : Nat → Nat) (M : List (List Bool)) : Prop := Sq n M ∧ ∀ a b, a < n → b < n → getB M a b = true → rk a < rk b
theorem Rise.clA {n : Nat} {rk : Nat → Nat} {M : List (List Bool)} (h : Rise n rk M) {k a : Nat} (hk : k < n) (ha : a < n) : Rise n rk (clA n k M a) := by
  obtain ⟨h1, h2⟩ := clA_to h.1 hk ha n (Nat.le_refl _)
  refine ⟨h1, fun x y hx hy hxy => ?_⟩
  unfold Fw.clA at hxy
  rw [h2 x y hx hy] at hxy
  split at hxy
  · rename_i e
    obtain ⟨rfl, -⟩ := e
    rw [Bool.or_eq_true, Bool.and_eq_true] at hxy
    rcases hxy with hxy | ⟨h3, h4⟩
    · exact h.2 x y hx hy hxy
    · exact Nat.lt_trans (h.2 x k hx hk h3) (h.2 k y hk hy h4)
  · exact h.2 x y hx hy hxy
theorem Rise.fold {n : Nat} {rk : Nat → Nat} {f : List (List Bool) → Nat → List (List Bool)} : ∀ (i : Nat) {M : List (List Bool)}, i ≤ n → (∀ M j, j < n → Rise n rk M → Rise n rk (f M j)) → Rise n rk M → Rise n rk ((List.range i).foldl f M)
  | 0, _, _, _, h => h
  | i + 1, M, hi, hs, h => by
    rw [foldl_rg]
    exact hs _ i (by omega) (Rise.fold i (by omega) hs h)
theorem Rise.close {n : Nat} {rk : Nat → Nat} {M : List (List Bool)} (h : Rise n rk M) : Rise n rk (closeM M) := by
  unfold closeM
  rw [h.1.1]
  exact Rise.fold n (Nat.le_refl _) (fun _ k hk h => Rise.fold n (Nat.le_refl _) (fun _ a ha h => h.clA hk ha) h) h
theorem Rise.relB {n : Nat} {rk : Nat → Nat} {a : Int} (ha : 0 ≤ a ∧ a < n) : ∀ {bs : List Int} {M : List (List Bool)}, Rm n bs → (∀ b ∈ bs, rk a.toNat < rk b.toNat) → Rise n rk M → Rise n rk (relB a bs M)
  | [], _, _, _, h => h
  | b :: bs, M, hb, hr, h => by
    have hb0 := hb b (by simp)
    refine Rise.relB ha (bs := bs) (fun x hx => hb x (by simp [hx])) (fun x hx => hr x (by simp [hx])) ⟨h.1.set (by omega), fun x y hx hy hxy => ?_⟩
    rw [getB_setB h.1 (by omega) (by omega)] at hxy
    split at hxy
    · rename_i e
      rw [e.1, e.2]; exact hr b (by simp)
    · exact h.2 x y hx hy hxy
theorem Rise.relW {n : Nat} {rk : Nat → Nat} {bs : List Int} (hb : Rm n bs) : ∀ {la : List Int} {M : List (List Bool)}, Rm n la → (∀ a ∈ la, ∀ b ∈ bs, rk a.toNat < rk b.toNat) → Rise n rk M → Rise n rk (relW M la bs)
  | [], _, _, _, h => h
  | a :: la, M, ha, hr, h => Rise.relW hb (la := la) (fun x hx => ha x (by simp [hx])) (fun x hx => hr x (by simp [hx])) (h.relB (ha a (by simp)) hb (hr a (by simp)))
theorem Rise.empty {n : Nat} {rk : Nat → Nat} : Rise n rk (emptyM n) := by
  refine ⟨emptyM_sq n, fun a b ha hb h => ?_⟩
  simp [getB, emptyM, ha, hb] at h
theorem Rise.ord {g : List (List Int)} {nh nw n : Nat} {r0 r1 : Nat → Nat} (hrm : RmOk g nh nw n) (h0 : ∀ w, WlOk g nh nw w → w.level = false → ∀ a ∈ (sidesOf g w).1, ∀ b ∈ (sidesOf g w).2, r0 a.toNat < r0 b.toNat)
    (h1 : ∀ w, WlOk g nh nw w → w.level = true → ∀ a ∈ (sidesOf g w).1, ∀ b ∈ (sidesOf g w).2, r1 a.toNat < r1 b.toNat) : ∀ (ws : List Wall), (∀ w ∈ ws, WlOk g nh nw w) → ∀ {M : List (List Bool) × List (List Bool)}, Rise n r0 M.1 → Rise n r1 M.2 →
    Rise n r0 (ws.foldl (ordW g) M).1 ∧ Rise n r1 (ws.foldl (ordW g) M).2
  | [], _, _, k0, k1 => ⟨k0, k1⟩
  | w :: ws, hws, M, k0, k1 => by
    have hw := hws w (by simp)
    obtain ⟨hr1, hr2⟩ := sidesOf_rooms hrm hw
    rw [List.foldl_cons]
    refine Rise.ord hrm h0 h1 ws (fun w hw => hws w (by simp [hw])) ?_ ?_
    · unfold ordW
      cases hlv : w.level with
      | false => simpa using k0.relW hr2 hr1 (h0 w hw hlv)
      | true => simpa using k0
    · unfold ordW
      cases hlv : w.level with
      | false => simpa using k1
      | true => simpa using k1.relW hr2 hr1 (h1 w hw hlv)
end Fw
end Go.Proofs.Ytmhcknpjgikgmaa

/-! Areas by the program are the specification's, joined. -/
namespace Go.Proofs.Ytmhcknpjgikgmaa
namespace Fw
open Go

theorem side1 {g : List (List Int)} {nh nw : Nat} {w : Wall} (hw : WlOk g nh nw w) {x : Int} (hx : x ∈ (sidesOf g w).1) : ∃ line j : Nat, w.line = line ∧ x = (sidesG g w.level line j).1 ∧ InL nh nw w.level line j ∧ difG g w.level line j = true := by
  obtain ⟨line, fr, long, e, h1, h2⟩ := hw
  have e1 : w.line.toNat = line := by rw [e]; simp
  have e2 : w.fr.toNat = fr := by rw [e]; simp
  have e3 : w.long.toNat = long := by rw [e]; simp
  simp only [sidesOf, e1, e2, e3] at hx
  have := mem_ddp.1 hx
  simp only [alongG, List.mem_map, List.mem_range] at this
  obtain ⟨j, hj, rfl⟩ := this
  have h3 := h2 (fr + j) (by omega) (by omega)
  exact ⟨line, fr + j, by rw [e], rfl, h3.1, h3.2⟩
theorem side2 {g : List (List Int)} {nh nw : Nat} {w : Wall} (hw : WlOk g nh nw w) {x : Int} (hx : x ∈ (sidesOf g w).2) : ∃ line j : Nat, w.line = line ∧ x = (sidesG g w.level line j).2 ∧ InL nh nw w.level line j ∧ difG g w.level line j = true := by
  obtain ⟨line, fr, long, e, h1, h2⟩ := hw
  have e1 : w.line.toNat = line := by rw [e]; simp
  have e2 : w.fr.toNat = fr := by rw [e]; simp
  have e3 : w.long.toNat = long := by rw [e]; simp
  simp only [sidesOf, e1, e2, e3] at hx
  have := mem_ddp.1 hx
  simp only [alongG, List.mem_map, List.mem_range] at this
  obtain ⟨j, hj, rfl⟩ := this
  have h3 := h2 (fr + j) (by omega) (by omega)
  exact ⟨line, fr + j, by rw [e], rfl, h3.1, h3.2⟩
def rkL (p : List Txt) (a : Nat) : Nat := match (rP p)[a]? with | some b => b.col.toNat | none => 0
def rkA (p : List Txt) (a : Nat) : Nat := match (rP p)[a]? with | some b => b.row.toNat | none => 0
/-- A room's cell lies in its rectangle, and where the rectangle is filled, the other way round. -/
theorem plan_rect {p : List Txt} (hp : planB p = true) {i j : Nat} (hi : i < p.length) (hj : j < (hdRow p).length) : ∃ b, (rP p)[(cellZ p i j).toNat]? = some b ∧ inB b i j = true ∧ b.Fit ∧ ∀ k l, k < p.length → l < (hdRow p).length → inB b k l = true → cellZ p k l = cellZ p i j := by
  have hN := plan_named hp
  have hr := hN.room hi hj
  obtain ⟨b, hb, hbm⟩ := get_of (show (cellZ p i j).toNat < (rP p).length by omega)
  have hf := plan_full hp
  have hsm := grid_small hN.hg
  obtain ⟨row0, hr0, hm0⟩ := get_of hsm.1
  have hh := hdRow_of hr0
  have hw6 := hsm.2.2 row0 hm0
  have hw1 := row_pos hN.hg hr0
  rw [← hh] at hw6 hw1
  have hok := (seRows_ok (g := readG p) hw6 hw1 p.length hsm.2.1).1
  rw [← rP_eq] at hok
  refine ⟨b, hb, ?_, hok.2 b hbm, fun k l hk hl hkl => ?_⟩
  · rw [hN.fill hf hb hi hj]; exact decide_eq_true (by omega)
  · rw [hN.fill hf hb hk hl] at hkl
    have := of_decide_eq_true hkl
    omega
theorem plan_left {p : List Txt} (hp : planB p = true) {w : Wall} (hw : WlOk (gP p) p.length (hdRow p).length w) (hl : w.level = false) : ∀ a ∈ (sidesOf (gP p) w).1, ∀ b ∈ (sidesOf (gP p) w).2, rkL p a.toNat < rkL p b.toNat := by
  intro a ha b hb
  have hN := plan_named hp
  obtain ⟨L, j, e1, rfl, ⟨h1, h2⟩, h3⟩ := side1 hw ha
  obtain ⟨L', j', e2, rfl, ⟨k1, k2⟩, k3⟩ := side2 hw hb
  obtain rfl : L = L' := by omega
  simp only [hl, Bool.false_eq_true, if_false] at h2 k2
  unfold difG at k3
  simp only [hl, sidesG, Bool.false_eq_true, if_false, decide_eq_true_eq] at k3 ⊢
  rw [hN.cell k2.2 (by omega), hN.cell k2.2 k2.1] at k3
  rw [hN.cell h2.2 (by omega), hN.cell k2.2 k2.1]
  obtain ⟨r1, hr1, q1, f1, -⟩ := plan_rect hp h2.2 (show L - 1 < (hdRow p).length by omega)
  obtain ⟨r2, hr2, q2, f2, c2⟩ := plan_rect hp k2.2 k2.1
  unfold rkL
  rw [hr1, hr2]
  simp only
  have c3 := c2 j' (L - 1) k2.2 (by omega)
  unfold inB at q1 q2 c3
  unfold Rect.Fit at f1 f2
  simp only [Bool.and_eq_true, decide_eq_true_eq] at q1 q2 c3
  by_cases hc : r2.col < (L : Int)
  · exact absurd (c3 (by omega)) k3
  · omega
theorem plan_above {p : List Txt} (hp : planB p = true) {w : Wall} (hw : WlOk (gP p) p.length (hdRow p).length w) (hl : w.level = true) : ∀ a ∈ (sidesOf (gP p) w).1, ∀ b ∈ (sidesOf (gP p) w).2, rkA p a.toNat < rkA p b.toNat := by
  intro a ha b hb
  have hN := plan_named hp
  obtain ⟨L, j, e1, rfl, ⟨h1, h2⟩, h3⟩ := side1 hw ha
  obtain ⟨L', j', e2, rfl, ⟨k1, k2⟩, k3⟩ := side2 hw hb
  obtain rfl : L = L' := by omega
  simp only [hl, if_true] at h2 k2
  unfold difG at k3
  simp only [hl, sidesG, if_true, decide_eq_true_eq] at k3 ⊢
  rw [hN.cell (by omega) k2.2, hN.cell k2.1 k2.2] at k3
  rw [hN.cell (by omega) h2.2, hN.cell k2.1 k2.2]
  obtain ⟨r1, hr1, q1, f1, -⟩ := plan_rect hp (show L - 1 < p.length by omega) h2.2
  obtain ⟨r2, hr2, q2, f2, c2⟩ := plan_rect hp k2.1 k2.2
  unfold rkA
  rw [hr1, hr2]
  simp only
  have c3 := c2 (L - 1) j' (by omega) k2.2
  unfold inB at q1 q2 c3
  unfold Rect.Fit at f1 f2
  simp only [Bool.and_eq_true, decide_eq_true_eq] at q1 q2 c3
  by_cases hc : r2.row < (L : Int)
  · exact absurd (c3 (by omega)) k3
  · omega
theorem rk_le {p : List Txt} (hp : planB p = true) (b : Nat) : rkL p b ≤ 100 ∧ rkA p b ≤ 100 := by
  have hN := plan_named hp
  have hsm := grid_small hN.hg
  obtain ⟨row0, hr0, hm0⟩ := get_of hsm.1
  have hh := hdRow_of hr0
  have hw6 := hsm.2.2 row0 hm0
  have hw1 := row_pos hN.hg hr0
  rw [← hh] at hw6 hw1
  have hok := (seRows_ok (g := readG p) hw6 hw1 p.length hsm.2.1).1
  rw [← rP_eq] at hok
  unfold rkL rkA
  cases hb : (rP p)[b]? with
  | none => simp
  | some r =>
    have := hok.2 r (List.mem_of_getElem? hb)
    unfold Rect.Fit at this
    simp only
    omega
theorem plan_up {p : List Txt} (hp : planB p = true) : Up (leftG (gP p) p.length (hdRow p).length (rP p).length) (rP p).length (rkL p) ∧ Up (aboveG (gP p) p.length (hdRow p).length (rP p).length) (rP p).length (rkA p) := by
  have h := Rise.ord (r0 := rkL p) (r1 := rkA p) (gP_room (p := p)) (fun w hw hl => plan_left hp hw hl) (fun w hw hl => plan_above hp hw hl) (wallsG (gP p) p.length (hdRow p).length) wallsG_ok (M := (emptyM (rP p).length, emptyM (rP p).length)) Rise.empty Rise.empty
  have h0 := h.1.close
  have h1 := h.2.close
  exact ⟨⟨h0.1, h0.2, fun b => (rk_le hp b).1⟩, ⟨h1.1, h1.2, fun b => (rk_le hp b).2⟩⟩
theorem plan_all {p : List Txt} (hp : plainI p = true) : RmOk (gP p) p.length (w0 (readG p)) (rP p).length ∧ (∃ rk, Up (leftG (gP p) p.length (w0 (readG p)) (rP p).length) (rP p).length rk) ∧ ∃ rk, Up (aboveG (gP p) p.length (w0 (readG p)) (rP p).length) (rP p).length rk := by
  rw [plainI_plain] at hp
  have h := plan_up (plain_plan hp)
  rw [w0_read]
  exact ⟨gP_room, ⟨_, h.1⟩, ⟨_, h.2⟩⟩
theorem plan_least {p : List Txt} {ws : List Int} (h : needV p [ws] = true) : maxL (heaviest (leftG (gP p) p.length (w0 (readG p)) (rP p).length) ws (rP p).length) = least (allS p 0) ws ∧ maxL (heaviest (aboveG (gP p) p.length (w0 (readG p)) (rP p).length) ws (rP p).length) = least (allS p 1) ws := by
  obtain ⟨h1, h2, h3⟩ := needV_one h
  have hok : okB p = true := by
    have h9 := h1
    unfold plainI floorI at h9
    simp only [Bool.and_eq_true] at h9
    exact h9.1.1
  have hn1 := okB_rooms1 hok
  rw [plainI_plain] at h1
  have hp := plain_plan h1
  have hN := plan_named hp
  obtain ⟨u0, u1⟩ := plan_up hp
  have hr := hN.rooms
  obtain ⟨s0, s1⟩ := same_all hN.hg (n := (rP p).length) (by omega) (fun i j hi hj => hN.cell hi hj) gP_room
  rw [w0_read]
  exact ⟨(least_heaviest s0 u0 h2 hn1 h3).symm, (least_heaviest s1 u1 h2 hn1 h3).symm⟩
end Fw
end Go.Proofs.Ytmhcknpjgikgmaa

/-! Arguments of laws as plain data. -/
namespace Go.Proofs.Ytmhcknpjgikgmaa
namespace Fw
open Go Go.ChangeShapes Go.WideShapes Go.ChangeAt Go.RowKit

set_option maxRecDepth 100000 in
theorem slice_at {W : World} {base : Nat} {t e : TypeId} {a : Addr} {len cap : Nat} (ht : Try.prog.underlying t = some (.slice e)) (hval : Value.okWide Try.prog W .any base t (.slice (some a) len cap)) : a.spot = none ∧ a.block < W.heap.size := by
  simp only [Value.okWide, ht, Cell.okWide, Cell.ok] at hval
  obtain ⟨-, -, -, hsp, row, cells, hsh, -⟩ := hval
  refine ⟨hsp, ?_⟩
  unfold World.shape? at hsh
  rcases Nat.lt_or_ge a.block W.heap.size with h | h
  · exact h
  · rw [Array.getElem?_eq_none h] at hsh; cases hsh
set_option maxRecDepth 100000 in
theorem vi_strs {H : Type} {enc : TypeId × Value → H} {W : World} {base : Nat} {v : Value} {d : DataW H} {ps : List MemPlace} (hval : Value.okWide Try.prog W .any base 23 v) (h : DataW.Trod enc Try.prog W 0 (fun _ => true) true 23 v d ps) :
    ∃ p : List Txt, VI W.heap (fun b => b < W.heap.size) (eStrs p) v ∧ p.length ≤ 9223372036854775807 ∧ ∀ r ∈ p, r.length ≤ 9223372036854775807 := by
  obtain ⟨a0, len, cap, rfl⟩ := okWide_slice Try.underlying23 hval
  obtain ⟨fuel, hf⟩ := h
  rcases open_strings Try.underlying23 Try.underlying9 (by kernel_rfl) hf with ⟨hcs, hx⟩ | ⟨a, len', cap', ss, hcs, -, hl, hm, hz, hx, hcell, hsz⟩
  · simp [Value.cells] at hcs
    obtain ⟨rfl, rfl, rfl⟩ := hcs
    exact ⟨[], .sl0, by simp, by simp⟩
  · simp [Value.cells] at hcs
    obtain ⟨rfl, rfl, rfl⟩ := hcs
    obtain ⟨hsp, hlt⟩ := slice_at Try.underlying23 hval
    obtain ⟨b, off, spot⟩ := a
    simp only at hsp hlt
    subst hsp
    simp only [if_true] at hz
    have hml : maxLen ≤ 9223372036854775807 := by decide
    have hlen : ((ss.take len).map fun s : ByteArray => s.data.toList).length = len := by simp; omega
    have hget : ∀ (i : Nat) q, ((ss.take len).map fun s : ByteArray => s.data.toList)[i]? = some q → i < len ∧ q = (ss.getD i ByteArray.empty).data.toList := by
      intro i q hq
      rw [List.getElem?_map, Option.map_eq_some_iff] at hq
      obtain ⟨s, hs, rfl⟩ := hq
      have hi := len_of hs
      simp only [List.length_take] at hi
      rw [List.getElem?_take_of_lt (by omega)] at hs
      refine ⟨by omega, ?_⟩
      rw [List.getD_eq_getElem?_getD, hs]; rfl
    refine ⟨(ss.take len).map fun s => s.data.toList, ?_, by rw [hlen]; omega, fun r hr => ?_⟩
    · show VI _ _ (.sl (((ss.take len).map fun s : ByteArray => s.data.toList).map .str) ((ss.take len).map fun s : ByteArray => s.data.toList).length) _
      rw [hlen]
      refine .sl _ _ b off cap (fun i => .string (ss.getD i ByteArray.empty)) (fun _ => hlt) hl (fun i q hq => ?_) (fun i q hq => ?_)
      · rw [List.getElem?_map, Option.map_eq_some_iff] at hq
        obtain ⟨x, hx1, rfl⟩ := hq
        obtain ⟨hi, rfl⟩ := hget i x hx1
        refine ⟨rfl, ?_⟩
        rw [← cellH_eq]
        have := hcell i (by omega)
        rwa [add_lit] at this
      · rw [List.getElem?_map, Option.map_eq_some_iff] at hq
        obtain ⟨x, hx1, rfl⟩ := hq
        obtain ⟨hi, rfl⟩ := hget i x hx1
        exact .str _ _ rfl
    · obtain ⟨s, hs, rfl⟩ := List.mem_map.1 hr
      have := hsz s (List.mem_of_mem_take hs)
      have e : s.data.toList.length = s.size := Array.length_toList
      rw [e]; omega
set_option maxRecDepth 100000 in
theorem vi_ints {H : Type} {enc : TypeId × Value → H} {W : World} {base : Nat} {v : Value} {d : DataW H} {ps : List MemPlace} (hval : Value.okWide Try.prog W .any base 30 v) (h : DataW.Trod enc Try.prog W 0 (fun _ => true) true 30 v d ps) :
    ∃ p : List Int, VI W.heap (fun b => b < W.heap.size) (eInts p) v := by
  obtain ⟨a0, len, cap, rfl⟩ := okWide_slice Try.underlying30 hval
  obtain ⟨fuel, hf⟩ := h
  rcases open_ints Try.underlying30 Try.underlying3 (by kernel_rfl) hf with ⟨hcs, hx⟩ | ⟨a, len', cap', zs, hcs, -, hl, hm, hz, hx, hcell, hwf⟩
  · simp [Value.cells] at hcs
    obtain ⟨rfl, rfl, rfl⟩ := hcs
    exact ⟨[], .sl0⟩
  · simp [Value.cells] at hcs
    obtain ⟨rfl, rfl, rfl⟩ := hcs
    obtain ⟨hsp, hlt⟩ := slice_at Try.underlying30 hval
    obtain ⟨b, off, spot⟩ := a
    simp only at hsp hlt
    subst hsp
    simp only [if_true] at hz
    have hlen : (zs.take len).length = len := by simp; omega
    refine ⟨zs.take len, ?_⟩
    show VI _ _ (.sl ((zs.take len).map (.int .i64)) (zs.take len).length) _
    rw [hlen]
    refine .sl _ _ b off cap (fun i => .int .i64 (zs.getD i 0)) (fun _ => hlt) hl (fun i q hq => ?_) (fun i q hq => ?_)
    · rw [List.getElem?_map, Option.map_eq_some_iff] at hq
      obtain ⟨x, hx1, rfl⟩ := hq
      have hi := len_of hx1
      refine ⟨rfl, ?_⟩
      rw [← cellH_eq]
      have := hcell i (by omega)
      rwa [add_lit] at this
    · rw [List.getElem?_map, Option.map_eq_some_iff] at hq
      obtain ⟨x, hx1, rfl⟩ := hq
      have hi := len_of hx1
      rw [List.getElem?_take_of_lt (by omega)] at hx1
      rw [List.getD_eq_getElem?_getD, hx1]
      exact .int _ _
end Fw
end Go.Proofs.Ytmhcknpjgikgmaa

/-! Where rooms begin and how far they may be moved: the program's lists are the specification's. -/
namespace Go.Proofs.Ytmhcknpjgikgmaa
namespace Fw
open Go

/-- One list up to a place, another one from it on. -/
theorem mix_succ {α : Type} {a b : List α} {i : Nat} {x : α} (ha : a[i]? = some x) (hl : a.length = b.length) : (a.take i ++ b.drop i).set i x = a.take (i + 1) ++ b.drop (i + 1) := by
  have hi := len_of ha
  apply List.ext_getElem?
  intro j
  rw [List.getElem?_set]
  by_cases hj : i = j
  · subst hj
    rw [if_pos rfl, if_pos (by simp; omega), tk ha, List.append_assoc, List.getElem?_append_right (by simp; omega)]
    simp [Nat.min_eq_left (Nat.le_of_lt hi)]
  · rw [if_neg hj]
    by_cases hlt : j < i
    · rw [List.getElem?_append_left (by simp; omega), List.getElem?_append_left (by simp; omega)]
      simp [List.getElem?_take, hlt, show j < i + 1 by omega]
    · rw [List.getElem?_append_right (by simp; omega), List.getElem?_append_right (by simp; omega)]
      simp only [List.length_take, Nat.min_eq_left (Nat.le_of_lt hi), Nat.min_eq_left (show i + 1 ≤ a.length by omega), List.getElem?_drop]
      congr 1
      omega
theorem mix_at {α : Type} {a b : List α} {i : Nat} (hl : a.length = b.length) : (a.take i ++ b.drop i)[i]? = b[i]? := by
  by_cases hi : i < a.length
  · rw [List.getElem?_append_right (by simp; omega)]
    simp [Nat.min_eq_left (Nat.le_of_lt hi)]
  · rw [List.getElem?_eq_none (by simp; omega), List.getElem?_eq_none (by omega)]
theorem mix_len {α : Type} {a b : List α} {i : Nat} (hl : a.length = b.length) : (a.take i ++ b.drop i).length = b.length := by simp; omega

/-- The differences of two lists. -/
def subL (l m : List Int) : List Int := (List.range l.length).map fun i => getI l i - getI m i
theorem subL_len {l m : List Int} : (subL l m).length = l.length := by simp [subL]
theorem subL_at {l m : List Int} {i : Nat} {x y : Int} (hx : l[i]? = some x) (hy : m[i]? = some y) : (subL l m)[i]? = some (x - y) := by
  have hi := len_of hx
  unfold subL
  rw [List.getElem?_map, List.getElem?_range hi]
  simp [getI_is hx, getI_is hy]
theorem hv_at {M : List (List Bool)} {ws : List Int} {n b : Nat} (hb : b < n) : (heaviest M ws n)[b]? = some (HB M ws n b) := by simp [heaviest, hb]

section
variable {M : List (List Bool)} {ms : List Nat} {ws : List Int} {n : Nat} {rk : Nat → Nat}

theorem places_at (hs : Same n M ms) (hu : Up M n rk) (hl : ws.length = n) {b : Nat} (hb : b < n) : getI (places ms ws) b = HB M ws n b - getI ws b := by
  obtain ⟨-, h2⟩ := places_done (ws := ws) hs hu hl n (Nat.le_refl _)
  have hp : places ms ws = (List.range n).foldl (plN ms ws) (List.replicate n 0) := by unfold places; rw [hl]
  rw [hp, h2 b hb (ahead_n hb), HB_beg hu hb]; omega
theorem places_len (hs : Same n M ms) (hu : Up M n rk) (hl : ws.length = n) : (places ms ws).length = n := by
  have hp : places ms ws = (List.range n).foldl (plN ms ws) (List.replicate n 0) := by unfold places; rw [hl]
  rw [hp]
  exact (places_done (ws := ws) hs hu hl n (Nat.le_refl _)).1.1
theorem getI_ext {l m : List Int} (h : l.length = m.length) (k : ∀ i, i < l.length → getI l i = getI m i) : l = m := by
  apply List.ext_getElem?
  intro i
  by_cases hi : i < l.length
  · have := k i hi
    obtain ⟨x, hx, -⟩ := get_of hi
    obtain ⟨y, hy, -⟩ := get_of (show i < m.length by omega)
    rw [getI_is hx, getI_is hy] at this
    rw [hx, hy, this]
  · rw [List.getElem?_eq_none (by omega), List.getElem?_eq_none (by omega)]
theorem getI_map {f : Nat → Int} {i n : Nat} (h : i < n) : getI ((List.range n).map f) i = f i := by simp [getI, h]
theorem places_eq (hs : Same n M ms) (hu : Up M n rk) (hl : ws.length = n) : places ms ws = subL (heaviest M ws n) ws := by
  have hp := places_len (ws := ws) hs hu hl
  refine getI_ext (by rw [hp, subL_len, heaviest_len]) fun i hi => ?_
  rw [hp] at hi
  rw [places_at hs hu hl hi]
  unfold subL
  rw [heaviest_len, getI_map hi, getI_is (hv_at hi)]

/-- A relation the other way round. -/
def revM (n : Nat) (M : List (List Bool)) : List (List Bool) := (List.range n).map fun a => (List.range n).map fun b => getB M b a
theorem revM_sq : Sq n (revM n M) := ⟨by simp [revM], fun r hr => by obtain ⟨a, -, rfl⟩ := List.mem_map.1 hr; simp⟩
theorem revM_get {a b : Nat} (ha : a < n) (hb : b < n) : getB (revM n M) a b = getB M b a := by simp [getB, revM, ha, hb]
theorem revM_up (hu : Up M n rk) : Up (revM n M) n (fun b => 100 - rk b) := by
  refine ⟨revM_sq, fun a b ha hb h => ?_, fun b => by omega⟩
  rw [revM_get ha hb] at h
  have := hu.up b a hb ha h
  have := hu.le b
  have := hu.le a
  omega

def bhB (sets : List Nat) (needs : List Int) (a : Nat) (out : List Int) (b : Nat) : List Int :=
  if bitOf sets a b then out.set a (max (getI out a) (getI out b + getI needs b)) else out
def bhA (sets : List Nat) (needs : List Int) (out : List Int) (a : Nat) : List Int := (List.range needs.length).foldl (bhB sets needs a) out
def bhN (sets : List Nat) (needs : List Int) (out : List Int) (_ : Nat) : List Int := (List.range needs.length).foldl (bhA sets needs) out
def behind (sets : List Nat) (needs : List Int) : List Int := (List.range needs.length).foldl (bhN sets needs) (List.replicate needs.length 0)
theorem bhB_bnd {sets : List Nat} {needs out : List Int} {n : Nat} {M : Int} (hn : NeedOk needs) (hl : needs.length = n) (h : Bnd n M out) {a b : Nat} (ha : a < n) (hb : b < n) : Bnd n (M + 9) (bhB sets needs a out b) := by
  unfold bhB
  split
  · obtain ⟨x, hx, hx1⟩ := h.at_ ha
    obtain ⟨y, hy, hy1⟩ := h.at_ hb
    obtain ⟨z, hz, hzm⟩ := get_of (show b < needs.length by omega)
    have hz1 := hn z hzm
    rw [getI_is hx, getI_is hy, getI_is hz]
    exact (h.up (by omega)).set (by omega) (by omega)
  · exact h.up (by omega)
theorem bhA_to {sets : List Nat} {needs out : List Int} {n : Nat} {M : Int} (hn : NeedOk needs) (hl : needs.length = n) (h : Bnd n M out) {a : Nat} (ha : a < n) : ∀ b, b ≤ n → Bnd n (M + 9 * b) ((List.range b).foldl (bhB sets needs a) out)
  | 0, _ => by simpa using h
  | b + 1, hb => by
    rw [foldl_rg]
    exact (bhB_bnd hn hl (bhA_to hn hl h ha b (by omega)) ha (by omega)).up (by omega)
theorem bhN_to {sets : List Nat} {needs out : List Int} {n : Nat} {M : Int} (hn : NeedOk needs) (hl : needs.length = n) (h9 : n ≤ 9) (h : Bnd n M out) : ∀ a, a ≤ n → Bnd n (M + 81 * a) ((List.range a).foldl (bhA sets needs) out)
  | 0, _ => by simpa using h
  | a + 1, ha => by
    rw [foldl_rg]
    have := bhA_to (sets := sets) hn hl (bhN_to (sets := sets) hn hl h9 h a (by omega)) (show a < n by omega) n (Nat.le_refl _)
    generalize (List.range a).foldl (bhA sets needs) out = X at this ⊢
    unfold bhA
    rw [hl]
    refine Bnd.up this ?_
    omega
theorem behind_to {sets : List Nat} {needs : List Int} {n : Nat} (hn : NeedOk needs) (hl : needs.length = n) (h9 : n ≤ 9) : ∀ k, k ≤ n → Bnd n (729 * k) ((List.range k).foldl (bhN sets needs) (List.replicate n 0))
  | 0, _ => by simpa using Bnd.zero
  | k + 1, hk => by
    rw [foldl_rg]
    have := bhN_to (sets := sets) hn hl h9 (behind_to (sets := sets) hn hl h9 k (by omega)) n (Nat.le_refl _)
    generalize (List.range k).foldl (bhN sets needs) (List.replicate n 0) = X at this ⊢
    unfold bhN
    rw [hl]
    refine Bnd.up this ?_
    omega
theorem behind_bnd {sets : List Nat} {needs : List Int} {n : Nat} (hn : NeedOk needs) (hl : needs.length = n) (h9 : n ≤ 9) : Bnd n 6561 (behind sets needs) := by
  have := behind_to (sets := sets) hn hl h9 n (Nat.le_refl _)
  unfold behind
  rw [hl]
  exact this.up (by omega)

theorem bhB_step (hs : Same n M ms) (hu : Up (revM n M) n rk) {out : List Int} (h : Low (revM n M) ws n out) {a b : Nat} (ha : a < n) (hb : b < n) :
    Low (revM n M) ws n (bhB ms ws a out b) ∧ Ge n out (bhB ms ws a out b) ∧ (bitOf ms a b = true → getI out b + getI ws b ≤ getI (bhB ms ws a out b) a) := by
  unfold bhB
  cases hbit : bitOf ms a b with
  | false => exact ⟨h, Ge.refl _, fun h => by cases h⟩
  | true =>
    have hM : getB (revM n M) b a = true := by rw [revM_get hb ha, hs.2.2 a b ha hb]; exact hbit
    have hge := hvF_ge (M := revM n M) (g := HB (revM n M) ws n) (b := a) hb hM
    have h1 := h.2 a ha
    have h2 := h.2 b hb
    have h3 := HB_beg (ws := ws) hu hb
    rw [if_pos rfl]
    refine ⟨⟨by simp [h.1], fun y hy => ?_⟩, fun y hy => ?_, fun _ => ?_⟩
    · rw [getI_set (by rw [h.1]; exact ha)]
      split
      · rename_i e; subst e
        unfold beg at *
        omega
      · exact h.2 y hy
    · rw [getI_set (by rw [h.1]; exact ha)]
      split
      · rename_i e; subst e; omega
      · exact Int.le_refl _
    · rw [getI_set (by rw [h.1]; exact ha), if_pos rfl]; omega
theorem bhA_step (hs : Same n M ms) (hu : Up (revM n M) n rk) {out : List Int} (h : Low (revM n M) ws n out) {a : Nat} (ha : a < n) : ∀ i, i ≤ n →
    Low (revM n M) ws n ((List.range i).foldl (bhB ms ws a) out) ∧ Ge n out ((List.range i).foldl (bhB ms ws a) out) ∧ ∀ b, b < i → bitOf ms a b = true → getI out b + getI ws b ≤ getI ((List.range i).foldl (bhB ms ws a) out) a
  | 0, _ => ⟨h, Ge.refl _, fun b hb => by omega⟩
  | i + 1, hi => by
    obtain ⟨h1, h2, h3⟩ := bhA_step hs hu h ha i (by omega)
    rw [foldl_rg]
    generalize (List.range i).foldl (bhB ms ws a) out = X at h1 h2 h3 ⊢
    obtain ⟨k1, k2, k3⟩ := bhB_step hs hu h1 ha (show i < n by omega)
    refine ⟨k1, h2.trans k2, fun b hb hbit => ?_⟩
    have := k2 a ha
    by_cases e : b = i
    · subst e
      have := k3 hbit
      have := h2 b (by omega)
      omega
    · have := h3 b (by omega) hbit
      omega
theorem bhN_step (hs : Same n M ms) (hu : Up (revM n M) n rk) (hl : ws.length = n) {out : List Int} (h : Low (revM n M) ws n out) : ∀ i, i ≤ n →
    Low (revM n M) ws n ((List.range i).foldl (bhA ms ws) out) ∧ Ge n out ((List.range i).foldl (bhA ms ws) out) ∧ ∀ a b, a < i → b < n → bitOf ms a b = true → getI out b + getI ws b ≤ getI ((List.range i).foldl (bhA ms ws) out) a
  | 0, _ => ⟨h, Ge.refl _, fun a b ha => by omega⟩
  | i + 1, hi => by
    obtain ⟨h1, h2, h3⟩ := bhN_step hs hu hl h i (by omega)
    rw [foldl_rg]
    generalize (List.range i).foldl (bhA ms ws) out = X at h1 h2 h3 ⊢
    obtain ⟨k1, k2, k3⟩ := bhA_step hs hu h1 (show i < n by omega) n (Nat.le_refl _)
    have e : bhA ms ws X i = (List.range n).foldl (bhB ms ws i) X := by unfold bhA; rw [hl]
    rw [e]
    refine ⟨k1, h2.trans k2, fun a b ha hb hbit => ?_⟩
    by_cases e2 : a = i
    · subst e2
      have := k3 b hb hbit
      have := h2 b hb
      omega
    · have := h3 a b (by omega) hb hbit
      have := k2 a (by omega)
      omega
theorem behind_done (hs : Same n M ms) (hu : Up (revM n M) n rk) (hl : ws.length = n) : ∀ k, k ≤ n → Low (revM n M) ws n ((List.range k).foldl (bhN ms ws) (List.replicate n 0)) ∧
    ∀ b, b < n → ahead n rk b < k → getI ((List.range k).foldl (bhN ms ws) (List.replicate n 0)) b = beg (revM n M) ws n b
  | 0, _ => by
    refine ⟨⟨by simp, fun b hb => ?_⟩, fun b hb h => by omega⟩
    have : getI (List.replicate n 0) b = 0 := by simp [getI, hb]
    have h0 := hvF_pos (M := revM n M) (g := HB (revM n M) ws n) (b := b) n
    unfold beg
    simp only [List.range_zero, List.foldl_nil]
    omega
  | k + 1, hk => by
    obtain ⟨h1, h2⟩ := behind_done hs hu hl k (by omega)
    rw [foldl_rg]
    generalize (List.range k).foldl (bhN ms ws) (List.replicate n 0) = X at h1 h2 ⊢
    have e : bhN ms ws X k = (List.range n).foldl (bhA ms ws) X := by unfold bhN; rw [hl]
    rw [e]
    obtain ⟨k1, k2, k3⟩ := bhN_step hs hu hl h1 n (Nat.le_refl _)
    refine ⟨k1, fun b hb hc => ?_⟩
    have hlo := k1.2 b hb
    have : beg (revM n M) ws n b ≤ getI ((List.range n).foldl (bhA ms ws) X) b := by
      unfold beg
      refine hvF_le hlo.1 fun a ha hab => ?_
      have hrk := hu.up a b ha hb hab
      have hca := ahead_lt ha hrk
      have h4 := h2 a ha (by omega)
      have h5 := k3 b a hb ha (by rw [← hs.2.2 b a hb ha, ← revM_get ha hb]; exact hab)
      rw [h4, ← HB_beg hu ha] at h5
      exact h5
    omega
theorem behind_at (hs : Same n M ms) (hu : Up (revM n M) n rk) (hl : ws.length = n) {b : Nat} (hb : b < n) : getI (behind ms ws) b = HB (revM n M) ws n b - getI ws b := by
  obtain ⟨-, h2⟩ := behind_done (ws := ws) hs hu hl n (Nat.le_refl _)
  have hp : behind ms ws = (List.range n).foldl (bhN ms ws) (List.replicate n 0) := by unfold behind; rw [hl]
  rw [hp, h2 b hb (ahead_n hb), HB_beg hu hb]; omega

/-- How far rooms may be moved, by the program. -/
def slackF (M : List (List Bool)) (ws : List Int) (n i : Nat) : Int := maxL (heaviest M ws n) - HB (revM n M) ws n i - (HB M ws n i - getI ws i)
def slackI (M : List (List Bool)) (ws : List Int) (n : Nat) : List Int := (List.range n).map (slackF M ws n)
/-- How far rooms may be moved, by the specification. -/
def slackG (ms : List Nat) (ws : List Int) (a : Nat) : Int := least ms ws - getI (behind ms ws) a - getI ws a - getI (places ms ws) a
def slackS (ms : List Nat) (ws : List Int) : List Int := (List.range ws.length).map (slackG ms ws)
theorem slack_eq (hs : Same n M ms) (hu : Up M n rk) (hl : ws.length = n) (hn : 1 ≤ n) (hw : NeedOk ws) : slackS ms ws = slackI M ws n := by
  unfold slackS slackI
  rw [hl]
  refine List.map_congr_left fun a ha => ?_
  have ha2 : a < n := by simpa using ha
  unfold slackG slackF
  rw [least_heaviest hs hu hl hn hw, behind_at hs (revM_up hu) hl ha2, places_at hs hu hl ha2]
  omega
end
/-- A plan's relation of rooms to the left: all that the sizes want. -/
theorem plan_same {p : List Txt} {ws : List Int} (h : needV p [ws] = true) : Same (rP p).length (leftG (gP p) p.length (w0 (readG p)) (rP p).length) (allS p 0) ∧ Same (rP p).length (aboveG (gP p) p.length (w0 (readG p)) (rP p).length) (allS p 1) ∧
    Up (leftG (gP p) p.length (w0 (readG p)) (rP p).length) (rP p).length (rkL p) ∧ Up (aboveG (gP p) p.length (w0 (readG p)) (rP p).length) (rP p).length (rkA p) ∧ ws.length = (rP p).length ∧ 1 ≤ (rP p).length ∧ NeedOk ws := by
  obtain ⟨h1, h2, h3⟩ := needV_one h
  have hok : okB p = true := by
    have h9 := h1
    unfold plainI floorI at h9
    simp only [Bool.and_eq_true] at h9
    exact h9.1.1
  have hn1 := okB_rooms1 hok
  rw [plainI_plain] at h1
  have hp := plain_plan h1
  have hN := plan_named hp
  obtain ⟨u0, u1⟩ := plan_up hp
  have hr := hN.rooms
  obtain ⟨s0, s1⟩ := same_all hN.hg (n := (rP p).length) (by omega) (fun i j hi hj => hN.cell hi hj) gP_room
  rw [w0_read]
  exact ⟨s0, s1, u0, u1, h2, hn1, h3⟩
end Fw
end Go.Proofs.Ytmhcknpjgikgmaa

/-! Marks, gone through. -/
namespace Go.Proofs.Ytmhcknpjgikgmaa
namespace Fw
open Go

def mkL : Nat → Nat → Txt → Txt
  | 0, _, s => s
  | f + 1, k, s => if k = 0 then s else mkL f (k / 10) (UInt8.ofNat (48 + k % 10) :: s)
/-- The text that marks a place. -/
def markT (k : Int) : Txt := if k ≤ 0 then [109, 48] else 109 :: mkL 41 k.toNat []
theorem mkL_zero : ∀ {f : Nat} {s : Txt}, mkL f 0 s = s
  | 0, _ => rfl
  | _ + 1, _ => by simp [mkL]
theorem mkL_succ {f k : Nat} {s : Txt} (h : 0 < k) : mkL (f + 1) k s = mkL f (k / 10) (UInt8.ofNat (48 + k % 10) :: s) := by rw [mkL, if_neg (by omega)]
theorem ten0 : ((10 : Int) = 0) = False := by simp
theorem tmod_nat {k : Nat} : ((k : Int)).tmod 10 = ((k % 10 : Nat) : Int) := (Int.ofNat_tmod k 10).symm
theorem tdiv_nat {k : Nat} : ((k : Int)).tdiv 10 = ((k / 10 : Nat) : Int) := (Int.ofNat_tdiv k 10).symm
theorem dig_add {k : Nat} : (48 : Int) + ((k % 10 : Nat) : Int) = ((48 + k % 10 : Nat) : Int) := by omega
theorem bytes_one {b : UInt8} : bytesOf [PV.int .u8 (b.toNat : Int)] = some [b] := by simp [bytesOf]

theorem markText_pc {k0 : Int} (h0 : -1 ≤ k0) (h1 : k0 ≤ 1099511627776) : PC Try.prog 56 [.int .i64 k0] (.str (markT k0)) true := by
  refine PC.of ⟨Try.func56, by kernel_rfl, rfl, by kernel_rfl⟩ tabOk mixed (by show 1 ≤ Try.f56.ntmps; decide) ?_
  refine W.seq_region fun K hK => ?_
  simp (disch := omega) only [↓RU, RV, RH, ↓reduceIte, Nat.reduceEqDiff, reduceCtorEq, if_pos, ↓RS, RG, Nat.reduceAdd, Nat.reduceMul, Nat.reduceLeDiff]
  refine hK _ _ ?_
  clear hK K
  refine W.seq ?_
  refine W.seq_region fun K hK => ?_
  simp (disch := omega) only [↓RU, RV, RH, ↓reduceIte, Nat.reduceEqDiff, reduceCtorEq, if_pos, w64, ↓RS, RG, Nat.reduceAdd, Nat.reduceMul, Nat.reduceLeDiff, tyint]
  refine hK _ _ ?_
  clear hK K
  refine W.cond rfl (fun h => ?_) (fun h => ?_)
  · try simp only [RL] at h
    refine W.seq_region fun K hK => ?_
    simp (disch := omega) only [↓RU, RV, RH, ↓reduceIte, Nat.reduceEqDiff, reduceCtorEq, if_pos, ↓RS, RG, Nat.reduceAdd, Nat.reduceMul, Nat.reduceLeDiff]
    refine hK _ _ ?_
    clear hK K
    refine W.ret ?_
    refine XThen.ret ?_
    refine BodyQ.ret rfl ?_
    rw [markT, if_pos (by omega)]
    rfl
  · try simp only [RL] at h
    obtain ⟨k1, rfl⟩ : ∃ k1 : Nat, k0 = k1 := ⟨k0.toNat, by omega⟩
    refine W.skip ?_
    refine XThen.norm ?_
    refine W.seq_region fun K hK => ?_
    simp (disch := omega) only [↓RU, RV, RH, ↓reduceIte, Nat.reduceEqDiff, reduceCtorEq, if_pos, ↓RS, RG, Nat.reduceAdd, Nat.reduceMul, Nat.reduceLeDiff]
    refine hK _ _ ?_
    clear hK K
    refine W.seq ?_
    refine W.block ?_
    refine W.loop [0, 3] (fun n vs S => ∃ j k tk : Nat, ∃ s : Txt, n = 41 - j ∧ j ≤ 41 ∧ k < 2 ^ (41 - j) ∧ k ≤ 1099511627776 ∧ s.length = j ∧ mkL (41 - j) k s = mkL 41 k1 [] ∧ vs = [.int .i64 (k : Nat), .str s] ∧ S = ⟨[], tk⟩) 41 ?_ ?_
    · refine ⟨0, 0, k1, 0, [], rfl, by omega, by omega, by omega, rfl, rfl, ?_, rfl⟩
      simp [Env.put, Env.of, argEnv]
    rintro n vs S - ⟨j, k, tk, s, rfl, h_j, hkf, hkl, hsf, hmk, rfl, rfl⟩
    refine W.seq ?_
    refine W.seq_region fun K hK => ?_
    simp (disch := omega) only [↓RU, RV, RH, ↓reduceIte, Nat.reduceEqDiff, reduceCtorEq, if_pos, w64, ↓RS, RG, Nat.reduceAdd, Nat.reduceMul, Nat.reduceLeDiff, tyint]
    refine hK _ _ ?_
    clear hK K
    refine W.cond rfl (fun h2 => ?_) (fun h2 => ?_)
    · try simp only [RL] at h2
      have hj1 : j ≠ 41 := by rintro rfl; simp at hkf; omega
      obtain ⟨f, hf⟩ : ∃ f, 41 - j = f + 1 := ⟨40 - j, by omega⟩
      rw [hf] at hkf hmk
      rw [Nat.pow_succ] at hkf
      rw [mkL_succ (by omega)] at hmk
      refine W.skip ?_
      refine XThen.norm ?_
      refine W.block ?_
      refine W.seq_region fun K hK => ?_
      simp (disch := omega) only [↓RU, RV, RH, ↓reduceIte, Nat.reduceEqDiff, reduceCtorEq, if_pos, w64, w64, ↓RS, RG, Nat.reduceAdd, Nat.reduceMul, Nat.reduceLeDiff, tyLuint8, tyint, tystring, tyuint8, pStr, ten0, tmod_nat, dig_add, u8_of, bytes_one, cells_int, Option.map_some, List.length_cons, List.length_nil]
      refine hK _ _ ?_
      clear hK K
      refine W.region_k fun K hK => ?_
      simp (disch := omega) only [↓RU, RV, RH, ↓reduceIte, Nat.reduceEqDiff, reduceCtorEq, if_pos, w64, ↓RS, RG, Nat.reduceAdd, Nat.reduceMul, Nat.reduceLeDiff, tyint, ten0, tdiv_nat]
      refine hK _ _ ?_
      clear hK K
      refine XBlock.norm ?_
      refine XThen.norm ?_
      refine ⟨41 - (j + 1), by omega, 0, j + 1, k / 10, _, _, rfl, by omega, by rw [show 41 - (j + 1) = f by omega]; omega, by omega, ?_, by rw [show 41 - (j + 1) = f by omega]; exact hmk, ?_, rfl⟩
      · simp [hsf]
      · simp [Env.put, Env.of]
    · try simp only [RL] at h2
      obtain rfl : k = 0 := by omega
      rw [mkL_zero] at hmk
      refine W.exit ?_
      refine XThen.exit ?_
      refine XThen.exit ?_
      refine XBlock.hit ?_
      refine XThen.norm ?_
      refine W.seq_region fun K hK => ?_
      simp (disch := omega) only [↓RU, RV, RH, ↓reduceIte, Nat.reduceEqDiff, reduceCtorEq, if_pos, w64, ↓RS, RG, Nat.reduceAdd, Nat.reduceMul, Nat.reduceLeDiff, tystring, pStr]
      refine hK _ _ ?_
      clear hK K
      refine W.ret ?_
      refine BodyQ.ret rfl ?_
      rw [markT, if_neg (by omega), Int.toNat_natCast, ← hmk]
      rfl

theorem markStringS_ev {F R : List Ob} {ver t : Nat} {l : List Txt} (hl : l.length ≤ 1048576) {k0 : Int} (hk0 : 0 ≤ k0) (hk1 : k0 ≤ 4294967296) : Ev Try.prog 25 [.loc F.length ver 0 l.length, .int .i64 k0] ⟨F ++ .arr ver 9 1 (l.map .str) :: R, t⟩ fun v S => v = .int .i64 (k0 + l.length) ∧ ∃ ts : List Txt, ts.length = l.length ∧ S = ⟨F ++ .arr ver 9 1 (ts.map .str) :: R, t⟩ := by
  refine Ev.of ⟨Try.func25, by kernel_rfl, rfl, by kernel_rfl⟩ tabOk mixed (by show 2 ≤ Try.f25.ntmps; decide) ?_
  refine W.seq_region fun K hK => ?_
  simp (disch := omega) only [↓RU, RV, RH, ↓reduceIte, Nat.reduceEqDiff, reduceCtorEq, if_pos, ↓RS, RG, Nat.reduceAdd, Nat.reduceMul, Nat.reduceLeDiff, gF, setF]
  refine hK _ _ ?_
  clear hK K
  refine W.seq ?_
  refine W.seq_region fun K hK => ?_
  simp (disch := omega) only [↓RU, RV, RH, ↓reduceIte, Nat.reduceEqDiff, reduceCtorEq, if_pos, ↓RS, RG, Nat.reduceAdd, Nat.reduceMul, Nat.reduceLeDiff, gF, setF]
  refine hK _ _ ?_
  clear hK K
  refine W.block ?_
  refine W.loop [0, 1, 5] (fun n vs S => ∃ (i : Nat) (ts : List Txt), n = l.length - i ∧ i ≤ l.length ∧ ts.length = l.length ∧ vs = [.loc F.length ver 0 l.length, .int .i64 (k0 + i), .int .i64 i] ∧ S = ⟨F ++ .arr ver 9 1 (ts.map .str) :: R, t⟩) l.length ?_ ?_
  · refine ⟨_, 0, l, rfl, by omega, rfl, ?_, take_all⟩
    simp [Env.put, Env.of, argEnv]
  rintro n vs S - ⟨i, ts, rfl, h_i, hts, rfl, rfl⟩
  refine W.seq ?_
  refine W.seq_region fun K hK => ?_
  simp (disch := omega) only [↓RU, RV, RH, ↓reduceIte, Nat.reduceEqDiff, reduceCtorEq, if_pos, w64, ↓RS, RG, Nat.reduceAdd, Nat.reduceMul, Nat.reduceLeDiff, tyLstring, tyint, tystring, gF, setF]
  refine hK _ _ ?_
  clear hK K
  refine W.cond rfl (fun h => ?_) (fun h => ?_)
  · try simp only [RL] at h
    refine W.skip ?_
    refine XThen.norm ?_
    refine W.seq ?_
    refine W.block ?_
    refine W.seq_region fun K hK => ?_
    simp (disch := omega) only [↓RU, RV, RH, ↓reduceIte, Nat.reduceEqDiff, reduceCtorEq, if_pos, List.append_nil, ↓RS, RG, Nat.reduceAdd, Nat.reduceMul, Nat.reduceLeDiff, tyLstring, tystring, gF, setF, hts, set_spl, set_str]
    refine CallR.pc (markText_pc (k0 := k0 + i) (by omega) (by omega)) rfl (.inl rfl) ?_
    simp (disch := omega) only [↓RU, RV, RH, ↓reduceIte, Nat.reduceEqDiff, reduceCtorEq, if_pos, List.append_nil, ↓RS, RG, Nat.reduceAdd, Nat.reduceMul, Nat.reduceLeDiff, tyLstring, tystring, gF, setF, hts, set_spl, set_str]
    refine hK _ _ ?_
    clear hK K
    refine W.region_k fun K hK => ?_
    simp (disch := omega) only [↓RU, RV, RH, ↓reduceIte, Nat.reduceEqDiff, reduceCtorEq, if_pos, w64, ↓RS, RG, Nat.reduceAdd, Nat.reduceMul, Nat.reduceLeDiff, tyint, gF, setF]
    refine hK _ _ ?_
    clear hK K
    refine XBlock.norm ?_
    refine XThen.norm ?_
    refine W.region_k fun K hK => ?_
    simp (disch := omega) only [↓RU, RV, RH, ↓reduceIte, Nat.reduceEqDiff, reduceCtorEq, if_pos, w64, ↓RS, RG, Nat.reduceAdd, Nat.reduceMul, Nat.reduceLeDiff, tyint, gF, setF]
    refine hK _ _ ?_
    clear hK K
    refine XThen.norm ?_
    refine ⟨l.length - (i + 1), by omega, _, i + 1, ts.set i (markT (k0 + i)), rfl, by omega, by simpa using hts, ?_, take_all⟩
    simp [Env.put, Env.of, Int.add_assoc]
  · try simp only [RL] at h
    obtain rfl : i = l.length := by omega
    refine W.exit ?_
    refine XThen.exit ?_
    refine XThen.exit ?_
    refine XBlock.hit ?_
    refine XThen.norm ?_
    refine W.seq_region fun K hK => ?_
    simp (disch := omega) only [↓RU, RV, RH, ↓reduceIte, Nat.reduceEqDiff, reduceCtorEq, if_pos, ↓RS, RG, Nat.reduceAdd, Nat.reduceMul, Nat.reduceLeDiff, gF, setF]
    refine hK _ _ ?_
    clear hK K
    refine W.ret ?_
    refine BodyQ.ret rfl ?_
    exact ⟨_, rfl, ts, hts, take_all⟩

theorem held_succ {ts : List Int} {k0 : Int} {i : Nat} (h : ∀ j : Nat, j < i → ts[j]? = some (k0 + j)) (hi : i < ts.length) : ∀ j : Nat, j < i + 1 → (ts.set i (k0 + i))[j]? = some (k0 + j) := by
  intro j hj
  rw [List.getElem?_set]
  by_cases e : i = j
  · subst e; rw [if_pos rfl, if_pos hi]
  · rw [if_neg e]; exact h j (by omega)

theorem markIntS_ev {F R : List Ob} {ver t : Nat} {l : List Int} (hl : l.length ≤ 1048576) {k0 : Int} (hk0 : 0 ≤ k0) (hk1 : k0 ≤ 4294967296) : Ev Try.prog 26 [.loc F.length ver 0 l.length, .int .i64 k0] ⟨F ++ .arr ver 3 1 (l.map (.int .i64)) :: R, t⟩ fun v S => v = .int .i64 (k0 + l.length) ∧ ∃ ts : List Int, ts.length = l.length ∧ (∀ j : Nat, j < l.length → ts[j]? = some (k0 + j)) ∧ S = ⟨F ++ .arr ver 3 1 (ts.map (.int .i64)) :: R, t⟩ := by
  refine Ev.of ⟨Try.func26, by kernel_rfl, rfl, by kernel_rfl⟩ tabOk mixed (by show 2 ≤ Try.f26.ntmps; decide) ?_
  refine W.seq_region fun K hK => ?_
  simp (disch := omega) only [↓RU, RV, RH, ↓reduceIte, Nat.reduceEqDiff, reduceCtorEq, if_pos, ↓RS, RG, Nat.reduceAdd, Nat.reduceMul, Nat.reduceLeDiff, gF, setF]
  refine hK _ _ ?_
  clear hK K
  refine W.seq ?_
  refine W.seq_region fun K hK => ?_
  simp (disch := omega) only [↓RU, RV, RH, ↓reduceIte, Nat.reduceEqDiff, reduceCtorEq, if_pos, ↓RS, RG, Nat.reduceAdd, Nat.reduceMul, Nat.reduceLeDiff, gF, setF]
  refine hK _ _ ?_
  clear hK K
  refine W.block ?_
  refine W.loop [0, 1, 5] (fun n vs S => ∃ (i : Nat) (ts : List Int), n = l.length - i ∧ i ≤ l.length ∧ ts.length = l.length ∧ (∀ j : Nat, j < i → ts[j]? = some (k0 + j)) ∧ vs = [.loc F.length ver 0 l.length, .int .i64 (k0 + i), .int .i64 i] ∧ S = ⟨F ++ .arr ver 3 1 (ts.map (.int .i64)) :: R, t⟩) l.length ?_ ?_
  · refine ⟨_, 0, l, rfl, by omega, rfl, fun j h => absurd h (by omega), ?_, take_all⟩
    simp [Env.put, Env.of, argEnv]
  rintro n vs S - ⟨i, ts, rfl, h_i, hts, hd, rfl, rfl⟩
  refine W.seq ?_
  refine W.seq_region fun K hK => ?_
  simp (disch := omega) only [↓RU, RV, RH, ↓reduceIte, Nat.reduceEqDiff, reduceCtorEq, if_pos, w64, ↓RS, RG, Nat.reduceAdd, Nat.reduceMul, Nat.reduceLeDiff, tyLint, tyint, gF, setF]
  refine hK _ _ ?_
  clear hK K
  refine W.cond rfl (fun h => ?_) (fun h => ?_)
  · try simp only [RL] at h
    refine W.skip ?_
    refine XThen.norm ?_
    refine W.seq ?_
    refine W.block ?_
    refine W.seq_region fun K hK => ?_
    simp (disch := omega) only [↓RU, RV, RH, ↓reduceIte, Nat.reduceEqDiff, reduceCtorEq, if_pos, ↓RS, RG, Nat.reduceAdd, Nat.reduceMul, Nat.reduceLeDiff, tyLint, tyint, gF, setF, hts, set_spl, set_int]
    refine hK _ _ ?_
    clear hK K
    refine W.region_k fun K hK => ?_
    simp (disch := omega) only [↓RU, RV, RH, ↓reduceIte, Nat.reduceEqDiff, reduceCtorEq, if_pos, w64, ↓RS, RG, Nat.reduceAdd, Nat.reduceMul, Nat.reduceLeDiff, tyint, gF, setF]
    refine hK _ _ ?_
    clear hK K
    refine XBlock.norm ?_
    refine XThen.norm ?_
    refine W.region_k fun K hK => ?_
    simp (disch := omega) only [↓RU, RV, RH, ↓reduceIte, Nat.reduceEqDiff, reduceCtorEq, if_pos, w64, ↓RS, RG, Nat.reduceAdd, Nat.reduceMul, Nat.reduceLeDiff, tyint, gF, setF]
    refine hK _ _ ?_
    clear hK K
    refine XThen.norm ?_
    refine ⟨l.length - (i + 1), by omega, _, i + 1, ts.set i (k0 + i), rfl, by omega, by simpa using hts, held_succ hd (by omega), ?_, take_all⟩
    simp [Env.put, Env.of, Int.add_assoc]
  · try simp only [RL] at h
    obtain rfl : i = l.length := by omega
    refine W.exit ?_
    refine XThen.exit ?_
    refine XThen.exit ?_
    refine XBlock.hit ?_
    refine XThen.norm ?_
    refine W.seq_region fun K hK => ?_
    simp (disch := omega) only [↓RU, RV, RH, ↓reduceIte, Nat.reduceEqDiff, reduceCtorEq, if_pos, ↓RS, RG, Nat.reduceAdd, Nat.reduceMul, Nat.reduceLeDiff, gF, setF]
    refine hK _ _ ?_
    clear hK K
    refine W.ret ?_
    refine BodyQ.ret rfl ?_
    exact ⟨_, rfl, ts, hts, hd, take_all⟩

theorem heldIntS_pc {l : List Int} (hl : l.length ≤ 1048576) {k0 : Int} (hk0 : 0 ≤ k0) (hk1 : k0 ≤ 4294967296) (hd : ∀ j : Nat, j < l.length → l[j]? = some (k0 + j)) : PC Try.prog 27 [eInts l, .int .i64 k0] (.int .i64 (k0 + l.length)) true := by
  refine PC.of ⟨Try.func27, by kernel_rfl, rfl, by kernel_rfl⟩ tabOk mixed (by show 2 ≤ Try.f27.ntmps; decide) ?_
  refine W.seq_region fun K hK => ?_
  simp (disch := omega) only [↓RU, RV, RH, ↓reduceIte, Nat.reduceEqDiff, reduceCtorEq, if_pos]
  refine hK _ _ ?_
  clear hK K
  refine W.seq ?_
  refine W.seq_region fun K hK => ?_
  simp (disch := omega) only [↓RU, RV, RH, ↓reduceIte, Nat.reduceEqDiff, reduceCtorEq, if_pos]
  refine hK _ _ ?_
  clear hK K
  refine W.block ?_
  refine W.loop [0, 1, 5] (fun n vs S => ∃ i : Nat, n = l.length - i ∧ i ≤ l.length ∧ vs = [eInts l, .int .i64 (k0 + i), .int .i64 i] ∧ S = ⟨[], 0⟩) (l.length) ?_ ?_
  · refine ⟨0, 0, rfl, Nat.zero_le _, ?_, rfl⟩
    simp [Env.put, Env.of, argEnv]
  rintro n vs S - ⟨i, rfl, h_i, rfl, rfl⟩
  refine W.seq ?_
  refine W.seq_region fun K hK => ?_
  simp (disch := omega) only [↓RU, RV, RH, ↓reduceIte, Nat.reduceEqDiff, reduceCtorEq, if_pos, w64, tyLint, tyint]
  refine hK _ _ ?_
  clear hK K
  refine W.cond rfl (fun h => ?_) (fun h => ?_)
  · try simp only [RL] at h
    have hx := hd i (by omega)
    refine W.skip ?_
    refine XThen.norm ?_
    refine W.seq ?_
    refine W.block ?_
    refine W.seq ?_
    refine W.seq_region fun K hK => ?_
    have hne : ((k0 + (i : Int)) != (k0 + (i : Int))) = false := by simp
    simp (disch := omega) only [↓RU, RV, RH, ↓reduceIte, Nat.reduceEqDiff, reduceCtorEq, if_pos, w64, tyLint, tyint, hx]
    refine hK _ _ ?_
    clear hK K
    refine W.cond rfl (fun h1 => ?_) (fun h1 => ?_)
    · try simp only [RL] at h1
      exact absurd h1 (by simp)
    · try simp only [RL] at h1
      refine W.skip ?_
      refine XThen.norm ?_
      refine W.region_k fun K hK => ?_
      simp (disch := omega) only [↓RU, RV, RH, ↓reduceIte, Nat.reduceEqDiff, reduceCtorEq, if_pos, w64, tyint]
      refine hK _ _ ?_
      clear hK K
      refine XBlock.norm ?_
      refine XThen.norm ?_
      refine W.region_k fun K hK => ?_
      simp (disch := omega) only [↓RU, RV, RH, ↓reduceIte, Nat.reduceEqDiff, reduceCtorEq, if_pos, w64, tyint]
      refine hK _ _ ?_
      clear hK K
      refine XThen.norm ?_
      refine ⟨l.length - (i + 1), by omega, 0, i + 1, rfl, by omega, ?_, rfl⟩
      simp [Env.put, Env.of, Int.add_assoc]
  · try simp only [RL] at h
    obtain rfl : i = l.length := by omega
    refine W.exit ?_
    refine XThen.exit ?_
    refine XThen.exit ?_
    refine XBlock.hit ?_
    refine XThen.norm ?_
    refine W.seq_region fun K hK => ?_
    simp (disch := omega) only [↓RU, RV, RH, ↓reduceIte, Nat.reduceEqDiff, reduceCtorEq, if_pos]
    refine hK _ _ ?_
    clear hK K
    refine W.ret ?_
    refine BodyQ.ret rfl ?_
    rfl

theorem markIntS0_pc (k0 : Int) : PC Try.prog 26 [eInts [], .int .i64 k0] (.int .i64 k0) true := by
  refine PC.of ⟨Try.func26, by kernel_rfl, rfl, by kernel_rfl⟩ tabOk mixed (by show 2 ≤ Try.f26.ntmps; decide) ?_
  refine W.seq_region fun K hK => ?_
  simp (disch := omega) only [↓RU, RV, RH, ↓reduceIte, Nat.reduceEqDiff, reduceCtorEq, if_pos, ↓RS, RG, Nat.reduceAdd, Nat.reduceMul, Nat.reduceLeDiff]
  refine hK _ _ ?_
  clear hK K
  refine W.seq ?_
  refine W.seq_region fun K hK => ?_
  simp (disch := omega) only [↓RU, RV, RH, ↓reduceIte, Nat.reduceEqDiff, reduceCtorEq, if_pos, ↓RS, RG, Nat.reduceAdd, Nat.reduceMul, Nat.reduceLeDiff]
  refine hK _ _ ?_
  clear hK K
  refine W.block ?_
  refine W.loop [0, 1, 5] (fun n vs S => n = 0 ∧ vs = [eInts [], .int .i64 k0, .int .i64 0] ∧ S = ⟨[], 0⟩) 0 ?_ ?_
  · refine ⟨0, rfl, ?_, rfl⟩
    simp [Env.put, Env.of, argEnv]
  rintro n vs S - ⟨rfl, rfl, rfl⟩
  refine W.seq ?_
  refine W.seq_region fun K hK => ?_
  simp (disch := omega) only [↓RU, RV, RH, ↓reduceIte, Nat.reduceEqDiff, reduceCtorEq, if_pos, w64, ↓RS, RG, Nat.reduceAdd, Nat.reduceMul, Nat.reduceLeDiff, tyLint, tyint]
  refine hK _ _ ?_
  clear hK K
  refine W.cond rfl (fun h => ?_) (fun h => ?_)
  · try simp only [RL] at h
    exact absurd h (by simp)
  · try simp only [RL] at h
    refine W.exit ?_
    refine XThen.exit ?_
    refine XThen.exit ?_
    refine XBlock.hit ?_
    refine XThen.norm ?_
    refine W.seq_region fun K hK => ?_
    simp (disch := omega) only [↓RU, RV, RH, ↓reduceIte, Nat.reduceEqDiff, reduceCtorEq, if_pos, ↓RS, RG, Nat.reduceAdd, Nat.reduceMul, Nat.reduceLeDiff]
    refine hK _ _ ?_
    clear hK K
    refine W.ret ?_
    refine BodyQ.ret rfl ?_
    rfl

end Fw
end Go.Proofs.Ytmhcknpjgikgmaa

/-! Places and slack by the specification, gone through. -/
namespace Go.Proofs.Ytmhcknpjgikgmaa
namespace Fw
open Go

theorem l7Places_pc {p : List Txt} (hs : Sm p) (hg : gridB p = true) (h9 : l1Rooms p ≤ 9) {needs : List Int} (hn : needs.length = (l1Rooms p).toNat) (hok : NeedOk needs) (kind : Int) : PC Try.prog 52 [eStrs p, eInts needs, .int .i64 kind] (eInts (places (allS p kind) needs)) true := by
  have hl : (places (allS p kind) needs).length = needs.length := (places_bnd (sets := allS p kind) hok rfl (by omega)).1
  refine PN.pc (l7Places_pn hs hg h9 hn hok kind) rfl ?_
  simp only [List.map_cons, List.map_nil, upOb_arr, up_loc, up_ints, Nat.add_zero]
  rw [← hl]
  exact reify_loc rfl (by simp) (mapM_int _)
def placesV (p : List Txt) (needs : List Int) : List Int := if needsB p needs then places (allS p 0) needs else []
def slackV (p : List Txt) (needs : List Int) : List Int := if needsB p needs then slackS (allS p 0) needs else []
theorem slackG_at {ms : List Nat} {ws bh pl : List Int} {a : Nat} {x y z : Int} (hb : behind ms ws = bh) (hp : places ms ws = pl) (hx : ws[a]? = some x) (hy : bh[a]? = some y) (hz : pl[a]? = some z) : slackG ms ws a = least ms ws - y - x - z := by
  unfold slackG; rw [hb, hp, getI_is hx, getI_is hy, getI_is hz]

theorem sSizePlaces_pc {p : List Txt} (hs : Sm p) {needs : List Int} (hw : needs.length ≤ 1048576) : PC Try.prog 19 [eStrs p, eInts needs] (.tup [eInts (placesV p needs), .bool (needsB p needs)]) false := by
  refine PC.of ⟨Try.func19, by kernel_rfl, rfl, by kernel_rfl⟩ tabOk mixed (by show 2 ≤ Try.f19.ntmps; decide) ?_
  refine W.seq_region fun K hK => ?_
  simp (disch := omega) only [↓RU, RV, RH, ↓reduceIte, Nat.reduceEqDiff, reduceCtorEq, if_pos, ↓RS, RG, Nat.reduceAdd, Nat.reduceMul, Nat.reduceLeDiff]
  refine hK _ _ ?_
  clear hK K
  refine W.seq ?_
  refine W.seq_region fun K hK => ?_
  simp (disch := omega) only [↓RU, RV, RH, ↓reduceIte, Nat.reduceEqDiff, reduceCtorEq, if_pos, List.append_nil, ↓RS, RG, Nat.reduceAdd, Nat.reduceMul, Nat.reduceLeDiff]
  refine CallR.pc (l7Needs_pc hs hw) rfl (.inl rfl) ?_
  simp (disch := omega) only [↓RU, RV, RH, ↓reduceIte, Nat.reduceEqDiff, reduceCtorEq, if_pos, List.append_nil, ↓RS, RG, Nat.reduceAdd, Nat.reduceMul, Nat.reduceLeDiff]
  refine hK _ _ ?_
  clear hK K
  refine W.cond rfl (fun h0 => ?_) (fun h0 => ?_)
  · try simp only [RL] at h0
    have hg : needsB p needs = false := by simpa using h0
    refine W.seq_region fun K hK => ?_
    simp (disch := omega) only [↓RU, RV, RH, ↓reduceIte, Nat.reduceEqDiff, reduceCtorEq, if_pos, ↓RS, RG, Nat.reduceAdd, Nat.reduceMul, Nat.reduceLeDiff, tyLint, tyint]
    refine hK _ _ ?_
    clear hK K
    refine W.ret ?_
    refine XThen.ret ?_
    refine BodyQ.ret rfl ?_
    rw [show placesV p needs = [] by simp [placesV, hg], hg]
    rfl
  · try simp only [RL] at h0
    have hg : needsB p needs = true := by simpa using h0
    obtain ⟨k1, k2, k3, k4, k5, k6⟩ := needsB_ok hg
    refine W.skip ?_
    refine XThen.norm ?_
    refine W.seq_region fun K hK => ?_
    simp (disch := omega) only [↓RU, RV, RH, ↓reduceIte, Nat.reduceEqDiff, reduceCtorEq, if_pos, List.append_nil, ↓RS, RG, Nat.reduceAdd, Nat.reduceMul, Nat.reduceLeDiff]
    refine CallR.pc (l7Places_pc hs k2 k3 k4 k6 0) rfl (.inl rfl) ?_
    simp (disch := omega) only [↓RU, RV, RH, ↓reduceIte, Nat.reduceEqDiff, reduceCtorEq, if_pos, List.append_nil, ↓RS, RG, Nat.reduceAdd, Nat.reduceMul, Nat.reduceLeDiff]
    refine hK _ _ ?_
    clear hK K
    refine W.ret ?_
    refine BodyQ.ret rfl ?_
    rw [show placesV p needs = places (allS p 0) needs by simp [placesV, hg], hg]
    rfl

theorem sSizeSlack_pc {p : List Txt} (hs : Sm p) {needs : List Int} (hw : needs.length ≤ 1048576) : PC Try.prog 34 [eStrs p, eInts needs] (.tup [eInts (slackV p needs), .bool (needsB p needs)]) false := by
  refine PC.of ⟨Try.func34, by kernel_rfl, rfl, by kernel_rfl⟩ tabOk mixed (by show 2 ≤ Try.f34.ntmps; decide) ?_
  refine W.seq_region fun K hK => ?_
  simp (disch := omega) only [↓RU, RV, RH, ↓reduceIte, Nat.reduceEqDiff, reduceCtorEq, if_pos, ↓RS, RG, Nat.reduceAdd, Nat.reduceMul, Nat.reduceLeDiff]
  refine hK _ _ ?_
  clear hK K
  refine W.seq_region fun K hK => ?_
  simp (disch := omega) only [↓RU, RV, RH, ↓reduceIte, Nat.reduceEqDiff, reduceCtorEq, if_pos, ↓RS, RG, Nat.reduceAdd, Nat.reduceMul, Nat.reduceLeDiff, tyLint, tyint]
  refine hK _ _ ?_
  clear hK K
  refine W.seq ?_
  refine W.seq_region fun K hK => ?_
  simp (disch := omega) only [↓RU, RV, RH, ↓reduceIte, Nat.reduceEqDiff, reduceCtorEq, if_pos, List.append_nil, ↓RS, RG, Nat.reduceAdd, Nat.reduceMul, Nat.reduceLeDiff]
  refine CallR.pc (l7Needs_pc hs hw) rfl (.inl rfl) ?_
  simp (disch := omega) only [↓RU, RV, RH, ↓reduceIte, Nat.reduceEqDiff, reduceCtorEq, if_pos, List.append_nil, ↓RS, RG, Nat.reduceAdd, Nat.reduceMul, Nat.reduceLeDiff]
  refine hK _ _ ?_
  clear hK K
  refine W.cond rfl (fun h0 => ?_) (fun h0 => ?_)
  · try simp only [RL] at h0
    have hg : needsB p needs = false := by simpa using h0
    refine W.seq_region fun K hK => ?_
    simp (disch := omega) only [↓RU, RV, RH, ↓reduceIte, Nat.reduceEqDiff, reduceCtorEq, if_pos, ↓RS, RG, Nat.reduceAdd, Nat.reduceMul, Nat.reduceLeDiff]
    refine hK _ _ ?_
    clear hK K
    refine W.ret ?_
    refine XThen.ret ?_
    refine BodyQ.ret rfl ?_
    rw [show slackV p needs = [] by simp [slackV, hg], hg]
    rfl
  · try simp only [RL] at h0
    have hg : needsB p needs = true := by simpa using h0
    obtain ⟨k1, k2, k3, k4, k5, k6⟩ := needsB_ok hg
    have hrb := l1Rooms_bound p
    have hms := allS_msk k2 k3 0
    rw [← k4] at hms
    obtain ⟨nr, hnr⟩ : ∃ nr : Nat, needs.length = nr := ⟨_, rfl⟩
    have hn9 : nr ≤ 9 := by omega
    rw [hnr] at hms
    have hml := hms.1
    have hlb := least_bnd (sets := (allS p 0)) k6 k5
    have hpb := places_bnd (sets := (allS p 0)) k6 hnr hn9
    refine W.skip ?_
    refine XThen.norm ?_
    refine W.seq_region fun K hK => ?_
    simp (disch := omega) only [↓RU, RV, RH, ↓reduceIte, Nat.reduceEqDiff, reduceCtorEq, if_pos, List.append_nil, ↓RS, RG, Nat.reduceAdd, Nat.reduceMul, Nat.reduceLeDiff]
    refine CallR.pc (l5All_pc hs k2 k3 0) rfl (.inl rfl) ?_
    simp (disch := omega) only [↓RU, RV, RH, ↓reduceIte, Nat.reduceEqDiff, reduceCtorEq, if_pos, List.append_nil, ↓RS, RG, Nat.reduceAdd, Nat.reduceMul, Nat.reduceLeDiff]
    refine hK _ _ ?_
    clear hK K
    refine W.seq_region fun K hK => ?_
    simp (disch := omega) only [↓RU, RV, RH, ↓reduceIte, Nat.reduceEqDiff, reduceCtorEq, if_pos, List.append_nil, ↓RS, RG, Nat.reduceAdd, Nat.reduceMul, Nat.reduceLeDiff]
    refine CallR.pc (l7Places_pc hs k2 k3 k4 k6 0) rfl (.inl rfl) ?_
    simp (disch := omega) only [↓RU, RV, RH, ↓reduceIte, Nat.reduceEqDiff, reduceCtorEq, if_pos, List.append_nil, ↓RS, RG, Nat.reduceAdd, Nat.reduceMul, Nat.reduceLeDiff]
    refine hK _ _ ?_
    clear hK K
    refine W.seq_region fun K hK => ?_
    simp (disch := omega) only [↓RU, RV, RH, ↓reduceIte, Nat.reduceEqDiff, reduceCtorEq, if_pos, List.append_nil, ↓RS, RG, Nat.reduceAdd, Nat.reduceMul, Nat.reduceLeDiff]
    refine CallR.pc (l7Least_pc hs k2 k3 k4 k6 0) rfl (.inl rfl) ?_
    simp (disch := omega) only [↓RU, RV, RH, ↓reduceIte, Nat.reduceEqDiff, reduceCtorEq, if_pos, List.append_nil, ↓RS, RG, Nat.reduceAdd, Nat.reduceMul, Nat.reduceLeDiff]
    refine hK _ _ ?_
    clear hK K
    refine W.seq_region fun K hK => ?_
    simp (disch := omega) only [↓RU, RV, RH, ↓reduceIte, Nat.reduceEqDiff, reduceCtorEq, if_pos, ↓RS, RG, Nat.reduceAdd, Nat.reduceMul, Nat.reduceLeDiff, tyLint, tyint, hnr, repz_int, ile_true]
    refine hK _ _ ?_
    clear hK K
    refine W.seq ?_
    refine W.seq_region fun K hK => ?_
    simp (disch := omega) only [↓RU, RV, RH, ↓reduceIte, Nat.reduceEqDiff, reduceCtorEq, if_pos, ↓RS, RG, Nat.reduceAdd, Nat.reduceMul, Nat.reduceLeDiff]
    refine hK _ _ ?_
    clear hK K
    refine W.block ?_
    refine W.loop [0, 1, 6, 7, 8, 9, 10, 11] (fun n vs S => ∃ k : Nat, n = nr - k ∧ k ≤ nr ∧ vs = [eStrs p, eInts needs, .loc 0 0 0 0, eNats (allS p 0), eInts (places (allS p 0) needs), .int .i64 (least (allS p 0) needs), .loc 1 1 0 nr, .int .i64 k] ∧ S = ⟨[.arr 0 3 1 [], .arr 1 3 1 (((List.range k).foldl (bhN (allS p 0) needs) (List.replicate nr 0)).map (.int .i64))], 2⟩) (nr) ?_ ?_
    · refine ⟨2, 0, rfl, Nat.zero_le _, ?_, by simp [take_eq]⟩
      simp [Env.put, Env.of, argEnv]
    rintro n vs S - ⟨k, rfl, h_k, rfl, rfl⟩
    refine W.seq ?_
    refine W.seq_region fun K hK => ?_
    simp (disch := omega) only [↓RU, RV, RH, ↓reduceIte, Nat.reduceEqDiff, reduceCtorEq, if_pos, w64, ↓RS, RG, Nat.reduceAdd, Nat.reduceMul, Nat.reduceLeDiff, tyLint, tyint]
    refine hK _ _ ?_
    clear hK K
    refine W.cond rfl (fun h => ?_) (fun h => ?_)
    · try simp only [RL] at h
      have hX := behind_to (sets := (allS p 0)) k6 hnr hn9 k (by omega)
      generalize hXe : (List.range k).foldl (bhN (allS p 0) needs) (List.replicate nr 0) = X at hX
      refine W.skip ?_
      refine XThen.norm ?_
      refine W.seq ?_
      refine W.block ?_
      refine W.seq_region fun K hK => ?_
      simp (disch := omega) only [↓RU, RV, RH, ↓reduceIte, Nat.reduceEqDiff, reduceCtorEq, if_pos, ↓RS, RG, Nat.reduceAdd, Nat.reduceMul, Nat.reduceLeDiff]
      refine hK _ _ ?_
      clear hK K
      refine W.block ?_
      refine W.loop [0, 1, 6, 7, 8, 9, 10, 11, 12] (fun n vs S => ∃ a : Nat, n = nr - a ∧ a ≤ nr ∧ vs = [eStrs p, eInts needs, .loc 0 0 0 0, eNats (allS p 0), eInts (places (allS p 0) needs), .int .i64 (least (allS p 0) needs), .loc 1 1 0 nr, .int .i64 k, .int .i64 a] ∧ S = ⟨[.arr 0 3 1 [], .arr 1 3 1 (((List.range a).foldl (bhA (allS p 0) needs) X).map (.int .i64))], 2⟩) (nr) ?_ ?_
      · refine ⟨2, 0, rfl, Nat.zero_le _, ?_, by simp [take_eq, hXe]⟩
        simp [Env.put, Env.of]
      rintro n vs S - ⟨a, rfl, h_a, rfl, rfl⟩
      refine W.seq ?_
      refine W.seq_region fun K hK => ?_
      simp (disch := omega) only [↓RU, RV, RH, ↓reduceIte, Nat.reduceEqDiff, reduceCtorEq, if_pos, w64, ↓RS, RG, Nat.reduceAdd, Nat.reduceMul, Nat.reduceLeDiff, tyLint, tyint]
      refine hK _ _ ?_
      clear hK K
      refine W.cond rfl (fun h1 => ?_) (fun h1 => ?_)
      · try simp only [RL] at h1
        have hY := bhN_to (sets := (allS p 0)) k6 hnr hn9 hX a (by omega)
        generalize hYe : (List.range a).foldl (bhA (allS p 0) needs) X = Y at hY
        refine W.skip ?_
        refine XThen.norm ?_
        refine W.seq ?_
        refine W.block ?_
        refine W.seq_region fun K hK => ?_
        simp (disch := omega) only [↓RU, RV, RH, ↓reduceIte, Nat.reduceEqDiff, reduceCtorEq, if_pos, ↓RS, RG, Nat.reduceAdd, Nat.reduceMul, Nat.reduceLeDiff]
        refine hK _ _ ?_
        clear hK K
        refine W.block ?_
        refine W.loop [0, 1, 6, 7, 8, 9, 10, 11, 12, 13] (fun n vs S => ∃ b : Nat, n = nr - b ∧ b ≤ nr ∧ vs = [eStrs p, eInts needs, .loc 0 0 0 0, eNats (allS p 0), eInts (places (allS p 0) needs), .int .i64 (least (allS p 0) needs), .loc 1 1 0 nr, .int .i64 k, .int .i64 a, .int .i64 b] ∧ S = ⟨[.arr 0 3 1 [], .arr 1 3 1 (((List.range b).foldl (bhB (allS p 0) needs a) Y).map (.int .i64))], 2⟩) (nr) ?_ ?_
        · refine ⟨2, 0, rfl, Nat.zero_le _, ?_, by simp [take_eq, hYe]⟩
          simp [Env.put, Env.of]
        rintro n vs S - ⟨b, rfl, h_b, rfl, rfl⟩
        refine W.seq ?_
        refine W.seq_region fun K hK => ?_
        simp (disch := omega) only [↓RU, RV, RH, ↓reduceIte, Nat.reduceEqDiff, reduceCtorEq, if_pos, w64, ↓RS, RG, Nat.reduceAdd, Nat.reduceMul, Nat.reduceLeDiff, tyLint, tyint]
        refine hK _ _ ?_
        clear hK K
        refine W.cond rfl (fun h2 => ?_) (fun h2 => ?_)
        · try simp only [RL] at h2
          have hZ := bhA_to (sets := (allS p 0)) k6 hnr hY (show a < nr by omega) b (by omega)
          generalize hZe : (List.range b).foldl (bhB (allS p 0) needs a) Y = Z at hZ
          obtain ⟨m, hm, hm5⟩ := hms.at_ (show a < nr by omega)
          obtain ⟨u, hu, hu1⟩ := hZ.at_ (show a < nr by omega)
          obtain ⟨v, hv, hv1⟩ := hZ.at_ (show b < nr by omega)
          obtain ⟨z, hz, hzm⟩ := get_of (show b < needs.length by omega)
          have hz1 := k6 z hzm
          have hZl := hZ.1
          refine W.skip ?_
          refine XThen.norm ?_
          refine W.seq ?_
          refine W.block ?_
          refine W.seq_region fun K hK => ?_
          simp (disch := omega) only [↓RU, RV, RH, ↓reduceIte, Nat.reduceEqDiff, reduceCtorEq, if_pos, w64, ↓RS, RG, Nat.reduceAdd, Nat.reduceMul, Nat.reduceLeDiff, tyLint, tyint, hm, hml, pShr, w_bit]
          refine hK _ _ ?_
          clear hK K
          refine W.cond rfl (fun h3 => ?_) (fun h3 => ?_)
          · try simp only [RL] at h3
            refine W.draw_k (by kernel_rfl) fun K hK => ?_
            simp (disch := omega) only [↓RU, RV, RH, ↓reduceIte, Nat.reduceEqDiff, reduceCtorEq, if_pos, w64, ite_max, ↓RS, RG, Nat.reduceAdd, Nat.reduceMul, Nat.reduceLeDiff, tyLint, tyint, hu, hv, hz, hnr, hZl, set_spl, set_int]
            refine hK _ _ ?_
            clear hK K
            refine XBlock.norm ?_
            refine XThen.norm ?_
            refine W.region_k fun K hK => ?_
            simp (disch := omega) only [↓RU, RV, RH, ↓reduceIte, Nat.reduceEqDiff, reduceCtorEq, if_pos, w64, ↓RS, RG, Nat.reduceAdd, Nat.reduceMul, Nat.reduceLeDiff, tyint]
            refine hK _ _ ?_
            clear hK K
            refine XThen.norm ?_
            refine ⟨nr - (b + 1), by omega, 2, b + 1, rfl, by omega, ?_, ?_⟩
            · simp [Env.put, Env.of]
            · simp only [take_eq, foldl_rg, hZe, bhB, bitOf_is hm, h3, getI_is hu, getI_is hv, getI_is hz]; rfl
          · try simp only [RL] at h3
            refine W.skip ?_
            refine XBlock.norm ?_
            refine XThen.norm ?_
            refine W.region_k fun K hK => ?_
            simp (disch := omega) only [↓RU, RV, RH, ↓reduceIte, Nat.reduceEqDiff, reduceCtorEq, if_pos, w64, ↓RS, RG, Nat.reduceAdd, Nat.reduceMul, Nat.reduceLeDiff, tyint]
            refine hK _ _ ?_
            clear hK K
            refine XThen.norm ?_
            refine ⟨nr - (b + 1), by omega, 2, b + 1, rfl, by omega, ?_, ?_⟩
            · simp [Env.put, Env.of]
            · simp only [take_eq, foldl_rg, hZe, bhB, bitOf_is hm, h3, Bool.false_eq_true, if_false]; rfl
        · try simp only [RL] at h2
          obtain rfl : nr = b := by omega
          refine W.exit ?_
          refine XThen.exit ?_
          refine XThen.exit ?_
          refine XBlock.hit ?_
          refine XBlock.norm ?_
          refine XThen.norm ?_
          refine W.region_k fun K hK => ?_
          simp (disch := omega) only [↓RU, RV, RH, ↓reduceIte, Nat.reduceEqDiff, reduceCtorEq, if_pos, w64, ↓RS, RG, Nat.reduceAdd, Nat.reduceMul, Nat.reduceLeDiff, tyint]
          refine hK _ _ ?_
          clear hK K
          refine XThen.norm ?_
          refine ⟨nr - (a + 1), by omega, 2, a + 1, rfl, by omega, ?_, ?_⟩
          · simp [Env.put, Env.of]
          · simp only [take_eq, foldl_rg, hYe, bhA, hnr]; rfl
      · try simp only [RL] at h1
        obtain rfl : nr = a := by omega
        refine W.exit ?_
        refine XThen.exit ?_
        refine XThen.exit ?_
        refine XBlock.hit ?_
        refine XBlock.norm ?_
        refine XThen.norm ?_
        refine W.region_k fun K hK => ?_
        simp (disch := omega) only [↓RU, RV, RH, ↓reduceIte, Nat.reduceEqDiff, reduceCtorEq, if_pos, w64, ↓RS, RG, Nat.reduceAdd, Nat.reduceMul, Nat.reduceLeDiff, tyint]
        refine hK _ _ ?_
        clear hK K
        refine XThen.norm ?_
        refine ⟨nr - (k + 1), by omega, 2, k + 1, rfl, by omega, ?_, ?_⟩
        · simp [Env.put, Env.of]
        · simp only [take_eq, foldl_rg, hXe, bhN, hnr]; rfl
    · try simp only [RL] at h
      obtain rfl : nr = k := by omega
      have hBH := behind_to (sets := (allS p 0)) k6 hnr hn9 nr (Nat.le_refl _)
      have hBHe : behind (allS p 0) needs = (List.range nr).foldl (bhN (allS p 0) needs) (List.replicate nr 0) := by rw [behind, hnr]
      generalize (List.range nr).foldl (bhN (allS p 0) needs) (List.replicate nr 0) = BH at hBH hBHe
      refine W.exit ?_
      refine XThen.exit ?_
      refine XThen.exit ?_
      refine XBlock.hit ?_
      refine XThen.norm ?_
      refine W.seq ?_
      refine W.seq_region fun K hK => ?_
      simp (disch := omega) only [↓RU, RV, RH, ↓reduceIte, Nat.reduceEqDiff, reduceCtorEq, if_pos, ↓RS, RG, Nat.reduceAdd, Nat.reduceMul, Nat.reduceLeDiff]
      refine hK _ _ ?_
      clear hK K
      refine W.block ?_
      refine W.loop [0, 1, 6, 8, 9, 10, 14] (fun n vs S => ∃ a v0 tk : Nat, n = nr - a ∧ a ≤ nr ∧ vs = [eStrs p, eInts needs, .loc 0 v0 0 a, eInts (places (allS p 0) needs), .int .i64 (least (allS p 0) needs), .loc 1 1 0 nr, .int .i64 a] ∧ S = ⟨[.arr v0 3 1 (((List.range a).map (slackG (allS p 0) needs)).map (.int .i64)), .arr 1 3 1 (BH.map (.int .i64))], tk⟩) (nr) ?_ ?_
      · refine ⟨2, 0, 0, 2, rfl, Nat.zero_le _, ?_, by simp [take_eq]⟩
        simp [Env.put, Env.of]
      rintro n vs S - ⟨a, v0, tk, rfl, h_a, rfl, rfl⟩
      refine W.seq ?_
      refine W.seq_region fun K hK => ?_
      simp (disch := omega) only [↓RU, RV, RH, ↓reduceIte, Nat.reduceEqDiff, reduceCtorEq, if_pos, w64, ↓RS, RG, Nat.reduceAdd, Nat.reduceMul, Nat.reduceLeDiff, tyLint, tyint]
      refine hK _ _ ?_
      clear hK K
      refine W.cond rfl (fun h4 => ?_) (fun h4 => ?_)
      · try simp only [RL] at h4
        obtain ⟨x, hx, hxm⟩ := get_of (show a < needs.length by omega)
        have hx1 := k6 x hxm
        obtain ⟨y, hy, hy1⟩ := hBH.at_ (show a < nr by omega)
        obtain ⟨z, hz, hz1⟩ := hpb.at_ (show a < nr by omega)
        have hsg := slackG_at hBHe rfl hx hy hz
        have hBl := hBH.1
        have hPl := hpb.1
        have hLl : ((List.range a).map (slackG (allS p 0) needs)).length = a := by simp
        refine W.skip ?_
        refine XThen.norm ?_
        refine W.seq ?_
        refine W.block ?_
        refine W.draw_k (by kernel_rfl) fun K hK => ?_
        simp (disch := omega) only [↓RU, RV, RH, ↓reduceIte, Nat.reduceEqDiff, reduceCtorEq, if_pos, w64, ↓RS, RG, Nat.reduceAdd, Nat.reduceMul, Nat.reduceLeDiff, tyLint, tyint, hx, hy, hz, hnr, hBl, hPl, hLl]
        refine hK _ _ ?_
        clear hK K
        refine XBlock.norm ?_
        refine XThen.norm ?_
        refine W.region_k fun K hK => ?_
        simp (disch := omega) only [↓RU, RV, RH, ↓reduceIte, Nat.reduceEqDiff, reduceCtorEq, if_pos, w64, ↓RS, RG, Nat.reduceAdd, Nat.reduceMul, Nat.reduceLeDiff, tyint]
        refine hK _ _ ?_
        clear hK K
        refine XThen.norm ?_
        refine ⟨nr - (a + 1), by omega, 2, a + 1, tk + 1, tk + 2, rfl, by omega, ?_, ?_⟩
        all_goals simp [Env.put, Env.of, take_eq, List.range_succ, hsg, tk_le]
      · try simp only [RL] at h4
        obtain rfl : nr = a := by omega
        refine W.exit ?_
        refine XThen.exit ?_
        refine XThen.exit ?_
        refine XBlock.hit ?_
        refine XThen.norm ?_
        refine W.seq_region fun K hK => ?_
        simp (disch := omega) only [↓RU, RV, RH, ↓reduceIte, Nat.reduceEqDiff, reduceCtorEq, if_pos, ↓RS, RG, Nat.reduceAdd, Nat.reduceMul, Nat.reduceLeDiff]
        refine hK _ _ ?_
        clear hK K
        refine W.ret ?_
        refine BodyQ.ret rfl ?_
        rw [show slackV p needs = (List.range nr).map (slackG (allS p 0) needs) by simp [slackV, hg, slackS, hnr], hg]
        refine reify_tup2 (k := 9) ?_ rfl
        exact (reify_loc (k := 8) (n := nr) rfl (by simp) (mapM_int _)).trans (by simp)

end Fw
end Go.Proofs.Ytmhcknpjgikgmaa

/-! Shapes in plain words: the program's least shapes are the specification's. -/
namespace Go.Proofs.Ytmhcknpjgikgmaa
namespace Fw
open Go

/-- The first of so many places at which f is least. -/
def bst (f : Nat → Int) : Nat → Nat
  | 0 => 0
  | k + 1 => if f k < f (bst f k) then k else bst f k
theorem bst_lt {f : Nat → Int} : ∀ {k : Nat}, 1 ≤ k → bst f k < k
  | 1, _ => by simp [bst]
  | k + 2, _ => by
    have ih := bst_lt (f := f) (k := k + 1) (by omega)
    rw [bst]; split <;> omega
theorem bst_le {f : Nat → Int} : ∀ {k s : Nat}, s < k → f (bst f k) ≤ f s
  | k + 1, s, h => by
    rw [bst]
    by_cases e : s = k
    · subst e; split <;> omega
    · have ih := bst_le (f := f) (k := k) (s := s) (by omega)
      split <;> omega
theorem bst_congr {f g : Nat → Int} : ∀ {k : Nat}, (∀ s, s < k → f s = g s) → bst f k = bst g k
  | 0, _ => rfl
  | k + 1, h => by
    have ih := bst_congr (f := f) (g := g) (k := k) fun s hs => h s (by omega)
    rw [bst, bst, ih, h k (by omega)]
    have e : f (bst g k) = g (bst g k) := by
      cases k with
      | zero => exact h 0 (by omega)
      | succ k => exact h _ (by have := bst_lt (f := g) (k := k + 1) (by omega); omega)
    rw [e]

/-- Needs with some rooms turned. -/
def swp (ws hs : List Int) (set : Nat) : List Int := (List.range ws.length).map fun r => if set.testBit r then getI hs r else getI ws r
theorem swp_len {ws hs : List Int} {set : Nat} : (swp ws hs set).length = ws.length := by simp [swp]
theorem swp_ok {ws hs : List Int} {set : Nat} (hw : NeedOk ws) (hh : NeedOk hs) (hl : ws.length = hs.length) : NeedOk (swp ws hs set) := by
  intro x hx
  obtain ⟨r, hr, rfl⟩ := List.mem_map.1 hx
  have hr2 : r < ws.length := by simpa using hr
  obtain ⟨y, hy, hym⟩ := get_of hr2
  obtain ⟨z, hz, hzm⟩ := get_of (show r < hs.length by omega)
  rw [getI_is hy, getI_is hz]
  split
  · exact hh z hzm
  · exact hw y hym
theorem swp_at {ws hs : List Int} {set i : Nat} {x y : Int} (hx : ws[i]? = some x) (hy : hs[i]? = some y) : (swp ws hs set)[i]? = some (if set.testBit i then y else x) := by
  have hi := len_of hx
  unfold swp
  rw [List.getElem?_map, List.getElem?_range hi, Option.map_some, getI_is hx, getI_is hy]
theorem swp_take {ws hs : List Int} {set i : Nat} {x y : Int} (hx : ws[i]? = some x) (hy : hs[i]? = some y) : (swp ws hs set).take (i + 1) = (swp ws hs set).take i ++ [if set.testBit i then y else x] := by
  rw [tk (swp_at hx hy)]
/-- A shape put to best ones. -/
def domB (x : Int × Int) (w h : Int) : Bool := decide (x.1 ≤ w) && decide (x.2 ≤ h)
def putStep (w h : Int) (s : List (Int × Int) × Bool) (x : Int × Int) : List (Int × Int) × Bool :=
  if w ≤ x.1 ∧ h ≤ x.2 then s else if s.2 = false ∧ w < x.1 then (s.1 ++ [(w, h), x], true) else (s.1 ++ [x], s.2)
def putF (l : List (Int × Int)) (w h : Int) : List (Int × Int) × Bool := l.foldl (putStep w h) ([], false)
def put (l : List (Int × Int)) (w h : Int) : List (Int × Int) := if l.any (fun x => domB x w h) then l else if (putF l w h).2 then (putF l w h).1 else (putF l w h).1 ++ [(w, h)]
theorem putF_inv {l : List (Int × Int)} {w h : Int} : ∀ i, i ≤ l.length → (∀ y ∈ (putF (l.take i) w h).1, y ∈ l.take i ∨ y = (w, h)) ∧ (∀ x ∈ l.take i, x ∈ (putF (l.take i) w h).1 ∨ (w ≤ x.1 ∧ h ≤ x.2)) ∧ ((putF (l.take i) w h).2 = true → (w, h) ∈ (putF (l.take i) w h).1) ∧
    (putF (l.take i) w h).1.length ≤ i + (if (putF (l.take i) w h).2 then 1 else 0)
  | 0, _ => by simp [putF]
  | i + 1, hi => by
    obtain ⟨h1, h2, h3, h4⟩ := putF_inv (l := l) (w := w) (h := h) i (by omega)
    obtain ⟨x, hx, -⟩ := get_of (show i < l.length by omega)
    have e : putF (l.take (i + 1)) w h = putStep w h (putF (l.take i) w h) x := foldl_tk hx
    have et : l.take (i + 1) = l.take i ++ [x] := tk hx
    rw [e, et]
    generalize putF (l.take i) w h = s at h1 h2 h3 h4
    obtain ⟨o, d⟩ := s
    unfold putStep
    simp only at h1 h2 h3 h4 ⊢
    by_cases c1 : w ≤ x.1 ∧ h ≤ x.2
    · rw [if_pos c1]
      refine ⟨fun y hy => ?_, fun y hy => ?_, h3, by split at h4 <;> split <;> simp_all <;> omega⟩
      · rcases h1 y hy with k | k
        · exact .inl (List.mem_append_left _ k)
        · exact .inr k
      · rcases List.mem_append.1 hy with k | k
        · exact h2 y k
        · rw [List.mem_singleton] at k; subst k; exact .inr c1
    · rw [if_neg c1]
      by_cases c2 : d = false ∧ w < x.1
      · rw [if_pos c2]
        obtain ⟨rfl, c3⟩ := c2
        refine ⟨fun y hy => ?_, fun y hy => ?_, fun _ => by simp, by simp at h4 ⊢; omega⟩
        · simp only [List.mem_append, List.mem_cons, List.not_mem_nil, or_false] at hy ⊢
          rcases hy with k | k | k
          · rcases h1 y k with q | q
            · exact .inl (.inl q)
            · exact .inr q
          · exact .inr k
          · exact .inl (.inr k)
        · rcases List.mem_append.1 hy with k | k
          · rcases h2 y k with q | q
            · exact .inl (List.mem_append_left _ q)
            · exact .inr q
          · rw [List.mem_singleton] at k; subst k; exact .inl (by simp)
      · rw [if_neg c2]
        refine ⟨fun y hy => ?_, fun y hy => ?_, fun k => List.mem_append_left _ (h3 k), by simp at h4 ⊢; omega⟩
        · rcases List.mem_append.1 hy with k | k
          · rcases h1 y k with q | q
            · exact .inl (List.mem_append_left _ q)
            · exact .inr q
          · exact .inl (List.mem_append_right _ k)
        · rcases List.mem_append.1 hy with k | k
          · rcases h2 y k with q | q
            · exact .inl (List.mem_append_left _ q)
            · exact .inr q
          · rw [List.mem_singleton] at k; subst k; exact .inl (by simp)
theorem put_inv {l : List (Int × Int)} {w h : Int} : (∀ y ∈ put l w h, y ∈ l ∨ y = (w, h)) ∧ (∀ x, (x ∈ l ∨ x = (w, h)) → ∃ y ∈ put l w h, y.1 ≤ x.1 ∧ y.2 ≤ x.2) ∧ (put l w h).length ≤ l.length + 1 := by
  have hi := putF_inv (l := l) (w := w) (h := h) l.length (Nat.le_refl _)
  rw [List.take_length] at hi
  obtain ⟨h1, h2, h3, h4⟩ := hi
  unfold put
  split
  · rename_i hd
    refine ⟨fun y hy => .inl hy, fun x hx => ?_, by omega⟩
    rcases hx with hx | rfl
    · exact ⟨x, hx, Int.le_refl _, Int.le_refl _⟩
    · obtain ⟨y, hy, k⟩ := List.any_eq_true.1 hd
      unfold domB at k
      simp only [Bool.and_eq_true, decide_eq_true_eq] at k
      exact ⟨y, hy, k⟩
  · generalize putF l w h = s at h1 h2 h3 h4
    obtain ⟨o, d⟩ := s
    simp only at h1 h2 h3 h4 ⊢
    cases d with
    | true =>
      rw [if_pos rfl]
      refine ⟨h1, fun x hx => ?_, by simpa using h4⟩
      rcases hx with hx | rfl
      · rcases h2 x hx with k | k
        · exact ⟨x, k, Int.le_refl _, Int.le_refl _⟩
        · exact ⟨_, h3 rfl, k⟩
      · exact ⟨_, h3 rfl, Int.le_refl _, Int.le_refl _⟩
    | false =>
      rw [if_neg Bool.false_ne_true]
      refine ⟨fun y hy => ?_, fun x hx => ?_, by simp at h4 ⊢; omega⟩
      · rcases List.mem_append.1 hy with k | k
        · exact h1 y k
        · exact .inr (List.mem_singleton.1 k)
      · rcases hx with hx | rfl
        · rcases h2 x hx with k | k
          · exact ⟨x, List.mem_append_left _ k, Int.le_refl _, Int.le_refl _⟩
          · exact ⟨_, List.mem_append_right _ (List.mem_singleton.2 rfl), k⟩
        · exact ⟨_, List.mem_append_right _ (List.mem_singleton.2 rfl), Int.le_refl _, Int.le_refl _⟩
/-- The best ones of so many shapes. -/
def allP (sh : Nat → Int × Int) (k : Nat) : List (Int × Int) := (List.range k).foldl (fun l s => put l (sh s).1 (sh s).2) []
theorem allP_succ {sh : Nat → Int × Int} {k : Nat} : allP sh (k + 1) = put (allP sh k) (sh k).1 (sh k).2 := by unfold allP; rw [foldl_rg]
theorem allP_inv {sh : Nat → Int × Int} : ∀ k, (∀ y ∈ allP sh k, ∃ s, s < k ∧ y = sh s) ∧ (∀ s, s < k → ∃ y ∈ allP sh k, y.1 ≤ (sh s).1 ∧ y.2 ≤ (sh s).2) ∧ (allP sh k).length ≤ k
  | 0 => by simp [allP]
  | k + 1 => by
    obtain ⟨h1, h2, h3⟩ := allP_inv (sh := sh) k
    obtain ⟨k1, k2, k3⟩ := put_inv (l := allP sh k) (w := (sh k).1) (h := (sh k).2)
    rw [allP_succ]
    refine ⟨fun y hy => ?_, fun s hs => ?_, by omega⟩
    · rcases k1 y hy with q | q
      · obtain ⟨s, hs, rfl⟩ := h1 y q
        exact ⟨s, by omega, rfl⟩
      · exact ⟨k, by omega, q⟩
    · by_cases e : s = k
      · subst e
        exact k2 _ (.inr rfl)
      · obtain ⟨y, hy, q1, q2⟩ := h2 s (by omega)
        obtain ⟨z, hz, r1, r2⟩ := k2 y (.inl hy)
        exact ⟨z, hz, by omega, by omega⟩
def sideF (x : Int × Int) : Int := max x.1 x.2
/-- The least side of best shapes. -/
def minS : List (Int × Int) → Int
  | [] => 0
  | a :: l => l.foldl (fun m x => min m (sideF x)) (sideF a)
theorem foldl_min {l : List (Int × Int)} : ∀ {m : Int}, l.foldl (fun m x => min m (sideF x)) m ≤ m ∧ (∀ x ∈ l, l.foldl (fun m x => min m (sideF x)) m ≤ sideF x) ∧ (l.foldl (fun m x => min m (sideF x)) m = m ∨ ∃ x ∈ l, l.foldl (fun m x => min m (sideF x)) m = sideF x) := by
  induction l with
  | nil => intro m; simp
  | cons a l ih =>
    intro m
    rw [List.foldl_cons]
    obtain ⟨h1, h2, h3⟩ := ih (m := min m (sideF a))
    refine ⟨by omega, fun x hx => ?_, ?_⟩
    · rcases List.mem_cons.1 hx with rfl | hx
      · omega
      · exact h2 x hx
    · rcases h3 with k | ⟨x, hx, k⟩
      · by_cases c : m ≤ sideF a
        · left; rw [k]; omega
        · right; exact ⟨a, by simp, by rw [k]; omega⟩
      · right; exact ⟨x, by simp [hx], k⟩
theorem minS_is {l : List (Int × Int)} (h : l ≠ []) : (∀ x ∈ l, minS l ≤ sideF x) ∧ ∃ x ∈ l, minS l = sideF x := by
  cases l with
  | nil => exact absurd rfl h
  | cons a l =>
    obtain ⟨h1, h2, h3⟩ := foldl_min (l := l) (m := sideF a)
    show (∀ x ∈ a :: l, l.foldl (fun m x => min m (sideF x)) (sideF a) ≤ sideF x) ∧ ∃ x ∈ a :: l, l.foldl (fun m x => min m (sideF x)) (sideF a) = sideF x
    refine ⟨fun x hx => ?_, ?_⟩
    · rcases List.mem_cons.1 hx with rfl | hx
      · exact h1
      · exact h2 x hx
    · rcases h3 with k | ⟨x, hx, k⟩
      · exact ⟨a, by simp, k⟩
      · exact ⟨x, by simp [hx], k⟩
theorem allP_ne {sh : Nat → Int × Int} {k : Nat} (hk : 1 ≤ k) : allP sh k ≠ [] := by
  obtain ⟨y, hy, -⟩ := (allP_inv (sh := sh) k).2.1 0 (by omega)
  intro h; rw [h] at hy; cases hy
theorem square_eq {sh : Nat → Int × Int} {k : Nat} (hk : 1 ≤ k) : minS (allP sh k) = sideF (sh (bst (fun s => sideF (sh s)) k)) := by
  obtain ⟨h1, h2, -⟩ := allP_inv (sh := sh) k
  obtain ⟨m1, x, hx, m2⟩ := minS_is (allP_ne (sh := sh) hk)
  obtain ⟨s, hs, rfl⟩ := h1 x hx
  have h3 := bst_le (f := fun s => sideF (sh s)) hs
  obtain ⟨y, hy, q1, q2⟩ := h2 _ (bst_lt (f := fun s => sideF (sh s)) hk)
  have h4 := m1 y hy
  unfold sideF at *
  omega

/-- The shape with a set of turned rooms, by the specification. -/
def shS (p : List Txt) (ws hs : List Int) (set : Nat) : Int × Int := (least (allS p 0) (swp ws hs set), least (allS p 1) (swp hs ws set))
def shI (L A : List (List Bool)) (n : Nat) (ws hs : List Int) (set : Nat) : Int × Int := (maxL (heaviest L (swp ws hs set) n), maxL (heaviest A (swp hs ws set) n))
theorem sh_eq {p : List Txt} {ws hs : List Int} (h1 : needV p [ws] = true) (h2 : needV p [hs] = true) (set : Nat) : shI (leftG (gP p) p.length (w0 (readG p)) (rP p).length) (aboveG (gP p) p.length (w0 (readG p)) (rP p).length) (rP p).length ws hs set = shS p ws hs set := by
  obtain ⟨s0, s1, u0, u1, k1, k2, k3⟩ := plan_same h1
  obtain ⟨-, -, -, -, l1, -, l3⟩ := plan_same h2
  unfold shI shS
  rw [least_heaviest s0 u0 (by rw [swp_len, k1]) k2 (swp_ok k3 l3 (by omega)), least_heaviest s1 u1 (by rw [swp_len, l1]) k2 (swp_ok l3 k3 (by omega))]
def eShp (x : Int × Int) : List PV := [.int .i64 x.1, .int .i64 x.2]
end Fw
end Go.Proofs.Ytmhcknpjgikgmaa

/-! Shapes by the specification, gone through. -/
namespace Go.Proofs.Ytmhcknpjgikgmaa
namespace Fw
open Go

def given8 (p : List Txt) (ws ht : List Int) : Bool := needsB p ws && needsB p ht && decide (ws.length ≤ 8)
theorem given8_ok {p : List Txt} {ws ht : List Int} (h : given8 p ws ht = true) : needsB p ws = true ∧ needsB p ht = true ∧ ws.length ≤ 8 := by
  unfold given8 at h; simp only [Bool.and_eq_true, decide_eq_true_eq] at h; exact ⟨h.1.1, h.1.2, h.2⟩
def areaF (p : List Txt) (ws ht : List Int) (s : Nat) : Int := (shS p ws ht s).1 * (shS p ws ht s).2
def bestS (p : List Txt) (ws ht : List Int) : Nat := bst (areaF p ws ht) (2 ^ ws.length)
theorem shS_bnd {p : List Txt} {ws ht : List Int} (h1 : needsB p ws = true) (h2 : needsB p ht = true) (s : Nat) : 0 ≤ (shS p ws ht s).1 ∧ (shS p ws ht s).1 ≤ 6570 ∧ 0 ≤ (shS p ws ht s).2 ∧ (shS p ws ht s).2 ≤ 6570 := by
  obtain ⟨-, -, -, k4, k5, k6⟩ := needsB_ok h1
  obtain ⟨-, -, -, l4, l5, l6⟩ := needsB_ok h2
  have a := least_bnd (sets := allS p 0) (swp_ok (set := s) k6 l6 (by omega)) (by rw [swp_len]; exact k5)
  have b := least_bnd (sets := allS p 1) (swp_ok (set := s) l6 k6 (by omega)) (by rw [swp_len]; exact l5)
  exact ⟨a.1, a.2, b.1, b.2⟩
theorem areaF_bnd {p : List Txt} {ws ht : List Int} (h1 : needsB p ws = true) (h2 : needsB p ht = true) (s : Nat) : 0 ≤ areaF p ws ht s ∧ areaF p ws ht s ≤ 43164900 := by
  obtain ⟨a1, a2, b1, b2⟩ := shS_bnd h1 h2 s
  have b3 := Int.mul_nonneg a1 b1
  have b4 := Int.mul_le_mul a2 b2 b1 (by omega)
  unfold areaF
  omega
theorem swp_app {ws ht : List Int} {set i : Nat} {x y : Int} (hx : ws[i]? = some x) (hy : ht[i]? = some y) : ((swp ws ht set).take i).map (PV.int .i64) ++ [.int .i64 (if set.testBit i then y else x)] = ((swp ws ht set).take (i + 1)).map (.int .i64) := by
  rw [swp_take hx hy]; simp
theorem pow8 {n : Nat} (h : n ≤ 8) : 1 ≤ 2 ^ n ∧ 2 ^ n ≤ 256 := ⟨Nat.one_le_two_pow, Nat.pow_le_pow_right (n := 2) (by omega) h⟩

theorem l8Given_pc {p : List Txt} (hs : Sm p) {ws ht : List Int} (hw : ws.length ≤ 1048576) (hh : ht.length ≤ 1048576) : PC Try.prog 61 [eStrs p, eInts ws, eInts ht] (.bool (given8 p ws ht)) true := by
  refine PC.of ⟨Try.func61, by kernel_rfl, rfl, by kernel_rfl⟩ tabOk mixed (by show 3 ≤ Try.f61.ntmps; decide) ?_
  refine W.seq_region fun K hK => ?_
  simp (disch := omega) only [↓RU, RV, RH, ↓reduceIte, Nat.reduceEqDiff, reduceCtorEq, if_pos]
  refine hK _ _ ?_
  clear hK K
  refine W.seq_region fun K hK => ?_
  rcases hgg : (needsB p ws, needsB p ht) with ⟨_ | _, _ | _⟩
  · skip
    simp only [Prod.mk.injEq] at hgg
    obtain ⟨hg, hg2⟩ := hgg
    simp (disch := omega) only [↓RU, RV, RH, ↓reduceIte, Nat.reduceEqDiff, reduceCtorEq, if_pos, List.append_nil, w64, tyLint, tyint, hg]
    refine CallR.pc (l7Needs_pc hs hw) rfl (.inl rfl) ?_
    simp (disch := omega) only [↓RU, RV, RH, ↓reduceIte, Nat.reduceEqDiff, reduceCtorEq, if_pos, List.append_nil, w64, tyLint, tyint, hg]
    refine hK _ _ ?_
    clear hK K
    refine W.ret ?_
    refine BodyQ.ret rfl ?_
    rw [given8, hg, hg2]
    first | rfl | exact congrArg (fun b => some (PV.bool b)) (show decide ((ws.length : Int) ≤ 8) = (true && true && decide (ws.length ≤ 8)) by simp; omega)
  · skip
    simp only [Prod.mk.injEq] at hgg
    obtain ⟨hg, hg2⟩ := hgg
    simp (disch := omega) only [↓RU, RV, RH, ↓reduceIte, Nat.reduceEqDiff, reduceCtorEq, if_pos, List.append_nil, w64, tyLint, tyint, hg]
    refine CallR.pc (l7Needs_pc hs hw) rfl (.inl rfl) ?_
    simp (disch := omega) only [↓RU, RV, RH, ↓reduceIte, Nat.reduceEqDiff, reduceCtorEq, if_pos, List.append_nil, w64, tyLint, tyint, hg]
    refine hK _ _ ?_
    clear hK K
    refine W.ret ?_
    refine BodyQ.ret rfl ?_
    rw [given8, hg, hg2]
    first | rfl | exact congrArg (fun b => some (PV.bool b)) (show decide ((ws.length : Int) ≤ 8) = (true && true && decide (ws.length ≤ 8)) by simp; omega)
  · skip
    simp only [Prod.mk.injEq] at hgg
    obtain ⟨hg, hg2⟩ := hgg
    simp (disch := omega) only [↓RU, RV, RH, ↓reduceIte, Nat.reduceEqDiff, reduceCtorEq, if_pos, List.append_nil, w64, tyLint, tyint, hg, hg2]
    refine CallR.pc (l7Needs_pc hs hw) rfl (.inl rfl) ?_
    simp (disch := omega) only [↓RU, RV, RH, ↓reduceIte, Nat.reduceEqDiff, reduceCtorEq, if_pos, List.append_nil, w64, tyLint, tyint, hg, hg2]
    refine CallR.pc (l7Needs_pc hs hh) rfl (.inl rfl) ?_
    simp (disch := omega) only [↓RU, RV, RH, ↓reduceIte, Nat.reduceEqDiff, reduceCtorEq, if_pos, List.append_nil, w64, tyLint, tyint, hg, hg2]
    refine hK _ _ ?_
    clear hK K
    refine W.ret ?_
    refine BodyQ.ret rfl ?_
    rw [given8, hg, hg2]
    first | rfl | exact congrArg (fun b => some (PV.bool b)) (show decide ((ws.length : Int) ≤ 8) = (true && true && decide (ws.length ≤ 8)) by simp; omega)
  · skip
    simp only [Prod.mk.injEq] at hgg
    obtain ⟨hg, hg2⟩ := hgg
    simp (disch := omega) only [↓RU, RV, RH, ↓reduceIte, Nat.reduceEqDiff, reduceCtorEq, if_pos, List.append_nil, w64, tyLint, tyint, hg, hg2]
    refine CallR.pc (l7Needs_pc hs hw) rfl (.inl rfl) ?_
    simp (disch := omega) only [↓RU, RV, RH, ↓reduceIte, Nat.reduceEqDiff, reduceCtorEq, if_pos, List.append_nil, w64, tyLint, tyint, hg, hg2]
    refine CallR.pc (l7Needs_pc hs hh) rfl (.inl rfl) ?_
    simp (disch := omega) only [↓RU, RV, RH, ↓reduceIte, Nat.reduceEqDiff, reduceCtorEq, if_pos, List.append_nil, w64, tyLint, tyint, hg, hg2]
    refine hK _ _ ?_
    clear hK K
    refine W.ret ?_
    refine BodyQ.ret rfl ?_
    rw [given8, hg, hg2]
    first | rfl | exact congrArg (fun b => some (PV.bool b)) (show decide ((ws.length : Int) ≤ 8) = (true && true && decide (ws.length ≤ 8)) by simp; omega)

theorem l8Shape_pc {p : List Txt} (hs : Sm p) {ws ht : List Int} (h1 : needsB p ws = true) (h2 : needsB p ht = true) {set : Nat} (hset : set < 256) : PC Try.prog 90 [eStrs p, eInts ws, eInts ht, .int .i64 set] (.tup [.int .i64 (shS p ws ht set).1, .int .i64 (shS p ws ht set).2]) true := by
  obtain ⟨k1, k2, k3, k4, k5, k6⟩ := needsB_ok h1
  obtain ⟨-, -, -, l4, l5, l6⟩ := needsB_ok h2
  have hwl := swp_len (ws := ws) (hs := ht) (set := set)
  have hhl := swp_len (ws := ht) (hs := ws) (set := set)
  obtain ⟨nr, hnr⟩ : ∃ nr : Nat, ws.length = nr := ⟨_, rfl⟩
  have hnr2 : ht.length = nr := by omega
  refine PC.of ⟨Try.func90, by kernel_rfl, rfl, by kernel_rfl⟩ tabOk mixed (by show 4 ≤ Try.f90.ntmps; decide) ?_
  refine W.seq_region fun K hK => ?_
  simp (disch := omega) only [↓RU, RV, RH, ↓reduceIte, Nat.reduceEqDiff, reduceCtorEq, if_pos, ↓RS, RG, Nat.reduceAdd, Nat.reduceMul, Nat.reduceLeDiff]
  refine hK _ _ ?_
  clear hK K
  refine W.seq_region fun K hK => ?_
  simp (disch := omega) only [↓RU, RV, RH, ↓reduceIte, Nat.reduceEqDiff, reduceCtorEq, if_pos, ↓RS, RG, Nat.reduceAdd, Nat.reduceMul, Nat.reduceLeDiff, tyLint, tyint]
  refine hK _ _ ?_
  clear hK K
  refine W.seq_region fun K hK => ?_
  simp (disch := omega) only [↓RU, RV, RH, ↓reduceIte, Nat.reduceEqDiff, reduceCtorEq, if_pos, ↓RS, RG, Nat.reduceAdd, Nat.reduceMul, Nat.reduceLeDiff, tyLint, tyint]
  refine hK _ _ ?_
  clear hK K
  refine W.seq ?_
  refine W.seq_region fun K hK => ?_
  simp (disch := omega) only [↓RU, RV, RH, ↓reduceIte, Nat.reduceEqDiff, reduceCtorEq, if_pos, ↓RS, RG, Nat.reduceAdd, Nat.reduceMul, Nat.reduceLeDiff]
  refine hK _ _ ?_
  clear hK K
  refine W.block ?_
  refine W.loop [0, 1, 2, 3, 10, 11, 12] (fun n vs S => ∃ i v0 v1 tk : Nat, n = nr - i ∧ i ≤ nr ∧ vs = [eStrs p, eInts ws, eInts ht, .int .i64 set, .loc 0 v0 0 i, .loc 1 v1 0 i, .int .i64 i] ∧ S = ⟨[.arr v0 3 1 (((swp ws ht set).take i).map (.int .i64)), .arr v1 3 1 (((swp ht ws set).take i).map (.int .i64))], tk⟩) nr ?_ ?_
  · refine ⟨2, 0, 0, 1, 2, rfl, by omega, ?_, rfl⟩
    simp [Env.put, Env.of, argEnv]
  rintro n vs S - ⟨i, v0, v1, tk, rfl, h_i, rfl, rfl⟩
  refine W.seq ?_
  refine W.seq_region fun K hK => ?_
  simp (disch := omega) only [↓RU, RV, RH, ↓reduceIte, Nat.reduceEqDiff, reduceCtorEq, if_pos, w64, ↓RS, RG, Nat.reduceAdd, Nat.reduceMul, Nat.reduceLeDiff, tyLint, tyint]
  refine hK _ _ ?_
  clear hK K
  refine W.cond rfl (fun h => ?_) (fun h => ?_)
  · try simp only [RL] at h
    obtain ⟨x, hx, -⟩ := get_of (show i < ws.length by omega)
    obtain ⟨y, hy, -⟩ := get_of (show i < ht.length by omega)
    have ha1 := swp_app (set := set) hx hy
    have ha2 := swp_app (set := set) hy hx
    have hl1 : ((swp ws ht set).take i).length = i := by rw [List.length_take]; omega
    have hl2 : ((swp ht ws set).take i).length = i := by rw [List.length_take]; omega
    refine W.skip ?_
    refine XThen.norm ?_
    refine W.seq ?_
    refine W.block ?_
    refine W.seq_region fun K hK => ?_
    simp (disch := omega) only [↓RU, RV, RH, ↓reduceIte, Nat.reduceEqDiff, reduceCtorEq, if_pos, w64, ↓RS, RG, Nat.reduceAdd, Nat.reduceMul, Nat.reduceLeDiff, tyint, pShr, w_bit]
    refine hK _ _ ?_
    clear hK K
    refine W.cond rfl (fun h3 => ?_) (fun h3 => ?_)
    · try simp only [RL] at h3
      rw [h3] at ha1 ha2
      simp only [if_true] at ha1 ha2
      refine W.seq_region fun K hK => ?_
      simp (disch := omega) only [↓RU, RV, RH, ↓reduceIte, Nat.reduceEqDiff, reduceCtorEq, if_pos, ↓RS, RG, Nat.reduceAdd, Nat.reduceMul, Nat.reduceLeDiff, tyLint, tyint, hx, hy, hl1, hl2]
      refine hK _ _ ?_
      clear hK K
      refine W.region_k fun K hK => ?_
      simp (disch := omega) only [↓RU, RV, RH, ↓reduceIte, Nat.reduceEqDiff, reduceCtorEq, if_pos, ↓RS, RG, Nat.reduceAdd, Nat.reduceMul, Nat.reduceLeDiff, tyLint, tyint, hx, hy, hl1, hl2]
      refine hK _ _ ?_
      clear hK K
      refine XBlock.norm ?_
      refine XThen.norm ?_
      refine W.region_k fun K hK => ?_
      simp (disch := omega) only [↓RU, RV, RH, ↓reduceIte, Nat.reduceEqDiff, reduceCtorEq, if_pos, w64, ↓RS, RG, Nat.reduceAdd, Nat.reduceMul, Nat.reduceLeDiff, tyint]
      refine hK _ _ ?_
      clear hK K
      refine XThen.norm ?_
      refine ⟨nr - (i + 1), by omega, 2, i + 1, tk + 1, tk + 3, tk + 4, rfl, by omega, ?_, ?_⟩
      · simp [Env.put, Env.of]
      · rw [← ha1, ← ha2]; simp [take_eq, tk_le]
    · try simp only [RL] at h3
      rw [h3] at ha1 ha2
      simp only [Bool.false_eq_true, if_false] at ha1 ha2
      refine W.seq_region fun K hK => ?_
      simp (disch := omega) only [↓RU, RV, RH, ↓reduceIte, Nat.reduceEqDiff, reduceCtorEq, if_pos, ↓RS, RG, Nat.reduceAdd, Nat.reduceMul, Nat.reduceLeDiff, tyLint, tyint, hx, hy, hl1, hl2]
      refine hK _ _ ?_
      clear hK K
      refine W.region_k fun K hK => ?_
      simp (disch := omega) only [↓RU, RV, RH, ↓reduceIte, Nat.reduceEqDiff, reduceCtorEq, if_pos, ↓RS, RG, Nat.reduceAdd, Nat.reduceMul, Nat.reduceLeDiff, tyLint, tyint, hx, hy, hl1, hl2]
      refine hK _ _ ?_
      clear hK K
      refine XBlock.norm ?_
      refine XThen.norm ?_
      refine W.region_k fun K hK => ?_
      simp (disch := omega) only [↓RU, RV, RH, ↓reduceIte, Nat.reduceEqDiff, reduceCtorEq, if_pos, w64, ↓RS, RG, Nat.reduceAdd, Nat.reduceMul, Nat.reduceLeDiff, tyint]
      refine hK _ _ ?_
      clear hK K
      refine XThen.norm ?_
      refine ⟨nr - (i + 1), by omega, 2, i + 1, tk + 1, tk + 3, tk + 4, rfl, by omega, ?_, ?_⟩
      · simp [Env.put, Env.of]
      · rw [← ha1, ← ha2]; simp [take_eq, tk_le]
  · try simp only [RL] at h
    obtain rfl : i = nr := by omega
    rw [List.take_of_length_le (by omega), List.take_of_length_le (by omega)]
    refine W.exit ?_
    refine XThen.exit ?_
    refine XThen.exit ?_
    refine XBlock.hit ?_
    refine XThen.norm ?_
    refine W.seq_region fun K hK => ?_
    simp (disch := omega) only [↓RU, RV, RH, ↓reduceIte, Nat.reduceEqDiff, reduceCtorEq, if_pos, List.append_nil, ↓RS, RG, Nat.reduceAdd, Nat.reduceMul, Nat.reduceLeDiff]
    refine CallR.pc (l7Least_pc hs k2 k3 (needs := swp ws ht set) (by omega) (swp_ok k6 l6 (by omega)) 0) (mapM_one rfl (mapM_one ((reify_loc (k := 9) (n := i) rfl (by rw [List.length_map]; omega) (mapM_int _)).trans (by rw [show i = (swp ws ht set).length by omega])) rfl)) (.inl rfl) ?_
    simp (disch := omega) only [↓RU, RV, RH, ↓reduceIte, Nat.reduceEqDiff, reduceCtorEq, if_pos, List.append_nil, ↓RS, RG, Nat.reduceAdd, Nat.reduceMul, Nat.reduceLeDiff]
    refine CallR.pc (l7Least_pc hs k2 k3 (needs := swp ht ws set) (by omega) (swp_ok l6 k6 (by omega)) 1) (mapM_one rfl (mapM_one ((reify_loc (k := 9) (n := i) rfl (by rw [List.length_map]; omega) (mapM_int _)).trans (by rw [show i = (swp ht ws set).length by omega])) rfl)) (.inl rfl) ?_
    simp (disch := omega) only [↓RU, RV, RH, ↓reduceIte, Nat.reduceEqDiff, reduceCtorEq, if_pos, List.append_nil, ↓RS, RG, Nat.reduceAdd, Nat.reduceMul, Nat.reduceLeDiff]
    refine hK _ _ ?_
    clear hK K
    refine W.ret ?_
    refine BodyQ.ret rfl ?_
    rfl

theorem l8Best_pc {p : List Txt} (hs : Sm p) {ws ht : List Int} (hg : given8 p ws ht = true) : PC Try.prog 62 [eStrs p, eInts ws, eInts ht] (.tup [.int .i64 (bestS p ws ht), .int .i64 (areaF p ws ht (bestS p ws ht))]) true := by
  obtain ⟨h1, h2, h8⟩ := given8_ok hg
  have hp8 := pow8 h8
  obtain ⟨N, hN⟩ : ∃ N : Nat, 2 ^ ws.length = N := ⟨_, rfl⟩
  have hsh := w_shl (b := ws.length) (by omega)
  rw [hN] at hp8 hsh
  refine PC.of ⟨Try.func62, by kernel_rfl, rfl, by kernel_rfl⟩ tabOk mixed (by show 3 ≤ Try.f62.ntmps; decide) ?_
  refine W.seq_region fun K hK => ?_
  simp (disch := omega) only [↓RU, RV, RH, ↓reduceIte, Nat.reduceEqDiff, reduceCtorEq, if_pos, ↓RS, RG, Nat.reduceAdd, Nat.reduceMul, Nat.reduceLeDiff]
  refine hK _ _ ?_
  clear hK K
  refine W.seq_region fun K hK => ?_
  simp (disch := omega) only [↓RU, RV, RH, ↓reduceIte, Nat.reduceEqDiff, reduceCtorEq, if_pos, ↓RS, RG, Nat.reduceAdd, Nat.reduceMul, Nat.reduceLeDiff]
  refine hK _ _ ?_
  clear hK K
  refine W.seq_region fun K hK => ?_
  simp (disch := omega) only [↓RU, RV, RH, ↓reduceIte, Nat.reduceEqDiff, reduceCtorEq, if_pos, ↓RS, RG, Nat.reduceAdd, Nat.reduceMul, Nat.reduceLeDiff]
  refine hK _ _ ?_
  clear hK K
  refine W.seq ?_
  refine W.seq_region fun K hK => ?_
  simp (disch := omega) only [↓RU, RV, RH, ↓reduceIte, Nat.reduceEqDiff, reduceCtorEq, if_pos, ↓RS, RG, Nat.reduceAdd, Nat.reduceMul, Nat.reduceLeDiff]
  refine hK _ _ ?_
  clear hK K
  refine W.block ?_
  refine W.loop [0, 1, 2, 8, 9, 10] (fun n vs S => ∃ k : Nat, n = N - k ∧ k ≤ N ∧ vs = [eStrs p, eInts ws, eInts ht, .int .i64 (bst (areaF p ws ht) k), .int .i64 (if k = 0 then 0 else (areaF p ws ht) (bst (areaF p ws ht) k)), .int .i64 k] ∧ S = ⟨[], 0⟩) (N) ?_ ?_
  · refine ⟨0, 0, rfl, Nat.zero_le _, ?_, rfl⟩
    simp [Env.put, Env.of, argEnv, bst]
  rintro n vs S - ⟨k, rfl, h_k, rfl, rfl⟩
  refine W.seq ?_
  refine W.seq_region fun K hK => ?_
  simp (disch := omega) only [↓RU, RV, RH, ↓reduceIte, Nat.reduceEqDiff, reduceCtorEq, if_pos, w64, ↓RS, RG, Nat.reduceAdd, Nat.reduceMul, Nat.reduceLeDiff, tyLint, tyint, pShl, hsh]
  refine hK _ _ ?_
  clear hK K
  refine W.cond rfl (fun h => ?_) (fun h => ?_)
  · try simp only [RL] at h
    have hb := shS_bnd h1 h2 k
    have ha := areaF_bnd h1 h2 k
    have hae : (shS p ws ht k).1 * (shS p ws ht k).2 = areaF p ws ht k := rfl
    refine W.skip ?_
    refine XThen.norm ?_
    refine W.seq ?_
    refine W.block ?_
    refine W.seq_region fun K hK => ?_
    simp (disch := omega) only [↓RU, RV, RH, ↓reduceIte, Nat.reduceEqDiff, reduceCtorEq, if_pos, List.append_nil, ↓RS, RG, Nat.reduceAdd, Nat.reduceMul, Nat.reduceLeDiff]
    refine CallR.pc (l8Shape_pc hs h1 h2 (set := k) (by omega)) rfl (.inl rfl) ?_
    simp (disch := omega) only [↓RU, RV, RH, ↓reduceIte, Nat.reduceEqDiff, reduceCtorEq, if_pos, List.append_nil, ↓RS, RG, Nat.reduceAdd, Nat.reduceMul, Nat.reduceLeDiff]
    refine hK _ _ ?_
    clear hK K
    refine W.seq_region fun K hK => ?_
    by_cases hk0 : k = 0
    · skip
      subst hk0
      simp (disch := omega) only [↓RU, RV, RH, ↓reduceIte, Nat.reduceEqDiff, reduceCtorEq, if_pos, w64, ↓RS, RG, Nat.reduceAdd, Nat.reduceMul, Nat.reduceLeDiff, tyint]
      refine hK _ _ ?_
      clear hK K
      refine W.cond rfl (fun h3 => ?_) (fun h3 => ?_)
      · try simp only [RL] at h3
        refine W.seq_region fun K hK => ?_
        simp (disch := omega) only [↓RU, RV, RH, ↓reduceIte, Nat.reduceEqDiff, reduceCtorEq, if_pos, w64, ↓RS, RG, Nat.reduceAdd, Nat.reduceMul, Nat.reduceLeDiff, tyint, hae]
        refine hK _ _ ?_
        clear hK K
        refine W.region_k fun K hK => ?_
        simp (disch := omega) only [↓RU, RV, RH, ↓reduceIte, Nat.reduceEqDiff, reduceCtorEq, if_pos, ↓RS, RG, Nat.reduceAdd, Nat.reduceMul, Nat.reduceLeDiff]
        refine hK _ _ ?_
        clear hK K
        refine XBlock.norm ?_
        refine XThen.norm ?_
        refine W.region_k fun K hK => ?_
        simp (disch := omega) only [↓RU, RV, RH, ↓reduceIte, Nat.reduceEqDiff, reduceCtorEq, if_pos, w64, ↓RS, RG, Nat.reduceAdd, Nat.reduceMul, Nat.reduceLeDiff, tyint]
        refine hK _ _ ?_
        clear hK K
        refine XThen.norm ?_
        refine ⟨N - (0 + 1), by omega, 0, 0 + 1, rfl, by omega, ?_, rfl⟩
        simp [Env.put, Env.of, bst, hae]
      · try simp only [RL] at h3
        exact absurd h3 (by simp)
    · skip
      have hkd : decide ((k : Int) = 0) = false := by simp; omega
      have hkb : ((k : Int) == 0) = false := by simp; omega
      simp (disch := omega) only [↓RU, RV, RH, ↓reduceIte, Nat.reduceEqDiff, reduceCtorEq, if_pos, w64, ↓RS, RG, Nat.reduceAdd, Nat.reduceMul, Nat.reduceLeDiff, tyint, hkd, hkb, hk0, hae]
      refine hK _ _ ?_
      clear hK K
      refine W.cond rfl (fun h3 => ?_) (fun h3 => ?_)
      · try simp only [RL] at h3
        refine W.seq_region fun K hK => ?_
        simp (disch := omega) only [↓RU, RV, RH, ↓reduceIte, Nat.reduceEqDiff, reduceCtorEq, if_pos, w64, ↓RS, RG, Nat.reduceAdd, Nat.reduceMul, Nat.reduceLeDiff, tyint, hae]
        refine hK _ _ ?_
        clear hK K
        refine W.region_k fun K hK => ?_
        simp (disch := omega) only [↓RU, RV, RH, ↓reduceIte, Nat.reduceEqDiff, reduceCtorEq, if_pos, ↓RS, RG, Nat.reduceAdd, Nat.reduceMul, Nat.reduceLeDiff]
        refine hK _ _ ?_
        clear hK K
        refine XBlock.norm ?_
        refine XThen.norm ?_
        refine W.region_k fun K hK => ?_
        simp (disch := omega) only [↓RU, RV, RH, ↓reduceIte, Nat.reduceEqDiff, reduceCtorEq, if_pos, w64, ↓RS, RG, Nat.reduceAdd, Nat.reduceMul, Nat.reduceLeDiff, tyint]
        refine hK _ _ ?_
        clear hK K
        refine XThen.norm ?_
        refine ⟨N - (k + 1), by omega, 0, k + 1, rfl, by omega, ?_, rfl⟩
        simp [Env.put, Env.of, bst, hae, h3]
      · try simp only [RL] at h3
        refine W.skip ?_
        refine XBlock.norm ?_
        refine XThen.norm ?_
        refine W.region_k fun K hK => ?_
        simp (disch := omega) only [↓RU, RV, RH, ↓reduceIte, Nat.reduceEqDiff, reduceCtorEq, if_pos, w64, ↓RS, RG, Nat.reduceAdd, Nat.reduceMul, Nat.reduceLeDiff, tyint]
        refine hK _ _ ?_
        clear hK K
        refine XThen.norm ?_
        refine ⟨N - (k + 1), by omega, 0, k + 1, rfl, by omega, ?_, rfl⟩
        simp [Env.put, Env.of, bst, h3, hk0]
  · try simp only [RL] at h
    obtain rfl : k = N := by omega
    refine W.exit ?_
    refine XThen.exit ?_
    refine XThen.exit ?_
    refine XBlock.hit ?_
    refine XThen.norm ?_
    refine W.seq_region fun K hK => ?_
    simp (disch := omega) only [↓RU, RV, RH, ↓reduceIte, Nat.reduceEqDiff, reduceCtorEq, if_pos, ↓RS, RG, Nat.reduceAdd, Nat.reduceMul, Nat.reduceLeDiff]
    refine hK _ _ ?_
    clear hK K
    refine W.ret ?_
    refine BodyQ.ret rfl ?_
    rw [if_neg (by omega)]
    subst hN
    rfl

theorem sShapeTry_pc {p : List Txt} (hs : Sm p) {ws ht : List Int} (hw : ws.length ≤ 1048576) (hh : ht.length ≤ 1048576) : PC Try.prog 36 [eStrs p, eInts ws, eInts ht] (.tup [.int .i64 (if given8 p ws ht then areaF p ws ht (bestS p ws ht) else 0), .bool (given8 p ws ht)]) true := by
  refine PC.of ⟨Try.func36, by kernel_rfl, rfl, by kernel_rfl⟩ tabOk mixed (by show 3 ≤ Try.f36.ntmps; decide) ?_
  refine W.seq_region fun K hK => ?_
  simp (disch := omega) only [↓RU, RV, RH, ↓reduceIte, Nat.reduceEqDiff, reduceCtorEq, if_pos]
  refine hK _ _ ?_
  clear hK K
  refine W.seq ?_
  refine W.seq_region fun K hK => ?_
  simp (disch := omega) only [↓RU, RV, RH, ↓reduceIte, Nat.reduceEqDiff, reduceCtorEq, if_pos, List.append_nil]
  refine CallR.pc (l8Given_pc hs hw hh) rfl (.inl rfl) ?_
  simp (disch := omega) only [↓RU, RV, RH, ↓reduceIte, Nat.reduceEqDiff, reduceCtorEq, if_pos, List.append_nil]
  refine hK _ _ ?_
  clear hK K
  refine W.cond rfl (fun h0 => ?_) (fun h0 => ?_)
  · try simp only [RL] at h0
    have hg : given8 p ws ht = false := by simpa using h0
    refine W.seq_region fun K hK => ?_
    simp (disch := omega) only [↓RU, RV, RH, ↓reduceIte, Nat.reduceEqDiff, reduceCtorEq, if_pos]
    refine hK _ _ ?_
    clear hK K
    refine W.ret ?_
    refine XThen.ret ?_
    refine BodyQ.ret rfl ?_
    simp only [hg, Bool.false_eq_true, if_false]
    rfl
  · try simp only [RL] at h0
    have hg : given8 p ws ht = true := by simpa using h0
    refine W.skip ?_
    refine XThen.norm ?_
    refine W.seq_region fun K hK => ?_
    simp (disch := omega) only [↓RU, RV, RH, ↓reduceIte, Nat.reduceEqDiff, reduceCtorEq, if_pos, List.append_nil]
    refine CallR.pc (l8Best_pc hs hg) rfl (.inl rfl) ?_
    simp (disch := omega) only [↓RU, RV, RH, ↓reduceIte, Nat.reduceEqDiff, reduceCtorEq, if_pos, List.append_nil]
    refine hK _ _ ?_
    clear hK K
    refine W.seq_region fun K hK => ?_
    simp (disch := omega) only [↓RU, RV, RH, ↓reduceIte, Nat.reduceEqDiff, reduceCtorEq, if_pos]
    refine hK _ _ ?_
    clear hK K
    refine W.ret ?_
    refine BodyQ.ret rfl ?_
    simp only [hg, if_true]
    rfl

theorem sShapeTurned_pc {p : List Txt} (hs : Sm p) {ws ht : List Int} (hw : ws.length ≤ 1048576) (hh : ht.length ≤ 1048576) : PC Try.prog 38 [eStrs p, eInts ws, eInts ht] (.tup [.int .i64 (if given8 p ws ht then ((bestS p ws ht : Nat) : Int) else 0), .bool (given8 p ws ht)]) true := by
  refine PC.of ⟨Try.func38, by kernel_rfl, rfl, by kernel_rfl⟩ tabOk mixed (by show 3 ≤ Try.f38.ntmps; decide) ?_
  refine W.seq_region fun K hK => ?_
  simp (disch := omega) only [↓RU, RV, RH, ↓reduceIte, Nat.reduceEqDiff, reduceCtorEq, if_pos]
  refine hK _ _ ?_
  clear hK K
  refine W.seq ?_
  refine W.seq_region fun K hK => ?_
  simp (disch := omega) only [↓RU, RV, RH, ↓reduceIte, Nat.reduceEqDiff, reduceCtorEq, if_pos, List.append_nil]
  refine CallR.pc (l8Given_pc hs hw hh) rfl (.inl rfl) ?_
  simp (disch := omega) only [↓RU, RV, RH, ↓reduceIte, Nat.reduceEqDiff, reduceCtorEq, if_pos, List.append_nil]
  refine hK _ _ ?_
  clear hK K
  refine W.cond rfl (fun h0 => ?_) (fun h0 => ?_)
  · try simp only [RL] at h0
    have hg : given8 p ws ht = false := by simpa using h0
    refine W.seq_region fun K hK => ?_
    simp (disch := omega) only [↓RU, RV, RH, ↓reduceIte, Nat.reduceEqDiff, reduceCtorEq, if_pos]
    refine hK _ _ ?_
    clear hK K
    refine W.ret ?_
    refine XThen.ret ?_
    refine BodyQ.ret rfl ?_
    simp only [hg, Bool.false_eq_true, if_false]
    rfl
  · try simp only [RL] at h0
    have hg : given8 p ws ht = true := by simpa using h0
    refine W.skip ?_
    refine XThen.norm ?_
    refine W.seq_region fun K hK => ?_
    simp (disch := omega) only [↓RU, RV, RH, ↓reduceIte, Nat.reduceEqDiff, reduceCtorEq, if_pos, List.append_nil]
    refine CallR.pc (l8Best_pc hs hg) rfl (.inl rfl) ?_
    simp (disch := omega) only [↓RU, RV, RH, ↓reduceIte, Nat.reduceEqDiff, reduceCtorEq, if_pos, List.append_nil]
    refine hK _ _ ?_
    clear hK K
    refine W.seq_region fun K hK => ?_
    simp (disch := omega) only [↓RU, RV, RH, ↓reduceIte, Nat.reduceEqDiff, reduceCtorEq, if_pos]
    refine hK _ _ ?_
    clear hK K
    refine W.ret ?_
    refine BodyQ.ret rfl ?_
    simp only [hg, if_true]
    rfl

end Fw
end Go.Proofs.Ytmhcknpjgikgmaa

/-! Best shapes by the specification, gone through. -/
namespace Go.Proofs.Ytmhcknpjgikgmaa
namespace Fw
open Go

def rowsOf (l : List (Int × Int)) : List (List Int) := l.map fun x => [x.1, x.2]
abbrev eShps (l : List (Int × Int)) : PV := .sl ((rowsOf l).map eInts) l.length
theorem rowsOf_at {l : List (Int × Int)} {i : Nat} {x : Int × Int} (h : l[i]? = some x) : (rowsOf l)[i]? = some [x.1, x.2] := by simp [rowsOf, h]
theorem rowsOf_len {l : List (Int × Int)} : (rowsOf l).length = l.length := by simp [rowsOf]
theorem rowsOf_one {x : Int × Int} : rowsOf [x] = [[x.1, x.2]] := rfl
theorem rowsOf_two {x y : Int × Int} : rowsOf [x, y] = [[x.1, x.2], [y.1, y.2]] := rfl
theorem rowsOf_app {l m : List (Int × Int)} : rowsOf (l ++ m) = rowsOf l ++ rowsOf m := by simp [rowsOf]
theorem domB_and {x : Int × Int} {w h : Int} : domB x w h = (decide (x.1 ≤ w) && decide (x.2 ≤ h)) := rfl
theorem anyf_tk {α : Type} {f : α → Bool} {l : List α} {i : Nat} {x : α} (hx : l[i]? = some x) (h : (l.take i).any f = false) (hf : f x = false) : (l.take (i + 1)).any f = false := by
  rw [tk hx, List.any_append, h]; simp [hf]
theorem putF_succ {l : List (Int × Int)} {w h : Int} {i : Nat} {x : Int × Int} (hx : l[i]? = some x) : putF (l.take (i + 1)) w h = putStep w h (putF (l.take i) w h) x := foldl_tk hx
theorem rows_snoc {S : Store} {k : Nat} {l : List (List Int)} {v : PV} {q : List Int} (h : reify S true (k + 2) v = some (eInts q)) : (l.map eInts ++ [v]).mapM (reify S true (k + 2)) = some ((l ++ [q]).map eInts) := by
  rw [List.mapM_append, mapM_ints2]; simp [h]

theorem l8Put_pc {l : List (Int × Int)} (hl : l.length ≤ 1048576) (w h : Int) : PC Try.prog 92 [eShps l, .int .i64 w, .int .i64 h] (eShps (put l w h)) false := by
  refine PC.of ⟨Try.func92, by kernel_rfl, rfl, by kernel_rfl⟩ tabOk mixed (by show 3 ≤ Try.f92.ntmps; decide) ?_
  refine W.seq_region fun K hK => ?_
  simp (disch := omega) only [↓RU, RV, RH, ↓reduceIte, Nat.reduceEqDiff, reduceCtorEq, if_pos, ↓RS, RG, Nat.reduceAdd, Nat.reduceMul, Nat.reduceLeDiff]
  refine hK _ _ ?_
  clear hK K
  refine W.seq_region fun K hK => ?_
  simp (disch := omega) only [↓RU, RV, RH, ↓reduceIte, Nat.reduceEqDiff, reduceCtorEq, if_pos, ↓RS, RG, Nat.reduceAdd, Nat.reduceMul, Nat.reduceLeDiff, tyLLint, tyLint, tyint]
  refine hK _ _ ?_
  clear hK K
  refine W.seq_region fun K hK => ?_
  simp (disch := omega) only [↓RU, RV, RH, ↓reduceIte, Nat.reduceEqDiff, reduceCtorEq, if_pos, ↓RS, RG, Nat.reduceAdd, Nat.reduceMul, Nat.reduceLeDiff]
  refine hK _ _ ?_
  clear hK K
  refine W.seq ?_
  refine W.seq_region fun K hK => ?_
  simp (disch := omega) only [↓RU, RV, RH, ↓reduceIte, Nat.reduceEqDiff, reduceCtorEq, if_pos, ↓RS, RG, Nat.reduceAdd, Nat.reduceMul, Nat.reduceLeDiff]
  refine hK _ _ ?_
  clear hK K
  refine W.block ?_
  refine W.loopZ [0, 1, 2, 7, 8, 9] (fun n vs S => ∃ i v0 tk : Nat, n = l.length - i ∧ i ≤ l.length ∧ ((l.take i).any (fun x => domB x w h) = false) ∧ vs = [eShps l, .int .i64 w, .int .i64 h, .loc 0 v0 0 (putF (l.take i) w h).1.length, .bool (putF (l.take i) w h).2, .int .i64 i] ∧ S = ⟨[.arr v0 30 1 ((rowsOf (putF (l.take i) w h).1).map eInts)], tk⟩) (l.length) ?_ ?_
  · refine ⟨1, [eShps l, .int .i64 w, .int .i64 h, .loc 0 0 0 (putF (l.take 0) w h).1.length, .bool (putF (l.take 0) w h).2, .int .i64 0], ⟨[.arr 0 30 1 ((rowsOf (putF (l.take 0) w h).1).map eInts)], 1⟩, ?_, ?_, 0, 0, 1, rfl, by omega, rfl, rfl, rfl⟩
    · rfl
    · rfl
  rintro n vs S - ⟨i, v0, tk, rfl, h_i, hall, rfl, rfl⟩
  refine W.seq ?_
  refine W.seq_region fun K hK => ?_
  simp (disch := omega) only [↓RU, RV, RH, ↓reduceIte, Nat.reduceEqDiff, reduceCtorEq, if_pos, w64, ↓RS, RG, Nat.reduceAdd, Nat.reduceMul, Nat.reduceLeDiff, tyLLint, tyLint, tyint]
  refine hK _ _ ?_
  clear hK K
  refine W.cond rfl (fun h0 => ?_) (fun h0 => ?_)
  · try simp only [RL] at h0
    obtain ⟨x, hx, -⟩ := get_of (show i < l.length by omega)
    have hxr := rowsOf_at hx
    obtain ⟨xa, xb⟩ := x
    simp only at hxr
    have hpl := (putF_inv (l := l) (w := w) (h := h) i h_i).2.2.2
    have hsu := putF_succ (w := w) (h := h) hx
    generalize putF (l.take i) w h = s at hpl hsu ⊢
    obtain ⟨o, d⟩ := s
    simp only at hpl ⊢
    have hol : o.length ≤ 1048577 := by split at hpl <;> omega
    have hrl := rowsOf_len (l := l)
    have hro := rowsOf_len (l := o)
    refine W.skip ?_
    refine XThen.norm ?_
    refine W.seq ?_
    refine W.block ?_
    refine W.seq ?_
    refine W.join [0, 1, 2, 7, 8, 9, 34] (fun vs S => vs = [eShps l, .int .i64 w, .int .i64 h, .loc 0 v0 0 o.length, .bool d, .int .i64 i, .bool (decide (xa ≤ w) && decide (xb ≤ h))] ∧ S = ⟨[.arr v0 30 1 ((rowsOf o).map eInts)], tk⟩) ?_ ?_
    ·
      refine W.region_k fun K hK => ?_
      rcases hd1 : decide (xa ≤ w) with _ | _
      · skip
        simp (disch := omega) only [↓RU, RV, RH, ↓reduceIte, Nat.reduceEqDiff, reduceCtorEq, if_pos, w64, ↓RS, RG, Nat.reduceAdd, Nat.reduceMul, Nat.reduceLeDiff, tyLLint, tyLint, tyint, Int.toNat_zero, Nat.zero_mul, Int.reduceToNat, Nat.reduceMul, Nat.zero_add, Nat.mul_one, hxr, hd1, hrl]
        refine hK _ _ ?_
        clear hK K
        refine XThen.norm ?_
        refine ⟨1, ?_, rfl⟩
        simp [Env.put, Env.of, hd1]
      · skip
        simp (disch := omega) only [↓RU, RV, RH, ↓reduceIte, Nat.reduceEqDiff, reduceCtorEq, if_pos, w64, ↓RS, RG, Nat.reduceAdd, Nat.reduceMul, Nat.reduceLeDiff, tyLLint, tyLint, tyint, Int.toNat_zero, Nat.zero_mul, Int.reduceToNat, Nat.reduceMul, Nat.zero_add, Nat.mul_one, hxr, hd1, hrl]
        refine hK _ _ ?_
        clear hK K
        refine XThen.norm ?_
        refine ⟨1, ?_, rfl⟩
        simp [Env.put, Env.of, hd1]
    rintro vs S - ⟨rfl, rfl⟩
    refine W.cond rfl (fun h3 => ?_) (fun h3 => ?_)
    · try simp only [RL] at h3
      refine W.seq_region fun K hK => ?_
      simp (disch := omega) only [↓RU, RV, RH, ↓reduceIte, Nat.reduceEqDiff, reduceCtorEq, if_pos, ↓RS, RG, Nat.reduceAdd, Nat.reduceMul, Nat.reduceLeDiff]
      refine hK _ _ ?_
      clear hK K
      refine W.ret ?_
      refine XThen.ret ?_
      refine XBlock.ret ?_
      refine XThen.ret ?_
      refine XThen.ret ?_
      refine XBlock.ret ?_
      refine XThen.ret ?_
      refine BodyQ.ret rfl ?_
      rw [show put l w h = l by unfold put; rw [if_pos (List.any_eq_true.2 ⟨(xa, xb), List.mem_of_getElem? hx, by rw [domB_and]; exact h3⟩)]]
      rfl
    · try simp only [RL] at h3
      refine W.skip ?_
      refine XThen.norm ?_
      refine W.seq ?_
      refine W.join [0, 1, 2, 7, 8, 9, 53] (fun vs S => vs = [eShps l, .int .i64 w, .int .i64 h, .loc 0 v0 0 o.length, .bool d, .int .i64 i, .bool (decide (w ≤ xa) && decide (h ≤ xb))] ∧ S = ⟨[.arr v0 30 1 ((rowsOf o).map eInts)], tk⟩) ?_ ?_
      ·
        refine W.region_k fun K hK => ?_
        rcases hd1 : decide (w ≤ xa) with _ | _
        · skip
          simp (disch := omega) only [↓RU, RV, RH, ↓reduceIte, Nat.reduceEqDiff, reduceCtorEq, if_pos, w64, ↓RS, RG, Nat.reduceAdd, Nat.reduceMul, Nat.reduceLeDiff, tyLLint, tyLint, tyint, Int.toNat_zero, Nat.zero_mul, Int.reduceToNat, Nat.reduceMul, Nat.zero_add, Nat.mul_one, hxr, hd1, hrl]
          refine hK _ _ ?_
          clear hK K
          refine XThen.norm ?_
          refine ⟨1, ?_, rfl⟩
          simp [Env.put, Env.of, hd1]
        · skip
          simp (disch := omega) only [↓RU, RV, RH, ↓reduceIte, Nat.reduceEqDiff, reduceCtorEq, if_pos, w64, ↓RS, RG, Nat.reduceAdd, Nat.reduceMul, Nat.reduceLeDiff, tyLLint, tyLint, tyint, Int.toNat_zero, Nat.zero_mul, Int.reduceToNat, Nat.reduceMul, Nat.zero_add, Nat.mul_one, hxr, hd1, hrl]
          refine hK _ _ ?_
          clear hK K
          refine XThen.norm ?_
          refine ⟨1, ?_, rfl⟩
          simp [Env.put, Env.of, hd1]
      rintro vs S - ⟨rfl, rfl⟩
      refine W.cond rfl (fun h4 => ?_) (fun h4 => ?_)
      · try simp only [RL] at h4
        simp only [Bool.and_eq_true, decide_eq_true_eq] at h4
        have hs2 : putF (l.take (i + 1)) w h = (o, d) := by rw [hsu, putStep, if_pos h4]
        refine W.exit ?_
        refine XThen.exit ?_
        refine XBlock.hit ?_
        refine XThen.norm ?_
        refine W.region_k fun K hK => ?_
        simp (disch := omega) only [↓RU, RV, RH, ↓reduceIte, Nat.reduceEqDiff, reduceCtorEq, if_pos, w64, ↓RS, RG, Nat.reduceAdd, Nat.reduceMul, Nat.reduceLeDiff, tyint]
        refine hK _ _ ?_
        clear hK K
        refine XThen.norm ?_
        refine ⟨l.length - (i + 1), by omega, 1, [eShps l, .int .i64 w, .int .i64 h, .loc 0 v0 0 (putF (l.take (i + 1)) w h).1.length, .bool (putF (l.take (i + 1)) w h).2, .int .i64 (i + 1)], ⟨[.arr v0 30 1 ((rowsOf (putF (l.take (i + 1)) w h).1).map eInts)], tk⟩, ?_, ?_, (i + 1), v0, tk, rfl, by omega, anyf_tk hx hall (by rw [domB_and]; exact h3), rfl, rfl⟩
        · simp [-List.mapM_map, Store.frz, frzObs, frzOb, frz_eInts, frz_loc, rfz_loc, frz_int, frz_sl, frz_ints, rfz_ints, frz_strs, frz_bytes, rfz_bytes, rfz_str, rfz_bool, frz_str, frz_bool, Env.put, Env.of, argEnv, rfz_int, List.mapM_append, List.mapM_cons, hs2, rowsOf_app, rowsOf_one, rowsOf_two, rfz_eIntss, take_eq, tk_le]
        · simp [-List.mapM_map, Store.frz, frzObs, frzOb, frz_eInts, frz_loc, rfz_loc, frz_int, frz_sl, frz_ints, rfz_ints, frz_strs, frz_bytes, rfz_bytes, rfz_str, rfz_bool, frz_str, frz_bool, Env.put, Env.of, argEnv, rfz_int, List.mapM_append, List.mapM_cons, hs2, rowsOf_app, rowsOf_one, rowsOf_two, rfz_eIntss, take_eq, tk_le]
      · try simp only [RL] at h4
        have h4n : ¬ (w ≤ xa ∧ h ≤ xb) := by intro q; rw [decide_eq_true q.1, decide_eq_true q.2] at h4; exact Bool.false_ne_true h4.symm
        refine W.skip ?_
        refine XThen.norm ?_
        refine W.seq ?_
        refine W.join [0, 1, 2, 7, 8, 9, 65] (fun vs S => vs = [eShps l, .int .i64 w, .int .i64 h, .loc 0 v0 0 o.length, .bool d, .int .i64 i, .bool (!d && decide (w < xa))] ∧ S = ⟨[.arr v0 30 1 ((rowsOf o).map eInts)], tk⟩) ?_ ?_
        ·
          refine W.region_k fun K hK => ?_
          cases d
          · skip
            simp (disch := omega) only [↓RU, RV, RH, ↓reduceIte, Nat.reduceEqDiff, reduceCtorEq, if_pos, w64, ↓RS, RG, Nat.reduceAdd, Nat.reduceMul, Nat.reduceLeDiff, tyLLint, tyLint, tyint, Int.toNat_zero, Nat.zero_mul, Int.reduceToNat, Nat.reduceMul, Nat.zero_add, Nat.mul_one, hxr, hrl]
            refine hK _ _ ?_
            clear hK K
            refine XThen.norm ?_
            refine ⟨1, ?_, rfl⟩
            simp [Env.put, Env.of]
          · skip
            simp (disch := omega) only [↓RU, RV, RH, ↓reduceIte, Nat.reduceEqDiff, reduceCtorEq, if_pos, w64, ↓RS, RG, Nat.reduceAdd, Nat.reduceMul, Nat.reduceLeDiff, tyLLint, tyLint, tyint, Int.toNat_zero, Nat.zero_mul, Int.reduceToNat, Nat.reduceMul, Nat.zero_add, Nat.mul_one, hxr, hrl]
            refine hK _ _ ?_
            clear hK K
            refine XThen.norm ?_
            refine ⟨1, ?_, rfl⟩
            simp [Env.put, Env.of]
        rintro vs S - ⟨rfl, rfl⟩
        refine W.cond rfl (fun h5 => ?_) (fun h5 => ?_)
        · try simp only [RL] at h5
          have h5y : d = false ∧ w < xa := by simpa using h5
          have hs2 : putF (l.take (i + 1)) w h = (o ++ [(w, h), (xa, xb)], true) := by rw [hsu, putStep, if_neg h4n, if_pos h5y]
          obtain ⟨rfl, h5w⟩ := h5y
          have htk : ∀ v : PV, ((rowsOf o).map eInts ++ [v]).take (o.length + 1) = (rowsOf o).map eInts ++ [v] := fun v => List.take_of_length_le (by simp [hro])
          refine W.seq_region fun K hK => ?_
          simp (disch := omega) only [↓RU, RV, RH, ↓reduceIte, Nat.reduceEqDiff, reduceCtorEq, if_pos, ↓RS, RG, Nat.reduceAdd, Nat.reduceMul, Nat.reduceLeDiff, tyLLint, tyLint, tyint, hro, hol]
          refine hK _ _ ?_
          clear hK K
          refine W.region_k fun K hK => ?_
          simp (disch := omega) only [↓RU, RV, RH, ↓reduceIte, Nat.reduceEqDiff, reduceCtorEq, if_pos, ↓RS, RG, Nat.reduceAdd, Nat.reduceMul, Nat.reduceLeDiff]
          refine hK _ _ ?_
          clear hK K
          refine XThen.norm ?_
          refine W.region_k fun K hK => ?_
          simp (disch := omega) only [↓RU, RV, RH, ↓reduceIte, Nat.reduceEqDiff, reduceCtorEq, if_pos, ↓RS, RG, Nat.reduceAdd, Nat.reduceMul, Nat.reduceLeDiff, tyLLint, tyLint, tyint, Int.toNat_zero, Nat.zero_mul, Int.reduceToNat, Nat.reduceMul, Nat.zero_add, Nat.mul_one, hxr, hrl, hro, htk, List.length_append, List.length_map, List.length_cons, List.length_nil]
          refine hK _ _ ?_
          clear hK K
          refine XBlock.norm ?_
          refine XThen.norm ?_
          refine W.region_k fun K hK => ?_
          simp (disch := omega) only [↓RU, RV, RH, ↓reduceIte, Nat.reduceEqDiff, reduceCtorEq, if_pos, w64, ↓RS, RG, Nat.reduceAdd, Nat.reduceMul, Nat.reduceLeDiff, tyint]
          refine hK _ _ ?_
          clear hK K
          refine XThen.norm ?_
          refine ⟨l.length - (i + 1), by omega, 1, [eShps l, .int .i64 w, .int .i64 h, .loc 0 (tk + 4) 0 (putF (l.take (i + 1)) w h).1.length, .bool (putF (l.take (i + 1)) w h).2, .int .i64 (i + 1)], ⟨[.arr (tk + 4) 30 1 ((rowsOf (putF (l.take (i + 1)) w h).1).map eInts)], (tk + 5)⟩, ?_, ?_, (i + 1), tk + 4, tk + 5, rfl, by omega, anyf_tk hx hall (by rw [domB_and]; exact h3), rfl, rfl⟩
          · simp [-List.mapM_map, Store.frz, frzObs, frzOb, frz_eInts, frz_loc, rfz_loc, frz_int, frz_sl, frz_ints, rfz_ints, frz_strs, frz_bytes, rfz_bytes, rfz_str, rfz_bool, frz_str, frz_bool, Env.put, Env.of, argEnv, rfz_int, List.mapM_append, List.mapM_cons, hs2, rowsOf_app, rowsOf_one, rowsOf_two, rfz_eIntss, take_eq, tk_le]
          · simp [-List.mapM_map, Store.frz, frzObs, frzOb, frz_eInts, frz_loc, rfz_loc, frz_int, frz_sl, frz_ints, rfz_ints, frz_strs, frz_bytes, rfz_bytes, rfz_str, rfz_bool, frz_str, frz_bool, Env.put, Env.of, argEnv, rfz_int, List.mapM_append, List.mapM_cons, hs2, rowsOf_app, rowsOf_one, rowsOf_two, rfz_eIntss, take_eq, tk_le]
        · try simp only [RL] at h5
          have h5n : ¬ (d = false ∧ w < xa) := by simpa using h5
          have hs2 : putF (l.take (i + 1)) w h = (o ++ [(xa, xb)], d) := by rw [hsu, putStep, if_neg h4n, if_neg h5n]
          have htk : True := trivial
          refine W.skip ?_
          refine XThen.norm ?_
          refine W.region_k fun K hK => ?_
          simp (disch := omega) only [↓RU, RV, RH, ↓reduceIte, Nat.reduceEqDiff, reduceCtorEq, if_pos, ↓RS, RG, Nat.reduceAdd, Nat.reduceMul, Nat.reduceLeDiff, tyLLint, tyLint, tyint, Int.toNat_zero, Nat.zero_mul, Int.reduceToNat, Nat.reduceMul, Nat.zero_add, Nat.mul_one, hxr, hrl, hro, htk, List.length_append, List.length_map, List.length_cons, List.length_nil]
          refine hK _ _ ?_
          clear hK K
          refine XBlock.norm ?_
          refine XThen.norm ?_
          refine W.region_k fun K hK => ?_
          simp (disch := omega) only [↓RU, RV, RH, ↓reduceIte, Nat.reduceEqDiff, reduceCtorEq, if_pos, w64, ↓RS, RG, Nat.reduceAdd, Nat.reduceMul, Nat.reduceLeDiff, tyint]
          refine hK _ _ ?_
          clear hK K
          refine XThen.norm ?_
          refine ⟨l.length - (i + 1), by omega, 1, [eShps l, .int .i64 w, .int .i64 h, .loc 0 (tk + 1) 0 (putF (l.take (i + 1)) w h).1.length, .bool (putF (l.take (i + 1)) w h).2, .int .i64 (i + 1)], ⟨[.arr (tk + 1) 30 1 ((rowsOf (putF (l.take (i + 1)) w h).1).map eInts)], (tk + 2)⟩, ?_, ?_, (i + 1), tk + 1, tk + 2, rfl, by omega, anyf_tk hx hall (by rw [domB_and]; exact h3), rfl, rfl⟩
          · simp [-List.mapM_map, Store.frz, frzObs, frzOb, frz_eInts, frz_loc, rfz_loc, frz_int, frz_sl, frz_ints, rfz_ints, frz_strs, frz_bytes, rfz_bytes, rfz_str, rfz_bool, frz_str, frz_bool, Env.put, Env.of, argEnv, rfz_int, List.mapM_append, List.mapM_cons, hs2, rowsOf_app, rowsOf_one, rowsOf_two, rfz_eIntss, take_eq, tk_le]
          · simp [-List.mapM_map, Store.frz, frzObs, frzOb, frz_eInts, frz_loc, rfz_loc, frz_int, frz_sl, frz_ints, rfz_ints, frz_strs, frz_bytes, rfz_bytes, rfz_str, rfz_bool, frz_str, frz_bool, Env.put, Env.of, argEnv, rfz_int, List.mapM_append, List.mapM_cons, hs2, rowsOf_app, rowsOf_one, rowsOf_two, rfz_eIntss, take_eq, tk_le]
  · try simp only [RL] at h0
    obtain rfl : i = l.length := by omega
    have hpl := (putF_inv (l := l) (w := w) (h := h) l.length (Nat.le_refl _)).2.2.2
    rw [List.take_length] at hall hpl ⊢
    have hput : put l w h = if (putF l w h).2 then (putF l w h).1 else (putF l w h).1 ++ [(w, h)] := by unfold put; rw [hall]; rfl
    generalize putF l w h = s at hpl hput ⊢
    obtain ⟨o, d⟩ := s
    simp only at hpl hput ⊢
    have hol : o.length ≤ 1048577 := by split at hpl <;> omega
    have hro := rowsOf_len (l := o)
    refine W.exit ?_
    refine XThen.exit ?_
    refine XThen.exit ?_
    refine XBlock.hit ?_
    refine XThen.norm ?_
    refine W.seq ?_
    refine W.seq_region fun K hK => ?_
    simp (disch := omega) only [↓RU, RV, RH, ↓reduceIte, Nat.reduceEqDiff, reduceCtorEq, if_pos, ↓RS, RG, Nat.reduceAdd, Nat.reduceMul, Nat.reduceLeDiff]
    refine hK _ _ ?_
    clear hK K
    refine W.cond rfl (fun h6 => ?_) (fun h6 => ?_)
    · try simp only [RL] at h6
      refine W.region_k fun K hK => ?_
      simp (disch := omega) only [↓RU, RV, RH, ↓reduceIte, Nat.reduceEqDiff, reduceCtorEq, if_pos, ↓RS, RG, Nat.reduceAdd, Nat.reduceMul, Nat.reduceLeDiff, tyLLint, tyLint, tyint]
      refine hK _ _ ?_
      clear hK K
      refine XThen.norm ?_
      refine W.seq_region fun K hK => ?_
      simp (disch := omega) only [↓RU, RV, RH, ↓reduceIte, Nat.reduceEqDiff, reduceCtorEq, if_pos, ↓RS, RG, Nat.reduceAdd, Nat.reduceMul, Nat.reduceLeDiff]
      refine hK _ _ ?_
      clear hK K
      refine W.ret ?_
      refine BodyQ.ret rfl ?_
      have hd : d = false := by simpa using h6
      rw [hput, hd, if_neg Bool.false_ne_true]
      exact (reify_loc (k := 9) (n := o.length + 1) rfl (by simp [hro]) (rows_snoc (k := 7) (q := [w, h]) (reify_loc (k := 8) (n := 2) rfl rfl (mapM_int [w, h])))).trans (by simp [rowsOf_app, rowsOf])
    · try simp only [RL] at h6
      refine W.skip ?_
      refine XThen.norm ?_
      refine W.seq_region fun K hK => ?_
      simp (disch := omega) only [↓RU, RV, RH, ↓reduceIte, Nat.reduceEqDiff, reduceCtorEq, if_pos, ↓RS, RG, Nat.reduceAdd, Nat.reduceMul, Nat.reduceLeDiff]
      refine hK _ _ ?_
      clear hK K
      refine W.ret ?_
      refine BodyQ.ret rfl ?_
      have hd : d = true := by simpa using h6
      rw [hput, hd, if_pos rfl]
      exact (reify_loc (k := 9) (n := o.length) rfl (by simp [hro]) (mapM_ints2 _))

theorem l8All_pc {p : List Txt} (hs : Sm p) {ws ht : List Int} (hg : given8 p ws ht = true) : PC Try.prog 65 [eStrs p, eInts ws, eInts ht] (eShps (allP (shS p ws ht) (2 ^ ws.length))) false := by
  obtain ⟨h1, h2, h8⟩ := given8_ok hg
  have hp8 := pow8 h8
  obtain ⟨N, hN⟩ : ∃ N : Nat, 2 ^ ws.length = N := ⟨_, rfl⟩
  have hsh := w_shl (b := ws.length) (by omega)
  rw [hN] at hp8 hsh ⊢
  refine PC.of ⟨Try.func65, by kernel_rfl, rfl, by kernel_rfl⟩ tabOk mixed (by show 3 ≤ Try.f65.ntmps; decide) ?_
  refine W.seq_region fun K hK => ?_
  simp (disch := omega) only [↓RU, RV, RH, ↓reduceIte, Nat.reduceEqDiff, reduceCtorEq, if_pos, ↓RS, RG, Nat.reduceAdd, Nat.reduceMul, Nat.reduceLeDiff]
  refine hK _ _ ?_
  clear hK K
  refine W.seq_region fun K hK => ?_
  simp (disch := omega) only [↓RU, RV, RH, ↓reduceIte, Nat.reduceEqDiff, reduceCtorEq, if_pos, ↓RS, RG, Nat.reduceAdd, Nat.reduceMul, Nat.reduceLeDiff, tyLLint, tyLint, tyint]
  refine hK _ _ ?_
  clear hK K
  refine W.seq ?_
  refine W.seq_region fun K hK => ?_
  simp (disch := omega) only [↓RU, RV, RH, ↓reduceIte, Nat.reduceEqDiff, reduceCtorEq, if_pos, ↓RS, RG, Nat.reduceAdd, Nat.reduceMul, Nat.reduceLeDiff]
  refine hK _ _ ?_
  clear hK K
  refine W.block ?_
  refine W.loopZ [0, 1, 2, 7, 8] (fun n vs S => ∃ k tk : Nat, n = N - k ∧ k ≤ N ∧ vs = [eStrs p, eInts ws, eInts ht, eShps (allP (shS p ws ht) k), .int .i64 k] ∧ S = ⟨[], tk⟩) N ?_ ?_
  · refine ⟨0, [eStrs p, eInts ws, eInts ht, eShps (allP (shS p ws ht) 0), .int .i64 (0 : Nat)], ⟨[], 1⟩, ?_, ?_, 0, 1, rfl, by omega, rfl, rfl⟩
    · simp [-List.mapM_map, Store.frz, frzObs, frzOb, frz_eInts, frz_loc, rfz_loc, frz_int, frz_sl, frz_ints, rfz_ints, frz_strs, frz_bytes, rfz_bytes, rfz_str, rfz_bool, frz_str, frz_bool, Env.put, Env.of, argEnv, rfz_int, List.mapM_append, List.mapM_cons, allP, rowsOf]
    · simp [-List.mapM_map, Store.frz, frzObs, frzOb, frz_eInts, frz_loc, rfz_loc, frz_int, frz_sl, frz_ints, rfz_ints, frz_strs, frz_bytes, rfz_bytes, rfz_str, rfz_bool, frz_str, frz_bool, Env.put, Env.of, argEnv, rfz_int, List.mapM_append, List.mapM_cons]
  rintro n vs S - ⟨k, tk, rfl, h_k, rfl, rfl⟩
  refine W.seq ?_
  refine W.seq_region fun K hK => ?_
  simp (disch := omega) only [↓RU, RV, RH, ↓reduceIte, Nat.reduceEqDiff, reduceCtorEq, if_pos, w64, ↓RS, RG, Nat.reduceAdd, Nat.reduceMul, Nat.reduceLeDiff, tyLint, tyint, pShl, hsh]
  refine hK _ _ ?_
  clear hK K
  refine W.cond rfl (fun h => ?_) (fun h => ?_)
  · try simp only [RL] at h
    have hal := (allP_inv (sh := (shS p ws ht)) k).2.2
    refine W.skip ?_
    refine XThen.norm ?_
    refine W.seq ?_
    refine W.block ?_
    refine W.seq_region fun K hK => ?_
    simp (disch := omega) only [↓RU, RV, RH, ↓reduceIte, Nat.reduceEqDiff, reduceCtorEq, if_pos, List.append_nil, ↓RS, RG, Nat.reduceAdd, Nat.reduceMul, Nat.reduceLeDiff]
    refine CallR.pc (l8Shape_pc hs h1 h2 (set := k) (by omega)) rfl (.inl rfl) ?_
    simp (disch := omega) only [↓RU, RV, RH, ↓reduceIte, Nat.reduceEqDiff, reduceCtorEq, if_pos, List.append_nil, ↓RS, RG, Nat.reduceAdd, Nat.reduceMul, Nat.reduceLeDiff]
    refine hK _ _ ?_
    clear hK K
    refine W.region_k fun K hK => ?_
    simp (disch := omega) only [↓RU, RV, RH, ↓reduceIte, Nat.reduceEqDiff, reduceCtorEq, if_pos, List.append_nil, ↓RS, RG, Nat.reduceAdd, Nat.reduceMul, Nat.reduceLeDiff]
    refine CallR.pc (l8Put_pc (l := allP (shS p ws ht) k) (by omega) _ _) rfl (.inr rfl) ?_
    simp (disch := omega) only [↓RU, RV, RH, ↓reduceIte, Nat.reduceEqDiff, reduceCtorEq, if_pos, List.append_nil, ↓RS, RG, Nat.reduceAdd, Nat.reduceMul, Nat.reduceLeDiff]
    refine hK _ _ ?_
    clear hK K
    refine XBlock.norm ?_
    refine XThen.norm ?_
    refine W.region_k fun K hK => ?_
    simp (disch := omega) only [↓RU, RV, RH, ↓reduceIte, Nat.reduceEqDiff, reduceCtorEq, if_pos, w64, ↓RS, RG, Nat.reduceAdd, Nat.reduceMul, Nat.reduceLeDiff, tyint]
    refine hK _ _ ?_
    clear hK K
    refine XThen.norm ?_
    refine ⟨N - (k + 1), by omega, 0, [eStrs p, eInts ws, eInts ht, eShps (allP (shS p ws ht) (k + 1)), .int .i64 ((k + 1 : Nat) : Int)], ⟨[], tk⟩, ?_, ?_, k + 1, tk, rfl, by omega, rfl, rfl⟩
    · simp [-List.mapM_map, Store.frz, frzObs, frzOb, frz_eInts, frz_loc, rfz_loc, frz_int, frz_sl, frz_ints, rfz_ints, frz_strs, frz_bytes, rfz_bytes, rfz_str, rfz_bool, frz_str, frz_bool, Env.put, Env.of, argEnv, rfz_int, List.mapM_append, List.mapM_cons, allP_succ]
    · simp [-List.mapM_map, Store.frz, frzObs, frzOb, frz_eInts, frz_loc, rfz_loc, frz_int, frz_sl, frz_ints, rfz_ints, frz_strs, frz_bytes, rfz_bytes, rfz_str, rfz_bool, frz_str, frz_bool, Env.put, Env.of, argEnv, rfz_int, List.mapM_append, List.mapM_cons]
  · try simp only [RL] at h
    obtain rfl : k = N := by omega
    refine W.exit ?_
    refine XThen.exit ?_
    refine XThen.exit ?_
    refine XBlock.hit ?_
    refine XThen.norm ?_
    refine W.seq_region fun K hK => ?_
    simp (disch := omega) only [↓RU, RV, RH, ↓reduceIte, Nat.reduceEqDiff, reduceCtorEq, if_pos, ↓RS, RG, Nat.reduceAdd, Nat.reduceMul, Nat.reduceLeDiff]
    refine hK _ _ ?_
    clear hK K
    refine W.ret ?_
    refine BodyQ.ret rfl ?_
    rfl

def msF (l : List (Int × Int)) (x0 : Int × Int) (i : Nat) : Int := ((l.take i).drop 1).foldl (fun m x => min m (sideF x)) (sideF x0)
theorem msF_one {l : List (Int × Int)} {x0 : Int × Int} : msF l x0 1 = sideF x0 := by
  unfold msF; rw [List.drop_of_length_le (by simp; omega)]; rfl
theorem msF_succ {l : List (Int × Int)} {x0 x : Int × Int} {i : Nat} (h1 : 1 ≤ i) (h : l[i]? = some x) : msF l x0 (i + 1) = min (msF l x0 i) (sideF x) := by
  have hi := len_of h
  unfold msF
  rw [tk h, List.drop_append_of_le_length (by simp; omega), List.foldl_append]; rfl
theorem msF_end {l : List (Int × Int)} {x0 : Int × Int} {i : Nat} (h0 : l[0]? = some x0) (hi : l.length ≤ i) : msF l x0 i = minS l := by
  unfold msF
  rw [List.take_of_length_le hi]
  cases l with
  | nil => simp at h0
  | cons a l => simp at h0; subst h0; rfl

theorem sShapeSquare_pc {p : List Txt} (hs : Sm p) {ws ht : List Int} (hw : ws.length ≤ 1048576) (hh : ht.length ≤ 1048576) : PC Try.prog 40 [eStrs p, eInts ws, eInts ht] (.tup [.int .i64 (if given8 p ws ht then minS (allP (shS p ws ht) (2 ^ ws.length)) else 0), .bool (given8 p ws ht)]) true := by
  refine PC.of ⟨Try.func40, by kernel_rfl, rfl, by kernel_rfl⟩ tabOk mixed (by show 3 ≤ Try.f40.ntmps; decide) ?_
  refine W.seq_region fun K hK => ?_
  simp (disch := omega) only [↓RU, RV, RH, ↓reduceIte, Nat.reduceEqDiff, reduceCtorEq, if_pos, ↓RS, RG, Nat.reduceAdd, Nat.reduceMul, Nat.reduceLeDiff]
  refine hK _ _ ?_
  clear hK K
  refine W.seq ?_
  refine W.seq_region fun K hK => ?_
  simp (disch := omega) only [↓RU, RV, RH, ↓reduceIte, Nat.reduceEqDiff, reduceCtorEq, if_pos, List.append_nil, ↓RS, RG, Nat.reduceAdd, Nat.reduceMul, Nat.reduceLeDiff]
  refine CallR.pc (l8Given_pc hs hw hh) rfl (.inl rfl) ?_
  simp (disch := omega) only [↓RU, RV, RH, ↓reduceIte, Nat.reduceEqDiff, reduceCtorEq, if_pos, List.append_nil, ↓RS, RG, Nat.reduceAdd, Nat.reduceMul, Nat.reduceLeDiff]
  refine hK _ _ ?_
  clear hK K
  refine W.cond rfl (fun h0 => ?_) (fun h0 => ?_)
  · try simp only [RL] at h0
    have hg : given8 p ws ht = false := by simpa using h0
    refine W.seq_region fun K hK => ?_
    simp (disch := omega) only [↓RU, RV, RH, ↓reduceIte, Nat.reduceEqDiff, reduceCtorEq, if_pos, ↓RS, RG, Nat.reduceAdd, Nat.reduceMul, Nat.reduceLeDiff]
    refine hK _ _ ?_
    clear hK K
    refine W.ret ?_
    refine XThen.ret ?_
    refine BodyQ.ret rfl ?_
    simp only [hg, Bool.false_eq_true, if_false]
    rfl
  · try simp only [RL] at h0
    have hg : given8 p ws ht = true := by simpa using h0
    obtain ⟨h1, h2, h8⟩ := given8_ok hg
    have hp8 := pow8 h8
    obtain ⟨N, hN⟩ : ∃ N : Nat, 2 ^ ws.length = N := ⟨_, rfl⟩
    rw [hN] at hp8
    have hne := allP_ne (sh := (shS p ws ht)) hp8.1
    have hall := (allP_inv (sh := (shS p ws ht)) N)
    have hal := l8All_pc hs hg
    rw [hN] at hal ⊢
    generalize hAe : allP (shS p ws ht) N = L at hne hall hal ⊢
    obtain ⟨-, -, hlen⟩ := hall
    obtain ⟨⟨a0, b0⟩, hx0, -⟩ := get_of (List.length_pos_iff.2 hne)
    have hr0 := rowsOf_at hx0
    simp only at hr0
    have hrl := rowsOf_len (l := L)
    have hL0 := List.length_pos_iff.2 hne
    refine W.skip ?_
    refine XThen.norm ?_
    refine W.seq_region fun K hK => ?_
    simp (disch := omega) only [↓RU, RV, RH, ↓reduceIte, Nat.reduceEqDiff, reduceCtorEq, if_pos, List.append_nil, ↓RS, RG, Nat.reduceAdd, Nat.reduceMul, Nat.reduceLeDiff]
    refine CallR.pc (hal) rfl (.inr rfl) ?_
    simp (disch := omega) only [↓RU, RV, RH, ↓reduceIte, Nat.reduceEqDiff, reduceCtorEq, if_pos, List.append_nil, ↓RS, RG, Nat.reduceAdd, Nat.reduceMul, Nat.reduceLeDiff]
    refine hK _ _ ?_
    clear hK K
    refine W.seq_draw (by kernel_rfl) fun K hK => ?_
    simp (disch := omega) only [↓RU, RV, RH, ↓reduceIte, Nat.reduceEqDiff, reduceCtorEq, if_pos, ite_max, ↓RS, RG, Nat.reduceAdd, Nat.reduceMul, Nat.reduceLeDiff, tyLLint, tyLint, tyint, Int.toNat_zero, Nat.zero_mul, Int.reduceToNat, Nat.reduceMul, Nat.zero_add, Nat.mul_one, hr0, hrl]
    refine hK _ _ ?_
    clear hK K
    rw [show max a0 b0 = sideF (a0, b0) from rfl]
    refine W.seq ?_
    refine W.seq_region fun K hK => ?_
    simp (disch := omega) only [↓RU, RV, RH, ↓reduceIte, Nat.reduceEqDiff, reduceCtorEq, if_pos, ↓RS, RG, Nat.reduceAdd, Nat.reduceMul, Nat.reduceLeDiff]
    refine hK _ _ ?_
    clear hK K
    refine W.block ?_
    refine W.loop [8, 9, 10] (fun n vs S => ∃ i : Nat, n = L.length - i ∧ i ≤ L.length ∧ (1 ≤ i) ∧ vs = [eShps L, .int .i64 (msF L (a0, b0) i), .int .i64 i] ∧ S = ⟨[], 0⟩) (L.length - 1) ?_ ?_
    · refine ⟨0, 1, rfl, by omega, Nat.le_refl _, ?_, rfl⟩
      simp [Env.put, Env.of, argEnv, msF_one]
    rintro n vs S - ⟨i, rfl, h_i, h1i, rfl, rfl⟩
    refine W.seq ?_
    refine W.seq_region fun K hK => ?_
    simp (disch := omega) only [↓RU, RV, RH, ↓reduceIte, Nat.reduceEqDiff, reduceCtorEq, if_pos, w64, ↓RS, RG, Nat.reduceAdd, Nat.reduceMul, Nat.reduceLeDiff, tyLLint, tyLint, tyint]
    refine hK _ _ ?_
    clear hK K
    refine W.cond rfl (fun h1 => ?_) (fun h1 => ?_)
    · try simp only [RL] at h1
      obtain ⟨⟨xa, xb⟩, hx, -⟩ := get_of (show i < L.length by omega)
      have hxr := rowsOf_at hx
      simp only at hxr
      refine W.skip ?_
      refine XThen.norm ?_
      refine W.seq ?_
      refine W.block ?_
      refine W.draw_k (by kernel_rfl) fun K hK => ?_
      simp (disch := omega) only [↓RU, RV, RH, ↓reduceIte, Nat.reduceEqDiff, reduceCtorEq, if_pos, ite_max, ite_min, ↓RS, RG, Nat.reduceAdd, Nat.reduceMul, Nat.reduceLeDiff, tyLLint, tyLint, tyint, Int.toNat_zero, Nat.zero_mul, Int.reduceToNat, Nat.reduceMul, Nat.zero_add, Nat.mul_one, hxr, hrl]
      refine hK _ _ ?_
      clear hK K
      refine XBlock.norm ?_
      refine XThen.norm ?_
      refine W.region_k fun K hK => ?_
      simp (disch := omega) only [↓RU, RV, RH, ↓reduceIte, Nat.reduceEqDiff, reduceCtorEq, if_pos, w64, ↓RS, RG, Nat.reduceAdd, Nat.reduceMul, Nat.reduceLeDiff, tyint]
      refine hK _ _ ?_
      clear hK K
      refine XThen.norm ?_
      refine ⟨L.length - (i + 1), by omega, 0, i + 1, rfl, by omega, by omega, ?_, rfl⟩
      rw [msF_succ h1i hx]
      simp [Env.put, Env.of, sideF]
    · try simp only [RL] at h1
      obtain rfl : i = L.length := by omega
      rw [msF_end hx0 (Nat.le_refl _)]
      refine W.exit ?_
      refine XThen.exit ?_
      refine XThen.exit ?_
      refine XBlock.hit ?_
      refine XThen.norm ?_
      refine W.seq_region fun K hK => ?_
      simp (disch := omega) only [↓RU, RV, RH, ↓reduceIte, Nat.reduceEqDiff, reduceCtorEq, if_pos, ↓RS, RG, Nat.reduceAdd, Nat.reduceMul, Nat.reduceLeDiff]
      refine hK _ _ ?_
      clear hK K
      refine W.ret ?_
      refine BodyQ.ret rfl ?_
      simp only [hg, if_true]
      rfl

end Fw
end Go.Proofs.Ytmhcknpjgikgmaa

/-! A relation the other way round, place by place. -/
namespace Go.Proofs.Ytmhcknpjgikgmaa
namespace Fw
open Go

section
variable {n : Nat} {M X : List (List Bool)}
def rvB (M : List (List Bool)) (a : Nat) (X : List (List Bool)) (b : Nat) : List (List Bool) := setB X b a (getB M a b)
def rvA (n : Nat) (M : List (List Bool)) (X : List (List Bool)) (a : Nat) : List (List Bool) := (List.range n).foldl (rvB M a) X
def rv (n : Nat) (M : List (List Bool)) : List (List Bool) := (List.range n).foldl (rvA n M) (emptyM n)
theorem Sq.rvB (h : Sq n X) {a b : Nat} (hb : b < n) : Sq n (rvB M a X b) := h.set hb
theorem rvA_to (h : Sq n X) {a : Nat} (ha : a < n) : ∀ i, i ≤ n → Sq n ((List.range i).foldl (rvB M a) X) ∧ ∀ x y, getB ((List.range i).foldl (rvB M a) X) x y = if y = a ∧ x < i then getB M a x else getB X x y
  | 0, _ => ⟨h, fun x y => by simp⟩
  | i + 1, hi => by
    obtain ⟨h1, h2⟩ := rvA_to h ha i (by omega)
    rw [foldl_rg]
    refine ⟨h1.rvB (by omega), fun x y => ?_⟩
    unfold Fw.rvB at h1 h2 ⊢
    rw [getB_setB h1 (by omega) ha, h2]
    by_cases e1 : y = a
    · by_cases e2 : x = i
      · subst e1 e2; rw [if_pos ⟨rfl, rfl⟩, if_pos ⟨rfl, by omega⟩]
      · rw [if_neg (fun q => e2 q.1)]
        by_cases e3 : x < i
        · rw [if_pos ⟨e1, e3⟩, if_pos ⟨e1, by omega⟩]
        · rw [if_neg (fun q => e3 q.2), if_neg (fun q => e3 (by have := q.2; omega))]
    · rw [if_neg (fun q => e1 q.2), if_neg (fun q => e1 q.1), if_neg (fun q => e1 q.1)]
theorem emptyM_get {x y : Nat} : getB (emptyM n) x y = false := by
  unfold getB emptyM
  rw [List.getElem?_replicate]
  split
  · rw [Option.getD_some, List.getElem?_replicate]; split <;> rfl
  · rfl
theorem rv_to : ∀ k, k ≤ n → Sq n ((List.range k).foldl (rvA n M) (emptyM n)) ∧ ∀ x y, x < n → getB ((List.range k).foldl (rvA n M) (emptyM n)) x y = if y < k then getB M y x else false
  | 0, _ => ⟨emptyM_sq n, fun x y _ => by simp [emptyM_get]⟩
  | k + 1, hk => by
    obtain ⟨h1, h2⟩ := rv_to k (by omega)
    rw [foldl_rg]
    generalize (List.range k).foldl (rvA n M) (emptyM n) = Y at h1 h2 ⊢
    obtain ⟨h3, h4⟩ := rvA_to (M := M) h1 (show k < n by omega) n (Nat.le_refl _)
    refine ⟨h3, fun x y hx => ?_⟩
    unfold rvA
    rw [h4, h2 x y hx]
    by_cases e : y = k
    · subst e; rw [if_pos ⟨rfl, hx⟩, if_pos (by omega)]
    · rw [if_neg (fun q => e q.1)]
      by_cases e2 : y < k
      · rw [if_pos e2, if_pos (by omega)]
      · rw [if_neg e2, if_neg (by omega)]
theorem Sq.ext {Y : List (List Bool)} (h : Sq n X) (k : Sq n Y) (e : ∀ x y, x < n → y < n → getB X x y = getB Y x y) : X = Y := by
  apply List.ext_getElem?
  intro x
  by_cases hx : x < n
  · obtain ⟨r, hr, hrm⟩ := get_of (show x < X.length by rw [h.1]; exact hx)
    obtain ⟨s, hs, hsm⟩ := get_of (show x < Y.length by rw [k.1]; exact hx)
    rw [hr, hs]
    congr 1
    have hrl := h.2 r hrm
    have hsl := k.2 s hsm
    apply List.ext_getElem?
    intro y
    by_cases hy : y < n
    · have := e x y hx hy
      unfold getB at this
      rw [hr, hs, Option.getD_some, Option.getD_some] at this
      obtain ⟨u, hu, -⟩ := get_of (show y < r.length by omega)
      obtain ⟨v, hv, -⟩ := get_of (show y < s.length by omega)
      rw [hu, hv] at this ⊢
      simpa using this
    · rw [List.getElem?_eq_none (by omega), List.getElem?_eq_none (by omega)]
  · rw [List.getElem?_eq_none (by rw [h.1]; omega), List.getElem?_eq_none (by rw [k.1]; omega)]
theorem rv_eq : rv n M = revM n M := by
  obtain ⟨h1, h2⟩ := rv_to (M := M) n (Nat.le_refl n)
  unfold rv
  refine h1.ext revM_sq fun x y hx hy => ?_
  rw [h2 x y hx, if_pos hy, revM_get hx hy]
theorem getI_hv {ws : List Int} {b : Nat} (hb : b < n) : getI (heaviest M ws n) b = HB M ws n b := getI_is (hv_at hb)
/-- Slack, place by place. -/
theorem slackI_take {ws : List Int} {i : Nat} (hi : i < n) {x : Int} (hx : ws[i]? = some x) : (slackI M ws n)[i]? = some (maxL (heaviest M ws n) - HB (revM n M) ws n i - (HB M ws n i - x)) := by
  unfold slackI
  rw [List.getElem?_map, List.getElem?_range hi]
  simp only [Option.map_some, slackF, getI_is hx]
theorem slackI_len {ws : List Int} : (slackI M ws n).length = n := by simp [slackI]
end
end Fw
end Go.Proofs.Ytmhcknpjgikgmaa

/-! Places and slack by the program, gone through. -/
namespace Go.Proofs.Ytmhcknpjgikgmaa
namespace Fw
open Go

theorem reversed_pc {M : List (List Bool)} {nr : Nat} (hM : Sq nr M) (hn : nr ≤ 9) : PC Try.prog 59 [eRel M] (eRel (revM nr M)) true := by
  have hM1 := hM.1
  refine PC.of ⟨Try.func59, by kernel_rfl, rfl, by kernel_rfl⟩ tabOk mixed (by show 1 ≤ Try.f59.ntmps; decide) ?_
  refine W.seq_region fun K hK => ?_
  simp (disch := omega) only [↓RU, RV, RH, ↓reduceIte, Nat.reduceEqDiff, reduceCtorEq, if_pos, ↓RS, RG, Nat.reduceAdd, Nat.reduceMul, Nat.reduceLeDiff]
  refine hK _ _ ?_
  clear hK K
  refine W.seq_region fun K hK => ?_
  simp (disch := omega) only [↓RU, RV, RH, ↓reduceIte, Nat.reduceEqDiff, reduceCtorEq, if_pos, List.append_nil, ↓RS, RG, Nat.reduceAdd, Nat.reduceMul, Nat.reduceLeDiff, tyLLbool, tyLbool, tybool, tyimpl_relation, hM1]
  refine CallR.pn (emptyRel_pn hn) rfl (.inl rfl) ?_
  simp (disch := omega) only [↓RU, RV, RH, ↓reduceIte, Nat.reduceEqDiff, reduceCtorEq, if_pos, List.append_nil, ↓RS, RG, Nat.reduceAdd, Nat.reduceMul, Nat.reduceLeDiff, tyLLbool, tyLbool, tybool, tyimpl_relation, hM1, RN]
  refine hK _ _ ?_
  clear hK K
  refine W.seq ?_
  refine W.seq_region fun K hK => ?_
  simp (disch := omega) only [↓RU, RV, RH, ↓reduceIte, Nat.reduceEqDiff, reduceCtorEq, if_pos, ↓RS, RG, Nat.reduceAdd, Nat.reduceMul, Nat.reduceLeDiff, tyLLbool, tyLbool, tybool, tyimpl_relation, hM1]
  refine hK _ _ ?_
  clear hK K
  refine W.block ?_
  refine W.loop [0, 3, 10, 11] (fun n vs S => ∃ (a t tk : Nat) (F R : List Ob), n = nr - a ∧ a ≤ nr ∧ F = [] ∧ R = [] ∧ vs = [eRel M, .loc F.length t 0 nr, .int .i64 nr, .int .i64 a] ∧ S = ⟨F ++ (relObs F.length t ((List.range a).foldl (rvA nr M) (emptyM nr)) ++ R), tk⟩) nr ?_ ?_
  · refine ⟨_, 0, 0, 1, [], [], rfl, by omega, rfl, rfl, ?_, take_all_of (by rw [up_rel]; simp)⟩
    simp [Env.put, Env.of, argEnv, hM1]
  rintro n vs S - ⟨a, t, tk, F, R, rfl, h_a, hF, hR, rfl, rfl⟩
  refine W.seq_region fun K hK => ?_
  simp (disch := omega) only [↓RU, RV, RH, ↓reduceIte, Nat.reduceEqDiff, reduceCtorEq, if_pos, w64, ↓RS, RG, Nat.reduceAdd, Nat.reduceMul, Nat.reduceLeDiff, tyint]
  refine hK _ _ ?_
  clear hK K
  refine W.seq ?_
  refine W.cond rfl (fun h => ?_) (fun h => ?_)
  · try simp only [RL] at h
    have hX := rv_to (M := M) a h_a
    generalize hXe : (List.range a).foldl (rvA nr M) (emptyM nr) = X at hX
    obtain ⟨hX, -⟩ := hX
    refine W.skip ?_
    refine XThen.norm ?_
    refine W.seq ?_
    refine W.block ?_
    refine W.seq_region fun K hK => ?_
    simp (disch := omega) only [↓RU, RV, RH, ↓reduceIte, Nat.reduceEqDiff, reduceCtorEq, if_pos, ↓RS, RG, Nat.reduceAdd, Nat.reduceMul, Nat.reduceLeDiff]
    refine hK _ _ ?_
    clear hK K
    refine W.seq_region fun K hK => ?_
    simp (disch := omega) only [↓RU, RV, RH, ↓reduceIte, Nat.reduceEqDiff, reduceCtorEq, if_pos, ↓RS, RG, Nat.reduceAdd, Nat.reduceMul, Nat.reduceLeDiff, tyLLbool, tyLbool, tybool, tyimpl_relation, hM1]
    refine hK _ _ ?_
    clear hK K
    refine W.block ?_
    refine W.loop [0, 3, 10, 11, 4, 15, 16] (fun n vs S => ∃ (b t tk : Nat) (F R : List Ob), n = nr - b ∧ b ≤ nr ∧ F = [] ∧ R = [] ∧ vs = [eRel M, .loc F.length t 0 nr, .int .i64 nr, .int .i64 a, .int .i64 a, .int .i64 nr, .int .i64 b] ∧ S = ⟨F ++ (relObs F.length t ((List.range b).foldl (rvB M a) X) ++ R), tk⟩) nr ?_ ?_
    · refine ⟨_, 0, _, _, F, R, rfl, by omega, hF, hR, ?_, take_all_of rfl⟩
      simp [Env.put, Env.of, argEnv, hM1]
    rintro n vs S - ⟨b, t, tk, F, R, rfl, h_b, hF, hR, rfl, rfl⟩
    refine W.seq_region fun K hK => ?_
    simp (disch := omega) only [↓RU, RV, RH, ↓reduceIte, Nat.reduceEqDiff, reduceCtorEq, if_pos, w64, ↓RS, RG, Nat.reduceAdd, Nat.reduceMul, Nat.reduceLeDiff, tyint]
    refine hK _ _ ?_
    clear hK K
    refine W.seq ?_
    refine W.cond rfl (fun h1 => ?_) (fun h1 => ?_)
    · try simp only [RL] at h1
      have hY := rvA_to (M := M) hX (show a < nr by omega) b h_b
      generalize hYe : (List.range b).foldl (rvB M a) X = Y at hY
      obtain ⟨hY, -⟩ := hY
      have hYl := hY.1
      obtain ⟨ra, hra, hral, -⟩ := hY.at_ (show b < nr by omega) (show a < nr by omega)
      obtain ⟨rb, hrb0, hrbl, hrb⟩ := hM.at_ (show a < nr by omega) (show b < nr by omega)
      refine W.skip ?_
      refine XThen.norm ?_
      refine W.seq ?_
      refine W.block ?_
      refine W.seq_region fun K hK => ?_
      simp (disch := omega) only [↓RU, RV, RH, ↓reduceIte, Nat.reduceEqDiff, reduceCtorEq, if_pos, ↓RS, RG, Nat.reduceAdd, Nat.reduceMul, Nat.reduceLeDiff]
      refine hK _ _ ?_
      clear hK K
      refine W.draw_k (by kernel_rfl) fun K hK => ?_
      simp (disch := omega) only [↓RU, RV, RH, ↓reduceIte, Nat.reduceEqDiff, reduceCtorEq, if_pos, ↓RS, RG, Nat.reduceAdd, Nat.reduceMul, Nat.reduceLeDiff, tyLLbool, tyLbool, tybool, tyimpl_relation, hYe, rel0 hYl, rg_get, relR hra, hrb0, hrb, hrbl, hral, set_spl, set_bool, relSet hYl, hM1]
      refine hK _ _ ?_
      clear hK K
      refine XBlock.norm ?_
      refine XThen.norm ?_
      refine W.region_k fun K hK => ?_
      simp (disch := omega) only [↓RU, RV, RH, ↓reduceIte, Nat.reduceEqDiff, reduceCtorEq, if_pos, w64, ↓RS, RG, Nat.reduceAdd, Nat.reduceMul, Nat.reduceLeDiff, tyint]
      refine hK _ _ ?_
      clear hK K
      refine XThen.norm ?_
      refine ⟨nr - (b + 1), by omega, _, b + 1, t, tk, F, R, rfl, by omega, hF, hR, ?_, take_all_of (by rw [foldl_rg, hYe, rvB, setB_is hra])⟩
      simp [Env.put, Env.of]
    · try simp only [RL] at h1
      obtain rfl : nr = b := by omega
      refine W.exit ?_
      refine XThen.exit ?_
      refine XThen.exit ?_
      refine XBlock.hit ?_
      refine XBlock.norm ?_
      refine XThen.norm ?_
      refine W.region_k fun K hK => ?_
      simp (disch := omega) only [↓RU, RV, RH, ↓reduceIte, Nat.reduceEqDiff, reduceCtorEq, if_pos, w64, ↓RS, RG, Nat.reduceAdd, Nat.reduceMul, Nat.reduceLeDiff, tyint]
      refine hK _ _ ?_
      clear hK K
      refine XThen.norm ?_
      refine ⟨nr - (a + 1), by omega, _, a + 1, t, tk, F, R, rfl, by omega, hF, hR, ?_, take_all_of (by rw [foldl_rg, hXe]; rfl)⟩
      simp [Env.put, Env.of]
  · try simp only [RL] at h
    obtain rfl : nr = a := by omega
    refine W.exit ?_
    refine XThen.exit ?_
    refine XThen.exit ?_
    refine XBlock.hit ?_
    refine XThen.norm ?_
    refine W.seq_region fun K hK => ?_
    simp (disch := omega) only [↓RU, RV, RH, ↓reduceIte, Nat.reduceEqDiff, reduceCtorEq, if_pos, ↓RS, RG, Nat.reduceAdd, Nat.reduceMul, Nat.reduceLeDiff]
    refine hK _ _ ?_
    clear hK K
    refine W.ret ?_
    refine BodyQ.ret rfl ?_
    have hr := rv_to (M := M) nr (Nat.le_refl _)
    rw [← rv_eq]
    exact reify_rel (f := 7) hr.1 (rel0 hr.1.1) (fun a row h => relR h)

theorem hv_tk {M : List (List Bool)} {ws : List Int} {n : Nat} : List.take n ((heaviest M ws n).map (PV.int .i64)) = (heaviest M ws n).map (PV.int .i64) := List.take_of_length_le (by simp [heaviest_len])
theorem rn_rep0 {S : Store} {k f n : Nat} {sel : List Nat} : (List.replicate n (PV.int .i64 0)).mapM (rn S k sel (f + 1)) = some (List.replicate n (PV.int .i64 0)) := rn_scal (by simp [List.all_replicate, scal])
theorem sh_one2 {S : Store} {im : Bool} {v et n : Nat} {b : Bool} {cells : List PV} (hS : S.obs = [.arr v et 1 cells]) (hc : cells.mapM (sh (S.take 1) im 10) = some cells) : ∃ k, sh (S.take k) im 10 (.tup [.loc 0 v 0 n, .bool b]) = some (.tup [.loc 0 0 0 n, .bool b]) ∧ shObs (S.take k) im (S.take k).obs = some [.arr 0 et 1 cells] := by
  refine ⟨1, ?_, ?_⟩
  · simp [sh, Store.take, hS]
  · simp only [Store.take, hS] at hc ⊢
    simp only [List.take_succ_cons, List.take_zero] at hc ⊢
    simp only [shObs, shOb, hc]
    rfl
theorem hv_bound2 {M : List (List Bool)} {ws : List Int} {n : Nat} (hw : NeedOk ws) (i : Nat) (x : Int) (h : (heaviest M ws n)[i]? = some x) : 0 ≤ x ∧ x ≤ 909 := by
  unfold heaviest at h
  rw [List.getElem?_map, Option.map_eq_some_iff] at h
  obtain ⟨b, -, rfl⟩ := h
  exact HB_bound hw b

theorem sizePlaces_no {p : List Txt} (hs : Sm p) {ws : List Int} (hw : ws.length ≤ 1048576) (hv : needV p [ws] = false) : PC Try.prog 22 [eStrs p, eInts ws] (.tup [eInts [], .bool false]) true := by
  refine PC.of ⟨Try.func22, by kernel_rfl, rfl, by kernel_rfl⟩ tabOk mixed (by show 2 ≤ Try.f22.ntmps; decide) ?_
  refine W.seq_region fun K hK => ?_
  simp (disch := omega) only [↓RU, RV, RH, ↓reduceIte, Nat.reduceEqDiff, reduceCtorEq, if_pos, ↓RS, RG, Nat.reduceAdd, Nat.reduceMul, Nat.reduceLeDiff]
  refine hK _ _ ?_
  clear hK K
  refine W.seq_region fun K hK => ?_
  simp (disch := omega) only [↓RU, RV, RH, ↓reduceIte, Nat.reduceEqDiff, reduceCtorEq, if_pos, List.append_nil, ↓RS, RG, Nat.reduceAdd, Nat.reduceMul, Nat.reduceLeDiff, tyLLint, tyLint, tyint, hv]
  refine CallR.ev (needing_ev hs (wss := [ws]) (by simp) (by intro a ha; rw [List.mem_singleton] at ha; subst ha; exact hw)) ?_
  rintro _ _ ⟨x, rfl, hx, rfl⟩
  simp (disch := omega) only [↓RU, RV, RH, ↓reduceIte, Nat.reduceEqDiff, reduceCtorEq, if_pos, List.append_nil, ↓RS, RG, Nat.reduceAdd, Nat.reduceMul, Nat.reduceLeDiff, tyLLint, tyLint, tyint, hv]
  refine hK _ _ ?_
  clear hK K
  refine W.seq ?_
  refine W.seq_region fun K hK => ?_
  simp (disch := omega) only [↓RU, RV, RH, ↓reduceIte, Nat.reduceEqDiff, reduceCtorEq, if_pos, ↓RS, RG, Nat.reduceAdd, Nat.reduceMul, Nat.reduceLeDiff]
  refine hK _ _ ?_
  clear hK K
  refine W.cond rfl (fun h => ?_) (fun h => ?_)
  · try simp only [RL] at h
    refine W.seq_region fun K hK => ?_
    simp (disch := omega) only [↓RU, RV, RH, ↓reduceIte, Nat.reduceEqDiff, reduceCtorEq, if_pos, ↓RS, RG, Nat.reduceAdd, Nat.reduceMul, Nat.reduceLeDiff]
    refine hK _ _ ?_
    clear hK K
    refine W.ret ?_
    refine XThen.ret ?_
    refine BodyQ.ret rfl ?_
    rfl
  · try simp only [RL] at h
    exact absurd h (by simp)

theorem sizeSlack_no {p : List Txt} (hs : Sm p) {ws : List Int} (hw : ws.length ≤ 1048576) (hv : needV p [ws] = false) : PC Try.prog 35 [eStrs p, eInts ws] (.tup [eInts [], .bool false]) true := by
  refine PC.of ⟨Try.func35, by kernel_rfl, rfl, by kernel_rfl⟩ tabOk mixed (by show 2 ≤ Try.f35.ntmps; decide) ?_
  refine W.seq_region fun K hK => ?_
  simp (disch := omega) only [↓RU, RV, RH, ↓reduceIte, Nat.reduceEqDiff, reduceCtorEq, if_pos, ↓RS, RG, Nat.reduceAdd, Nat.reduceMul, Nat.reduceLeDiff]
  refine hK _ _ ?_
  clear hK K
  refine W.seq_region fun K hK => ?_
  simp (disch := omega) only [↓RU, RV, RH, ↓reduceIte, Nat.reduceEqDiff, reduceCtorEq, if_pos, List.append_nil, ↓RS, RG, Nat.reduceAdd, Nat.reduceMul, Nat.reduceLeDiff, tyLLint, tyLint, tyint, hv]
  refine CallR.ev (needing_ev hs (wss := [ws]) (by simp) (by intro a ha; rw [List.mem_singleton] at ha; subst ha; exact hw)) ?_
  rintro _ _ ⟨x, rfl, hx, rfl⟩
  simp (disch := omega) only [↓RU, RV, RH, ↓reduceIte, Nat.reduceEqDiff, reduceCtorEq, if_pos, List.append_nil, ↓RS, RG, Nat.reduceAdd, Nat.reduceMul, Nat.reduceLeDiff, tyLLint, tyLint, tyint, hv]
  refine hK _ _ ?_
  clear hK K
  refine W.seq ?_
  refine W.seq_region fun K hK => ?_
  simp (disch := omega) only [↓RU, RV, RH, ↓reduceIte, Nat.reduceEqDiff, reduceCtorEq, if_pos, ↓RS, RG, Nat.reduceAdd, Nat.reduceMul, Nat.reduceLeDiff]
  refine hK _ _ ?_
  clear hK K
  refine W.cond rfl (fun h => ?_) (fun h => ?_)
  · try simp only [RL] at h
    refine W.seq_region fun K hK => ?_
    simp (disch := omega) only [↓RU, RV, RH, ↓reduceIte, Nat.reduceEqDiff, reduceCtorEq, if_pos, ↓RS, RG, Nat.reduceAdd, Nat.reduceMul, Nat.reduceLeDiff]
    refine hK _ _ ?_
    clear hK K
    refine W.ret ?_
    refine XThen.ret ?_
    refine BodyQ.ret rfl ?_
    rfl
  · try simp only [RL] at h
    exact absurd h (by simp)

theorem sizePlaces_yes {p : List Txt} (hs : Sm p) {ws : List Int} (hw : ws.length ≤ 1048576) (hv : needV p [ws] = true) : PN Try.prog 22 [eStrs p, eInts ws] (.tup [.loc 0 0 0 (rP p).length, .bool true]) [.arr 0 3 1 ((subL (heaviest (leftG (gP p) p.length (w0 (readG p)) (rP p).length) ws (rP p).length) ws).map (.int .i64))] false := by
  obtain ⟨hpl, hwl, hwok⟩ := needV_one hv
  have hok := (plain_okB hpl).1
  have hg := okB_gw hok
  have hn9 := okB_rooms hok
  have hn1 := okB_rooms1 hok
  obtain ⟨hrm, ⟨rk, hu⟩, -⟩ := plan_all hpl
  generalize hMe : (leftG (gP p) p.length (w0 (readG p)) (rP p).length) = M at hu
  have hhl := heaviest_len (M := M) (ws := ws) (n := (rP p).length)
  have hhb : ∀ (i : Nat) (x : Int), (heaviest M ws (rP p).length)[i]? = some x → 0 ≤ x ∧ x ≤ 909 := hv_bound2 hwok
  refine PN.of ⟨Try.func22, by kernel_rfl, rfl, by kernel_rfl⟩ tabOk mixed (by show 2 ≤ Try.f22.ntmps; decide) ?_
  refine W.seq_region fun K hK => ?_
  simp (disch := omega) only [↓RU, RV, RH, ↓reduceIte, Nat.reduceEqDiff, reduceCtorEq, if_pos, ↓RS, RG, Nat.reduceAdd, Nat.reduceMul, Nat.reduceLeDiff]
  refine hK _ _ ?_
  clear hK K
  refine W.seq_region fun K hK => ?_
  simp (disch := omega) only [↓RU, RV, RH, ↓reduceIte, Nat.reduceEqDiff, reduceCtorEq, if_pos, List.append_nil, ↓RS, RG, Nat.reduceAdd, Nat.reduceMul, Nat.reduceLeDiff, tyLLint, tyLint, tyint, hv]
  refine CallR.ev (needing_ev hs (wss := [ws]) (by simp) (by intro a ha; rw [List.mem_singleton] at ha; subst ha; exact hw)) ?_
  rintro _ _ ⟨x, rfl, hx, rfl⟩
  simp (disch := omega) only [↓RU, RV, RH, ↓reduceIte, Nat.reduceEqDiff, reduceCtorEq, if_pos, List.append_nil, ↓RS, RG, Nat.reduceAdd, Nat.reduceMul, Nat.reduceLeDiff, tyLLint, tyLint, tyint, hv]
  refine hK _ _ ?_
  clear hK K
  refine W.seq ?_
  refine W.seq_region fun K hK => ?_
  simp (disch := omega) only [↓RU, RV, RH, ↓reduceIte, Nat.reduceEqDiff, reduceCtorEq, if_pos, ↓RS, RG, Nat.reduceAdd, Nat.reduceMul, Nat.reduceLeDiff]
  refine hK _ _ ?_
  clear hK K
  refine W.cond rfl (fun h => ?_) (fun h => ?_)
  · try simp only [RL] at h
    exact absurd h (by simp)
  · try simp only [RL] at h
    obtain rfl := hx hv
    refine W.skip ?_
    refine XThen.norm ?_
    refine W.joinS [1, 8] (fun vs S => ∃ t tk : Nat, vs = [eInts ws, .loc 0 t 0 (rP p).length] ∧ S = ⟨[.arr t 3 1 ((heaviest M ws (rP p).length).map (.int .i64))], tk⟩) ?_ ?_
    ·
      refine W.region_k fun K hK => ?_
      simp (disch := omega) only [↓RU, RV, RH, ↓reduceIte, Nat.reduceEqDiff, reduceCtorEq, if_pos, List.append_nil, ↓RS, RG, Nat.reduceAdd, Nat.reduceMul, Nat.reduceLeDiff, tyLLbool, tyLbool, tybool, tyimpl_orders, tyimpl_relation, tystruct_left_impl_relation_above_impl_relation_]
      refine CallR.pc (orders_pc hg rfl hn9 hrm) rfl (.inl rfl) ?_
      simp (disch := omega) only [↓RU, RV, RH, ↓reduceIte, Nat.reduceEqDiff, reduceCtorEq, if_pos, List.append_nil, ↓RS, RG, Nat.reduceAdd, Nat.reduceMul, Nat.reduceLeDiff, tyLLbool, tyLbool, tybool, tyimpl_orders, tyimpl_relation, tystruct_left_impl_relation_above_impl_relation_]
      simp only [hMe]
      refine CallR.pn (heaviest_pn hu hn9 hwl hwok) rfl (.inl rfl) ?_
      simp (disch := omega) only [↓RU, RV, RH, ↓reduceIte, Nat.reduceEqDiff, reduceCtorEq, if_pos, List.append_nil, ↓RS, RG, Nat.reduceAdd, Nat.reduceMul, Nat.reduceLeDiff, tyLLbool, tyLbool, tybool, tyimpl_orders, tyimpl_relation, tystruct_left_impl_relation_above_impl_relation_, RN]
      refine hK _ _ ?_
      clear hK K
      refine XThen.norm ?_
      refine ⟨0, [1], [eInts ws, .loc 0 2 0 (rP p).length], ⟨[.arr 2 3 1 ((heaviest M ws (rP p).length).map (.int .i64))], 3⟩, ?_, ?_, 2, 3, rfl, rfl⟩
      · simp [-List.mapM_map, Env.put, Env.of, argEnv, Srn_eq, rnObs_cons, rnObs_nil, rnOb_arr, rnOb_map, rn_loc, rn_ref, rn_mp, rn_int, rn_bool, rn_str, rn_ip, rn_sl, rn_nils, rn_nilp, rn_undef, rn_agg, rn_tup, rn_fn, rfq_loc, rfq_int, rfq_bool, rfq_str, rfq_sl, frOf, List.range_succ, List.mapM_append, List.mapM_cons]
      · simp [-List.mapM_map, Env.put, Env.of, argEnv, Srn_eq, rnObs_cons, rnObs_nil, rnOb_arr, rnOb_map, rn_loc, rn_ref, rn_mp, rn_int, rn_bool, rn_str, rn_ip, rn_sl, rn_nils, rn_nilp, rn_undef, rn_agg, rn_tup, rn_fn, rfq_loc, rfq_int, rfq_bool, rfq_str, rfq_sl, frOf, List.range_succ, List.mapM_append, List.mapM_cons, rn_ints]
    rintro vs S - ⟨t0, tk0, rfl, rfl⟩
    refine W.seq ?_
    refine W.seq_region fun K hK => ?_
    simp (disch := omega) only [↓RU, RV, RH, ↓reduceIte, Nat.reduceEqDiff, reduceCtorEq, if_pos, ↓RS, RG, Nat.reduceAdd, Nat.reduceMul, Nat.reduceLeDiff, tyLint, tyint]
    refine hK _ _ ?_
    clear hK K
    refine W.block ?_
    refine W.loop [1, 8, 25, 26, 27] (fun n vs S => ∃ i t tk : Nat, n = ws.length - i ∧ i ≤ ws.length ∧ vs = [eInts ws, .loc 0 t 0 (rP p).length, eInts ws, .int .i64 ws.length, .int .i64 i] ∧ S = ⟨[.arr t 3 1 (((subL (heaviest M ws (rP p).length) ws).take i ++ (heaviest M ws (rP p).length).drop i).map (.int .i64))], tk⟩) ws.length ?_ ?_
    · refine ⟨1, 0, t0, tk0, rfl, by omega, ?_, rfl⟩
      simp [Env.put, Env.of, argEnv]
    rintro n vs S - ⟨i, t, tk, rfl, h_i, rfl, rfl⟩
    refine W.seq_region fun K hK => ?_
    simp (disch := omega) only [↓RU, RV, RH, ↓reduceIte, Nat.reduceEqDiff, reduceCtorEq, if_pos, w64, ↓RS, RG, Nat.reduceAdd, Nat.reduceMul, Nat.reduceLeDiff, tyint]
    refine hK _ _ ?_
    clear hK K
    refine W.seq ?_
    refine W.cond rfl (fun h1 => ?_) (fun h1 => ?_)
    · try simp only [RL] at h1
      obtain ⟨w, hw1, hwm⟩ := get_of (show i < ws.length by omega)
      have hw9 := hwok w hwm
      obtain ⟨y, hy, -⟩ := get_of (show i < (heaviest M ws (rP p).length).length by omega)
      have hy9 := hhb i y hy
      have hsu := subL_at hy hw1
      have hsl : (subL (heaviest M ws (rP p).length) ws).length = (heaviest M ws (rP p).length).length := subL_len
      have hmi := mix_at (i := i) hsl
      rw [hy] at hmi
      have hml := mix_len (i := i) hsl
      refine W.skip ?_
      refine XThen.norm ?_
      refine W.seq ?_
      refine W.block ?_
      refine W.seq_region fun K hK => ?_
      simp (disch := omega) only [↓RU, RV, RH, ↓reduceIte, Nat.reduceEqDiff, reduceCtorEq, if_pos, ↓RS, RG, Nat.reduceAdd, Nat.reduceMul, Nat.reduceLeDiff, tyLint, tyint, hw1]
      refine hK _ _ ?_
      clear hK K
      refine W.region_k fun K hK => ?_
      simp (disch := omega) only [↓RU, RV, RH, ↓reduceIte, Nat.reduceEqDiff, reduceCtorEq, if_pos, w64, ↓RS, RG, Nat.reduceAdd, Nat.reduceMul, Nat.reduceLeDiff, tyLint, tyint, hmi, hml, hhl, set_spl, set_int]
      refine hK _ _ ?_
      clear hK K
      refine XBlock.norm ?_
      refine XThen.norm ?_
      refine W.region_k fun K hK => ?_
      simp (disch := omega) only [↓RU, RV, RH, ↓reduceIte, Nat.reduceEqDiff, reduceCtorEq, if_pos, w64, ↓RS, RG, Nat.reduceAdd, Nat.reduceMul, Nat.reduceLeDiff, tyint]
      refine hK _ _ ?_
      clear hK K
      refine XThen.norm ?_
      refine ⟨ws.length - (i + 1), by omega, 1, i + 1, t, tk, rfl, by omega, ?_, ?_⟩
      · simp [Env.put, Env.of]
      · simp only [take_eq, mix_succ hsu hsl]; rfl
    · try simp only [RL] at h1
      obtain rfl : i = ws.length := by omega
      refine W.exit ?_
      refine XThen.exit ?_
      refine XThen.exit ?_
      refine XBlock.hit ?_
      refine XThen.norm ?_
      refine W.seq_region fun K hK => ?_
      simp (disch := omega) only [↓RU, RV, RH, ↓reduceIte, Nat.reduceEqDiff, reduceCtorEq, if_pos, ↓RS, RG, Nat.reduceAdd, Nat.reduceMul, Nat.reduceLeDiff]
      refine hK _ _ ?_
      clear hK K
      refine W.ret ?_
      refine BodyQ.ret rfl ?_
      have hsl : (subL (heaviest M ws (rP p).length) ws).length = (heaviest M ws (rP p).length).length := subL_len
      rw [List.take_of_length_le (by omega), List.drop_of_length_le (by omega), List.append_nil]
      exact sh_one2 rfl (sh_ints _)

theorem sizeSlack_yes {p : List Txt} (hs : Sm p) {ws : List Int} (hw : ws.length ≤ 1048576) (hv : needV p [ws] = true) : PN Try.prog 35 [eStrs p, eInts ws] (.tup [.loc 0 0 0 (rP p).length, .bool true]) [.arr 0 3 1 ((slackI (leftG (gP p) p.length (w0 (readG p)) (rP p).length) ws (rP p).length).map (.int .i64))] false := by
  obtain ⟨hpl, hwl, hwok⟩ := needV_one hv
  have hok := (plain_okB hpl).1
  have hg := okB_gw hok
  have hn9 := okB_rooms hok
  have hn1 := okB_rooms1 hok
  obtain ⟨hrm, ⟨rk, hu⟩, -⟩ := plan_all hpl
  generalize hMe : (leftG (gP p) p.length (w0 (readG p)) (rP p).length) = M at hu
  have hhl := heaviest_len (M := M) (ws := ws) (n := (rP p).length)
  have hhb : ∀ (i : Nat) (x : Int), (heaviest M ws (rP p).length)[i]? = some x → 0 ≤ x ∧ x ≤ 909 := hv_bound2 hwok
  have hur := revM_up hu
  have hhb2 : ∀ (i : Nat) (x : Int), (heaviest (revM (rP p).length M) ws (rP p).length)[i]? = some x → 0 ≤ x ∧ x ≤ 909 := hv_bound2 hwok
  obtain ⟨y0, hy0, -⟩ := get_of (show 0 < (heaviest M ws (rP p).length).length by omega)
  have hmx := maxH_bound (M := M) (ws := ws) (n := (rP p).length) hwok
  have hRl := heaviest_len (M := revM (rP p).length M) (ws := ws) (n := (rP p).length)
  have hSl := slackI_len (M := M) (ws := ws) (n := (rP p).length)
  refine PN.of ⟨Try.func35, by kernel_rfl, rfl, by kernel_rfl⟩ tabOk mixed (by show 2 ≤ Try.f35.ntmps; decide) ?_
  refine W.seq_region fun K hK => ?_
  simp (disch := omega) only [↓RU, RV, RH, ↓reduceIte, Nat.reduceEqDiff, reduceCtorEq, if_pos, ↓RS, RG, Nat.reduceAdd, Nat.reduceMul, Nat.reduceLeDiff]
  refine hK _ _ ?_
  clear hK K
  refine W.seq_region fun K hK => ?_
  simp (disch := omega) only [↓RU, RV, RH, ↓reduceIte, Nat.reduceEqDiff, reduceCtorEq, if_pos, List.append_nil, ↓RS, RG, Nat.reduceAdd, Nat.reduceMul, Nat.reduceLeDiff, tyLLint, tyLint, tyint, hv]
  refine CallR.ev (needing_ev hs (wss := [ws]) (by simp) (by intro a ha; rw [List.mem_singleton] at ha; subst ha; exact hw)) ?_
  rintro _ _ ⟨x, rfl, hx, rfl⟩
  simp (disch := omega) only [↓RU, RV, RH, ↓reduceIte, Nat.reduceEqDiff, reduceCtorEq, if_pos, List.append_nil, ↓RS, RG, Nat.reduceAdd, Nat.reduceMul, Nat.reduceLeDiff, tyLLint, tyLint, tyint, hv]
  refine hK _ _ ?_
  clear hK K
  refine W.seq ?_
  refine W.seq_region fun K hK => ?_
  simp (disch := omega) only [↓RU, RV, RH, ↓reduceIte, Nat.reduceEqDiff, reduceCtorEq, if_pos, ↓RS, RG, Nat.reduceAdd, Nat.reduceMul, Nat.reduceLeDiff]
  refine hK _ _ ?_
  clear hK K
  refine W.cond rfl (fun h => ?_) (fun h => ?_)
  · try simp only [RL] at h
    exact absurd h (by simp)
  · try simp only [RL] at h
    obtain rfl := hx hv
    refine W.skip ?_
    refine XThen.norm ?_
    refine W.seq_region fun K hK => ?_
    simp (disch := omega) only [↓RU, RV, RH, ↓reduceIte, Nat.reduceEqDiff, reduceCtorEq, if_pos, List.append_nil, ↓RS, RG, Nat.reduceAdd, Nat.reduceMul, Nat.reduceLeDiff, tyLLbool, tyLbool, tybool, tyimpl_orders, tyimpl_relation, tystruct_left_impl_relation_above_impl_relation_, hMe]
    refine CallR.pc (orders_pc hg rfl hn9 hrm) rfl (.inl rfl) ?_
    simp (disch := omega) only [↓RU, RV, RH, ↓reduceIte, Nat.reduceEqDiff, reduceCtorEq, if_pos, List.append_nil, ↓RS, RG, Nat.reduceAdd, Nat.reduceMul, Nat.reduceLeDiff, tyLLbool, tyLbool, tybool, tyimpl_orders, tyimpl_relation, tystruct_left_impl_relation_above_impl_relation_, hMe]
    refine hK _ _ ?_
    clear hK K
    refine W.seq_region fun K hK => ?_
    simp (disch := omega) only [↓RU, RV, RH, ↓reduceIte, Nat.reduceEqDiff, reduceCtorEq, if_pos, List.append_nil, ↓RS, RG, Nat.reduceAdd, Nat.reduceMul, Nat.reduceLeDiff]
    refine CallR.pn (heaviest_pn hu hn9 hwl hwok) rfl (.inl rfl) ?_
    simp (disch := omega) only [↓RU, RV, RH, ↓reduceIte, Nat.reduceEqDiff, reduceCtorEq, if_pos, List.append_nil, ↓RS, RG, Nat.reduceAdd, Nat.reduceMul, Nat.reduceLeDiff, RN]
    refine CallR.pc (reversed_pc hu.sq hn9) rfl (.inl rfl) ?_
    simp (disch := omega) only [↓RU, RV, RH, ↓reduceIte, Nat.reduceEqDiff, reduceCtorEq, if_pos, List.append_nil, ↓RS, RG, Nat.reduceAdd, Nat.reduceMul, Nat.reduceLeDiff]
    refine CallR.pn (heaviest_pn hur hn9 hwl hwok) rfl (.inl rfl) ?_
    simp (disch := omega) only [↓RU, RV, RH, ↓reduceIte, Nat.reduceEqDiff, reduceCtorEq, if_pos, List.append_nil, ↓RS, RG, Nat.reduceAdd, Nat.reduceMul, Nat.reduceLeDiff, RN]
    refine hK _ _ ?_
    clear hK K
    refine W.seq_region fun K hK => ?_
    simp (disch := omega) only [↓RU, RV, RH, ↓reduceIte, Nat.reduceEqDiff, reduceCtorEq, if_pos, List.append_nil, ↓RS, RG, Nat.reduceAdd, Nat.reduceMul, Nat.reduceLeDiff]
    refine CallR.pc (max_pc hy0 (by omega)) (mapM_one (reify_hv (k := 8) rfl) rfl) (.inl rfl) ?_
    simp (disch := omega) only [↓RU, RV, RH, ↓reduceIte, Nat.reduceEqDiff, reduceCtorEq, if_pos, List.append_nil, ↓RS, RG, Nat.reduceAdd, Nat.reduceMul, Nat.reduceLeDiff]
    refine hK _ _ ?_
    clear hK K
    refine W.joinS [1, 9, 10, 11, 12] (fun vs S => ∃ t tk : Nat, vs = [eInts ws, eInts (heaviest M ws (rP p).length), eInts (heaviest (revM (rP p).length M) ws (rP p).length), .int .i64 (maxL (heaviest M ws (rP p).length)), .loc 0 t 0 (rP p).length] ∧ S = ⟨[.arr t 3 1 ((List.replicate (rP p).length (0 : Int)).map (.int .i64))], tk⟩) ?_ ?_
    ·
      refine W.region_k fun K hK => ?_
      simp (disch := omega) only [↓RU, RV, RH, ↓reduceIte, Nat.reduceEqDiff, reduceCtorEq, if_pos, ↓RS, RG, Nat.reduceAdd, Nat.reduceMul, Nat.reduceLeDiff, tyLint, tyint, hwl, repz_int, ile_true]
      refine hK _ _ ?_
      clear hK K
      refine XThen.norm ?_
      refine ⟨0, [3], [eInts ws, eInts (heaviest M ws (rP p).length), eInts (heaviest (revM (rP p).length M) ws (rP p).length), .int .i64 (maxL (heaviest M ws (rP p).length)), .loc 0 4 0 (rP p).length], ⟨[.arr 4 3 1 ((List.replicate (rP p).length (0 : Int)).map (.int .i64))], 5⟩, ?_, ?_, 4, 5, rfl, rfl⟩
      · simp [-List.mapM_map, Env.put, Env.of, argEnv, Srn_eq, rnObs_cons, rnObs_nil, rnOb_arr, rnOb_map, rn_loc, rn_ref, rn_mp, rn_int, rn_bool, rn_str, rn_ip, rn_sl, rn_nils, rn_nilp, rn_undef, rn_agg, rn_tup, rn_fn, rfq_loc, rfq_int, rfq_bool, rfq_str, rfq_sl, frOf, List.range_succ, List.mapM_append, List.mapM_cons, heaviest_len, hv_tk, rfq_ints]
      · simp [-List.mapM_map, Env.put, Env.of, argEnv, Srn_eq, rnObs_cons, rnObs_nil, rnOb_arr, rnOb_map, rn_loc, rn_ref, rn_mp, rn_int, rn_bool, rn_str, rn_ip, rn_sl, rn_nils, rn_nilp, rn_undef, rn_agg, rn_tup, rn_fn, rfq_loc, rfq_int, rfq_bool, rfq_str, rfq_sl, frOf, List.range_succ, List.mapM_append, List.mapM_cons, rn_rep0]
    rintro vs S - ⟨t0, tk0, rfl, rfl⟩
    refine W.seq ?_
    refine W.seq_region fun K hK => ?_
    simp (disch := omega) only [↓RU, RV, RH, ↓reduceIte, Nat.reduceEqDiff, reduceCtorEq, if_pos, ↓RS, RG, Nat.reduceAdd, Nat.reduceMul, Nat.reduceLeDiff, tyLint, tyint, hwl]
    refine hK _ _ ?_
    clear hK K
    refine W.block ?_
    refine W.loop [1, 9, 10, 11, 12, 39, 40, 41] (fun n vs S => ∃ i t tk : Nat, n = (rP p).length - i ∧ i ≤ (rP p).length ∧ vs = [eInts ws, eInts (heaviest M ws (rP p).length), eInts (heaviest (revM (rP p).length M) ws (rP p).length), .int .i64 (maxL (heaviest M ws (rP p).length)), .loc 0 t 0 (rP p).length, eInts ws, .int .i64 (rP p).length, .int .i64 i] ∧ S = ⟨[.arr t 3 1 (((slackI M ws (rP p).length).take i ++ (List.replicate (rP p).length (0 : Int)).drop i).map (.int .i64))], tk⟩) (rP p).length ?_ ?_
    · refine ⟨1, 0, t0, tk0, rfl, by omega, ?_, rfl⟩
      simp [Env.put, Env.of, argEnv]
    rintro n vs S - ⟨i, t, tk, rfl, h_i, rfl, rfl⟩
    refine W.seq_region fun K hK => ?_
    simp (disch := omega) only [↓RU, RV, RH, ↓reduceIte, Nat.reduceEqDiff, reduceCtorEq, if_pos, w64, ↓RS, RG, Nat.reduceAdd, Nat.reduceMul, Nat.reduceLeDiff, tyint]
    refine hK _ _ ?_
    clear hK K
    refine W.seq ?_
    refine W.cond rfl (fun h1 => ?_) (fun h1 => ?_)
    · try simp only [RL] at h1
      obtain ⟨w, hw1, hwm⟩ := get_of (show i < ws.length by omega)
      have hw9 := hwok w hwm
      have hy := hv_at (M := M) (ws := ws) (n := (rP p).length) (b := i) (by omega)
      have hy9 := hhb i _ hy
      have hz := hv_at (M := revM (rP p).length M) (ws := ws) (n := (rP p).length) (b := i) (by omega)
      have hz9 := hhb2 i _ hz
      have hsu := slackI_take (M := M) (n := (rP p).length) (show i < (rP p).length by omega) hw1
      have hsl : (slackI M ws (rP p).length).length = (List.replicate (rP p).length (0 : Int)).length := by simp [hSl]
      have hml := mix_len (i := i) hsl
      rw [List.length_replicate] at hml
      refine W.skip ?_
      refine XThen.norm ?_
      refine W.seq ?_
      refine W.block ?_
      refine W.seq_region fun K hK => ?_
      simp (disch := omega) only [↓RU, RV, RH, ↓reduceIte, Nat.reduceEqDiff, reduceCtorEq, if_pos, ↓RS, RG, Nat.reduceAdd, Nat.reduceMul, Nat.reduceLeDiff, tyLint, tyint, hw1]
      refine hK _ _ ?_
      clear hK K
      refine W.draw_k (by kernel_rfl) fun K hK => ?_
      simp (disch := omega) only [↓RU, RV, RH, ↓reduceIte, Nat.reduceEqDiff, reduceCtorEq, if_pos, w64, ↓RS, RG, Nat.reduceAdd, Nat.reduceMul, Nat.reduceLeDiff, tyLint, tyint, hz, hy, hw1, hRl, hhl, hml, set_spl, set_int]
      refine hK _ _ ?_
      clear hK K
      refine XBlock.norm ?_
      refine XThen.norm ?_
      refine W.region_k fun K hK => ?_
      simp (disch := omega) only [↓RU, RV, RH, ↓reduceIte, Nat.reduceEqDiff, reduceCtorEq, if_pos, w64, ↓RS, RG, Nat.reduceAdd, Nat.reduceMul, Nat.reduceLeDiff, tyint]
      refine hK _ _ ?_
      clear hK K
      refine XThen.norm ?_
      refine ⟨(rP p).length - (i + 1), by omega, 1, i + 1, t, tk, rfl, by omega, ?_, ?_⟩
      · simp [Env.put, Env.of]
      · simp only [take_eq, mix_succ hsu hsl]; rfl
    · try simp only [RL] at h1
      obtain rfl : (rP p).length = i := by omega
      refine W.exit ?_
      refine XThen.exit ?_
      refine XThen.exit ?_
      refine XBlock.hit ?_
      refine XThen.norm ?_
      refine W.seq_region fun K hK => ?_
      simp (disch := omega) only [↓RU, RV, RH, ↓reduceIte, Nat.reduceEqDiff, reduceCtorEq, if_pos, ↓RS, RG, Nat.reduceAdd, Nat.reduceMul, Nat.reduceLeDiff]
      refine hK _ _ ?_
      clear hK K
      refine W.ret ?_
      refine BodyQ.ret rfl ?_
      have hsl : (slackI M ws (rP p).length).length = (List.replicate (rP p).length (0 : Int)).length := by simp [hSl]
      rw [List.take_of_length_le (by omega), List.drop_of_length_le (by simp), List.append_nil]
      exact sh_one2 rfl (sh_ints _)

end Fw
end Go.Proofs.Ytmhcknpjgikgmaa
