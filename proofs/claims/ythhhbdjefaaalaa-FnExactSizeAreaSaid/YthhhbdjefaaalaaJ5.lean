/- The program's SizeArea answers as the specification's, for all arguments: the statement FnExactSizeArea. No condition. -/
import Derived.Test.YthhhbdjefaaalaaJ4
import Derived.Test.YthhhbdjefaaalaaRows
import Derived.ProofKit
import Derived.SliceStrings
set_option linter.all false
/-! The program's direct orders are the specification's. -/
namespace Go.Proofs.Ythhhbdjefaaalaa
namespace Fw
open Go

theorem Same.orBit {n : Nat} {M : List (List Bool)} {ms : List Nat} (h : Same n M ms) {a b : Nat} (ha : a < n) (hb : b < n) : Same n (setB M a b true) (orBit ms a b) := by
  obtain ⟨h1, h2, h3⟩ := h
  obtain ⟨m, hm, -⟩ := get_of (show a < ms.length by omega)
  rw [orBit_is hm]
  refine ⟨h1.set ha, by simp [h2], fun x y hx hy => ?_⟩
  rw [getB_setB h1 ha hb, bitOf_set (by omega)]
  by_cases hxa : x = a
  · subst hxa
    rw [if_pos rfl, Nat.testBit_or, Nat.testBit_two_pow, h3 x y hx hy, bitOf_is hm]
    by_cases hyb : y = b
    · subst hyb; simp
    · rw [if_neg (fun h => hyb h.2), decide_eq_false (fun h => hyb h.symm), Bool.or_false]
  · rw [if_neg (fun h => hxa h.1), if_neg hxa, h3 x y hx hy]
def Rm (n : Nat) (l : List Int) : Prop := ∀ x ∈ l, 0 ≤ x ∧ x < n
theorem Same.relB {n : Nat} {a : Int} (ha : 0 ≤ a ∧ a < n) : ∀ {bs : List Int} {M : List (List Bool)} {ms : List Nat}, Rm n bs → Same n M ms → Same n (relB a bs M) (justB a.toNat ms bs)
  | [], _, _, _, h => h
  | b :: bs, M, ms, hb, h => by
    have hb0 := hb b (by simp)
    exact Same.relB ha (bs := bs) (fun x hx => hb x (by simp [hx])) (h.orBit (by omega) (by omega))
theorem Same.relW {n : Nat} {bs : List Int} (hb : Rm n bs) : ∀ {la : List Int} {M : List (List Bool)} {ms : List Nat}, Rm n la → Same n M ms → Same n (relW M la bs) (justA bs ms la)
  | [], _, _, _, h => h
  | a :: la, M, ms, ha, h => Same.relW hb (la := la) (fun x hx => ha x (by simp [hx])) (h.relB (ha a (by simp)) hb)

theorem ddp_snoc {l : List Int} {x : Int} : ddp (l ++ [x]) = putL (ddp l) x := by simp [ddp, List.foldl_append]
theorem sides_eq {g : List (List Int)} {p : List Txt} {lv : Bool} {L fr : Nat} : ∀ n, (∀ j, fr ≤ j → j < fr + n → sidesG g lv L j = if lv then (cellZ p (L - 1) j, cellZ p L j) else (cellZ p j (L - 1), cellZ p j L)) →
    (ddp (alongG g lv L fr n).1, ddp (alongG g lv L fr n).2) = sidesTo p (kk lv).toNat L fr n
  | 0, _ => by simp [alongG, ddp, sidesTo]
  | n + 1, h => by
    have ih := sides_eq n fun j a b => h j a (by omega)
    have hx := h (fr + n) (by omega) (by omega)
    rw [alongG_succ1, alongG_succ2, ddp_snoc, ddp_snoc, hx]
    unfold sidesTo
    rw [← ih]
    cases lv <;> simp [kk]
theorem sidesOf_eq {g : List (List Int)} {p : List Txt} (hz : ∀ i j, i < p.length → j < (hdRow p).length → gz g i j = cellZ p i j) {w : Wall} (hw : WlOk g p.length (hdRow p).length w) : sidesOf g w = sidesW p (encW w) := by
  obtain ⟨line, fr, long, he, hl, hin⟩ := hw
  obtain ⟨lv, wl, wf, wg⟩ := w
  simp only [Wall.mk.injEq, true_and] at he hin
  obtain ⟨rfl, rfl, rfl⟩ := he
  unfold sidesOf sidesW encW
  simp only [Int.toNat_natCast]
  refine sides_eq long fun j a b => ?_
  obtain ⟨⟨h1, h2⟩, -⟩ := hin j a b
  unfold sidesG
  cases lv with
  | false =>
    simp only [Bool.false_eq_true, if_false] at h2 ⊢
    rw [hz j (line - 1) h2.2 (by omega), hz j line h2.2 h2.1]
  | true =>
    simp only [if_true] at h2 ⊢
    rw [hz (line - 1) j (by omega) h2.2, hz line j h2.1 h2.2]
theorem Same.empty {n : Nat} : Same n (emptyM n) (List.replicate n 0) := by
  refine ⟨emptyM_sq n, by simp, fun a b ha hb => ?_⟩
  simp [getB, emptyM, bitOf, ha, hb]
theorem same_ord {g : List (List Int)} {p : List Txt} {n : Nat} (hz : ∀ i j, i < p.length → j < (hdRow p).length → gz g i j = cellZ p i j) (hrm : RmOk g p.length (hdRow p).length n) : ∀ (ws : List Wall), (∀ w ∈ ws, WlOk g p.length (hdRow p).length w) →
    ∀ {M : List (List Bool) × List (List Bool)} {m0 m1 : List Nat}, Same n M.1 m0 → Same n M.2 m1 → Same n (ws.foldl (ordW g) M).1 ((ws.map encW).foldl (justW p 0) m0) ∧ Same n (ws.foldl (ordW g) M).2 ((ws.map encW).foldl (justW p 1) m1)
  | [], _, _, _, _, h0, h1 => ⟨h0, h1⟩
  | w :: ws, hws, M, m0, m1, h0, h1 => by
    have hw := hws w (by simp)
    obtain ⟨hr1, hr2⟩ := sidesOf_rooms hrm hw
    rw [sidesOf_eq hz hw] at hr1 hr2
    rw [List.foldl_cons, List.map_cons, List.foldl_cons, List.foldl_cons]
    refine same_ord hz hrm ws (fun w hw => hws w (by simp [hw])) ?_ ?_
    · unfold ordW justW
      rw [sidesOf_eq hz hw]
      cases hlv : w.level with
      | false => simpa [encW, kk, hlv] using h0.relW hr2 hr1
      | true => simpa [encW, kk, hlv] using h0
    · unfold ordW justW
      rw [sidesOf_eq hz hw]
      cases hlv : w.level with
      | false => simpa [encW, kk, hlv] using h1
      | true => simpa [encW, kk, hlv] using h1.relW hr2 hr1
theorem same_all {g : List (List Int)} {p : List Txt} {n : Nat} (hg : gridB p = true) (hn : (l1Rooms p).toNat = n) (hz : ∀ i j, i < p.length → j < (hdRow p).length → gz g i j = cellZ p i j) (hrm : RmOk g p.length (hdRow p).length n) :
    Same n (leftG g p.length (hdRow p).length n) (allS p 0) ∧ Same n (aboveG g p.length (hdRow p).length n) (allS p 1) := by
  obtain ⟨h0, h1⟩ := same_ord hz hrm (wallsG g p.length (hdRow p).length) wallsG_ok (M := (emptyM n, emptyM n)) Same.empty Same.empty
  rw [wallsG_enc hg hz] at h0 h1
  have e : List.replicate n 0 = List.replicate (l1Rooms p).toNat 0 := by rw [hn]
  rw [e] at h0 h1
  exact ⟨h0.close, h1.close⟩
end Fw
end Go.Proofs.Ythhhbdjefaaalaa

/-! Sums and counts of cells. -/
namespace Go.Proofs.Ythhhbdjefaaalaa
namespace Fw
open Go

def sN : Nat → (Nat → Nat) → Nat
  | 0, _ => 0
  | n + 1, f => sN n f + f n
theorem sN_congr {f g : Nat → Nat} : ∀ {n : Nat}, (∀ i, i < n → f i = g i) → sN n f = sN n g
  | 0, _ => rfl
  | n + 1, h => by rw [sN, sN, sN_congr (n := n) fun i hi => h i (by omega), h n (by omega)]
theorem sN_le {f g : Nat → Nat} : ∀ {n : Nat}, (∀ i, i < n → f i ≤ g i) → sN n f ≤ sN n g
  | 0, _ => Nat.le_refl _
  | n + 1, h => by
    have := sN_le (n := n) fun i hi => h i (by omega)
    have := h n (by omega)
    simp only [sN]; omega
theorem sN_eq {f g : Nat → Nat} : ∀ {n : Nat}, (∀ i, i < n → f i ≤ g i) → sN n f = sN n g → ∀ i, i < n → f i = g i
  | 0, _, _, i, hi => by omega
  | n + 1, h, e, i, hi => by
    have h1 := sN_le (n := n) fun i hi => h i (by omega)
    have h2 := h n (by omega)
    simp only [sN] at e
    by_cases hin : i = n
    · subst hin; omega
    · exact sN_eq (n := n) (fun i hi => h i (by omega)) (by omega) i (by omega)
theorem sN_zero : ∀ n, sN n (fun _ => 0) = 0
  | 0 => rfl
  | n + 1 => by rw [sN, sN_zero n]
theorem sN_one : ∀ n, sN n (fun _ => 1) = n
  | 0 => rfl
  | n + 1 => by rw [sN, sN_one n]
theorem sN_const (c : Nat) : ∀ n, sN n (fun _ => c) = n * c
  | 0 => by simp [sN]
  | n + 1 => by rw [sN, sN_const c n, Nat.succ_mul]
theorem sN_add {f g : Nat → Nat} : ∀ n, sN n (fun i => f i + g i) = sN n f + sN n g
  | 0 => rfl
  | n + 1 => by rw [sN, sN, sN, sN_add n]; omega
theorem sN_swap {f : Nat → Nat → Nat} {m : Nat} : ∀ n, sN n (fun i => sN m (fun j => f i j)) = sN m (fun j => sN n (fun i => f i j))
  | 0 => by simp only [sN]; rw [sN_zero]
  | n + 1 => by
    simp only [sN]
    rw [sN_swap n, sN_add]
theorem sN_mul {f : Nat → Nat} {c : Nat} : ∀ n, sN n (fun i => f i * c) = sN n f * c
  | 0 => by simp [sN]
  | n + 1 => by rw [sN, sN, sN_mul n, Nat.add_mul]
def b1 (b : Bool) : Nat := if b then 1 else 0
/-- How many cells hold. -/
def cnt (H W : Nat) (f : Nat → Nat → Bool) : Nat := sN H fun i => sN W fun j => b1 (f i j)
theorem b1_le {a b : Bool} (h : a = true → b = true) : b1 a ≤ b1 b := by
  cases a with
  | false => simp [b1]
  | true => rw [h rfl]; exact Nat.le_refl _
theorem b1_inj {a b : Bool} (h : b1 a = b1 b) : a = b := by cases a <;> cases b <;> simp [b1] at h ⊢
theorem cnt_le {H W : Nat} {f g : Nat → Nat → Bool} (h : ∀ i j, i < H → j < W → f i j = true → g i j = true) : cnt H W f ≤ cnt H W g :=
  sN_le fun i hi => sN_le fun j hj => b1_le (h i j hi hj)
theorem cnt_eq {H W : Nat} {f g : Nat → Nat → Bool} (h : ∀ i j, i < H → j < W → f i j = true → g i j = true) (e : cnt H W f = cnt H W g) : ∀ i j, i < H → j < W → f i j = g i j := by
  intro i j hi hj
  have h1 := sN_eq (n := H) (fun i hi => sN_le fun j hj => b1_le (h i j hi hj)) e i hi
  exact b1_inj (sN_eq (n := W) (fun j hj => b1_le (h i j hi hj)) h1 j hj)
theorem cnt_congr {H W : Nat} {f g : Nat → Nat → Bool} (h : ∀ i j, i < H → j < W → f i j = g i j) : cnt H W f = cnt H W g :=
  sN_congr fun i hi => sN_congr fun j hj => by rw [h i j hi hj]
/-- Numbers from a on, k of them. -/
theorem sN_seg {a k : Nat} : ∀ {n : Nat}, a + k ≤ n → sN n (fun i => b1 (decide (a ≤ i) && decide (i < a + k))) = k
  | 0, h => by simp [sN]; omega
  | n + 1, h => by
    rw [sN]
    by_cases hn : a + k ≤ n
    · rw [sN_seg hn, decide_eq_false (p := n < a + k) (by omega), Bool.and_false]; rfl
    · have hnk : n + 1 = a + k := by omega
      cases k with
      | zero =>
        have : sN n (fun i => b1 (decide (a ≤ i) && decide (i < a + 0))) = sN n (fun _ => 0) := sN_congr fun i hi => by
          rw [decide_eq_false (p := a ≤ i) (by omega)]; rfl
        rw [this, sN_zero, decide_eq_false (p := a ≤ n) (by omega)]; rfl
      | succ k =>
        have e : sN n (fun i => b1 (decide (a ≤ i) && decide (i < a + (k + 1)))) = sN n (fun i => b1 (decide (a ≤ i) && decide (i < a + k))) := sN_congr fun i hi => by
          congr 2
          apply decide_eq_decide.2; omega
        rw [e, sN_seg (k := k) (by omega), decide_eq_true (p := a ≤ n) (by omega), decide_eq_true (p := n < a + (k + 1)) (by omega)]
        rfl
/-- A rectangle: h rows from t on, w columns from l on. -/
def inR (t l h w i j : Nat) : Bool := (decide (t ≤ i) && decide (i < t + h)) && (decide (l ≤ j) && decide (j < l + w))
theorem b1_and {a b : Bool} : b1 (a && b) = b1 a * b1 b := by cases a <;> cases b <;> rfl
theorem cnt_rect {H W t l h w : Nat} (h1 : t + h ≤ H) (h2 : l + w ≤ W) : cnt H W (inR t l h w) = h * w := by
  unfold cnt inR
  have e : (fun i => sN W fun j => b1 ((decide (t ≤ i) && decide (i < t + h)) && (decide (l ≤ j) && decide (j < l + w)))) = fun i => b1 (decide (t ≤ i) && decide (i < t + h)) * w := by
    funext i
    have : (fun j => b1 ((decide (t ≤ i) && decide (i < t + h)) && (decide (l ≤ j) && decide (j < l + w)))) = fun j => b1 (decide (l ≤ j) && decide (j < l + w)) * b1 (decide (t ≤ i) && decide (i < t + h)) := by
      funext j; rw [b1_and, Nat.mul_comm]
    rw [this, sN_mul, sN_seg h2, Nat.mul_comm]
  rw [e, sN_mul, sN_seg h1]
/-- Each cell is in one of n classes. -/
theorem cnt_classes {H W n : Nat} {z : Nat → Nat → Nat} (hz : ∀ i j, i < H → j < W → z i j < n) : sN n (fun r => cnt H W fun i j => decide (z i j = r)) = H * W := by
  unfold cnt
  rw [sN_swap]
  have : sN H (fun i => sN n fun r => sN W fun j => b1 (decide (z i j = r))) = sN H (fun _ => W) := sN_congr fun i hi => by
    rw [sN_swap]
    have : sN W (fun j => sN n fun r => b1 (decide (z i j = r))) = sN W (fun _ => 1) := sN_congr fun j hj => by
      have h1 := hz i j hi hj
      have e : sN n (fun r => b1 (decide (z i j = r))) = sN n (fun r => b1 (decide (z i j ≤ r) && decide (r < z i j + 1))) := sN_congr fun r hr => by
        congr 1
        rw [Bool.eq_iff_iff]
        simp only [Bool.and_eq_true, decide_eq_true_eq]
        omega
      rw [e, sN_seg (by omega)]
    rw [this, sN_one]
  rw [this, sN_const]
end Fw
end Go.Proofs.Ythhhbdjefaaalaa

/-! The least rectangle around cells, by the program. -/
namespace Go.Proofs.Ythhhbdjefaaalaa
namespace Fw
open Go

/-- The least rectangle around the cells of pr. -/
structure Hull (pr : Nat → Nat → Prop) (t l lo ri : Int) : Prop where
  inn : ∀ a b, pr a b → t ≤ a ∧ (a : Int) ≤ lo ∧ l ≤ b ∧ (b : Int) ≤ ri
  at_ : ∃ a b : Nat, pr a b ∧ (a : Int) = t
  al : ∃ a b : Nat, pr a b ∧ (b : Int) = l
  ao : ∃ a b : Nat, pr a b ∧ (a : Int) = lo
  ar : ∃ a b : Nat, pr a b ∧ (b : Int) = ri
theorem Hull.uniq {pr : Nat → Nat → Prop} {t l lo ri t' l' lo' ri' : Int} (h : Hull pr t l lo ri) (k : Hull pr t' l' lo' ri') : t = t' ∧ l = l' ∧ lo = lo' ∧ ri = ri' := by
  obtain ⟨a1, b1, p1, e1⟩ := h.at_
  obtain ⟨a2, b2, p2, e2⟩ := h.al
  obtain ⟨a3, b3, p3, e3⟩ := h.ao
  obtain ⟨a4, b4, p4, e4⟩ := h.ar
  obtain ⟨a5, b5, p5, e5⟩ := k.at_
  obtain ⟨a6, b6, p6, e6⟩ := k.al
  obtain ⟨a7, b7, p7, e7⟩ := k.ao
  obtain ⟨a8, b8, p8, e8⟩ := k.ar
  have q1 := k.inn _ _ p1
  have q2 := k.inn _ _ p2
  have q3 := k.inn _ _ p3
  have q4 := k.inn _ _ p4
  have q5 := h.inn _ _ p5
  have q6 := h.inn _ _ p6
  have q7 := h.inn _ _ p7
  have q8 := h.inn _ _ p8
  omega
theorem Hull.congr {pr pr' : Nat → Nat → Prop} {t l lo ri : Int} (h : Hull pr t l lo ri) (e : ∀ a b, pr a b ↔ pr' a b) : Hull pr' t l lo ri := by
  have : pr = pr' := by funext a b; exact propext (e a b)
  exact this ▸ h
theorem Hull.add {pr : Nat → Nat → Prop} {t l lo ri : Int} (h : Hull pr t l lo ri) (i j : Nat) : Hull (fun a b => pr a b ∨ (a = i ∧ b = j)) (min t i) (min l j) (max lo i) (max ri j) := by
  refine ⟨?_, ?_, ?_, ?_, ?_⟩
  · rintro a b (p | ⟨rfl, rfl⟩)
    · have := h.inn a b p; omega
    · omega
  · by_cases e : t ≤ i
    · obtain ⟨a, b, p, q⟩ := h.at_; exact ⟨a, b, .inl p, by omega⟩
    · exact ⟨i, j, .inr ⟨rfl, rfl⟩, by omega⟩
  · by_cases e : l ≤ j
    · obtain ⟨a, b, p, q⟩ := h.al; exact ⟨a, b, .inl p, by omega⟩
    · exact ⟨i, j, .inr ⟨rfl, rfl⟩, by omega⟩
  · by_cases e : (i : Int) ≤ lo
    · obtain ⟨a, b, p, q⟩ := h.ao; exact ⟨a, b, .inl p, by omega⟩
    · exact ⟨i, j, .inr ⟨rfl, rfl⟩, by omega⟩
  · by_cases e : (j : Int) ≤ ri
    · obtain ⟨a, b, p, q⟩ := h.ar; exact ⟨a, b, .inl p, by omega⟩
    · exact ⟨i, j, .inr ⟨rfl, rfl⟩, by omega⟩
theorem Hull.one {pr : Nat → Nat → Prop} (h : ∀ a b, ¬ pr a b) (i j : Nat) : Hull (fun a b => pr a b ∨ (a = i ∧ b = j)) i j i j := by
  refine ⟨?_, ⟨i, j, .inr ⟨rfl, rfl⟩, rfl⟩, ⟨i, j, .inr ⟨rfl, rfl⟩, rfl⟩, ⟨i, j, .inr ⟨rfl, rfl⟩, rfl⟩, ⟨i, j, .inr ⟨rfl, rfl⟩, rfl⟩⟩
  rintro a b (p | ⟨rfl, rfl⟩)
  · exact absurd p (h a b)
  · omega
/-- Cells that are gone through: rows ahead of i, and of row i the first j. -/
def Gone (W i j a b : Nat) : Prop := b < W ∧ (a < i ∨ (a = i ∧ b < j))
theorem gone_succ {W i j a b : Nat} (hj : j < W) : Gone W i (j + 1) a b ↔ Gone W i j a b ∨ (a = i ∧ b = j) := by unfold Gone; omega
theorem gone_row {W i a b : Nat} : Gone W i W a b ↔ Gone W (i + 1) 0 a b := by unfold Gone; omega
/-- Cells of a value that are gone through. -/
def Val (z : Nat → Nat → Int) (W i j : Nat) (v : Int) (a b : Nat) : Prop := z a b = v ∧ Gone W i j a b
theorem val_hit {z : Nat → Nat → Int} {W i j : Nat} {v : Int} (hj : j < W) (h : z i j = v) (a b : Nat) : (Val z W i j v a b ∨ (a = i ∧ b = j)) ↔ Val z W i (j + 1) v a b := by
  unfold Val
  rw [gone_succ hj]
  constructor
  · rintro (⟨h1, h2⟩ | ⟨rfl, rfl⟩)
    · exact ⟨h1, .inl h2⟩
    · exact ⟨h, .inr ⟨rfl, rfl⟩⟩
  · rintro ⟨h1, h2 | h2⟩
    · exact .inl ⟨h1, h2⟩
    · exact .inr h2
theorem val_miss {z : Nat → Nat → Int} {W i j : Nat} {v : Int} (hj : j < W) (h : z i j ≠ v) (a b : Nat) : Val z W i j v a b ↔ Val z W i (j + 1) v a b := by
  unfold Val
  rw [gone_succ hj]
  constructor
  · rintro ⟨h1, h2⟩; exact ⟨h1, .inl h2⟩
  · rintro ⟨h1, h2 | ⟨rfl, rfl⟩⟩
    · exact ⟨h1, h2⟩
    · exact absurd h1 h
theorem val_row {z : Nat → Nat → Int} {W i : Nat} {v : Int} (a b : Nat) : Val z W i W v a b ↔ Val z W (i + 1) 0 v a b := by unfold Val; rw [gone_row]

def HullR (pr : Nat → Nat → Prop) (b : Rect) : Prop := Hull pr b.row b.col (b.row + b.high - 1) (b.col + b.wide - 1)
theorem HullR.both {pr : Nat → Nat → Prop} {b : Rect} (h : HullR pr b) (i j : Nat) : HullR (fun a c => pr a c ∨ (a = i ∧ c = j)) (b.both (oneR i j)) := by
  have := Hull.add h i j
  unfold HullR Rect.both oneR
  simp only
  rw [show min b.row (i : Int) + (max (b.row + b.high) ((i : Int) + 1) - min b.row (i : Int)) - 1 = max (b.row + b.high - 1) i by omega, show min b.col (j : Int) + (max (b.col + b.wide) ((j : Int) + 1) - min b.col (j : Int)) - 1 = max (b.col + b.wide - 1) j by omega]
  exact this
theorem one_both {i j : Nat} : (oneR i j).both (oneR i j) = oneR i j := by
  unfold Rect.both oneR
  simp only [Rect.mk.injEq]
  omega
theorem HullR.one {pr : Nat → Nat → Prop} (h : ∀ a b, ¬ pr a b) (i j : Nat) : HullR (fun a b => pr a b ∨ (a = i ∧ b = j)) (oneR i j) := by
  have := Hull.one h i j
  unfold HullR oneR
  simp only
  rw [show (i : Int) + 1 - 1 = i by omega, show (j : Int) + 1 - 1 = j by omega]
  exact this
theorem HullR.congr {pr pr' : Nat → Nat → Prop} {b : Rect} (h : HullR pr b) (e : ∀ a c, pr a c ↔ pr' a c) : HullR pr' b := Hull.congr h e

/-- Keys and rectangles while cells are gone through. -/
structure SeInv (z : Nat → Nat → Int) (W i j : Nat) (ks : List Int) (rs : List Rect) : Prop where
  nd : ks.Nodup
  len : rs.length = ks.length
  mem : ∀ a b, Gone W i j a b → z a b ∈ ks
  hull : ∀ (m : Nat) v b, ks[m]? = some v → rs[m]? = some b → HullR (Val z W i j v) b
theorem nodup_one {l : List Int} (h : l.Nodup) {a b : Nat} {v : Int} (ha : l[a]? = some v) (hb : l[b]? = some v) : a = b := by
  obtain ⟨p1, q1⟩ := List.getElem?_eq_some_iff.1 ha
  obtain ⟨p2, q2⟩ := List.getElem?_eq_some_iff.1 hb
  have := List.pairwise_iff_getElem.1 h
  rcases Nat.lt_trichotomy a b with hlt | heq | hgt
  · exact absurd (q1.trans q2.symm) (this a b p1 p2 hlt)
  · exact heq
  · exact absurd (q2.trans q1.symm) (this b a p2 p1 hgt)
theorem idxOf_mem {ks : List Int} {z : Int} (h : ¬ ks.idxOf z = ks.length) : ks[ks.idxOf z]? = some z := by
  have hl := idxOf_le (ks := ks) (z := z)
  have : z ∈ ks := by rw [← List.idxOf_lt_length_iff]; omega
  rw [List.getElem?_eq_getElem (List.idxOf_lt_length_iff.2 this), List.getElem_idxOf]
theorem idxOf_not {ks : List Int} {z : Int} (h : ks.idxOf z = ks.length) : z ∉ ks := by
  intro hm
  have := List.idxOf_lt_length_iff.2 hm
  omega
theorem SeInv.step {z : Nat → Nat → Int} {W i j : Nat} {ks : List Int} {rs : List Rect} (h : SeInv z W i j ks rs) (hj : j < W) : SeInv z W i (j + 1) (seKs ks (z i j)) (seRs ks rs (z i j) (oneR i j)) := by
  have hlen := h.len
  by_cases hin : ks.idxOf (z i j) = ks.length
  · have hnm := idxOf_not hin
    have e1 : seKs ks (z i j) = ks ++ [z i j] := by simp [seKs, hin]
    have e2 : seRs ks rs (z i j) (oneR i j) = rs ++ [oneR i j] := by
      unfold seRs seIn
      rw [if_pos hin, hin, ← hlen, List.getD_eq_getElem?_getD]
      simp [one_both]
    rw [e1, e2]
    refine ⟨?_, by simp [hlen], ?_, ?_⟩
    · rw [List.nodup_append]
      refine ⟨h.nd, by simp, ?_⟩
      intro a ha b hb
      rw [List.mem_singleton] at hb
      rintro rfl
      exact hnm (hb ▸ ha)
    · intro a b hab
      rw [gone_succ hj] at hab
      rcases hab with hab | ⟨rfl, rfl⟩
      · exact List.mem_append_left _ (h.mem a b hab)
      · simp
    · intro m v b hm hb
      by_cases hml : m < ks.length
      · rw [List.getElem?_append_left hml] at hm
        rw [List.getElem?_append_left (by omega)] at hb
        have hv : z i j ≠ v := fun e => hnm (e ▸ List.mem_of_getElem? hm)
        exact (h.hull m v b hm hb).congr (val_miss hj hv)
      · have hml2 := len_of hm
        simp only [List.length_append, List.length_singleton] at hml2
        obtain rfl : m = ks.length := by omega
        rw [List.getElem?_append_right (Nat.le_refl _), Nat.sub_self] at hm
        rw [← hlen, List.getElem?_append_right (Nat.le_refl _), Nat.sub_self] at hb
        simp only [List.getElem?_cons_zero, Option.some.injEq] at hm hb
        subst hm hb
        exact (HullR.one (pr := Val z W i j (z i j)) (fun a b hab => hnm (hab.1 ▸ h.mem a b hab.2)) i j).congr (val_hit hj rfl)
  · have hk := idxOf_mem hin
    have hkl := len_of hk
    have e1 : seKs ks (z i j) = ks := by simp [seKs, hin]
    obtain ⟨b0, hb0, -⟩ := get_of (show ks.idxOf (z i j) < rs.length by omega)
    have e2 : seRs ks rs (z i j) (oneR i j) = rs.set (ks.idxOf (z i j)) (b0.both (oneR i j)) := by
      unfold seRs seIn
      rw [if_neg hin, List.getD_eq_getElem?_getD, hb0]; rfl
    rw [e1, e2]
    refine ⟨h.nd, by simp [hlen], ?_, ?_⟩
    · intro a b hab
      rw [gone_succ hj] at hab
      rcases hab with hab | ⟨rfl, rfl⟩
      · exact h.mem a b hab
      · exact List.mem_of_getElem? hk
    · intro m v b hm hb
      rw [List.getElem?_set] at hb
      by_cases e : ks.idxOf (z i j) = m
      · subst e
        rw [if_pos rfl, if_pos (by omega)] at hb
        cases hb
        rw [hk] at hm
        cases hm
        exact ((h.hull _ _ _ hk hb0).both i j).congr (val_hit hj rfl)
      · rw [if_neg e] at hb
        have hv : z i j ≠ v := by
          rintro rfl
          exact e (nodup_one h.nd hk hm)
        exact (h.hull m v b hm hb).congr (val_miss hj hv)
theorem SeInv.nil {z : Nat → Nat → Int} {W : Nat} : SeInv z W 0 0 [] [] := by
  refine ⟨by simp, rfl, ?_, by simp⟩
  intro a b h
  unfold Gone at h; omega
theorem SeInv.row {g : List (List Int)} {W i : Nat} {s : List Int × List Rect} (h : SeInv (gz g) W i 0 s.1 s.2) : ∀ j, j ≤ W → SeInv (gz g) W i j (seRow g i s j).1 (seRow g i s j).2
  | 0, _ => h
  | j + 1, hj => (SeInv.row h j (by omega)).step (by omega)
theorem SeInv.rows {g : List (List Int)} {W : Nat} : ∀ i, SeInv (gz g) W i 0 (seRows g W i).1 (seRows g W i).2
  | 0 => SeInv.nil
  | i + 1 => by
    have h := (SeInv.rows (g := g) (W := W) i).row W (Nat.le_refl _)
    refine ⟨h.nd, h.len, fun a b hab => h.mem a b (gone_row.2 hab), fun m v b hm hb => (h.hull m v b hm hb).congr (fun a c => val_row a c)⟩
/-- The numbers of cells are places among the keys. -/
theorem seRow_pre {g : List (List Int)} {i : Nat} {s : List Int × List Rect} : ∀ {j k : Nat}, j ≤ k → ∃ r, (seRow g i s k).1 = (seRow g i s j).1 ++ r
  | j, 0, h => by
    have hj : j = 0 := by omega
    subst hj; exact ⟨[], by simp⟩
  | j, k + 1, h => by
    by_cases e : j = k + 1
    · subst e; exact ⟨[], by simp⟩
    · obtain ⟨r, hr⟩ := seRow_pre (g := g) (i := i) (s := s) (show j ≤ k by omega)
      simp only [seRow, seKs]
      split
      · exact ⟨r ++ [gz g i k], by rw [hr, List.append_assoc]⟩
      · exact ⟨r, hr⟩
theorem seRows_pre {g : List (List Int)} {W : Nat} : ∀ {i k : Nat}, i ≤ k → ∃ r, (seRows g W k).1 = (seRows g W i).1 ++ r
  | i, 0, h => by
    have hi : i = 0 := by omega
    subst hi; exact ⟨[], by simp⟩
  | i, k + 1, h => by
    by_cases e : i = k + 1
    · subst e; exact ⟨[], by simp⟩
    · obtain ⟨r, hr⟩ := seRows_pre (g := g) (W := W) (show i ≤ k by omega)
      obtain ⟨r2, hr2⟩ := seRow_pre (g := g) (i := k) (s := seRows g W k) (Nat.zero_le W)
      simp only [seRows]
      refine ⟨r ++ r2, ?_⟩
      rw [hr2, ← List.append_assoc, ← hr]; rfl
theorem idxOf_app {l r : List Int} {x : Int} (h : ¬ l.idxOf x = l.length) : (l ++ r).idxOf x = l.idxOf x := by
  have hl := idxOf_le (ks := l) (z := x)
  have hm : x ∈ l := by rw [← List.idxOf_lt_length_iff]; omega
  rw [List.idxOf_append, if_pos hm]
theorem idxOf_new {l r : List Int} {x : Int} (h : l.idxOf x = l.length) : (l ++ [x] ++ r).idxOf x = l.length := by
  have hm : x ∉ l := idxOf_not h
  rw [List.append_assoc, List.idxOf_append, if_neg hm]
  simp
theorem zNum {g : List (List Int)} {W nh i j : Nat} (hi : i < nh) (hj : j < W) : ((seRow g i (seRows g W i) j).1.idxOf (gz g i j)) = (seRows g W nh).1.idxOf (gz g i j) := by
  obtain ⟨r, hr⟩ := seRows_pre (g := g) (W := W) (show i + 1 ≤ nh by omega)
  obtain ⟨r2, hr2⟩ := seRow_pre (g := g) (i := i) (s := seRows g W i) (show j + 1 ≤ W by omega)
  have e : (seRows g W nh).1 = seKs (seRow g i (seRows g W i) j).1 (gz g i j) ++ (r2 ++ r) := by
    rw [hr, ← List.append_assoc]
    congr 1
  rw [e]
  generalize (seRow g i (seRows g W i) j).1 = ks
  unfold seKs
  by_cases hin : ks.idxOf (gz g i j) = ks.length
  · rw [if_pos hin, idxOf_new hin, hin]
  · rw [if_neg hin, idxOf_app hin]
end Fw
end Go.Proofs.Ythhhbdjefaaalaa

/-! The least rectangle around a room and its cells, by the specification. -/
namespace Go.Proofs.Ythhhbdjefaaalaa
namespace Fw
open Go

/-- The cells of a room. -/
def inZ (p : List Txt) (r : Int) (i j : Nat) : Bool := decide (cellZ p i j = r)
theorem inRoom_is {p : List Txt} {i k : Nat} {row : Txt} {c : UInt8} {r : Int} (h : p[i]? = some row) (hc : row[k]? = some c) : inRoom r c = inZ p r i k := by
  unfold inRoom inZ; rw [cellZ_is h hc]
theorem cellsRow_cnt {p : List Txt} {i : Nat} {row : Txt} {r : Int} (h : p[i]? = some row) (n : Int) : ∀ k, k ≤ row.length → cellsRow r n (row.take k) = n + sN k fun j => b1 (inZ p r i j)
  | 0, _ => by simp [cellsRow, sN]
  | k + 1, hk => by
    obtain ⟨c, hc, -⟩ := get_of (show k < row.length by omega)
    have ih := cellsRow_cnt (r := r) h n k (by omega)
    unfold cellsRow at ih ⊢
    rw [foldl_tk hc, ih, sN, inRoom_is h hc]
    cases inZ p r i k <;> simp [b1]
    omega
theorem l1Cells_cnt {p : List Txt} {W : Nat} (hW : ∀ row ∈ p, row.length = W) {r : Int} : ∀ i, i ≤ p.length → (p.take i).foldl (cellsRow r) 0 = ((sN i fun i => sN W fun j => b1 (inZ p r i j) : Nat) : Int)
  | 0, _ => by simp [sN]
  | i + 1, hi => by
    obtain ⟨row, hr, hm⟩ := get_of (show i < p.length by omega)
    have ih := l1Cells_cnt hW (r := r) i (by omega)
    have hl := hW row hm
    have := cellsRow_cnt (r := r) hr (((sN i fun i => sN W fun j => b1 (inZ p r i j) : Nat) : Int)) W (by omega)
    rw [List.take_of_length_le (by omega)] at this
    rw [foldl_tk hr, ih, this, sN]
    simp
theorem l1Cells_is {p : List Txt} {W : Nat} (hW : ∀ row ∈ p, row.length = W) {r : Int} : l1Cells p r = ((cnt p.length W (inZ p r) : Nat) : Int) := by
  have := l1Cells_cnt hW (r := r) p.length (Nat.le_refl _)
  rwa [List.take_length] at this
/-- What the specification knows of a room when some cells are gone through. -/
def BoxInv (H W : Nat) (pr : Nat → Nat → Prop) (b : Box) : Prop := ((∀ a c, ¬ pr a c) ∧ b = ⟨H, W, -1, -1⟩) ∨ Hull pr b.top b.left b.low b.right
theorem BoxInv.congr {H W : Nat} {pr pr' : Nat → Nat → Prop} {b : Box} (h : BoxInv H W pr b) (e : ∀ a c, pr a c ↔ pr' a c) : BoxInv H W pr' b := by
  have : pr = pr' := by funext a b; exact propext (e a b)
  exact this ▸ h
theorem BoxInv.add {H W : Nat} {pr : Nat → Nat → Prop} {b : Box} (h : BoxInv H W pr b) {i k : Nat} (hi : i < H) (hk : k < W) : BoxInv H W (fun a c => pr a c ∨ (a = i ∧ c = k)) ⟨min b.top i, min b.left k, max b.low i, max b.right k⟩ := by
  rcases h with ⟨h1, rfl⟩ | h
  · right
    have := Hull.one h1 i k
    simp only
    rw [show min (H : Int) i = i by omega, show min (W : Int) k = k by omega, show max (-1 : Int) i = i by omega, show max (-1 : Int) k = k by omega]
    exact this
  · exact .inr (Hull.add h i k)
theorem rowTo_inv {p : List Txt} {H W i : Nat} {row : Txt} {r : Int} (hr : p[i]? = some row) (hW : row.length = W) (hi : i < H) {b : Box} (h : BoxInv H W (Val (cellZ p) W i 0 r) b) : ∀ k, k ≤ W → BoxInv H W (Val (cellZ p) W i k r) (rowTo r i b row k)
  | 0, _ => by simpa [rowTo] using h
  | k + 1, hk => by
    obtain ⟨c, hc, -⟩ := get_of (show k < row.length by omega)
    have ih := rowTo_inv hr hW hi h k (by omega)
    rw [rowTo_succ hc]
    unfold boxCell
    simp only
    rw [inRoom_is hr hc]
    by_cases e : cellZ p i k = r
    · rw [if_pos (by unfold inZ; exact decide_eq_true e)]
      exact (ih.add hi (by omega)).congr (val_hit (by omega) e)
    · rw [if_neg (by unfold inZ; rw [decide_eq_false e]; exact Bool.false_ne_true)]
      exact ih.congr (val_miss (by omega) e)
theorem boxTo_inv {p : List Txt} {W : Nat} (hW : ∀ row ∈ p, row.length = W) (hh : (hdRow p).length = W) {r : Int} : ∀ i, i ≤ p.length → BoxInv p.length W (Val (cellZ p) W i 0 r) (boxTo p r i)
  | 0, _ => by
    left
    refine ⟨fun a c h => ?_, by simp [boxTo, hh]⟩
    have := h.2
    unfold Gone at this; omega
  | i + 1, hi => by
    obtain ⟨row, hr, hm⟩ := get_of (show i < p.length by omega)
    rw [boxTo_succ hr]
    have := rowTo_inv (r := r) hr (hW row hm) (by omega) (boxTo_inv hW hh i (by omega)) W (Nat.le_refl _)
    rw [hW row hm]
    exact this.congr fun a c => val_row a c
theorem boxOf_inv {p : List Txt} {W : Nat} (hW : ∀ row ∈ p, row.length = W) (hh : (hdRow p).length = W) {r : Int} : BoxInv p.length W (Val (cellZ p) W p.length 0 r) (boxOf p r) := by
  rw [← boxTo_all]; exact boxTo_inv hW hh p.length (Nat.le_refl _)
/-- A rectangle in whole numbers around cells of a grid. -/
theorem Hull.nat {z : Nat → Nat → Int} {H W : Nat} {v : Int} {t l lo ri : Int} (h : Hull (Val z W H 0 v) t l lo ri) : ∃ t' l' h' w' : Nat, t = t' ∧ l = l' ∧ lo = t' + h' - 1 ∧ ri = l' + w' - 1 ∧ 1 ≤ h' ∧ 1 ≤ w' ∧ t' + h' ≤ H ∧ l' + w' ≤ W ∧
    ∀ i j, i < H → j < W → z i j = v → inR t' l' h' w' i j = true := by
  obtain ⟨a1, b1, p1, e1⟩ := h.at_
  obtain ⟨a2, b2, p2, e2⟩ := h.al
  obtain ⟨a3, b3, p3, e3⟩ := h.ao
  obtain ⟨a4, b4, p4, e4⟩ := h.ar
  have q1 := h.inn _ _ p1
  have q2 := h.inn _ _ p2
  obtain ⟨-, g3, g3'⟩ := p3
  obtain ⟨-, g4, g4'⟩ := p4
  refine ⟨a1, b2, a3 + 1 - a1, b4 + 1 - b2, e1.symm, e2.symm, by omega, by omega, by omega, by omega, by omega, by omega, fun i j hi hj hv => ?_⟩
  have := h.inn i j ⟨hv, by unfold Gone; omega⟩
  unfold inR
  simp only [Bool.and_eq_true, decide_eq_true_eq]
  omega
end Fw
end Go.Proofs.Ythhhbdjefaaalaa

/-! Plans that are read are the specification's: grids and names. -/
namespace Go.Proofs.Ythhhbdjefaaalaa
namespace Fw
open Go

def u8I (c : UInt8) : Int := (c.toNat : Int)
theorem u8I_inj {a b : UInt8} (h : u8I a = u8I b) : a = b := by
  unfold u8I at h
  exact UInt8.toNat_inj.1 (by omega)
theorem idxOf_map {α β : Type} [DecidableEq α] [DecidableEq β] {f : α → β} (hf : ∀ a b, f a = f b → a = b) {c : α} : ∀ (l : List α), (l.map f).idxOf (f c) = l.idxOf c
  | [] => rfl
  | a :: l => by
    rw [List.map_cons, List.idxOf_cons, List.idxOf_cons, idxOf_map hf l]
    by_cases e : a = c
    · subst e; simp
    · have e2 : f a ≠ f c := fun h => e (hf _ _ h)
      rw [show (f a == f c) = false by simpa using e2, show (a == c) = false by simpa using e]
theorem gz_read {p : List Txt} {i k : Nat} {row : Txt} {c : UInt8} (h : p[i]? = some row) (hc : row[k]? = some c) : gz (readG p) i k = u8I c := by
  simp [gz, readG, rowZ, h, hc, u8I]
theorem nameRow_is {p : List Txt} {i : Nat} {row : Txt} (h : p[i]? = some row) {o : List UInt8} {s : List Int × List Rect} (ho : o.map u8I = s.1) : ∀ j, j ≤ row.length →
    ((row.take j).foldl nameStep (o, [])).1.map u8I = (seRow (readG p) i s j).1 ∧ ((row.take j).foldl nameStep (o, [])).2 = rowT (zRow (readG p) i s j)
  | 0, _ => ⟨by simpa [seRow] using ho, by simp [zRow, rowT]⟩
  | j + 1, hj => by
    obtain ⟨c, hc, -⟩ := get_of (show j < row.length by omega)
    obtain ⟨h1, h2⟩ := nameRow_is h ho j (by omega)
    rw [foldl_tk hc]
    generalize (row.take j).foldl nameStep (o, []) = q at h1 h2 ⊢
    have hz := gz_read h hc
    have hi : (seRow (readG p) i s j).1.idxOf (gz (readG p) i j) = q.1.idxOf c := by rw [← h1, hz, idxOf_map fun a b => u8I_inj]
    have hl : (seRow (readG p) i s j).1.length = q.1.length := by rw [← h1, List.length_map]
    constructor
    · simp only [nameStep, seRow, seKs]
      rw [hi, hl]
      split
      · rw [List.map_append, h1, hz]; rfl
      · exact h1
    · simp only [nameStep, zRow]
      rw [hi, h2]
      simp [rowT, letZ]
theorem names_to {p : List Txt} {W : Nat} (hW : ∀ row ∈ p, row.length = W) : ∀ i, i ≤ p.length →
    ((p.take i).foldl nameGo ([], [])).1.map u8I = (seRows (readG p) W i).1 ∧ ((p.take i).foldl nameGo ([], [])).2 = textG (zRows (readG p) W i)
  | 0, _ => by simp [seRows, zRows, textG]
  | i + 1, hi => by
    obtain ⟨row, hr, hm⟩ := get_of (show i < p.length by omega)
    obtain ⟨h1, h2⟩ := names_to hW i (by omega)
    rw [foldl_tk hr]
    generalize (p.take i).foldl nameGo ([], []) = q at h1 h2 ⊢
    have hl := hW row hm
    obtain ⟨k1, k2⟩ := nameRow_is hr h1 row.length (Nat.le_refl _)
    rw [List.take_length, hl] at k1 k2
    constructor
    · simp only [nameGo, nameRow, seRows]; exact k1
    · simp only [nameGo, nameRow, zRows, textG, List.map_append, List.map_cons, List.map_nil]
      rw [k2, h2]
      rfl
theorem w0_read {p : List Txt} : w0 (readG p) = (hdRow p).length := by
  cases p with
  | nil => rfl
  | cons a p => simp [w0, readG, rowZ, hdRow]
theorem grid_rows {p : List Txt} (hg : gridB p = true) : ∀ row ∈ p, row.length = (hdRow p).length := by
  intro row hm
  obtain ⟨i, hi⟩ := List.getElem?_of_mem hm
  exact grid_row hg hi
theorem names_text {p : List Txt} (hg : gridB p = true) : names p = textG (gP p) := by
  have := (names_to (grid_rows hg) p.length (Nat.le_refl _)).2
  rw [List.take_length] at this
  unfold names namesAll gP zG
  rw [this, w0_read, readG_len]
theorem grid_iff {p : List Txt} : gridB p = (lettersB p && okG (readG p)) := by
  rw [Bool.eq_iff_iff, Bool.and_eq_true, okG_iff, readG_len, w0_read]
  unfold gridB lettersB GW rowB
  simp only [Bool.and_eq_true, decide_eq_true_eq, List.all_eq_true, readG_len, true_and]
  constructor
  · rintro ⟨⟨h1, h2⟩, h3⟩
    obtain ⟨row0, hr0, hm0⟩ := get_of (show 0 < p.length by omega)
    have hh := hdRow_of hr0
    have h4 := h1 row0 hm0
    refine ⟨fun r hr => (h1 r hr).2, fun r hr => ?_, h2, h3, by rw [hh]; omega, by rw [hh]; omega⟩
    obtain ⟨t, ht, rfl⟩ := List.mem_map.1 hr
    rw [rowZ_len]; exact (h1 t ht).1.1.1
  · rintro ⟨h1, h2, h3, h4, h5, h6⟩
    refine ⟨⟨fun r hr => ?_, h3⟩, h4⟩
    have := h2 (rowZ r) (List.mem_map.2 ⟨r, hr, rfl⟩)
    rw [rowZ_len] at this
    exact ⟨⟨⟨this, by omega⟩, by omega⟩, h1 r hr⟩
end Fw
end Go.Proofs.Ythhhbdjefaaalaa

/-! Plans that are read are the specification's: numbers of rooms and rectangles. -/
namespace Go.Proofs.Ythhhbdjefaaalaa
namespace Fw
open Go

theorem zRow_at {g : List (List Int)} {i : Nat} {s : List Int × List Rect} : ∀ {j k : Nat}, k < j → (zRow g i s j)[k]? = some (((seRow g i s k).1.idxOf (gz g i k) : Nat) : Int)
  | 0, k, h => by omega
  | j + 1, k, h => by
    unfold zRow
    by_cases e : k = j
    · subst e; rw [List.getElem?_append_right (by rw [zRow_len]; exact Nat.le_refl _), zRow_len]; simp
    · rw [List.getElem?_append_left (by rw [zRow_len]; omega)]; exact zRow_at (by omega)
def keys (p : List Txt) : List Int := (seRows (readG p) (hdRow p).length p.length).1
theorem gP_eq {p : List Txt} : gP p = zRows (readG p) (hdRow p).length p.length := by unfold gP zG; rw [w0_read, readG_len]
theorem rP_eq {p : List Txt} : rP p = (seRows (readG p) (hdRow p).length p.length).2 := by unfold rP stG; rw [w0_read, readG_len]
theorem gP_at {p : List Txt} {i j : Nat} (hi : i < p.length) (hj : j < (hdRow p).length) : gz (gP p) i j = (((keys p).idxOf (gz (readG p) i j) : Nat) : Int) := by
  rw [gP_eq]
  unfold gz
  rw [zRows_at hi, Option.getD_some, zRow_at hj, Option.getD_some]
  congr 1
  exact zNum hi hj
theorem keys_inv (p : List Txt) : SeInv (gz (readG p)) (hdRow p).length p.length 0 (keys p) (rP p) := by
  rw [rP_eq]; exact SeInv.rows p.length
theorem gone_all {H W i j : Nat} (hi : i < H) (hj : j < W) : Gone W H 0 i j := ⟨hj, .inl hi⟩
theorem gP_room {p : List Txt} : RmOk (gP p) p.length (hdRow p).length (rP p).length := by
  intro i j hi hj
  rw [gP_at hi hj]
  have hm := (keys_inv p).mem i j (gone_all hi hj)
  have hl := (keys_inv p).len
  have := List.idxOf_lt_length_iff.2 hm
  omega
/-- A plan whose names are as they should be. -/
structure Named (p : List Txt) : Prop where
  hg : gridB p = true
  ht : textG (gP p) = p
theorem Named.cell {p : List Txt} (h : Named p) {i j : Nat} (hi : i < p.length) (hj : j < (hdRow p).length) : gz (gP p) i j = cellZ p i j := by
  have hgz := gP_at hi hj
  have hm := (keys_inv p).mem i j (gone_all hi hj)
  have hsm := grid_small h.hg
  obtain ⟨row0, hr0, hm0⟩ := get_of hsm.1
  have hh := hdRow_of hr0
  have hw6 := hsm.2.2 row0 hm0
  have hw1 := row_pos h.hg hr0
  rw [← hh] at hw6 hw1
  have hb := zRows_bound (g := readG p) hw6 hw1 p.length hsm.2.1
  rw [← gP_eq] at hb
  have hrl : (gP p).length = p.length := by rw [gP_eq]; exact zRows_len _
  obtain ⟨zr, hzr, hzm⟩ := get_of (show i < (gP p).length by omega)
  have hzl : zr.length = (hdRow p).length := by
    have e := hzr
    rw [gP_eq, zRows_at hi] at e
    cases e
    exact zRow_len _
  obtain ⟨z, hz, hzm2⟩ := get_of (show j < zr.length by omega)
  have hz1 := hb zr hzm z hzm2
  have e1 : gz (gP p) i j = z := by simp [gz, hzr, hz]
  have e2 : p[i]? = some (rowT zr) := by
    have := textG_at hzr
    rwa [h.ht] at this
  have e3 : (rowT zr)[j]? = some (letZ z) := by simp [rowT, hz]
  rw [e1, cellZ_is e2 e3]
  unfold letZ
  rw [UInt8.toNat_ofNat_of_lt' (by show 97 + z.toNat < 256; omega)]
  omega
theorem Named.room {p : List Txt} (h : Named p) {i j : Nat} (hi : i < p.length) (hj : j < (hdRow p).length) : 0 ≤ cellZ p i j ∧ cellZ p i j < (rP p).length := by
  rw [← h.cell hi hj]; exact gP_room i j hi hj
/-- A key is in a cell just if the cell's room is the key's number. -/
theorem Named.key {p : List Txt} (h : Named p) {m : Nat} {v : Int} (hm : (keys p)[m]? = some v) (a b : Nat) : Val (gz (readG p)) (hdRow p).length p.length 0 v a b ↔ Val (cellZ p) (hdRow p).length p.length 0 m a b := by
  unfold Val
  constructor
  · rintro ⟨h1, h2⟩
    refine ⟨?_, h2⟩
    obtain ⟨hb, ha⟩ := h2
    have ha' : a < p.length := by omega
    rw [← h.cell ha' hb, gP_at ha' hb, h1]
    congr 1
    have hv := List.mem_of_getElem? hm
    have hlt := List.idxOf_lt_length_iff.2 hv
    have := idxOf_mem (ks := keys p) (z := v) (by omega)
    exact nodup_one (keys_inv p).nd this hm
  · rintro ⟨h1, h2⟩
    refine ⟨?_, h2⟩
    obtain ⟨hb, ha⟩ := h2
    have ha' : a < p.length := by omega
    have hmem := (keys_inv p).mem a b (gone_all ha' hb)
    have hlt := List.idxOf_lt_length_iff.2 hmem
    rw [← h.cell ha' hb, gP_at ha' hb] at h1
    have := idxOf_mem (ks := keys p) (z := gz (readG p) a b) (by omega)
    rw [show (keys p).idxOf (gz (readG p) a b) = m by omega, hm] at this
    cases this; rfl
/-- The rectangle of a room. -/
theorem Named.rect {p : List Txt} (h : Named p) {m : Nat} {b : Rect} (hb : (rP p)[m]? = some b) : HullR (Val (cellZ p) (hdRow p).length p.length 0 m) b := by
  have hi := keys_inv p
  have hml := len_of hb
  rw [hi.len] at hml
  obtain ⟨v, hv, -⟩ := get_of hml
  exact (hi.hull m v b hv hb).congr (h.key hv)
theorem Named.box {p : List Txt} (h : Named p) {m : Nat} {b : Rect} (hb : (rP p)[m]? = some b) : b.row = (boxOf p m).top ∧ b.col = (boxOf p m).left ∧ b.high = highOf p m ∧ b.wide = wideOf p m := by
  have h1 := h.rect hb
  have h2 := boxOf_inv (grid_rows h.hg) rfl (r := (m : Int))
  rcases h2 with ⟨h2, -⟩ | h2
  · obtain ⟨a, c, q, -⟩ := h1.at_
    exact absurd q (h2 a c)
  · have := Hull.uniq h1 h2
    unfold highOf wideOf
    omega
theorem foldl_max_le {f : UInt8 → Int} {B : Int} : ∀ (row : Txt) (n : Int), n ≤ B → (∀ c ∈ row, f c ≤ B) → row.foldl (fun n c => max n (f c)) n ≤ B
  | [], n, h, _ => h
  | c :: row, n, h, hc => foldl_max_le row _ (by have := hc c (by simp); show max n (f c) ≤ B; omega) fun d hd => hc d (by simp [hd])
theorem rooms_le {B : Int} : ∀ (p : List Txt) (n : Int), n ≤ B → (∀ row ∈ p, ∀ c ∈ row, (c.toNat : Int) - 97 + 1 ≤ B) → p.foldl rowMax n ≤ B
  | [], n, h, _ => h
  | row :: p, n, h, hc => rooms_le p _ (foldl_max_le row n h (hc row (by simp))) fun r hr => hc r (by simp [hr])
theorem Named.rooms {p : List Txt} (h : Named p) : l1Rooms p = (rP p).length := by
  have hi := keys_inv p
  have hl := hi.len
  apply Int.le_antisymm
  · refine rooms_le p 0 (by omega) fun row hr c hc => ?_
    obtain ⟨i, hrow⟩ := List.getElem?_of_mem hr
    obtain ⟨j, hcol⟩ := List.getElem?_of_mem hc
    have hil := len_of hrow
    have hjl := len_of hcol
    have := h.room hil (by rw [← grid_row h.hg hrow]; exact hjl)
    rw [cellZ_is hrow hcol] at this
    omega
  · by_cases h0 : (rP p).length = 0
    · have := (l1Rooms_bound p).1; omega
    · obtain ⟨b, hb, -⟩ := get_of (show (rP p).length - 1 < (rP p).length by omega)
      obtain ⟨a, c, ⟨q1, q2⟩, -⟩ := (h.rect hb).at_
      obtain ⟨hc, ha⟩ := q2
      have ha' : a < p.length := by omega
      obtain ⟨row, hrow, hrm⟩ := get_of ha'
      have hrl := grid_row h.hg hrow
      obtain ⟨d, hd, -⟩ := get_of (show c < row.length by omega)
      have := (rooms_fold p 0).2 a c row d hrow hd
      rw [cellZ_is hrow hd] at q1
      unfold l1Rooms
      omega
end Fw
end Go.Proofs.Ythhhbdjefaaalaa

/-! Plans that are read are the specification's: rooms fill their rectangles. -/
namespace Go.Proofs.Ythhhbdjefaaalaa
namespace Fw
open Go

def inB (b : Rect) (i j : Nat) : Bool := (decide (b.row ≤ i) && decide ((i : Int) < b.row + b.high)) && (decide (b.col ≤ j) && decide ((j : Int) < b.col + b.wide))
theorem rect_cnt {z : Nat → Nat → Int} {H W : Nat} {v : Int} {b : Rect} (h : HullR (Val z W H 0 v) b) : ((cnt H W (inB b) : Nat) : Int) = b.high * b.wide ∧ ∀ i j, i < H → j < W → z i j = v → inB b i j = true := by
  obtain ⟨t, l, hh, w, e1, e2, e3, e4, h1, h2, h3, h4, h5⟩ := Hull.nat h
  have e5 : b.high = hh := by omega
  have e6 : b.wide = w := by omega
  have e : ∀ i j, inB b i j = inR t l hh w i j := by
    intro i j
    unfold inB inR
    rw [e1, e2, e5, e6, Bool.eq_iff_iff]
    simp only [Bool.and_eq_true, decide_eq_true_eq]
    omega
  have e7 : inB b = inR t l hh w := by funext i j; exact e i j
  rw [e7, cnt_rect h3 h4, e5, e6]
  exact ⟨by simp, h5⟩
/-- How many cells the rectangle of a room has. -/
def arN (p : List Txt) (m : Nat) : Nat :=
  match (rP p)[m]? with
  | some b => cnt p.length (hdRow p).length (inB b)
  | none => 0
theorem arN_is {p : List Txt} {m : Nat} {b : Rect} (h : (rP p)[m]? = some b) : arN p m = cnt p.length (hdRow p).length (inB b) := by simp [arN, h]
theorem sumA_is {p : List Txt} (h : Named p) : ∀ k, k ≤ (rP p).length → sumA ((rP p).take k) = ((sN k (arN p) : Nat) : Int)
  | 0, _ => by simp [sumA, sN]
  | k + 1, hk => by
    obtain ⟨b, hb, -⟩ := get_of (show k < (rP p).length by omega)
    rw [sumA_succ hb, sumA_is h k (by omega), sN, arN_is hb, ← (rect_cnt (h.rect hb)).1]
    simp
theorem Named.cells_le {p : List Txt} (h : Named p) {m : Nat} (hm : m < (rP p).length) : cnt p.length (hdRow p).length (inZ p m) ≤ arN p m := by
  obtain ⟨b, hb, -⟩ := get_of hm
  rw [arN_is hb]
  exact cnt_le fun i j hi hj hz => (rect_cnt (h.rect hb)).2 i j hi hj (by unfold inZ at hz; simpa using hz)
theorem Named.all {p : List Txt} (h : Named p) : sN (rP p).length (fun m => cnt p.length (hdRow p).length (inZ p m)) = p.length * (hdRow p).length := by
  rw [← cnt_classes (H := p.length) (W := (hdRow p).length) (n := (rP p).length) (z := fun i j => (cellZ p i j).toNat) fun i j hi hj => by have := h.room hi hj; omega]
  refine sN_congr fun m hm => cnt_congr fun i j hi hj => ?_
  unfold inZ
  have := h.room hi hj
  apply decide_eq_decide.2
  omega
theorem fullG_is {p : List Txt} (h : Named p) : fullG (readG p) = decide (sN (rP p).length (arN p) = p.length * (hdRow p).length) := by
  have := sumA_is h (rP p).length (Nat.le_refl _)
  rw [List.take_length] at this
  unfold fullG
  rw [show (stG (readG p)).2 = rP p from rfl, this, readG_len, w0_read]
  apply decide_eq_decide.2
  omega
theorem Named.area {p : List Txt} (h : Named p) {m : Nat} (hm : m < (rP p).length) : (l1Cells p m = highOf p m * wideOf p m) ↔ cnt p.length (hdRow p).length (inZ p m) = arN p m := by
  obtain ⟨b, hb, -⟩ := get_of hm
  obtain ⟨-, -, e1, e2⟩ := h.box hb
  rw [l1Cells_is (grid_rows h.hg), ← e1, ← e2, ← (rect_cnt (h.rect hb)).1, arN_is hb]
  omega
theorem Named.full {p : List Txt} (h : Named p) : fullG (readG p) = true ↔ ∀ m, m < (rP p).length → cnt p.length (hdRow p).length (inZ p m) = arN p m := by
  rw [fullG_is h, decide_eq_true_eq, ← h.all]
  constructor
  · intro e m hm
    exact sN_eq (fun m hm => h.cells_le hm) e.symm m hm
  · intro e
    exact sN_congr fun m hm => (e m hm).symm
/-- Where areas are cells, rooms fill their rectangles. -/
theorem Named.fill {p : List Txt} (h : Named p) (hf : fullG (readG p) = true) {m : Nat} {b : Rect} (hb : (rP p)[m]? = some b) {i j : Nat} (hi : i < p.length) (hj : j < (hdRow p).length) : inB b i j = decide (cellZ p i j = m) := by
  have e := h.full.1 hf m (len_of hb)
  rw [arN_is hb] at e
  exact (cnt_eq (fun i j hi hj hz => (rect_cnt (h.rect hb)).2 i j hi hj (by unfold inZ at hz; simpa using hz)) e i j hi hj).symm
theorem floorI_plan {p : List Txt} : floorI p = planB p := by
  unfold floorI floorV okB okS planB
  rw [Bool.eq_iff_iff]
  simp only [Bool.and_eq_true, decide_eq_true_eq, List.all_eq_true, List.mem_range]
  have hgi := grid_iff (p := p)
  constructor
  · rintro ⟨⟨h1, h2, h3⟩, h4, h5⟩
    have hg : gridB p = true := by rw [hgi, h1, h2]; rfl
    have hN : Named p := ⟨hg, h5⟩
    have hr := hN.rooms
    have h3' : (rP p).length ≤ 9 := h3
    refine ⟨⟨⟨hg, by rw [names_text hg]; exact h5⟩, by omega⟩, fun m hm => ?_⟩
    have hm' : m < (rP p).length := by omega
    exact (hN.area hm').2 (hN.full.1 h4 m hm')
  · rintro ⟨⟨⟨hg, h2⟩, h3⟩, h4⟩
    have h5 : textG (gP p) = p := by rw [← names_text hg]; exact h2
    have hN : Named p := ⟨hg, h5⟩
    have hr := hN.rooms
    rw [hgi, Bool.and_eq_true] at hg
    have h3' : (rP p).length ≤ 9 := by omega
    exact ⟨⟨hg.1, hg.2, h3'⟩, hN.full.2 fun m hm => (hN.area hm).1 (h4 m (by omega)), h5⟩
theorem plan_named {p : List Txt} (h : planB p = true) : Named p := by
  have h2 := h
  rw [← floorI_plan] at h2
  unfold floorI floorV at h2
  simp only [Bool.and_eq_true, decide_eq_true_eq] at h2
  exact ⟨planB_grid h, h2.2.2⟩
theorem plan_full {p : List Txt} (h : planB p = true) : fullG (readG p) = true := by
  rw [← floorI_plan] at h
  unfold floorI floorV at h
  simp only [Bool.and_eq_true, decide_eq_true_eq] at h
  exact h.2.1
end Fw
end Go.Proofs.Ythhhbdjefaaalaa

/-! Areas by the program are the specification's. -/
namespace Go.Proofs.Ythhhbdjefaaalaa
namespace Fw
open Go

/-! ### Points -/
def cz (c : UInt8) : Int := (c.toNat : Int) - 97
theorem cz_inj {a b : UInt8} : (cz a = cz b) = (a = b) := by
  rw [u8_eq]
  unfold cz
  apply propext; omega
theorem dn_dist (a b c d : UInt8) : ((dn [cz a, cz b, cz c, cz d] : Nat) : Int) = distTo [a, b, c, d] 4 := by
  simp only [dn, distTo, newAt, newTo, List.mem_cons, List.not_mem_nil, or_false, cz_inj]
  by_cases h1 : a = b <;> by_cases h2 : a = c <;> by_cases h3 : a = d <;> by_cases h4 : b = c <;> by_cases h5 : b = d <;> by_cases h6 : c = d <;> simp_all [eq_comm]
theorem four_meets {p : List Txt} (h : Named p) {i k : Nat} (hi : 1 ≤ i) (hi2 : i < p.length) (hk : 1 ≤ k) (hk2 : k < (hdRow p).length) : ((dn (four (gP p) i k) : Nat) : Int) = meetsAt p i k := by
  obtain ⟨r1, hr1, -⟩ := get_of (show i - 1 < p.length by omega)
  obtain ⟨r2, hr2, -⟩ := get_of hi2
  have l1 := grid_row h.hg hr1
  have l2 := grid_row h.hg hr2
  obtain ⟨a, ha, -⟩ := get_of (show k - 1 < r1.length by omega)
  obtain ⟨b, hb, -⟩ := get_of (show k < r1.length by omega)
  obtain ⟨c, hc, -⟩ := get_of (show k - 1 < r2.length by omega)
  obtain ⟨d, hd, -⟩ := get_of (show k < r2.length by omega)
  unfold four meetsAt
  rw [h.cell (by omega) (by omega), h.cell (by omega) (by omega), h.cell (by omega) (by omega), h.cell (by omega) (by omega), cellZ_is hr1 ha, cellZ_is hr1 hb, cellZ_is hr2 hc, cellZ_is hr2 hd]
  simp only [hr1, hr2, ha, hb, hc, hd]
  exact dn_dist a b c d
theorem ptsRow_eq {p : List Txt} (h : Named p) {many : Int} {i : Nat} (hi : 1 ≤ i) (hi2 : i < p.length) : ∀ k, k ≤ (hdRow p).length → ptsRowG (gP p) many i k = ptsRow p many i k
  | 0, _ => rfl
  | k + 1, hk => by
    unfold ptsRowG ptsRow
    rw [ptsRow_eq h hi hi2 k (by omega)]
    by_cases h1 : 1 ≤ k
    · rw [four_meets h hi hi2 h1 (by omega)]
    · rw [if_neg (fun e => h1 e.1), if_neg (fun e => h1 e.1)]
theorem pts_eq {p : List Txt} (h : Named p) {many : Int} : ∀ i, i ≤ p.length → ptsG (gP p) many (hdRow p).length i = ptsTo p many (hdRow p).length i
  | 0, _ => rfl
  | i + 1, hi => by
    unfold ptsG ptsTo
    rw [pts_eq h i (by omega)]
    by_cases h1 : 1 ≤ i
    · rw [ptsRow_eq h h1 (by omega) _ (Nat.le_refl _)]
    · rw [if_neg h1, if_neg h1]
theorem plainI_plain {p : List Txt} : plainI p = plainB p := by
  unfold plainI plainB
  rw [floorI_plan]
  cases hp : planB p with
  | false => rfl
  | true =>
    rw [w0_read, pts_eq (plan_named hp) p.length (Nat.le_refl _)]
    rfl
theorem plain_plan {p : List Txt} (h : plainB p = true) : planB p = true := by
  unfold plainB at h
  rw [Bool.and_eq_true] at h
  exact h.1
theorem needV_needs {p : List Txt} {ws : List Int} : needV p [ws] = needsB p ws := by
  unfold needV needsB needW
  rw [plainI_plain]
  cases hp : plainB p with
  | false => rfl
  | true =>
    have hr := (plan_named (plain_plan hp)).rooms
    simp only [List.all_cons, List.all_nil, Bool.and_true, Bool.true_and]
    congr 1
    rw [hr]
    apply decide_eq_decide.2
    omega

/-! ### Orders go up -/
theorem mem_ddp {l : List Int} {x : Int} : x ∈ ddp l ↔ x ∈ l := by
  have : ∀ (l m : List Int), x ∈ l.foldl putL m ↔ x ∈ m ∨ x ∈ l := by
    intro l
    induction l with
    | nil => intro m; simp
    | cons a l ih => intro m; rw [List.foldl_cons, ih, mem_putL, List.mem_cons, or_assoc]
  unfold ddp
  rw [this]
  simp
/-- A relation all of whose pairs go up. -/
def Rise (n : Nat) (rk : Nat → Nat) (M : List (List Bool)) : Prop := Sq n M ∧ ∀ a b, a < n → b < n → getB M a b = true → rk a < rk b
theorem Rise.clA {n : Nat} {rk : Nat → Nat} {M : List (List Bool)} (h : Rise n rk M) {k a : Nat} (hk : k < n) (ha : a < n) : Rise n rk (clA n k M a) := by
  obtain ⟨h1, h2⟩ := clA_to h.1 hk ha n (Nat.le_refl _)
  refine ⟨h1, fun x y hx hy hxy => ?_⟩
  unfold Fw.clA at hxy
  rw [h2 x y hx hy] at hxy
  split at hxy
  · rename_i e
    obtain ⟨rfl, -⟩ := e
    rw [Bool.or_eq_true, Bool.and_eq_true] at hxy
    rcases hxy with hxy | ⟨h3, h4⟩
    · exact h.2 x y hx hy hxy
    · exact Nat.lt_trans (h.2 x k hx hk h3) (h.2 k y hk hy h4)
  · exact h.2 x y hx hy hxy
theorem Rise.fold {n : Nat} {rk : Nat → Nat} {f : List (List Bool) → Nat → List (List Bool)} : ∀ (i : Nat) {M : List (List Bool)}, i ≤ n → (∀ M j, j < n → Rise n rk M → Rise n rk (f M j)) → Rise n rk M → Rise n rk ((List.range i).foldl f M)
  | 0, _, _, _, h => h
  | i + 1, M, hi, hs, h => by
    rw [foldl_rg]
    exact hs _ i (by omega) (Rise.fold i (by omega) hs h)
theorem Rise.close {n : Nat} {rk : Nat → Nat} {M : List (List Bool)} (h : Rise n rk M) : Rise n rk (closeM M) := by
  unfold closeM
  rw [h.1.1]
  exact Rise.fold n (Nat.le_refl _) (fun _ k hk h => Rise.fold n (Nat.le_refl _) (fun _ a ha h => h.clA hk ha) h) h
theorem Rise.relB {n : Nat} {rk : Nat → Nat} {a : Int} (ha : 0 ≤ a ∧ a < n) : ∀ {bs : List Int} {M : List (List Bool)}, Rm n bs → (∀ b ∈ bs, rk a.toNat < rk b.toNat) → Rise n rk M → Rise n rk (relB a bs M)
  | [], _, _, _, h => h
  | b :: bs, M, hb, hr, h => by
    have hb0 := hb b (by simp)
    refine Rise.relB ha (bs := bs) (fun x hx => hb x (by simp [hx])) (fun x hx => hr x (by simp [hx])) ⟨h.1.set (by omega), fun x y hx hy hxy => ?_⟩
    rw [getB_setB h.1 (by omega) (by omega)] at hxy
    split at hxy
    · rename_i e
      rw [e.1, e.2]; exact hr b (by simp)
    · exact h.2 x y hx hy hxy
theorem Rise.relW {n : Nat} {rk : Nat → Nat} {bs : List Int} (hb : Rm n bs) : ∀ {la : List Int} {M : List (List Bool)}, Rm n la → (∀ a ∈ la, ∀ b ∈ bs, rk a.toNat < rk b.toNat) → Rise n rk M → Rise n rk (relW M la bs)
  | [], _, _, _, h => h
  | a :: la, M, ha, hr, h => Rise.relW hb (la := la) (fun x hx => ha x (by simp [hx])) (fun x hx => hr x (by simp [hx])) (h.relB (ha a (by simp)) hb (hr a (by simp)))
theorem Rise.empty {n : Nat} {rk : Nat → Nat} : Rise n rk (emptyM n) := by
  refine ⟨emptyM_sq n, fun a b ha hb h => ?_⟩
  simp [getB, emptyM, ha, hb] at h
theorem Rise.ord {g : List (List Int)} {nh nw n : Nat} {r0 r1 : Nat → Nat} (hrm : RmOk g nh nw n) (h0 : ∀ w, WlOk g nh nw w → w.level = false → ∀ a ∈ (sidesOf g w).1, ∀ b ∈ (sidesOf g w).2, r0 a.toNat < r0 b.toNat)
    (h1 : ∀ w, WlOk g nh nw w → w.level = true → ∀ a ∈ (sidesOf g w).1, ∀ b ∈ (sidesOf g w).2, r1 a.toNat < r1 b.toNat) : ∀ (ws : List Wall), (∀ w ∈ ws, WlOk g nh nw w) → ∀ {M : List (List Bool) × List (List Bool)}, Rise n r0 M.1 → Rise n r1 M.2 →
    Rise n r0 (ws.foldl (ordW g) M).1 ∧ Rise n r1 (ws.foldl (ordW g) M).2
  | [], _, _, k0, k1 => ⟨k0, k1⟩
  | w :: ws, hws, M, k0, k1 => by
    have hw := hws w (by simp)
    obtain ⟨hr1, hr2⟩ := sidesOf_rooms hrm hw
    rw [List.foldl_cons]
    refine Rise.ord hrm h0 h1 ws (fun w hw => hws w (by simp [hw])) ?_ ?_
    · unfold ordW
      cases hlv : w.level with
      | false => simpa using k0.relW hr2 hr1 (h0 w hw hlv)
      | true => simpa using k0
    · unfold ordW
      cases hlv : w.level with
      | false => simpa using k1
      | true => simpa using k1.relW hr2 hr1 (h1 w hw hlv)
end Fw
end Go.Proofs.Ythhhbdjefaaalaa

/-! Areas by the program are the specification's, joined. -/
namespace Go.Proofs.Ythhhbdjefaaalaa
namespace Fw
open Go

theorem side1 {g : List (List Int)} {nh nw : Nat} {w : Wall} (hw : WlOk g nh nw w) {x : Int} (hx : x ∈ (sidesOf g w).1) : ∃ line j : Nat, w.line = line ∧ x = (sidesG g w.level line j).1 ∧ InL nh nw w.level line j ∧ difG g w.level line j = true := by
  obtain ⟨line, fr, long, e, h1, h2⟩ := hw
  have e1 : w.line.toNat = line := by rw [e]; simp
  have e2 : w.fr.toNat = fr := by rw [e]; simp
  have e3 : w.long.toNat = long := by rw [e]; simp
  simp only [sidesOf, e1, e2, e3] at hx
  have := mem_ddp.1 hx
  simp only [alongG, List.mem_map, List.mem_range] at this
  obtain ⟨j, hj, rfl⟩ := this
  have h3 := h2 (fr + j) (by omega) (by omega)
  exact ⟨line, fr + j, by rw [e], rfl, h3.1, h3.2⟩
theorem side2 {g : List (List Int)} {nh nw : Nat} {w : Wall} (hw : WlOk g nh nw w) {x : Int} (hx : x ∈ (sidesOf g w).2) : ∃ line j : Nat, w.line = line ∧ x = (sidesG g w.level line j).2 ∧ InL nh nw w.level line j ∧ difG g w.level line j = true := by
  obtain ⟨line, fr, long, e, h1, h2⟩ := hw
  have e1 : w.line.toNat = line := by rw [e]; simp
  have e2 : w.fr.toNat = fr := by rw [e]; simp
  have e3 : w.long.toNat = long := by rw [e]; simp
  simp only [sidesOf, e1, e2, e3] at hx
  have := mem_ddp.1 hx
  simp only [alongG, List.mem_map, List.mem_range] at this
  obtain ⟨j, hj, rfl⟩ := this
  have h3 := h2 (fr + j) (by omega) (by omega)
  exact ⟨line, fr + j, by rw [e], rfl, h3.1, h3.2⟩
def rkL (p : List Txt) (a : Nat) : Nat := match (rP p)[a]? with | some b => b.col.toNat | none => 0
def rkA (p : List Txt) (a : Nat) : Nat := match (rP p)[a]? with | some b => b.row.toNat | none => 0
/-- A room's cell lies in its rectangle, and where the rectangle is filled, the other way round. -/
theorem plan_rect {p : List Txt} (hp : planB p = true) {i j : Nat} (hi : i < p.length) (hj : j < (hdRow p).length) : ∃ b, (rP p)[(cellZ p i j).toNat]? = some b ∧ inB b i j = true ∧ b.Fit ∧ ∀ k l, k < p.length → l < (hdRow p).length → inB b k l = true → cellZ p k l = cellZ p i j := by
  have hN := plan_named hp
  have hr := hN.room hi hj
  obtain ⟨b, hb, hbm⟩ := get_of (show (cellZ p i j).toNat < (rP p).length by omega)
  have hf := plan_full hp
  have hsm := grid_small hN.hg
  obtain ⟨row0, hr0, hm0⟩ := get_of hsm.1
  have hh := hdRow_of hr0
  have hw6 := hsm.2.2 row0 hm0
  have hw1 := row_pos hN.hg hr0
  rw [← hh] at hw6 hw1
  have hok := (seRows_ok (g := readG p) hw6 hw1 p.length hsm.2.1).1
  rw [← rP_eq] at hok
  refine ⟨b, hb, ?_, hok.2 b hbm, fun k l hk hl hkl => ?_⟩
  · rw [hN.fill hf hb hi hj]; exact decide_eq_true (by omega)
  · rw [hN.fill hf hb hk hl] at hkl
    have := of_decide_eq_true hkl
    omega
theorem plan_left {p : List Txt} (hp : planB p = true) {w : Wall} (hw : WlOk (gP p) p.length (hdRow p).length w) (hl : w.level = false) : ∀ a ∈ (sidesOf (gP p) w).1, ∀ b ∈ (sidesOf (gP p) w).2, rkL p a.toNat < rkL p b.toNat := by
  intro a ha b hb
  have hN := plan_named hp
  obtain ⟨L, j, e1, rfl, ⟨h1, h2⟩, h3⟩ := side1 hw ha
  obtain ⟨L', j', e2, rfl, ⟨k1, k2⟩, k3⟩ := side2 hw hb
  obtain rfl : L = L' := by omega
  simp only [hl, Bool.false_eq_true, if_false] at h2 k2
  unfold difG at k3
  simp only [hl, sidesG, Bool.false_eq_true, if_false, decide_eq_true_eq] at k3 ⊢
  rw [hN.cell k2.2 (by omega), hN.cell k2.2 k2.1] at k3
  rw [hN.cell h2.2 (by omega), hN.cell k2.2 k2.1]
  obtain ⟨r1, hr1, q1, f1, -⟩ := plan_rect hp h2.2 (show L - 1 < (hdRow p).length by omega)
  obtain ⟨r2, hr2, q2, f2, c2⟩ := plan_rect hp k2.2 k2.1
  unfold rkL
  rw [hr1, hr2]
  simp only
  have c3 := c2 j' (L - 1) k2.2 (by omega)
  unfold inB at q1 q2 c3
  unfold Rect.Fit at f1 f2
  simp only [Bool.and_eq_true, decide_eq_true_eq] at q1 q2 c3
  by_cases hc : r2.col < (L : Int)
  · exact absurd (c3 (by omega)) k3
  · omega
theorem plan_above {p : List Txt} (hp : planB p = true) {w : Wall} (hw : WlOk (gP p) p.length (hdRow p).length w) (hl : w.level = true) : ∀ a ∈ (sidesOf (gP p) w).1, ∀ b ∈ (sidesOf (gP p) w).2, rkA p a.toNat < rkA p b.toNat := by
  intro a ha b hb
  have hN := plan_named hp
  obtain ⟨L, j, e1, rfl, ⟨h1, h2⟩, h3⟩ := side1 hw ha
  obtain ⟨L', j', e2, rfl, ⟨k1, k2⟩, k3⟩ := side2 hw hb
  obtain rfl : L = L' := by omega
  simp only [hl, if_true] at h2 k2
  unfold difG at k3
  simp only [hl, sidesG, if_true, decide_eq_true_eq] at k3 ⊢
  rw [hN.cell (by omega) k2.2, hN.cell k2.1 k2.2] at k3
  rw [hN.cell (by omega) h2.2, hN.cell k2.1 k2.2]
  obtain ⟨r1, hr1, q1, f1, -⟩ := plan_rect hp (show L - 1 < p.length by omega) h2.2
  obtain ⟨r2, hr2, q2, f2, c2⟩ := plan_rect hp k2.1 k2.2
  unfold rkA
  rw [hr1, hr2]
  simp only
  have c3 := c2 (L - 1) j' (by omega) k2.2
  unfold inB at q1 q2 c3
  unfold Rect.Fit at f1 f2
  simp only [Bool.and_eq_true, decide_eq_true_eq] at q1 q2 c3
  by_cases hc : r2.row < (L : Int)
  · exact absurd (c3 (by omega)) k3
  · omega
theorem rk_le {p : List Txt} (hp : planB p = true) (b : Nat) : rkL p b ≤ 100 ∧ rkA p b ≤ 100 := by
  have hN := plan_named hp
  have hsm := grid_small hN.hg
  obtain ⟨row0, hr0, hm0⟩ := get_of hsm.1
  have hh := hdRow_of hr0
  have hw6 := hsm.2.2 row0 hm0
  have hw1 := row_pos hN.hg hr0
  rw [← hh] at hw6 hw1
  have hok := (seRows_ok (g := readG p) hw6 hw1 p.length hsm.2.1).1
  rw [← rP_eq] at hok
  unfold rkL rkA
  cases hb : (rP p)[b]? with
  | none => simp
  | some r =>
    have := hok.2 r (List.mem_of_getElem? hb)
    unfold Rect.Fit at this
    simp only
    omega
theorem plan_up {p : List Txt} (hp : planB p = true) : Up (leftG (gP p) p.length (hdRow p).length (rP p).length) (rP p).length (rkL p) ∧ Up (aboveG (gP p) p.length (hdRow p).length (rP p).length) (rP p).length (rkA p) := by
  have h := Rise.ord (r0 := rkL p) (r1 := rkA p) (gP_room (p := p)) (fun w hw hl => plan_left hp hw hl) (fun w hw hl => plan_above hp hw hl) (wallsG (gP p) p.length (hdRow p).length) wallsG_ok (M := (emptyM (rP p).length, emptyM (rP p).length)) Rise.empty Rise.empty
  have h0 := h.1.close
  have h1 := h.2.close
  exact ⟨⟨h0.1, h0.2, fun b => (rk_le hp b).1⟩, ⟨h1.1, h1.2, fun b => (rk_le hp b).2⟩⟩
theorem plan_all {p : List Txt} (hp : plainI p = true) : RmOk (gP p) p.length (w0 (readG p)) (rP p).length ∧ (∃ rk, Up (leftG (gP p) p.length (w0 (readG p)) (rP p).length) (rP p).length rk) ∧ ∃ rk, Up (aboveG (gP p) p.length (w0 (readG p)) (rP p).length) (rP p).length rk := by
  rw [plainI_plain] at hp
  have h := plan_up (plain_plan hp)
  rw [w0_read]
  exact ⟨gP_room, ⟨_, h.1⟩, ⟨_, h.2⟩⟩
theorem plan_least {p : List Txt} {ws : List Int} (h : needV p [ws] = true) : maxL (heaviest (leftG (gP p) p.length (w0 (readG p)) (rP p).length) ws (rP p).length) = least (allS p 0) ws ∧ maxL (heaviest (aboveG (gP p) p.length (w0 (readG p)) (rP p).length) ws (rP p).length) = least (allS p 1) ws := by
  obtain ⟨h1, h2, h3⟩ := needV_one h
  have hok : okB p = true := by
    have h9 := h1
    unfold plainI floorI at h9
    simp only [Bool.and_eq_true] at h9
    exact h9.1.1
  have hn1 := okB_rooms1 hok
  rw [plainI_plain] at h1
  have hp := plain_plan h1
  have hN := plan_named hp
  obtain ⟨u0, u1⟩ := plan_up hp
  have hr := hN.rooms
  obtain ⟨s0, s1⟩ := same_all hN.hg (n := (rP p).length) (by omega) (fun i j hi hj => hN.cell hi hj) gP_room
  rw [w0_read]
  exact ⟨(least_heaviest s0 u0 h2 hn1 h3).symm, (least_heaviest s1 u1 h2 hn1 h3).symm⟩
end Fw
end Go.Proofs.Ythhhbdjefaaalaa

/-! The law of areas. -/
namespace Go.Proofs.Ythhhbdjefaaalaa
namespace Fw
open Go

theorem area_eq {p : List Txt} {ws ht : List Int} : areaI p ws ht = areaOf p ws ht ∧ (needV p [ws] && needV p [ht]) = (needsB p ws && needsB p ht) := by
  refine ⟨?_, by rw [needV_needs, needV_needs]⟩
  unfold areaI areaOf
  rw [← needV_needs, ← needV_needs]
  cases h1 : needV p [ws] with
  | false => rfl
  | true =>
    cases h2 : needV p [ht] with
    | false => rfl
    | true =>
      rw [(plan_least h1).1, (plan_least h2).2]
/-- The law FnExactSizeArea. -/
theorem lawArea {p : List Txt} (hl : p.length ≤ 9223372036854775807) (hr : ∀ r ∈ p, r.length ≤ 9223372036854775807) (ws ht : List Int) : PC Try.prog 4 [eStrs p, eInts ws, eInts ht] (.bool true) true :=
  exactSizeArea_pc hl hr ws ht (fun _ h => plan_all h) (fun _ => area_eq)
end Fw
end Go.Proofs.Ythhhbdjefaaalaa

/-! Arguments of laws as plain data. -/
namespace Go.Proofs.Ythhhbdjefaaalaa
namespace Fw
open Go Go.ChangeShapes Go.WideShapes Go.ChangeAt Go.RowKit

set_option maxRecDepth 100000 in
theorem slice_at {W : World} {base : Nat} {t e : TypeId} {a : Addr} {len cap : Nat} (ht : Try.prog.underlying t = some (.slice e)) (hval : Value.okWide Try.prog W .any base t (.slice (some a) len cap)) : a.spot = none ∧ a.block < W.heap.size := by
  simp only [Value.okWide, ht, Cell.okWide, Cell.ok] at hval
  obtain ⟨-, -, -, hsp, row, cells, hsh, -⟩ := hval
  refine ⟨hsp, ?_⟩
  unfold World.shape? at hsh
  rcases Nat.lt_or_ge a.block W.heap.size with h | h
  · exact h
  · rw [Array.getElem?_eq_none h] at hsh; cases hsh
set_option maxRecDepth 100000 in
theorem vi_strs {H : Type} {enc : TypeId × Value → H} {W : World} {base : Nat} {v : Value} {d : DataW H} {ps : List MemPlace} (hval : Value.okWide Try.prog W .any base 23 v) (h : DataW.Trod enc Try.prog W 0 (fun _ => true) true 23 v d ps) :
    ∃ p : List Txt, VI W.heap (fun b => b < W.heap.size) (eStrs p) v ∧ p.length ≤ 9223372036854775807 ∧ ∀ r ∈ p, r.length ≤ 9223372036854775807 := by
  obtain ⟨a0, len, cap, rfl⟩ := okWide_slice Try.underlying23 hval
  obtain ⟨fuel, hf⟩ := h
  rcases open_strings Try.underlying23 Try.underlying9 (by kernel_rfl) hf with ⟨hcs, hx⟩ | ⟨a, len', cap', ss, hcs, -, hl, hm, hz, hx, hcell, hsz⟩
  · simp [Value.cells] at hcs
    obtain ⟨rfl, rfl, rfl⟩ := hcs
    exact ⟨[], .sl0, by simp, by simp⟩
  · simp [Value.cells] at hcs
    obtain ⟨rfl, rfl, rfl⟩ := hcs
    obtain ⟨hsp, hlt⟩ := slice_at Try.underlying23 hval
    obtain ⟨b, off, spot⟩ := a
    simp only at hsp hlt
    subst hsp
    simp only [if_true] at hz
    have hml : maxLen ≤ 9223372036854775807 := by decide
    have hlen : ((ss.take len).map fun s : ByteArray => s.data.toList).length = len := by simp; omega
    have hget : ∀ (i : Nat) q, ((ss.take len).map fun s : ByteArray => s.data.toList)[i]? = some q → i < len ∧ q = (ss.getD i ByteArray.empty).data.toList := by
      intro i q hq
      rw [List.getElem?_map, Option.map_eq_some_iff] at hq
      obtain ⟨s, hs, rfl⟩ := hq
      have hi := len_of hs
      simp only [List.length_take] at hi
      rw [List.getElem?_take_of_lt (by omega)] at hs
      refine ⟨by omega, ?_⟩
      rw [List.getD_eq_getElem?_getD, hs]; rfl
    refine ⟨(ss.take len).map fun s => s.data.toList, ?_, by rw [hlen]; omega, fun r hr => ?_⟩
    · show VI _ _ (.sl (((ss.take len).map fun s : ByteArray => s.data.toList).map .str) ((ss.take len).map fun s : ByteArray => s.data.toList).length) _
      rw [hlen]
      refine .sl _ _ b off cap (fun i => .string (ss.getD i ByteArray.empty)) (fun _ => hlt) hl (fun i q hq => ?_) (fun i q hq => ?_)
      · rw [List.getElem?_map, Option.map_eq_some_iff] at hq
        obtain ⟨x, hx1, rfl⟩ := hq
        obtain ⟨hi, rfl⟩ := hget i x hx1
        refine ⟨rfl, ?_⟩
        rw [← cellH_eq]
        have := hcell i (by omega)
        rwa [add_lit] at this
      · rw [List.getElem?_map, Option.map_eq_some_iff] at hq
        obtain ⟨x, hx1, rfl⟩ := hq
        obtain ⟨hi, rfl⟩ := hget i x hx1
        exact .str _ _ rfl
    · obtain ⟨s, hs, rfl⟩ := List.mem_map.1 hr
      have := hsz s (List.mem_of_mem_take hs)
      have e : s.data.toList.length = s.size := Array.length_toList
      rw [e]; omega
set_option maxRecDepth 100000 in
theorem vi_ints {H : Type} {enc : TypeId × Value → H} {W : World} {base : Nat} {v : Value} {d : DataW H} {ps : List MemPlace} (hval : Value.okWide Try.prog W .any base 30 v) (h : DataW.Trod enc Try.prog W 0 (fun _ => true) true 30 v d ps) :
    ∃ p : List Int, VI W.heap (fun b => b < W.heap.size) (eInts p) v := by
  obtain ⟨a0, len, cap, rfl⟩ := okWide_slice Try.underlying30 hval
  obtain ⟨fuel, hf⟩ := h
  rcases open_ints Try.underlying30 Try.underlying3 (by kernel_rfl) hf with ⟨hcs, hx⟩ | ⟨a, len', cap', zs, hcs, -, hl, hm, hz, hx, hcell, hwf⟩
  · simp [Value.cells] at hcs
    obtain ⟨rfl, rfl, rfl⟩ := hcs
    exact ⟨[], .sl0⟩
  · simp [Value.cells] at hcs
    obtain ⟨rfl, rfl, rfl⟩ := hcs
    obtain ⟨hsp, hlt⟩ := slice_at Try.underlying30 hval
    obtain ⟨b, off, spot⟩ := a
    simp only at hsp hlt
    subst hsp
    simp only [if_true] at hz
    have hlen : (zs.take len).length = len := by simp; omega
    refine ⟨zs.take len, ?_⟩
    show VI _ _ (.sl ((zs.take len).map (.int .i64)) (zs.take len).length) _
    rw [hlen]
    refine .sl _ _ b off cap (fun i => .int .i64 (zs.getD i 0)) (fun _ => hlt) hl (fun i q hq => ?_) (fun i q hq => ?_)
    · rw [List.getElem?_map, Option.map_eq_some_iff] at hq
      obtain ⟨x, hx1, rfl⟩ := hq
      have hi := len_of hx1
      refine ⟨rfl, ?_⟩
      rw [← cellH_eq]
      have := hcell i (by omega)
      rwa [add_lit] at this
    · rw [List.getElem?_map, Option.map_eq_some_iff] at hq
      obtain ⟨x, hx1, rfl⟩ := hq
      have hi := len_of hx1
      rw [List.getElem?_take_of_lt (by omega)] at hx1
      rw [List.getD_eq_getElem?_getD, hx1]
      exact .int _ _
end Fw
end Go.Proofs.Ythhhbdjefaaalaa

/-! The program's SizeArea answers as the specification's, for all arguments: the statement FnExactSizeArea. No condition. -/
namespace Go.Proofs.Ythhhbdjefaaalaa
open Go Go.ChangeShapes Go.WideShapes Go.ChangeAt Go.RowKit Fw

theorem Try.own : ownKnob Try.prog.godebug = none := by kernel_rfl
theorem Try.laidOut : laidOutB Try.prog = true := by kernel_rfl

set_option maxRecDepth 100000 in
theorem area_lifted (os : Os) (started : os.Started) (H : Type) (enc : TypeId × Value → H) :
    ReturnsInHanded {} Try.checked os 4 .any (Rows.fnExactSizeAreaSpec.pre6 enc Try.prog Try.f4 Rows.fnExactSizeAreaRow.domain false) (Rows.fnExactSizeAreaSpec.post enc Try.prog Try.f4 false true false false) := by
  refine returnsInHanded_of_change (C := Try.checked) Try.own started (by kernel_rfl) Try.func4
    (ChangeSpec.witness6 (enc := enc) (C := Try.checked) false ⟨#[], #[.slice none 0 0, .slice none 0 0, .slice none 0 0], []⟩ 8 (by kernel_rfl) (by kernel_rfl) (by kernel_rfl) (by kernel_rfl)) ?_
  intro W base args ds gs before hval0 hW hcnd _
  have hval : ∀ (j : Nat) t v, Try.f4.params[j]? = some t → args[j]? = some v → Value.okWide Try.prog W .any base t v := hval0
  have hW' := hW
  obtain ⟨p, q, hA0, hV, rfl, hfz, hnd⟩ := hW
  have hA : DataW.TrodAll enc Try.prog W 0 (fun _ => true) true Try.f4.params.toList args.toList ds p := hA0
  rw [Try.params4] at hA hval
  obtain ⟨v0, v1, v2, d0, d1, d2, p0, p1, p2, rfl, rfl, rfl, h0, h1, h2⟩ := trodAll_three hA
  obtain ⟨rfl, rfl⟩ := trodVars_none hV
  obtain ⟨l0, i0, b1, b2⟩ := vi_strs (hval 0 _ v0 rfl rfl) h0
  obtain ⟨l1, i1⟩ := vi_ints (hval 1 _ v1 rfl rfl) h1
  obtain ⟨l2, i2⟩ := vi_ints (hval 2 _ v2 rfl rfl) h2
  have hlt : ∀ x ∈ p0 ++ p1 ++ p2, x.block < W.heap.size := fun x hx => hW'.lt x (by simp only [List.mem_append] at hx ⊢; simp [hx])
  refine ((lawArea b1 b2 l1 l2).run (fun b => b < W.heap.size) W #[v0, v1, v2] (fun _ h => h) rfl ?_).mono ?_
  · rintro (_ | _ | _ | i) p c hp hc
    · cases hp; cases hc; exact i0
    · cases hp; cases hc; exact i1
    · cases hp; cases hc; exact i2
    · simp at hp
  · rintro e W' ⟨cv, rfl, hB, hr⟩
    have hcv : cv = .bool true := by cases hr; rfl
    subst hcv
    have t0 := Below.trod Try.laidOut (by kernel_rfl) (of_decide_eq_true (by kernel_rfl)) h0 hB fun x hx => hlt x (by simp [hx])
    have t1 := Below.trod Try.laidOut (by kernel_rfl) (of_decide_eq_true (by kernel_rfl)) h1 hB fun x hx => hlt x (by simp [hx])
    have t2 := Below.trod Try.laidOut (by kernel_rfl) (of_decide_eq_true (by kernel_rfl)) h2 hB fun x hx => hlt x (by simp [hx])
    refine ⟨_, rfl, _, _, _, [], p0 ++ (p1 ++ p2), [], hW', ?_, ?_, ?_, hB.frame _, fun h => by cases h⟩
    · exact trodAll_mk1 (shut_bool Try.underlying4 true)
    · rw [Try.params4]; exact trodAll_mk3 t0 t1 t2
    · trivial
theorem area_holds : Rows.FnExactSizeAreaSaid :=
  OpenClaim.holds_of_wide 4 Try.f4 rfl rfl rfl rfl rfl rfl rfl ⟨rfl, rfl, rfl, rfl, rfl⟩ rfl rfl rfl rfl rfl (by kernel_rfl) Try.func4 (by kernel_rfl)
    (of_decide_eq_true (by kernel_rfl)) (by unfold Func.isWrapper; first | (rw [if_pos (by decide +kernel)]; kernel_rfl) | (rw [if_neg (by decide +kernel)]; exact ⟨rfl, rfl⟩))
    (fun os started H enc _ => area_lifted os started H enc)
end Go.Proofs.Ythhhbdjefaaalaa
