/- Parts of the framework and of the proof: The program's closures and walls in words of cells: left of is going on from just left of, above is going on from just above; Orders of a plain plan: each two rooms are in just one; Plans that are cut, in plain words; Orders of two rooms, gone through; The framework, part z: a region in which the bytes of a text become a new row that is written later; Drawing: the reader, gone through; Plans cut in two, gone through; Drawing plans, gone through; Drawing plans, gone through, continued; The laws of left and above, gone through; Kinds of two rooms, gone through; Arguments of laws as plain data; A slice of bytes as an argument: plain data; The law of places of kinds, gone through. -/
import Derived.Test.YtmhcknpjgikgmaaJ4
import Derived.Test.YtmhcknpjgikgmaaJ1
import Derived.Lib.ConvBytes
import Derived.Test.YtmhcknpjgikgmaaJ2
import Derived.Test.YtmhcknpjgikgmaaJ3
import Derived.Test.YtmhcknpjgikgmaaRows
import Derived.ProofKit
import Derived.SliceStrings
set_option linter.all false
/-! The program's closures and walls in words of cells: left of is going on from just left of, above is going on from just above. -/
namespace Go.Proofs.Ytmhcknpjgikgmaa
namespace Fw
open Go

section
variable {n : Nat} {M : List (List Bool)}

theorem absorb {p q : Bool} : (p || (q && p)) = p := by cases p <;> cases q <;> rfl
theorem clK_to (h : Sq n M) {k : Nat} (hk : k < n) : ∀ i, i ≤ n → Sq n ((List.range i).foldl (clA n k) M) ∧
    ∀ x y, x < n → y < n → getB ((List.range i).foldl (clA n k) M) x y = if x < i then getB M x y || (getB M x k && getB M k y) else getB M x y
  | 0, _ => ⟨h, fun x y _ _ => by simp⟩
  | i + 1, hi => by
    obtain ⟨h1, h2⟩ := clK_to h hk i (by omega)
    rw [foldl_rg]
    generalize (List.range i).foldl (clA n k) M = X at h1 h2 ⊢
    obtain ⟨h3, h4⟩ := clA_to h1 hk (show i < n by omega) n (Nat.le_refl _)
    refine ⟨h3, fun x y hx hy => ?_⟩
    unfold clA
    rw [h4 x y hx hy]
    by_cases e : x = i
    · subst e
      have e1 : getB X x y = getB M x y := by rw [h2 x y hx hy, if_neg (Nat.lt_irrefl _)]
      have e2 : getB X x k = getB M x k := by rw [h2 x k hx hk, if_neg (Nat.lt_irrefl _)]
      have e3 : getB X k y = getB M k y := by
        rw [h2 k y hk hy]
        split
        · exact absorb
        · rfl
      rw [if_pos ⟨rfl, hy⟩, if_pos (by omega), e1, e2, e3]
    · rw [if_neg (fun q => e q.1), h2 x y hx hy]
      by_cases e2 : x < i
      · rw [if_pos e2, if_pos (by omega)]
      · rw [if_neg e2, if_neg (by omega)]
theorem clK_get (h : Sq n M) {k : Nat} (hk : k < n) {x y : Nat} (hx : x < n) (hy : y < n) : getB (clK n M k) x y = (getB M x y || (getB M x k && getB M k y)) := by
  have := (clK_to h hk n (Nat.le_refl _)).2 x y hx hy
  rw [if_pos hx] at this
  exact this
theorem close_to (h : Sq n M) : ∀ i, i ≤ n → Sq n ((List.range i).foldl (clK n) M) ∧
    (∀ a b, a < n → b < n → getB M a b = true → getB ((List.range i).foldl (clK n) M) a b = true) ∧
    (∀ m a b, m < i → a < n → b < n → getB ((List.range i).foldl (clK n) M) a m = true → getB ((List.range i).foldl (clK n) M) m b = true → getB ((List.range i).foldl (clK n) M) a b = true) ∧
    (∀ T : Nat → Nat → Prop, (∀ a b d, T a b → T b d → T a d) → (∀ a b, a < n → b < n → getB M a b = true → T a b) → ∀ a b, a < n → b < n → getB ((List.range i).foldl (clK n) M) a b = true → T a b)
  | 0, _ => ⟨h, fun a b _ _ k => k, fun m a b k => by omega, fun T _ k => k⟩
  | i + 1, hi => by
    obtain ⟨h1, h2, h3, h4⟩ := close_to h i (by omega)
    rw [foldl_rg]
    generalize (List.range i).foldl (clK n) M = X at h1 h2 h3 h4 ⊢
    have hin : i < n := by omega
    have g : ∀ {x y : Nat}, x < n → y < n → (getB (clK n X i) x y = true ↔ getB X x y = true ∨ (getB X x i = true ∧ getB X i y = true)) := by
      intro x y hx hy
      rw [clK_get h1 hin hx hy]; simp
    refine ⟨(clK_to h1 hin n (Nat.le_refl _)).1, fun a b ha hb k => (g ha hb).2 (.inl (h2 a b ha hb k)), fun m a b hm ha hb k1 k2 => ?_, fun T tr hT a b ha hb k => ?_⟩
    · have hmn : m < n := by omega
      rw [g ha hmn] at k1
      rw [g hmn hb] at k2
      rw [g ha hb]
      by_cases e : m = i
      · subst e
        rcases k1 with k1 | k1 <;> rcases k2 with k2 | k2
        · exact .inr ⟨k1, k2⟩
        · exact .inr ⟨k1, k2.2⟩
        · exact .inr ⟨k1.1, k2⟩
        · exact .inr ⟨k1.1, k2.2⟩
      · have hmi : m < i := by omega
        rcases k1 with k1 | k1 <;> rcases k2 with k2 | k2
        · exact .inl (h3 m a b hmi ha hb k1 k2)
        · exact .inr ⟨h3 m a i hmi ha hin k1 k2.1, k2.2⟩
        · exact .inr ⟨k1.1, h3 m i b hmi hin hb k1.2 k2⟩
        · exact .inr ⟨k1.1, k2.2⟩
    · rw [g ha hb] at k
      rcases k with k | k
      · exact h4 T tr hT a b ha hb k
      · exact tr a i b (h4 T tr hT a i ha hin k.1) (h4 T tr hT i b hin hb k.2)
/-- A matrix as a relation. -/
def MR (n : Nat) (M : List (List Bool)) (a b : Nat) : Prop := a < n ∧ b < n ∧ getB M a b = true
theorem close_tc (h : Sq n M) {a b : Nat} (ha : a < n) (hb : b < n) : getB (closeM M) a b = true ↔ TC (MR n M) a b := by
  obtain ⟨h1, h2, h3, h4⟩ := close_to h n (Nat.le_refl _)
  have e : closeM M = (List.range n).foldl (clK n) M := by unfold closeM; rw [h.1]
  rw [e]
  constructor
  · exact h4 (TC (MR n M)) (fun _ _ _ p q => p.trans q) (fun a b ha hb k => .one ⟨ha, hb, k⟩) a b ha hb
  · intro k
    induction k with
    | one k => exact h2 _ _ k.1 k.2.1 k.2.2
    | tail _ k ih => exact h3 _ _ _ k.1 ha k.2.1 (ih k.1) (h2 _ _ k.1 k.2.1 k.2.2)
end

/-! ### Walls -/
/-- Some wall stands at all these places. -/
def Cov (ws : List Wall) (level : Bool) (line i1 i2 : Nat) : Prop := ∃ w ∈ ws, w.level = level ∧ w.line = line ∧ w.fr ≤ i1 ∧ (i2 : Int) < w.fr + w.long
theorem Cov.app {ws vs : List Wall} {level : Bool} {line i1 i2 : Nat} (h : Cov ws level line i1 i2) : Cov (ws ++ vs) level line i1 i2 := by
  obtain ⟨w, hw, k⟩ := h
  exact ⟨w, List.mem_append_left _ hw, k⟩
theorem Cov.long {ws : List Wall} {w : Wall} {level : Bool} {line i1 i2 : Nat} (h : Cov (ws ++ [w]) level line i1 i2) : Cov (ws ++ [{ w with long := w.long + 1 }]) level line i1 i2 := by
  obtain ⟨v, hv, k1, k2, k3, k4⟩ := h
  rcases List.mem_append.1 hv with hv | hv
  · exact ⟨v, List.mem_append_left _ hv, k1, k2, k3, k4⟩
  · rw [List.mem_singleton] at hv
    subst hv
    exact ⟨_, List.mem_append_right _ (List.mem_singleton.2 rfl), k1, k2, k3, by simp only; omega⟩
def Run (g : List (List Int)) (level : Bool) (line i1 i2 : Nat) : Prop := ∀ j, i1 ≤ j → j ≤ i2 → difG g level line j = true
theorem wlLine_cov {g : List (List Int)} {level : Bool} {line : Nat} {ws : List Wall} : ∀ n, (∀ lv ln i1 i2, Cov ws lv ln i1 i2 → Cov (wlLine g level line ws n).1 lv ln i1 i2) ∧
    (∀ i1 i2, i1 ≤ i2 → i2 < n → Run g level line i1 i2 → Cov (wlLine g level line ws n).1 level line i1 i2) ∧
    ((wlLine g level line ws n).2 = false → ∀ m, n = m + 1 → difG g level line m = false) ∧
    ((wlLine g level line ws n).2 = true → ∃ (ws0 : List Wall) (w : Wall), (wlLine g level line ws n).1 = ws0 ++ [w] ∧ w.level = level ∧ w.line = (line : Int) ∧ w.fr + w.long = (n : Int) ∧ 1 ≤ w.long ∧ ∀ i : Nat, i < n → Run g level line i (n - 1) → w.fr ≤ (i : Int))
  | 0 => by
    rw [wlLine_zero]
    exact ⟨fun _ _ _ _ h => h, fun i1 i2 _ h => by omega, fun _ m h => by omega, fun h => by cases h⟩
  | n + 1 => by
    obtain ⟨h1, h2, h3, h4⟩ := wlLine_cov (g := g) (level := level) (line := line) (ws := ws) n
    rw [wlLine_succ]
    generalize wlLine g level line ws n = s at h1 h2 h3 h4
    obtain ⟨l, op⟩ := s
    simp only at h1 h2 h3 h4
    cases hd : difG g level line n with
    | false =>
      have e : wlStep false level line n (l, op) = (l, false) := by simp [wlStep]
      rw [e]
      refine ⟨h1, fun i1 i2 k1 k2 k3 => ?_, fun _ m hm => (by have e0 : m = n := (by omega); rw [e0]; exact hd), fun h => by cases h⟩
      by_cases e2 : i2 = n
      · subst e2
        have := k3 i2 k1 (Nat.le_refl _)
        rw [hd] at this; cases this
      · exact h2 i1 i2 k1 (by omega) k3
    | true =>
      cases op with
      | false =>
        have e : wlStep true level line n (l, false) = (l ++ [⟨level, line, n, 1⟩], true) := by simp [wlStep]
        rw [e]
        have hno : ∀ m, n = m + 1 → difG g level line m = false := h3 rfl
        have first : ∀ i, i < n + 1 → Run g level line i n → i = n := by
          intro i hi hr
          by_cases e2 : i = n
          · exact e2
          · have := hr (n - 1) (by omega) (by omega)
            rw [hno (n - 1) (by omega)] at this; cases this
        refine ⟨fun lv ln i1 i2 k => (h1 lv ln i1 i2 k).app, fun i1 i2 k1 k2 k3 => ?_, fun h => (by cases h), fun _ => ⟨l, _, rfl, rfl, rfl, by simp, by simp, fun i hi hr => ?_⟩⟩
        · by_cases e2 : i2 = n
          · subst e2
            obtain rfl := first i1 (by omega) k3
            exact ⟨_, List.mem_append_right _ (List.mem_singleton.2 rfl), rfl, rfl, Int.le_refl _, by simp only; omega⟩
          · exact (h2 i1 i2 k1 (by omega) k3).app
        · have := first i hi hr
          simp only; omega
      | true =>
        obtain ⟨ws0, w, rfl, w1, w2, w3, w4, w5⟩ := h4 rfl
        have e : wlStep true level line n (ws0 ++ [w], true) = (ws0 ++ [{ w with long := w.long + 1 }], true) := by simp [wlStep]
        rw [e]
        have hfr : ∀ i : Nat, i < n + 1 → Run g level line i n → w.fr ≤ (i : Int) := by
          intro i hi hr
          by_cases e2 : i = n
          · omega
          · exact w5 i (by omega) fun j j1 j2 => hr j j1 (by omega)
        refine ⟨fun lv ln i1 i2 k => (h1 lv ln i1 i2 k).long, fun i1 i2 k1 k2 k3 => ?_, fun h => (by cases h), fun _ => ⟨ws0, _, rfl, w1, w2, by simp only; omega, by simp only; omega, fun i hi hr => hfr i hi hr⟩⟩
        by_cases e2 : i2 = n
        · subst e2
          have := hfr i1 (by omega) k3
          exact ⟨_, List.mem_append_right _ (List.mem_singleton.2 rfl), w1, w2, this, by simp only; omega⟩
        · exact (h2 i1 i2 k1 (by omega) k3).long
theorem wlLevel_cov {g : List (List Int)} {level : Bool} {places : Nat} {ws : List Wall} : ∀ lines, (∀ lv ln i1 i2, Cov ws lv ln i1 i2 → Cov (wlLevel g level places ws lines) lv ln i1 i2) ∧
    (∀ line i1 i2, 1 ≤ line → line < lines → i1 ≤ i2 → i2 < places → Run g level line i1 i2 → Cov (wlLevel g level places ws lines) level line i1 i2)
  | 0 => ⟨fun _ _ _ _ h => h, fun line _ _ _ h => by omega⟩
  | k + 1 => by
    obtain ⟨h1, h2⟩ := wlLevel_cov (g := g) (level := level) (places := places) (ws := ws) k
    by_cases hk : 1 ≤ k
    · rw [wlLevel_succ hk]
      obtain ⟨l1, l2, -, -⟩ := wlLine_cov (g := g) (level := level) (line := k) (ws := wlLevel g level places ws k) places
      refine ⟨fun lv ln i1 i2 q => l1 _ _ _ _ (h1 _ _ _ _ q), fun line i1 i2 q1 q2 q3 q4 q5 => ?_⟩
      by_cases e : line = k
      · subst e; exact l2 i1 i2 q3 q4 q5
      · exact l1 _ _ _ _ (h2 line i1 i2 q1 (by omega) q3 q4 q5)
    · obtain rfl : k = 0 := by omega
      rw [wlLevel_one]
      exact ⟨fun _ _ _ _ h => h, fun line _ _ q1 q2 => by omega⟩
theorem wallsG_cov {g : List (List Int)} {H W : Nat} {level : Bool} {line i1 i2 : Nat} (h1 : 1 ≤ line) (h2 : line < if level then H else W) (h3 : i1 ≤ i2) (h4 : i2 < if level then W else H) (hr : Run g level line i1 i2) : Cov (wallsG g H W) level line i1 i2 := by
  unfold wallsG
  obtain ⟨a1, a2⟩ := wlLevel_cov (g := g) (level := false) (places := H) (ws := []) W
  obtain ⟨b1, b2⟩ := wlLevel_cov (g := g) (level := true) (places := W) (ws := wlLevel g false H [] W) H
  cases level with
  | false => exact b1 _ _ _ _ (a2 line i1 i2 h1 h2 h3 h4 hr)
  | true => exact b2 line i1 i2 h1 h2 h3 h4 hr

/-! ### The direct orders -/
section
variable {n : Nat}
theorem relB_get {a : Int} (ha : 0 ≤ a ∧ a < n) : ∀ {bs : List Int} {M : List (List Bool)}, Rm n bs → Sq n M → Sq n (relB a bs M) ∧ ∀ x y, getB (relB a bs M) x y = true ↔ getB M x y = true ∨ (x = a.toNat ∧ ∃ b ∈ bs, y = b.toNat)
  | [], M, _, h => ⟨h, fun x y => by simp [relB]⟩
  | b :: bs, M, hb, h => by
    have hb0 := hb b (by simp)
    obtain ⟨k1, k2⟩ := relB_get ha (bs := bs) (M := setB M a.toNat b.toNat true) (fun x hx => hb x (by simp [hx])) (h.set (by omega))
    refine ⟨k1, fun x y => ?_⟩
    have e : relB a (b :: bs) M = relB a bs (setB M a.toNat b.toNat true) := rfl
    rw [e, k2, getB_setB h (by omega) (by omega)]
    by_cases q : x = a.toNat ∧ y = b.toNat
    · rw [if_pos q]; simp [q.1, q.2]
    · rw [if_neg q]
      constructor
      · rintro (k | ⟨k, c, hc, rfl⟩)
        · exact .inl k
        · exact .inr ⟨k, c, by simp [hc], rfl⟩
      · rintro (k | ⟨k, c, hc, rfl⟩)
        · exact .inl k
        · rcases List.mem_cons.1 hc with rfl | hc
          · exact absurd ⟨k, rfl⟩ q
          · exact .inr ⟨k, c, hc, rfl⟩
theorem relW_get {bs : List Int} (hb : Rm n bs) : ∀ {la : List Int} {M : List (List Bool)}, Rm n la → Sq n M → Sq n (relW M la bs) ∧ ∀ x y, getB (relW M la bs) x y = true ↔ getB M x y = true ∨ (∃ a ∈ la, x = a.toNat) ∧ ∃ b ∈ bs, y = b.toNat
  | [], M, _, h => ⟨h, fun x y => by simp [relW]⟩
  | a :: la, M, ha, h => by
    obtain ⟨j1, j2⟩ := relB_get (ha a (by simp)) hb h
    obtain ⟨k1, k2⟩ := relW_get hb (la := la) (M := relB a bs M) (fun x hx => ha x (by simp [hx])) j1
    refine ⟨k1, fun x y => ?_⟩
    have e : relW M (a :: la) bs = relW (relB a bs M) la bs := rfl
    rw [e, k2, j2]
    constructor
    · rintro ((k | ⟨k, q⟩) | ⟨⟨c, hc, k⟩, q⟩)
      · exact .inl k
      · exact .inr ⟨⟨a, by simp, k⟩, q⟩
      · exact .inr ⟨⟨c, by simp [hc], k⟩, q⟩
    · rintro (k | ⟨⟨c, hc, k⟩, q⟩)
      · exact .inl (.inl k)
      · rcases List.mem_cons.1 hc with rfl | hc
        · exact .inl (.inr ⟨k, q⟩)
        · exact .inr ⟨⟨c, hc, k⟩, q⟩
/-- On both sides of some wall. -/
def By (g : List (List Int)) (ws : List Wall) (lv : Bool) (x y : Nat) : Prop := ∃ w ∈ ws, w.level = lv ∧ (∃ a ∈ (sidesOf g w).1, x = a.toNat) ∧ ∃ b ∈ (sidesOf g w).2, y = b.toNat
theorem By.cons {g : List (List Int)} {w : Wall} {ws : List Wall} {lv : Bool} {x y : Nat} : By g (w :: ws) lv x y ↔ (w.level = lv ∧ (∃ a ∈ (sidesOf g w).1, x = a.toNat) ∧ ∃ b ∈ (sidesOf g w).2, y = b.toNat) ∨ By g ws lv x y := by
  unfold By; simp
theorem ord_get {g : List (List Int)} {nh nw : Nat} (hrm : RmOk g nh nw n) : ∀ (ws : List Wall), (∀ w ∈ ws, WlOk g nh nw w) → ∀ {M : List (List Bool) × List (List Bool)}, Sq n M.1 → Sq n M.2 →
    (Sq n (ws.foldl (ordW g) M).1 ∧ ∀ x y, getB (ws.foldl (ordW g) M).1 x y = true ↔ getB M.1 x y = true ∨ By g ws false x y) ∧
    (Sq n (ws.foldl (ordW g) M).2 ∧ ∀ x y, getB (ws.foldl (ordW g) M).2 x y = true ↔ getB M.2 x y = true ∨ By g ws true x y)
  | [], _, M, h0, h1 => ⟨⟨h0, fun x y => by simp [By]⟩, ⟨h1, fun x y => by simp [By]⟩⟩
  | w :: ws, hws, M, h0, h1 => by
    obtain ⟨r1, r2⟩ := sidesOf_rooms hrm (hws w (by simp))
    rw [List.foldl_cons]
    cases hlv : w.level with
    | false =>
      obtain ⟨k1, k2⟩ := relW_get r2 r1 h0
      have e : ordW g M w = (relW M.1 (sidesOf g w).1 (sidesOf g w).2, M.2) := by unfold ordW; rw [hlv]; rfl
      rw [e]
      obtain ⟨⟨a1, a2⟩, ⟨b1, b2⟩⟩ := ord_get hrm ws (fun w hw => hws w (by simp [hw])) (M := (relW M.1 (sidesOf g w).1 (sidesOf g w).2, M.2)) k1 h1
      refine ⟨⟨a1, fun x y => ?_⟩, ⟨b1, fun x y => ?_⟩⟩
      · rw [a2, k2, By.cons, hlv]; simp only [true_and, or_assoc]
      · rw [b2, By.cons, hlv]; simp
    | true =>
      obtain ⟨k1, k2⟩ := relW_get r2 r1 h1
      have e : ordW g M w = (M.1, relW M.2 (sidesOf g w).1 (sidesOf g w).2) := by unfold ordW; rw [hlv]; rfl
      rw [e]
      obtain ⟨⟨a1, a2⟩, ⟨b1, b2⟩⟩ := ord_get hrm ws (fun w hw => hws w (by simp [hw])) (M := (M.1, relW M.2 (sidesOf g w).1 (sidesOf g w).2)) h0 k1
      refine ⟨⟨a1, fun x y => ?_⟩, ⟨b1, fun x y => ?_⟩⟩
      · rw [a2, By.cons, hlv]; simp
      · rw [b2, k2, By.cons, hlv]; simp only [true_and, or_assoc]
theorem emptyM_no {x y : Nat} : getB (emptyM n) x y = false := by
  unfold getB emptyM
  rw [List.getElem?_replicate]
  split
  · rw [Option.getD_some, List.getElem?_replicate]; split <;> rfl
  · rfl
/-- The number of a cell's room. -/
def cn (g : List (List Int)) (i j : Nat) : Nat := (gz g i j).toNat
theorem RmOk.ne {g : List (List Int)} {nh nw : Nat} (h : RmOk g nh nw n) {i j i' j' : Nat} (h1 : i < nh) (h2 : j < nw) (h3 : i' < nh) (h4 : j' < nw) : gz g i j ≠ gz g i' j' ↔ cn g i j ≠ cn g i' j' := by
  have a := h i j h1 h2
  have b := h i' j' h3 h4
  unfold cn
  omega
theorem side_mem1 {g : List (List Int)} {level : Bool} {line fr long j : Nat} (h1 : fr ≤ j) (h2 : j < fr + long) : (sidesG g level line j).1 ∈ (sidesOf g ⟨level, line, fr, long⟩).1 := by
  simp only [sidesOf, Int.toNat_natCast]
  rw [mem_ddp]
  simp only [alongG, List.mem_map, List.mem_range]
  exact ⟨j - fr, by omega, by rw [show fr + (j - fr) = j by omega]⟩
theorem side_mem2 {g : List (List Int)} {level : Bool} {line fr long j : Nat} (h1 : fr ≤ j) (h2 : j < fr + long) : (sidesG g level line j).2 ∈ (sidesOf g ⟨level, line, fr, long⟩).2 := by
  simp only [sidesOf, Int.toNat_natCast]
  rw [mem_ddp]
  simp only [alongG, List.mem_map, List.mem_range]
  exact ⟨j - fr, by omega, by rw [show fr + (j - fr) = j by omega]⟩
theorem side_of1 {g : List (List Int)} {level : Bool} {line fr long : Nat} {x : Int} (h : x ∈ (sidesOf g ⟨level, line, fr, long⟩).1) : ∃ j, fr ≤ j ∧ j < fr + long ∧ x = (sidesG g level line j).1 := by
  simp only [sidesOf, Int.toNat_natCast] at h
  rw [mem_ddp] at h
  simp only [alongG, List.mem_map, List.mem_range] at h
  obtain ⟨j, hj, rfl⟩ := h
  exact ⟨fr + j, by omega, by omega, rfl⟩
theorem side_of2 {g : List (List Int)} {level : Bool} {line fr long : Nat} {x : Int} (h : x ∈ (sidesOf g ⟨level, line, fr, long⟩).2) : ∃ j, fr ≤ j ∧ j < fr + long ∧ x = (sidesG g level line j).2 := by
  simp only [sidesOf, Int.toNat_natCast] at h
  rw [mem_ddp] at h
  simp only [alongG, List.mem_map, List.mem_range] at h
  obtain ⟨j, hj, rfl⟩ := h
  exact ⟨fr + j, by omega, by omega, rfl⟩
theorem by_left {g : List (List Int)} {nh nw : Nat} (h : RmOk g nh nw n) {x y : Nat} : By g (wallsG g nh nw) false x y ↔ DL (cn g) nh nw x y := by
  constructor
  · rintro ⟨w, hw, hlv, ⟨a, ha, rfl⟩, b, hb, rfl⟩
    obtain ⟨line, fr, long, he, hl, hin⟩ := wallsG_ok w hw
    rw [hlv] at he hin
    subst he
    obtain ⟨j1, p1, p2, rfl⟩ := side_of1 ha
    obtain ⟨j2, q1, q2, rfl⟩ := side_of2 hb
    have i1 := (hin j1 p1 p2).1
    have i2 := (hin j2 q1 q2).1
    unfold InL at i1 i2
    simp only [Bool.false_eq_true, if_false] at i1 i2
    obtain ⟨L, rfl⟩ : ∃ L, line = L + 1 := ⟨line - 1, by omega⟩
    refine ⟨L, j1, j2, i1.2.1, i1.2.2, i2.2.2, fun r r1 r2 => ?_, ?_, ?_⟩
    · have hr := hin r (by omega) (by omega)
      have hr1 := hr.1
      unfold InL at hr1
      simp only [Bool.false_eq_true, if_false] at hr1
      have hr2 := hr.2
      unfold difG sidesG at hr2
      simp only [Bool.false_eq_true, if_false, decide_eq_true_eq, Nat.add_sub_cancel] at hr2
      exact (h.ne hr1.2.2 (by omega) hr1.2.2 hr1.2.1).1 hr2
    · simp [sidesG, cn]
    · simp [sidesG, cn]
  · rintro ⟨L, i1, i2, h1, h2, h3, run, rfl, rfl⟩
    have hrun : Run g false (L + 1) (min i1 i2) (max i1 i2) := by
      intro r r1 r2
      have := run r r1 r2
      rw [← h.ne (by omega) (by omega) (by omega) h1] at this
      unfold difG sidesG
      simpa using this
    obtain ⟨w, hw, w1, w2, w3, w4⟩ := wallsG_cov (g := g) (H := nh) (W := nw) (level := false) (line := L + 1) (by omega) (by simpa using h1) (by omega) (by simp only [Bool.false_eq_true, if_false]; omega) hrun
    obtain ⟨line, fr, long, he, hl, hin⟩ := wallsG_ok w hw
    rw [w1] at he
    subst he
    simp only at w2 w3 w4
    obtain rfl : line = L + 1 := by omega
    refine ⟨_, hw, rfl, ⟨_, side_mem1 (j := i1) (by omega) (by omega), ?_⟩, _, side_mem2 (j := i2) (by omega) (by omega), ?_⟩
    · simp [sidesG, cn]
    · simp [sidesG, cn]
theorem by_above {g : List (List Int)} {nh nw : Nat} (h : RmOk g nh nw n) {x y : Nat} : By g (wallsG g nh nw) true x y ↔ DU (cn g) nh nw x y := by
  constructor
  · rintro ⟨w, hw, hlv, ⟨a, ha, rfl⟩, b, hb, rfl⟩
    obtain ⟨line, fr, long, he, hl, hin⟩ := wallsG_ok w hw
    rw [hlv] at he hin
    subst he
    obtain ⟨j1, p1, p2, rfl⟩ := side_of1 ha
    obtain ⟨j2, q1, q2, rfl⟩ := side_of2 hb
    have i1 := (hin j1 p1 p2).1
    have i2 := (hin j2 q1 q2).1
    unfold InL at i1 i2
    simp only [if_true] at i1 i2
    obtain ⟨L, rfl⟩ : ∃ L, line = L + 1 := ⟨line - 1, by omega⟩
    refine ⟨L, j1, j2, i1.2.1, i1.2.2, i2.2.2, fun r r1 r2 => ?_, ?_, ?_⟩
    · have hr := hin r (by omega) (by omega)
      have hr1 := hr.1
      unfold InL at hr1
      simp only [if_true] at hr1
      have hr2 := hr.2
      unfold difG sidesG at hr2
      simp only [if_true, decide_eq_true_eq, Nat.add_sub_cancel] at hr2
      exact (h.ne (by omega) hr1.2.2 hr1.2.1 hr1.2.2).1 hr2
    · simp [sidesG, cn]
    · simp [sidesG, cn]
  · rintro ⟨L, i1, i2, h1, h2, h3, run, rfl, rfl⟩
    have hrun : Run g true (L + 1) (min i1 i2) (max i1 i2) := by
      intro r r1 r2
      have := run r r1 r2
      rw [← h.ne (by omega) (by omega) h1 (by omega)] at this
      unfold difG sidesG
      simpa using this
    obtain ⟨w, hw, w1, w2, w3, w4⟩ := wallsG_cov (g := g) (H := nh) (W := nw) (level := true) (line := L + 1) (by omega) (by simpa using h1) (by omega) (by simp only [if_true]; omega) hrun
    obtain ⟨line, fr, long, he, hl, hin⟩ := wallsG_ok w hw
    rw [w1] at he
    subst he
    simp only at w2 w3 w4
    obtain rfl : line = L + 1 := by omega
    refine ⟨_, hw, rfl, ⟨_, side_mem1 (j := i1) (by omega) (by omega), ?_⟩, _, side_mem2 (j := i2) (by omega) (by omega), ?_⟩
    · simp [sidesG, cn]
    · simp [sidesG, cn]
theorem cn_lt {g : List (List Int)} {nh nw : Nat} (h : RmOk g nh nw n) {i j : Nat} (hi : i < nh) (hj : j < nw) : cn g i j < n := by
  have := h i j hi hj
  unfold cn; omega
theorem left_tc {g : List (List Int)} {nh nw : Nat} (h : RmOk g nh nw n) {a b : Nat} (ha : a < n) (hb : b < n) : getB (leftG g nh nw n) a b = true ↔ TC (DL (cn g) nh nw) a b := by
  obtain ⟨⟨k1, k2⟩, -⟩ := ord_get h (wallsG g nh nw) wallsG_ok (M := (emptyM n, emptyM n)) (emptyM_sq n) (emptyM_sq n)
  have hd : ∀ x y, getB (ordM g nh nw n).1 x y = true ↔ DL (cn g) nh nw x y := fun x y => by
    unfold ordM; rw [k2, by_left h]; simp [emptyM_no]
  unfold leftG
  have k3 : Sq n (ordM g nh nw n).1 := k1
  rw [close_tc k3 ha hb]
  constructor
  · exact TC.mono fun x y q => (hd x y).1 q.2.2
  · refine TC.mono fun x y q => ⟨?_, ?_, (hd x y).2 q⟩
    · obtain ⟨j, i1, i2, q1, q2, q3, -, rfl, -⟩ := q
      exact cn_lt h q2 (by omega)
    · obtain ⟨j, i1, i2, q1, q2, q3, -, -, rfl⟩ := q
      exact cn_lt h q3 q1
theorem above_tc {g : List (List Int)} {nh nw : Nat} (h : RmOk g nh nw n) {a b : Nat} (ha : a < n) (hb : b < n) : getB (aboveG g nh nw n) a b = true ↔ TC (DU (cn g) nh nw) a b := by
  obtain ⟨-, ⟨k1, k2⟩⟩ := ord_get h (wallsG g nh nw) wallsG_ok (M := (emptyM n, emptyM n)) (emptyM_sq n) (emptyM_sq n)
  have hd : ∀ x y, getB (ordM g nh nw n).2 x y = true ↔ DU (cn g) nh nw x y := fun x y => by
    unfold ordM; rw [k2, by_above h]; simp [emptyM_no]
  unfold aboveG
  have k3 : Sq n (ordM g nh nw n).2 := k1
  rw [close_tc k3 ha hb]
  constructor
  · exact TC.mono fun x y q => (hd x y).1 q.2.2
  · refine TC.mono fun x y q => ⟨?_, ?_, (hd x y).2 q⟩
    · obtain ⟨j, i1, i2, q1, q2, q3, -, rfl, -⟩ := q
      exact cn_lt h (by omega) q2
    · obtain ⟨j, i1, i2, q1, q2, q3, -, -, rfl⟩ := q
      exact cn_lt h q1 q3
end
end Fw
end Go.Proofs.Ytmhcknpjgikgmaa

/-! Orders of a plain plan: each two rooms are in just one. -/
namespace Go.Proofs.Ytmhcknpjgikgmaa
namespace Fw
open Go

theorem ptsRow_no {p : List Txt} {i : Nat} : ∀ {w : Nat}, ptsRow p 4 i w = 0 → ∀ k, 1 ≤ k → k < w → meetsAt p i k ≠ 4
  | w + 1, h, k, h1, h2 => by
    have hb := (ptsRow_bound p 4 i w).1
    unfold ptsRow at h
    by_cases e : k = w
    · subst e
      intro q
      rw [if_pos ⟨h1, q⟩] at h
      omega
    · have h0 : ptsRow p 4 i w = 0 := by split at h <;> omega
      exact ptsRow_no h0 k h1 (by omega)
theorem ptsTo_no {p : List Txt} {w : Nat} : ∀ {n : Nat}, ptsTo p 4 w n = 0 → ∀ i, 1 ≤ i → i < n → ptsRow p 4 i w = 0
  | n + 1, h, i, h1, h2 => by
    have hb : 0 ≤ ptsTo p 4 w n := by
      clear h h1 h2
      induction n with
      | zero => simp [ptsTo]
      | succ n ih =>
        have := (ptsRow_bound p 4 n w).1
        unfold ptsTo; split <;> omega
    have hr := (ptsRow_bound p 4 n w).1
    unfold ptsTo at h
    by_cases e : i = n
    · subst e
      rw [if_pos h1] at h
      omega
    · have h0 : ptsTo p 4 w n = 0 := by split at h <;> omega
      exact ptsTo_no h0 i h1 (by omega)
theorem u8_ne {a b : UInt8} (h : (a.toNat : Int) - 97 ≠ (b.toNat : Int) - 97) : a ≠ b := by
  rintro rfl; exact h rfl
/-- Where four letters meet, four rooms do. -/
theorem meets_four {p : List Txt} (hg : gridB p = true) {i k : Nat} (hi : i + 1 < p.length) (hk : k + 1 < (hdRow p).length) (h1 : cellZ p i k ≠ cellZ p i (k + 1)) (h2 : cellZ p i k ≠ cellZ p (i + 1) k) (h3 : cellZ p i k ≠ cellZ p (i + 1) (k + 1))
    (h4 : cellZ p i (k + 1) ≠ cellZ p (i + 1) k) (h5 : cellZ p i (k + 1) ≠ cellZ p (i + 1) (k + 1)) (h6 : cellZ p (i + 1) k ≠ cellZ p (i + 1) (k + 1)) : meetsAt p (i + 1) (k + 1) = 4 := by
  obtain ⟨r1, hr1, -⟩ := get_of (show i < p.length by omega)
  obtain ⟨r2, hr2, -⟩ := get_of hi
  have e1 := grid_row hg hr1
  have e2 := grid_row hg hr2
  obtain ⟨a, ha, -⟩ := get_of (show k < r1.length by omega)
  obtain ⟨b, hb, -⟩ := get_of (show k + 1 < r1.length by omega)
  obtain ⟨c, hc, -⟩ := get_of (show k < r2.length by omega)
  obtain ⟨d, hd, -⟩ := get_of (show k + 1 < r2.length by omega)
  rw [cellZ_is hr1 ha] at h1 h2 h3
  rw [cellZ_is hr1 hb] at h1 h4 h5
  rw [cellZ_is hr2 hc] at h2 h4 h6
  rw [cellZ_is hr2 hd] at h3 h5 h6
  have n1 := u8_ne h1
  have n2 := u8_ne h2
  have n3 := u8_ne h3
  have n4 := u8_ne h4
  have n5 := u8_ne h5
  have n6 := u8_ne h6
  unfold meetsAt
  simp only [Nat.add_sub_cancel, hr1, hr2, ha, hb, hc, hd]
  simp [distTo, newAt, newTo, Ne.symm n1, Ne.symm n2, Ne.symm n3, Ne.symm n4, Ne.symm n5, Ne.symm n6]
theorem cn_cell {p : List Txt} (hp : planB p = true) {i j : Nat} (hi : i < p.length) (hj : j < (hdRow p).length) : (cn (gP p) i j : Int) = cellZ p i j := by
  have hN := plan_named hp
  have := hN.room hi hj
  unfold cn
  rw [hN.cell hi hj]; omega
theorem plan_pl {p : List Txt} (hp : plainB p = true) : Pl (cn (gP p)) p.length (hdRow p).length := by
  have hpl := plain_plan hp
  have hN := plan_named hpl
  have rect : ∀ {i j i' j' : Nat} (k l : Nat), i < p.length → i' < p.length → j < (hdRow p).length → j' < (hdRow p).length → cn (gP p) i j = cn (gP p) i' j' → min i i' ≤ k → k ≤ max i i' → min j j' ≤ l → l ≤ max j j' → cn (gP p) k l = cn (gP p) i j := by
    intro i j i' j' k l h1 h2 h3 h4 e h5 h6 h7 h8
    have e1 := cn_cell hpl h1 h3
    have e2 := cn_cell hpl h2 h4
    have e3 := cn_cell hpl (show k < p.length by omega) (show l < (hdRow p).length by omega)
    obtain ⟨b, hb, q1, -, c1⟩ := plan_rect hpl h1 h3
    obtain ⟨b', hb', q2, -, -⟩ := plan_rect hpl h2 h4
    have e4 : cellZ p i j = cellZ p i' j' := by omega
    rw [e4, hb'] at hb
    obtain rfl := Option.some.inj hb
    have q3 : inB b' k l = true := by
      unfold inB at q1 q2 ⊢
      simp only [Bool.and_eq_true, decide_eq_true_eq] at q1 q2 ⊢
      omega
    have := c1 k l (by omega) (by omega) q3
    omega
  refine ⟨rect, fun {i j} h1 h2 n1 n2 n3 => Classical.byContradiction fun n4 => ?_⟩
  have h0 : points p 4 = 0 := by
    unfold plainB at hp
    simp only [Bool.and_eq_true, decide_eq_true_eq] at hp
    exact hp.2
  have hno := ptsRow_no (ptsTo_no h0 (i + 1) (by omega) h1) (j + 1) (by omega) h2
  have n5 : cn (gP p) i j ≠ cn (gP p) (i + 1) (j + 1) := by
    intro e
    exact n1 (rect i (j + 1) (by omega) h1 (by omega) h2 e (by omega) (by omega) (by omega) (by omega)).symm
  have n6 : cn (gP p) i (j + 1) ≠ cn (gP p) (i + 1) j := by
    intro e
    exact n1 (rect i j (by omega) h1 h2 (by omega) e (by omega) (by omega) (by omega) (by omega))
  have c1 := cn_cell hpl (show i < p.length by omega) (show j < (hdRow p).length by omega)
  have c2 := cn_cell hpl (show i < p.length by omega) h2
  have c3 := cn_cell hpl h1 (show j < (hdRow p).length by omega)
  have c4 := cn_cell hpl h1 h2
  exact hno (meets_four hN.hg h1 h2 (by omega) (by omega) (by omega) (by omega) (by omega) (by omega))
theorem room_cell {p : List Txt} {a : Nat} (ha : a < (rP p).length) : ∃ i j, i < p.length ∧ j < (hdRow p).length ∧ cn (gP p) i j = a := by
  have hi := keys_inv p
  obtain ⟨b, hb, -⟩ := get_of ha
  obtain ⟨v, hv, -⟩ := get_of (show a < (keys p).length by rw [← hi.len]; exact ha)
  obtain ⟨i, j, ⟨hz, hj, hij⟩, -⟩ := (hi.hull a v b hv hb).at_
  have hi2 : i < p.length := by omega
  refine ⟨i, j, hi2, hj, ?_⟩
  unfold cn
  rw [gP_at hi2 hj, hz, Int.toNat_natCast]
  have hlt : ¬ (keys p).idxOf v = (keys p).length := by
    have := List.idxOf_lt_length_iff.2 (List.mem_of_getElem? hv)
    omega
  exact nodup_one hi.nd (idxOf_mem hlt) hv

/-- The orders of a plan. -/
def lfM (p : List Txt) : List (List Bool) := leftG (gP p) p.length (hdRow p).length (rP p).length
def abM (p : List Txt) : List (List Bool) := aboveG (gP p) p.length (hdRow p).length (rP p).length
def Lf (p : List Txt) (a b : Nat) : Prop := getB (lfM p) a b = true
def Ab (p : List Txt) (a b : Nat) : Prop := getB (abM p) a b = true
section
variable {p : List Txt} {a b d : Nat}
theorem Lf.iff (ha : a < (rP p).length) (hb : b < (rP p).length) : Lf p a b ↔ TC (DL (cn (gP p)) p.length (hdRow p).length) a b := left_tc gP_room ha hb
theorem Ab.iff (ha : a < (rP p).length) (hb : b < (rP p).length) : Ab p a b ↔ TC (DU (cn (gP p)) p.length (hdRow p).length) a b := above_tc gP_room ha hb
theorem Lf.trans (ha : a < (rP p).length) (hb : b < (rP p).length) (hd : d < (rP p).length) (h : Lf p a b) (k : Lf p b d) : Lf p a d := by
  rw [Lf.iff ha hd]; exact ((Lf.iff ha hb).1 h).trans ((Lf.iff hb hd).1 k)
theorem Ab.trans (ha : a < (rP p).length) (hb : b < (rP p).length) (hd : d < (rP p).length) (h : Ab p a b) (k : Ab p b d) : Ab p a d := by
  rw [Ab.iff ha hd]; exact ((Ab.iff ha hb).1 h).trans ((Ab.iff hb hd).1 k)
/-- Two ways to put all rooms in a row. -/
theorem plan_orders (hp : plainB p = true) : ∃ f g : Nat → Nat, ∀ a b, a < (rP p).length → b < (rP p).length → (Lf p a b → f a < f b ∧ g a < g b) ∧ (Ab p a b → f a < f b ∧ g b < g a) := by
  have hpl := plan_pl hp
  obtain ⟨f, hf⟩ := order_ex hpl (n := (rP p).length) (fun i j hi hj => cn_lt gP_room hi hj)
  obtain ⟨g, hg⟩ := order_ex2 hpl (n := (rP p).length) (fun i j hi hj => cn_lt gP_room hi hj)
  refine ⟨f, g, fun a b ha hb => ⟨fun h => ?_, fun h => ?_⟩⟩
  · rw [Lf.iff ha hb] at h
    exact ⟨h.rise fun a b k => hf a b (.inl k), h.rise fun a b k => hg a b (.inl k)⟩
  · rw [Ab.iff ha hb] at h
    exact ⟨h.rise fun a b k => hf a b (.inr k), (h.rev (S := fun x y => DU (cn (gP p)) p.length (hdRow p).length y x) fun _ _ k => k).rise fun a b k => hg a b (.inr k)⟩
theorem Lf.only (hp : plainB p = true) (ha : a < (rP p).length) (hb : b < (rP p).length) (h : Lf p a b) : ¬ Lf p b a ∧ ¬ Ab p a b ∧ ¬ Ab p b a := by
  obtain ⟨f, g, k⟩ := plan_orders hp
  have h1 := (k a b ha hb).1 h
  refine ⟨fun q => ?_, fun q => ?_, fun q => ?_⟩
  · have := (k b a hb ha).1 q; omega
  · have := (k a b ha hb).2 q; omega
  · have := (k b a hb ha).2 q; omega
theorem Ab.only (hp : plainB p = true) (ha : a < (rP p).length) (hb : b < (rP p).length) (h : Ab p a b) : ¬ Ab p b a ∧ ¬ Lf p a b ∧ ¬ Lf p b a := by
  obtain ⟨f, g, k⟩ := plan_orders hp
  have h1 := (k a b ha hb).2 h
  refine ⟨fun q => ?_, fun q => ?_, fun q => ?_⟩
  · have := (k b a hb ha).2 q; omega
  · have := (k a b ha hb).1 q; omega
  · have := (k b a hb ha).1 q; omega
theorem order_some (hp : plainB p = true) (ha : a < (rP p).length) (hb : b < (rP p).length) (hne : a ≠ b) : Lf p a b ∨ Lf p b a ∨ Ab p a b ∨ Ab p b a := by
  obtain ⟨i, j, h1, h2, e1⟩ := room_cell ha
  obtain ⟨k, l, h3, h4, e2⟩ := room_cell hb
  have := total_ex (plan_pl hp) h1 h2 h3 h4 (by rw [e1, e2]; exact hne)
  rw [e1, e2] at this
  rw [Lf.iff ha hb, Lf.iff hb ha, Ab.iff ha hb, Ab.iff hb ha]
  exact this
end
end Fw
end Go.Proofs.Ytmhcknpjgikgmaa

/-! Plans that are cut, in plain words. -/
namespace Go.Proofs.Ytmhcknpjgikgmaa
namespace Fw
open Go

/-- A row whose places from l up to k have one letter. -/
def rowPut (row : Txt) (l : Nat) (c : UInt8) (k : Nat) : Txt := (List.range row.length).map fun x => if l ≤ x ∧ x < k then c else row.getD x 0
theorem rowPut_len {row : Txt} {l k : Nat} {c : UInt8} : (rowPut row l c k).length = row.length := by simp [rowPut]
theorem rowPut_zero {row : Txt} {l : Nat} {c : UInt8} : rowPut row l c l = row := by
  apply List.ext_getElem?
  intro j
  unfold rowPut
  rw [List.getElem?_map]
  by_cases hj : j < row.length
  · rw [List.getElem?_range hj, Option.map_some, if_neg (by omega), List.getD_eq_getElem?_getD, List.getElem?_eq_getElem hj]; rfl
  · rw [List.getElem?_eq_none (by simpa using hj), List.getElem?_eq_none (by omega)]; rfl
theorem rowPut_succ {row : Txt} {l k : Nat} {c : UInt8} (h1 : l ≤ k) (h2 : k < row.length) : (rowPut row l c k).set k c = rowPut row l c (k + 1) := by
  apply List.ext_getElem?
  intro j
  rw [List.getElem?_set, rowPut_len]
  unfold rowPut
  rw [List.getElem?_map, List.getElem?_map]
  by_cases hj : j < row.length
  · rw [List.getElem?_range hj, Option.map_some, Option.map_some]
    by_cases e : k = j
    · subst e; rw [if_pos rfl, if_pos h2, if_pos (by omega)]
    · rw [if_neg e]
      by_cases q : l ≤ j ∧ j < k
      · rw [if_pos q, if_pos (by omega)]
      · rw [if_neg q, if_neg (by omega)]
  · rw [if_neg (by omega), List.getElem?_eq_none (by simpa using hj)]; rfl
/-- A plan whose rows from t up to i have one letter in some places. -/
def putTo (p : List Txt) (t l w : Nat) (c : UInt8) (i : Nat) : List Txt := (List.range p.length).map fun j => if t ≤ j ∧ j < i then rowPut (p.getD j []) l c (l + w) else p.getD j []
theorem putTo_len {p : List Txt} {t l w i : Nat} {c : UInt8} : (putTo p t l w c i).length = p.length := by simp [putTo]
theorem putTo_at {p : List Txt} {t l w i : Nat} {c : UInt8} {row : Txt} (h : p[i]? = some row) : (putTo p t l w c i)[i]? = some row := by
  have hi := len_of h
  unfold putTo
  rw [List.getElem?_map, List.getElem?_range hi, Option.map_some, if_neg (by omega), List.getD_eq_getElem?_getD, h]; rfl
theorem putTo_zero {p : List Txt} {t l w : Nat} {c : UInt8} : putTo p t l w c t = p := by
  apply List.ext_getElem?
  intro j
  unfold putTo
  rw [List.getElem?_map]
  by_cases hj : j < p.length
  · rw [List.getElem?_range hj, Option.map_some, if_neg (by omega), List.getD_eq_getElem?_getD, List.getElem?_eq_getElem hj]; rfl
  · rw [List.getElem?_eq_none (by simpa using hj), List.getElem?_eq_none (by omega)]; rfl
theorem putTo_succ {p : List Txt} {t l w i : Nat} {c : UInt8} {row : Txt} (h1 : t ≤ i) (h : p[i]? = some row) : (putTo p t l w c i).set i (rowPut row l c (l + w)) = putTo p t l w c (i + 1) := by
  have hi := len_of h
  apply List.ext_getElem?
  intro j
  rw [List.getElem?_set, putTo_len]
  unfold putTo
  rw [List.getElem?_map, List.getElem?_map]
  by_cases hj : j < p.length
  · rw [List.getElem?_range hj, Option.map_some, Option.map_some]
    by_cases e : i = j
    · subst e; rw [if_pos rfl, if_pos hi, if_pos (by omega), List.getD_eq_getElem?_getD, h]; rfl
    · rw [if_neg e]
      by_cases q : t ≤ j ∧ j < i
      · rw [if_pos q, if_pos (by omega)]
      · rw [if_neg q, if_neg (by omega)]
  · rw [if_neg (by omega), List.getElem?_eq_none (by simpa using hj)]; rfl
theorem putTo_sm {p : List Txt} (hs : Sm p) {t l w i : Nat} {c : UInt8} : Sm (putTo p t l w c i) := by
  refine ⟨by rw [putTo_len]; exact hs.1, fun r hr => ?_⟩
  obtain ⟨j, hj, rfl⟩ := List.mem_map.1 hr
  have hjl : j < p.length := by simpa using hj
  have hm : p.getD j [] ∈ p := by
    rw [List.getD_eq_getElem?_getD, List.getElem?_eq_getElem hjl]; exact List.getElem_mem hjl
  have := hs.2 _ hm
  split
  · rw [rowPut_len]; exact this
  · exact this

/-- Letters anew, if it is a plan. -/
def doneP (p : List Txt) : List Txt × Bool := if gridB p && planB (names p) then (names p, true) else ([], false)
theorem names_len {p : List Txt} (hg : gridB p = true) : (names p).length = p.length := by
  rw [names_text hg]
  have hr : (gP p).length = p.length := by rw [gP_eq]; exact zRows_len _
  unfold textG
  rw [List.length_map, hr]
theorem doneP_ok {p : List Txt} (h : (doneP p).2 = true) : planB (doneP p).1 = true ∧ (doneP p).1.length = p.length := by
  unfold doneP at h ⊢
  split at h
  · rename_i hq
    rw [if_pos hq]
    simp only [Bool.and_eq_true] at hq
    exact ⟨hq.2, names_len hq.1⟩
  · cases h
/-- A room cut in two. -/
def splitP (p : List Txt) (room : Int) (s : Txt) (k : Int) : List Txt × Bool :=
  if planB p && (decide (0 ≤ room) && decide (room ≤ l1Rooms p - 1)) then
    if (s == [104]) && (decide (1 ≤ k) && decide (k ≤ highOf p room - 1)) then doneP (putTo p ((boxOf p room).top + k).toNat (boxOf p room).left.toNat (wideOf p room).toNat 122 ((boxOf p room).top + k + (highOf p room - k)).toNat)
    else if (s == [118]) && (decide (1 ≤ k) && decide (k ≤ wideOf p room - 1)) then doneP (putTo p (boxOf p room).top.toNat ((boxOf p room).left + k).toNat (wideOf p room - k).toNat 122 ((boxOf p room).top + highOf p room).toNat)
    else ([], false)
  else ([], false)
theorem splitP_ok {p : List Txt} {room k : Int} {s : Txt} (h : (splitP p room s k).2 = true) : planB (splitP p room s k).1 = true ∧ (splitP p room s k).1.length = p.length := by
  unfold splitP at h ⊢
  by_cases h1 : (planB p && (decide (0 ≤ room) && decide (room ≤ l1Rooms p - 1))) = true
  · rw [if_pos h1] at h ⊢
    by_cases h2 : ((s == [104]) && (decide (1 ≤ k) && decide (k ≤ highOf p room - 1))) = true
    · rw [if_pos h2] at h ⊢
      have := doneP_ok h
      rw [putTo_len] at this
      exact this
    · rw [if_neg h2] at h ⊢
      by_cases h3 : ((s == [118]) && (decide (1 ≤ k) && decide (k ≤ wideOf p room - 1))) = true
      · rw [if_pos h3] at h ⊢
        have := doneP_ok h
        rw [putTo_len] at this
        exact this
      · rw [if_neg h3] at h; cases h
  · rw [if_neg h1] at h; cases h
section
variable {p : List Txt} {room : Int} {s : Txt} {t l h w k : Nat}
theorem splitP_g {k : Int} (hgv : (planB p && (decide (0 ≤ room) && decide (room ≤ l1Rooms p - 1))) = false) : splitP p room s k = ([], false) := by
  unfold splitP; rw [hgv]; rfl
theorem splitP_no {k : Int} (h1 : ((s == [104]) && (decide (1 ≤ k) && decide (k ≤ highOf p room - 1))) = false) (h2 : ((s == [118]) && (decide (1 ≤ k) && decide (k ≤ wideOf p room - 1))) = false) : splitP p room s k = ([], false) := by
  unfold splitP; rw [h1, h2]; split <;> rfl
theorem splitP_h (hgv : (planB p && (decide (0 ≤ room) && decide (room ≤ l1Rooms p - 1))) = true) (e1 : (boxOf p room).top = t) (e2 : (boxOf p room).left = l) (e3 : highOf p room = h) (e4 : wideOf p room = w)
    (hb : ((s == [104]) && (decide (1 ≤ (k : Int)) && decide ((k : Int) ≤ highOf p room - 1))) = true) : splitP p room s k = doneP (putTo p (t + k) l w 122 (t + k + (h - k))) := by
  have hk : (k : Int) ≤ h - 1 := by simp only [Bool.and_eq_true, decide_eq_true_eq, e3] at hb; exact hb.2.2
  unfold splitP
  rw [if_pos hgv, if_pos hb, e1, e2, e3, e4]
  have a1 : ((t : Int) + (k : Int)).toNat = t + k := by omega
  have a2 : ((t : Int) + (k : Int) + ((h : Int) - (k : Int))).toNat = t + k + (h - k) := by omega
  rw [a1, a2, Int.toNat_natCast, Int.toNat_natCast]
theorem splitP_v (hgv : (planB p && (decide (0 ≤ room) && decide (room ≤ l1Rooms p - 1))) = true) (e1 : (boxOf p room).top = t) (e2 : (boxOf p room).left = l) (e3 : highOf p room = h) (e4 : wideOf p room = w)
    (ha : ((s == [104]) && (decide (1 ≤ (k : Int)) && decide ((k : Int) ≤ highOf p room - 1))) = false) (hb : ((s == [118]) && (decide (1 ≤ (k : Int)) && decide ((k : Int) ≤ wideOf p room - 1))) = true) : splitP p room s k = doneP (putTo p t (l + k) (w - k) 122 (t + h)) := by
  have hk : (k : Int) ≤ w - 1 := by simp only [Bool.and_eq_true, decide_eq_true_eq, e4] at hb; exact hb.2.2
  unfold splitP
  rw [if_pos hgv, ha, if_neg Bool.false_ne_true, if_pos hb, e1, e2, e3, e4]
  have a1 : ((l : Int) + (k : Int)).toNat = l + k := by omega
  have a2 : ((t : Int) + (h : Int)).toNat = t + h := by omega
  have a3 : ((w : Int) - (k : Int)).toNat = w - k := by omega
  rw [a1, a2, a3, Int.toNat_natCast]
end
/-- Where a room lies. -/
theorem plan_box {p : List Txt} (hp : planB p = true) {room : Int} (h0 : 0 ≤ room) (h1 : room ≤ l1Rooms p - 1) : ∃ t l h w : Nat, (boxOf p room).top = t ∧ (boxOf p room).left = l ∧ highOf p room = h ∧ wideOf p room = w ∧ 1 ≤ h ∧ 1 ≤ w ∧ t + h ≤ p.length ∧ l + w ≤ (hdRow p).length := by
  have hN := plan_named hp
  have hr := hN.rooms
  obtain ⟨m, rfl⟩ : ∃ m : Nat, room = m := ⟨room.toNat, by omega⟩
  have hm : m < (rP p).length := by omega
  obtain ⟨b, hb, -⟩ := get_of hm
  have hi := keys_inv p
  obtain ⟨v, hv, -⟩ := get_of (show m < (keys p).length by rw [← hi.len]; exact hm)
  obtain ⟨e1, e2, e3, e4⟩ := hN.box hb
  obtain ⟨t, l, h, w, q1, q2, q3, q4, q5, q6, q7, q8, -⟩ := Hull.nat (hi.hull m v b hv hb)
  exact ⟨t, l, h, w, by omega, by omega, by omega, by omega, q5, q6, q7, q8⟩
theorem rows_wide {p : List Txt} (hp : planB p = true) {i : Nat} {row : Txt} (h : p[i]? = some row) : row.length = (hdRow p).length := grid_row (planB_grid hp) h
theorem plan_small {p : List Txt} (hp : planB p = true) : p.length ≤ 6 ∧ 1 ≤ p.length ∧ ∀ row ∈ p, 1 ≤ row.length ∧ row.length ≤ 6 := by
  have hg := planB_grid hp
  have h := grid_small hg
  refine ⟨h.2.1, h.1, fun row hr => ⟨?_, h.2.2 row hr⟩⟩
  obtain ⟨i, hi, rfl⟩ := List.getElem_of_mem hr
  exact row_pos hg (List.getElem?_eq_getElem hi)
end Fw
end Go.Proofs.Ytmhcknpjgikgmaa

/-! Orders of two rooms, gone through. -/
namespace Go.Proofs.Ytmhcknpjgikgmaa
namespace Fw
open Go

theorem lf_is {p : List Txt} : leftG (gP p) p.length (w0 (readG p)) (rP p).length = lfM p := by rw [w0_read]; rfl
theorem ab_is {p : List Txt} : aboveG (gP p) p.length (w0 (readG p)) (rP p).length = abM p := by rw [w0_read]; rfl
/-- Whether a relation of a plain plan holds for two of its rooms. -/
def askV (p : List Txt) (M : List (List Bool)) (a b : Int) : Bool := plainI p && (!decide (min a b < 0)) && (!decide (max a b ≥ (rP p).length)) && getB M a.toNat b.toNat
theorem lfM_sq {p : List Txt} (h : plainI p = true) : Sq (rP p).length (lfM p) := by
  obtain ⟨-, ⟨_, hu⟩, -⟩ := plan_all h
  rw [lf_is] at hu; exact hu.sq
theorem abM_sq {p : List Txt} (h : plainI p = true) : Sq (rP p).length (abM p) := by
  obtain ⟨-, -, ⟨_, hu⟩⟩ := plan_all h
  rw [ab_is] at hu; exact hu.sq

theorem ordersOf_no {p : List Txt} (hs : Sm p) (hv : plainI p = false) : PC Try.prog 69 [eStrs p] (.tup [.agg [.sl [] 0, .sl [] 0], .bool false]) false := by
  obtain ⟨x, hx, hxy, hxr⟩ := plainOf_ex hs
  refine PC.of ⟨Try.func69, by kernel_rfl, rfl, by kernel_rfl⟩ tabOk mixed (by show 1 ≤ Try.f69.ntmps; decide) ?_
  refine W.seq_region fun K hK => ?_
  simp (disch := omega) only [↓RU, RV, RH, ↓reduceIte, Nat.reduceEqDiff, reduceCtorEq, if_pos, ↓RS, RG, Nat.reduceAdd, Nat.reduceMul, Nat.reduceLeDiff, tyLLbool, tyLbool, tybool, tyimpl_orders, tyimpl_relation, tystruct_left_impl_relation_above_impl_relation_]
  refine hK _ _ ?_
  clear hK K
  refine W.seq_region fun K hK => ?_
  simp (disch := omega) only [↓RU, RV, RH, ↓reduceIte, Nat.reduceEqDiff, reduceCtorEq, if_pos, List.append_nil, ↓RS, RG, Nat.reduceAdd, Nat.reduceMul, Nat.reduceLeDiff, hv]
  refine CallR.pc (hx) rfl (.inr rfl) ?_
  simp (disch := omega) only [↓RU, RV, RH, ↓reduceIte, Nat.reduceEqDiff, reduceCtorEq, if_pos, List.append_nil, ↓RS, RG, Nat.reduceAdd, Nat.reduceMul, Nat.reduceLeDiff, hv]
  refine hK _ _ ?_
  clear hK K
  refine W.seq ?_
  refine W.seq_region fun K hK => ?_
  simp (disch := omega) only [↓RU, RV, RH, ↓reduceIte, Nat.reduceEqDiff, reduceCtorEq, if_pos, ↓RS, RG, Nat.reduceAdd, Nat.reduceMul, Nat.reduceLeDiff]
  refine hK _ _ ?_
  clear hK K
  refine W.cond rfl (fun h => ?_) (fun h => ?_)
  · try simp only [RL] at h
    refine W.seq_region fun K hK => ?_
    simp (disch := omega) only [↓RU, RV, RH, ↓reduceIte, Nat.reduceEqDiff, reduceCtorEq, if_pos, ↓RS, RG, Nat.reduceAdd, Nat.reduceMul, Nat.reduceLeDiff, tyLLbool, tyLbool, tybool, tyimpl_orders, tyimpl_relation, tystruct_left_impl_relation_above_impl_relation_]
    refine hK _ _ ?_
    clear hK K
    refine W.ret ?_
    refine XThen.ret ?_
    refine BodyQ.ret rfl ?_
    rfl
  · try simp only [RL] at h
    exact absurd h (by simp)

theorem ordersOf_yes {p : List Txt} (hs : Sm p) (hv : plainI p = true) : PC Try.prog 69 [eStrs p] (.tup [(.agg [eRel (lfM p), eRel (abM p)]), .bool true]) false := by
  obtain ⟨x, hx, hxy, hxr⟩ := plainOf_ex hs
  obtain rfl := hxy hv
  obtain ⟨hrm, -, -⟩ := plan_all hv
  have hok := (plain_okB hv).1
  have hg := okB_gw hok
  have hn9 := okB_rooms hok
  have hn1 := okB_rooms1 hok
  refine PC.of ⟨Try.func69, by kernel_rfl, rfl, by kernel_rfl⟩ tabOk mixed (by show 1 ≤ Try.f69.ntmps; decide) ?_
  refine W.seq_region fun K hK => ?_
  simp (disch := omega) only [↓RU, RV, RH, ↓reduceIte, Nat.reduceEqDiff, reduceCtorEq, if_pos, ↓RS, RG, Nat.reduceAdd, Nat.reduceMul, Nat.reduceLeDiff, tyLLbool, tyLbool, tybool, tyimpl_orders, tyimpl_relation, tystruct_left_impl_relation_above_impl_relation_]
  refine hK _ _ ?_
  clear hK K
  refine W.seq_region fun K hK => ?_
  simp (disch := omega) only [↓RU, RV, RH, ↓reduceIte, Nat.reduceEqDiff, reduceCtorEq, if_pos, List.append_nil, ↓RS, RG, Nat.reduceAdd, Nat.reduceMul, Nat.reduceLeDiff, hv]
  refine CallR.pc (hx) rfl (.inr rfl) ?_
  simp (disch := omega) only [↓RU, RV, RH, ↓reduceIte, Nat.reduceEqDiff, reduceCtorEq, if_pos, List.append_nil, ↓RS, RG, Nat.reduceAdd, Nat.reduceMul, Nat.reduceLeDiff, hv]
  refine hK _ _ ?_
  clear hK K
  refine W.seq ?_
  refine W.seq_region fun K hK => ?_
  simp (disch := omega) only [↓RU, RV, RH, ↓reduceIte, Nat.reduceEqDiff, reduceCtorEq, if_pos, ↓RS, RG, Nat.reduceAdd, Nat.reduceMul, Nat.reduceLeDiff]
  refine hK _ _ ?_
  clear hK K
  refine W.cond rfl (fun h => ?_) (fun h => ?_)
  · try simp only [RL] at h
    exact absurd h (by simp)
  · try simp only [RL] at h
    refine W.skip ?_
    refine XThen.norm ?_
    refine W.seq_region fun K hK => ?_
    simp (disch := omega) only [↓RU, RV, RH, ↓reduceIte, Nat.reduceEqDiff, reduceCtorEq, if_pos, List.append_nil, ↓RS, RG, Nat.reduceAdd, Nat.reduceMul, Nat.reduceLeDiff, tyLLbool, tyLbool, tybool, tyimpl_orders, tyimpl_relation, tystruct_left_impl_relation_above_impl_relation_]
    refine CallR.pc (orders_pc hg rfl hn9 hrm) rfl (.inl rfl) ?_
    simp (disch := omega) only [↓RU, RV, RH, ↓reduceIte, Nat.reduceEqDiff, reduceCtorEq, if_pos, List.append_nil, ↓RS, RG, Nat.reduceAdd, Nat.reduceMul, Nat.reduceLeDiff, tyLLbool, tyLbool, tybool, tyimpl_orders, tyimpl_relation, tystruct_left_impl_relation_above_impl_relation_]
    refine hK _ _ ?_
    clear hK K
    refine W.ret ?_
    refine BodyQ.ret rfl ?_
    rw [lf_is, ab_is]
    rfl

theorem lefts_pc {L A : List (List Bool)} : PC Try.prog 46 [.agg [eRel L, eRel A]] (eRel L) false := by
  refine PC.of ⟨Try.func46, by kernel_rfl, rfl, by kernel_rfl⟩ tabOk mixed (by show 1 ≤ Try.f46.ntmps; decide) ?_
  refine W.seq_region fun K hK => ?_
  simp (disch := omega) only [↓RU, RV, RH, ↓reduceIte, Nat.reduceEqDiff, reduceCtorEq, if_pos, ↓RS, RG, Nat.reduceAdd, Nat.reduceMul, Nat.reduceLeDiff, tyLLbool, tyLbool, tybool, tyimpl_orders, tyimpl_relation, tystruct_left_impl_relation_above_impl_relation_]
  refine hK _ _ ?_
  clear hK K
  refine W.seq_region fun K hK => ?_
  simp (disch := omega) only [↓RU, RV, RH, ↓reduceIte, Nat.reduceEqDiff, reduceCtorEq, if_pos, ↓RS, RG, Nat.reduceAdd, Nat.reduceMul, Nat.reduceLeDiff, tyLLbool, tyLbool, tybool, tyimpl_orders, tyimpl_relation, tystruct_left_impl_relation_above_impl_relation_]
  refine hK _ _ ?_
  clear hK K
  refine W.ret ?_
  refine BodyQ.ret rfl ?_
  rfl

theorem aboves_pc {L A : List (List Bool)} : PC Try.prog 50 [.agg [eRel L, eRel A]] (eRel A) false := by
  refine PC.of ⟨Try.func50, by kernel_rfl, rfl, by kernel_rfl⟩ tabOk mixed (by show 1 ≤ Try.f50.ntmps; decide) ?_
  refine W.seq_region fun K hK => ?_
  simp (disch := omega) only [↓RU, RV, RH, ↓reduceIte, Nat.reduceEqDiff, reduceCtorEq, if_pos, ↓RS, RG, Nat.reduceAdd, Nat.reduceMul, Nat.reduceLeDiff, tyLLbool, tyLbool, tybool, tyimpl_orders, tyimpl_relation, tystruct_left_impl_relation_above_impl_relation_]
  refine hK _ _ ?_
  clear hK K
  refine W.seq_region fun K hK => ?_
  simp (disch := omega) only [↓RU, RV, RH, ↓reduceIte, Nat.reduceEqDiff, reduceCtorEq, if_pos, ↓RS, RG, Nat.reduceAdd, Nat.reduceMul, Nat.reduceLeDiff, tyLLbool, tyLbool, tybool, tyimpl_orders, tyimpl_relation, tystruct_left_impl_relation_above_impl_relation_]
  refine hK _ _ ?_
  clear hK K
  refine W.ret ?_
  refine BodyQ.ret rfl ?_
  rfl

theorem asked_no {p : List Txt} (hs : Sm p) (hv : plainI p = false) (a b : Int) {f : FuncId} : PC Try.prog 45 [eStrs p, .int .i64 a, .int .i64 b, .fn f []] (.bool false) true := by
  refine PC.of ⟨Try.func45, by kernel_rfl, rfl, by kernel_rfl⟩ tabOk mixed (by show 4 ≤ Try.f45.ntmps; decide) ?_
  refine W.seq_region fun K hK => ?_
  simp (disch := omega) only [↓RU, RV, RH, ↓reduceIte, Nat.reduceEqDiff, reduceCtorEq, if_pos, ↓RS, RG, Nat.reduceAdd, Nat.reduceMul, Nat.reduceLeDiff]
  refine hK _ _ ?_
  clear hK K
  refine W.seq_region fun K hK => ?_
  simp (disch := omega) only [↓RU, RV, RH, ↓reduceIte, Nat.reduceEqDiff, reduceCtorEq, if_pos, List.append_nil, ↓RS, RG, Nat.reduceAdd, Nat.reduceMul, Nat.reduceLeDiff, tyLLbool, tyLbool, tybool, tyimpl_orders, tyimpl_relation, tystruct_left_impl_relation_above_impl_relation_]
  refine CallR.pc (ordersOf_no hs hv) rfl (.inr rfl) ?_
  simp (disch := omega) only [↓RU, RV, RH, ↓reduceIte, Nat.reduceEqDiff, reduceCtorEq, if_pos, List.append_nil, ↓RS, RG, Nat.reduceAdd, Nat.reduceMul, Nat.reduceLeDiff, tyLLbool, tyLbool, tybool, tyimpl_orders, tyimpl_relation, tystruct_left_impl_relation_above_impl_relation_]
  refine hK _ _ ?_
  clear hK K
  refine W.seq ?_
  refine W.seq_region fun K hK => ?_
  simp (disch := omega) only [↓RU, RV, RH, ↓reduceIte, Nat.reduceEqDiff, reduceCtorEq, if_pos, ite_min, w64, ite_max, ↓RS, RG, Nat.reduceAdd, Nat.reduceMul, Nat.reduceLeDiff, tyLLbool, tyLbool, tybool, tyimpl_orders, tyimpl_relation, tyint, tystruct_left_impl_relation_above_impl_relation_]
  refine hK _ _ ?_
  clear hK K
  refine W.cond rfl (fun h => ?_) (fun h => ?_)
  · try simp only [RL] at h
    refine W.seq_region fun K hK => ?_
    simp (disch := omega) only [↓RU, RV, RH, ↓reduceIte, Nat.reduceEqDiff, reduceCtorEq, if_pos, ↓RS, RG, Nat.reduceAdd, Nat.reduceMul, Nat.reduceLeDiff]
    refine hK _ _ ?_
    clear hK K
    refine W.ret ?_
    refine XThen.ret ?_
    refine BodyQ.ret rfl ?_
    rfl
  · try simp only [RL] at h
    exact absurd h (by simp)

theorem asked_yes {p : List Txt} (hs : Sm p) (hv : plainI p = true) (a b : Int) {f : FuncId} {M : List (List Bool)} (hM : Sq (rP p).length M) (hf : PC Try.prog f [(.agg [eRel (lfM p), eRel (abM p)])] (eRel M) false) : PC Try.prog 45 [eStrs p, .int .i64 a, .int .i64 b, .fn f []] (.bool (askV p M a b)) true := by
  have hok := (plain_okB hv).1
  have hg := okB_gw hok
  have hn9 := okB_rooms hok
  have hn1 := okB_rooms1 hok
  have hlq := lfM_sq hv
  have hl1 := hlq.1
  have hM1 := hM.1
  refine PC.of ⟨Try.func45, by kernel_rfl, rfl, by kernel_rfl⟩ tabOk mixed (by show 4 ≤ Try.f45.ntmps; decide) ?_
  refine W.seq_region fun K hK => ?_
  simp (disch := omega) only [↓RU, RV, RH, ↓reduceIte, Nat.reduceEqDiff, reduceCtorEq, if_pos, ↓RS, RG, Nat.reduceAdd, Nat.reduceMul, Nat.reduceLeDiff]
  refine hK _ _ ?_
  clear hK K
  refine W.seq_region fun K hK => ?_
  simp (disch := omega) only [↓RU, RV, RH, ↓reduceIte, Nat.reduceEqDiff, reduceCtorEq, if_pos, List.append_nil, ↓RS, RG, Nat.reduceAdd, Nat.reduceMul, Nat.reduceLeDiff, tyLLbool, tyLbool, tybool, tyimpl_orders, tyimpl_relation, tystruct_left_impl_relation_above_impl_relation_]
  refine CallR.pc (ordersOf_yes hs hv) rfl (.inr rfl) ?_
  simp (disch := omega) only [↓RU, RV, RH, ↓reduceIte, Nat.reduceEqDiff, reduceCtorEq, if_pos, List.append_nil, ↓RS, RG, Nat.reduceAdd, Nat.reduceMul, Nat.reduceLeDiff, tyLLbool, tyLbool, tybool, tyimpl_orders, tyimpl_relation, tystruct_left_impl_relation_above_impl_relation_]
  refine hK _ _ ?_
  clear hK K
  refine W.seq ?_
  refine W.seq_region fun K hK => ?_
  rcases hq : (decide (min a b < 0), decide (max a b ≥ ((rP p).length : Int))) with ⟨_ | _, _ | _⟩
  · skip
    simp only [Prod.mk.injEq] at hq
    obtain ⟨hq1, hq2⟩ := hq
    simp (disch := omega) only [↓RU, RV, RH, ↓reduceIte, Nat.reduceEqDiff, reduceCtorEq, if_pos, ite_min, w64, ite_max, ↓RS, RG, Nat.reduceAdd, Nat.reduceMul, Nat.reduceLeDiff, tyLLbool, tyLbool, tybool, tyimpl_orders, tyimpl_relation, tyint, tystruct_left_impl_relation_above_impl_relation_, hq1, hq2, hl1]
    refine hK _ _ ?_
    clear hK K
    refine W.cond rfl (fun h => ?_) (fun h => ?_)
    · try simp only [RL] at h
      exact absurd h (by simp)
    · try simp only [RL] at h
      have q1 := of_decide_eq_false hq1
      have q2 := of_decide_eq_false hq2
      obtain ⟨a, rfl⟩ : ∃ a2 : Nat, a = a2 := ⟨a.toNat, by omega⟩
      obtain ⟨b, rfl⟩ : ∃ b2 : Nat, b = b2 := ⟨b.toNat, by omega⟩
      obtain ⟨row, hrow, hrl, hrb⟩ := hM.at_ (show a < (rP p).length by omega) (show b < (rP p).length by omega)
      refine W.skip ?_
      refine XThen.norm ?_
      refine W.seq_region fun K hK => ?_
      simp (disch := omega) only [↓RU, RV, RH, ↓reduceIte, Nat.reduceEqDiff, reduceCtorEq, if_pos, List.append_nil, ↓RS, RG, Nat.reduceAdd, Nat.reduceMul, Nat.reduceLeDiff, tyLLbool, tyLbool, tybool, tyimpl_orders, tyimpl_relation, tystruct_left_impl_relation_above_impl_relation_, hrow, hrl, hrb, hM1]
      refine CallR.pc (hf) rfl (.inr rfl) ?_
      simp (disch := omega) only [↓RU, RV, RH, ↓reduceIte, Nat.reduceEqDiff, reduceCtorEq, if_pos, List.append_nil, ↓RS, RG, Nat.reduceAdd, Nat.reduceMul, Nat.reduceLeDiff, tyLLbool, tyLbool, tybool, tyimpl_orders, tyimpl_relation, tystruct_left_impl_relation_above_impl_relation_, hrow, hrl, hrb, hM1]
      refine hK _ _ ?_
      clear hK K
      refine W.ret ?_
      refine BodyQ.ret rfl ?_
      unfold askV
      rw [hv, hq1, hq2]
      rfl
  · skip
    simp only [Prod.mk.injEq] at hq
    obtain ⟨hq1, hq2⟩ := hq
    simp (disch := omega) only [↓RU, RV, RH, ↓reduceIte, Nat.reduceEqDiff, reduceCtorEq, if_pos, ite_min, w64, ite_max, ↓RS, RG, Nat.reduceAdd, Nat.reduceMul, Nat.reduceLeDiff, tyLLbool, tyLbool, tybool, tyimpl_orders, tyimpl_relation, tyint, tystruct_left_impl_relation_above_impl_relation_, hq1, hq2, hl1]
    refine hK _ _ ?_
    clear hK K
    refine W.cond rfl (fun h => ?_) (fun h => ?_)
    · try simp only [RL] at h
      refine W.seq_region fun K hK => ?_
      simp (disch := omega) only [↓RU, RV, RH, ↓reduceIte, Nat.reduceEqDiff, reduceCtorEq, if_pos, ↓RS, RG, Nat.reduceAdd, Nat.reduceMul, Nat.reduceLeDiff]
      refine hK _ _ ?_
      clear hK K
      refine W.ret ?_
      refine XThen.ret ?_
      refine BodyQ.ret rfl ?_
      unfold askV
      rw [hv, hq1, hq2]
      rfl
    · try simp only [RL] at h
      exact absurd h (by simp)
  · skip
    simp only [Prod.mk.injEq] at hq
    obtain ⟨hq1, hq2⟩ := hq
    simp (disch := omega) only [↓RU, RV, RH, ↓reduceIte, Nat.reduceEqDiff, reduceCtorEq, if_pos, ite_min, w64, ite_max, ↓RS, RG, Nat.reduceAdd, Nat.reduceMul, Nat.reduceLeDiff, tyLLbool, tyLbool, tybool, tyimpl_orders, tyimpl_relation, tyint, tystruct_left_impl_relation_above_impl_relation_, hq1, hq2, hl1]
    refine hK _ _ ?_
    clear hK K
    refine W.cond rfl (fun h => ?_) (fun h => ?_)
    · try simp only [RL] at h
      refine W.seq_region fun K hK => ?_
      simp (disch := omega) only [↓RU, RV, RH, ↓reduceIte, Nat.reduceEqDiff, reduceCtorEq, if_pos, ↓RS, RG, Nat.reduceAdd, Nat.reduceMul, Nat.reduceLeDiff]
      refine hK _ _ ?_
      clear hK K
      refine W.ret ?_
      refine XThen.ret ?_
      refine BodyQ.ret rfl ?_
      unfold askV
      rw [hv, hq1, hq2]
      rfl
    · try simp only [RL] at h
      exact absurd h (by simp)
  · skip
    simp only [Prod.mk.injEq] at hq
    obtain ⟨hq1, hq2⟩ := hq
    simp (disch := omega) only [↓RU, RV, RH, ↓reduceIte, Nat.reduceEqDiff, reduceCtorEq, if_pos, ite_min, w64, ite_max, ↓RS, RG, Nat.reduceAdd, Nat.reduceMul, Nat.reduceLeDiff, tyLLbool, tyLbool, tybool, tyimpl_orders, tyimpl_relation, tyint, tystruct_left_impl_relation_above_impl_relation_, hq1, hq2, hl1]
    refine hK _ _ ?_
    clear hK K
    refine W.cond rfl (fun h => ?_) (fun h => ?_)
    · try simp only [RL] at h
      refine W.seq_region fun K hK => ?_
      simp (disch := omega) only [↓RU, RV, RH, ↓reduceIte, Nat.reduceEqDiff, reduceCtorEq, if_pos, ↓RS, RG, Nat.reduceAdd, Nat.reduceMul, Nat.reduceLeDiff]
      refine hK _ _ ?_
      clear hK K
      refine W.ret ?_
      refine XThen.ret ?_
      refine BodyQ.ret rfl ?_
      unfold askV
      rw [hv, hq1, hq2]
      rfl
    · try simp only [RL] at h
      exact absurd h (by simp)

theorem lefts_asked {p : List Txt} (hs : Sm p) (a b : Int) : PC Try.prog 45 [eStrs p, .int .i64 a, .int .i64 b, .fn 46 []] (.bool (askV p (lfM p) a b)) true := by
  cases hv : plainI p with
  | false => rw [show askV p (lfM p) a b = false by unfold askV; rw [hv]; rfl]; exact asked_no hs hv a b
  | true => exact asked_yes hs hv a b (lfM_sq hv) lefts_pc

theorem orderLeft_pc {p : List Txt} (hs : Sm p) (a b : Int) : PC Try.prog 14 [eStrs p, .int .i64 a, .int .i64 b] (.bool (askV p (lfM p) a b)) true := by
  refine PC.of ⟨Try.func14, by kernel_rfl, rfl, by kernel_rfl⟩ tabOk mixed (by show 3 ≤ Try.f14.ntmps; decide) ?_
  refine W.seq_region fun K hK => ?_
  simp (disch := omega) only [↓RU, RV, RH, ↓reduceIte, Nat.reduceEqDiff, reduceCtorEq, if_pos]
  refine hK _ _ ?_
  clear hK K
  refine W.seq_region fun K hK => ?_
  simp (disch := omega) only [↓RU, RV, RH, ↓reduceIte, Nat.reduceEqDiff, reduceCtorEq, if_pos, List.append_nil]
  refine CallR.pc (lefts_asked hs a b) rfl (.inl rfl) ?_
  simp (disch := omega) only [↓RU, RV, RH, ↓reduceIte, Nat.reduceEqDiff, reduceCtorEq, if_pos, List.append_nil]
  refine hK _ _ ?_
  clear hK K
  refine W.ret ?_
  refine BodyQ.ret rfl ?_
  rfl

theorem aboves_asked {p : List Txt} (hs : Sm p) (a b : Int) : PC Try.prog 45 [eStrs p, .int .i64 a, .int .i64 b, .fn 50 []] (.bool (askV p (abM p) a b)) true := by
  cases hv : plainI p with
  | false => rw [show askV p (abM p) a b = false by unfold askV; rw [hv]; rfl]; exact asked_no hs hv a b
  | true => exact asked_yes hs hv a b (abM_sq hv) aboves_pc

theorem orderAbove_pc {p : List Txt} (hs : Sm p) (a b : Int) : PC Try.prog 17 [eStrs p, .int .i64 a, .int .i64 b] (.bool (askV p (abM p) a b)) true := by
  refine PC.of ⟨Try.func17, by kernel_rfl, rfl, by kernel_rfl⟩ tabOk mixed (by show 3 ≤ Try.f17.ntmps; decide) ?_
  refine W.seq_region fun K hK => ?_
  simp (disch := omega) only [↓RU, RV, RH, ↓reduceIte, Nat.reduceEqDiff, reduceCtorEq, if_pos]
  refine hK _ _ ?_
  clear hK K
  refine W.seq_region fun K hK => ?_
  simp (disch := omega) only [↓RU, RV, RH, ↓reduceIte, Nat.reduceEqDiff, reduceCtorEq, if_pos, List.append_nil]
  refine CallR.pc (aboves_asked hs a b) rfl (.inl rfl) ?_
  simp (disch := omega) only [↓RU, RV, RH, ↓reduceIte, Nat.reduceEqDiff, reduceCtorEq, if_pos, List.append_nil]
  refine hK _ _ ?_
  clear hK K
  refine W.ret ?_
  refine BodyQ.ret rfl ?_
  rfl

theorem planRooms_pc {p : List Txt} (hs : Sm p) (hv : floorI p = true) : PC Try.prog 16 [eStrs p] (.tup [.int .i64 (rP p).length, .bool true]) true := by
  obtain ⟨x, hx, hxy, hxr⟩ := floorOf_ex hs
  obtain rfl := hxy hv
  refine PC.of ⟨Try.func16, by kernel_rfl, rfl, by kernel_rfl⟩ tabOk mixed (by show 1 ≤ Try.f16.ntmps; decide) ?_
  refine W.seq_region fun K hK => ?_
  simp (disch := omega) only [↓RU, RV, RH, ↓reduceIte, Nat.reduceEqDiff, reduceCtorEq, if_pos, ↓RS, RG, Nat.reduceAdd, Nat.reduceMul, Nat.reduceLeDiff]
  refine hK _ _ ?_
  clear hK K
  refine W.seq_region fun K hK => ?_
  simp (disch := omega) only [↓RU, RV, RH, ↓reduceIte, Nat.reduceEqDiff, reduceCtorEq, if_pos, List.append_nil, ↓RS, RG, Nat.reduceAdd, Nat.reduceMul, Nat.reduceLeDiff, hv]
  refine CallR.pc (hx) rfl (.inr rfl) ?_
  simp (disch := omega) only [↓RU, RV, RH, ↓reduceIte, Nat.reduceEqDiff, reduceCtorEq, if_pos, List.append_nil, ↓RS, RG, Nat.reduceAdd, Nat.reduceMul, Nat.reduceLeDiff, hv]
  refine hK _ _ ?_
  clear hK K
  refine W.seq ?_
  refine W.seq_region fun K hK => ?_
  simp (disch := omega) only [↓RU, RV, RH, ↓reduceIte, Nat.reduceEqDiff, reduceCtorEq, if_pos, ↓RS, RG, Nat.reduceAdd, Nat.reduceMul, Nat.reduceLeDiff]
  refine hK _ _ ?_
  clear hK K
  refine W.cond rfl (fun h => ?_) (fun h => ?_)
  · try simp only [RL] at h
    exact absurd h (by simp)
  · try simp only [RL] at h
    refine W.skip ?_
    refine XThen.norm ?_
    refine W.seq_region fun K hK => ?_
    simp (disch := omega) only [↓RU, RV, RH, ↓reduceIte, Nat.reduceEqDiff, reduceCtorEq, if_pos, ↓RS, RG, Nat.reduceAdd, Nat.reduceMul, Nat.reduceLeDiff, tyLLint, tyLimpl_rect, tyLint, tyimpl_floor, tyimpl_grid, tyimpl_rect, tyint, tystruct_cells_impl_grid_rooms_Limpl_rect_, tystruct_row_int_col_int_high_int_wide_int_, rcs_len]
    refine hK _ _ ?_
    clear hK K
    refine W.ret ?_
    refine BodyQ.ret rfl ?_
    rfl

/-- The same by the specification. -/
def ordS (p : List Txt) (kind : Int) (a b : Int) : Bool := (plainB p && givenB p a && givenB p b) && bitOf (allS p kind) a.toNat b.toNat
theorem given_rooms {p : List Txt} {a : Int} (hp : plainB p = true) (h : givenB p a = true) : 0 ≤ a ∧ a < (rP p).length ∧ l1Rooms p = (rP p).length ∧ gridB p = true ∧ l1Rooms p ≤ 9 := by
  have hpl := plain_plan hp
  have hN := plan_named hpl
  have hr := hN.rooms
  unfold givenB at h
  simp only [Bool.and_eq_true, decide_eq_true_eq] at h
  have h9 : l1Rooms p ≤ 9 := by have := hpl; unfold planB at this; simp only [Bool.and_eq_true, decide_eq_true_eq] at this; omega
  exact ⟨h.2.1, by omega, hr, planB_grid hpl, h9⟩

theorem sOrderLeft_pc {p : List Txt} (hs : Sm p) (a b : Int) : PC Try.prog 15 [eStrs p, .int .i64 a, .int .i64 b] (.bool (ordS p 0 a b)) true := by
  refine PC.of ⟨Try.func15, by kernel_rfl, rfl, by kernel_rfl⟩ tabOk mixed (by show 3 ≤ Try.f15.ntmps; decide) ?_
  refine W.seq_region fun K hK => ?_
  simp (disch := omega) only [↓RU, RV, RH, ↓reduceIte, Nat.reduceEqDiff, reduceCtorEq, if_pos, ↓RS, RG, Nat.reduceAdd, Nat.reduceMul, Nat.reduceLeDiff]
  refine hK _ _ ?_
  clear hK K
  refine W.seq_region fun K hK => ?_
  cases hgg : (plainB p && givenB p a && givenB p b)
  · skip
    simp (disch := omega) only [↓RU, RV, RH, ↓reduceIte, Nat.reduceEqDiff, reduceCtorEq, if_pos, List.append_nil, w64, ↓RS, RG, Nat.reduceAdd, Nat.reduceMul, Nat.reduceLeDiff, tyLint, tyint, hgg]
    refine CallR.pc (l5Rooms_pc hs a b) rfl (.inl rfl) ?_
    simp (disch := omega) only [↓RU, RV, RH, ↓reduceIte, Nat.reduceEqDiff, reduceCtorEq, if_pos, List.append_nil, w64, ↓RS, RG, Nat.reduceAdd, Nat.reduceMul, Nat.reduceLeDiff, tyLint, tyint, hgg]
    refine hK _ _ ?_
    clear hK K
    refine W.ret ?_
    refine BodyQ.ret rfl ?_
    unfold ordS
    rw [hgg]
    first | rfl | (rw [Bool.true_and, Int.toNat_natCast, Int.toNat_natCast, bitOf_is hm]; rfl)
  · skip
    have hg3 := hgg
    simp only [Bool.and_eq_true] at hg3
    obtain ⟨⟨hp, hga⟩, hgb⟩ := hg3
    obtain ⟨a0, a1, hr, hg, h9⟩ := given_rooms hp hga
    obtain ⟨b0, b1, -, -, -⟩ := given_rooms hp hgb
    obtain ⟨a, rfl⟩ : ∃ a2 : Nat, a = a2 := ⟨a.toNat, by omega⟩
    obtain ⟨b, rfl⟩ : ∃ b2 : Nat, b = b2 := ⟨b.toNat, by omega⟩
    have hms := allS_msk hg h9 0
    obtain ⟨m, hm, hm5⟩ := hms.at_ (show a < (l1Rooms p).toNat by omega)
    have hml := hms.1
    simp (disch := omega) only [↓RU, RV, RH, ↓reduceIte, Nat.reduceEqDiff, reduceCtorEq, if_pos, List.append_nil, w64, ↓RS, RG, Nat.reduceAdd, Nat.reduceMul, Nat.reduceLeDiff, tyLint, tyint, hgg, hm, hml, pShr, w_bit]
    refine CallR.pc (l5Rooms_pc hs a b) rfl (.inl rfl) ?_
    simp (disch := omega) only [↓RU, RV, RH, ↓reduceIte, Nat.reduceEqDiff, reduceCtorEq, if_pos, List.append_nil, w64, ↓RS, RG, Nat.reduceAdd, Nat.reduceMul, Nat.reduceLeDiff, tyLint, tyint, hgg, hm, hml, pShr, w_bit]
    refine CallR.pc (l5All_pc hs hg h9 0) rfl (.inl rfl) ?_
    simp (disch := omega) only [↓RU, RV, RH, ↓reduceIte, Nat.reduceEqDiff, reduceCtorEq, if_pos, List.append_nil, w64, ↓RS, RG, Nat.reduceAdd, Nat.reduceMul, Nat.reduceLeDiff, tyLint, tyint, hgg, hm, hml, pShr, w_bit]
    refine hK _ _ ?_
    clear hK K
    refine W.ret ?_
    refine BodyQ.ret rfl ?_
    unfold ordS
    rw [hgg]
    first | rfl | (rw [Bool.true_and, Int.toNat_natCast, Int.toNat_natCast, bitOf_is hm]; rfl)

theorem sOrderAbove_pc {p : List Txt} (hs : Sm p) (a b : Int) : PC Try.prog 29 [eStrs p, .int .i64 a, .int .i64 b] (.bool (ordS p 1 a b)) true := by
  refine PC.of ⟨Try.func29, by kernel_rfl, rfl, by kernel_rfl⟩ tabOk mixed (by show 3 ≤ Try.f29.ntmps; decide) ?_
  refine W.seq_region fun K hK => ?_
  simp (disch := omega) only [↓RU, RV, RH, ↓reduceIte, Nat.reduceEqDiff, reduceCtorEq, if_pos, ↓RS, RG, Nat.reduceAdd, Nat.reduceMul, Nat.reduceLeDiff]
  refine hK _ _ ?_
  clear hK K
  refine W.seq_region fun K hK => ?_
  cases hgg : (plainB p && givenB p a && givenB p b)
  · skip
    simp (disch := omega) only [↓RU, RV, RH, ↓reduceIte, Nat.reduceEqDiff, reduceCtorEq, if_pos, List.append_nil, w64, ↓RS, RG, Nat.reduceAdd, Nat.reduceMul, Nat.reduceLeDiff, tyLint, tyint, hgg]
    refine CallR.pc (l5Rooms_pc hs a b) rfl (.inl rfl) ?_
    simp (disch := omega) only [↓RU, RV, RH, ↓reduceIte, Nat.reduceEqDiff, reduceCtorEq, if_pos, List.append_nil, w64, ↓RS, RG, Nat.reduceAdd, Nat.reduceMul, Nat.reduceLeDiff, tyLint, tyint, hgg]
    refine hK _ _ ?_
    clear hK K
    refine W.ret ?_
    refine BodyQ.ret rfl ?_
    unfold ordS
    rw [hgg]
    first | rfl | (rw [Bool.true_and, Int.toNat_natCast, Int.toNat_natCast, bitOf_is hm]; rfl)
  · skip
    have hg3 := hgg
    simp only [Bool.and_eq_true] at hg3
    obtain ⟨⟨hp, hga⟩, hgb⟩ := hg3
    obtain ⟨a0, a1, hr, hg, h9⟩ := given_rooms hp hga
    obtain ⟨b0, b1, -, -, -⟩ := given_rooms hp hgb
    obtain ⟨a, rfl⟩ : ∃ a2 : Nat, a = a2 := ⟨a.toNat, by omega⟩
    obtain ⟨b, rfl⟩ : ∃ b2 : Nat, b = b2 := ⟨b.toNat, by omega⟩
    have hms := allS_msk hg h9 1
    obtain ⟨m, hm, hm5⟩ := hms.at_ (show a < (l1Rooms p).toNat by omega)
    have hml := hms.1
    simp (disch := omega) only [↓RU, RV, RH, ↓reduceIte, Nat.reduceEqDiff, reduceCtorEq, if_pos, List.append_nil, w64, ↓RS, RG, Nat.reduceAdd, Nat.reduceMul, Nat.reduceLeDiff, tyLint, tyint, hgg, hm, hml, pShr, w_bit]
    refine CallR.pc (l5Rooms_pc hs a b) rfl (.inl rfl) ?_
    simp (disch := omega) only [↓RU, RV, RH, ↓reduceIte, Nat.reduceEqDiff, reduceCtorEq, if_pos, List.append_nil, w64, ↓RS, RG, Nat.reduceAdd, Nat.reduceMul, Nat.reduceLeDiff, tyLint, tyint, hgg, hm, hml, pShr, w_bit]
    refine CallR.pc (l5All_pc hs hg h9 1) rfl (.inl rfl) ?_
    simp (disch := omega) only [↓RU, RV, RH, ↓reduceIte, Nat.reduceEqDiff, reduceCtorEq, if_pos, List.append_nil, w64, ↓RS, RG, Nat.reduceAdd, Nat.reduceMul, Nat.reduceLeDiff, tyLint, tyint, hgg, hm, hml, pShr, w_bit]
    refine hK _ _ ?_
    clear hK K
    refine W.ret ?_
    refine BodyQ.ret rfl ?_
    unfold ordS
    rw [hgg]
    first | rfl | (rw [Bool.true_and, Int.toNat_natCast, Int.toNat_natCast, bitOf_is hm]; rfl)

end Fw
end Go.Proofs.Ytmhcknpjgikgmaa

/-! The framework, part z: a region in which the bytes of a text become a new row that is written later. -/
namespace Go.Proofs.Ytmhcknpjgikgmaa
namespace Fw
open Go

section
variable {P : Program} {T : Tab} {F : Nat → Prop} {G : GSt} {w : World} {e : Env} {a : Act} {F0 : Nat → Prop} {G0 : GSt} {w0 : World} {N : Nat}

theorem conv_new (hT : TabOk P T) (hi : Inv F G w) (he : EnvR w.heap F G e a) {o : Oper} {s d el : TypeId} {x : Operand} {str : List UInt8} (hop : o.op = .convert s d x) (hs : (T s).kd = .str) (hd : (T d).kd = .slice el) (hu8 : (T el).kd = .int .u8)
    (hx0 : e.ev x = .str str) (hlen63 : str.length ≤ 1048576) {K : PV → Store → Prop} (h : K (.loc G.er.obs.length G.er.tick 0 str.length) (G.er.push el 1 (str.map eB))) {next : Act → World → Prop} {Q : Exit → Act → World → Prop}
    (hk : Goes F G w K fun cv w' => next (a.put o.dst cv) w') : o.wp P a w next Q := by
  have hx := he.ev x
  rw [hx0] at hx
  obtain ⟨b, ex, hb⟩ := hx.str
  have hr : (execOp a.eval o).run P w = .ok (.value (.slice (some ⟨w.heap.size, 0, none⟩) b.size (grownCap w b.size 0 el))) (Lib.bytesWorld w el b) := by
    simp only [execOp, hop, ex]
    rw [Sem.run_bind, Lib.run_convert_string_bytes w s d el b (kd_str hT hs) (kd_slice hT hd) (kd_int hT hu8)]
    rfl
  have hlen : str.length = b.size := by rw [← hb]; simp
  have hsz : (Lib.bytesWorld w el b).heap.size = w.heap.size + 1 := Lib.bytesWorld_size w el b
  have hge := grownCap_ge w b.size 0 el
  have hcs : (Lib.bytesCells w el b).size = grownCap w b.size 0 el := by
    simp [Lib.bytesCells]; omega
  have hpush : (Lib.bytesWorld w el b).heap = w.heap.push (.cells (Lib.bytesCells w el b) el ((Lib.bytesCells w el b).size, (Lib.bytesCells w el b).size + 1)) := by
    apply Array.ext_getElem?
    intro j
    rw [Array.getElem?_push]
    by_cases hj : j = w.heap.size
    · subst hj; rw [if_pos rfl]; exact Lib.bytesWorld_at_new w el b
    · rw [if_neg hj]
      by_cases hj2 : j < w.heap.size
      · exact Lib.bytesWorld_at_old w el b j hj2
      · rw [Array.getElem?_eq_none (by omega), Array.getElem?_eq_none (by omega)]
  obtain ⟨k1, k2⟩ := push_obj hi (.arr G.tick el 1 (str.map eB)) (Lib.bytesCells w el b).size (Lib.bytesWorld w el b) (w.drawn + 1) rfl ⟨_, hpush⟩ rfl
    ⟨_, ⟨_, Lib.bytesWorld_at_new w el b, .inr (Nat.le_refl _)⟩, rfl, by show (str.map eB).length ≤ (Lib.bytesCells w el b).size; rw [List.length_map, hcs]; omega, fun i p hp => by
      have hil : i < str.length := by have := (List.getElem?_eq_some_iff.1 hp).1; simpa using this
      rw [List.getElem?_map, List.getElem?_eq_getElem hil] at hp
      cases hp
      refine ⟨rfl, .int .u8 (str[i].toNat : Int), ?_, .imm _ _ (.int _ _)⟩
      have := Lib.bytesWorld_cell w el b i (by omega)
      simp only [World.cell?, Lib.bytesWorld_at_new, Option.isSome_none, Bool.false_eq_true, if_false] at this
      rw [this, hb, List.getD_eq_getElem?_getD, List.getElem?_eq_getElem hil]
      rfl⟩
  unfold Oper.wp
  rw [hr]
  refine hk (.loc G.er.obs.length G.er.tick 0 str.length) _ _ _ _ (by rw [er_push]; exact h) k1 k2 ?_
  rw [hlen]
  exact new_loc (et := el) (sz := 1) (cells := str.map eB) (l := ⟨w.heap.size, (Lib.bytesCells w el b).size⟩) _ _ _ (by simp) (Nat.lt_succ_self _) rfl hge (grownCap_le_maxLen w _ _ _ (by unfold maxLen; omega)) (by rw [Nat.mul_one]; exact hcs.symm)

/-- Operations in order; the one at place k turns a text into a new row of bytes. -/
def pOpsT (P : Program) (T : Tab) (ops : Array Oper) (Q : Env → Store → Prop) : Nat → List Oper → Env → Store → Prop
  | _, [], e, S => Q e S
  | 0, o :: l, e, S => ∃ (s d el : TypeId) (x : Operand) (str : List UInt8), o.guard = none ∧ o.op = .convert s d x ∧ (T s).kd = .str ∧ (T d).kd = .slice el ∧ (T el).kd = .int .u8 ∧ e.ev x = .str str ∧ str.length ≤ 1048576 ∧
      pOps P T ops Q l (e.put o.dst (.loc S.obs.length S.tick 0 str.length)) (S.push el 1 (str.map eB))
  | k + 1, o :: l, e, S => o.guard = none ∧ pOp P T e S o.op fun v S' => pOpsT P T ops Q k l (e.put o.dst v) S'
theorem pOpsT_sound (hT : TabOk P T) {ops : Array Oper} {Q : Env → Store → Prop} : ∀ (k : Nat) (l : List Oper) {e : Env} {F : Nat → Prop} {G : GSt} {a : Act} {w : World}, pOpsT P T ops Q k l e G.er → Inv F G w → EnvR w.heap F G e a →
    Next F0 G0 w0 F G w → a.tmps.size = N → a.defers = [] → (∀ o ∈ l, ∀ d, o.dst = some d → d < N) → wpList P ops (Sto F0 G0 w0 N (Nrm Q)) l a w
  | _, [], e, F, G, a, w, h, hi, he, hn, hs, hd, _ => by
    have h' : Q e G.er := by unfold pOpsT at h; exact h
    exact ⟨e, F, G, h', hi, he, hn, hs, hd⟩
  | 0, o :: l, e, F, G, a, w, h, hi, he, hn, hs, hd, hdst => by
    have ho : ∀ t, o.dst = some t → t < a.tmps.size := fun t ht => by rw [hs]; exact hdst o (by simp) t ht
    have hl : ∀ o ∈ l, ∀ d, o.dst = some d → d < N := fun o' h' => hdst o' (by simp [h'])
    unfold pOpsT at h
    obtain ⟨s, d, el, x, str, hg, hop, q1, q2, q3, q4, q5, h⟩ := h
    unfold wpList
    have hw : Region.wanted o (yielded ops a.tmps) = true := by unfold Region.wanted; rw [hg]
    rw [if_pos hw]
    refine .inl (conv_new hT hi he hop q1 q2 q3 q4 q5 (K := fun v S' => v = .loc G.er.obs.length G.er.tick 0 str.length ∧ S' = G.er.push el 1 (str.map eB)) ⟨rfl, rfl⟩ ?_)
    rintro v cv F' G' w' ⟨rfl, hE⟩ i1 i2 i3
    refine pOps_sound hT l (by rw [hE]; exact h) i1 ((he.next hi i2).put _ ho i3) (hn.trans i2) (by rw [put_size]; exact hs) (by rw [put_defers']; exact hd) hl
  | k + 1, o :: l, e, F, G, a, w, h, hi, he, hn, hs, hd, hdst => by
    have ho : ∀ t, o.dst = some t → t < a.tmps.size := fun t ht => by rw [hs]; exact hdst o (by simp) t ht
    have hl : ∀ o ∈ l, ∀ d, o.dst = some d → d < N := fun o' h' => hdst o' (by simp [h'])
    unfold pOpsT at h
    obtain ⟨hg, h⟩ := h
    unfold wpList
    have hw : Region.wanted o (yielded ops a.tmps) = true := by unfold Region.wanted; rw [hg]
    rw [if_pos hw]
    refine .inl (op_sound hT hi he h ?_)
    intro v cv F' G' w' hK i1 i2 i3
    exact pOpsT_sound hT k l hK i1 ((he.next hi i2).put _ ho i3) (hn.trans i2) (by rw [put_size]; exact hs) (by rw [put_defers']; exact hd) hl

end
section
variable {P : Program} {T : Tab} {Q : Exit → Env → Store → Prop} {e : Env} {S : Store} {b : Code}
theorem W.region_t (k : Nat) {id : Nat} {ops : Array Oper} (h : pOpsT P T ops (Q .normal) k ops.toList e S) : W P T (.region id ops false) Q e S := by
  refine ⟨?_⟩
  intro hT hm F0 G0 w0 N F G a w h3 h4 h5 h6 h7 h8 h9
  subst h3
  refine wp_mono (wp_region_list (pOpsT_sound hT k _ h h4 h5 h6 h7 h8 (dst_all h9))) ?_
  exact nrm_le
/-- The operation that makes the new row, and those behind it. -/
def ThawR (P : Program) (T : Tab) (ds : List (Option Tmp)) (o : Oper) (l : List Oper) (e : Env) (S : Store) (K : Env → Store → Prop) : Prop :=
  ∃ (s d el : TypeId) (x : Operand) (str : List UInt8), o.guard = none ∧ o.op = .convert s d x ∧ (T s).kd = .str ∧ (T d).kd = .slice el ∧ (T el).kd = .int .u8 ∧ e.ev x = .str str ∧ str.length ≤ 1048576 ∧
    eRun false P T ds l (e.put o.dst (.loc S.obs.length S.tick 0 str.length)) (S.push el 1 (str.map eB)) K
theorem pOps_mono {ops : Array Oper} {K K' : Env → Store → Prop} (h : ∀ e S, K e S → K' e S) : ∀ (l : List Oper) {e : Env} {S : Store}, pOps P T ops K l e S → pOps P T ops K' l e S
  | [], e, S, k => h e S k
  | o :: l, e, S, k => by
    unfold pOps pGuard at k ⊢
    cases hg : gdec ops o e with
    | none => rw [hg] at k; exact k.elim
    | some b =>
      rw [hg] at k
      cases b with
      | true => exact pOp_mono (fun v S' k => pOps_mono h l k) k
      | false => exact pOps_mono h l k
theorem pOps_thaw {ops : Array Oper} {K : Env → Store → Prop} {o : Oper} {l2 : List Oper} : ∀ (l1 : List Oper) {e : Env} {S : Store}, l1.all (fun o => o.guard.isNone) = true →
    pOps P T ops (fun e S => ∃ (s d el : TypeId) (x : Operand) (str : List UInt8), o.guard = none ∧ o.op = .convert s d x ∧ (T s).kd = .str ∧ (T d).kd = .slice el ∧ (T el).kd = .int .u8 ∧ e.ev x = .str str ∧ str.length ≤ 1048576 ∧
      pOps P T ops K l2 (e.put o.dst (.loc S.obs.length S.tick 0 str.length)) (S.push el 1 (str.map eB))) l1 e S → pOpsT P T ops K l1.length (l1 ++ o :: l2) e S
  | [], e, S, _, h => h
  | q :: l1, e, S, hg, h => by
    simp only [List.all_cons, Bool.and_eq_true, Option.isNone_iff_eq_none] at hg
    show q.guard = none ∧ _
    refine ⟨hg.1, ?_⟩
    unfold pOps pGuard gdec at h
    rw [hg.1] at h
    exact pOp_mono (fun v S' h => pOps_thaw l1 hg.2 h) h
theorem W.seq_thaw {id : Nat} {l1 l2 : List Oper} {o : Oper} (hg : l1.all (fun o => o.guard.isNone) = true) (h : ∀ K : Env → Store → Prop, (∀ e S, W P T b Q e S → K e S) → eRun false P T (dsts (l1 ++ o :: l2)) l1 e S fun e S => ThawR P T (dsts (l1 ++ o :: l2)) o l2 e S K) :
    W P T (.seq (.region id (l1 ++ o :: l2).toArray false) b) Q e S := by
  refine W.seq (W.region_t l1.length ?_)
  have h1 := eRun_pOps l1 e S (h _ fun _ _ h => h)
  refine pOps_thaw l1 hg (pOps_mono ?_ l1 h1)
  rintro e S ⟨s, d, el, x, str, q1, q2, q3, q4, q5, q6, q7, q8⟩
  exact ⟨s, d, el, x, str, q1, q2, q3, q4, q5, q6, q7, eRun_pOps l2 _ _ q8⟩
end
end Fw
end Go.Proofs.Ytmhcknpjgikgmaa

/-! Drawing: the reader, gone through. -/
namespace Go.Proofs.Ytmhcknpjgikgmaa
namespace Fw
open Go

abbrev eBy (l : Txt) : PV := .sl (l.map eB) l.length
theorem tmod_nn {a b : Nat} : ((a : Nat) : Int).tmod ((b : Nat) : Int) = ((a % b : Nat) : Int) := (Int.ofNat_tmod a b).symm
theorem tdiv_nn {a b : Nat} : ((a : Nat) : Int).tdiv ((b : Nat) : Int) = ((a / b : Nat) : Int) := (Int.ofNat_tdiv a b).symm
theorem w_xor {a b : Nat} (ha : a < 1099511627776) (hb : b < 1099511627776) : IntKind.i64.wrap ((BitVec.ofInt IntKind.i64.bits (a : Int) ^^^ BitVec.ofInt IntKind.i64.bits (b : Int)).toNat : Int) = ((a ^^^ b : Nat) : Int) := by
  have h1 : (BitVec.ofInt 64 (a : Int)).toNat = a := by simp [BitVec.toNat_ofInt]; omega
  have h2 : (BitVec.ofInt 64 (b : Int)).toNat = b := by simp [BitVec.toNat_ofInt]; omega
  have h3 : (BitVec.ofInt IntKind.i64.bits (a : Int) ^^^ BitVec.ofInt IntKind.i64.bits (b : Int)).toNat = a ^^^ b := by
    show (BitVec.ofInt 64 (a : Int) ^^^ BitVec.ofInt 64 (b : Int)).toNat = _
    rw [BitVec.toNat_xor, h1, h2]
  have h4 : a ^^^ b < 1099511627776 := Nat.xor_lt_two_pow (n := 40) ha hb
  rw [h3]
  exact w64 (by omega) (by omega)
theorem tdiv64 {k : Nat} : ((k : Nat) : Int).tdiv 64 = ((k / 64 : Nat) : Int) := (Int.ofNat_tdiv k 64).symm
theorem sf0 : ((64 : Int) = 0) = False := by simp
def rdO (vr : Nat) (code : Txt) (q : Nat) : Ob := .arr vr 111 2 [eBy code, .int .i64 (q : Int)]
theorem at_byte {l : Txt} {i : Nat} {c : UInt8} (h : l[i]? = some c) : (l.map eB)[i]? = some (eB c) := by simp [h]

theorem l6Open_pn {code : Txt} (hc : code.length ≤ 1048576) : PN Try.prog 72 [eBy code] (.ref 0 0 0) [rdO 0 (code.take 2000) 0] true := by
  refine PN.of ⟨Try.func72, by kernel_rfl, rfl, by kernel_rfl⟩ tabOk mixed (by show 1 ≤ Try.f72.ntmps; decide) ?_
  refine W.seq_region fun K hK => ?_
  simp (disch := omega) only [↓RU, RV, RH, ↓reduceIte, Nat.reduceEqDiff, reduceCtorEq, if_pos, ↓RS, RG, Nat.reduceAdd, Nat.reduceMul, Nat.reduceLeDiff]
  refine hK _ _ ?_
  clear hK K
  refine W.seq ?_
  refine W.seq_region fun K hK => ?_
  simp (disch := omega) only [↓RU, RV, RH, ↓reduceIte, Nat.reduceEqDiff, reduceCtorEq, if_pos, w64, ↓RS, RG, Nat.reduceAdd, Nat.reduceMul, Nat.reduceLeDiff, tyLuint8, tyint, tyuint8]
  refine hK _ _ ?_
  clear hK K
  refine W.cond rfl (fun h => ?_) (fun h => ?_)
  · try simp only [RL] at h
    refine W.region_k fun K hK => ?_
    simp (disch := omega) only [↓RU, RV, RH, ↓reduceIte, Nat.reduceEqDiff, reduceCtorEq, if_pos, Option.map_none, ↓RS, RG, Nat.reduceAdd, Nat.reduceMul, Nat.reduceLeDiff, tyLuint8, tyuint8]
    refine hK _ _ ?_
    clear hK K
    refine XThen.norm ?_
    refine W.seq_region fun K hK => ?_
    simp (disch := omega) only [↓RU, RV, RH, ↓reduceIte, Nat.reduceEqDiff, reduceCtorEq, if_pos, ↓RS, RG, Nat.reduceAdd, Nat.reduceMul, Nat.reduceLeDiff, tyLuint8, tyint, tyspec_l6Rd, tystruct_b_Luint8_p_int_, tyuint8]
    refine hK _ _ ?_
    clear hK K
    refine W.ret ?_
    refine BodyQ.ret rfl ?_
    have e : (code.take 2000).length = 2000 := by rw [List.length_take]; omega
    refine ⟨1, rfl, ?_⟩
    simp [Store.take, shObs, shOb, sh, rdO, eBy, e, List.map_take]
  · try simp only [RL] at h
    refine W.skip ?_
    refine XThen.norm ?_
    refine W.seq_region fun K hK => ?_
    simp (disch := omega) only [↓RU, RV, RH, ↓reduceIte, Nat.reduceEqDiff, reduceCtorEq, if_pos, ↓RS, RG, Nat.reduceAdd, Nat.reduceMul, Nat.reduceLeDiff, tyLuint8, tyint, tyspec_l6Rd, tystruct_b_Luint8_p_int_, tyuint8]
    refine hK _ _ ?_
    clear hK K
    refine W.ret ?_
    refine BodyQ.ret rfl ?_
    have e : code.take 2000 = code := List.take_of_length_le (by omega)
    refine ⟨1, rfl, ?_⟩
    simp [Store.take, shObs, shOb, sh, rdO, eBy, e]

theorem pick_ev0 {code : Txt} {q vr t : Nat} {R : List Ob} (hc : code.length ≤ 1048576) (hq : q ≤ 1000000) (n : Int) (hn : n ≤ 1000000) (hn0 : -1000000 ≤ n) : Ev Try.prog 74 [.ref 0 vr 0, .int .i64 n] ⟨.arr vr 111 2 [eBy code, .int .i64 (q : Int)] :: R, t⟩ fun v S => ∃ k : Nat, v = .int .i64 (k : Int) ∧ (n < 1 → k = 0) ∧ (1 ≤ n → (k : Int) < n) ∧ S = ⟨.arr vr 111 2 [eBy code, .int .i64 ((q : Int) + 1)] :: R, t⟩ := by
  refine Ev.of ⟨Try.func74, by kernel_rfl, rfl, by kernel_rfl⟩ tabOk mixed (by show 2 ≤ Try.f74.ntmps; decide) ?_
  refine W.seq_region fun K hK => ?_
  simp (disch := omega) only [↓RU, RV, RH, ↓reduceIte, Nat.reduceEqDiff, reduceCtorEq, if_pos, ↓RS, RG, Nat.reduceAdd, Nat.reduceMul, Nat.reduceLeDiff]
  refine hK _ _ ?_
  clear hK K
  refine W.seq_region fun K hK => ?_
  simp (disch := omega) only [↓RU, RV, RH, ↓reduceIte, Nat.reduceEqDiff, reduceCtorEq, if_pos, w64, ↓RS, RG, Nat.reduceAdd, Nat.reduceMul, Nat.reduceLeDiff, tyLuint8, tyint, tyspec_l6Rd, tystruct_b_Luint8_p_int_, tyuint8]
  refine hK _ _ ?_
  clear hK K
  refine W.seq ?_
  refine W.seq_region fun K hK => ?_
  by_cases hn1 : n < 1
  · skip
    have hd : decide (n < 1) = true := decide_eq_true hn1
    simp (disch := omega) only [↓RU, RV, RH, ↓reduceIte, Nat.reduceEqDiff, reduceCtorEq, if_pos, w64, ↓RS, RG, Nat.reduceAdd, Nat.reduceMul, Nat.reduceLeDiff, tyLuint8, tyint, tyspec_l6Rd, tystruct_b_Luint8_p_int_, tyuint8, hd]
    refine hK _ _ ?_
    clear hK K
    refine W.cond rfl (fun h0 => ?_) (fun h0 => ?_)
    · try simp only [RL] at h0
      refine W.seq_region fun K hK => ?_
      simp (disch := omega) only [↓RU, RV, RH, ↓reduceIte, Nat.reduceEqDiff, reduceCtorEq, if_pos, ↓RS, RG, Nat.reduceAdd, Nat.reduceMul, Nat.reduceLeDiff]
      refine hK _ _ ?_
      clear hK K
      refine W.ret ?_
      refine XThen.ret ?_
      refine BodyQ.ret rfl ?_
      exact ⟨_, 0, rfl, fun _ => rfl, fun h9 => by omega, take_all⟩
    · try simp only [RL] at h0
      exact absurd h0 (by simp)
  · skip
    have hd : decide (n < 1) = false := decide_eq_false hn1
    obtain ⟨m, rfl⟩ : ∃ m : Nat, n = m := ⟨n.toNat, by omega⟩
    simp (disch := omega) only [↓RU, RV, RH, ↓reduceIte, Nat.reduceEqDiff, reduceCtorEq, if_pos, w64, ↓RS, RG, Nat.reduceAdd, Nat.reduceMul, Nat.reduceLeDiff, tyLuint8, tyint, tyspec_l6Rd, tystruct_b_Luint8_p_int_, tyuint8, hd]
    refine hK _ _ ?_
    clear hK K
    refine W.cond rfl (fun h0 => ?_) (fun h0 => ?_)
    · try simp only [RL] at h0
      have hl0 : code.length = 0 := by simpa using h0
      refine W.seq_region fun K hK => ?_
      simp (disch := omega) only [↓RU, RV, RH, ↓reduceIte, Nat.reduceEqDiff, reduceCtorEq, if_pos, ↓RS, RG, Nat.reduceAdd, Nat.reduceMul, Nat.reduceLeDiff]
      refine hK _ _ ?_
      clear hK K
      refine W.ret ?_
      refine XThen.ret ?_
      refine BodyQ.ret rfl ?_
      exact ⟨_, 0, rfl, fun _ => rfl, fun h9 => by omega, take_all⟩
    · try simp only [RL] at h0
      have hl0 : code.length ≠ 0 := by intro h9; rw [h9] at h0; simp at h0
      obtain ⟨L, hL⟩ : ∃ L : Nat, code.length = L := ⟨_, rfl⟩
      have hLi : ((L : Int) = 0) = False := by simp; omega
      have hmi : ((m : Int) = 0) = False := by simp; omega
      rw [hL] at hl0 hc
      refine W.skip ?_
      refine XThen.norm ?_
      refine W.seq_region fun K hK => ?_
      simp (disch := omega) only [↓RU, RV, RH, ↓reduceIte, Nat.reduceEqDiff, reduceCtorEq, if_pos, w64, ↓RS, RG, Nat.reduceAdd, Nat.reduceMul, Nat.reduceLeDiff, tyLuint8, tyint, tyspec_l6Rd, tystruct_b_Luint8_p_int_, tyuint8]
      refine hK _ _ ?_
      clear hK K
      simp only [show ((q : Int) + 1 - 1) = (q : Int) from by omega]
      refine W.seq ?_
      refine W.seq_region fun K hK => ?_
      simp (disch := omega) only [↓RU, RV, RH, ↓reduceIte, Nat.reduceEqDiff, reduceCtorEq, if_pos, w64, ↓RS, RG, Nat.reduceAdd, Nat.reduceMul, Nat.reduceLeDiff, tyLuint8, tyint, tyspec_l6Rd, tystruct_b_Luint8_p_int_, tyuint8, hL]
      refine hK _ _ ?_
      clear hK K
      refine W.cond rfl (fun h1 => ?_) (fun h1 => ?_)
      · try simp only [RL] at h1
        obtain ⟨c, hcq, -⟩ := get_of (show q < code.length by omega)
        have hc8 := c.toNat_lt
        refine W.seq_region fun K hK => ?_
        simp (disch := omega) only [↓RU, RV, RH, ↓reduceIte, Nat.reduceEqDiff, reduceCtorEq, if_pos, w64, w64, ↓RS, RG, Nat.reduceAdd, Nat.reduceMul, Nat.reduceLeDiff, tyLuint8, tyint, tyspec_l6Rd, tystruct_b_Luint8_p_int_, tyuint8, hcq, hmi, tmod_nn]
        refine hK _ _ ?_
        clear hK K
        refine W.ret ?_
        refine XThen.ret ?_
        refine BodyQ.ret rfl ?_
        exact ⟨_, _, rfl, fun h9 => by omega, fun _ => by have := Nat.mod_lt c.toNat (show 0 < m by omega); omega, take_all⟩
      · try simp only [RL] at h1
        obtain ⟨c1, hc1, -⟩ := get_of (show q % L < code.length by rw [hL]; exact Nat.mod_lt _ (by omega))
        obtain ⟨c2, hc2, -⟩ := get_of (show (q * 7 + 3) % L < code.length by rw [hL]; exact Nat.mod_lt _ (by omega))
        have hb1 := c1.toNat_lt
        have hb2 := c2.toNat_lt
        have hq7 : (q : Int) * 7 + 3 = ((q * 7 + 3 : Nat) : Int) := by omega
        obtain ⟨d, hd⟩ : ∃ d, q / L = d := ⟨_, rfl⟩
        have hqL : d ≤ q := hd ▸ Nat.div_le_self _ _
        have hml1 := Nat.mod_lt q (show 0 < L by omega)
        have hml2 := Nat.mod_lt (q * 7 + 3) (show 0 < L by omega)
        refine W.skip ?_
        refine XThen.norm ?_
        refine W.seq_draw (by kernel_rfl) fun K hK => ?_
        simp (disch := omega) only [↓RU, RV, RH, ↓reduceIte, Nat.reduceEqDiff, reduceCtorEq, if_pos, w64, w64, ↓RS, RG, Nat.reduceAdd, Nat.reduceMul, Nat.reduceLeDiff, tyLuint8, tyint, tyspec_l6Rd, tystruct_b_Luint8_p_int_, tyuint8, hL, hLi, tmod_nn, tdiv_nn, hc1, hc2, hq7, hd]
        refine hK _ _ ?_
        clear hK K
        obtain ⟨Y, hY⟩ : ∃ Y : Nat, (c1.toNat : Int) * 131 + (c2.toNat : Int) * 1117 + (q : Int) * 29 + (d : Int) * 53 = Y := ⟨c1.toNat * 131 + c2.toNat * 1117 + q * 29 + d * 53, by omega⟩
        have hYb : Y < 1099511627776 := by omega
        have hYd : Y / 64 < 1099511627776 := by omega
        simp only [hY]
        refine W.seq_region fun K hK => ?_
        simp (disch := omega) only [↓RU, RV, RH, ↓reduceIte, Nat.reduceEqDiff, reduceCtorEq, if_pos, w64, ↓RS, RG, Nat.reduceAdd, Nat.reduceMul, Nat.reduceLeDiff, tyint, sf0, tdiv64, w_xor hYb hYd]
        refine hK _ _ ?_
        clear hK K
        refine W.seq_region fun K hK => ?_
        simp (disch := omega) only [↓RU, RV, RH, ↓reduceIte, Nat.reduceEqDiff, reduceCtorEq, if_pos, w64, ↓RS, RG, Nat.reduceAdd, Nat.reduceMul, Nat.reduceLeDiff, tyint, hmi, tmod_nn]
        refine hK _ _ ?_
        clear hK K
        refine W.ret ?_
        refine BodyQ.ret rfl ?_
        exact ⟨_, _, rfl, fun h9 => by omega, fun _ => by have := Nat.mod_lt (Y ^^^ Y / 64) (show 0 < m by omega); omega, take_all⟩

end Fw
end Go.Proofs.Ytmhcknpjgikgmaa

/-! Plans cut in two, gone through. -/
namespace Go.Proofs.Ytmhcknpjgikgmaa
namespace Fw
open Go

theorem set_eB {l : Txt} {a : Nat} {c : UInt8} : (l.map eB).set a (.int .u8 (c.toNat : Int)) = (l.set a c).map eB := by rw [List.map_set]
theorem bytesOf_eB (l : Txt) : bytesOf (l.map eB) = some l := bytesOf_map l

theorem l1None_pc  : PC Try.prog 157 [] (.tup [eStrs [], .bool false]) true := by
  refine PC.of ⟨Try.func157, by kernel_rfl, rfl, by kernel_rfl⟩ tabOk mixed (by show 0 ≤ Try.f157.ntmps; decide) ?_
  refine W.seq_region fun K hK => ?_
  simp (disch := omega) only [↓RU, RV, RH, ↓reduceIte, Nat.reduceEqDiff, reduceCtorEq, if_pos, ↓RS, RG, Nat.reduceAdd, Nat.reduceMul, Nat.reduceLeDiff]
  refine hK _ _ ?_
  clear hK K
  refine W.seq_region fun K hK => ?_
  simp (disch := omega) only [↓RU, RV, RH, ↓reduceIte, Nat.reduceEqDiff, reduceCtorEq, if_pos, ↓RS, RG, Nat.reduceAdd, Nat.reduceMul, Nat.reduceLeDiff, tyLstring, tystring]
  refine hK _ _ ?_
  clear hK K
  refine W.ret ?_
  refine BodyQ.ret rfl ?_
  exact reify_tup2 (k := 9) (reify_loc (k := 8) (n := 0) rfl rfl rfl) rfl

theorem l1Put_pc {p : List Txt} (hs : Sm p) {tp lf hg wd : Nat} {c : UInt8} (h1 : tp + hg ≤ p.length) (h2 : ∀ row ∈ p, lf + wd ≤ row.length) : PC Try.prog 159 [eStrs p, .int .i64 tp, .int .i64 lf, .int .i64 hg, .int .i64 wd, eB c] (eStrs (putTo p tp lf wd c (tp + hg))) true := by
  obtain ⟨hs1, hs2⟩ := hs
  refine PC.of ⟨Try.func159, by kernel_rfl, rfl, by kernel_rfl⟩ tabOk mixed (by show 6 ≤ Try.f159.ntmps; decide) ?_
  refine W.seq_region fun K hK => ?_
  simp (disch := omega) only [↓RU, RV, RH, ↓reduceIte, Nat.reduceEqDiff, reduceCtorEq, if_pos, ↓RS, RG, Nat.reduceAdd, Nat.reduceMul, Nat.reduceLeDiff]
  refine hK _ _ ?_
  clear hK K
  refine W.seq_region fun K hK => ?_
  simp (disch := omega) only [↓RU, RV, RH, ↓reduceIte, Nat.reduceEqDiff, reduceCtorEq, if_pos, ↓RS, RG, Nat.reduceAdd, Nat.reduceMul, Nat.reduceLeDiff, tyLstring, tystring]
  refine hK _ _ ?_
  clear hK K
  refine W.seq ?_
  refine W.seq_region fun K hK => ?_
  simp (disch := omega) only [↓RU, RV, RH, ↓reduceIte, Nat.reduceEqDiff, reduceCtorEq, if_pos, ↓RS, RG, Nat.reduceAdd, Nat.reduceMul, Nat.reduceLeDiff]
  refine hK _ _ ?_
  clear hK K
  refine W.block ?_
  refine W.loop [0, 1, 2, 3, 4, 5, 13, 14] (fun n vs S => ∃ j t v : Nat, n = hg - j ∧ j ≤ hg ∧ vs = [eStrs p, .int .i64 tp, .int .i64 lf, .int .i64 hg, .int .i64 wd, eB c, .loc 0 v 0 p.length, .int .i64 ((tp + j : Nat) : Int)] ∧ S = ⟨[.arr v 9 1 ((putTo p tp lf wd c (tp + j)).map .str)], t⟩) hg ?_ ?_
  · refine ⟨1, 0, 2, 1, rfl, by omega, ?_, ?_⟩
    · simp [Env.put, Env.of, argEnv]
    · simp [take_eq, putTo_zero]
  rintro n vs S - ⟨j, t, v, rfl, h_j, rfl, rfl⟩
  refine W.seq ?_
  refine W.seq_region fun K hK => ?_
  simp (disch := omega) only [↓RU, RV, RH, ↓reduceIte, Nat.reduceEqDiff, reduceCtorEq, if_pos, w64, ↓RS, RG, Nat.reduceAdd, Nat.reduceMul, Nat.reduceLeDiff, tyint]
  refine hK _ _ ?_
  clear hK K
  refine W.cond rfl (fun h => ?_) (fun h => ?_)
  · try simp only [RL] at h
    obtain ⟨i, hi⟩ : ∃ i, tp + j = i := ⟨_, rfl⟩
    simp only [hi]
    obtain ⟨row, hrow0, hrm⟩ := get_of (show i < p.length by omega)
    have hrow := putTo_at (t := tp) (l := lf) (w := wd) (c := c) hrow0
    have hlen := putTo_len (p := p) (t := tp) (l := lf) (w := wd) (c := c) (i := i)
    have hr1 := hs2 row hrm
    have hr2 := h2 row hrm
    refine W.skip ?_
    refine XThen.norm ?_
    refine W.seq ?_
    refine W.block ?_
    refine W.seq_thaw (l1 := [_, _, _, _]) (o := _) (l2 := [_]) rfl fun K hK => ?_
    simp (disch := omega) only [↓RU, RV, RH, ↓reduceIte, Nat.reduceEqDiff, reduceCtorEq, if_pos, w64, ↓RS, RG, Nat.reduceAdd, Nat.reduceMul, Nat.reduceLeDiff, tyLstring, tyLuint8, tystring, tyuint8, hrow, hlen]
    refine ⟨_, _, _, _, _, rfl, rfl, rfl, rfl, rfl, rfl, by omega, ?_⟩
    simp (disch := omega) only [↓RU, RV, RH, ↓reduceIte, Nat.reduceEqDiff, reduceCtorEq, if_pos, w64, ↓RS, RG, Nat.reduceAdd, Nat.reduceMul, Nat.reduceLeDiff, tyLstring, tyLuint8, tystring, tyuint8, hrow, hlen]
    refine hK _ _ ?_
    clear hK K
    refine W.seq ?_
    refine W.seq_region fun K hK => ?_
    simp (disch := omega) only [↓RU, RV, RH, ↓reduceIte, Nat.reduceEqDiff, reduceCtorEq, if_pos, ↓RS, RG, Nat.reduceAdd, Nat.reduceMul, Nat.reduceLeDiff]
    refine hK _ _ ?_
    clear hK K
    refine W.block ?_
    refine W.loop [0, 1, 2, 3, 4, 5, 13, 14, 15, 16] (fun n vs S => ∃ k t2 : Nat, n = wd - k ∧ k ≤ wd ∧ vs = [eStrs p, .int .i64 tp, .int .i64 lf, .int .i64 hg, .int .i64 wd, eB c, .loc 0 v 0 p.length, .int .i64 (i : Int), .loc 1 t 0 row.length, .int .i64 ((lf + k : Nat) : Int)] ∧ S = ⟨[.arr v 9 1 ((putTo p tp lf wd c i).map .str), .arr t 5 1 ((rowPut row lf c (lf + k)).map eB)], t2⟩) wd ?_ ?_
    · refine ⟨2, 0, t + 1, rfl, by omega, ?_, ?_⟩
      · simp [Env.put, Env.of]
      · simp [take_eq, rowPut_zero]
    rintro n vs S - ⟨k, t2, rfl, h_k, rfl, rfl⟩
    refine W.seq ?_
    refine W.seq_region fun K hK => ?_
    simp (disch := omega) only [↓RU, RV, RH, ↓reduceIte, Nat.reduceEqDiff, reduceCtorEq, if_pos, w64, ↓RS, RG, Nat.reduceAdd, Nat.reduceMul, Nat.reduceLeDiff, tyint]
    refine hK _ _ ?_
    clear hK K
    refine W.cond rfl (fun h3 => ?_) (fun h3 => ?_)
    · try simp only [RL] at h3
      have hrl := rowPut_len (row := row) (l := lf) (k := lf + k) (c := c)
      refine W.skip ?_
      refine XThen.norm ?_
      refine W.seq ?_
      refine W.block ?_
      refine W.region_k fun K hK => ?_
      simp (disch := omega) only [↓RU, RV, RH, ↓reduceIte, Nat.reduceEqDiff, reduceCtorEq, if_pos, ↓RS, RG, Nat.reduceAdd, Nat.reduceMul, Nat.reduceLeDiff, tyLuint8, tyuint8, hrl, set_spl, set_eB]
      refine hK _ _ ?_
      clear hK K
      refine XBlock.norm ?_
      refine XThen.norm ?_
      refine W.region_k fun K hK => ?_
      simp (disch := omega) only [↓RU, RV, RH, ↓reduceIte, Nat.reduceEqDiff, reduceCtorEq, if_pos, w64, ↓RS, RG, Nat.reduceAdd, Nat.reduceMul, Nat.reduceLeDiff, tyint]
      refine hK _ _ ?_
      clear hK K
      refine XThen.norm ?_
      refine ⟨wd - (k + 1), by omega, 2, k + 1, t2, rfl, by omega, ?_, ?_⟩
      · simp [Env.put, Env.of]; omega
      · simp only [take_eq]; rw [rowPut_succ (by omega) (by omega)]; rfl
    · try simp only [RL] at h3
      obtain rfl : k = wd := by omega
      have hrl := rowPut_len (row := row) (l := lf) (k := lf + k) (c := c)
      have htk : ((rowPut row lf c (lf + k)).map eB).take row.length = (rowPut row lf c (lf + k)).map eB := List.take_of_length_le (by simp [hrl])
      refine W.exit ?_
      refine XThen.exit ?_
      refine XThen.exit ?_
      refine XBlock.hit ?_
      refine XThen.norm ?_
      refine W.region_k fun K hK => ?_
      simp (disch := omega) only [↓RU, RV, RH, ↓reduceIte, Nat.reduceEqDiff, reduceCtorEq, if_pos, w64, ↓RS, RG, Nat.reduceAdd, Nat.reduceMul, Nat.reduceLeDiff, tyLstring, tyLuint8, tystring, tyuint8, hrl, htk, bytesOf_eB, hlen, set_spl, set_str, cells_str, List.length_cons, List.length_nil, Option.map_some]
      refine hK _ _ ?_
      clear hK K
      refine XBlock.norm ?_
      refine XThen.norm ?_
      refine W.region_k fun K hK => ?_
      simp (disch := omega) only [↓RU, RV, RH, ↓reduceIte, Nat.reduceEqDiff, reduceCtorEq, if_pos, w64, ↓RS, RG, Nat.reduceAdd, Nat.reduceMul, Nat.reduceLeDiff, tyint]
      refine hK _ _ ?_
      clear hK K
      refine XThen.norm ?_
      refine ⟨hg - (j + 1), by omega, 1, j + 1, t2, v, rfl, by omega, ?_, ?_⟩
      · subst hi; simp [Env.put, Env.of]; omega
      · subst hi; simp only [take_eq, List.take_succ_cons, List.take_zero]; rw [putTo_succ (by omega) hrow0]; rfl
  · try simp only [RL] at h
    refine W.exit ?_
    refine XThen.exit ?_
    refine XThen.exit ?_
    refine XBlock.hit ?_
    refine XThen.norm ?_
    refine W.seq_region fun K hK => ?_
    simp (disch := omega) only [↓RU, RV, RH, ↓reduceIte, Nat.reduceEqDiff, reduceCtorEq, if_pos, ↓RS, RG, Nat.reduceAdd, Nat.reduceMul, Nat.reduceLeDiff]
    refine hK _ _ ?_
    clear hK K
    refine W.ret ?_
    refine BodyQ.ret rfl ?_
    obtain rfl : j = hg := by omega
    exact (reify_loc (k := 9) rfl (by simp [putTo_len]) (mapM_str _)).trans (by simp [putTo_len])

theorem l1Done_pc {p : List Txt} (hs : Sm p) : PC Try.prog 158 [eStrs p] (.tup [eStrs (doneP p).1, .bool (doneP p).2]) false := by
  refine PC.of ⟨Try.func158, by kernel_rfl, rfl, by kernel_rfl⟩ tabOk mixed (by show 1 ≤ Try.f158.ntmps; decide) ?_
  refine W.seq_region fun K hK => ?_
  simp (disch := omega) only [↓RU, RV, RH, ↓reduceIte, Nat.reduceEqDiff, reduceCtorEq, if_pos, ↓RS, RG, Nat.reduceAdd, Nat.reduceMul, Nat.reduceLeDiff]
  refine hK _ _ ?_
  clear hK K
  refine W.seq ?_
  refine W.seq_region fun K hK => ?_
  rcases hgg : (gridB p, planB (names p)) with ⟨_ | _, _ | _⟩
  · skip
    simp only [Prod.mk.injEq] at hgg
    obtain ⟨hg1, hg2⟩ := hgg
    simp (disch := omega) only [↓RU, RV, RH, ↓reduceIte, Nat.reduceEqDiff, reduceCtorEq, if_pos, List.append_nil, ↓RS, RG, Nat.reduceAdd, Nat.reduceMul, Nat.reduceLeDiff, hg1, hg2]
    refine CallR.pc (l1Grid_pc hs) rfl (.inl rfl) ?_
    simp (disch := omega) only [↓RU, RV, RH, ↓reduceIte, Nat.reduceEqDiff, reduceCtorEq, if_pos, List.append_nil, ↓RS, RG, Nat.reduceAdd, Nat.reduceMul, Nat.reduceLeDiff, hg1, hg2]
    refine hK _ _ ?_
    clear hK K
    refine W.cond rfl (fun h => ?_) (fun h => ?_)
    · try simp only [RL] at h
      refine W.seq_region fun K hK => ?_
      simp (disch := omega) only [↓RU, RV, RH, ↓reduceIte, Nat.reduceEqDiff, reduceCtorEq, if_pos, List.append_nil, ↓RS, RG, Nat.reduceAdd, Nat.reduceMul, Nat.reduceLeDiff]
      refine CallR.pc (l1None_pc) rfl (.inl rfl) ?_
      simp (disch := omega) only [↓RU, RV, RH, ↓reduceIte, Nat.reduceEqDiff, reduceCtorEq, if_pos, List.append_nil, ↓RS, RG, Nat.reduceAdd, Nat.reduceMul, Nat.reduceLeDiff]
      refine hK _ _ ?_
      clear hK K
      refine W.ret ?_
      refine XThen.ret ?_
      refine BodyQ.ret rfl ?_
      rw [show doneP p = ([], false) by unfold doneP; rw [hg1]; rfl]
      rfl
    · try simp only [RL] at h
      exact absurd h (by simp)
  · skip
    simp only [Prod.mk.injEq] at hgg
    obtain ⟨hg1, hg2⟩ := hgg
    simp (disch := omega) only [↓RU, RV, RH, ↓reduceIte, Nat.reduceEqDiff, reduceCtorEq, if_pos, List.append_nil, ↓RS, RG, Nat.reduceAdd, Nat.reduceMul, Nat.reduceLeDiff, hg1, hg2]
    refine CallR.pc (l1Grid_pc hs) rfl (.inl rfl) ?_
    simp (disch := omega) only [↓RU, RV, RH, ↓reduceIte, Nat.reduceEqDiff, reduceCtorEq, if_pos, List.append_nil, ↓RS, RG, Nat.reduceAdd, Nat.reduceMul, Nat.reduceLeDiff, hg1, hg2]
    refine hK _ _ ?_
    clear hK K
    refine W.cond rfl (fun h => ?_) (fun h => ?_)
    · try simp only [RL] at h
      refine W.seq_region fun K hK => ?_
      simp (disch := omega) only [↓RU, RV, RH, ↓reduceIte, Nat.reduceEqDiff, reduceCtorEq, if_pos, List.append_nil, ↓RS, RG, Nat.reduceAdd, Nat.reduceMul, Nat.reduceLeDiff]
      refine CallR.pc (l1None_pc) rfl (.inl rfl) ?_
      simp (disch := omega) only [↓RU, RV, RH, ↓reduceIte, Nat.reduceEqDiff, reduceCtorEq, if_pos, List.append_nil, ↓RS, RG, Nat.reduceAdd, Nat.reduceMul, Nat.reduceLeDiff]
      refine hK _ _ ?_
      clear hK K
      refine W.ret ?_
      refine XThen.ret ?_
      refine BodyQ.ret rfl ?_
      rw [show doneP p = ([], false) by unfold doneP; rw [hg1]; rfl]
      rfl
    · try simp only [RL] at h
      exact absurd h (by simp)
  · skip
    simp only [Prod.mk.injEq] at hgg
    obtain ⟨hg1, hg2⟩ := hgg
    simp (disch := omega) only [↓RU, RV, RH, ↓reduceIte, Nat.reduceEqDiff, reduceCtorEq, if_pos, List.append_nil, ↓RS, RG, Nat.reduceAdd, Nat.reduceMul, Nat.reduceLeDiff, hg1, hg2]
    refine CallR.pc (l1Grid_pc hs) rfl (.inl rfl) ?_
    simp (disch := omega) only [↓RU, RV, RH, ↓reduceIte, Nat.reduceEqDiff, reduceCtorEq, if_pos, List.append_nil, ↓RS, RG, Nat.reduceAdd, Nat.reduceMul, Nat.reduceLeDiff, hg1, hg2]
    refine CallR.pc (l1Names_pc hs) rfl (.inl rfl) ?_
    simp (disch := omega) only [↓RU, RV, RH, ↓reduceIte, Nat.reduceEqDiff, reduceCtorEq, if_pos, List.append_nil, ↓RS, RG, Nat.reduceAdd, Nat.reduceMul, Nat.reduceLeDiff, hg1, hg2]
    refine CallR.pc (sPlanIn_pc hs.names) rfl (.inl rfl) ?_
    simp (disch := omega) only [↓RU, RV, RH, ↓reduceIte, Nat.reduceEqDiff, reduceCtorEq, if_pos, List.append_nil, ↓RS, RG, Nat.reduceAdd, Nat.reduceMul, Nat.reduceLeDiff, hg1, hg2]
    refine hK _ _ ?_
    clear hK K
    refine W.cond rfl (fun h => ?_) (fun h => ?_)
    · try simp only [RL] at h
      refine W.seq_region fun K hK => ?_
      simp (disch := omega) only [↓RU, RV, RH, ↓reduceIte, Nat.reduceEqDiff, reduceCtorEq, if_pos, List.append_nil, ↓RS, RG, Nat.reduceAdd, Nat.reduceMul, Nat.reduceLeDiff]
      refine CallR.pc (l1None_pc) rfl (.inl rfl) ?_
      simp (disch := omega) only [↓RU, RV, RH, ↓reduceIte, Nat.reduceEqDiff, reduceCtorEq, if_pos, List.append_nil, ↓RS, RG, Nat.reduceAdd, Nat.reduceMul, Nat.reduceLeDiff]
      refine hK _ _ ?_
      clear hK K
      refine W.ret ?_
      refine XThen.ret ?_
      refine BodyQ.ret rfl ?_
      rw [show doneP p = ([], false) by unfold doneP; rw [hg1, hg2]; rfl]
      rfl
    · try simp only [RL] at h
      exact absurd h (by simp)
  · skip
    simp only [Prod.mk.injEq] at hgg
    obtain ⟨hg1, hg2⟩ := hgg
    simp (disch := omega) only [↓RU, RV, RH, ↓reduceIte, Nat.reduceEqDiff, reduceCtorEq, if_pos, List.append_nil, ↓RS, RG, Nat.reduceAdd, Nat.reduceMul, Nat.reduceLeDiff, hg1, hg2]
    refine CallR.pc (l1Grid_pc hs) rfl (.inl rfl) ?_
    simp (disch := omega) only [↓RU, RV, RH, ↓reduceIte, Nat.reduceEqDiff, reduceCtorEq, if_pos, List.append_nil, ↓RS, RG, Nat.reduceAdd, Nat.reduceMul, Nat.reduceLeDiff, hg1, hg2]
    refine CallR.pc (l1Names_pc hs) rfl (.inl rfl) ?_
    simp (disch := omega) only [↓RU, RV, RH, ↓reduceIte, Nat.reduceEqDiff, reduceCtorEq, if_pos, List.append_nil, ↓RS, RG, Nat.reduceAdd, Nat.reduceMul, Nat.reduceLeDiff, hg1, hg2]
    refine CallR.pc (sPlanIn_pc hs.names) rfl (.inl rfl) ?_
    simp (disch := omega) only [↓RU, RV, RH, ↓reduceIte, Nat.reduceEqDiff, reduceCtorEq, if_pos, List.append_nil, ↓RS, RG, Nat.reduceAdd, Nat.reduceMul, Nat.reduceLeDiff, hg1, hg2]
    refine hK _ _ ?_
    clear hK K
    refine W.cond rfl (fun h => ?_) (fun h => ?_)
    · try simp only [RL] at h
      exact absurd h (by simp)
    · try simp only [RL] at h
      refine W.skip ?_
      refine XThen.norm ?_
      refine W.seq_region fun K hK => ?_
      simp (disch := omega) only [↓RU, RV, RH, ↓reduceIte, Nat.reduceEqDiff, reduceCtorEq, if_pos, List.append_nil, ↓RS, RG, Nat.reduceAdd, Nat.reduceMul, Nat.reduceLeDiff]
      refine CallR.pc (l1Names_pc hs) rfl (.inl rfl) ?_
      simp (disch := omega) only [↓RU, RV, RH, ↓reduceIte, Nat.reduceEqDiff, reduceCtorEq, if_pos, List.append_nil, ↓RS, RG, Nat.reduceAdd, Nat.reduceMul, Nat.reduceLeDiff]
      refine hK _ _ ?_
      clear hK K
      refine W.ret ?_
      refine BodyQ.ret rfl ?_
      rw [show doneP p = (names p, true) by unfold doneP; rw [hg1, hg2]; rfl]
      rfl

theorem planSplit_pc {p : List Txt} (hs : Sm p) (room : Int) {s : Txt} (hsl : s.length ≤ 1048576) (k : Int) : PC Try.prog 153 [eStrs p, .int .i64 room, .str s, .int .i64 k] (.tup [eStrs (splitP p room s k).1, .bool (splitP p room s k).2]) false := by
  have hrb := l1Rooms_bound p
  refine PC.of ⟨Try.func153, by kernel_rfl, rfl, by kernel_rfl⟩ tabOk mixed (by show 4 ≤ Try.f153.ntmps; decide) ?_
  refine W.seq_region fun K hK => ?_
  simp (disch := omega) only [↓RU, RV, RH, ↓reduceIte, Nat.reduceEqDiff, reduceCtorEq, if_pos, ↓RS, RG, Nat.reduceAdd, Nat.reduceMul, Nat.reduceLeDiff]
  refine hK _ _ ?_
  clear hK K
  refine W.seq ?_
  refine W.seq_region fun K hK => ?_
  simp (disch := omega) only [↓RU, RV, RH, ↓reduceIte, Nat.reduceEqDiff, reduceCtorEq, if_pos, List.append_nil, ↓RS, RG, Nat.reduceAdd, Nat.reduceMul, Nat.reduceLeDiff]
  refine CallR.pc (l1Given_pc hs room) rfl (.inl rfl) ?_
  simp (disch := omega) only [↓RU, RV, RH, ↓reduceIte, Nat.reduceEqDiff, reduceCtorEq, if_pos, List.append_nil, ↓RS, RG, Nat.reduceAdd, Nat.reduceMul, Nat.reduceLeDiff]
  refine hK _ _ ?_
  clear hK K
  refine W.cond rfl (fun h0 => ?_) (fun h0 => ?_)
  · try simp only [RL] at h0
    have hgv : (planB p && (decide (0 ≤ room) && decide (room ≤ l1Rooms p - 1))) = false := by simpa using h0
    refine W.seq_region fun K hK => ?_
    simp (disch := omega) only [↓RU, RV, RH, ↓reduceIte, Nat.reduceEqDiff, reduceCtorEq, if_pos, List.append_nil, ↓RS, RG, Nat.reduceAdd, Nat.reduceMul, Nat.reduceLeDiff]
    refine CallR.pc (l1None_pc) rfl (.inl rfl) ?_
    simp (disch := omega) only [↓RU, RV, RH, ↓reduceIte, Nat.reduceEqDiff, reduceCtorEq, if_pos, List.append_nil, ↓RS, RG, Nat.reduceAdd, Nat.reduceMul, Nat.reduceLeDiff]
    refine hK _ _ ?_
    clear hK K
    refine W.ret ?_
    refine XThen.ret ?_
    refine BodyQ.ret rfl ?_
    first | (rw [splitP_g hgv]; rfl) | (rw [splitP_h hgv e1 e2 e3 e4 hB1]; rfl) | (rw [splitP_v hgv e1 e2 e3 e4 hB1 hB2]; rfl) | (rw [splitP_no hB1 hB2]; rfl)
  · try simp only [RL] at h0
    have hgv : (planB p && (decide (0 ≤ room) && decide (room ≤ l1Rooms p - 1))) = true := by simpa using h0
    have hgv2 := hgv
    simp only [Bool.and_eq_true, decide_eq_true_eq] at hgv2
    obtain ⟨hp, hr0, hr1⟩ := hgv2
    obtain ⟨t, l, h, w, e1, e2, e3, e4, q1, q2, q3, q4⟩ := plan_box hp hr0 hr1
    obtain ⟨ps1, ps2, ps3⟩ := plan_small hp
    have hrw : ∀ row ∈ p, row.length = (hdRow p).length := fun row hr => by obtain ⟨i, hi, rfl⟩ := List.getElem_of_mem hr; exact rows_wide hp (List.getElem?_eq_getElem hi)
    have hw6 : (hdRow p).length ≤ 6 := by obtain ⟨row, hrow, hrm⟩ := get_of ps2; rw [← hrw row hrm]; exact (ps3 row hrm).2
    refine W.skip ?_
    refine XThen.norm ?_
    refine W.seq_region fun K hK => ?_
    simp (disch := omega) only [↓RU, RV, RH, ↓reduceIte, Nat.reduceEqDiff, reduceCtorEq, if_pos, List.append_nil, ↓RS, RG, Nat.reduceAdd, Nat.reduceMul, Nat.reduceLeDiff, e1, e2, e3, e4]
    refine CallR.pc (l1Room_pc hs (by omega) room) rfl (.inl rfl) ?_
    simp (disch := omega) only [↓RU, RV, RH, ↓reduceIte, Nat.reduceEqDiff, reduceCtorEq, if_pos, List.append_nil, ↓RS, RG, Nat.reduceAdd, Nat.reduceMul, Nat.reduceLeDiff, e1, e2, e3, e4]
    refine hK _ _ ?_
    clear hK K
    refine W.seq ?_
    refine W.block ?_
    refine W.seq_region fun K hK => ?_
    cases hb1 : (s == ([104] : Txt))
    · skip
      have hB1 : ((s == [104]) && (decide (1 ≤ k) && decide (k ≤ highOf p room - 1))) = false := by rw [hb1]; rfl
      simp (disch := omega) only [↓RU, RV, RH, ↓reduceIte, Nat.reduceEqDiff, reduceCtorEq, if_pos, w64, List.append_nil, ↓RS, RG, Nat.reduceAdd, Nat.reduceMul, Nat.reduceLeDiff, tyint, tystring, hb1, pStr]
      refine hK _ _ ?_
      clear hK K
      refine W.cond rfl (fun h1 => ?_) (fun h1 => ?_)
      · try simp only [RL] at h1
        exact absurd h1 (by simp)
      · try simp only [RL] at h1
        refine W.seq_region fun K hK => ?_
        cases hb2 : (s == ([118] : Txt))
        · skip
          have hB2 : ((s == [118]) && (decide (1 ≤ k) && decide (k ≤ wideOf p room - 1))) = false := by rw [hb2]; rfl
          simp (disch := omega) only [↓RU, RV, RH, ↓reduceIte, Nat.reduceEqDiff, reduceCtorEq, if_pos, w64, List.append_nil, ↓RS, RG, Nat.reduceAdd, Nat.reduceMul, Nat.reduceLeDiff, tyint, tystring, hb2, pStr]
          refine hK _ _ ?_
          clear hK K
          refine W.cond rfl (fun h2 => ?_) (fun h2 => ?_)
          · try simp only [RL] at h2
            exact absurd h2 (by simp)
          · try simp only [RL] at h2
            refine W.skip ?_
            refine XBlock.norm ?_
            refine XThen.norm ?_
            refine W.seq_region fun K hK => ?_
            simp (disch := omega) only [↓RU, RV, RH, ↓reduceIte, Nat.reduceEqDiff, reduceCtorEq, if_pos, List.append_nil, ↓RS, RG, Nat.reduceAdd, Nat.reduceMul, Nat.reduceLeDiff]
            refine CallR.pc (l1None_pc) rfl (.inl rfl) ?_
            simp (disch := omega) only [↓RU, RV, RH, ↓reduceIte, Nat.reduceEqDiff, reduceCtorEq, if_pos, List.append_nil, ↓RS, RG, Nat.reduceAdd, Nat.reduceMul, Nat.reduceLeDiff]
            refine hK _ _ ?_
            clear hK K
            refine W.ret ?_
            refine BodyQ.ret rfl ?_
            first | (rw [splitP_g hgv]; rfl) | (rw [splitP_h hgv e1 e2 e3 e4 hB1]; rfl) | (rw [splitP_v hgv e1 e2 e3 e4 hB1 hB2]; rfl) | (rw [splitP_no hB1 hB2]; rfl)
        · skip
          simp (disch := omega) only [↓RU, RV, RH, ↓reduceIte, Nat.reduceEqDiff, reduceCtorEq, if_pos, w64, List.append_nil, ↓RS, RG, Nat.reduceAdd, Nat.reduceMul, Nat.reduceLeDiff, tyint, tystring, hb2, pStr]
          refine CallR.pc (l6In_pc _ _ _) rfl (.inl rfl) ?_
          simp (disch := omega) only [↓RU, RV, RH, ↓reduceIte, Nat.reduceEqDiff, reduceCtorEq, if_pos, w64, List.append_nil, ↓RS, RG, Nat.reduceAdd, Nat.reduceMul, Nat.reduceLeDiff, tyint, tystring, hb2, pStr]
          refine hK _ _ ?_
          clear hK K
          refine W.cond rfl (fun h2 => ?_) (fun h2 => ?_)
          · try simp only [RL] at h2
            have hB2 : ((s == [118]) && (decide (1 ≤ k) && decide (k ≤ wideOf p room - 1))) = true := by rw [hb2, e4]; exact h2
            have hk := h2
            simp only [Bool.and_eq_true, decide_eq_true_eq] at hk
            obtain ⟨kn, rfl⟩ : ∃ kn : Nat, k = kn := ⟨k.toNat, by omega⟩
            refine W.seq_region fun K hK => ?_
            simp (disch := omega) only [↓RU, RV, RH, ↓reduceIte, Nat.reduceEqDiff, reduceCtorEq, if_pos, w64, List.append_nil, ↓RS, RG, Nat.reduceAdd, Nat.reduceMul, Nat.reduceLeDiff, tyint, show ((l : Int) + (kn : Int)) = ((l + kn : Nat) : Int) from by omega, show ((w : Int) - (kn : Int)) = ((w - kn : Nat) : Int) from by omega]
            refine CallR.pc (l1Put_pc hs (tp := t) (lf := l + kn) (hg := h) (wd := w - kn) (c := 122) (by omega) (fun row hr => by rw [hrw row hr]; omega)) rfl (.inl rfl) ?_
            simp (disch := omega) only [↓RU, RV, RH, ↓reduceIte, Nat.reduceEqDiff, reduceCtorEq, if_pos, w64, List.append_nil, ↓RS, RG, Nat.reduceAdd, Nat.reduceMul, Nat.reduceLeDiff, tyint, show ((l : Int) + (kn : Int)) = ((l + kn : Nat) : Int) from by omega, show ((w : Int) - (kn : Int)) = ((w - kn : Nat) : Int) from by omega]
            refine CallR.pc (l1Done_pc (putTo_sm hs)) rfl (.inr rfl) ?_
            simp (disch := omega) only [↓RU, RV, RH, ↓reduceIte, Nat.reduceEqDiff, reduceCtorEq, if_pos, w64, List.append_nil, ↓RS, RG, Nat.reduceAdd, Nat.reduceMul, Nat.reduceLeDiff, tyint, show ((l : Int) + (kn : Int)) = ((l + kn : Nat) : Int) from by omega, show ((w : Int) - (kn : Int)) = ((w - kn : Nat) : Int) from by omega]
            refine hK _ _ ?_
            clear hK K
            refine W.ret ?_
            refine XBlock.ret ?_
            refine XThen.ret ?_
            refine BodyQ.ret rfl ?_
            first | (rw [splitP_g hgv]; rfl) | (rw [splitP_h hgv e1 e2 e3 e4 hB1]; rfl) | (rw [splitP_v hgv e1 e2 e3 e4 hB1 hB2]; rfl) | (rw [splitP_no hB1 hB2]; rfl)
          · try simp only [RL] at h2
            have hB2 : ((s == [118]) && (decide (1 ≤ k) && decide (k ≤ wideOf p room - 1))) = false := by rw [hb2, e4]; exact h2
            refine W.skip ?_
            refine XBlock.norm ?_
            refine XThen.norm ?_
            refine W.seq_region fun K hK => ?_
            simp (disch := omega) only [↓RU, RV, RH, ↓reduceIte, Nat.reduceEqDiff, reduceCtorEq, if_pos, List.append_nil, ↓RS, RG, Nat.reduceAdd, Nat.reduceMul, Nat.reduceLeDiff]
            refine CallR.pc (l1None_pc) rfl (.inl rfl) ?_
            simp (disch := omega) only [↓RU, RV, RH, ↓reduceIte, Nat.reduceEqDiff, reduceCtorEq, if_pos, List.append_nil, ↓RS, RG, Nat.reduceAdd, Nat.reduceMul, Nat.reduceLeDiff]
            refine hK _ _ ?_
            clear hK K
            refine W.ret ?_
            refine BodyQ.ret rfl ?_
            first | (rw [splitP_g hgv]; rfl) | (rw [splitP_h hgv e1 e2 e3 e4 hB1]; rfl) | (rw [splitP_v hgv e1 e2 e3 e4 hB1 hB2]; rfl) | (rw [splitP_no hB1 hB2]; rfl)
    · skip
      simp (disch := omega) only [↓RU, RV, RH, ↓reduceIte, Nat.reduceEqDiff, reduceCtorEq, if_pos, w64, List.append_nil, ↓RS, RG, Nat.reduceAdd, Nat.reduceMul, Nat.reduceLeDiff, tyint, tystring, hb1, pStr]
      refine CallR.pc (l6In_pc _ _ _) rfl (.inl rfl) ?_
      simp (disch := omega) only [↓RU, RV, RH, ↓reduceIte, Nat.reduceEqDiff, reduceCtorEq, if_pos, w64, List.append_nil, ↓RS, RG, Nat.reduceAdd, Nat.reduceMul, Nat.reduceLeDiff, tyint, tystring, hb1, pStr]
      refine hK _ _ ?_
      clear hK K
      refine W.cond rfl (fun h1 => ?_) (fun h1 => ?_)
      · try simp only [RL] at h1
        have hB1 : ((s == [104]) && (decide (1 ≤ k) && decide (k ≤ highOf p room - 1))) = true := by rw [hb1, e3]; exact h1
        have hk := h1
        simp only [Bool.and_eq_true, decide_eq_true_eq] at hk
        obtain ⟨kn, rfl⟩ : ∃ kn : Nat, k = kn := ⟨k.toNat, by omega⟩
        refine W.seq_region fun K hK => ?_
        simp (disch := omega) only [↓RU, RV, RH, ↓reduceIte, Nat.reduceEqDiff, reduceCtorEq, if_pos, w64, List.append_nil, ↓RS, RG, Nat.reduceAdd, Nat.reduceMul, Nat.reduceLeDiff, tyint, show ((t : Int) + (kn : Int)) = ((t + kn : Nat) : Int) from by omega, show ((h : Int) - (kn : Int)) = ((h - kn : Nat) : Int) from by omega]
        refine CallR.pc (l1Put_pc hs (tp := t + kn) (lf := l) (hg := h - kn) (wd := w) (c := 122) (by omega) (fun row hr => by rw [hrw row hr]; omega)) rfl (.inl rfl) ?_
        simp (disch := omega) only [↓RU, RV, RH, ↓reduceIte, Nat.reduceEqDiff, reduceCtorEq, if_pos, w64, List.append_nil, ↓RS, RG, Nat.reduceAdd, Nat.reduceMul, Nat.reduceLeDiff, tyint, show ((t : Int) + (kn : Int)) = ((t + kn : Nat) : Int) from by omega, show ((h : Int) - (kn : Int)) = ((h - kn : Nat) : Int) from by omega]
        refine CallR.pc (l1Done_pc (putTo_sm hs)) rfl (.inr rfl) ?_
        simp (disch := omega) only [↓RU, RV, RH, ↓reduceIte, Nat.reduceEqDiff, reduceCtorEq, if_pos, w64, List.append_nil, ↓RS, RG, Nat.reduceAdd, Nat.reduceMul, Nat.reduceLeDiff, tyint, show ((t : Int) + (kn : Int)) = ((t + kn : Nat) : Int) from by omega, show ((h : Int) - (kn : Int)) = ((h - kn : Nat) : Int) from by omega]
        refine hK _ _ ?_
        clear hK K
        refine W.ret ?_
        refine XBlock.ret ?_
        refine XThen.ret ?_
        refine BodyQ.ret rfl ?_
        first | (rw [splitP_g hgv]; rfl) | (rw [splitP_h hgv e1 e2 e3 e4 hB1]; rfl) | (rw [splitP_v hgv e1 e2 e3 e4 hB1 hB2]; rfl) | (rw [splitP_no hB1 hB2]; rfl)
      · try simp only [RL] at h1
        have hB1 : ((s == [104]) && (decide (1 ≤ k) && decide (k ≤ highOf p room - 1))) = false := by rw [hb1, e3]; exact h1
        refine W.seq_region fun K hK => ?_
        cases hb2 : (s == ([118] : Txt))
        · skip
          have hB2 : ((s == [118]) && (decide (1 ≤ k) && decide (k ≤ wideOf p room - 1))) = false := by rw [hb2]; rfl
          simp (disch := omega) only [↓RU, RV, RH, ↓reduceIte, Nat.reduceEqDiff, reduceCtorEq, if_pos, w64, List.append_nil, ↓RS, RG, Nat.reduceAdd, Nat.reduceMul, Nat.reduceLeDiff, tyint, tystring, hb2, pStr]
          refine hK _ _ ?_
          clear hK K
          refine W.cond rfl (fun h2 => ?_) (fun h2 => ?_)
          · try simp only [RL] at h2
            exact absurd h2 (by simp)
          · try simp only [RL] at h2
            refine W.skip ?_
            refine XBlock.norm ?_
            refine XThen.norm ?_
            refine W.seq_region fun K hK => ?_
            simp (disch := omega) only [↓RU, RV, RH, ↓reduceIte, Nat.reduceEqDiff, reduceCtorEq, if_pos, List.append_nil, ↓RS, RG, Nat.reduceAdd, Nat.reduceMul, Nat.reduceLeDiff]
            refine CallR.pc (l1None_pc) rfl (.inl rfl) ?_
            simp (disch := omega) only [↓RU, RV, RH, ↓reduceIte, Nat.reduceEqDiff, reduceCtorEq, if_pos, List.append_nil, ↓RS, RG, Nat.reduceAdd, Nat.reduceMul, Nat.reduceLeDiff]
            refine hK _ _ ?_
            clear hK K
            refine W.ret ?_
            refine BodyQ.ret rfl ?_
            first | (rw [splitP_g hgv]; rfl) | (rw [splitP_h hgv e1 e2 e3 e4 hB1]; rfl) | (rw [splitP_v hgv e1 e2 e3 e4 hB1 hB2]; rfl) | (rw [splitP_no hB1 hB2]; rfl)
        · skip
          simp (disch := omega) only [↓RU, RV, RH, ↓reduceIte, Nat.reduceEqDiff, reduceCtorEq, if_pos, w64, List.append_nil, ↓RS, RG, Nat.reduceAdd, Nat.reduceMul, Nat.reduceLeDiff, tyint, tystring, hb2, pStr]
          refine CallR.pc (l6In_pc _ _ _) rfl (.inl rfl) ?_
          simp (disch := omega) only [↓RU, RV, RH, ↓reduceIte, Nat.reduceEqDiff, reduceCtorEq, if_pos, w64, List.append_nil, ↓RS, RG, Nat.reduceAdd, Nat.reduceMul, Nat.reduceLeDiff, tyint, tystring, hb2, pStr]
          refine hK _ _ ?_
          clear hK K
          refine W.cond rfl (fun h2 => ?_) (fun h2 => ?_)
          · try simp only [RL] at h2
            have hB2 : ((s == [118]) && (decide (1 ≤ k) && decide (k ≤ wideOf p room - 1))) = true := by rw [hb2, e4]; exact h2
            have hk := h2
            simp only [Bool.and_eq_true, decide_eq_true_eq] at hk
            obtain ⟨kn, rfl⟩ : ∃ kn : Nat, k = kn := ⟨k.toNat, by omega⟩
            refine W.seq_region fun K hK => ?_
            simp (disch := omega) only [↓RU, RV, RH, ↓reduceIte, Nat.reduceEqDiff, reduceCtorEq, if_pos, w64, List.append_nil, ↓RS, RG, Nat.reduceAdd, Nat.reduceMul, Nat.reduceLeDiff, tyint, show ((l : Int) + (kn : Int)) = ((l + kn : Nat) : Int) from by omega, show ((w : Int) - (kn : Int)) = ((w - kn : Nat) : Int) from by omega]
            refine CallR.pc (l1Put_pc hs (tp := t) (lf := l + kn) (hg := h) (wd := w - kn) (c := 122) (by omega) (fun row hr => by rw [hrw row hr]; omega)) rfl (.inl rfl) ?_
            simp (disch := omega) only [↓RU, RV, RH, ↓reduceIte, Nat.reduceEqDiff, reduceCtorEq, if_pos, w64, List.append_nil, ↓RS, RG, Nat.reduceAdd, Nat.reduceMul, Nat.reduceLeDiff, tyint, show ((l : Int) + (kn : Int)) = ((l + kn : Nat) : Int) from by omega, show ((w : Int) - (kn : Int)) = ((w - kn : Nat) : Int) from by omega]
            refine CallR.pc (l1Done_pc (putTo_sm hs)) rfl (.inr rfl) ?_
            simp (disch := omega) only [↓RU, RV, RH, ↓reduceIte, Nat.reduceEqDiff, reduceCtorEq, if_pos, w64, List.append_nil, ↓RS, RG, Nat.reduceAdd, Nat.reduceMul, Nat.reduceLeDiff, tyint, show ((l : Int) + (kn : Int)) = ((l + kn : Nat) : Int) from by omega, show ((w : Int) - (kn : Int)) = ((w - kn : Nat) : Int) from by omega]
            refine hK _ _ ?_
            clear hK K
            refine W.ret ?_
            refine XBlock.ret ?_
            refine XThen.ret ?_
            refine BodyQ.ret rfl ?_
            first | (rw [splitP_g hgv]; rfl) | (rw [splitP_h hgv e1 e2 e3 e4 hB1]; rfl) | (rw [splitP_v hgv e1 e2 e3 e4 hB1 hB2]; rfl) | (rw [splitP_no hB1 hB2]; rfl)
          · try simp only [RL] at h2
            have hB2 : ((s == [118]) && (decide (1 ≤ k) && decide (k ≤ wideOf p room - 1))) = false := by rw [hb2, e4]; exact h2
            refine W.skip ?_
            refine XBlock.norm ?_
            refine XThen.norm ?_
            refine W.seq_region fun K hK => ?_
            simp (disch := omega) only [↓RU, RV, RH, ↓reduceIte, Nat.reduceEqDiff, reduceCtorEq, if_pos, List.append_nil, ↓RS, RG, Nat.reduceAdd, Nat.reduceMul, Nat.reduceLeDiff]
            refine CallR.pc (l1None_pc) rfl (.inl rfl) ?_
            simp (disch := omega) only [↓RU, RV, RH, ↓reduceIte, Nat.reduceEqDiff, reduceCtorEq, if_pos, List.append_nil, ↓RS, RG, Nat.reduceAdd, Nat.reduceMul, Nat.reduceLeDiff]
            refine hK _ _ ?_
            clear hK K
            refine W.ret ?_
            refine BodyQ.ret rfl ?_
            first | (rw [splitP_g hgv]; rfl) | (rw [splitP_h hgv e1 e2 e3 e4 hB1]; rfl) | (rw [splitP_v hgv e1 e2 e3 e4 hB1 hB2]; rfl) | (rw [splitP_no hB1 hB2]; rfl)

end Fw
end Go.Proofs.Ytmhcknpjgikgmaa

/-! Drawing plans, gone through. -/
namespace Go.Proofs.Ytmhcknpjgikgmaa
namespace Fw
open Go

theorem pick_ev {code : Txt} {q vr t : Nat} {R : List Ob} (hc : code.length ≤ 1048576) (hq : q ≤ 1000000) (n : Int) (hn : n ≤ 1000000) (hn0 : -1000000 ≤ n) :
    Ev Try.prog 74 [.ref 0 vr 0, .int .i64 n] ⟨.arr vr 111 2 [eBy code, .int .i64 (q : Int)] :: R, t⟩ fun v S => ∃ k : Nat, v = .int .i64 (k : Int) ∧ (n < 1 → k = 0) ∧ (1 ≤ n → (k : Int) < n) ∧ S = ⟨.arr vr 111 2 [eBy code, .int .i64 ((q + 1 : Nat) : Int)] :: R, t⟩ :=
  pick_ev0 hc hq n hn hn0

theorem of_ev {code : Txt} {q vr t v1 : Nat} {R : List Ob} {l : List Txt} (hc : code.length ≤ 1048576) (hq : q ≤ 1000000) (hl : 1 ≤ l.length) (hl2 : l.length ≤ 1000) : Ev Try.prog 154 [.ref 0 vr 0, .loc 1 v1 0 l.length] ⟨.arr vr 111 2 [eBy code, .int .i64 (q : Int)] :: .arr v1 9 1 (l.map .str) :: R, t⟩ fun v S => ∃ s, s ∈ l ∧ v = .str s ∧ S = ⟨.arr vr 111 2 [eBy code, .int .i64 ((q + 1 : Nat) : Int)] :: .arr v1 9 1 (l.map .str) :: R, t⟩ := by
  refine Ev.of ⟨Try.func154, by kernel_rfl, rfl, by kernel_rfl⟩ tabOk mixed (by show 2 ≤ Try.f154.ntmps; decide) ?_
  refine W.seq_region fun K hK => ?_
  simp (disch := omega) only [↓RU, RV, RH, ↓reduceIte, Nat.reduceEqDiff, reduceCtorEq, if_pos, ↓RS, RG, Nat.reduceAdd, Nat.reduceMul, Nat.reduceLeDiff]
  refine hK _ _ ?_
  clear hK K
  refine W.seq_region fun K hK => ?_
  simp (disch := omega) only [↓RU, RV, RH, ↓reduceIte, Nat.reduceEqDiff, reduceCtorEq, if_pos, List.append_nil, ↓RS, RG, Nat.reduceAdd, Nat.reduceMul, Nat.reduceLeDiff, tyLstring, tystring]
  refine CallR.ev (pick_ev hc hq (l.length : Int) (by omega) (by omega)) ?_
  rintro _ _ ⟨k, rfl, -, hk, rfl⟩
  have hk2 := hk (by omega)
  obtain ⟨s, hsk, hsm⟩ := get_of (show k < l.length by omega)
  simp (disch := omega) only [↓RU, RV, RH, ↓reduceIte, Nat.reduceEqDiff, reduceCtorEq, if_pos, List.append_nil, ↓RS, RG, Nat.reduceAdd, Nat.reduceMul, Nat.reduceLeDiff, tyLstring, tystring, hsk]
  refine hK _ _ ?_
  clear hK K
  refine W.ret ?_
  refine BodyQ.ret rfl ?_
  exact ⟨_, s, hsm, rfl, take_all⟩

theorem l91Empty_pc {nh nw : Nat} (hn : nh ≤ 100) (hm : nw ≤ 100) : PC Try.prog 144 [.int .i64 nh, .int .i64 nw] (eStrs (List.replicate nh (List.replicate nw (97 : UInt8)))) true := by
  refine PC.of ⟨Try.func144, by kernel_rfl, rfl, by kernel_rfl⟩ tabOk mixed (by show 2 ≤ Try.f144.ntmps; decide) ?_
  refine W.seq_region fun K hK => ?_
  simp (disch := omega) only [↓RU, RV, RH, ↓reduceIte, Nat.reduceEqDiff, reduceCtorEq, if_pos, ↓RS, RG, Nat.reduceAdd, Nat.reduceMul, Nat.reduceLeDiff]
  refine hK _ _ ?_
  clear hK K
  refine W.seq_region fun K hK => ?_
  simp (disch := omega) only [↓RU, RV, RH, ↓reduceIte, Nat.reduceEqDiff, reduceCtorEq, if_pos, ↓RS, RG, Nat.reduceAdd, Nat.reduceMul, Nat.reduceLeDiff, tyLstring, tystring]
  refine hK _ _ ?_
  clear hK K
  refine W.seq ?_
  refine W.seq_region fun K hK => ?_
  simp (disch := omega) only [↓RU, RV, RH, ↓reduceIte, Nat.reduceEqDiff, reduceCtorEq, if_pos, ↓RS, RG, Nat.reduceAdd, Nat.reduceMul, Nat.reduceLeDiff]
  refine hK _ _ ?_
  clear hK K
  refine W.block ?_
  refine W.loop [0, 1, 5, 6] (fun n vs S => ∃ i v0 tk : Nat, n = nh - i ∧ i ≤ nh ∧ vs = [.int .i64 nh, .int .i64 nw, .loc 0 v0 0 i, .int .i64 i] ∧ S = ⟨[.arr v0 9 1 ((List.replicate i (List.replicate nw (97 : UInt8))).map .str)], tk⟩) (nh) ?_ ?_
  · refine ⟨1, 0, 0, 1, rfl, Nat.zero_le _, ?_, rfl⟩
    simp [Env.put, Env.of, argEnv]
  rintro n vs S - ⟨i, v0, tk, rfl, h_i, rfl, rfl⟩
  refine W.seq ?_
  refine W.seq_region fun K hK => ?_
  simp (disch := omega) only [↓RU, RV, RH, ↓reduceIte, Nat.reduceEqDiff, reduceCtorEq, if_pos, w64, ↓RS, RG, Nat.reduceAdd, Nat.reduceMul, Nat.reduceLeDiff, tyint]
  refine hK _ _ ?_
  clear hK K
  refine W.cond rfl (fun h => ?_) (fun h => ?_)
  · try simp only [RL] at h
    refine W.skip ?_
    refine XThen.norm ?_
    refine W.seq ?_
    refine W.block ?_
    refine W.seq_region fun K hK => ?_
    simp (disch := omega) only [↓RU, RV, RH, ↓reduceIte, Nat.reduceEqDiff, reduceCtorEq, if_pos, ↓RS, RG, Nat.reduceAdd, Nat.reduceMul, Nat.reduceLeDiff, tyLuint8, tyuint8]
    refine hK _ _ ?_
    clear hK K
    refine W.seq ?_
    refine W.seq_region fun K hK => ?_
    simp (disch := omega) only [↓RU, RV, RH, ↓reduceIte, Nat.reduceEqDiff, reduceCtorEq, if_pos, ↓RS, RG, Nat.reduceAdd, Nat.reduceMul, Nat.reduceLeDiff]
    refine hK _ _ ?_
    clear hK K
    refine W.block ?_
    refine W.loop [0, 1, 5, 6, 7, 8] (fun n vs S => ∃ k v1 tk : Nat, n = nw - k ∧ k ≤ nw ∧ vs = [.int .i64 nh, .int .i64 nw, .loc 0 v0 0 i, .int .i64 i, .loc 1 v1 0 k, .int .i64 k] ∧ S = ⟨[.arr v0 9 1 ((List.replicate i (List.replicate nw (97 : UInt8))).map .str), .arr v1 5 1 ((List.replicate k (97 : UInt8)).map eB)], tk⟩) (nw) ?_ ?_
    · refine ⟨2, 0, tk, tk + 1, rfl, Nat.zero_le _, ?_, rfl⟩
      simp [Env.put, Env.of]
    rintro n vs S - ⟨k, v1, tk, rfl, h_k, rfl, rfl⟩
    refine W.seq ?_
    refine W.seq_region fun K hK => ?_
    simp (disch := omega) only [↓RU, RV, RH, ↓reduceIte, Nat.reduceEqDiff, reduceCtorEq, if_pos, w64, ↓RS, RG, Nat.reduceAdd, Nat.reduceMul, Nat.reduceLeDiff, tyint]
    refine hK _ _ ?_
    clear hK K
    refine W.cond rfl (fun h1 => ?_) (fun h1 => ?_)
    · try simp only [RL] at h1
      refine W.skip ?_
      refine XThen.norm ?_
      refine W.seq ?_
      refine W.block ?_
      refine W.region_k fun K hK => ?_
      simp (disch := omega) only [↓RU, RV, RH, ↓reduceIte, Nat.reduceEqDiff, reduceCtorEq, if_pos, ↓RS, RG, Nat.reduceAdd, Nat.reduceMul, Nat.reduceLeDiff, tyLuint8, tyuint8, List.length_replicate]
      refine hK _ _ ?_
      clear hK K
      refine XBlock.norm ?_
      refine XThen.norm ?_
      refine W.region_k fun K hK => ?_
      simp (disch := omega) only [↓RU, RV, RH, ↓reduceIte, Nat.reduceEqDiff, reduceCtorEq, if_pos, w64, ↓RS, RG, Nat.reduceAdd, Nat.reduceMul, Nat.reduceLeDiff, tyint]
      refine hK _ _ ?_
      clear hK K
      refine XThen.norm ?_
      refine ⟨nw - (k + 1), by omega, 2, k + 1, tk + 1, tk + 2, rfl, by omega, ?_, ?_⟩
      all_goals simp [Env.put, Env.of, take_eq, tk_le, List.replicate_succ', List.map_append]
    · try simp only [RL] at h1
      obtain rfl : k = nw := by omega
      have hbo := bytesOf_eB (List.replicate k (97 : UInt8))
      have htk : ((List.replicate k (97 : UInt8)).map eB).take k = (List.replicate k (97 : UInt8)).map eB := List.take_of_length_le (by simp)
      refine W.exit ?_
      refine XThen.exit ?_
      refine XThen.exit ?_
      refine XBlock.hit ?_
      refine XThen.norm ?_
      refine W.region_k fun K hK => ?_
      simp (disch := omega) only [↓RU, RV, RH, ↓reduceIte, Nat.reduceEqDiff, reduceCtorEq, if_pos, w64, ↓RS, RG, Nat.reduceAdd, Nat.reduceMul, Nat.reduceLeDiff, tyLstring, tyLuint8, tystring, tyuint8, List.length_replicate, htk, hbo]
      refine hK _ _ ?_
      clear hK K
      refine XBlock.norm ?_
      refine XThen.norm ?_
      refine W.region_k fun K hK => ?_
      simp (disch := omega) only [↓RU, RV, RH, ↓reduceIte, Nat.reduceEqDiff, reduceCtorEq, if_pos, w64, ↓RS, RG, Nat.reduceAdd, Nat.reduceMul, Nat.reduceLeDiff, tyint]
      refine hK _ _ ?_
      clear hK K
      refine XThen.norm ?_
      refine ⟨nh - (i + 1), by omega, 1, i + 1, tk + 1, tk + 2, rfl, by omega, ?_, ?_⟩
      all_goals simp [Env.put, Env.of, take_eq, tk_le, List.replicate_succ', List.map_append]
  · try simp only [RL] at h
    obtain rfl : i = nh := by omega
    refine W.exit ?_
    refine XThen.exit ?_
    refine XThen.exit ?_
    refine XBlock.hit ?_
    refine XThen.norm ?_
    refine W.seq_region fun K hK => ?_
    simp (disch := omega) only [↓RU, RV, RH, ↓reduceIte, Nat.reduceEqDiff, reduceCtorEq, if_pos, ↓RS, RG, Nat.reduceAdd, Nat.reduceMul, Nat.reduceLeDiff]
    refine hK _ _ ?_
    clear hK K
    refine W.ret ?_
    refine BodyQ.ret rfl ?_
    exact (reify_loc (k := 9) rfl (by simp) (mapM_str _)).trans (by simp)

theorem frz_ref0 {S : Store} {k ver off : Nat} : frz S 1 (k + 1) (.ref 0 ver off) = some (.ref 0 ver off) := by simp [frz]
theorem tk_strs (p : List Txt) : List.take p.length (p.map PV.str) = p.map .str := List.take_of_length_le (by simp)
theorem rfz_tstr {S : Store} {lo k : Nat} (l : List Txt) : (l.map PV.str).mapM (rfz S lo (k + 1)) = some (l.map PV.str) := rfz_map (fun _ => rfl) l
theorem plan_sm {p : List Txt} (h : planB p = true) : Sm p := by
  obtain ⟨h1, -, h3⟩ := plan_small h
  exact ⟨by omega, fun r hr => by have := (h3 r hr).2; omega⟩
theorem plan_rooms9 {p : List Txt} (h : planB p = true) : l1Rooms p ≤ 9 := by
  unfold planB at h; simp only [Bool.and_eq_true, decide_eq_true_eq] at h; omega
theorem hv_len {s : Txt} (h : s ∈ ([[104], [118]] : List Txt)) : s.length ≤ 1048576 := by
  simp only [List.mem_cons, List.not_mem_nil, or_false] at h
  rcases h with rfl | rfl <;> simp

theorem l91Cut_ev {code : Txt} {q vr t : Nat} {R : List Ob} (hc : code.length ≤ 1048576) (hq : q ≤ 900000) {p : List Txt} (hp : planB p = true) {many : Nat} (hm : many ≤ 1000) : Ev Try.prog 143 [.ref 0 vr 0, eStrs p, .int .i64 many] ⟨.arr vr 111 2 [eBy code, .int .i64 (q : Int)] :: R, t⟩ fun v S => ∃ (p2 : List Txt) (q2 t2 : Nat), v = eStrs p2 ∧ planB p2 = true ∧ p2.length = p.length ∧ q2 ≤ q + 3 * many ∧ S = ⟨[.arr vr 111 2 [eBy code, .int .i64 (q2 : Int)]], t2⟩ := by
  refine Ev.of ⟨Try.func143, by kernel_rfl, rfl, by kernel_rfl⟩ tabOk mixed (by show 3 ≤ Try.f143.ntmps; decide) ?_
  refine W.seq_region fun K hK => ?_
  simp (disch := omega) only [↓RU, RV, RH, ↓reduceIte, Nat.reduceEqDiff, reduceCtorEq, if_pos, ↓RS, RG, Nat.reduceAdd, Nat.reduceMul, Nat.reduceLeDiff]
  refine hK _ _ ?_
  clear hK K
  refine W.seq ?_
  refine W.seq_region fun K hK => ?_
  simp (disch := omega) only [↓RU, RV, RH, ↓reduceIte, Nat.reduceEqDiff, reduceCtorEq, if_pos, ↓RS, RG, Nat.reduceAdd, Nat.reduceMul, Nat.reduceLeDiff]
  refine hK _ _ ?_
  clear hK K
  refine W.block ?_
  refine W.loopZ [0, 1, 2, 7] (fun n vs S => ∃ (i : Nat) (p2 : List Txt) (q2 tk : Nat), n = many - i ∧ i ≤ many ∧ planB p2 = true ∧ p2.length = p.length ∧ q2 ≤ q + 3 * i ∧ vs = [.ref 0 vr 0, eStrs p2, .int .i64 many, .int .i64 i] ∧ S = ⟨[.arr vr 111 2 [eBy code, .int .i64 (q2 : Int)]], tk⟩) many ?_ ?_
  · refine ⟨1, [.ref 0 vr 0, eStrs p, .int .i64 many, .int .i64 (0 : Nat)], ⟨[.arr vr 111 2 [eBy code, .int .i64 (q : Int)]], t⟩, ?_, ?_, 0, p, q, t, rfl, by omega, hp, rfl, by omega, rfl, rfl⟩
    · simp [-List.mapM_map, Store.frz, frzObs, frzOb, frz_eInts, frz_loc, rfz_loc, frz_int, frz_sl, frz_ints, rfz_ints, frz_strs, frz_bytes, rfz_bytes, rfz_str, rfz_bool, frz_str, frz_bool, Env.put, Env.of, argEnv, rfz_int, List.mapM_append, List.mapM_cons, frz_ref0, tk_strs, rfz_tstr]
    · simp [-List.mapM_map, Store.frz, frzObs, frzOb, frz_eInts, frz_loc, rfz_loc, frz_int, frz_sl, frz_ints, rfz_ints, frz_strs, frz_bytes, rfz_bytes, rfz_str, rfz_bool, frz_str, frz_bool, Env.put, Env.of, argEnv, rfz_int, List.mapM_append, List.mapM_cons, frz_ref0, tk_strs, rfz_tstr]
  rintro n vs S - ⟨i, p2, q2, tk, rfl, h_i, hp2, hl2, hq2, rfl, rfl⟩
  refine W.seq ?_
  refine W.seq_region fun K hK => ?_
  simp (disch := omega) only [↓RU, RV, RH, ↓reduceIte, Nat.reduceEqDiff, reduceCtorEq, if_pos, w64, ↓RS, RG, Nat.reduceAdd, Nat.reduceMul, Nat.reduceLeDiff, tyint]
  refine hK _ _ ?_
  clear hK K
  refine W.cond rfl (fun h => ?_) (fun h => ?_)
  · try simp only [RL] at h
    have hs2 := plan_sm hp2
    have hr9 := plan_rooms9 hp2
    have hrb := l1Rooms_bound p2
    refine W.skip ?_
    refine XThen.norm ?_
    refine W.seq ?_
    refine W.block ?_
    refine W.seq_region fun K hK => ?_
    simp (disch := omega) only [↓RU, RV, RH, ↓reduceIte, Nat.reduceEqDiff, reduceCtorEq, if_pos, List.append_nil, ↓RS, RG, Nat.reduceAdd, Nat.reduceMul, Nat.reduceLeDiff]
    refine CallR.pc (l1Rooms_pc hs2) rfl (.inl rfl) ?_
    simp (disch := omega) only [↓RU, RV, RH, ↓reduceIte, Nat.reduceEqDiff, reduceCtorEq, if_pos, List.append_nil, ↓RS, RG, Nat.reduceAdd, Nat.reduceMul, Nat.reduceLeDiff]
    refine CallR.ev (pick_ev hc (by omega) (l1Rooms p2) (by omega) (by omega)) ?_
    rintro _ _ ⟨k1, rfl, -, -, rfl⟩
    simp (disch := omega) only [↓RU, RV, RH, ↓reduceIte, Nat.reduceEqDiff, reduceCtorEq, if_pos, List.append_nil, ↓RS, RG, Nat.reduceAdd, Nat.reduceMul, Nat.reduceLeDiff]
    refine hK _ _ ?_
    clear hK K
    refine W.seq_region fun K hK => ?_
    simp (disch := omega) only [↓RU, RV, RH, ↓reduceIte, Nat.reduceEqDiff, reduceCtorEq, if_pos, List.append_nil, w64, ↓RS, RG, Nat.reduceAdd, Nat.reduceMul, Nat.reduceLeDiff, tyLstring, tyint, tystring]
    refine CallR.ev (of_ev (R := []) (l := [[104], [118]]) hc (by omega) (by simp) (by simp)) ?_
    rintro _ _ ⟨s, hsm, rfl, rfl⟩
    have hsl := hv_len hsm
    simp (disch := omega) only [↓RU, RV, RH, ↓reduceIte, Nat.reduceEqDiff, reduceCtorEq, if_pos, List.append_nil, w64, ↓RS, RG, Nat.reduceAdd, Nat.reduceMul, Nat.reduceLeDiff, tyLstring, tyint, tystring]
    refine CallR.ev (pick_ev (q := q2 + 1 + 1) hc (by omega) 3 (by omega) (by omega)) ?_
    rintro _ _ ⟨k2, rfl, -, hk2, rfl⟩
    have hk3 := hk2 (by omega)
    simp (disch := omega) only [↓RU, RV, RH, ↓reduceIte, Nat.reduceEqDiff, reduceCtorEq, if_pos, List.append_nil, w64, ↓RS, RG, Nat.reduceAdd, Nat.reduceMul, Nat.reduceLeDiff, tyLstring, tyint, tystring]
    refine CallR.pc (planSplit_pc hs2 k1 hsl (1 + k2)) rfl (.inr rfl) ?_
    simp (disch := omega) only [↓RU, RV, RH, ↓reduceIte, Nat.reduceEqDiff, reduceCtorEq, if_pos, List.append_nil, w64, ↓RS, RG, Nat.reduceAdd, Nat.reduceMul, Nat.reduceLeDiff, tyLstring, tyint, tystring]
    refine hK _ _ ?_
    clear hK K
    refine W.seq_region fun K hK => ?_
    simp (disch := omega) only [↓RU, RV, RH, ↓reduceIte, Nat.reduceEqDiff, reduceCtorEq, if_pos, ↓RS, RG, Nat.reduceAdd, Nat.reduceMul, Nat.reduceLeDiff]
    refine hK _ _ ?_
    clear hK K
    refine W.cond rfl (fun h1 => ?_) (fun h1 => ?_)
    · try simp only [RL] at h1
      obtain ⟨ho1, ho2⟩ := splitP_ok h1
      refine W.region_k fun K hK => ?_
      simp (disch := omega) only [↓RU, RV, RH, ↓reduceIte, Nat.reduceEqDiff, reduceCtorEq, if_pos, ↓RS, RG, Nat.reduceAdd, Nat.reduceMul, Nat.reduceLeDiff]
      refine hK _ _ ?_
      clear hK K
      refine XBlock.norm ?_
      refine XThen.norm ?_
      refine W.region_k fun K hK => ?_
      simp (disch := omega) only [↓RU, RV, RH, ↓reduceIte, Nat.reduceEqDiff, reduceCtorEq, if_pos, w64, ↓RS, RG, Nat.reduceAdd, Nat.reduceMul, Nat.reduceLeDiff, tyint]
      refine hK _ _ ?_
      clear hK K
      refine XThen.norm ?_
      refine ⟨many - (i + 1), by omega, 1, [.ref 0 vr 0, eStrs (splitP p2 k1 s (1 + k2)).1, .int .i64 many, .int .i64 ((i + 1 : Nat) : Int)], ⟨[.arr vr 111 2 [eBy code, .int .i64 ((q2 + 1 + 1 + 1 : Nat) : Int)]], tk + 1⟩, ?_, ?_, i + 1, (splitP p2 k1 s (1 + k2)).1, q2 + 1 + 1 + 1, tk + 1, rfl, by omega, ho1, ho2.trans hl2, by omega, rfl, rfl⟩
      · simp [-List.mapM_map, Store.frz, frzObs, frzOb, frz_eInts, frz_loc, rfz_loc, frz_int, frz_sl, frz_ints, rfz_ints, frz_strs, frz_bytes, rfz_bytes, rfz_str, rfz_bool, frz_str, frz_bool, Env.put, Env.of, argEnv, rfz_int, List.mapM_append, List.mapM_cons, frz_ref0, tk_strs, rfz_tstr]
      · simp [-List.mapM_map, Store.frz, frzObs, frzOb, frz_eInts, frz_loc, rfz_loc, frz_int, frz_sl, frz_ints, rfz_ints, frz_strs, frz_bytes, rfz_bytes, rfz_str, rfz_bool, frz_str, frz_bool, Env.put, Env.of, argEnv, rfz_int, List.mapM_append, List.mapM_cons, frz_ref0, tk_strs, rfz_tstr]
    · try simp only [RL] at h1
      refine W.skip ?_
      refine XBlock.norm ?_
      refine XThen.norm ?_
      refine W.region_k fun K hK => ?_
      simp (disch := omega) only [↓RU, RV, RH, ↓reduceIte, Nat.reduceEqDiff, reduceCtorEq, if_pos, w64, ↓RS, RG, Nat.reduceAdd, Nat.reduceMul, Nat.reduceLeDiff, tyint]
      refine hK _ _ ?_
      clear hK K
      refine XThen.norm ?_
      refine ⟨many - (i + 1), by omega, 1, [.ref 0 vr 0, eStrs p2, .int .i64 many, .int .i64 ((i + 1 : Nat) : Int)], ⟨[.arr vr 111 2 [eBy code, .int .i64 ((q2 + 1 + 1 + 1 : Nat) : Int)]], tk + 1⟩, ?_, ?_, i + 1, p2, q2 + 1 + 1 + 1, tk + 1, rfl, by omega, hp2, hl2, by omega, rfl, rfl⟩
      · simp [-List.mapM_map, Store.frz, frzObs, frzOb, frz_eInts, frz_loc, rfz_loc, frz_int, frz_sl, frz_ints, rfz_ints, frz_strs, frz_bytes, rfz_bytes, rfz_str, rfz_bool, frz_str, frz_bool, Env.put, Env.of, argEnv, rfz_int, List.mapM_append, List.mapM_cons, frz_ref0, tk_strs, rfz_tstr]
      · simp [-List.mapM_map, Store.frz, frzObs, frzOb, frz_eInts, frz_loc, rfz_loc, frz_int, frz_sl, frz_ints, rfz_ints, frz_strs, frz_bytes, rfz_bytes, rfz_str, rfz_bool, frz_str, frz_bool, Env.put, Env.of, argEnv, rfz_int, List.mapM_append, List.mapM_cons, frz_ref0, tk_strs, rfz_tstr]
  · try simp only [RL] at h
    obtain rfl : i = many := by omega
    refine W.exit ?_
    refine XThen.exit ?_
    refine XThen.exit ?_
    refine XBlock.hit ?_
    refine XThen.norm ?_
    refine W.seq_region fun K hK => ?_
    simp (disch := omega) only [↓RU, RV, RH, ↓reduceIte, Nat.reduceEqDiff, reduceCtorEq, if_pos, ↓RS, RG, Nat.reduceAdd, Nat.reduceMul, Nat.reduceLeDiff]
    refine hK _ _ ?_
    clear hK K
    refine W.ret ?_
    refine BodyQ.ret rfl ?_
    exact ⟨_, p2, q2, tk, rfl, hp2, hl2, by omega, take_all⟩

theorem l91Cut_loc {code : Txt} {q vr t v1 : Nat} {R : List Ob} (hc : code.length ≤ 1048576) (hq : q ≤ 900000) {p : List Txt} (hp : planB p = true) {many : Nat} (hm : many ≤ 1000) : Ev Try.prog 143 [.ref 0 vr 0, .loc 1 v1 0 p.length, .int .i64 many] ⟨.arr vr 111 2 [eBy code, .int .i64 (q : Int)] :: .arr v1 9 1 (p.map .str) :: R, t⟩ fun v S => ∃ (p2 : List Txt) (q2 t2 : Nat), v = eStrs p2 ∧ planB p2 = true ∧ p2.length = p.length ∧ q2 ≤ q + 3 * many ∧ S = ⟨[.arr vr 111 2 [eBy code, .int .i64 (q2 : Int)]], t2⟩ := by
  refine Ev.of ⟨Try.func143, by kernel_rfl, rfl, by kernel_rfl⟩ tabOk mixed (by show 3 ≤ Try.f143.ntmps; decide) ?_
  refine W.seq_region fun K hK => ?_
  simp (disch := omega) only [↓RU, RV, RH, ↓reduceIte, Nat.reduceEqDiff, reduceCtorEq, if_pos, ↓RS, RG, Nat.reduceAdd, Nat.reduceMul, Nat.reduceLeDiff]
  refine hK _ _ ?_
  clear hK K
  refine W.seq ?_
  refine W.seq_region fun K hK => ?_
  simp (disch := omega) only [↓RU, RV, RH, ↓reduceIte, Nat.reduceEqDiff, reduceCtorEq, if_pos, ↓RS, RG, Nat.reduceAdd, Nat.reduceMul, Nat.reduceLeDiff]
  refine hK _ _ ?_
  clear hK K
  refine W.block ?_
  refine W.loopZ [0, 1, 2, 7] (fun n vs S => ∃ (i : Nat) (p2 : List Txt) (q2 tk : Nat), n = many - i ∧ i ≤ many ∧ planB p2 = true ∧ p2.length = p.length ∧ q2 ≤ q + 3 * i ∧ vs = [.ref 0 vr 0, eStrs p2, .int .i64 many, .int .i64 i] ∧ S = ⟨[.arr vr 111 2 [eBy code, .int .i64 (q2 : Int)]], tk⟩) many ?_ ?_
  · refine ⟨1, [.ref 0 vr 0, eStrs p, .int .i64 many, .int .i64 (0 : Nat)], ⟨[.arr vr 111 2 [eBy code, .int .i64 (q : Int)]], t⟩, ?_, ?_, 0, p, q, t, rfl, by omega, hp, rfl, by omega, rfl, rfl⟩
    · simp [-List.mapM_map, Store.frz, frzObs, frzOb, frz_eInts, frz_loc, rfz_loc, frz_int, frz_sl, frz_ints, rfz_ints, frz_strs, frz_bytes, rfz_bytes, rfz_str, rfz_bool, frz_str, frz_bool, Env.put, Env.of, argEnv, rfz_int, List.mapM_append, List.mapM_cons, frz_ref0, tk_strs, rfz_tstr]
    · simp [-List.mapM_map, Store.frz, frzObs, frzOb, frz_eInts, frz_loc, rfz_loc, frz_int, frz_sl, frz_ints, rfz_ints, frz_strs, frz_bytes, rfz_bytes, rfz_str, rfz_bool, frz_str, frz_bool, Env.put, Env.of, argEnv, rfz_int, List.mapM_append, List.mapM_cons, frz_ref0, tk_strs, rfz_tstr]
  rintro n vs S - ⟨i, p2, q2, tk, rfl, h_i, hp2, hl2, hq2, rfl, rfl⟩
  refine W.seq ?_
  refine W.seq_region fun K hK => ?_
  simp (disch := omega) only [↓RU, RV, RH, ↓reduceIte, Nat.reduceEqDiff, reduceCtorEq, if_pos, w64, ↓RS, RG, Nat.reduceAdd, Nat.reduceMul, Nat.reduceLeDiff, tyint]
  refine hK _ _ ?_
  clear hK K
  refine W.cond rfl (fun h => ?_) (fun h => ?_)
  · try simp only [RL] at h
    have hs2 := plan_sm hp2
    have hr9 := plan_rooms9 hp2
    have hrb := l1Rooms_bound p2
    refine W.skip ?_
    refine XThen.norm ?_
    refine W.seq ?_
    refine W.block ?_
    refine W.seq_region fun K hK => ?_
    simp (disch := omega) only [↓RU, RV, RH, ↓reduceIte, Nat.reduceEqDiff, reduceCtorEq, if_pos, List.append_nil, ↓RS, RG, Nat.reduceAdd, Nat.reduceMul, Nat.reduceLeDiff]
    refine CallR.pc (l1Rooms_pc hs2) rfl (.inl rfl) ?_
    simp (disch := omega) only [↓RU, RV, RH, ↓reduceIte, Nat.reduceEqDiff, reduceCtorEq, if_pos, List.append_nil, ↓RS, RG, Nat.reduceAdd, Nat.reduceMul, Nat.reduceLeDiff]
    refine CallR.ev (pick_ev hc (by omega) (l1Rooms p2) (by omega) (by omega)) ?_
    rintro _ _ ⟨k1, rfl, -, -, rfl⟩
    simp (disch := omega) only [↓RU, RV, RH, ↓reduceIte, Nat.reduceEqDiff, reduceCtorEq, if_pos, List.append_nil, ↓RS, RG, Nat.reduceAdd, Nat.reduceMul, Nat.reduceLeDiff]
    refine hK _ _ ?_
    clear hK K
    refine W.seq_region fun K hK => ?_
    simp (disch := omega) only [↓RU, RV, RH, ↓reduceIte, Nat.reduceEqDiff, reduceCtorEq, if_pos, List.append_nil, w64, ↓RS, RG, Nat.reduceAdd, Nat.reduceMul, Nat.reduceLeDiff, tyLstring, tyint, tystring]
    refine CallR.ev (of_ev (R := []) (l := [[104], [118]]) hc (by omega) (by simp) (by simp)) ?_
    rintro _ _ ⟨s, hsm, rfl, rfl⟩
    have hsl := hv_len hsm
    simp (disch := omega) only [↓RU, RV, RH, ↓reduceIte, Nat.reduceEqDiff, reduceCtorEq, if_pos, List.append_nil, w64, ↓RS, RG, Nat.reduceAdd, Nat.reduceMul, Nat.reduceLeDiff, tyLstring, tyint, tystring]
    refine CallR.ev (pick_ev (q := q2 + 1 + 1) hc (by omega) 3 (by omega) (by omega)) ?_
    rintro _ _ ⟨k2, rfl, -, hk2, rfl⟩
    have hk3 := hk2 (by omega)
    simp (disch := omega) only [↓RU, RV, RH, ↓reduceIte, Nat.reduceEqDiff, reduceCtorEq, if_pos, List.append_nil, w64, ↓RS, RG, Nat.reduceAdd, Nat.reduceMul, Nat.reduceLeDiff, tyLstring, tyint, tystring]
    refine CallR.pc (planSplit_pc hs2 k1 hsl (1 + k2)) rfl (.inr rfl) ?_
    simp (disch := omega) only [↓RU, RV, RH, ↓reduceIte, Nat.reduceEqDiff, reduceCtorEq, if_pos, List.append_nil, w64, ↓RS, RG, Nat.reduceAdd, Nat.reduceMul, Nat.reduceLeDiff, tyLstring, tyint, tystring]
    refine hK _ _ ?_
    clear hK K
    refine W.seq_region fun K hK => ?_
    simp (disch := omega) only [↓RU, RV, RH, ↓reduceIte, Nat.reduceEqDiff, reduceCtorEq, if_pos, ↓RS, RG, Nat.reduceAdd, Nat.reduceMul, Nat.reduceLeDiff]
    refine hK _ _ ?_
    clear hK K
    refine W.cond rfl (fun h1 => ?_) (fun h1 => ?_)
    · try simp only [RL] at h1
      obtain ⟨ho1, ho2⟩ := splitP_ok h1
      refine W.region_k fun K hK => ?_
      simp (disch := omega) only [↓RU, RV, RH, ↓reduceIte, Nat.reduceEqDiff, reduceCtorEq, if_pos, ↓RS, RG, Nat.reduceAdd, Nat.reduceMul, Nat.reduceLeDiff]
      refine hK _ _ ?_
      clear hK K
      refine XBlock.norm ?_
      refine XThen.norm ?_
      refine W.region_k fun K hK => ?_
      simp (disch := omega) only [↓RU, RV, RH, ↓reduceIte, Nat.reduceEqDiff, reduceCtorEq, if_pos, w64, ↓RS, RG, Nat.reduceAdd, Nat.reduceMul, Nat.reduceLeDiff, tyint]
      refine hK _ _ ?_
      clear hK K
      refine XThen.norm ?_
      refine ⟨many - (i + 1), by omega, 1, [.ref 0 vr 0, eStrs (splitP p2 k1 s (1 + k2)).1, .int .i64 many, .int .i64 ((i + 1 : Nat) : Int)], ⟨[.arr vr 111 2 [eBy code, .int .i64 ((q2 + 1 + 1 + 1 : Nat) : Int)]], tk + 1⟩, ?_, ?_, i + 1, (splitP p2 k1 s (1 + k2)).1, q2 + 1 + 1 + 1, tk + 1, rfl, by omega, ho1, ho2.trans hl2, by omega, rfl, rfl⟩
      · simp [-List.mapM_map, Store.frz, frzObs, frzOb, frz_eInts, frz_loc, rfz_loc, frz_int, frz_sl, frz_ints, rfz_ints, frz_strs, frz_bytes, rfz_bytes, rfz_str, rfz_bool, frz_str, frz_bool, Env.put, Env.of, argEnv, rfz_int, List.mapM_append, List.mapM_cons, frz_ref0, tk_strs, rfz_tstr]
      · simp [-List.mapM_map, Store.frz, frzObs, frzOb, frz_eInts, frz_loc, rfz_loc, frz_int, frz_sl, frz_ints, rfz_ints, frz_strs, frz_bytes, rfz_bytes, rfz_str, rfz_bool, frz_str, frz_bool, Env.put, Env.of, argEnv, rfz_int, List.mapM_append, List.mapM_cons, frz_ref0, tk_strs, rfz_tstr]
    · try simp only [RL] at h1
      refine W.skip ?_
      refine XBlock.norm ?_
      refine XThen.norm ?_
      refine W.region_k fun K hK => ?_
      simp (disch := omega) only [↓RU, RV, RH, ↓reduceIte, Nat.reduceEqDiff, reduceCtorEq, if_pos, w64, ↓RS, RG, Nat.reduceAdd, Nat.reduceMul, Nat.reduceLeDiff, tyint]
      refine hK _ _ ?_
      clear hK K
      refine XThen.norm ?_
      refine ⟨many - (i + 1), by omega, 1, [.ref 0 vr 0, eStrs p2, .int .i64 many, .int .i64 ((i + 1 : Nat) : Int)], ⟨[.arr vr 111 2 [eBy code, .int .i64 ((q2 + 1 + 1 + 1 : Nat) : Int)]], tk + 1⟩, ?_, ?_, i + 1, p2, q2 + 1 + 1 + 1, tk + 1, rfl, by omega, hp2, hl2, by omega, rfl, rfl⟩
      · simp [-List.mapM_map, Store.frz, frzObs, frzOb, frz_eInts, frz_loc, rfz_loc, frz_int, frz_sl, frz_ints, rfz_ints, frz_strs, frz_bytes, rfz_bytes, rfz_str, rfz_bool, frz_str, frz_bool, Env.put, Env.of, argEnv, rfz_int, List.mapM_append, List.mapM_cons, frz_ref0, tk_strs, rfz_tstr]
      · simp [-List.mapM_map, Store.frz, frzObs, frzOb, frz_eInts, frz_loc, rfz_loc, frz_int, frz_sl, frz_ints, rfz_ints, frz_strs, frz_bytes, rfz_bytes, rfz_str, rfz_bool, frz_str, frz_bool, Env.put, Env.of, argEnv, rfz_int, List.mapM_append, List.mapM_cons, frz_ref0, tk_strs, rfz_tstr]
  · try simp only [RL] at h
    obtain rfl : i = many := by omega
    refine W.exit ?_
    refine XThen.exit ?_
    refine XThen.exit ?_
    refine XBlock.hit ?_
    refine XThen.norm ?_
    refine W.seq_region fun K hK => ?_
    simp (disch := omega) only [↓RU, RV, RH, ↓reduceIte, Nat.reduceEqDiff, reduceCtorEq, if_pos, ↓RS, RG, Nat.reduceAdd, Nat.reduceMul, Nat.reduceLeDiff]
    refine hK _ _ ?_
    clear hK K
    refine W.ret ?_
    refine BodyQ.ret rfl ?_
    exact ⟨_, p2, q2, tk, rfl, hp2, hl2, by omega, take_all⟩

theorem empty_plan {nh nw : Nat} (h1 : 1 ≤ nh) (h2 : nh ≤ 6) (w1 : 1 ≤ nw) (w2 : nw ≤ 6) : planB (List.replicate nh (List.replicate nw (97 : UInt8))) = true := by
  rcases (show nh = 1 ∨ nh = 2 ∨ nh = 3 ∨ nh = 4 ∨ nh = 5 ∨ nh = 6 by omega) with rfl | rfl | rfl | rfl | rfl | rfl <;>
  rcases (show nw = 1 ∨ nw = 2 ∨ nw = 3 ∨ nw = 4 ∨ nw = 5 ∨ nw = 6 by omega) with rfl | rfl | rfl | rfl | rfl | rfl <;> decide +kernel
def wheel3 : List Txt := [[97, 97, 98], [99, 100, 98], [99, 101, 101]]
def wheel4 : List Txt := [[97, 97, 97, 98], [99, 100, 100, 98], [99, 100, 100, 98], [99, 101, 101, 101]]
theorem wheel3_plan : planB wheel3 = true := by decide +kernel
theorem wheel4_plan : planB wheel4 = true := by decide +kernel

theorem l91Plan_ev {code : Txt} {q vr t : Nat} (hc : code.length ≤ 1048576) (hq : q ≤ 800000) {nh nw : Nat} (h1 : 1 ≤ nh) (h2 : nh ≤ 6) (w1 : 1 ≤ nw) (w2 : nw ≤ 6) : Ev Try.prog 115 [.ref 0 vr 0, .int .i64 nh, .int .i64 nw] ⟨[.arr vr 111 2 [eBy code, .int .i64 (q : Int)]], t⟩ fun v S => ∃ (p2 : List Txt) (q2 t2 : Nat), v = eStrs p2 ∧ planB p2 = true ∧ p2.length = nh ∧ q2 ≤ q + 100 ∧ S = ⟨[.arr vr 111 2 [eBy code, .int .i64 (q2 : Int)]], t2⟩ := by
  refine Ev.of ⟨Try.func115, by kernel_rfl, rfl, by kernel_rfl⟩ tabOk mixed (by show 3 ≤ Try.f115.ntmps; decide) ?_
  refine W.seq_region fun K hK => ?_
  simp (disch := omega) only [↓RU, RV, RH, ↓reduceIte, Nat.reduceEqDiff, reduceCtorEq, if_pos, ↓RS, RG, Nat.reduceAdd, Nat.reduceMul, Nat.reduceLeDiff]
  refine hK _ _ ?_
  clear hK K
  refine W.seq ?_
  refine W.join [0, 1, 2, 17] (fun vs S => ∃ (q2 : Nat) (b : Bool), q2 ≤ q + 1 ∧ (b = true → nh = 3) ∧ vs = [.ref 0 vr 0, .int .i64 nh, .int .i64 nw, .bool b] ∧ S = ⟨[.arr vr 111 2 [eBy code, .int .i64 (q2 : Int)]], t⟩) ?_ ?_
  ·
    refine W.region_k fun K hK => ?_
    rcases hd : (((nh : Int) == 3), ((nw : Int) == 3)) with ⟨_ | _, _ | _⟩
    · skip
      simp only [Prod.mk.injEq] at hd
      obtain ⟨hd1, hd2⟩ := hd
      simp (disch := omega) only [↓RU, RV, RH, ↓reduceIte, Nat.reduceEqDiff, reduceCtorEq, if_pos, w64, List.append_nil, ↓RS, RG, Nat.reduceAdd, Nat.reduceMul, Nat.reduceLeDiff, tyint, hd1, hd2]
      refine hK _ _ ?_
      clear hK K
      refine XThen.norm ?_
      refine ⟨_, q, false, by omega, fun h9 => (by cases h9), ?_, take_all⟩
      simp [Env.put, Env.of, argEnv]
    · skip
      simp only [Prod.mk.injEq] at hd
      obtain ⟨hd1, hd2⟩ := hd
      simp (disch := omega) only [↓RU, RV, RH, ↓reduceIte, Nat.reduceEqDiff, reduceCtorEq, if_pos, w64, List.append_nil, ↓RS, RG, Nat.reduceAdd, Nat.reduceMul, Nat.reduceLeDiff, tyint, hd1, hd2]
      refine hK _ _ ?_
      clear hK K
      refine XThen.norm ?_
      refine ⟨_, q, false, by omega, fun h9 => (by cases h9), ?_, take_all⟩
      simp [Env.put, Env.of, argEnv]
    · skip
      simp only [Prod.mk.injEq] at hd
      obtain ⟨hd1, hd2⟩ := hd
      simp (disch := omega) only [↓RU, RV, RH, ↓reduceIte, Nat.reduceEqDiff, reduceCtorEq, if_pos, w64, List.append_nil, ↓RS, RG, Nat.reduceAdd, Nat.reduceMul, Nat.reduceLeDiff, tyint, hd1, hd2]
      refine hK _ _ ?_
      clear hK K
      refine XThen.norm ?_
      refine ⟨_, q, false, by omega, fun h9 => (by cases h9), ?_, take_all⟩
      simp [Env.put, Env.of, argEnv]
    · skip
      simp only [Prod.mk.injEq] at hd
      obtain ⟨hd1, hd2⟩ := hd
      simp (disch := omega) only [↓RU, RV, RH, ↓reduceIte, Nat.reduceEqDiff, reduceCtorEq, if_pos, w64, List.append_nil, ↓RS, RG, Nat.reduceAdd, Nat.reduceMul, Nat.reduceLeDiff, tyint, hd1, hd2]
      refine CallR.ev (pick_ev (q := q) hc (by omega) 2 (by omega) (by omega)) ?_
      rintro _ _ ⟨k1, rfl, -, hk1, rfl⟩
      have hk1b := hk1 (by omega)
      simp (disch := omega) only [↓RU, RV, RH, ↓reduceIte, Nat.reduceEqDiff, reduceCtorEq, if_pos, w64, List.append_nil, ↓RS, RG, Nat.reduceAdd, Nat.reduceMul, Nat.reduceLeDiff, tyint, hd1, hd2]
      refine hK _ _ ?_
      clear hK K
      refine XThen.norm ?_
      refine ⟨_, q + 1, ((k1 : Int) == 0), by omega, fun _ => (by have := beq_iff_eq.1 hd1; omega), ?_, take_all⟩
      simp [Env.put, Env.of, argEnv]
  rintro vs S - ⟨qa, b3, hqa, hb3, rfl, rfl⟩
  refine W.cond rfl (fun h3 => ?_) (fun h3 => ?_)
  · try simp only [RL] at h3
    refine W.seq_region fun K hK => ?_
    simp (disch := omega) only [↓RU, RV, RH, ↓reduceIte, Nat.reduceEqDiff, reduceCtorEq, if_pos, List.append_nil, ↓RS, RG, Nat.reduceAdd, Nat.reduceMul, Nat.reduceLeDiff, tyLstring, tystring]
    refine CallR.ev (pick_ev (q := qa) hc (by omega) 2 (by omega) (by omega)) ?_
    rintro _ _ ⟨k1, rfl, -, hk1, rfl⟩
    have hk1b := hk1 (by omega)
    simp (disch := omega) only [↓RU, RV, RH, ↓reduceIte, Nat.reduceEqDiff, reduceCtorEq, if_pos, List.append_nil, ↓RS, RG, Nat.reduceAdd, Nat.reduceMul, Nat.reduceLeDiff, tyLstring, tystring]
    refine CallR.ev (l91Cut_loc (q := qa + 1) (R := []) hc (by omega) wheel3_plan (many := k1) (by omega)) ?_
    rintro _ _ ⟨p2, q2, t2, rfl, hp2, hl2, hq2, rfl⟩
    simp (disch := omega) only [↓RU, RV, RH, ↓reduceIte, Nat.reduceEqDiff, reduceCtorEq, if_pos, List.append_nil, ↓RS, RG, Nat.reduceAdd, Nat.reduceMul, Nat.reduceLeDiff, tyLstring, tystring]
    refine hK _ _ ?_
    clear hK K
    refine W.ret ?_
    refine XThen.ret ?_
    refine BodyQ.ret rfl ?_
    exact ⟨_, p2, q2, t2, rfl, hp2, hl2.trans (hb3 h3).symm, by omega, take_all⟩
  · try simp only [RL] at h3
    refine W.skip ?_
    refine XThen.norm ?_
    refine W.seq ?_
    refine W.join [0, 1, 2, 33] (fun vs S => ∃ (q2 : Nat) (b : Bool), q2 ≤ q + 2 ∧ (b = true → nh = 4) ∧ vs = [.ref 0 vr 0, .int .i64 nh, .int .i64 nw, .bool b] ∧ S = ⟨[.arr vr 111 2 [eBy code, .int .i64 (q2 : Int)]], t⟩) ?_ ?_
    ·
      refine W.region_k fun K hK => ?_
      rcases hd : (((nh : Int) == 4), ((nw : Int) == 4)) with ⟨_ | _, _ | _⟩
      · skip
        simp only [Prod.mk.injEq] at hd
        obtain ⟨hd1, hd2⟩ := hd
        simp (disch := omega) only [↓RU, RV, RH, ↓reduceIte, Nat.reduceEqDiff, reduceCtorEq, if_pos, w64, List.append_nil, ↓RS, RG, Nat.reduceAdd, Nat.reduceMul, Nat.reduceLeDiff, tyint, hd1, hd2]
        refine hK _ _ ?_
        clear hK K
        refine XThen.norm ?_
        refine ⟨_, qa, false, by omega, fun h9 => (by cases h9), ?_, take_all⟩
        simp [Env.put, Env.of, argEnv]
      · skip
        simp only [Prod.mk.injEq] at hd
        obtain ⟨hd1, hd2⟩ := hd
        simp (disch := omega) only [↓RU, RV, RH, ↓reduceIte, Nat.reduceEqDiff, reduceCtorEq, if_pos, w64, List.append_nil, ↓RS, RG, Nat.reduceAdd, Nat.reduceMul, Nat.reduceLeDiff, tyint, hd1, hd2]
        refine hK _ _ ?_
        clear hK K
        refine XThen.norm ?_
        refine ⟨_, qa, false, by omega, fun h9 => (by cases h9), ?_, take_all⟩
        simp [Env.put, Env.of, argEnv]
      · skip
        simp only [Prod.mk.injEq] at hd
        obtain ⟨hd1, hd2⟩ := hd
        simp (disch := omega) only [↓RU, RV, RH, ↓reduceIte, Nat.reduceEqDiff, reduceCtorEq, if_pos, w64, List.append_nil, ↓RS, RG, Nat.reduceAdd, Nat.reduceMul, Nat.reduceLeDiff, tyint, hd1, hd2]
        refine hK _ _ ?_
        clear hK K
        refine XThen.norm ?_
        refine ⟨_, qa, false, by omega, fun h9 => (by cases h9), ?_, take_all⟩
        simp [Env.put, Env.of, argEnv]
      · skip
        simp only [Prod.mk.injEq] at hd
        obtain ⟨hd1, hd2⟩ := hd
        simp (disch := omega) only [↓RU, RV, RH, ↓reduceIte, Nat.reduceEqDiff, reduceCtorEq, if_pos, w64, List.append_nil, ↓RS, RG, Nat.reduceAdd, Nat.reduceMul, Nat.reduceLeDiff, tyint, hd1, hd2]
        refine CallR.ev (pick_ev (q := qa) hc (by omega) 2 (by omega) (by omega)) ?_
        rintro _ _ ⟨k1, rfl, -, hk1, rfl⟩
        have hk1b := hk1 (by omega)
        simp (disch := omega) only [↓RU, RV, RH, ↓reduceIte, Nat.reduceEqDiff, reduceCtorEq, if_pos, w64, List.append_nil, ↓RS, RG, Nat.reduceAdd, Nat.reduceMul, Nat.reduceLeDiff, tyint, hd1, hd2]
        refine hK _ _ ?_
        clear hK K
        refine XThen.norm ?_
        refine ⟨_, qa + 1, ((k1 : Int) == 0), by omega, fun _ => (by have := beq_iff_eq.1 hd1; omega), ?_, take_all⟩
        simp [Env.put, Env.of, argEnv]
    rintro vs S - ⟨qb, b4, hqb, hb4, rfl, rfl⟩
    refine W.cond rfl (fun h4 => ?_) (fun h4 => ?_)
    · try simp only [RL] at h4
      refine W.seq_region fun K hK => ?_
      simp (disch := omega) only [↓RU, RV, RH, ↓reduceIte, Nat.reduceEqDiff, reduceCtorEq, if_pos, List.append_nil, ↓RS, RG, Nat.reduceAdd, Nat.reduceMul, Nat.reduceLeDiff, tyLstring, tystring]
      refine CallR.ev (pick_ev (q := qb) hc (by omega) 4 (by omega) (by omega)) ?_
      rintro _ _ ⟨k2, rfl, -, hk2, rfl⟩
      have hk2b := hk2 (by omega)
      simp (disch := omega) only [↓RU, RV, RH, ↓reduceIte, Nat.reduceEqDiff, reduceCtorEq, if_pos, List.append_nil, ↓RS, RG, Nat.reduceAdd, Nat.reduceMul, Nat.reduceLeDiff, tyLstring, tystring]
      refine CallR.ev (l91Cut_loc (q := qb + 1) (R := []) hc (by omega) wheel4_plan (many := k2) (by omega)) ?_
      rintro _ _ ⟨p2, q2, t2, rfl, hp2, hl2, hq2, rfl⟩
      simp (disch := omega) only [↓RU, RV, RH, ↓reduceIte, Nat.reduceEqDiff, reduceCtorEq, if_pos, List.append_nil, ↓RS, RG, Nat.reduceAdd, Nat.reduceMul, Nat.reduceLeDiff, tyLstring, tystring]
      refine hK _ _ ?_
      clear hK K
      refine W.ret ?_
      refine XThen.ret ?_
      refine BodyQ.ret rfl ?_
      exact ⟨_, p2, q2, t2, rfl, hp2, hl2.trans (hb4 h4).symm, by omega, take_all⟩
    · try simp only [RL] at h4
      refine W.skip ?_
      refine XThen.norm ?_
      refine W.seq_region fun K hK => ?_
      simp (disch := omega) only [↓RU, RV, RH, ↓reduceIte, Nat.reduceEqDiff, reduceCtorEq, if_pos, List.append_nil, ↓RS, RG, Nat.reduceAdd, Nat.reduceMul, Nat.reduceLeDiff]
      refine CallR.pc (l91Empty_pc (nh := nh) (nw := nw) (by omega) (by omega)) rfl (.inl rfl) ?_
      simp (disch := omega) only [↓RU, RV, RH, ↓reduceIte, Nat.reduceEqDiff, reduceCtorEq, if_pos, List.append_nil, ↓RS, RG, Nat.reduceAdd, Nat.reduceMul, Nat.reduceLeDiff]
      refine CallR.ev (pick_ev (q := qb) hc (by omega) 9 (by omega) (by omega)) ?_
      rintro _ _ ⟨k3, rfl, -, hk3, rfl⟩
      have hk3b := hk3 (by omega)
      simp (disch := omega) only [↓RU, RV, RH, ↓reduceIte, Nat.reduceEqDiff, reduceCtorEq, if_pos, List.append_nil, ↓RS, RG, Nat.reduceAdd, Nat.reduceMul, Nat.reduceLeDiff]
      refine CallR.ev (l91Cut_ev (q := qb + 1) (R := []) hc (by omega) (empty_plan h1 h2 w1 w2) (many := k3) (by omega)) ?_
      rintro _ _ ⟨p2, q2, t2, rfl, hp2, hl2, hq2, rfl⟩
      simp (disch := omega) only [↓RU, RV, RH, ↓reduceIte, Nat.reduceEqDiff, reduceCtorEq, if_pos, List.append_nil, ↓RS, RG, Nat.reduceAdd, Nat.reduceMul, Nat.reduceLeDiff]
      refine hK _ _ ?_
      clear hK K
      refine W.ret ?_
      refine BodyQ.ret rfl ?_
      exact ⟨_, p2, q2, t2, rfl, hp2, by simpa using hl2, by omega, take_all⟩

end Fw
end Go.Proofs.Ytmhcknpjgikgmaa

/-! Drawing plans, gone through, continued. -/
namespace Go.Proofs.Ytmhcknpjgikgmaa
namespace Fw
open Go

theorem sm_set {p : List Txt} (h : Sm p) {i : Nat} {r : Txt} (hr : r.length ≤ 1048576) : Sm (p.set i r) := by
  refine ⟨by rw [List.length_set]; exact h.1, fun x hx => ?_⟩
  rcases List.mem_or_eq_of_mem_set hx with k | rfl
  · exact h.2 x k
  · exact hr
theorem set_hd {p : List Txt} {x : Txt} (h : 0 < p.length) : PV.str x :: List.drop 1 (p.map PV.str) = (p.set 0 x).map .str := by cases p with | nil => simp at h | cons a p => simp
theorem one_add {k : Nat} : (1 : Int) + (k : Int) = ((1 + k : Nat) : Int) := by omega

theorem l91Some_ev {code : Txt} {q vr t : Nat} (hc : code.length ≤ 1048576) (hq : q ≤ 700000) {rows cols : Nat} (h1 : 1 ≤ rows) (h2 : rows ≤ 6) (w1 : 1 ≤ cols) (w2 : cols ≤ 6) : Ev Try.prog 96 [.ref 0 vr 0, .int .i64 rows, .int .i64 cols] ⟨[.arr vr 111 2 [eBy code, .int .i64 (q : Int)]], t⟩ fun v S => ∃ (p2 : List Txt) (q2 t2 : Nat), v = eStrs p2 ∧ Sm p2 ∧ p2.length ≤ 6 ∧ q2 ≤ q + 200 ∧ S = ⟨[.arr vr 111 2 [eBy code, .int .i64 (q2 : Int)]], t2⟩ := by
  refine Ev.of ⟨Try.func96, by kernel_rfl, rfl, by kernel_rfl⟩ tabOk mixed (by show 3 ≤ Try.f96.ntmps; decide) ?_
  refine W.seq_region fun K hK => ?_
  simp (disch := omega) only [↓RU, RV, RH, ↓reduceIte, Nat.reduceEqDiff, reduceCtorEq, if_pos, ↓RS, RG, Nat.reduceAdd, Nat.reduceMul, Nat.reduceLeDiff]
  refine hK _ _ ?_
  clear hK K
  refine W.seq_region fun K hK => ?_
  simp (disch := omega) only [↓RU, RV, RH, ↓reduceIte, Nat.reduceEqDiff, reduceCtorEq, if_pos, List.append_nil, w64, ↓RS, RG, Nat.reduceAdd, Nat.reduceMul, Nat.reduceLeDiff, tyint]
  refine CallR.ev (pick_ev hc (by omega) (rows : Int) (by omega) (by omega)) ?_
  rintro _ _ ⟨k1, rfl, -, hk1, rfl⟩
  have hk1b := hk1 (by omega)
  simp (disch := omega) only [↓RU, RV, RH, ↓reduceIte, Nat.reduceEqDiff, reduceCtorEq, if_pos, List.append_nil, w64, ↓RS, RG, Nat.reduceAdd, Nat.reduceMul, Nat.reduceLeDiff, tyint, one_add]
  refine hK _ _ ?_
  clear hK K
  refine W.seq_region fun K hK => ?_
  simp (disch := omega) only [↓RU, RV, RH, ↓reduceIte, Nat.reduceEqDiff, reduceCtorEq, if_pos, List.append_nil, w64, ↓RS, RG, Nat.reduceAdd, Nat.reduceMul, Nat.reduceLeDiff, tyint]
  refine CallR.ev (pick_ev hc (by omega) (cols : Int) (by omega) (by omega)) ?_
  rintro _ _ ⟨k2, rfl, -, hk2, rfl⟩
  have hk2b := hk2 (by omega)
  simp (disch := omega) only [↓RU, RV, RH, ↓reduceIte, Nat.reduceEqDiff, reduceCtorEq, if_pos, List.append_nil, w64, ↓RS, RG, Nat.reduceAdd, Nat.reduceMul, Nat.reduceLeDiff, tyint, one_add]
  refine CallR.ev (l91Plan_ev (q := q + 1 + 1) hc (by omega) (nh := 1 + k1) (nw := 1 + k2) (by omega) (by omega) (by omega) (by omega)) ?_
  rintro _ _ ⟨p2, q2, t2, rfl, hp2, hl2, hq2, rfl⟩
  simp (disch := omega) only [↓RU, RV, RH, ↓reduceIte, Nat.reduceEqDiff, reduceCtorEq, if_pos, List.append_nil, w64, ↓RS, RG, Nat.reduceAdd, Nat.reduceMul, Nat.reduceLeDiff, tyint]
  refine hK _ _ ?_
  clear hK K
  obtain ⟨ps1, ps2, ps3⟩ := plan_small hp2
  have hsm := plan_sm hp2
  obtain ⟨nh, hnh⟩ : ∃ nh : Nat, 1 + k1 = nh := ⟨_, rfl⟩
  simp only [hnh] at hl2 ⊢
  refine W.joinZ [8] (fun vs S => ∃ (p3 : List Txt) (q3 tk : Nat), Sm p3 ∧ p3.length ≤ 6 ∧ q3 ≤ q + 200 ∧ vs = [eStrs p3] ∧ S = ⟨[.arr vr 111 2 [eBy code, .int .i64 (q3 : Int)]], tk⟩) ?_ ?_
  ·
    refine W.seq_region fun K hK => ?_
    simp (disch := omega) only [↓RU, RV, RH, ↓reduceIte, Nat.reduceEqDiff, reduceCtorEq, if_pos, List.append_nil, ↓RS, RG, Nat.reduceAdd, Nat.reduceMul, Nat.reduceLeDiff]
    refine CallR.ev (pick_ev hc (by omega) 50 (by omega) (by omega)) ?_
    rintro _ _ ⟨k3, rfl, -, hk3, rfl⟩
    simp (disch := omega) only [↓RU, RV, RH, ↓reduceIte, Nat.reduceEqDiff, reduceCtorEq, if_pos, List.append_nil, ↓RS, RG, Nat.reduceAdd, Nat.reduceMul, Nat.reduceLeDiff]
    refine hK _ _ ?_
    clear hK K
    refine W.block ?_
    refine W.seq_region fun K hK => ?_
    simp (disch := omega) only [↓RU, RV, RH, ↓reduceIte, Nat.reduceEqDiff, reduceCtorEq, if_pos, w64, ↓RS, RG, Nat.reduceAdd, Nat.reduceMul, Nat.reduceLeDiff, tyint]
    refine hK _ _ ?_
    clear hK K
    refine W.cond rfl (fun h0 => ?_) (fun h0 => ?_)
    · try simp only [RL] at h0
      obtain ⟨row, hrow, hrm⟩ := get_of (show nh - 1 < p2.length by omega)
      have hr6 := (ps3 row hrm).2
      refine W.seq_region fun K hK => ?_
      simp (disch := omega) only [↓RU, RV, RH, ↓reduceIte, Nat.reduceEqDiff, reduceCtorEq, if_pos, ↓RS, RG, Nat.reduceAdd, Nat.reduceMul, Nat.reduceLeDiff, tyLstring, tystring]
      refine hK _ _ ?_
      clear hK K
      refine W.region_k fun K hK => ?_
      simp (disch := omega) only [↓RU, RV, RH, ↓reduceIte, Nat.reduceEqDiff, reduceCtorEq, if_pos, w64, ↓RS, RG, Nat.reduceAdd, Nat.reduceMul, Nat.reduceLeDiff, tyLstring, tyint, tystring, toNat_pred, hrow, pStr, set_spl, set_str, cells_str, List.length_cons, List.length_nil]
      refine hK _ _ ?_
      clear hK K
      refine XBlock.norm ?_
      refine XThen.norm ?_
      have hPs : Sm (p2.set (nh - 1) (row ++ [97])) := sm_set hsm (by simp; omega)
      have hPl : (p2.set (nh - 1) (row ++ [97])).length = p2.length := by simp
      generalize p2.set (nh - 1) (row ++ [97]) = P at hPs hPl ⊢
      have htk : (P.map PV.str).take p2.length = P.map .str := List.take_of_length_le (by simp [hPl])
      refine ⟨1, [eStrs P], ⟨[.arr vr 111 2 [eBy code, .int .i64 ((q2 + 1 : Nat) : Int)]], t2 + 1 + 1⟩, ?_, ?_, P, q2 + 1, t2 + 1 + 1, hPs, by omega, by omega, rfl, rfl⟩
      · simp [-List.mapM_map, Store.frz, frzObs, frzOb, frz_eInts, frz_loc, rfz_loc, frz_int, frz_sl, frz_ints, rfz_ints, frz_strs, frz_bytes, rfz_bytes, rfz_str, rfz_bool, frz_str, frz_bool, Env.put, Env.of, argEnv, rfz_int, List.mapM_append, List.mapM_cons, frz_ref0, tk_strs, rfz_tstr, htk, hPl]
      · simp [-List.mapM_map, Store.frz, frzObs, frzOb, frz_eInts, frz_loc, rfz_loc, frz_int, frz_sl, frz_ints, rfz_ints, frz_strs, frz_bytes, rfz_bytes, rfz_str, rfz_bool, frz_str, frz_bool, Env.put, Env.of, argEnv, rfz_int, List.mapM_append, List.mapM_cons, frz_ref0, tk_strs, rfz_tstr]
    · try simp only [RL] at h0
      refine W.seq_region fun K hK => ?_
      simp (disch := omega) only [↓RU, RV, RH, ↓reduceIte, Nat.reduceEqDiff, reduceCtorEq, if_pos, w64, ↓RS, RG, Nat.reduceAdd, Nat.reduceMul, Nat.reduceLeDiff, tyint]
      refine hK _ _ ?_
      clear hK K
      refine W.cond rfl (fun h1 => ?_) (fun h1 => ?_)
      · try simp only [RL] at h1
        obtain ⟨row, hrow, hrm⟩ := get_of (show 0 < p2.length by omega)
        have hr6 := ps3 row hrm
        have hdl : (row.drop 1).length ≤ 6 := by rw [List.length_drop]; omega
        refine W.seq_region fun K hK => ?_
        simp (disch := omega) only [↓RU, RV, RH, ↓reduceIte, Nat.reduceEqDiff, reduceCtorEq, if_pos, ↓RS, RG, Nat.reduceAdd, Nat.reduceMul, Nat.reduceLeDiff, tyLstring, tystring]
        refine hK _ _ ?_
        clear hK K
        refine W.region_k fun K hK => ?_
        simp (disch := omega) only [↓RU, RV, RH, ↓reduceIte, Nat.reduceEqDiff, reduceCtorEq, if_pos, Option.map_none, w64, ↓RS, RG, Nat.reduceAdd, Nat.reduceMul, Nat.reduceLeDiff, tyLstring, tystring, hrow, pStr, set_spl, set_str, cells_str, List.length_cons, List.length_nil, Int.toNat_zero, Int.reduceToNat, List.take_length, Nat.zero_mul, Nat.zero_add]
        refine hK _ _ ?_
        clear hK K
        rw [set_hd (show 0 < p2.length by omega)]
        refine XBlock.norm ?_
        refine XThen.norm ?_
        have hPs : Sm (p2.set 0 (122 :: row.drop 1)) := sm_set hsm (by simp; omega)
        have hPl : (p2.set 0 (122 :: row.drop 1)).length = p2.length := by simp
        generalize p2.set 0 (122 :: row.drop 1) = P at hPs hPl ⊢
        have htk : (P.map PV.str).take p2.length = P.map .str := List.take_of_length_le (by simp [hPl])
        refine ⟨1, [eStrs P], ⟨[.arr vr 111 2 [eBy code, .int .i64 ((q2 + 1 : Nat) : Int)]], t2 + 1 + 1⟩, ?_, ?_, P, q2 + 1, t2 + 1 + 1, hPs, by omega, by omega, rfl, rfl⟩
        · simp [-List.mapM_map, Store.frz, frzObs, frzOb, frz_eInts, frz_loc, rfz_loc, frz_int, frz_sl, frz_ints, rfz_ints, frz_strs, frz_bytes, rfz_bytes, rfz_str, rfz_bool, frz_str, frz_bool, Env.put, Env.of, argEnv, rfz_int, List.mapM_append, List.mapM_cons, frz_ref0, tk_strs, rfz_tstr, htk, hPl]
        · simp [-List.mapM_map, Store.frz, frzObs, frzOb, frz_eInts, frz_loc, rfz_loc, frz_int, frz_sl, frz_ints, rfz_ints, frz_strs, frz_bytes, rfz_bytes, rfz_str, rfz_bool, frz_str, frz_bool, Env.put, Env.of, argEnv, rfz_int, List.mapM_append, List.mapM_cons, frz_ref0, tk_strs, rfz_tstr]
      · try simp only [RL] at h1
        refine W.skip ?_
        refine XBlock.norm ?_
        refine XThen.norm ?_
        have hPs := hsm
        have hPl : p2.length = p2.length := rfl
        have htk : True := trivial
        refine ⟨1, [eStrs p2], ⟨[.arr vr 111 2 [eBy code, .int .i64 ((q2 + 1 : Nat) : Int)]], t2⟩, ?_, ?_, p2, q2 + 1, t2, hPs, by omega, by omega, rfl, rfl⟩
        · simp [-List.mapM_map, Store.frz, frzObs, frzOb, frz_eInts, frz_loc, rfz_loc, frz_int, frz_sl, frz_ints, rfz_ints, frz_strs, frz_bytes, rfz_bytes, rfz_str, rfz_bool, frz_str, frz_bool, Env.put, Env.of, argEnv, rfz_int, List.mapM_append, List.mapM_cons, frz_ref0, tk_strs, rfz_tstr, htk, hPl]
        · simp [-List.mapM_map, Store.frz, frzObs, frzOb, frz_eInts, frz_loc, rfz_loc, frz_int, frz_sl, frz_ints, rfz_ints, frz_strs, frz_bytes, rfz_bytes, rfz_str, rfz_bool, frz_str, frz_bool, Env.put, Env.of, argEnv, rfz_int, List.mapM_append, List.mapM_cons, frz_ref0, tk_strs, rfz_tstr]
  rintro vs S - ⟨p3, q3, tk, hs3, hl3, hq3, rfl, rfl⟩
  refine W.seq_region fun K hK => ?_
  simp (disch := omega) only [↓RU, RV, RH, ↓reduceIte, Nat.reduceEqDiff, reduceCtorEq, if_pos, ↓RS, RG, Nat.reduceAdd, Nat.reduceMul, Nat.reduceLeDiff]
  refine hK _ _ ?_
  clear hK K
  refine W.ret ?_
  refine BodyQ.ret rfl ?_
  exact ⟨_, p3, q3, tk, rfl, hs3, hl3, hq3, take_all⟩

theorem l91Plain_ev {code : Txt} {q vr t : Nat} (hc : code.length ≤ 1048576) (hq : q ≤ 600000) {rows cols : Nat} (h1 : 1 ≤ rows) (h2 : rows ≤ 6) (w1 : 1 ≤ cols) (w2 : cols ≤ 6) : Ev Try.prog 73 [.ref 0 vr 0, .int .i64 rows, .int .i64 cols] ⟨[.arr vr 111 2 [eBy code, .int .i64 (q : Int)]], t⟩ fun v S => ∃ (p2 : List Txt) (q2 t2 : Nat), v = eStrs p2 ∧ Sm p2 ∧ p2.length ≤ 6 ∧ q2 ≤ q + 1000 ∧ S = ⟨[.arr vr 111 2 [eBy code, .int .i64 (q2 : Int)]], t2⟩ := by
  refine Ev.of ⟨Try.func73, by kernel_rfl, rfl, by kernel_rfl⟩ tabOk mixed (by show 3 ≤ Try.f73.ntmps; decide) ?_
  refine W.seq_region fun K hK => ?_
  simp (disch := omega) only [↓RU, RV, RH, ↓reduceIte, Nat.reduceEqDiff, reduceCtorEq, if_pos, ↓RS, RG, Nat.reduceAdd, Nat.reduceMul, Nat.reduceLeDiff]
  refine hK _ _ ?_
  clear hK K
  refine W.seq_region fun K hK => ?_
  simp (disch := omega) only [↓RU, RV, RH, ↓reduceIte, Nat.reduceEqDiff, reduceCtorEq, if_pos, List.append_nil, ↓RS, RG, Nat.reduceAdd, Nat.reduceMul, Nat.reduceLeDiff]
  refine CallR.ev (l91Some_ev (q := q) hc (by omega) h1 h2 w1 w2) ?_
  rintro _ _ ⟨p3, q3, t3, rfl, hs3, hl3, hq3, rfl⟩
  simp (disch := omega) only [↓RU, RV, RH, ↓reduceIte, Nat.reduceEqDiff, reduceCtorEq, if_pos, List.append_nil, ↓RS, RG, Nat.reduceAdd, Nat.reduceMul, Nat.reduceLeDiff]
  refine hK _ _ ?_
  clear hK K
  refine W.seq ?_
  refine W.seq_region fun K hK => ?_
  simp (disch := omega) only [↓RU, RV, RH, ↓reduceIte, Nat.reduceEqDiff, reduceCtorEq, if_pos, ↓RS, RG, Nat.reduceAdd, Nat.reduceMul, Nat.reduceLeDiff]
  refine hK _ _ ?_
  clear hK K
  refine W.block ?_
  refine W.loop [0, 1, 2, 7, 8] (fun n vs S => ∃ (i : Nat) (p2 : List Txt) (q2 tk : Nat), n = 3 - i ∧ i ≤ 3 ∧ Sm p2 ∧ p2.length ≤ 6 ∧ q2 ≤ q + 200 + 200 * i ∧ vs = [.ref 0 vr 0, .int .i64 rows, .int .i64 cols, eStrs p2, .int .i64 i] ∧ S = ⟨[.arr vr 111 2 [eBy code, .int .i64 (q2 : Int)]], tk⟩) 3 ?_ ?_
  · refine ⟨1, 0, p3, q3, t3, rfl, by omega, hs3, hl3, by omega, ?_, rfl⟩
    simp [Env.put, Env.of, argEnv]
  rintro n vs S - ⟨i, p2, q2, tk, rfl, h_i, hs2, hl2, hq2, rfl, rfl⟩
  refine W.seq ?_
  refine W.seq_region fun K hK => ?_
  by_cases hi3 : i < 3
  · skip
    have hd : decide ((i : Int) < 3) = true := decide_eq_true (by omega)
    simp (disch := omega) only [↓RU, RV, RH, ↓reduceIte, Nat.reduceEqDiff, reduceCtorEq, if_pos, w64, List.append_nil, ↓RS, RG, Nat.reduceAdd, Nat.reduceMul, Nat.reduceLeDiff, tyint, hd]
    refine CallR.pc (sWallPlain_pc hs2) rfl (.inl rfl) ?_
    simp (disch := omega) only [↓RU, RV, RH, ↓reduceIte, Nat.reduceEqDiff, reduceCtorEq, if_pos, w64, List.append_nil, ↓RS, RG, Nat.reduceAdd, Nat.reduceMul, Nat.reduceLeDiff, tyint, hd]
    refine hK _ _ ?_
    clear hK K
    refine W.cond rfl (fun h => ?_) (fun h => ?_)
    · try simp only [RL] at h
      refine W.skip ?_
      refine XThen.norm ?_
      refine W.seq ?_
      refine W.block ?_
      refine W.region_k fun K hK => ?_
      simp (disch := omega) only [↓RU, RV, RH, ↓reduceIte, Nat.reduceEqDiff, reduceCtorEq, if_pos, List.append_nil, ↓RS, RG, Nat.reduceAdd, Nat.reduceMul, Nat.reduceLeDiff]
      refine CallR.ev (l91Some_ev (q := q2) hc (by omega) h1 h2 w1 w2) ?_
      rintro _ _ ⟨p3, q3, t3, rfl, hs3, hl3, hq3, rfl⟩
      simp (disch := omega) only [↓RU, RV, RH, ↓reduceIte, Nat.reduceEqDiff, reduceCtorEq, if_pos, List.append_nil, ↓RS, RG, Nat.reduceAdd, Nat.reduceMul, Nat.reduceLeDiff]
      refine hK _ _ ?_
      clear hK K
      refine XBlock.norm ?_
      refine XThen.norm ?_
      refine W.region_k fun K hK => ?_
      simp (disch := omega) only [↓RU, RV, RH, ↓reduceIte, Nat.reduceEqDiff, reduceCtorEq, if_pos, w64, ↓RS, RG, Nat.reduceAdd, Nat.reduceMul, Nat.reduceLeDiff, tyint]
      refine hK _ _ ?_
      clear hK K
      refine XThen.norm ?_
      refine ⟨3 - (i + 1), by omega, 1, i + 1, p3, q3, t3, rfl, by omega, hs3, hl3, by omega, ?_, rfl⟩
      simp [Env.put, Env.of]
    · try simp only [RL] at h
      refine W.exit ?_
      refine XThen.exit ?_
      refine XThen.exit ?_
      refine XBlock.hit ?_
      refine XThen.norm ?_
      refine W.seq_region fun K hK => ?_
      simp (disch := omega) only [↓RU, RV, RH, ↓reduceIte, Nat.reduceEqDiff, reduceCtorEq, if_pos, ↓RS, RG, Nat.reduceAdd, Nat.reduceMul, Nat.reduceLeDiff]
      refine hK _ _ ?_
      clear hK K
      refine W.ret ?_
      refine BodyQ.ret rfl ?_
      exact ⟨_, p2, q2, tk, rfl, hs2, hl2, by omega, take_all⟩
  · skip
    have hd : decide ((i : Int) < 3) = false := decide_eq_false (by omega)
    simp (disch := omega) only [↓RU, RV, RH, ↓reduceIte, Nat.reduceEqDiff, reduceCtorEq, if_pos, w64, List.append_nil, ↓RS, RG, Nat.reduceAdd, Nat.reduceMul, Nat.reduceLeDiff, tyint, hd]
    refine hK _ _ ?_
    clear hK K
    refine W.cond rfl (fun h => ?_) (fun h => ?_)
    · try simp only [RL] at h
      exact absurd h (by simp)
    · try simp only [RL] at h
      refine W.exit ?_
      refine XThen.exit ?_
      refine XThen.exit ?_
      refine XBlock.hit ?_
      refine XThen.norm ?_
      refine W.seq_region fun K hK => ?_
      simp (disch := omega) only [↓RU, RV, RH, ↓reduceIte, Nat.reduceEqDiff, reduceCtorEq, if_pos, ↓RS, RG, Nat.reduceAdd, Nat.reduceMul, Nat.reduceLeDiff]
      refine hK _ _ ?_
      clear hK K
      refine W.ret ?_
      refine BodyQ.ret rfl ?_
      exact ⟨_, p2, q2, tk, rfl, hs2, hl2, by omega, take_all⟩

theorem tdiv23 {k : Nat} : ((k : Nat) : Int).tdiv 23 = ((k / 23 : Nat) : Int) := (Int.ofNat_tdiv k 23).symm
theorem tw0 : ((23 : Int) = 0) = False := by simp

theorem l91Ordered_ev {code : Txt} (hc : code.length ≤ 1048576) : Ev Try.prog 44 [eBy code] ⟨[], 0⟩ fun v S => ∃ (p : List Txt) (a b : Int) (t : Nat), Sm p ∧ -300 ≤ a ∧ a ≤ 300 ∧ -300 ≤ b ∧ b ≤ 300 ∧ v = .tup [eStrs p, .int .i64 a, .int .i64 b] ∧ S = ⟨[], t⟩ := by
  refine Ev.of ⟨Try.func44, by kernel_rfl, rfl, by kernel_rfl⟩ tabOk mixed (by show 1 ≤ Try.f44.ntmps; decide) ?_
  refine W.seq_region fun K hK => ?_
  simp (disch := omega) only [↓RU, RV, RH, ↓reduceIte, Nat.reduceEqDiff, reduceCtorEq, if_pos, ↓RS, RG, Nat.reduceAdd, Nat.reduceMul, Nat.reduceLeDiff]
  refine hK _ _ ?_
  clear hK K
  refine W.seq_region fun K hK => ?_
  simp (disch := omega) only [↓RU, RV, RH, ↓reduceIte, Nat.reduceEqDiff, reduceCtorEq, if_pos, List.append_nil, ↓RS, RG, Nat.reduceAdd, Nat.reduceMul, Nat.reduceLeDiff, rdO]
  refine CallR.pn (l6Open_pn hc) rfl (.inr rfl) ?_
  simp (disch := omega) only [↓RU, RV, RH, ↓reduceIte, Nat.reduceEqDiff, reduceCtorEq, if_pos, List.append_nil, ↓RS, RG, Nat.reduceAdd, Nat.reduceMul, Nat.reduceLeDiff, rdO, rdO, RN]
  refine hK _ _ ?_
  clear hK K
  refine W.seq_region fun K hK => ?_
  have hc2 : (code.take 2000).length ≤ 1048576 := by rw [List.length_take]; omega
  generalize code.take 2000 = code2 at hc2 ⊢
  simp (disch := omega) only [↓RU, RV, RH, ↓reduceIte, Nat.reduceEqDiff, reduceCtorEq, if_pos, List.append_nil, ↓RS, RG, Nat.reduceAdd, Nat.reduceMul, Nat.reduceLeDiff]
  refine CallR.ev (l91Plain_ev (q := 0) (code := code2) hc2 (by omega) (rows := 5) (cols := 5) (by omega) (by omega) (by omega) (by omega)) ?_
  rintro _ _ ⟨p, q, t, rfl, hs, hl, hq, rfl⟩
  simp (disch := omega) only [↓RU, RV, RH, ↓reduceIte, Nat.reduceEqDiff, reduceCtorEq, if_pos, List.append_nil, ↓RS, RG, Nat.reduceAdd, Nat.reduceMul, Nat.reduceLeDiff]
  refine hK _ _ ?_
  clear hK K
  have hrb := l1Rooms_bound p
  refine W.seq_region fun K hK => ?_
  simp (disch := omega) only [↓RU, RV, RH, ↓reduceIte, Nat.reduceEqDiff, reduceCtorEq, if_pos, List.append_nil, w64, ↓RS, RG, Nat.reduceAdd, Nat.reduceMul, Nat.reduceLeDiff, tyint]
  refine CallR.pc (l1Rooms_pc hs) rfl (.inl rfl) ?_
  simp (disch := omega) only [↓RU, RV, RH, ↓reduceIte, Nat.reduceEqDiff, reduceCtorEq, if_pos, List.append_nil, w64, ↓RS, RG, Nat.reduceAdd, Nat.reduceMul, Nat.reduceLeDiff, tyint]
  refine CallR.ev (pick_ev (q := q) hc2 (by omega) (l1Rooms p) (by omega) (by omega)) ?_
  rintro _ _ ⟨k1, rfl, hk1z, hk1, rfl⟩
  simp (disch := omega) only [↓RU, RV, RH, ↓reduceIte, Nat.reduceEqDiff, reduceCtorEq, if_pos, List.append_nil, w64, ↓RS, RG, Nat.reduceAdd, Nat.reduceMul, Nat.reduceLeDiff, tyint, tdiv23, tw0]
  refine CallR.pc (l1Rooms_pc hs) rfl (.inl rfl) ?_
  simp (disch := omega) only [↓RU, RV, RH, ↓reduceIte, Nat.reduceEqDiff, reduceCtorEq, if_pos, List.append_nil, w64, ↓RS, RG, Nat.reduceAdd, Nat.reduceMul, Nat.reduceLeDiff, tyint]
  refine CallR.ev (pick_ev (q := q + 1) hc2 (by omega) 24 (by omega) (by omega)) ?_
  rintro _ _ ⟨k2, rfl, hk2z, hk2, rfl⟩
  simp (disch := omega) only [↓RU, RV, RH, ↓reduceIte, Nat.reduceEqDiff, reduceCtorEq, if_pos, List.append_nil, w64, ↓RS, RG, Nat.reduceAdd, Nat.reduceMul, Nat.reduceLeDiff, tyint, tdiv23, tw0]
  refine CallR.ev (pick_ev (q := q + 1 + 1) hc2 (by omega) (l1Rooms p + ((k2 / 23 : Nat) : Int)) (by omega) (by omega)) ?_
  rintro _ _ ⟨k3, rfl, hk3z, hk3, rfl⟩
  simp (disch := omega) only [↓RU, RV, RH, ↓reduceIte, Nat.reduceEqDiff, reduceCtorEq, if_pos, List.append_nil, w64, ↓RS, RG, Nat.reduceAdd, Nat.reduceMul, Nat.reduceLeDiff, tyint, tdiv23, tw0]
  refine CallR.ev (pick_ev (q := q + 1 + 1 + 1) hc2 (by omega) 24 (by omega) (by omega)) ?_
  rintro _ _ ⟨k4, rfl, hk4z, hk4, rfl⟩
  simp (disch := omega) only [↓RU, RV, RH, ↓reduceIte, Nat.reduceEqDiff, reduceCtorEq, if_pos, List.append_nil, w64, ↓RS, RG, Nat.reduceAdd, Nat.reduceMul, Nat.reduceLeDiff, tyint, tdiv23, tw0]
  refine hK _ _ ?_
  clear hK K
  refine W.ret ?_
  refine BodyQ.ret rfl ?_
  have hk1c := hk1
  have hk3c := hk3
  have hk4c := hk4 (by omega)
  refine ⟨0, p, (k1 : Int), (k3 : Int) - ((k4 / 23 : Nat) : Int), _, hs, by omega, by omega, by omega, by omega, rfl, rfl⟩

theorem drawLeft_ev {code : Txt} (hc : code.length ≤ 1048576) : Ev Try.prog 13 [eBy code] ⟨[], 0⟩ fun v S => ∃ (p : List Txt) (a b : Int) (t : Nat), Sm p ∧ -300 ≤ a ∧ a ≤ 300 ∧ -300 ≤ b ∧ b ≤ 300 ∧ v = .tup [eStrs p, .int .i64 a, .int .i64 b] ∧ S = ⟨[], t⟩ := by
  refine Ev.of ⟨Try.func13, by kernel_rfl, rfl, by kernel_rfl⟩ tabOk mixed (by show 1 ≤ Try.f13.ntmps; decide) ?_
  refine W.seq_region fun K hK => ?_
  simp (disch := omega) only [↓RU, RV, RH, ↓reduceIte, Nat.reduceEqDiff, reduceCtorEq, if_pos, ↓RS, RG, Nat.reduceAdd, Nat.reduceMul, Nat.reduceLeDiff]
  refine hK _ _ ?_
  clear hK K
  refine W.seq_region fun K hK => ?_
  simp (disch := omega) only [↓RU, RV, RH, ↓reduceIte, Nat.reduceEqDiff, reduceCtorEq, if_pos, List.append_nil, ↓RS, RG, Nat.reduceAdd, Nat.reduceMul, Nat.reduceLeDiff]
  refine CallR.ev (l91Ordered_ev hc) ?_
  rintro _ _ ⟨p, a, b, t, hs, ha1, ha2, hb1, hb2, rfl, rfl⟩
  simp (disch := omega) only [↓RU, RV, RH, ↓reduceIte, Nat.reduceEqDiff, reduceCtorEq, if_pos, List.append_nil, ↓RS, RG, Nat.reduceAdd, Nat.reduceMul, Nat.reduceLeDiff]
  refine hK _ _ ?_
  clear hK K
  refine W.ret ?_
  refine BodyQ.ret rfl ?_
  exact ⟨0, p, a, b, _, hs, ha1, ha2, hb1, hb2, rfl, rfl⟩

theorem drawAbove_ev {code : Txt} (hc : code.length ≤ 1048576) : Ev Try.prog 28 [eBy code] ⟨[], 0⟩ fun v S => ∃ (p : List Txt) (a b : Int) (t : Nat), Sm p ∧ -300 ≤ a ∧ a ≤ 300 ∧ -300 ≤ b ∧ b ≤ 300 ∧ v = .tup [eStrs p, .int .i64 a, .int .i64 b] ∧ S = ⟨[], t⟩ := by
  refine Ev.of ⟨Try.func28, by kernel_rfl, rfl, by kernel_rfl⟩ tabOk mixed (by show 1 ≤ Try.f28.ntmps; decide) ?_
  refine W.seq_region fun K hK => ?_
  simp (disch := omega) only [↓RU, RV, RH, ↓reduceIte, Nat.reduceEqDiff, reduceCtorEq, if_pos, ↓RS, RG, Nat.reduceAdd, Nat.reduceMul, Nat.reduceLeDiff]
  refine hK _ _ ?_
  clear hK K
  refine W.seq_region fun K hK => ?_
  simp (disch := omega) only [↓RU, RV, RH, ↓reduceIte, Nat.reduceEqDiff, reduceCtorEq, if_pos, List.append_nil, ↓RS, RG, Nat.reduceAdd, Nat.reduceMul, Nat.reduceLeDiff]
  refine CallR.ev (l91Ordered_ev hc) ?_
  rintro _ _ ⟨p, a, b, t, hs, ha1, ha2, hb1, hb2, rfl, rfl⟩
  simp (disch := omega) only [↓RU, RV, RH, ↓reduceIte, Nat.reduceEqDiff, reduceCtorEq, if_pos, List.append_nil, ↓RS, RG, Nat.reduceAdd, Nat.reduceMul, Nat.reduceLeDiff]
  refine hK _ _ ?_
  clear hK K
  refine W.ret ?_
  refine BodyQ.ret rfl ?_
  exact ⟨0, p, a, b, _, hs, ha1, ha2, hb1, hb2, rfl, rfl⟩

theorem drawKind_ev {code : Txt} (hc : code.length ≤ 1048576) : Ev Try.prog 31 [eBy code] ⟨[], 0⟩ fun v S => ∃ (p : List Txt) (a b : Int) (t : Nat), Sm p ∧ -300 ≤ a ∧ a ≤ 300 ∧ -300 ≤ b ∧ b ≤ 300 ∧ v = .tup [eStrs p, .int .i64 a, .int .i64 b] ∧ S = ⟨[], t⟩ := by
  refine Ev.of ⟨Try.func31, by kernel_rfl, rfl, by kernel_rfl⟩ tabOk mixed (by show 1 ≤ Try.f31.ntmps; decide) ?_
  refine W.seq_region fun K hK => ?_
  simp (disch := omega) only [↓RU, RV, RH, ↓reduceIte, Nat.reduceEqDiff, reduceCtorEq, if_pos, ↓RS, RG, Nat.reduceAdd, Nat.reduceMul, Nat.reduceLeDiff]
  refine hK _ _ ?_
  clear hK K
  refine W.seq_region fun K hK => ?_
  simp (disch := omega) only [↓RU, RV, RH, ↓reduceIte, Nat.reduceEqDiff, reduceCtorEq, if_pos, List.append_nil, ↓RS, RG, Nat.reduceAdd, Nat.reduceMul, Nat.reduceLeDiff]
  refine CallR.ev (l91Ordered_ev hc) ?_
  rintro _ _ ⟨p, a, b, t, hs, ha1, ha2, hb1, hb2, rfl, rfl⟩
  simp (disch := omega) only [↓RU, RV, RH, ↓reduceIte, Nat.reduceEqDiff, reduceCtorEq, if_pos, List.append_nil, ↓RS, RG, Nat.reduceAdd, Nat.reduceMul, Nat.reduceLeDiff]
  refine hK _ _ ?_
  clear hK K
  refine W.ret ?_
  refine BodyQ.ret rfl ?_
  exact ⟨0, p, a, b, _, hs, ha1, ha2, hb1, hb2, rfl, rfl⟩

end Fw
end Go.Proofs.Ytmhcknpjgikgmaa

/-! The laws of left and above, gone through. -/
namespace Go.Proofs.Ytmhcknpjgikgmaa
namespace Fw
open Go

theorem askV_nat {p : List Txt} {M : List (List Bool)} {a b : Int} (h : askV p M a b = true) : ∃ a' b' : Nat, a = a' ∧ b = b' ∧ a' < (rP p).length ∧ b' < (rP p).length ∧ plainI p = true ∧ getB M a' b' = true := by
  unfold askV at h
  simp only [Bool.and_eq_true, Bool.not_eq_true', decide_eq_false_iff_not] at h
  obtain ⟨⟨⟨h1, h2⟩, h3⟩, h4⟩ := h
  exact ⟨a.toNat, b.toNat, by omega, by omega, by omega, by omega, h1, h4⟩
theorem askV_of {p : List Txt} {M : List (List Bool)} {a b : Nat} (hv : plainI p = true) (ha : a < (rP p).length) (hb : b < (rP p).length) : askV p M a b = getB M a b := by
  unfold askV
  have e1 : decide (min (a : Int) (b : Int) < 0) = false := decide_eq_false (by omega)
  have e2 : decide (max (a : Int) (b : Int) ≥ ((rP p).length : Int)) = false := decide_eq_false (by omega)
  rw [hv, e1, e2, Int.toNat_natCast, Int.toNat_natCast]; rfl
theorem plainI_B {p : List Txt} (h : plainI p = true) : plainB p = true := by rw [← plainI_plain]; exact h
/-- What is asked of the program is what the specification says. -/
theorem ask_ord {p : List Txt} (a b : Int) : askV p (lfM p) a b = ordS p 0 a b ∧ askV p (abM p) a b = ordS p 1 a b := by
  cases hv : plainI p with
  | false =>
    have hb : plainB p = false := by rw [← plainI_plain]; exact hv
    unfold askV ordS
    rw [hv, hb]; exact ⟨rfl, rfl⟩
  | true =>
    have hp := plainI_B hv
    have hpl := plain_plan hp
    have hN := plan_named hpl
    have hr := hN.rooms
    obtain ⟨s0, s1⟩ := same_all hN.hg (n := (rP p).length) (by omega) (fun i j hi hj => hN.cell hi hj) gP_room
    have key : ∀ {M : List (List Bool)} {k : Int}, Same (rP p).length M (allS p k) → askV p M a b = ordS p k a b := by
      intro M k hs
      unfold askV ordS givenB
      rw [hv, hp, hpl]
      by_cases q : 0 ≤ a ∧ 0 ≤ b ∧ a < (rP p).length ∧ b < (rP p).length
      · obtain ⟨q1, q2, q3, q4⟩ := q
        have e1 : decide (min a b < 0) = false := decide_eq_false (by omega)
        have e2 : decide (max a b ≥ ((rP p).length : Int)) = false := decide_eq_false (by omega)
        rw [e1, e2, hs.2.2 a.toNat b.toNat (by omega) (by omega)]
        simp only [Bool.true_and, Bool.not_false]
        have e3 : decide (0 ≤ a) = true := decide_eq_true q1
        have e4 : decide (a ≤ l1Rooms p - 1) = true := decide_eq_true (by omega)
        have e5 : decide (0 ≤ b) = true := decide_eq_true q2
        have e6 : decide (b ≤ l1Rooms p - 1) = true := decide_eq_true (by omega)
        rw [e3, e4, e5, e6]; rfl
      · have l : (true && !decide (min a b < 0) && !decide (max a b ≥ ((rP p).length : Int))) = false := by
          by_cases c1 : min a b < 0
          · rw [decide_eq_true c1]; rfl
          · have c2 : max a b ≥ ((rP p).length : Int) := by omega
            rw [decide_eq_true c2]; simp
        have r : (true && (true && (decide (0 ≤ a) && decide (a ≤ l1Rooms p - 1))) && (true && (decide (0 ≤ b) && decide (b ≤ l1Rooms p - 1)))) = false := by
          simp only [Bool.true_and, Bool.and_eq_false_iff, decide_eq_false_iff_not]
          omega
        rw [l, r]; rfl
    exact ⟨key s0, key s1⟩
/-- Left of leads on, and is none of the others. -/
theorem left_facts {p : List Txt} {a b : Int} (h : askV p (lfM p) a b = true) : floorI p = true ∧ askV p (lfM p) b a = false ∧ askV p (abM p) a b = false ∧ askV p (abM p) b a = false ∧ ∀ c : Nat, c < (rP p).length → askV p (lfM p) b c = true → askV p (lfM p) a c = true := by
  obtain ⟨a, b, rfl, rfl, ha, hb, hv, hg⟩ := askV_nat h
  have hp := plainI_B hv
  obtain ⟨o1, o2, o3⟩ := Lf.only hp ha hb hg
  have hf : floorI p = true := by unfold plainI at hv; simp only [Bool.and_eq_true] at hv; exact hv.1
  rw [askV_of hv hb ha, askV_of hv ha hb, askV_of hv hb ha]
  refine ⟨hf, by simpa [Lf] using o1, by simpa [Ab] using o2, by simpa [Ab] using o3, fun c hc h2 => ?_⟩
  rw [askV_of hv hb hc] at h2
  rw [askV_of hv ha hc]
  exact Lf.trans ha hb hc hg h2
theorem above_facts {p : List Txt} {a b : Int} (h : askV p (abM p) a b = true) : floorI p = true ∧ askV p (abM p) b a = false ∧ askV p (lfM p) a b = false ∧ askV p (lfM p) b a = false ∧ ∀ c : Nat, c < (rP p).length → askV p (abM p) b c = true → askV p (abM p) a c = true := by
  obtain ⟨a, b, rfl, rfl, ha, hb, hv, hg⟩ := askV_nat h
  have hp := plainI_B hv
  obtain ⟨o1, o2, o3⟩ := Ab.only hp ha hb hg
  have hf : floorI p = true := by unfold plainI at hv; simp only [Bool.and_eq_true] at hv; exact hv.1
  rw [askV_of hv hb ha, askV_of hv ha hb, askV_of hv hb ha]
  refine ⟨hf, by simpa [Ab] using o1, by simpa [Lf] using o2, by simpa [Lf] using o3, fun c hc h2 => ?_⟩
  rw [askV_of hv hb hc] at h2
  rw [askV_of hv ha hc]
  exact Ab.trans ha hb hc hg h2

theorem left_law {code : Txt} (hcode : code.length ≤ 9223372036854775807) : PC Try.prog 3 [eBy code] (.bool true) true := by
  refine PC.of ⟨Try.func3, by kernel_rfl, rfl, by kernel_rfl⟩ tabOk mixed (by show 1 ≤ Try.f3.ntmps; decide) ?_
  refine W.seq_region fun K hK => ?_
  simp (disch := omega) only [↓RU, RV, RH, ↓reduceIte, Nat.reduceEqDiff, reduceCtorEq, if_pos, ↓RS, RG, Nat.reduceAdd, Nat.reduceMul, Nat.reduceLeDiff]
  refine hK _ _ ?_
  clear hK K
  refine W.seq ?_
  refine W.seq_region fun K hK => ?_
  simp (disch := omega) only [↓RU, RV, RH, ↓reduceIte, Nat.reduceEqDiff, reduceCtorEq, if_pos, w64, ↓RS, RG, Nat.reduceAdd, Nat.reduceMul, Nat.reduceLeDiff, tyLuint8, tyint, tyuint8]
  refine hK _ _ ?_
  clear hK K
  refine W.cond rfl (fun h0 => ?_) (fun h0 => ?_)
  · try simp only [RL] at h0
    refine W.seq_region fun K hK => ?_
    simp (disch := omega) only [↓RU, RV, RH, ↓reduceIte, Nat.reduceEqDiff, reduceCtorEq, if_pos, ↓RS, RG, Nat.reduceAdd, Nat.reduceMul, Nat.reduceLeDiff]
    refine hK _ _ ?_
    clear hK K
    refine W.ret ?_
    refine XThen.ret ?_
    refine BodyQ.ret rfl ?_
    rfl
  · try simp only [RL] at h0
    have hcl : code.length ≤ 1048576 := by omega
    refine W.skip ?_
    refine XThen.norm ?_
    refine W.seq_region fun K hK => ?_
    simp (disch := omega) only [↓RU, RV, RH, ↓reduceIte, Nat.reduceEqDiff, reduceCtorEq, if_pos, List.append_nil, ↓RS, RG, Nat.reduceAdd, Nat.reduceMul, Nat.reduceLeDiff]
    refine CallR.ev (drawLeft_ev hcl) ?_
    rintro _ _ ⟨p, a, b, t, hs, ha1, ha2, hb1, hb2, rfl, rfl⟩
    simp (disch := omega) only [↓RU, RV, RH, ↓reduceIte, Nat.reduceEqDiff, reduceCtorEq, if_pos, List.append_nil, ↓RS, RG, Nat.reduceAdd, Nat.reduceMul, Nat.reduceLeDiff]
    refine hK _ _ ?_
    clear hK K
    refine W.seq_region fun K hK => ?_
    simp (disch := omega) only [↓RU, RV, RH, ↓reduceIte, Nat.reduceEqDiff, reduceCtorEq, if_pos, List.append_nil, ↓RS, RG, Nat.reduceAdd, Nat.reduceMul, Nat.reduceLeDiff]
    refine CallR.pc (orderLeft_pc hs a b) rfl (.inl rfl) ?_
    simp (disch := omega) only [↓RU, RV, RH, ↓reduceIte, Nat.reduceEqDiff, reduceCtorEq, if_pos, List.append_nil, ↓RS, RG, Nat.reduceAdd, Nat.reduceMul, Nat.reduceLeDiff]
    refine hK _ _ ?_
    clear hK K
    refine W.seq_region fun K hK => ?_
    simp (disch := omega) only [↓RU, RV, RH, ↓reduceIte, Nat.reduceEqDiff, reduceCtorEq, if_pos, List.append_nil, ↓RS, RG, Nat.reduceAdd, Nat.reduceMul, Nat.reduceLeDiff]
    refine CallR.pc (sOrderLeft_pc hs a b) rfl (.inl rfl) ?_
    simp (disch := omega) only [↓RU, RV, RH, ↓reduceIte, Nat.reduceEqDiff, reduceCtorEq, if_pos, List.append_nil, ↓RS, RG, Nat.reduceAdd, Nat.reduceMul, Nat.reduceLeDiff]
    refine hK _ _ ?_
    clear hK K
    rw [← (ask_ord a b).1]
    refine W.seq ?_
    refine W.seq_region fun K hK => ?_
    cases hl : askV p (lfM p) a b
    · skip
      simp (disch := omega) only [↓RU, RV, RH, ↓reduceIte, Nat.reduceEqDiff, reduceCtorEq, if_pos, w64, ↓RS, RG, Nat.reduceAdd, Nat.reduceMul, Nat.reduceLeDiff, tybool, hl, bne_self_eq_false]
      refine hK _ _ ?_
      clear hK K
      refine W.cond rfl (fun h1 => ?_) (fun h1 => ?_)
      · try simp only [RL] at h1
        refine W.seq_region fun K hK => ?_
        simp (disch := omega) only [↓RU, RV, RH, ↓reduceIte, Nat.reduceEqDiff, reduceCtorEq, if_pos, w64, ↓RS, RG, Nat.reduceAdd, Nat.reduceMul, Nat.reduceLeDiff, tybool, hl, beq_self_eq_true]
        refine hK _ _ ?_
        clear hK K
        refine W.ret ?_
        refine XThen.ret ?_
        refine BodyQ.ret rfl ?_
        rfl
      · try simp only [RL] at h1
        exact absurd h1 (by simp)
    · skip
      obtain ⟨hf, g1, g2, g3, g4⟩ := left_facts hl
      simp (disch := omega) only [↓RU, RV, RH, ↓reduceIte, Nat.reduceEqDiff, reduceCtorEq, if_pos, w64, ↓RS, RG, Nat.reduceAdd, Nat.reduceMul, Nat.reduceLeDiff, tybool, hl, bne_self_eq_false]
      refine hK _ _ ?_
      clear hK K
      refine W.cond rfl (fun h1 => ?_) (fun h1 => ?_)
      · try simp only [RL] at h1
        exact absurd h1 (by simp)
      · try simp only [RL] at h1
        refine W.skip ?_
        refine XThen.norm ?_
        refine W.seq_region fun K hK => ?_
        simp (disch := omega) only [↓RU, RV, RH, ↓reduceIte, Nat.reduceEqDiff, reduceCtorEq, if_pos, List.append_nil, ↓RS, RG, Nat.reduceAdd, Nat.reduceMul, Nat.reduceLeDiff]
        refine CallR.pc (planRooms_pc hs hf) rfl (.inl rfl) ?_
        simp (disch := omega) only [↓RU, RV, RH, ↓reduceIte, Nat.reduceEqDiff, reduceCtorEq, if_pos, List.append_nil, ↓RS, RG, Nat.reduceAdd, Nat.reduceMul, Nat.reduceLeDiff]
        refine hK _ _ ?_
        clear hK K
        refine W.seq ?_
        refine W.seq_region fun K hK => ?_
        simp (disch := omega) only [↓RU, RV, RH, ↓reduceIte, Nat.reduceEqDiff, reduceCtorEq, if_pos, ↓RS, RG, Nat.reduceAdd, Nat.reduceMul, Nat.reduceLeDiff]
        refine hK _ _ ?_
        clear hK K
        refine W.block ?_
        refine W.loop [3, 4, 5, 8, 9, 10] (fun n vs S => ∃ c t2 : Nat, n = (rP p).length - c ∧ c ≤ (rP p).length ∧ vs = [eStrs p, .int .i64 a, .int .i64 b, .int .i64 (rP p).length, .bool true, .int .i64 c] ∧ S = ⟨[], t2⟩) (rP p).length ?_ ?_
        · refine ⟨0, 0, t, rfl, by omega, ?_, rfl⟩
          simp [Env.put, Env.of, argEnv]
        rintro n vs S - ⟨c, t2, rfl, h_c, rfl, rfl⟩
        refine W.seq ?_
        refine W.seq_region fun K hK => ?_
        simp (disch := omega) only [↓RU, RV, RH, ↓reduceIte, Nat.reduceEqDiff, reduceCtorEq, if_pos, w64, ↓RS, RG, Nat.reduceAdd, Nat.reduceMul, Nat.reduceLeDiff, tyint]
        refine hK _ _ ?_
        clear hK K
        refine W.cond rfl (fun h2 => ?_) (fun h2 => ?_)
        · try simp only [RL] at h2
          have hrn : (rP p).length ≤ 9 := okB_rooms (plain_okB (askV_nat hl).choose_spec.choose_spec.2.2.2.2.1).1
          have hc : c < (rP p).length := by omega
          have g5 := g4 c hc
          refine W.skip ?_
          refine XThen.norm ?_
          refine W.seq ?_
          refine W.block ?_
          refine W.seq_region fun K hK => ?_
          cases hbc : askV p (lfM p) b c
          · skip
            simp (disch := omega) only [↓RU, RV, RH, ↓reduceIte, Nat.reduceEqDiff, reduceCtorEq, if_pos, List.append_nil, ↓RS, RG, Nat.reduceAdd, Nat.reduceMul, Nat.reduceLeDiff, hbc]
            refine CallR.pc (orderLeft_pc hs b c) rfl (.inl rfl) ?_
            simp (disch := omega) only [↓RU, RV, RH, ↓reduceIte, Nat.reduceEqDiff, reduceCtorEq, if_pos, List.append_nil, ↓RS, RG, Nat.reduceAdd, Nat.reduceMul, Nat.reduceLeDiff, hbc]
            refine hK _ _ ?_
            clear hK K
            refine W.cond rfl (fun h3 => ?_) (fun h3 => ?_)
            · try simp only [RL] at h3
              exact absurd h3 (by simp)
            · try simp only [RL] at h3
              refine W.skip ?_
              refine XBlock.norm ?_
              refine XThen.norm ?_
              refine W.region_k fun K hK => ?_
              simp (disch := omega) only [↓RU, RV, RH, ↓reduceIte, Nat.reduceEqDiff, reduceCtorEq, if_pos, w64, ↓RS, RG, Nat.reduceAdd, Nat.reduceMul, Nat.reduceLeDiff, tyint]
              refine hK _ _ ?_
              clear hK K
              refine XThen.norm ?_
              refine ⟨(rP p).length - (c + 1), by omega, 0, c + 1, t2, rfl, by omega, ?_, rfl⟩
              simp [Env.put, Env.of]
          · skip
            have hac := g5 hbc
            simp (disch := omega) only [↓RU, RV, RH, ↓reduceIte, Nat.reduceEqDiff, reduceCtorEq, if_pos, List.append_nil, ↓RS, RG, Nat.reduceAdd, Nat.reduceMul, Nat.reduceLeDiff, hbc, hac]
            refine CallR.pc (orderLeft_pc hs b c) rfl (.inl rfl) ?_
            simp (disch := omega) only [↓RU, RV, RH, ↓reduceIte, Nat.reduceEqDiff, reduceCtorEq, if_pos, List.append_nil, ↓RS, RG, Nat.reduceAdd, Nat.reduceMul, Nat.reduceLeDiff, hbc, hac]
            refine CallR.pc (orderLeft_pc hs a c) rfl (.inl rfl) ?_
            simp (disch := omega) only [↓RU, RV, RH, ↓reduceIte, Nat.reduceEqDiff, reduceCtorEq, if_pos, List.append_nil, ↓RS, RG, Nat.reduceAdd, Nat.reduceMul, Nat.reduceLeDiff, hbc, hac]
            refine hK _ _ ?_
            clear hK K
            refine W.cond rfl (fun h3 => ?_) (fun h3 => ?_)
            · try simp only [RL] at h3
              exact absurd h3 (by simp)
            · try simp only [RL] at h3
              refine W.skip ?_
              refine XBlock.norm ?_
              refine XThen.norm ?_
              refine W.region_k fun K hK => ?_
              simp (disch := omega) only [↓RU, RV, RH, ↓reduceIte, Nat.reduceEqDiff, reduceCtorEq, if_pos, w64, ↓RS, RG, Nat.reduceAdd, Nat.reduceMul, Nat.reduceLeDiff, tyint]
              refine hK _ _ ?_
              clear hK K
              refine XThen.norm ?_
              refine ⟨(rP p).length - (c + 1), by omega, 0, c + 1, t2, rfl, by omega, ?_, rfl⟩
              simp [Env.put, Env.of]
        · try simp only [RL] at h2
          refine W.exit ?_
          refine XThen.exit ?_
          refine XThen.exit ?_
          refine XBlock.hit ?_
          refine XThen.norm ?_
          refine W.seq_region fun K hK => ?_
          simp (disch := omega) only [↓RU, RV, RH, ↓reduceIte, Nat.reduceEqDiff, reduceCtorEq, if_pos, List.append_nil, ↓RS, RG, Nat.reduceAdd, Nat.reduceMul, Nat.reduceLeDiff, g1, g2, g3]
          refine CallR.pc (orderLeft_pc hs b a) rfl (.inl rfl) ?_
          simp (disch := omega) only [↓RU, RV, RH, ↓reduceIte, Nat.reduceEqDiff, reduceCtorEq, if_pos, List.append_nil, ↓RS, RG, Nat.reduceAdd, Nat.reduceMul, Nat.reduceLeDiff, g1, g2, g3]
          refine CallR.pc (orderAbove_pc hs a b) rfl (.inl rfl) ?_
          simp (disch := omega) only [↓RU, RV, RH, ↓reduceIte, Nat.reduceEqDiff, reduceCtorEq, if_pos, List.append_nil, ↓RS, RG, Nat.reduceAdd, Nat.reduceMul, Nat.reduceLeDiff, g1, g2, g3]
          refine CallR.pc (orderAbove_pc hs b a) rfl (.inl rfl) ?_
          simp (disch := omega) only [↓RU, RV, RH, ↓reduceIte, Nat.reduceEqDiff, reduceCtorEq, if_pos, List.append_nil, ↓RS, RG, Nat.reduceAdd, Nat.reduceMul, Nat.reduceLeDiff, g1, g2, g3]
          refine hK _ _ ?_
          clear hK K
          refine W.ret ?_
          refine BodyQ.ret rfl ?_
          rfl

end Fw
end Go.Proofs.Ytmhcknpjgikgmaa

/-! Kinds of two rooms, gone through. -/
namespace Go.Proofs.Ytmhcknpjgikgmaa
namespace Fw
open Go

def kindI (p : List Txt) (a b : Int) : Txt × Bool :=
  if askV p (lfM p) a b then ([108], true) else if askV p (lfM p) b a then ([114], true) else if askV p (abM p) a b then ([117], true) else if askV p (abM p) b a then ([100], true) else ([], false)
def kindS (p : List Txt) (a b : Int) : Txt × Bool :=
  if ((plainB p && givenB p a && givenB p b) && !decide (a = b)) then if bitOf (allS p 0) a.toNat b.toNat then ([108], true) else if bitOf (allS p 0) b.toNat a.toNat then ([114], true) else if bitOf (allS p 1) a.toNat b.toNat then ([117], true) else ([100], true) else ([], false)
theorem ask_same {p : List Txt} {a : Int} : askV p (lfM p) a a = false ∧ askV p (abM p) a a = false := by
  constructor
  · cases h : askV p (lfM p) a a with
    | false => rfl
    | true => have := (left_facts h).2.1; rw [h] at this; exact this
  · cases h : askV p (abM p) a a with
    | false => rfl
    | true => have := (above_facts h).2.1; rw [h] at this; exact this
theorem kind_eq {p : List Txt} (a b : Int) : kindS p a b = kindI p a b := by
  obtain ⟨o1, o2⟩ := ask_ord (p := p) a b
  obtain ⟨o3, o4⟩ := ask_ord (p := p) b a
  unfold ordS at o1 o2 o3 o4
  have hcom : (plainB p && givenB p b && givenB p a) = (plainB p && givenB p a && givenB p b) := by cases plainB p <;> cases givenB p a <;> cases givenB p b <;> rfl
  rw [hcom] at o3 o4
  unfold kindS kindI
  cases hg : (plainB p && givenB p a && givenB p b) with
  | false =>
    rw [hg] at o1 o2 o3 o4
    rw [o1, o2, o3, o4]; rfl
  | true =>
    rw [hg] at o1 o2 o3 o4
    by_cases e : a = b
    · subst e
      rw [ask_same.1, ask_same.2, decide_eq_true rfl]; rfl
    · rw [decide_eq_false e]
      simp only [Bool.true_and] at o1 o2 o3 o4
      rw [← o1, ← o3, ← o2]
      cases h1 : askV p (lfM p) a b with
      | true => rfl
      | false =>
        cases h2 : askV p (lfM p) b a with
        | true => rfl
        | false =>
          cases h3 : askV p (abM p) a b with
          | true => rfl
          | false =>
            have h4 : askV p (abM p) b a = true := by
              simp only [Bool.and_eq_true] at hg
              obtain ⟨⟨hp, hga⟩, hgb⟩ := hg
              have hv : plainI p = true := by rw [plainI_plain]; exact hp
              obtain ⟨a0, a1, -, -, -⟩ := given_rooms hp hga
              obtain ⟨b0, b1, -, -, -⟩ := given_rooms hp hgb
              obtain ⟨a, rfl⟩ : ∃ a2 : Nat, a = a2 := ⟨a.toNat, by omega⟩
              obtain ⟨b, rfl⟩ : ∃ b2 : Nat, b = b2 := ⟨b.toNat, by omega⟩
              have ha : a < (rP p).length := by omega
              have hb : b < (rP p).length := by omega
              rw [askV_of hv ha hb] at h1 h3
              rw [askV_of hv hb ha] at h2 ⊢
              rcases order_some hp ha hb (by omega) with k | k | k | k
              · unfold Lf at k; rw [k] at h1; cases h1
              · unfold Lf at k; rw [k] at h2; cases h2
              · unfold Ab at k; rw [k] at h3; cases h3
              · exact k
            rw [h4]; rfl
theorem kind_cases (p : List Txt) (a b : Int) : kindI p a b = ([], false) ∨
    (kindI p a b = ([108], true) ∧ askV p (lfM p) a b = true ∧ askV p (lfM p) b a = false ∧ askV p (abM p) a b = false ∧ askV p (abM p) b a = false) ∨
    (kindI p a b = ([114], true) ∧ askV p (lfM p) a b = false ∧ askV p (lfM p) b a = true ∧ askV p (abM p) a b = false ∧ askV p (abM p) b a = false) ∨
    (kindI p a b = ([117], true) ∧ askV p (lfM p) a b = false ∧ askV p (lfM p) b a = false ∧ askV p (abM p) a b = true ∧ askV p (abM p) b a = false) ∨
    (kindI p a b = ([100], true) ∧ askV p (lfM p) a b = false ∧ askV p (lfM p) b a = false ∧ askV p (abM p) a b = false ∧ askV p (abM p) b a = true) := by
  unfold kindI
  cases h1 : askV p (lfM p) a b with
  | true => obtain ⟨-, g1, g2, g3, -⟩ := left_facts h1; rw [g1, g2, g3]; simp
  | false =>
    cases h2 : askV p (lfM p) b a with
    | true => obtain ⟨-, g1, g2, g3, -⟩ := left_facts h2; rw [g2, g3]; simp
    | false =>
      cases h3 : askV p (abM p) a b with
      | true => obtain ⟨-, g1, -, -, -⟩ := above_facts h3; rw [g1]; simp
      | false => cases h4 : askV p (abM p) b a <;> simp

theorem orderKind_pc {p : List Txt} (hs : Sm p) (a b : Int) : PC Try.prog 30 [eStrs p, .int .i64 a, .int .i64 b] (.tup [.str (kindI p a b).1, .bool (kindI p a b).2]) true := by
  refine PC.of ⟨Try.func30, by kernel_rfl, rfl, by kernel_rfl⟩ tabOk mixed (by show 3 ≤ Try.f30.ntmps; decide) ?_
  refine W.seq_region fun K hK => ?_
  simp (disch := omega) only [↓RU, RV, RH, ↓reduceIte, Nat.reduceEqDiff, reduceCtorEq, if_pos, ↓RS, RG, Nat.reduceAdd, Nat.reduceMul, Nat.reduceLeDiff]
  refine hK _ _ ?_
  clear hK K
  refine W.seq ?_
  refine W.block ?_
  refine W.seq_region fun K hK => ?_
  simp (disch := omega) only [↓RU, RV, RH, ↓reduceIte, Nat.reduceEqDiff, reduceCtorEq, if_pos, List.append_nil, ↓RS, RG, Nat.reduceAdd, Nat.reduceMul, Nat.reduceLeDiff]
  refine CallR.pc (lefts_asked hs a b) rfl (.inl rfl) ?_
  simp (disch := omega) only [↓RU, RV, RH, ↓reduceIte, Nat.reduceEqDiff, reduceCtorEq, if_pos, List.append_nil, ↓RS, RG, Nat.reduceAdd, Nat.reduceMul, Nat.reduceLeDiff]
  refine hK _ _ ?_
  clear hK K
  refine W.cond rfl (fun h0 => ?_) (fun h0 => ?_)
  · try simp only [RL] at h0
    refine W.seq_region fun K hK => ?_
    simp (disch := omega) only [↓RU, RV, RH, ↓reduceIte, Nat.reduceEqDiff, reduceCtorEq, if_pos, ↓RS, RG, Nat.reduceAdd, Nat.reduceMul, Nat.reduceLeDiff]
    refine hK _ _ ?_
    clear hK K
    refine W.ret ?_
    refine XBlock.ret ?_
    refine XThen.ret ?_
    refine BodyQ.ret rfl ?_
    rw [show kindI p a b = ([108], true) by unfold kindI; rw [h0]; rfl]
    rfl
  · try simp only [RL] at h0
    refine W.seq_region fun K hK => ?_
    simp (disch := omega) only [↓RU, RV, RH, ↓reduceIte, Nat.reduceEqDiff, reduceCtorEq, if_pos, List.append_nil, ↓RS, RG, Nat.reduceAdd, Nat.reduceMul, Nat.reduceLeDiff]
    refine CallR.pc (lefts_asked hs b a) rfl (.inl rfl) ?_
    simp (disch := omega) only [↓RU, RV, RH, ↓reduceIte, Nat.reduceEqDiff, reduceCtorEq, if_pos, List.append_nil, ↓RS, RG, Nat.reduceAdd, Nat.reduceMul, Nat.reduceLeDiff]
    refine hK _ _ ?_
    clear hK K
    refine W.cond rfl (fun h1 => ?_) (fun h1 => ?_)
    · try simp only [RL] at h1
      refine W.seq_region fun K hK => ?_
      simp (disch := omega) only [↓RU, RV, RH, ↓reduceIte, Nat.reduceEqDiff, reduceCtorEq, if_pos, ↓RS, RG, Nat.reduceAdd, Nat.reduceMul, Nat.reduceLeDiff]
      refine hK _ _ ?_
      clear hK K
      refine W.ret ?_
      refine XBlock.ret ?_
      refine XThen.ret ?_
      refine BodyQ.ret rfl ?_
      rw [show kindI p a b = ([114], true) by unfold kindI; rw [h0, h1]; rfl]
      rfl
    · try simp only [RL] at h1
      refine W.seq_region fun K hK => ?_
      simp (disch := omega) only [↓RU, RV, RH, ↓reduceIte, Nat.reduceEqDiff, reduceCtorEq, if_pos, List.append_nil, ↓RS, RG, Nat.reduceAdd, Nat.reduceMul, Nat.reduceLeDiff]
      refine CallR.pc (aboves_asked hs a b) rfl (.inl rfl) ?_
      simp (disch := omega) only [↓RU, RV, RH, ↓reduceIte, Nat.reduceEqDiff, reduceCtorEq, if_pos, List.append_nil, ↓RS, RG, Nat.reduceAdd, Nat.reduceMul, Nat.reduceLeDiff]
      refine hK _ _ ?_
      clear hK K
      refine W.cond rfl (fun h2 => ?_) (fun h2 => ?_)
      · try simp only [RL] at h2
        refine W.seq_region fun K hK => ?_
        simp (disch := omega) only [↓RU, RV, RH, ↓reduceIte, Nat.reduceEqDiff, reduceCtorEq, if_pos, ↓RS, RG, Nat.reduceAdd, Nat.reduceMul, Nat.reduceLeDiff]
        refine hK _ _ ?_
        clear hK K
        refine W.ret ?_
        refine XBlock.ret ?_
        refine XThen.ret ?_
        refine BodyQ.ret rfl ?_
        rw [show kindI p a b = ([117], true) by unfold kindI; rw [h0, h1, h2]; rfl]
        rfl
      · try simp only [RL] at h2
        refine W.seq_region fun K hK => ?_
        simp (disch := omega) only [↓RU, RV, RH, ↓reduceIte, Nat.reduceEqDiff, reduceCtorEq, if_pos, List.append_nil, ↓RS, RG, Nat.reduceAdd, Nat.reduceMul, Nat.reduceLeDiff]
        refine CallR.pc (aboves_asked hs b a) rfl (.inl rfl) ?_
        simp (disch := omega) only [↓RU, RV, RH, ↓reduceIte, Nat.reduceEqDiff, reduceCtorEq, if_pos, List.append_nil, ↓RS, RG, Nat.reduceAdd, Nat.reduceMul, Nat.reduceLeDiff]
        refine hK _ _ ?_
        clear hK K
        refine W.cond rfl (fun h3 => ?_) (fun h3 => ?_)
        · try simp only [RL] at h3
          refine W.seq_region fun K hK => ?_
          simp (disch := omega) only [↓RU, RV, RH, ↓reduceIte, Nat.reduceEqDiff, reduceCtorEq, if_pos, ↓RS, RG, Nat.reduceAdd, Nat.reduceMul, Nat.reduceLeDiff]
          refine hK _ _ ?_
          clear hK K
          refine W.ret ?_
          refine XBlock.ret ?_
          refine XThen.ret ?_
          refine BodyQ.ret rfl ?_
          rw [show kindI p a b = ([100], true) by unfold kindI; rw [h0, h1, h2, h3]; rfl]
          rfl
        · try simp only [RL] at h3
          refine W.skip ?_
          refine XBlock.norm ?_
          refine XThen.norm ?_
          refine W.seq_region fun K hK => ?_
          simp (disch := omega) only [↓RU, RV, RH, ↓reduceIte, Nat.reduceEqDiff, reduceCtorEq, if_pos, ↓RS, RG, Nat.reduceAdd, Nat.reduceMul, Nat.reduceLeDiff]
          refine hK _ _ ?_
          clear hK K
          refine W.ret ?_
          refine BodyQ.ret rfl ?_
          rw [show kindI p a b = ([], false) by unfold kindI; rw [h0, h1, h2, h3]; rfl]
          rfl

theorem sOrderKind_pc {p : List Txt} (hs : Sm p) (a b : Int) : PC Try.prog 32 [eStrs p, .int .i64 a, .int .i64 b] (.tup [.str (kindS p a b).1, .bool (kindS p a b).2]) true := by
  refine PC.of ⟨Try.func32, by kernel_rfl, rfl, by kernel_rfl⟩ tabOk mixed (by show 3 ≤ Try.f32.ntmps; decide) ?_
  refine W.seq_region fun K hK => ?_
  simp (disch := omega) only [↓RU, RV, RH, ↓reduceIte, Nat.reduceEqDiff, reduceCtorEq, if_pos, ↓RS, RG, Nat.reduceAdd, Nat.reduceMul, Nat.reduceLeDiff]
  refine hK _ _ ?_
  clear hK K
  refine W.seq ?_
  refine W.seq_region fun K hK => ?_
  cases hgg : (plainB p && givenB p a && givenB p b)
  · skip
    simp (disch := omega) only [↓RU, RV, RH, ↓reduceIte, Nat.reduceEqDiff, reduceCtorEq, if_pos, List.append_nil, w64, ↓RS, RG, Nat.reduceAdd, Nat.reduceMul, Nat.reduceLeDiff, tyint, hgg]
    refine CallR.pc (l5Rooms_pc hs a b) rfl (.inl rfl) ?_
    simp (disch := omega) only [↓RU, RV, RH, ↓reduceIte, Nat.reduceEqDiff, reduceCtorEq, if_pos, List.append_nil, w64, ↓RS, RG, Nat.reduceAdd, Nat.reduceMul, Nat.reduceLeDiff, tyint, hgg]
    refine hK _ _ ?_
    clear hK K
    refine W.cond rfl (fun h0 => ?_) (fun h0 => ?_)
    · try simp only [RL] at h0
      refine W.seq_region fun K hK => ?_
      simp (disch := omega) only [↓RU, RV, RH, ↓reduceIte, Nat.reduceEqDiff, reduceCtorEq, if_pos, ↓RS, RG, Nat.reduceAdd, Nat.reduceMul, Nat.reduceLeDiff]
      refine hK _ _ ?_
      clear hK K
      refine W.ret ?_
      refine XThen.ret ?_
      refine BodyQ.ret rfl ?_
      rw [show kindS p a b = ([], false) by unfold kindS; rw [hgg]; rfl]
      rfl
    · try simp only [RL] at h0
      exact absurd h0 (by simp)
  · skip
    simp (disch := omega) only [↓RU, RV, RH, ↓reduceIte, Nat.reduceEqDiff, reduceCtorEq, if_pos, List.append_nil, w64, ↓RS, RG, Nat.reduceAdd, Nat.reduceMul, Nat.reduceLeDiff, tyint, hgg]
    refine CallR.pc (l5Rooms_pc hs a b) rfl (.inl rfl) ?_
    simp (disch := omega) only [↓RU, RV, RH, ↓reduceIte, Nat.reduceEqDiff, reduceCtorEq, if_pos, List.append_nil, w64, ↓RS, RG, Nat.reduceAdd, Nat.reduceMul, Nat.reduceLeDiff, tyint, hgg]
    refine hK _ _ ?_
    clear hK K
    refine W.cond rfl (fun h0 => ?_) (fun h0 => ?_)
    · try simp only [RL] at h0
      have hab : a = b := by simpa using h0
      refine W.seq_region fun K hK => ?_
      simp (disch := omega) only [↓RU, RV, RH, ↓reduceIte, Nat.reduceEqDiff, reduceCtorEq, if_pos, ↓RS, RG, Nat.reduceAdd, Nat.reduceMul, Nat.reduceLeDiff]
      refine hK _ _ ?_
      clear hK K
      refine W.ret ?_
      refine XThen.ret ?_
      refine BodyQ.ret rfl ?_
      rw [show kindS p a b = ([], false) by unfold kindS; rw [hgg, decide_eq_true hab]; rfl]
      rfl
    · try simp only [RL] at h0
      have hab : ¬ a = b := by simpa using h0
      have hg3 := hgg
      simp only [Bool.and_eq_true] at hg3
      obtain ⟨⟨hp, hga⟩, hgb⟩ := hg3
      obtain ⟨a0, a1, hr, hg, h9⟩ := given_rooms hp hga
      obtain ⟨b0, b1, -, -, -⟩ := given_rooms hp hgb
      obtain ⟨a, rfl⟩ : ∃ a2 : Nat, a = a2 := ⟨a.toNat, by omega⟩
      obtain ⟨b, rfl⟩ : ∃ b2 : Nat, b = b2 := ⟨b.toNat, by omega⟩
      have hm0 := allS_msk hg h9 0
      have hm1 := allS_msk hg h9 1
      obtain ⟨m0, hma, hm5⟩ := hm0.at_ (show a < (l1Rooms p).toNat by omega)
      obtain ⟨m1, hmb, hm6⟩ := hm0.at_ (show b < (l1Rooms p).toNat by omega)
      obtain ⟨m2, hmu, hm7⟩ := hm1.at_ (show a < (l1Rooms p).toNat by omega)
      have hl0 := hm0.1
      have hl1 := hm1.1
      have hr9 : (rP p).length ≤ 9 := by omega
      have q0 := bitOf_is (b := b) hma
      have q1 := bitOf_is (b := a) hmb
      have q2 := bitOf_is (b := b) hmu
      have hab2 : decide ((a : Int) = (b : Int)) = false := decide_eq_false hab
      refine W.skip ?_
      refine XThen.norm ?_
      refine W.seq_region fun K hK => ?_
      simp (disch := omega) only [↓RU, RV, RH, ↓reduceIte, Nat.reduceEqDiff, reduceCtorEq, if_pos, List.append_nil, ↓RS, RG, Nat.reduceAdd, Nat.reduceMul, Nat.reduceLeDiff]
      refine CallR.pc (l5All_pc hs hg h9 0) rfl (.inl rfl) ?_
      simp (disch := omega) only [↓RU, RV, RH, ↓reduceIte, Nat.reduceEqDiff, reduceCtorEq, if_pos, List.append_nil, ↓RS, RG, Nat.reduceAdd, Nat.reduceMul, Nat.reduceLeDiff]
      refine hK _ _ ?_
      clear hK K
      refine W.seq_region fun K hK => ?_
      simp (disch := omega) only [↓RU, RV, RH, ↓reduceIte, Nat.reduceEqDiff, reduceCtorEq, if_pos, List.append_nil, ↓RS, RG, Nat.reduceAdd, Nat.reduceMul, Nat.reduceLeDiff]
      refine CallR.pc (l5All_pc hs hg h9 1) rfl (.inl rfl) ?_
      simp (disch := omega) only [↓RU, RV, RH, ↓reduceIte, Nat.reduceEqDiff, reduceCtorEq, if_pos, List.append_nil, ↓RS, RG, Nat.reduceAdd, Nat.reduceMul, Nat.reduceLeDiff]
      refine hK _ _ ?_
      clear hK K
      refine W.seq ?_
      refine W.block ?_
      refine W.seq_region fun K hK => ?_
      simp (disch := omega) only [↓RU, RV, RH, ↓reduceIte, Nat.reduceEqDiff, reduceCtorEq, if_pos, w64, ↓RS, RG, Nat.reduceAdd, Nat.reduceMul, Nat.reduceLeDiff, tyLint, tyint, hma, hl0, pShr, w_bit]
      refine hK _ _ ?_
      clear hK K
      refine W.cond rfl (fun h1 => ?_) (fun h1 => ?_)
      · try simp only [RL] at h1
        refine W.seq_region fun K hK => ?_
        simp (disch := omega) only [↓RU, RV, RH, ↓reduceIte, Nat.reduceEqDiff, reduceCtorEq, if_pos, ↓RS, RG, Nat.reduceAdd, Nat.reduceMul, Nat.reduceLeDiff]
        refine hK _ _ ?_
        clear hK K
        refine W.ret ?_
        refine XBlock.ret ?_
        refine XThen.ret ?_
        refine BodyQ.ret rfl ?_
        rw [show kindS p a b = ([108], true) by unfold kindS; rw [hgg, hab2, Int.toNat_natCast, Int.toNat_natCast, q0, h1]; rfl]
        rfl
      · try simp only [RL] at h1
        refine W.seq_region fun K hK => ?_
        simp (disch := omega) only [↓RU, RV, RH, ↓reduceIte, Nat.reduceEqDiff, reduceCtorEq, if_pos, w64, ↓RS, RG, Nat.reduceAdd, Nat.reduceMul, Nat.reduceLeDiff, tyLint, tyint, hmb, hl0, pShr, w_bit]
        refine hK _ _ ?_
        clear hK K
        refine W.cond rfl (fun h2 => ?_) (fun h2 => ?_)
        · try simp only [RL] at h2
          refine W.seq_region fun K hK => ?_
          simp (disch := omega) only [↓RU, RV, RH, ↓reduceIte, Nat.reduceEqDiff, reduceCtorEq, if_pos, ↓RS, RG, Nat.reduceAdd, Nat.reduceMul, Nat.reduceLeDiff]
          refine hK _ _ ?_
          clear hK K
          refine W.ret ?_
          refine XBlock.ret ?_
          refine XThen.ret ?_
          refine BodyQ.ret rfl ?_
          rw [show kindS p a b = ([114], true) by unfold kindS; rw [hgg, hab2, Int.toNat_natCast, Int.toNat_natCast, q0, q1, h1, h2]; rfl]
          rfl
        · try simp only [RL] at h2
          refine W.seq_region fun K hK => ?_
          simp (disch := omega) only [↓RU, RV, RH, ↓reduceIte, Nat.reduceEqDiff, reduceCtorEq, if_pos, w64, ↓RS, RG, Nat.reduceAdd, Nat.reduceMul, Nat.reduceLeDiff, tyLint, tyint, hmu, hl1, pShr, w_bit]
          refine hK _ _ ?_
          clear hK K
          refine W.cond rfl (fun h3 => ?_) (fun h3 => ?_)
          · try simp only [RL] at h3
            refine W.seq_region fun K hK => ?_
            simp (disch := omega) only [↓RU, RV, RH, ↓reduceIte, Nat.reduceEqDiff, reduceCtorEq, if_pos, ↓RS, RG, Nat.reduceAdd, Nat.reduceMul, Nat.reduceLeDiff]
            refine hK _ _ ?_
            clear hK K
            refine W.ret ?_
            refine XBlock.ret ?_
            refine XThen.ret ?_
            refine BodyQ.ret rfl ?_
            rw [show kindS p a b = ([117], true) by unfold kindS; rw [hgg, hab2, Int.toNat_natCast, Int.toNat_natCast, q0, q1, q2, h1, h2, h3]; rfl]
            rfl
          · try simp only [RL] at h3
            refine W.skip ?_
            refine XBlock.norm ?_
            refine XThen.norm ?_
            refine W.seq_region fun K hK => ?_
            simp (disch := omega) only [↓RU, RV, RH, ↓reduceIte, Nat.reduceEqDiff, reduceCtorEq, if_pos, ↓RS, RG, Nat.reduceAdd, Nat.reduceMul, Nat.reduceLeDiff]
            refine hK _ _ ?_
            clear hK K
            refine W.ret ?_
            refine BodyQ.ret rfl ?_
            rw [show kindS p a b = ([100], true) by unfold kindS; rw [hgg, hab2, Int.toNat_natCast, Int.toNat_natCast, q0, q1, q2, h1, h2, h3]; rfl]
            rfl

end Fw
end Go.Proofs.Ytmhcknpjgikgmaa

/-! Arguments of laws as plain data. -/
namespace Go.Proofs.Ytmhcknpjgikgmaa
namespace Fw
open Go Go.ChangeShapes Go.WideShapes Go.ChangeAt Go.RowKit

set_option maxRecDepth 100000 in
theorem slice_at {W : World} {base : Nat} {t e : TypeId} {a : Addr} {len cap : Nat} (ht : Try.prog.underlying t = some (.slice e)) (hval : Value.okWide Try.prog W .any base t (.slice (some a) len cap)) : a.spot = none ∧ a.block < W.heap.size := by
  simp only [Value.okWide, ht, Cell.okWide, Cell.ok] at hval
  obtain ⟨-, -, -, hsp, row, cells, hsh, -⟩ := hval
  refine ⟨hsp, ?_⟩
  unfold World.shape? at hsh
  rcases Nat.lt_or_ge a.block W.heap.size with h | h
  · exact h
  · rw [Array.getElem?_eq_none h] at hsh; cases hsh
set_option maxRecDepth 100000 in
theorem vi_strs {H : Type} {enc : TypeId × Value → H} {W : World} {base : Nat} {v : Value} {d : DataW H} {ps : List MemPlace} (hval : Value.okWide Try.prog W .any base 23 v) (h : DataW.Trod enc Try.prog W 0 (fun _ => true) true 23 v d ps) :
    ∃ p : List Txt, VI W.heap (fun b => b < W.heap.size) (eStrs p) v ∧ p.length ≤ 9223372036854775807 ∧ ∀ r ∈ p, r.length ≤ 9223372036854775807 := by
  obtain ⟨a0, len, cap, rfl⟩ := okWide_slice Try.underlying23 hval
  obtain ⟨fuel, hf⟩ := h
  rcases open_strings Try.underlying23 Try.underlying9 (by kernel_rfl) hf with ⟨hcs, hx⟩ | ⟨a, len', cap', ss, hcs, -, hl, hm, hz, hx, hcell, hsz⟩
  · simp [Value.cells] at hcs
    obtain ⟨rfl, rfl, rfl⟩ := hcs
    exact ⟨[], .sl0, by simp, by simp⟩
  · simp [Value.cells] at hcs
    obtain ⟨rfl, rfl, rfl⟩ := hcs
    obtain ⟨hsp, hlt⟩ := slice_at Try.underlying23 hval
    obtain ⟨b, off, spot⟩ := a
    simp only at hsp hlt
    subst hsp
    simp only [if_true] at hz
    have hml : maxLen ≤ 9223372036854775807 := by decide
    have hlen : ((ss.take len).map fun s : ByteArray => s.data.toList).length = len := by simp; omega
    have hget : ∀ (i : Nat) q, ((ss.take len).map fun s : ByteArray => s.data.toList)[i]? = some q → i < len ∧ q = (ss.getD i ByteArray.empty).data.toList := by
      intro i q hq
      rw [List.getElem?_map, Option.map_eq_some_iff] at hq
      obtain ⟨s, hs, rfl⟩ := hq
      have hi := len_of hs
      simp only [List.length_take] at hi
      rw [List.getElem?_take_of_lt (by omega)] at hs
      refine ⟨by omega, ?_⟩
      rw [List.getD_eq_getElem?_getD, hs]; rfl
    refine ⟨(ss.take len).map fun s => s.data.toList, ?_, by rw [hlen]; omega, fun r hr => ?_⟩
    · show VI _ _ (.sl (((ss.take len).map fun s : ByteArray => s.data.toList).map .str) ((ss.take len).map fun s : ByteArray => s.data.toList).length) _
      rw [hlen]
      refine .sl _ _ b off cap (fun i => .string (ss.getD i ByteArray.empty)) (fun _ => hlt) hl (fun i q hq => ?_) (fun i q hq => ?_)
      · rw [List.getElem?_map, Option.map_eq_some_iff] at hq
        obtain ⟨x, hx1, rfl⟩ := hq
        obtain ⟨hi, rfl⟩ := hget i x hx1
        refine ⟨rfl, ?_⟩
        rw [← cellH_eq]
        have := hcell i (by omega)
        rwa [add_lit] at this
      · rw [List.getElem?_map, Option.map_eq_some_iff] at hq
        obtain ⟨x, hx1, rfl⟩ := hq
        obtain ⟨hi, rfl⟩ := hget i x hx1
        exact .str _ _ rfl
    · obtain ⟨s, hs, rfl⟩ := List.mem_map.1 hr
      have := hsz s (List.mem_of_mem_take hs)
      have e : s.data.toList.length = s.size := Array.length_toList
      rw [e]; omega
set_option maxRecDepth 100000 in
theorem vi_ints {H : Type} {enc : TypeId × Value → H} {W : World} {base : Nat} {v : Value} {d : DataW H} {ps : List MemPlace} (hval : Value.okWide Try.prog W .any base 30 v) (h : DataW.Trod enc Try.prog W 0 (fun _ => true) true 30 v d ps) :
    ∃ p : List Int, VI W.heap (fun b => b < W.heap.size) (eInts p) v := by
  obtain ⟨a0, len, cap, rfl⟩ := okWide_slice Try.underlying30 hval
  obtain ⟨fuel, hf⟩ := h
  rcases open_ints Try.underlying30 Try.underlying3 (by kernel_rfl) hf with ⟨hcs, hx⟩ | ⟨a, len', cap', zs, hcs, -, hl, hm, hz, hx, hcell, hwf⟩
  · simp [Value.cells] at hcs
    obtain ⟨rfl, rfl, rfl⟩ := hcs
    exact ⟨[], .sl0⟩
  · simp [Value.cells] at hcs
    obtain ⟨rfl, rfl, rfl⟩ := hcs
    obtain ⟨hsp, hlt⟩ := slice_at Try.underlying30 hval
    obtain ⟨b, off, spot⟩ := a
    simp only at hsp hlt
    subst hsp
    simp only [if_true] at hz
    have hlen : (zs.take len).length = len := by simp; omega
    refine ⟨zs.take len, ?_⟩
    show VI _ _ (.sl ((zs.take len).map (.int .i64)) (zs.take len).length) _
    rw [hlen]
    refine .sl _ _ b off cap (fun i => .int .i64 (zs.getD i 0)) (fun _ => hlt) hl (fun i q hq => ?_) (fun i q hq => ?_)
    · rw [List.getElem?_map, Option.map_eq_some_iff] at hq
      obtain ⟨x, hx1, rfl⟩ := hq
      have hi := len_of hx1
      refine ⟨rfl, ?_⟩
      rw [← cellH_eq]
      have := hcell i (by omega)
      rwa [add_lit] at this
    · rw [List.getElem?_map, Option.map_eq_some_iff] at hq
      obtain ⟨x, hx1, rfl⟩ := hq
      have hi := len_of hx1
      rw [List.getElem?_take_of_lt (by omega)] at hx1
      rw [List.getD_eq_getElem?_getD, hx1]
      exact .int _ _
end Fw
end Go.Proofs.Ytmhcknpjgikgmaa

/-! A slice of bytes as an argument: plain data. -/
namespace Go.Proofs.Ytmhcknpjgikgmaa
namespace Fw
open Go Go.ChangeShapes Go.WideShapes Go.ChangeAt Go.RowKit

set_option maxRecDepth 100000 in
theorem vi_bytes {H : Type} {enc : TypeId × Value → H} {W : World} {base : Nat} {v : Value} {d : DataW H} {ps : List MemPlace} (hval : Value.okWide Try.prog W .any base 22 v) (h : DataW.Trod enc Try.prog W 0 (fun _ => true) true 22 v d ps) :
    ∃ p : Txt, VI W.heap (fun b => b < W.heap.size) (.sl (p.map eB) p.length) v ∧ p.length ≤ 9223372036854775807 := by
  obtain ⟨a0, len, cap, rfl⟩ := okWide_slice Try.underlying22 hval
  obtain ⟨fuel, hf⟩ := h
  rcases open_ints Try.underlying22 Try.underlying5 (by kernel_rfl) hf with ⟨hcs, hx⟩ | ⟨a, len', cap', zs, hcs, -, hl, hm, hz, hx, hcell, hwf⟩
  · simp [Value.cells] at hcs
    obtain ⟨rfl, rfl, rfl⟩ := hcs
    exact ⟨[], .sl0, by simp⟩
  · simp [Value.cells] at hcs
    obtain ⟨rfl, rfl, rfl⟩ := hcs
    obtain ⟨hsp, hlt⟩ := slice_at Try.underlying22 hval
    obtain ⟨b, off, spot⟩ := a
    simp only at hsp hlt
    subst hsp
    simp only [if_true] at hz
    have hml : maxLen ≤ 9223372036854775807 := by decide
    have hlen : ((zs.take len).map fun n : Int => UInt8.ofNat n.toNat).length = len := by simp; omega
    have hget : ∀ (i : Nat) c, ((zs.take len).map fun n : Int => UInt8.ofNat n.toNat)[i]? = some c → i < len ∧ (c.toNat : Int) = zs.getD i 0 := by
      intro i c hc
      rw [List.getElem?_map, Option.map_eq_some_iff] at hc
      obtain ⟨z, hz1, rfl⟩ := hc
      have hi := len_of hz1
      simp only [List.length_take] at hi
      rw [List.getElem?_take_of_lt (by omega)] at hz1
      refine ⟨by omega, ?_⟩
      rw [List.getD_eq_getElem?_getD, hz1, Option.getD_some]
      have hw := hwf z (List.mem_of_getElem? hz1)
      have hz8 : 0 ≤ z ∧ z < 256 := by
        have e : IntKind.u8.min ≤ z ∧ z ≤ IntKind.u8.max := by simpa [Lit.wf] using hw
        have e1 : IntKind.u8.min = 0 := by decide
        have e2 : IntKind.u8.max = 255 := by decide
        omega
      have e3 : (UInt8.ofNat z.toNat).toNat = z.toNat % 256 := rfl
      rw [e3]
      omega
    refine ⟨(zs.take len).map fun n : Int => UInt8.ofNat n.toNat, ?_, by rw [hlen]; omega⟩
    rw [hlen]
    refine .sl _ _ b off cap (fun i => .int .u8 (zs.getD i 0)) (fun _ => hlt) hl (fun i q hq => ?_) (fun i q hq => ?_)
    · rw [List.getElem?_map, Option.map_eq_some_iff] at hq
      obtain ⟨c, hc, rfl⟩ := hq
      obtain ⟨hi, -⟩ := hget i c hc
      refine ⟨rfl, ?_⟩
      rw [← cellH_eq]
      have := hcell i (by omega)
      rwa [add_lit] at this
    · rw [List.getElem?_map, Option.map_eq_some_iff] at hq
      obtain ⟨c, hc, rfl⟩ := hq
      obtain ⟨-, e⟩ := hget i c hc
      show VI _ _ (.int .u8 (c.toNat : Int)) _
      rw [e]
      exact .int _ _
end Fw
end Go.Proofs.Ytmhcknpjgikgmaa

/-! The law of places of kinds, gone through. -/
namespace Go.Proofs.Ytmhcknpjgikgmaa
namespace Fw
open Go

theorem rP_fit {p : List Txt} (hp : planB p = true) {a : Nat} {x : Rect} (hx : (rP p)[a]? = some x) : x.Fit := by
  have hN := plan_named hp
  have hsm := grid_small hN.hg
  obtain ⟨row0, hr0, hm0⟩ := get_of hsm.1
  have hh := hdRow_of hr0
  have hw6 := hsm.2.2 row0 hm0
  have hw1 := row_pos hN.hg hr0
  rw [← hh] at hw6 hw1
  have hok := (seRows_ok (g := readG p) hw6 hw1 p.length hsm.2.1).1
  rw [← rP_eq] at hok
  exact hok.2 x (List.mem_of_getElem? hx)

theorem kind_nat {p : List Txt} {a b : Int} (h : (kindI p a b).2 = true) : ∃ a' b' : Nat, a = a' ∧ b = b' ∧ a' < (rP p).length ∧ b' < (rP p).length ∧ plainI p = true := by
  rcases kind_cases p a b with hk | ⟨hk, f1, f2, f3, f4⟩ | ⟨hk, f1, f2, f3, f4⟩ | ⟨hk, f1, f2, f3, f4⟩ | ⟨hk, f1, f2, f3, f4⟩
  · rw [hk] at h; cases h
  · obtain ⟨x, y, e1, e2, h1, h2, h3, -⟩ := askV_nat f1; exact ⟨x, y, e1, e2, h1, h2, h3⟩
  · obtain ⟨x, y, e1, e2, h1, h2, h3, -⟩ := askV_nat f2; exact ⟨y, x, e2, e1, h2, h1, h3⟩
  · obtain ⟨x, y, e1, e2, h1, h2, h3, -⟩ := askV_nat f3; exact ⟨x, y, e1, e2, h1, h2, h3⟩
  · obtain ⟨x, y, e1, e2, h1, h2, h3, -⟩ := askV_nat f4; exact ⟨y, x, e2, e1, h2, h1, h3⟩
/-- Rooms that are left of others begin further left; rooms above others further up. -/
theorem place_left {p : List Txt} {a b : Nat} {x y : Rect} (hx : (rP p)[a]? = some x) (hy : (rP p)[b]? = some y) (h : askV p (lfM p) a b = true) : x.col < y.col := by
  obtain ⟨a', b', e1, e2, ha, hb, hv, hg⟩ := askV_nat h
  obtain rfl : a = a' := by omega
  obtain rfl : b = b' := by omega
  have hp := plain_plan (plainI_B hv)
  have := (plan_up hp).1.up a b ha hb hg
  have f2 := (rP_fit hp hx).2.1
  have f4 := (rP_fit hp hy).2.1
  unfold rkL at this
  rw [hx, hy] at this
  simp only at this
  omega
theorem place_above {p : List Txt} {a b : Nat} {x y : Rect} (hx : (rP p)[a]? = some x) (hy : (rP p)[b]? = some y) (h : askV p (abM p) a b = true) : x.row < y.row := by
  obtain ⟨a', b', e1, e2, ha, hb, hv, hg⟩ := askV_nat h
  obtain rfl : a = a' := by omega
  obtain rfl : b = b' := by omega
  have hp := plain_plan (plainI_B hv)
  have := (plan_up hp).2.up a b ha hb hg
  have f2 := (rP_fit hp hx).1
  have f4 := (rP_fit hp hy).1
  unfold rkA at this
  rw [hx, hy] at this
  simp only at this
  omega

theorem has_pc {g : List (List Int)} {rs : List Rect} (a : Nat) (ha : a < rs.length) (hn : rs.length ≤ 1000) : PC Try.prog 57 [eFloor g rs, .int .i64 a] (.bool true) true := by
  refine PC.of ⟨Try.func57, by kernel_rfl, rfl, by kernel_rfl⟩ tabOk mixed (by show 2 ≤ Try.f57.ntmps; decide) ?_
  refine W.seq_region fun K hK => ?_
  simp (disch := omega) only [↓RU, RV, RH, ↓reduceIte, Nat.reduceEqDiff, reduceCtorEq, if_pos, ↓RS, RG, Nat.reduceAdd, Nat.reduceMul, Nat.reduceLeDiff]
  refine hK _ _ ?_
  clear hK K
  refine W.seq_region fun K hK => ?_
  have hd : decide ((a : Int) ≥ 0) = true := decide_eq_true (by omega)
  have hd2 : decide ((a : Int) < (rs.length : Int)) = true := decide_eq_true (by omega)
  simp (disch := omega) only [↓RU, RV, RH, ↓reduceIte, Nat.reduceEqDiff, reduceCtorEq, if_pos, w64, ↓RS, RG, Nat.reduceAdd, Nat.reduceMul, Nat.reduceLeDiff, tyLLint, tyLimpl_rect, tyLint, tyimpl_floor, tyimpl_grid, tyimpl_rect, tyint, tystruct_cells_impl_grid_rooms_Limpl_rect_, tystruct_row_int_col_int_high_int_wide_int_, hd, hd2, rcs_len]
  refine hK _ _ ?_
  clear hK K
  refine W.ret ?_
  refine BodyQ.ret rfl ?_
  rfl

theorem planRoom_pc {p : List Txt} (hs : Sm p) (hv : floorI p = true) (hn : (rP p).length ≤ 1000) {a : Nat} {x : Rect} (hx : (rP p)[a]? = some x) : PC Try.prog 33 [eStrs p, .int .i64 a] (.tup [.int .i64 x.row, .int .i64 x.col, .int .i64 x.high, .int .i64 x.wide, .bool true]) true := by
  obtain ⟨y, hy, hxy, hxr⟩ := floorOf_ex hs
  obtain rfl := hxy hv
  have ha := len_of hx
  have hxc := rcs_at hx
  have hrl := rcs_len (rP p)
  refine PC.of ⟨Try.func33, by kernel_rfl, rfl, by kernel_rfl⟩ tabOk mixed (by show 2 ≤ Try.f33.ntmps; decide) ?_
  refine W.seq_region fun K hK => ?_
  simp (disch := omega) only [↓RU, RV, RH, ↓reduceIte, Nat.reduceEqDiff, reduceCtorEq, if_pos, ↓RS, RG, Nat.reduceAdd, Nat.reduceMul, Nat.reduceLeDiff]
  refine hK _ _ ?_
  clear hK K
  refine W.seq_region fun K hK => ?_
  simp (disch := omega) only [↓RU, RV, RH, ↓reduceIte, Nat.reduceEqDiff, reduceCtorEq, if_pos, List.append_nil, ↓RS, RG, Nat.reduceAdd, Nat.reduceMul, Nat.reduceLeDiff, hv]
  refine CallR.pc (hy) rfl (.inr rfl) ?_
  simp (disch := omega) only [↓RU, RV, RH, ↓reduceIte, Nat.reduceEqDiff, reduceCtorEq, if_pos, List.append_nil, ↓RS, RG, Nat.reduceAdd, Nat.reduceMul, Nat.reduceLeDiff, hv]
  refine hK _ _ ?_
  clear hK K
  refine W.seq ?_
  refine W.seq_region fun K hK => ?_
  simp (disch := omega) only [↓RU, RV, RH, ↓reduceIte, Nat.reduceEqDiff, reduceCtorEq, if_pos, List.append_nil, ↓RS, RG, Nat.reduceAdd, Nat.reduceMul, Nat.reduceLeDiff]
  refine CallR.pc (has_pc (g := gP p) (rs := rP p) a ha hn) rfl (.inl rfl) ?_
  simp (disch := omega) only [↓RU, RV, RH, ↓reduceIte, Nat.reduceEqDiff, reduceCtorEq, if_pos, List.append_nil, ↓RS, RG, Nat.reduceAdd, Nat.reduceMul, Nat.reduceLeDiff]
  refine hK _ _ ?_
  clear hK K
  refine W.cond rfl (fun h => ?_) (fun h => ?_)
  · try simp only [RL] at h
    exact absurd h (by simp)
  · try simp only [RL] at h
    refine W.skip ?_
    refine XThen.norm ?_
    refine W.seq_region fun K hK => ?_
    simp (disch := omega) only [↓RU, RV, RH, ↓reduceIte, Nat.reduceEqDiff, reduceCtorEq, if_pos, ↓RS, RG, Nat.reduceAdd, Nat.reduceMul, Nat.reduceLeDiff, tyLLint, tyLimpl_rect, tyLint, tyimpl_floor, tyimpl_grid, tyimpl_rect, tyint, tystruct_cells_impl_grid_rooms_Limpl_rect_, tystruct_row_int_col_int_high_int_wide_int_, hxc, hrl, Rect.cells]
    refine hK _ _ ?_
    clear hK K
    refine W.seq_draw (by kernel_rfl) fun K hK => ?_
    simp (disch := omega) only [↓RU, RV, RH, ↓reduceIte, Nat.reduceEqDiff, reduceCtorEq, if_pos, ↓RS, RG, Nat.reduceAdd, Nat.reduceMul, Nat.reduceLeDiff, tyimpl_rect, tyint, tystruct_row_int_col_int_high_int_wide_int_]
    refine hK _ _ ?_
    clear hK K
    refine W.ret ?_
    refine BodyQ.ret rfl ?_
    rfl

theorem kindPlace_law {code : Txt} (hcode : code.length ≤ 9223372036854775807) : PC Try.prog 7 [eBy code] (.bool true) true := by
  refine PC.of ⟨Try.func7, by kernel_rfl, rfl, by kernel_rfl⟩ tabOk mixed (by show 1 ≤ Try.f7.ntmps; decide) ?_
  refine W.seq_region fun K hK => ?_
  simp (disch := omega) only [↓RU, RV, RH, ↓reduceIte, Nat.reduceEqDiff, reduceCtorEq, if_pos, ↓RS, RG, Nat.reduceAdd, Nat.reduceMul, Nat.reduceLeDiff]
  refine hK _ _ ?_
  clear hK K
  refine W.seq ?_
  refine W.seq_region fun K hK => ?_
  simp (disch := omega) only [↓RU, RV, RH, ↓reduceIte, Nat.reduceEqDiff, reduceCtorEq, if_pos, w64, ↓RS, RG, Nat.reduceAdd, Nat.reduceMul, Nat.reduceLeDiff, tyLuint8, tyint, tyuint8]
  refine hK _ _ ?_
  clear hK K
  refine W.cond rfl (fun h0 => ?_) (fun h0 => ?_)
  · try simp only [RL] at h0
    refine W.seq_region fun K hK => ?_
    simp (disch := omega) only [↓RU, RV, RH, ↓reduceIte, Nat.reduceEqDiff, reduceCtorEq, if_pos, ↓RS, RG, Nat.reduceAdd, Nat.reduceMul, Nat.reduceLeDiff]
    refine hK _ _ ?_
    clear hK K
    refine W.ret ?_
    refine XThen.ret ?_
    refine BodyQ.ret rfl ?_
    rfl
  · try simp only [RL] at h0
    have hcl : code.length ≤ 1048576 := by omega
    refine W.skip ?_
    refine XThen.norm ?_
    refine W.seq_region fun K hK => ?_
    simp (disch := omega) only [↓RU, RV, RH, ↓reduceIte, Nat.reduceEqDiff, reduceCtorEq, if_pos, List.append_nil, ↓RS, RG, Nat.reduceAdd, Nat.reduceMul, Nat.reduceLeDiff]
    refine CallR.ev (drawKind_ev hcl) ?_
    rintro _ _ ⟨p, a, b, t, hs, ha1, ha2, hb1, hb2, rfl, rfl⟩
    simp (disch := omega) only [↓RU, RV, RH, ↓reduceIte, Nat.reduceEqDiff, reduceCtorEq, if_pos, List.append_nil, ↓RS, RG, Nat.reduceAdd, Nat.reduceMul, Nat.reduceLeDiff]
    refine hK _ _ ?_
    clear hK K
    refine W.seq_region fun K hK => ?_
    simp (disch := omega) only [↓RU, RV, RH, ↓reduceIte, Nat.reduceEqDiff, reduceCtorEq, if_pos, List.append_nil, ↓RS, RG, Nat.reduceAdd, Nat.reduceMul, Nat.reduceLeDiff]
    refine CallR.pc (orderKind_pc hs a b) rfl (.inl rfl) ?_
    simp (disch := omega) only [↓RU, RV, RH, ↓reduceIte, Nat.reduceEqDiff, reduceCtorEq, if_pos, List.append_nil, ↓RS, RG, Nat.reduceAdd, Nat.reduceMul, Nat.reduceLeDiff]
    refine hK _ _ ?_
    clear hK K
    refine W.seq_region fun K hK => ?_
    simp (disch := omega) only [↓RU, RV, RH, ↓reduceIte, Nat.reduceEqDiff, reduceCtorEq, if_pos, List.append_nil, ↓RS, RG, Nat.reduceAdd, Nat.reduceMul, Nat.reduceLeDiff]
    refine CallR.pc (sOrderKind_pc hs a b) rfl (.inl rfl) ?_
    simp (disch := omega) only [↓RU, RV, RH, ↓reduceIte, Nat.reduceEqDiff, reduceCtorEq, if_pos, List.append_nil, ↓RS, RG, Nat.reduceAdd, Nat.reduceMul, Nat.reduceLeDiff]
    refine hK _ _ ?_
    clear hK K
    rw [kind_eq]
    refine W.seq ?_
    refine W.seq_region fun K hK => ?_
    cases hkb : (kindI p a b).2
    · skip
      simp (disch := omega) only [↓RU, RV, RH, ↓reduceIte, Nat.reduceEqDiff, reduceCtorEq, if_pos, w64, ↓RS, RG, Nat.reduceAdd, Nat.reduceMul, Nat.reduceLeDiff, tybool, tystring, hkb, pStr, beq_self_eq_true, bne_self_eq_false, Bool.not_true]
      refine hK _ _ ?_
      clear hK K
      refine W.cond rfl (fun h1 => ?_) (fun h1 => ?_)
      · try simp only [RL] at h1
        refine W.seq_region fun K hK => ?_
        simp (disch := omega) only [↓RU, RV, RH, ↓reduceIte, Nat.reduceEqDiff, reduceCtorEq, if_pos, w64, ↓RS, RG, Nat.reduceAdd, Nat.reduceMul, Nat.reduceLeDiff, tybool, tystring, hkb, pStr, beq_self_eq_true, bne_self_eq_false, Bool.not_true]
        refine hK _ _ ?_
        clear hK K
        refine W.ret ?_
        refine XThen.ret ?_
        refine BodyQ.ret rfl ?_
        rfl
      · try simp only [RL] at h1
        exact absurd h1 (by simp)
    · skip
      simp (disch := omega) only [↓RU, RV, RH, ↓reduceIte, Nat.reduceEqDiff, reduceCtorEq, if_pos, w64, ↓RS, RG, Nat.reduceAdd, Nat.reduceMul, Nat.reduceLeDiff, tybool, tystring, hkb, pStr, beq_self_eq_true, bne_self_eq_false, Bool.not_true]
      refine hK _ _ ?_
      clear hK K
      refine W.cond rfl (fun h1 => ?_) (fun h1 => ?_)
      · try simp only [RL] at h1
        exact absurd h1 (by simp)
      · try simp only [RL] at h1
        obtain ⟨a, b, rfl, rfl, hna, hnb, hv⟩ := kind_nat hkb
        have hrn := okB_rooms (plain_okB hv).1
        obtain ⟨x, hx, -⟩ := get_of hna
        obtain ⟨y, hy, -⟩ := get_of hnb
        have hf : floorI p = true := by unfold plainI at hv; simp only [Bool.and_eq_true] at hv; exact hv.1
        refine W.skip ?_
        refine XThen.norm ?_
        refine W.seq_region fun K hK => ?_
        simp (disch := omega) only [↓RU, RV, RH, ↓reduceIte, Nat.reduceEqDiff, reduceCtorEq, if_pos, List.append_nil, ↓RS, RG, Nat.reduceAdd, Nat.reduceMul, Nat.reduceLeDiff]
        refine CallR.pc (planRoom_pc hs hf (by omega) hx) rfl (.inl rfl) ?_
        simp (disch := omega) only [↓RU, RV, RH, ↓reduceIte, Nat.reduceEqDiff, reduceCtorEq, if_pos, List.append_nil, ↓RS, RG, Nat.reduceAdd, Nat.reduceMul, Nat.reduceLeDiff]
        refine hK _ _ ?_
        clear hK K
        refine W.seq_region fun K hK => ?_
        simp (disch := omega) only [↓RU, RV, RH, ↓reduceIte, Nat.reduceEqDiff, reduceCtorEq, if_pos, List.append_nil, ↓RS, RG, Nat.reduceAdd, Nat.reduceMul, Nat.reduceLeDiff]
        refine CallR.pc (planRoom_pc hs hf (by omega) hy) rfl (.inl rfl) ?_
        simp (disch := omega) only [↓RU, RV, RH, ↓reduceIte, Nat.reduceEqDiff, reduceCtorEq, if_pos, List.append_nil, ↓RS, RG, Nat.reduceAdd, Nat.reduceMul, Nat.reduceLeDiff]
        refine hK _ _ ?_
        clear hK K
        refine W.seq_region fun K hK => ?_
        rcases kind_cases p a b with hk | ⟨hk, f1, f2, f3, f4⟩ | ⟨hk, f1, f2, f3, f4⟩ | ⟨hk, f1, f2, f3, f4⟩ | ⟨hk, f1, f2, f3, f4⟩
        · skip
          rw [hk] at hkb; cases hkb
        · skip
          have hd : decide (x.col < y.col) = true := decide_eq_true (place_left hx hy f1)
          have z0 : (([108] : Txt) == [108]) = true := rfl
          have z1 : (([108] : Txt) == [114]) = false := rfl
          have z2 : (([108] : Txt) == [117]) = false := rfl
          have z3 : (([108] : Txt) == [100]) = false := rfl
          simp (disch := omega) only [↓RU, RV, RH, ↓reduceIte, Nat.reduceEqDiff, reduceCtorEq, if_pos, w64, ↓RS, RG, Nat.reduceAdd, Nat.reduceMul, Nat.reduceLeDiff, tyint, tystring, hk, hd, z0, z1, z2, z3, pStr]
          refine hK _ _ ?_
          clear hK K
          refine W.ret ?_
          refine BodyQ.ret rfl ?_
          rfl
        · skip
          have hd : decide (x.col > y.col) = true := decide_eq_true (place_left hy hx f2)
          have z0 : (([114] : Txt) == [108]) = false := rfl
          have z1 : (([114] : Txt) == [114]) = true := rfl
          have z2 : (([114] : Txt) == [117]) = false := rfl
          have z3 : (([114] : Txt) == [100]) = false := rfl
          simp (disch := omega) only [↓RU, RV, RH, ↓reduceIte, Nat.reduceEqDiff, reduceCtorEq, if_pos, w64, ↓RS, RG, Nat.reduceAdd, Nat.reduceMul, Nat.reduceLeDiff, tyint, tystring, hk, hd, z0, z1, z2, z3, pStr]
          refine hK _ _ ?_
          clear hK K
          refine W.ret ?_
          refine BodyQ.ret rfl ?_
          rfl
        · skip
          have hd : decide (x.row < y.row) = true := decide_eq_true (place_above hx hy f3)
          have z0 : (([117] : Txt) == [108]) = false := rfl
          have z1 : (([117] : Txt) == [114]) = false := rfl
          have z2 : (([117] : Txt) == [117]) = true := rfl
          have z3 : (([117] : Txt) == [100]) = false := rfl
          simp (disch := omega) only [↓RU, RV, RH, ↓reduceIte, Nat.reduceEqDiff, reduceCtorEq, if_pos, w64, ↓RS, RG, Nat.reduceAdd, Nat.reduceMul, Nat.reduceLeDiff, tyint, tystring, hk, hd, z0, z1, z2, z3, pStr]
          refine hK _ _ ?_
          clear hK K
          refine W.ret ?_
          refine BodyQ.ret rfl ?_
          rfl
        · skip
          have hd : decide (x.row > y.row) = true := decide_eq_true (place_above hy hx f4)
          have z0 : (([100] : Txt) == [108]) = false := rfl
          have z1 : (([100] : Txt) == [114]) = false := rfl
          have z2 : (([100] : Txt) == [117]) = false := rfl
          have z3 : (([100] : Txt) == [100]) = true := rfl
          simp (disch := omega) only [↓RU, RV, RH, ↓reduceIte, Nat.reduceEqDiff, reduceCtorEq, if_pos, w64, ↓RS, RG, Nat.reduceAdd, Nat.reduceMul, Nat.reduceLeDiff, tyint, tystring, hk, hd, z0, z1, z2, z3, pStr]
          refine hK _ _ ?_
          clear hK K
          refine W.ret ?_
          refine BodyQ.ret rfl ?_
          rfl

end Fw
end Go.Proofs.Ytmhcknpjgikgmaa
