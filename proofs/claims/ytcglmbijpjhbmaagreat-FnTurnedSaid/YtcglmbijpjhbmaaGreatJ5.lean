/- Parts of the framework and of the proof: The program's closures and walls in words of cells: left of is going on from just left of, above is going on from just above; Orders of a plain plan: each two rooms are in just one; Plans that are cut, in plain words; Plans cut in two, gone through; Drawing plans, gone through; Drawing plans, gone through, continued; Drawing needs, gone through; Sizes by the program, gone through; Sizes, gone through; the small functions of the statements; Heaviest sums, gone through; Areas, gone through; Where rooms begin and how far they may be moved: the program's lists are the specification's; Shapes in plain words: the program's least shapes are the specification's; Sizes in plain words: areas, places, slacks, longest rows; What the laws of sizes ask, of plans in plain words; The law of areas, gone through; Marks, gone through; Places and slack by the specification, gone through; A relation the other way round, place by place; Places and slack by the program, gone through; Orders of two rooms, gone through; The laws of left and above, gone through; The law of places, gone through. -/
import Derived.Test.YtcglmbijpjhbmaaGreatJ4
import Derived.Test.YtcglmbijpjhbmaaGreatJ2
import Derived.Test.YtcglmbijpjhbmaaGreatJ3
set_option linter.all false
/-! The program's closures and walls in words of cells: left of is going on from just left of, above is going on from just above. -/
namespace Go.Proofs.YtcglmbijpjhbmaaGreat
namespace Fw
open Go

section
variable {n : Nat} {M : List (List Bool)}

theorem absorb {p q : Bool} : (p || (q && p)) = p := by cases p <;> cases q <;> rfl
theorem clK_to (h : Sq n M) {k : Nat} (hk : k < n) : ∀ i, i ≤ n → Sq n ((List.range i).foldl (clA n k) M) ∧
    ∀ x y, x < n → y < n → getB ((List.range i).foldl (clA n k) M) x y = if x < i then getB M x y || (getB M x k && getB M k y) else getB M x y
  | 0, _ => ⟨h, fun x y _ _ => by simp⟩
  | i + 1, hi => by
    obtain ⟨h1, h2⟩ := clK_to h hk i (by omega)
    rw [foldl_rg]
    generalize (List.range i).foldl (clA n k) M = X at h1 h2 ⊢
    obtain ⟨h3, h4⟩ := clA_to h1 hk (show i < n by omega) n (Nat.le_refl _)
    refine ⟨h3, fun x y hx hy => ?_⟩
    unfold clA
    rw [h4 x y hx hy]
    by_cases e : x = i
    · subst e
      have e1 : getB X x y = getB M x y := by rw [h2 x y hx hy, if_neg (Nat.lt_irrefl _)]
      have e2 : getB X x k = getB M x k := by rw [h2 x k hx hk, if_neg (Nat.lt_irrefl _)]
      have e3 : getB X k y = getB M k y := by
        rw [h2 k y hk hy]
        split
        · exact absorb
        · rfl
      rw [if_pos ⟨rfl, hy⟩, if_pos (by omega), e1, e2, e3]
    · rw [if_neg (fun q => e q.1), h2 x y hx hy]
      by_cases e2 : x < i
      · rw [if_pos e2, if_pos (by omega)]
      · rw [if_neg e2, if_neg (by omega)]
theorem clK_get (h : Sq n M) {k : Nat} (hk : k < n) {x y : Nat} (hx : x < n) (hy : y < n) : getB (clK n M k) x y = (getB M x y || (getB M x k && getB M k y)) := by
  have := (clK_to h hk n (Nat.le_refl _)).2 x y hx hy
  rw [if_pos hx] at this
  exact this
theorem close_to (h : Sq n M) : ∀ i, i ≤ n → Sq n ((List.range i).foldl (clK n) M) ∧
    (∀ a b, a < n → b < n → getB M a b = true → getB ((List.range i).foldl (clK n) M) a b = true) ∧
    (∀ m a b, m < i → a < n → b < n → getB ((List.range i).foldl (clK n) M) a m = true → getB ((List.range i).foldl (clK n) M) m b = true → getB ((List.range i).foldl (clK n) M) a b = true) ∧
    (∀ T : Nat → Nat → Prop, (∀ a b d, T a b → T b d → T a d) → (∀ a b, a < n → b < n → getB M a b = true → T a b) → ∀ a b, a < n → b < n → getB ((List.range i).foldl (clK n) M) a b = true → T a b)
  | 0, _ => ⟨h, fun a b _ _ k => k, fun m a b k => by omega, fun T _ k => k⟩
  | i + 1, hi => by
    obtain ⟨h1, h2, h3, h4⟩ := close_to h i (by omega)
    rw [foldl_rg]
    generalize (List.range i).foldl (clK n) M = X at h1 h2 h3 h4 ⊢
    have hin : i < n := by omega
    have g : ∀ {x y : Nat}, x < n → y < n → (getB (clK n X i) x y = true ↔ getB X x y = true ∨ (getB X x i = true ∧ getB X i y = true)) := by
      intro x y hx hy
      rw [clK_get h1 hin hx hy]; simp
    refine ⟨(clK_to h1 hin n (Nat.le_refl _)).1, fun a b ha hb k => (g ha hb).2 (.inl (h2 a b ha hb k)), fun m a b hm ha hb k1 k2 => ?_, fun T tr hT a b ha hb k => ?_⟩
    · have hmn : m < n := by omega
      rw [g ha hmn] at k1
      rw [g hmn hb] at k2
      rw [g ha hb]
      by_cases e : m = i
      · subst e
        rcases k1 with k1 | k1 <;> rcases k2 with k2 | k2
        · exact .inr ⟨k1, k2⟩
        · exact .inr ⟨k1, k2.2⟩
        · exact .inr ⟨k1.1, k2⟩
        · exact .inr ⟨k1.1, k2.2⟩
      · have hmi : m < i := by omega
        rcases k1 with k1 | k1 <;> rcases k2 with k2 | k2
        · exact .inl (h3 m a b hmi ha hb k1 k2)
        · exact .inr ⟨h3 m a i hmi ha hin k1 k2.1, k2.2⟩
        · exact .inr ⟨k1.1, h3 m i b hmi hin hb k1.2 k2⟩
        · exact .inr ⟨k1.1, k2.2⟩
    · rw [g ha hb] at k
      rcases k with k | k
      · exact h4 T tr hT a b ha hb k
      · exact tr a i b (h4 T tr hT a i ha hin k.1) (h4 T tr hT i b hin hb k.2)
/-- A matrix as a relation. -/
def MR (n : Nat) (M : List (List Bool)) (a b : Nat) : Prop := a < n ∧ b < n ∧ getB M a b = true
theorem close_tc (h : Sq n M) {a b : Nat} (ha : a < n) (hb : b < n) : getB (closeM M) a b = true ↔ TC (MR n M) a b := by
  obtain ⟨h1, h2, h3, h4⟩ := close_to h n (Nat.le_refl _)
  have e : closeM M = (List.range n).foldl (clK n) M := by unfold closeM; rw [h.1]
  rw [e]
  constructor
  · exact h4 (TC (MR n M)) (fun _ _ _ p q => p.trans q) (fun a b ha hb k => .one ⟨ha, hb, k⟩) a b ha hb
  · intro k
    induction k with
    | one k => exact h2 _ _ k.1 k.2.1 k.2.2
    | tail _ k ih => exact h3 _ _ _ k.1 ha k.2.1 (ih k.1) (h2 _ _ k.1 k.2.1 k.2.2)
end

/-! ### Walls -/
/-- Some wall stands at all these places. -/
def Cov (ws : List Wall) (level : Bool) (line i1 i2 : Nat) : Prop := ∃ w ∈ ws, w.level = level ∧ w.line = line ∧ w.fr ≤ i1 ∧ (i2 : Int) < w.fr + w.long
theorem Cov.app {ws vs : List Wall} {level : Bool} {line i1 i2 : Nat} (h : Cov ws level line i1 i2) : Cov (ws ++ vs) level line i1 i2 := by
  obtain ⟨w, hw, k⟩ := h
  exact ⟨w, List.mem_append_left _ hw, k⟩
theorem Cov.long {ws : List Wall} {w : Wall} {level : Bool} {line i1 i2 : Nat} (h : Cov (ws ++ [w]) level line i1 i2) : Cov (ws ++ [{ w with long := w.long + 1 }]) level line i1 i2 := by
  obtain ⟨v, hv, k1, k2, k3, k4⟩ := h
  rcases List.mem_append.1 hv with hv | hv
  · exact ⟨v, List.mem_append_left _ hv, k1, k2, k3, k4⟩
  · rw [List.mem_singleton] at hv
    subst hv
    exact ⟨_, List.mem_append_right _ (List.mem_singleton.2 rfl), k1, k2, k3, by simp only; omega⟩
def Run (g : List (List Int)) (level : Bool) (line i1 i2 : Nat) : Prop := ∀ j, i1 ≤ j → j ≤ i2 → difG g level line j = true
theorem wlLine_cov {g : List (List Int)} {level : Bool} {line : Nat} {ws : List Wall} : ∀ n, (∀ lv ln i1 i2, Cov ws lv ln i1 i2 → Cov (wlLine g level line ws n).1 lv ln i1 i2) ∧
    (∀ i1 i2, i1 ≤ i2 → i2 < n → Run g level line i1 i2 → Cov (wlLine g level line ws n).1 level line i1 i2) ∧
    ((wlLine g level line ws n).2 = false → ∀ m, n = m + 1 → difG g level line m = false) ∧
    ((wlLine g level line ws n).2 = true → ∃ (ws0 : List Wall) (w : Wall), (wlLine g level line ws n).1 = ws0 ++ [w] ∧ w.level = level ∧ w.line = (line : Int) ∧ w.fr + w.long = (n : Int) ∧ 1 ≤ w.long ∧ ∀ i : Nat, i < n → Run g level line i (n - 1) → w.fr ≤ (i : Int))
  | 0 => by
    rw [wlLine_zero]
    exact ⟨fun _ _ _ _ h => h, fun i1 i2 _ h => by omega, fun _ m h => by omega, fun h => by cases h⟩
  | n + 1 => by
    obtain ⟨h1, h2, h3, h4⟩ := wlLine_cov (g := g) (level := level) (line := line) (ws := ws) n
    rw [wlLine_succ]
    generalize wlLine g level line ws n = s at h1 h2 h3 h4
    obtain ⟨l, op⟩ := s
    simp only at h1 h2 h3 h4
    cases hd : difG g level line n with
    | false =>
      have e : wlStep false level line n (l, op) = (l, false) := by simp [wlStep]
      rw [e]
      refine ⟨h1, fun i1 i2 k1 k2 k3 => ?_, fun _ m hm => (by have e0 : m = n := (by omega); rw [e0]; exact hd), fun h => by cases h⟩
      by_cases e2 : i2 = n
      · subst e2
        have := k3 i2 k1 (Nat.le_refl _)
        rw [hd] at this; cases this
      · exact h2 i1 i2 k1 (by omega) k3
    | true =>
      cases op with
      | false =>
        have e : wlStep true level line n (l, false) = (l ++ [⟨level, line, n, 1⟩], true) := by simp [wlStep]
        rw [e]
        have hno : ∀ m, n = m + 1 → difG g level line m = false := h3 rfl
        have first : ∀ i, i < n + 1 → Run g level line i n → i = n := by
          intro i hi hr
          by_cases e2 : i = n
          · exact e2
          · have := hr (n - 1) (by omega) (by omega)
            rw [hno (n - 1) (by omega)] at this; cases this
        refine ⟨fun lv ln i1 i2 k => (h1 lv ln i1 i2 k).app, fun i1 i2 k1 k2 k3 => ?_, fun h => (by cases h), fun _ => ⟨l, _, rfl, rfl, rfl, by simp, by simp, fun i hi hr => ?_⟩⟩
        · by_cases e2 : i2 = n
          · subst e2
            obtain rfl := first i1 (by omega) k3
            exact ⟨_, List.mem_append_right _ (List.mem_singleton.2 rfl), rfl, rfl, Int.le_refl _, by simp only; omega⟩
          · exact (h2 i1 i2 k1 (by omega) k3).app
        · have := first i hi hr
          simp only; omega
      | true =>
        obtain ⟨ws0, w, rfl, w1, w2, w3, w4, w5⟩ := h4 rfl
        have e : wlStep true level line n (ws0 ++ [w], true) = (ws0 ++ [{ w with long := w.long + 1 }], true) := by simp [wlStep]
        rw [e]
        have hfr : ∀ i : Nat, i < n + 1 → Run g level line i n → w.fr ≤ (i : Int) := by
          intro i hi hr
          by_cases e2 : i = n
          · omega
          · exact w5 i (by omega) fun j j1 j2 => hr j j1 (by omega)
        refine ⟨fun lv ln i1 i2 k => (h1 lv ln i1 i2 k).long, fun i1 i2 k1 k2 k3 => ?_, fun h => (by cases h), fun _ => ⟨ws0, _, rfl, w1, w2, by simp only; omega, by simp only; omega, fun i hi hr => hfr i hi hr⟩⟩
        by_cases e2 : i2 = n
        · subst e2
          have := hfr i1 (by omega) k3
          exact ⟨_, List.mem_append_right _ (List.mem_singleton.2 rfl), w1, w2, this, by simp only; omega⟩
        · exact (h2 i1 i2 k1 (by omega) k3).long
theorem wlLevel_cov {g : List (List Int)} {level : Bool} {places : Nat} {ws : List Wall} : ∀ lines, (∀ lv ln i1 i2, Cov ws lv ln i1 i2 → Cov (wlLevel g level places ws lines) lv ln i1 i2) ∧
    (∀ line i1 i2, 1 ≤ line → line < lines → i1 ≤ i2 → i2 < places → Run g level line i1 i2 → Cov (wlLevel g level places ws lines) level line i1 i2)
  | 0 => ⟨fun _ _ _ _ h => h, fun line _ _ _ h => by omega⟩
  | k + 1 => by
    obtain ⟨h1, h2⟩ := wlLevel_cov (g := g) (level := level) (places := places) (ws := ws) k
    by_cases hk : 1 ≤ k
    · rw [wlLevel_succ hk]
      obtain ⟨l1, l2, -, -⟩ := wlLine_cov (g := g) (level := level) (line := k) (ws := wlLevel g level places ws k) places
      refine ⟨fun lv ln i1 i2 q => l1 _ _ _ _ (h1 _ _ _ _ q), fun line i1 i2 q1 q2 q3 q4 q5 => ?_⟩
      by_cases e : line = k
      · subst e; exact l2 i1 i2 q3 q4 q5
      · exact l1 _ _ _ _ (h2 line i1 i2 q1 (by omega) q3 q4 q5)
    · obtain rfl : k = 0 := by omega
      rw [wlLevel_one]
      exact ⟨fun _ _ _ _ h => h, fun line _ _ q1 q2 => by omega⟩
theorem wallsG_cov {g : List (List Int)} {H W : Nat} {level : Bool} {line i1 i2 : Nat} (h1 : 1 ≤ line) (h2 : line < if level then H else W) (h3 : i1 ≤ i2) (h4 : i2 < if level then W else H) (hr : Run g level line i1 i2) : Cov (wallsG g H W) level line i1 i2 := by
  unfold wallsG
  obtain ⟨a1, a2⟩ := wlLevel_cov (g := g) (level := false) (places := H) (ws := []) W
  obtain ⟨b1, b2⟩ := wlLevel_cov (g := g) (level := true) (places := W) (ws := wlLevel g false H [] W) H
  cases level with
  | false => exact b1 _ _ _ _ (a2 line i1 i2 h1 h2 h3 h4 hr)
  | true => exact b2 line i1 i2 h1 h2 h3 h4 hr

/-! ### The direct orders -/
section
variable {n : Nat}
theorem relB_get {a : Int} (ha : 0 ≤ a ∧ a < n) : ∀ {bs : List Int} {M : List (List Bool)}, Rm n bs → Sq n M → Sq n (relB a bs M) ∧ ∀ x y, getB (relB a bs M) x y = true ↔ getB M x y = true ∨ (x = a.toNat ∧ ∃ b ∈ bs, y = b.toNat)
  | [], M, _, h => ⟨h, fun x y => by simp [relB]⟩
  | b :: bs, M, hb, h => by
    have hb0 := hb b (by simp)
    obtain ⟨k1, k2⟩ := relB_get ha (bs := bs) (M := setB M a.toNat b.toNat true) (fun x hx => hb x (by simp [hx])) (h.set (by omega))
    refine ⟨k1, fun x y => ?_⟩
    have e : relB a (b :: bs) M = relB a bs (setB M a.toNat b.toNat true) := rfl
    rw [e, k2, getB_setB h (by omega) (by omega)]
    by_cases q : x = a.toNat ∧ y = b.toNat
    · rw [if_pos q]; simp [q.1, q.2]
    · rw [if_neg q]
      constructor
      · rintro (k | ⟨k, c, hc, rfl⟩)
        · exact .inl k
        · exact .inr ⟨k, c, by simp [hc], rfl⟩
      · rintro (k | ⟨k, c, hc, rfl⟩)
        · exact .inl k
        · rcases List.mem_cons.1 hc with rfl | hc
          · exact absurd ⟨k, rfl⟩ q
          · exact .inr ⟨k, c, hc, rfl⟩
theorem relW_get {bs : List Int} (hb : Rm n bs) : ∀ {la : List Int} {M : List (List Bool)}, Rm n la → Sq n M → Sq n (relW M la bs) ∧ ∀ x y, getB (relW M la bs) x y = true ↔ getB M x y = true ∨ (∃ a ∈ la, x = a.toNat) ∧ ∃ b ∈ bs, y = b.toNat
  | [], M, _, h => ⟨h, fun x y => by simp [relW]⟩
  | a :: la, M, ha, h => by
    obtain ⟨j1, j2⟩ := relB_get (ha a (by simp)) hb h
    obtain ⟨k1, k2⟩ := relW_get hb (la := la) (M := relB a bs M) (fun x hx => ha x (by simp [hx])) j1
    refine ⟨k1, fun x y => ?_⟩
    have e : relW M (a :: la) bs = relW (relB a bs M) la bs := rfl
    rw [e, k2, j2]
    constructor
    · rintro ((k | ⟨k, q⟩) | ⟨⟨c, hc, k⟩, q⟩)
      · exact .inl k
      · exact .inr ⟨⟨a, by simp, k⟩, q⟩
      · exact .inr ⟨⟨c, by simp [hc], k⟩, q⟩
    · rintro (k | ⟨⟨c, hc, k⟩, q⟩)
      · exact .inl (.inl k)
      · rcases List.mem_cons.1 hc with rfl | hc
        · exact .inl (.inr ⟨k, q⟩)
        · exact .inr ⟨⟨c, hc, k⟩, q⟩
/-- On both sides of some wall. -/
def By (g : List (List Int)) (ws : List Wall) (lv : Bool) (x y : Nat) : Prop := ∃ w ∈ ws, w.level = lv ∧ (∃ a ∈ (sidesOf g w).1, x = a.toNat) ∧ ∃ b ∈ (sidesOf g w).2, y = b.toNat
theorem By.cons {g : List (List Int)} {w : Wall} {ws : List Wall} {lv : Bool} {x y : Nat} : By g (w :: ws) lv x y ↔ (w.level = lv ∧ (∃ a ∈ (sidesOf g w).1, x = a.toNat) ∧ ∃ b ∈ (sidesOf g w).2, y = b.toNat) ∨ By g ws lv x y := by
  unfold By; simp
theorem ord_get {g : List (List Int)} {nh nw : Nat} (hrm : RmOk g nh nw n) : ∀ (ws : List Wall), (∀ w ∈ ws, WlOk g nh nw w) → ∀ {M : List (List Bool) × List (List Bool)}, Sq n M.1 → Sq n M.2 →
    (Sq n (ws.foldl (ordW g) M).1 ∧ ∀ x y, getB (ws.foldl (ordW g) M).1 x y = true ↔ getB M.1 x y = true ∨ By g ws false x y) ∧
    (Sq n (ws.foldl (ordW g) M).2 ∧ ∀ x y, getB (ws.foldl (ordW g) M).2 x y = true ↔ getB M.2 x y = true ∨ By g ws true x y)
  | [], _, M, h0, h1 => ⟨⟨h0, fun x y => by simp [By]⟩, ⟨h1, fun x y => by simp [By]⟩⟩
  | w :: ws, hws, M, h0, h1 => by
    obtain ⟨r1, r2⟩ := sidesOf_rooms hrm (hws w (by simp))
    rw [List.foldl_cons]
    cases hlv : w.level with
    | false =>
      obtain ⟨k1, k2⟩ := relW_get r2 r1 h0
      have e : ordW g M w = (relW M.1 (sidesOf g w).1 (sidesOf g w).2, M.2) := by unfold ordW; rw [hlv]; rfl
      rw [e]
      obtain ⟨⟨a1, a2⟩, ⟨b1, b2⟩⟩ := ord_get hrm ws (fun w hw => hws w (by simp [hw])) (M := (relW M.1 (sidesOf g w).1 (sidesOf g w).2, M.2)) k1 h1
      refine ⟨⟨a1, fun x y => ?_⟩, ⟨b1, fun x y => ?_⟩⟩
      · rw [a2, k2, By.cons, hlv]; simp only [true_and, or_assoc]
      · rw [b2, By.cons, hlv]; simp
    | true =>
      obtain ⟨k1, k2⟩ := relW_get r2 r1 h1
      have e : ordW g M w = (M.1, relW M.2 (sidesOf g w).1 (sidesOf g w).2) := by unfold ordW; rw [hlv]; rfl
      rw [e]
      obtain ⟨⟨a1, a2⟩, ⟨b1, b2⟩⟩ := ord_get hrm ws (fun w hw => hws w (by simp [hw])) (M := (M.1, relW M.2 (sidesOf g w).1 (sidesOf g w).2)) h0 k1
      refine ⟨⟨a1, fun x y => ?_⟩, ⟨b1, fun x y => ?_⟩⟩
      · rw [a2, By.cons, hlv]; simp
      · rw [b2, k2, By.cons, hlv]; simp only [true_and, or_assoc]
theorem emptyM_no {x y : Nat} : getB (emptyM n) x y = false := by
  unfold getB emptyM
  rw [List.getElem?_replicate]
  split
  · rw [Option.getD_some, List.getElem?_replicate]; split <;> rfl
  · rfl
/-- The number of a cell's room. -/
def cn (g : List (List Int)) (i j : Nat) : Nat := (gz g i j).toNat
theorem RmOk.ne {g : List (List Int)} {nh nw : Nat} (h : RmOk g nh nw n) {i j i' j' : Nat} (h1 : i < nh) (h2 : j < nw) (h3 : i' < nh) (h4 : j' < nw) : gz g i j ≠ gz g i' j' ↔ cn g i j ≠ cn g i' j' := by
  have a := h i j h1 h2
  have b := h i' j' h3 h4
  unfold cn
  omega
theorem side_mem1 {g : List (List Int)} {level : Bool} {line fr long j : Nat} (h1 : fr ≤ j) (h2 : j < fr + long) : (sidesG g level line j).1 ∈ (sidesOf g ⟨level, line, fr, long⟩).1 := by
  simp only [sidesOf, Int.toNat_natCast]
  rw [mem_ddp]
  simp only [alongG, List.mem_map, List.mem_range]
  exact ⟨j - fr, by omega, by rw [show fr + (j - fr) = j by omega]⟩
theorem side_mem2 {g : List (List Int)} {level : Bool} {line fr long j : Nat} (h1 : fr ≤ j) (h2 : j < fr + long) : (sidesG g level line j).2 ∈ (sidesOf g ⟨level, line, fr, long⟩).2 := by
  simp only [sidesOf, Int.toNat_natCast]
  rw [mem_ddp]
  simp only [alongG, List.mem_map, List.mem_range]
  exact ⟨j - fr, by omega, by rw [show fr + (j - fr) = j by omega]⟩
theorem side_of1 {g : List (List Int)} {level : Bool} {line fr long : Nat} {x : Int} (h : x ∈ (sidesOf g ⟨level, line, fr, long⟩).1) : ∃ j, fr ≤ j ∧ j < fr + long ∧ x = (sidesG g level line j).1 := by
  simp only [sidesOf, Int.toNat_natCast] at h
  rw [mem_ddp] at h
  simp only [alongG, List.mem_map, List.mem_range] at h
  obtain ⟨j, hj, rfl⟩ := h
  exact ⟨fr + j, by omega, by omega, rfl⟩
theorem side_of2 {g : List (List Int)} {level : Bool} {line fr long : Nat} {x : Int} (h : x ∈ (sidesOf g ⟨level, line, fr, long⟩).2) : ∃ j, fr ≤ j ∧ j < fr + long ∧ x = (sidesG g level line j).2 := by
  simp only [sidesOf, Int.toNat_natCast] at h
  rw [mem_ddp] at h
  simp only [alongG, List.mem_map, List.mem_range] at h
  obtain ⟨j, hj, rfl⟩ := h
  exact ⟨fr + j, by omega, by omega, rfl⟩
theorem by_left {g : List (List Int)} {nh nw : Nat} (h : RmOk g nh nw n) {x y : Nat} : By g (wallsG g nh nw) false x y ↔ DL (cn g) nh nw x y := by
  constructor
  · rintro ⟨w, hw, hlv, ⟨a, ha, rfl⟩, b, hb, rfl⟩
    obtain ⟨line, fr, long, he, hl, hin⟩ := wallsG_ok w hw
    rw [hlv] at he hin
    subst he
    obtain ⟨j1, p1, p2, rfl⟩ := side_of1 ha
    obtain ⟨j2, q1, q2, rfl⟩ := side_of2 hb
    have i1 := (hin j1 p1 p2).1
    have i2 := (hin j2 q1 q2).1
    unfold InL at i1 i2
    simp only [Bool.false_eq_true, if_false] at i1 i2
    obtain ⟨L, rfl⟩ : ∃ L, line = L + 1 := ⟨line - 1, by omega⟩
    refine ⟨L, j1, j2, i1.2.1, i1.2.2, i2.2.2, fun r r1 r2 => ?_, ?_, ?_⟩
    · have hr := hin r (by omega) (by omega)
      have hr1 := hr.1
      unfold InL at hr1
      simp only [Bool.false_eq_true, if_false] at hr1
      have hr2 := hr.2
      unfold difG sidesG at hr2
      simp only [Bool.false_eq_true, if_false, decide_eq_true_eq, Nat.add_sub_cancel] at hr2
      exact (h.ne hr1.2.2 (by omega) hr1.2.2 hr1.2.1).1 hr2
    · simp [sidesG, cn]
    · simp [sidesG, cn]
  · rintro ⟨L, i1, i2, h1, h2, h3, run, rfl, rfl⟩
    have hrun : Run g false (L + 1) (min i1 i2) (max i1 i2) := by
      intro r r1 r2
      have := run r r1 r2
      rw [← h.ne (by omega) (by omega) (by omega) h1] at this
      unfold difG sidesG
      simpa using this
    obtain ⟨w, hw, w1, w2, w3, w4⟩ := wallsG_cov (g := g) (H := nh) (W := nw) (level := false) (line := L + 1) (by omega) (by simpa using h1) (by omega) (by simp only [Bool.false_eq_true, if_false]; omega) hrun
    obtain ⟨line, fr, long, he, hl, hin⟩ := wallsG_ok w hw
    rw [w1] at he
    subst he
    simp only at w2 w3 w4
    obtain rfl : line = L + 1 := by omega
    refine ⟨_, hw, rfl, ⟨_, side_mem1 (j := i1) (by omega) (by omega), ?_⟩, _, side_mem2 (j := i2) (by omega) (by omega), ?_⟩
    · simp [sidesG, cn]
    · simp [sidesG, cn]
theorem by_above {g : List (List Int)} {nh nw : Nat} (h : RmOk g nh nw n) {x y : Nat} : By g (wallsG g nh nw) true x y ↔ DU (cn g) nh nw x y := by
  constructor
  · rintro ⟨w, hw, hlv, ⟨a, ha, rfl⟩, b, hb, rfl⟩
    obtain ⟨line, fr, long, he, hl, hin⟩ := wallsG_ok w hw
    rw [hlv] at he hin
    subst he
    obtain ⟨j1, p1, p2, rfl⟩ := side_of1 ha
    obtain ⟨j2, q1, q2, rfl⟩ := side_of2 hb
    have i1 := (hin j1 p1 p2).1
    have i2 := (hin j2 q1 q2).1
    unfold InL at i1 i2
    simp only [if_true] at i1 i2
    obtain ⟨L, rfl⟩ : ∃ L, line = L + 1 := ⟨line - 1, by omega⟩
    refine ⟨L, j1, j2, i1.2.1, i1.2.2, i2.2.2, fun r r1 r2 => ?_, ?_, ?_⟩
    · have hr := hin r (by omega) (by omega)
      have hr1 := hr.1
      unfold InL at hr1
      simp only [if_true] at hr1
      have hr2 := hr.2
      unfold difG sidesG at hr2
      simp only [if_true, decide_eq_true_eq, Nat.add_sub_cancel] at hr2
      exact (h.ne (by omega) hr1.2.2 hr1.2.1 hr1.2.2).1 hr2
    · simp [sidesG, cn]
    · simp [sidesG, cn]
  · rintro ⟨L, i1, i2, h1, h2, h3, run, rfl, rfl⟩
    have hrun : Run g true (L + 1) (min i1 i2) (max i1 i2) := by
      intro r r1 r2
      have := run r r1 r2
      rw [← h.ne (by omega) (by omega) h1 (by omega)] at this
      unfold difG sidesG
      simpa using this
    obtain ⟨w, hw, w1, w2, w3, w4⟩ := wallsG_cov (g := g) (H := nh) (W := nw) (level := true) (line := L + 1) (by omega) (by simpa using h1) (by omega) (by simp only [if_true]; omega) hrun
    obtain ⟨line, fr, long, he, hl, hin⟩ := wallsG_ok w hw
    rw [w1] at he
    subst he
    simp only at w2 w3 w4
    obtain rfl : line = L + 1 := by omega
    refine ⟨_, hw, rfl, ⟨_, side_mem1 (j := i1) (by omega) (by omega), ?_⟩, _, side_mem2 (j := i2) (by omega) (by omega), ?_⟩
    · simp [sidesG, cn]
    · simp [sidesG, cn]
theorem cn_lt {g : List (List Int)} {nh nw : Nat} (h : RmOk g nh nw n) {i j : Nat} (hi : i < nh) (hj : j < nw) : cn g i j < n := by
  have := h i j hi hj
  unfold cn; omega
theorem left_tc {g : List (List Int)} {nh nw : Nat} (h : RmOk g nh nw n) {a b : Nat} (ha : a < n) (hb : b < n) : getB (leftG g nh nw n) a b = true ↔ TC (DL (cn g) nh nw) a b := by
  obtain ⟨⟨k1, k2⟩, -⟩ := ord_get h (wallsG g nh nw) wallsG_ok (M := (emptyM n, emptyM n)) (emptyM_sq n) (emptyM_sq n)
  have hd : ∀ x y, getB (ordM g nh nw n).1 x y = true ↔ DL (cn g) nh nw x y := fun x y => by
    unfold ordM; rw [k2, by_left h]; simp [emptyM_no]
  unfold leftG
  have k3 : Sq n (ordM g nh nw n).1 := k1
  rw [close_tc k3 ha hb]
  constructor
  · exact TC.mono fun x y q => (hd x y).1 q.2.2
  · refine TC.mono fun x y q => ⟨?_, ?_, (hd x y).2 q⟩
    · obtain ⟨j, i1, i2, q1, q2, q3, -, rfl, -⟩ := q
      exact cn_lt h q2 (by omega)
    · obtain ⟨j, i1, i2, q1, q2, q3, -, -, rfl⟩ := q
      exact cn_lt h q3 q1
theorem above_tc {g : List (List Int)} {nh nw : Nat} (h : RmOk g nh nw n) {a b : Nat} (ha : a < n) (hb : b < n) : getB (aboveG g nh nw n) a b = true ↔ TC (DU (cn g) nh nw) a b := by
  obtain ⟨-, ⟨k1, k2⟩⟩ := ord_get h (wallsG g nh nw) wallsG_ok (M := (emptyM n, emptyM n)) (emptyM_sq n) (emptyM_sq n)
  have hd : ∀ x y, getB (ordM g nh nw n).2 x y = true ↔ DU (cn g) nh nw x y := fun x y => by
    unfold ordM; rw [k2, by_above h]; simp [emptyM_no]
  unfold aboveG
  have k3 : Sq n (ordM g nh nw n).2 := k1
  rw [close_tc k3 ha hb]
  constructor
  · exact TC.mono fun x y q => (hd x y).1 q.2.2
  · refine TC.mono fun x y q => ⟨?_, ?_, (hd x y).2 q⟩
    · obtain ⟨j, i1, i2, q1, q2, q3, -, rfl, -⟩ := q
      exact cn_lt h (by omega) q2
    · obtain ⟨j, i1, i2, q1, q2, q3, -, -, rfl⟩ := q
      exact cn_lt h q1 q3
end
end Fw
end Go.Proofs.YtcglmbijpjhbmaaGreat

/-! Orders of a plain plan: each two rooms are in just one. -/
namespace Go.Proofs.YtcglmbijpjhbmaaGreat
namespace Fw
open Go

/-- The orders of a plan. -/
def lfM (p : List Txt) : List (List Bool) := leftG (gP p) p.length (hdRow p).length (rP p).length
def abM (p : List Txt) : List (List Bool) := aboveG (gP p) p.length (hdRow p).length (rP p).length
def Lf (p : List Txt) (a b : Nat) : Prop := getB (lfM p) a b = true
def Ab (p : List Txt) (a b : Nat) : Prop := getB (abM p) a b = true
section
variable {p : List Txt} {a b d : Nat}
theorem Lf.iff (ha : a < (rP p).length) (hb : b < (rP p).length) : Lf p a b ↔ TC (DL (cn (gP p)) p.length (hdRow p).length) a b := left_tc gP_room ha hb
theorem Ab.iff (ha : a < (rP p).length) (hb : b < (rP p).length) : Ab p a b ↔ TC (DU (cn (gP p)) p.length (hdRow p).length) a b := above_tc gP_room ha hb
theorem Lf.trans (ha : a < (rP p).length) (hb : b < (rP p).length) (hd : d < (rP p).length) (h : Lf p a b) (k : Lf p b d) : Lf p a d := by
  rw [Lf.iff ha hd]; exact ((Lf.iff ha hb).1 h).trans ((Lf.iff hb hd).1 k)
theorem Ab.trans (ha : a < (rP p).length) (hb : b < (rP p).length) (hd : d < (rP p).length) (h : Ab p a b) (k : Ab p b d) : Ab p a d := by
  rw [Ab.iff ha hd]; exact ((Ab.iff ha hb).1 h).trans ((Ab.iff hb hd).1 k)
end
end Fw
end Go.Proofs.YtcglmbijpjhbmaaGreat

/-! Plans that are cut, in plain words. -/
namespace Go.Proofs.YtcglmbijpjhbmaaGreat
namespace Fw
open Go

/-- A row whose places from l up to k have one letter. -/
def rowPut (row : Txt) (l : Nat) (c : UInt8) (k : Nat) : Txt := (List.range row.length).map fun x => if l ≤ x ∧ x < k then c else row.getD x 0
theorem rowPut_len {row : Txt} {l k : Nat} {c : UInt8} : (rowPut row l c k).length = row.length := by simp [rowPut]
theorem rowPut_zero {row : Txt} {l : Nat} {c : UInt8} : rowPut row l c l = row := by
  apply List.ext_getElem?
  intro j
  unfold rowPut
  rw [List.getElem?_map]
  by_cases hj : j < row.length
  · rw [List.getElem?_range hj, Option.map_some, if_neg (by omega), List.getD_eq_getElem?_getD, List.getElem?_eq_getElem hj]; rfl
  · rw [List.getElem?_eq_none (by simpa using hj), List.getElem?_eq_none (by omega)]; rfl
theorem rowPut_succ {row : Txt} {l k : Nat} {c : UInt8} (h1 : l ≤ k) (h2 : k < row.length) : (rowPut row l c k).set k c = rowPut row l c (k + 1) := by
  apply List.ext_getElem?
  intro j
  rw [List.getElem?_set, rowPut_len]
  unfold rowPut
  rw [List.getElem?_map, List.getElem?_map]
  by_cases hj : j < row.length
  · rw [List.getElem?_range hj, Option.map_some, Option.map_some]
    by_cases e : k = j
    · subst e; rw [if_pos rfl, if_pos h2, if_pos (by omega)]
    · rw [if_neg e]
      by_cases q : l ≤ j ∧ j < k
      · rw [if_pos q, if_pos (by omega)]
      · rw [if_neg q, if_neg (by omega)]
  · rw [if_neg (by omega), List.getElem?_eq_none (by simpa using hj)]; rfl
/-- A plan whose rows from t up to i have one letter in some places. -/
def putTo (p : List Txt) (t l w : Nat) (c : UInt8) (i : Nat) : List Txt := (List.range p.length).map fun j => if t ≤ j ∧ j < i then rowPut (p.getD j []) l c (l + w) else p.getD j []
theorem putTo_len {p : List Txt} {t l w i : Nat} {c : UInt8} : (putTo p t l w c i).length = p.length := by simp [putTo]
theorem putTo_at {p : List Txt} {t l w i : Nat} {c : UInt8} {row : Txt} (h : p[i]? = some row) : (putTo p t l w c i)[i]? = some row := by
  have hi := len_of h
  unfold putTo
  rw [List.getElem?_map, List.getElem?_range hi, Option.map_some, if_neg (by omega), List.getD_eq_getElem?_getD, h]; rfl
theorem putTo_zero {p : List Txt} {t l w : Nat} {c : UInt8} : putTo p t l w c t = p := by
  apply List.ext_getElem?
  intro j
  unfold putTo
  rw [List.getElem?_map]
  by_cases hj : j < p.length
  · rw [List.getElem?_range hj, Option.map_some, if_neg (by omega), List.getD_eq_getElem?_getD, List.getElem?_eq_getElem hj]; rfl
  · rw [List.getElem?_eq_none (by simpa using hj), List.getElem?_eq_none (by omega)]; rfl
theorem putTo_succ {p : List Txt} {t l w i : Nat} {c : UInt8} {row : Txt} (h1 : t ≤ i) (h : p[i]? = some row) : (putTo p t l w c i).set i (rowPut row l c (l + w)) = putTo p t l w c (i + 1) := by
  have hi := len_of h
  apply List.ext_getElem?
  intro j
  rw [List.getElem?_set, putTo_len]
  unfold putTo
  rw [List.getElem?_map, List.getElem?_map]
  by_cases hj : j < p.length
  · rw [List.getElem?_range hj, Option.map_some, Option.map_some]
    by_cases e : i = j
    · subst e; rw [if_pos rfl, if_pos hi, if_pos (by omega), List.getD_eq_getElem?_getD, h]; rfl
    · rw [if_neg e]
      by_cases q : t ≤ j ∧ j < i
      · rw [if_pos q, if_pos (by omega)]
      · rw [if_neg q, if_neg (by omega)]
  · rw [if_neg (by omega), List.getElem?_eq_none (by simpa using hj)]; rfl
theorem putTo_sm {p : List Txt} (hs : Sm p) {t l w i : Nat} {c : UInt8} : Sm (putTo p t l w c i) := by
  refine ⟨by rw [putTo_len]; exact hs.1, fun r hr => ?_⟩
  obtain ⟨j, hj, rfl⟩ := List.mem_map.1 hr
  have hjl : j < p.length := by simpa using hj
  have hm : p.getD j [] ∈ p := by
    rw [List.getD_eq_getElem?_getD, List.getElem?_eq_getElem hjl]; exact List.getElem_mem hjl
  have := hs.2 _ hm
  split
  · rw [rowPut_len]; exact this
  · exact this

/-- Letters anew, if it is a plan. -/
def doneP (p : List Txt) : List Txt × Bool := if gridB p && planB (names p) then (names p, true) else ([], false)
theorem names_len {p : List Txt} (hg : gridB p = true) : (names p).length = p.length := by
  rw [names_text hg]
  have hr : (gP p).length = p.length := by rw [gP_eq]; exact zRows_len _
  unfold textG
  rw [List.length_map, hr]
theorem doneP_ok {p : List Txt} (h : (doneP p).2 = true) : planB (doneP p).1 = true ∧ (doneP p).1.length = p.length := by
  unfold doneP at h ⊢
  split at h
  · rename_i hq
    rw [if_pos hq]
    simp only [Bool.and_eq_true] at hq
    exact ⟨hq.2, names_len hq.1⟩
  · cases h
/-- A room cut in two. -/
def splitP (p : List Txt) (room : Int) (s : Txt) (k : Int) : List Txt × Bool :=
  if planB p && (decide (0 ≤ room) && decide (room ≤ l1Rooms p - 1)) then
    if (s == [104]) && (decide (1 ≤ k) && decide (k ≤ highOf p room - 1)) then doneP (putTo p ((boxOf p room).top + k).toNat (boxOf p room).left.toNat (wideOf p room).toNat 122 ((boxOf p room).top + k + (highOf p room - k)).toNat)
    else if (s == [118]) && (decide (1 ≤ k) && decide (k ≤ wideOf p room - 1)) then doneP (putTo p (boxOf p room).top.toNat ((boxOf p room).left + k).toNat (wideOf p room - k).toNat 122 ((boxOf p room).top + highOf p room).toNat)
    else ([], false)
  else ([], false)
theorem splitP_ok {p : List Txt} {room k : Int} {s : Txt} (h : (splitP p room s k).2 = true) : planB (splitP p room s k).1 = true ∧ (splitP p room s k).1.length = p.length := by
  unfold splitP at h ⊢
  by_cases h1 : (planB p && (decide (0 ≤ room) && decide (room ≤ l1Rooms p - 1))) = true
  · rw [if_pos h1] at h ⊢
    by_cases h2 : ((s == [104]) && (decide (1 ≤ k) && decide (k ≤ highOf p room - 1))) = true
    · rw [if_pos h2] at h ⊢
      have := doneP_ok h
      rw [putTo_len] at this
      exact this
    · rw [if_neg h2] at h ⊢
      by_cases h3 : ((s == [118]) && (decide (1 ≤ k) && decide (k ≤ wideOf p room - 1))) = true
      · rw [if_pos h3] at h ⊢
        have := doneP_ok h
        rw [putTo_len] at this
        exact this
      · rw [if_neg h3] at h; cases h
  · rw [if_neg h1] at h; cases h
section
variable {p : List Txt} {room : Int} {s : Txt} {t l h w k : Nat}
theorem splitP_g {k : Int} (hgv : (planB p && (decide (0 ≤ room) && decide (room ≤ l1Rooms p - 1))) = false) : splitP p room s k = ([], false) := by
  unfold splitP; rw [hgv]; rfl
theorem splitP_no {k : Int} (h1 : ((s == [104]) && (decide (1 ≤ k) && decide (k ≤ highOf p room - 1))) = false) (h2 : ((s == [118]) && (decide (1 ≤ k) && decide (k ≤ wideOf p room - 1))) = false) : splitP p room s k = ([], false) := by
  unfold splitP; rw [h1, h2]; split <;> rfl
theorem splitP_h (hgv : (planB p && (decide (0 ≤ room) && decide (room ≤ l1Rooms p - 1))) = true) (e1 : (boxOf p room).top = t) (e2 : (boxOf p room).left = l) (e3 : highOf p room = h) (e4 : wideOf p room = w)
    (hb : ((s == [104]) && (decide (1 ≤ (k : Int)) && decide ((k : Int) ≤ highOf p room - 1))) = true) : splitP p room s k = doneP (putTo p (t + k) l w 122 (t + k + (h - k))) := by
  have hk : (k : Int) ≤ h - 1 := by simp only [Bool.and_eq_true, decide_eq_true_eq, e3] at hb; exact hb.2.2
  unfold splitP
  rw [if_pos hgv, if_pos hb, e1, e2, e3, e4]
  have a1 : ((t : Int) + (k : Int)).toNat = t + k := by omega
  have a2 : ((t : Int) + (k : Int) + ((h : Int) - (k : Int))).toNat = t + k + (h - k) := by omega
  rw [a1, a2, Int.toNat_natCast, Int.toNat_natCast]
theorem splitP_v (hgv : (planB p && (decide (0 ≤ room) && decide (room ≤ l1Rooms p - 1))) = true) (e1 : (boxOf p room).top = t) (e2 : (boxOf p room).left = l) (e3 : highOf p room = h) (e4 : wideOf p room = w)
    (ha : ((s == [104]) && (decide (1 ≤ (k : Int)) && decide ((k : Int) ≤ highOf p room - 1))) = false) (hb : ((s == [118]) && (decide (1 ≤ (k : Int)) && decide ((k : Int) ≤ wideOf p room - 1))) = true) : splitP p room s k = doneP (putTo p t (l + k) (w - k) 122 (t + h)) := by
  have hk : (k : Int) ≤ w - 1 := by simp only [Bool.and_eq_true, decide_eq_true_eq, e4] at hb; exact hb.2.2
  unfold splitP
  rw [if_pos hgv, ha, if_neg Bool.false_ne_true, if_pos hb, e1, e2, e3, e4]
  have a1 : ((l : Int) + (k : Int)).toNat = l + k := by omega
  have a2 : ((t : Int) + (h : Int)).toNat = t + h := by omega
  have a3 : ((w : Int) - (k : Int)).toNat = w - k := by omega
  rw [a1, a2, a3, Int.toNat_natCast]
end
/-- Where a room lies. -/
theorem plan_box {p : List Txt} (hp : planB p = true) {room : Int} (h0 : 0 ≤ room) (h1 : room ≤ l1Rooms p - 1) : ∃ t l h w : Nat, (boxOf p room).top = t ∧ (boxOf p room).left = l ∧ highOf p room = h ∧ wideOf p room = w ∧ 1 ≤ h ∧ 1 ≤ w ∧ t + h ≤ p.length ∧ l + w ≤ (hdRow p).length := by
  have hN := plan_named hp
  have hr := hN.rooms
  obtain ⟨m, rfl⟩ : ∃ m : Nat, room = m := ⟨room.toNat, by omega⟩
  have hm : m < (rP p).length := by omega
  obtain ⟨b, hb, -⟩ := get_of hm
  have hi := keys_inv p
  obtain ⟨v, hv, -⟩ := get_of (show m < (keys p).length by rw [← hi.len]; exact hm)
  obtain ⟨e1, e2, e3, e4⟩ := hN.box hb
  obtain ⟨t, l, h, w, q1, q2, q3, q4, q5, q6, q7, q8, -⟩ := Hull.nat (hi.hull m v b hv hb)
  exact ⟨t, l, h, w, by omega, by omega, by omega, by omega, q5, q6, q7, q8⟩
theorem rows_wide {p : List Txt} (hp : planB p = true) {i : Nat} {row : Txt} (h : p[i]? = some row) : row.length = (hdRow p).length := grid_row (planB_grid hp) h
theorem plan_small {p : List Txt} (hp : planB p = true) : p.length ≤ 6 ∧ 1 ≤ p.length ∧ ∀ row ∈ p, 1 ≤ row.length ∧ row.length ≤ 6 := by
  have hg := planB_grid hp
  have h := grid_small hg
  refine ⟨h.2.1, h.1, fun row hr => ⟨?_, h.2.2 row hr⟩⟩
  obtain ⟨i, hi, rfl⟩ := List.getElem_of_mem hr
  exact row_pos hg (List.getElem?_eq_getElem hi)
end Fw
end Go.Proofs.YtcglmbijpjhbmaaGreat

/-! Plans cut in two, gone through. -/
namespace Go.Proofs.YtcglmbijpjhbmaaGreat
namespace Fw
open Go

theorem set_eB {l : Txt} {a : Nat} {c : UInt8} : (l.map eB).set a (.int .u8 (c.toNat : Int)) = (l.set a c).map eB := by rw [List.map_set]
theorem bytesOf_eB (l : Txt) : bytesOf (l.map eB) = some l := bytesOf_map l

theorem l1None_pc  : PC Tryz.prog 185 [] (.tup [eStrs [], .bool false]) true := by
  refine PC.of ⟨Tryz.func185, by kernel_rfl, rfl, by kernel_rfl⟩ tabOk mixed (by show 0 ≤ Tryz.f185.ntmps; decide) ?_
  refine W.seq_region fun K hK => ?_
  simp (disch := omega) only [↓RU, RV, RH, ↓reduceIte, Nat.reduceEqDiff, reduceCtorEq, if_pos, ↓RS, RG, Nat.reduceAdd, Nat.reduceMul, Nat.reduceLeDiff]
  refine hK _ _ ?_
  clear hK K
  refine W.seq_region fun K hK => ?_
  simp (disch := omega) only [↓RU, RV, RH, ↓reduceIte, Nat.reduceEqDiff, reduceCtorEq, if_pos, ↓RS, RG, Nat.reduceAdd, Nat.reduceMul, Nat.reduceLeDiff, tyLstring, tystring]
  refine hK _ _ ?_
  clear hK K
  refine W.ret ?_
  refine BodyQ.ret rfl ?_
  exact reify_tup2 (k := 9) (reify_loc (k := 8) (n := 0) rfl rfl rfl) rfl

theorem l1Put_pc {p : List Txt} (hs : Sm p) {tp lf hg wd : Nat} {c : UInt8} (h1 : tp + hg ≤ p.length) (h2 : ∀ row ∈ p, lf + wd ≤ row.length) : PC Tryz.prog 187 [eStrs p, .int .i64 tp, .int .i64 lf, .int .i64 hg, .int .i64 wd, eB c] (eStrs (putTo p tp lf wd c (tp + hg))) true := by
  obtain ⟨hs1, hs2⟩ := hs
  refine PC.of ⟨Tryz.func187, by kernel_rfl, rfl, by kernel_rfl⟩ tabOk mixed (by show 6 ≤ Tryz.f187.ntmps; decide) ?_
  refine W.seq_region fun K hK => ?_
  simp (disch := omega) only [↓RU, RV, RH, ↓reduceIte, Nat.reduceEqDiff, reduceCtorEq, if_pos, ↓RS, RG, Nat.reduceAdd, Nat.reduceMul, Nat.reduceLeDiff]
  refine hK _ _ ?_
  clear hK K
  refine W.seq_region fun K hK => ?_
  simp (disch := omega) only [↓RU, RV, RH, ↓reduceIte, Nat.reduceEqDiff, reduceCtorEq, if_pos, ↓RS, RG, Nat.reduceAdd, Nat.reduceMul, Nat.reduceLeDiff, tyLstring, tystring]
  refine hK _ _ ?_
  clear hK K
  refine W.seq ?_
  refine W.seq_region fun K hK => ?_
  simp (disch := omega) only [↓RU, RV, RH, ↓reduceIte, Nat.reduceEqDiff, reduceCtorEq, if_pos, ↓RS, RG, Nat.reduceAdd, Nat.reduceMul, Nat.reduceLeDiff]
  refine hK _ _ ?_
  clear hK K
  refine W.block ?_
  refine W.loop [0, 1, 2, 3, 4, 5, 13, 14] (fun n vs S => ∃ j t v : Nat, n = hg - j ∧ j ≤ hg ∧ vs = [eStrs p, .int .i64 tp, .int .i64 lf, .int .i64 hg, .int .i64 wd, eB c, .loc 0 v 0 p.length, .int .i64 ((tp + j : Nat) : Int)] ∧ S = ⟨[.arr v 9 1 ((putTo p tp lf wd c (tp + j)).map .str)], t⟩) hg ?_ ?_
  · refine ⟨1, 0, 2, 1, rfl, by omega, ?_, ?_⟩
    · simp [Env.put, Env.of, argEnv]
    · simp [take_eq, putTo_zero]
  rintro n vs S - ⟨j, t, v, rfl, h_j, rfl, rfl⟩
  refine W.seq ?_
  refine W.seq_region fun K hK => ?_
  simp (disch := omega) only [↓RU, RV, RH, ↓reduceIte, Nat.reduceEqDiff, reduceCtorEq, if_pos, w64, ↓RS, RG, Nat.reduceAdd, Nat.reduceMul, Nat.reduceLeDiff, tyint]
  refine hK _ _ ?_
  clear hK K
  refine W.cond rfl (fun h => ?_) (fun h => ?_)
  · try simp only [RL] at h
    obtain ⟨i, hi⟩ : ∃ i, tp + j = i := ⟨_, rfl⟩
    simp only [hi]
    obtain ⟨row, hrow0, hrm⟩ := get_of (show i < p.length by omega)
    have hrow := putTo_at (t := tp) (l := lf) (w := wd) (c := c) hrow0
    have hlen := putTo_len (p := p) (t := tp) (l := lf) (w := wd) (c := c) (i := i)
    have hr1 := hs2 row hrm
    have hr2 := h2 row hrm
    refine W.skip ?_
    refine XThen.norm ?_
    refine W.seq ?_
    refine W.block ?_
    refine W.seq_thaw (l1 := [_, _, _, _]) (o := _) (l2 := [_]) rfl fun K hK => ?_
    simp (disch := omega) only [↓RU, RV, RH, ↓reduceIte, Nat.reduceEqDiff, reduceCtorEq, if_pos, w64, ↓RS, RG, Nat.reduceAdd, Nat.reduceMul, Nat.reduceLeDiff, tyLstring, tyLuint8, tystring, tyuint8, hrow, hlen]
    refine ⟨_, _, _, _, _, rfl, rfl, rfl, rfl, rfl, rfl, by omega, ?_⟩
    simp (disch := omega) only [↓RU, RV, RH, ↓reduceIte, Nat.reduceEqDiff, reduceCtorEq, if_pos, w64, ↓RS, RG, Nat.reduceAdd, Nat.reduceMul, Nat.reduceLeDiff, tyLstring, tyLuint8, tystring, tyuint8, hrow, hlen]
    refine hK _ _ ?_
    clear hK K
    refine W.seq ?_
    refine W.seq_region fun K hK => ?_
    simp (disch := omega) only [↓RU, RV, RH, ↓reduceIte, Nat.reduceEqDiff, reduceCtorEq, if_pos, ↓RS, RG, Nat.reduceAdd, Nat.reduceMul, Nat.reduceLeDiff]
    refine hK _ _ ?_
    clear hK K
    refine W.block ?_
    refine W.loop [0, 1, 2, 3, 4, 5, 13, 14, 15, 16] (fun n vs S => ∃ k t2 : Nat, n = wd - k ∧ k ≤ wd ∧ vs = [eStrs p, .int .i64 tp, .int .i64 lf, .int .i64 hg, .int .i64 wd, eB c, .loc 0 v 0 p.length, .int .i64 (i : Int), .loc 1 t 0 row.length, .int .i64 ((lf + k : Nat) : Int)] ∧ S = ⟨[.arr v 9 1 ((putTo p tp lf wd c i).map .str), .arr t 5 1 ((rowPut row lf c (lf + k)).map eB)], t2⟩) wd ?_ ?_
    · refine ⟨2, 0, t + 1, rfl, by omega, ?_, ?_⟩
      · simp [Env.put, Env.of]
      · simp [take_eq, rowPut_zero]
    rintro n vs S - ⟨k, t2, rfl, h_k, rfl, rfl⟩
    refine W.seq ?_
    refine W.seq_region fun K hK => ?_
    simp (disch := omega) only [↓RU, RV, RH, ↓reduceIte, Nat.reduceEqDiff, reduceCtorEq, if_pos, w64, ↓RS, RG, Nat.reduceAdd, Nat.reduceMul, Nat.reduceLeDiff, tyint]
    refine hK _ _ ?_
    clear hK K
    refine W.cond rfl (fun h3 => ?_) (fun h3 => ?_)
    · try simp only [RL] at h3
      have hrl := rowPut_len (row := row) (l := lf) (k := lf + k) (c := c)
      refine W.skip ?_
      refine XThen.norm ?_
      refine W.seq ?_
      refine W.block ?_
      refine W.region_k fun K hK => ?_
      simp (disch := omega) only [↓RU, RV, RH, ↓reduceIte, Nat.reduceEqDiff, reduceCtorEq, if_pos, ↓RS, RG, Nat.reduceAdd, Nat.reduceMul, Nat.reduceLeDiff, tyLuint8, tyuint8, hrl, set_spl, set_eB]
      refine hK _ _ ?_
      clear hK K
      refine XBlock.norm ?_
      refine XThen.norm ?_
      refine W.region_k fun K hK => ?_
      simp (disch := omega) only [↓RU, RV, RH, ↓reduceIte, Nat.reduceEqDiff, reduceCtorEq, if_pos, w64, ↓RS, RG, Nat.reduceAdd, Nat.reduceMul, Nat.reduceLeDiff, tyint]
      refine hK _ _ ?_
      clear hK K
      refine XThen.norm ?_
      refine ⟨wd - (k + 1), by omega, 2, k + 1, t2, rfl, by omega, ?_, ?_⟩
      · simp [Env.put, Env.of]; omega
      · simp only [take_eq]; rw [rowPut_succ (by omega) (by omega)]; rfl
    · try simp only [RL] at h3
      obtain rfl : k = wd := by omega
      have hrl := rowPut_len (row := row) (l := lf) (k := lf + k) (c := c)
      have htk : ((rowPut row lf c (lf + k)).map eB).take row.length = (rowPut row lf c (lf + k)).map eB := List.take_of_length_le (by simp [hrl])
      refine W.exit ?_
      refine XThen.exit ?_
      refine XThen.exit ?_
      refine XBlock.hit ?_
      refine XThen.norm ?_
      refine W.region_k fun K hK => ?_
      simp (disch := omega) only [↓RU, RV, RH, ↓reduceIte, Nat.reduceEqDiff, reduceCtorEq, if_pos, w64, ↓RS, RG, Nat.reduceAdd, Nat.reduceMul, Nat.reduceLeDiff, tyLstring, tyLuint8, tystring, tyuint8, hrl, htk, bytesOf_eB, hlen, set_spl, set_str, cells_str, List.length_cons, List.length_nil, Option.map_some]
      refine hK _ _ ?_
      clear hK K
      refine XBlock.norm ?_
      refine XThen.norm ?_
      refine W.region_k fun K hK => ?_
      simp (disch := omega) only [↓RU, RV, RH, ↓reduceIte, Nat.reduceEqDiff, reduceCtorEq, if_pos, w64, ↓RS, RG, Nat.reduceAdd, Nat.reduceMul, Nat.reduceLeDiff, tyint]
      refine hK _ _ ?_
      clear hK K
      refine XThen.norm ?_
      refine ⟨hg - (j + 1), by omega, 1, j + 1, t2, v, rfl, by omega, ?_, ?_⟩
      · subst hi; simp [Env.put, Env.of]; omega
      · subst hi; simp only [take_eq, List.take_succ_cons, List.take_zero]; rw [putTo_succ (by omega) hrow0]; rfl
  · try simp only [RL] at h
    refine W.exit ?_
    refine XThen.exit ?_
    refine XThen.exit ?_
    refine XBlock.hit ?_
    refine XThen.norm ?_
    refine W.seq_region fun K hK => ?_
    simp (disch := omega) only [↓RU, RV, RH, ↓reduceIte, Nat.reduceEqDiff, reduceCtorEq, if_pos, ↓RS, RG, Nat.reduceAdd, Nat.reduceMul, Nat.reduceLeDiff]
    refine hK _ _ ?_
    clear hK K
    refine W.ret ?_
    refine BodyQ.ret rfl ?_
    obtain rfl : j = hg := by omega
    exact (reify_loc (k := 9) rfl (by simp [putTo_len]) (mapM_str _)).trans (by simp [putTo_len])

theorem l1Done_pc {p : List Txt} (hs : Sm p) : PC Tryz.prog 186 [eStrs p] (.tup [eStrs (doneP p).1, .bool (doneP p).2]) false := by
  refine PC.of ⟨Tryz.func186, by kernel_rfl, rfl, by kernel_rfl⟩ tabOk mixed (by show 1 ≤ Tryz.f186.ntmps; decide) ?_
  refine W.seq_region fun K hK => ?_
  simp (disch := omega) only [↓RU, RV, RH, ↓reduceIte, Nat.reduceEqDiff, reduceCtorEq, if_pos, ↓RS, RG, Nat.reduceAdd, Nat.reduceMul, Nat.reduceLeDiff]
  refine hK _ _ ?_
  clear hK K
  refine W.seq ?_
  refine W.seq_region fun K hK => ?_
  rcases hgg : (gridB p, planB (names p)) with ⟨_ | _, _ | _⟩
  · skip
    simp only [Prod.mk.injEq] at hgg
    obtain ⟨hg1, hg2⟩ := hgg
    simp (disch := omega) only [↓RU, RV, RH, ↓reduceIte, Nat.reduceEqDiff, reduceCtorEq, if_pos, List.append_nil, ↓RS, RG, Nat.reduceAdd, Nat.reduceMul, Nat.reduceLeDiff, hg1, hg2]
    refine CallR.pc (l1Grid_pc hs) rfl (.inl rfl) ?_
    simp (disch := omega) only [↓RU, RV, RH, ↓reduceIte, Nat.reduceEqDiff, reduceCtorEq, if_pos, List.append_nil, ↓RS, RG, Nat.reduceAdd, Nat.reduceMul, Nat.reduceLeDiff, hg1, hg2]
    refine hK _ _ ?_
    clear hK K
    refine W.cond rfl (fun h => ?_) (fun h => ?_)
    · try simp only [RL] at h
      refine W.seq_region fun K hK => ?_
      simp (disch := omega) only [↓RU, RV, RH, ↓reduceIte, Nat.reduceEqDiff, reduceCtorEq, if_pos, List.append_nil, ↓RS, RG, Nat.reduceAdd, Nat.reduceMul, Nat.reduceLeDiff]
      refine CallR.pc (l1None_pc) rfl (.inl rfl) ?_
      simp (disch := omega) only [↓RU, RV, RH, ↓reduceIte, Nat.reduceEqDiff, reduceCtorEq, if_pos, List.append_nil, ↓RS, RG, Nat.reduceAdd, Nat.reduceMul, Nat.reduceLeDiff]
      refine hK _ _ ?_
      clear hK K
      refine W.ret ?_
      refine XThen.ret ?_
      refine BodyQ.ret rfl ?_
      rw [show doneP p = ([], false) by unfold doneP; rw [hg1]; rfl]
      rfl
    · try simp only [RL] at h
      exact absurd h (by simp)
  · skip
    simp only [Prod.mk.injEq] at hgg
    obtain ⟨hg1, hg2⟩ := hgg
    simp (disch := omega) only [↓RU, RV, RH, ↓reduceIte, Nat.reduceEqDiff, reduceCtorEq, if_pos, List.append_nil, ↓RS, RG, Nat.reduceAdd, Nat.reduceMul, Nat.reduceLeDiff, hg1, hg2]
    refine CallR.pc (l1Grid_pc hs) rfl (.inl rfl) ?_
    simp (disch := omega) only [↓RU, RV, RH, ↓reduceIte, Nat.reduceEqDiff, reduceCtorEq, if_pos, List.append_nil, ↓RS, RG, Nat.reduceAdd, Nat.reduceMul, Nat.reduceLeDiff, hg1, hg2]
    refine hK _ _ ?_
    clear hK K
    refine W.cond rfl (fun h => ?_) (fun h => ?_)
    · try simp only [RL] at h
      refine W.seq_region fun K hK => ?_
      simp (disch := omega) only [↓RU, RV, RH, ↓reduceIte, Nat.reduceEqDiff, reduceCtorEq, if_pos, List.append_nil, ↓RS, RG, Nat.reduceAdd, Nat.reduceMul, Nat.reduceLeDiff]
      refine CallR.pc (l1None_pc) rfl (.inl rfl) ?_
      simp (disch := omega) only [↓RU, RV, RH, ↓reduceIte, Nat.reduceEqDiff, reduceCtorEq, if_pos, List.append_nil, ↓RS, RG, Nat.reduceAdd, Nat.reduceMul, Nat.reduceLeDiff]
      refine hK _ _ ?_
      clear hK K
      refine W.ret ?_
      refine XThen.ret ?_
      refine BodyQ.ret rfl ?_
      rw [show doneP p = ([], false) by unfold doneP; rw [hg1]; rfl]
      rfl
    · try simp only [RL] at h
      exact absurd h (by simp)
  · skip
    simp only [Prod.mk.injEq] at hgg
    obtain ⟨hg1, hg2⟩ := hgg
    simp (disch := omega) only [↓RU, RV, RH, ↓reduceIte, Nat.reduceEqDiff, reduceCtorEq, if_pos, List.append_nil, ↓RS, RG, Nat.reduceAdd, Nat.reduceMul, Nat.reduceLeDiff, hg1, hg2]
    refine CallR.pc (l1Grid_pc hs) rfl (.inl rfl) ?_
    simp (disch := omega) only [↓RU, RV, RH, ↓reduceIte, Nat.reduceEqDiff, reduceCtorEq, if_pos, List.append_nil, ↓RS, RG, Nat.reduceAdd, Nat.reduceMul, Nat.reduceLeDiff, hg1, hg2]
    refine CallR.pc (l1Names_pc hs) rfl (.inl rfl) ?_
    simp (disch := omega) only [↓RU, RV, RH, ↓reduceIte, Nat.reduceEqDiff, reduceCtorEq, if_pos, List.append_nil, ↓RS, RG, Nat.reduceAdd, Nat.reduceMul, Nat.reduceLeDiff, hg1, hg2]
    refine CallR.pc (sPlanIn_pc hs.names) rfl (.inl rfl) ?_
    simp (disch := omega) only [↓RU, RV, RH, ↓reduceIte, Nat.reduceEqDiff, reduceCtorEq, if_pos, List.append_nil, ↓RS, RG, Nat.reduceAdd, Nat.reduceMul, Nat.reduceLeDiff, hg1, hg2]
    refine hK _ _ ?_
    clear hK K
    refine W.cond rfl (fun h => ?_) (fun h => ?_)
    · try simp only [RL] at h
      refine W.seq_region fun K hK => ?_
      simp (disch := omega) only [↓RU, RV, RH, ↓reduceIte, Nat.reduceEqDiff, reduceCtorEq, if_pos, List.append_nil, ↓RS, RG, Nat.reduceAdd, Nat.reduceMul, Nat.reduceLeDiff]
      refine CallR.pc (l1None_pc) rfl (.inl rfl) ?_
      simp (disch := omega) only [↓RU, RV, RH, ↓reduceIte, Nat.reduceEqDiff, reduceCtorEq, if_pos, List.append_nil, ↓RS, RG, Nat.reduceAdd, Nat.reduceMul, Nat.reduceLeDiff]
      refine hK _ _ ?_
      clear hK K
      refine W.ret ?_
      refine XThen.ret ?_
      refine BodyQ.ret rfl ?_
      rw [show doneP p = ([], false) by unfold doneP; rw [hg1, hg2]; rfl]
      rfl
    · try simp only [RL] at h
      exact absurd h (by simp)
  · skip
    simp only [Prod.mk.injEq] at hgg
    obtain ⟨hg1, hg2⟩ := hgg
    simp (disch := omega) only [↓RU, RV, RH, ↓reduceIte, Nat.reduceEqDiff, reduceCtorEq, if_pos, List.append_nil, ↓RS, RG, Nat.reduceAdd, Nat.reduceMul, Nat.reduceLeDiff, hg1, hg2]
    refine CallR.pc (l1Grid_pc hs) rfl (.inl rfl) ?_
    simp (disch := omega) only [↓RU, RV, RH, ↓reduceIte, Nat.reduceEqDiff, reduceCtorEq, if_pos, List.append_nil, ↓RS, RG, Nat.reduceAdd, Nat.reduceMul, Nat.reduceLeDiff, hg1, hg2]
    refine CallR.pc (l1Names_pc hs) rfl (.inl rfl) ?_
    simp (disch := omega) only [↓RU, RV, RH, ↓reduceIte, Nat.reduceEqDiff, reduceCtorEq, if_pos, List.append_nil, ↓RS, RG, Nat.reduceAdd, Nat.reduceMul, Nat.reduceLeDiff, hg1, hg2]
    refine CallR.pc (sPlanIn_pc hs.names) rfl (.inl rfl) ?_
    simp (disch := omega) only [↓RU, RV, RH, ↓reduceIte, Nat.reduceEqDiff, reduceCtorEq, if_pos, List.append_nil, ↓RS, RG, Nat.reduceAdd, Nat.reduceMul, Nat.reduceLeDiff, hg1, hg2]
    refine hK _ _ ?_
    clear hK K
    refine W.cond rfl (fun h => ?_) (fun h => ?_)
    · try simp only [RL] at h
      exact absurd h (by simp)
    · try simp only [RL] at h
      refine W.skip ?_
      refine XThen.norm ?_
      refine W.seq_region fun K hK => ?_
      simp (disch := omega) only [↓RU, RV, RH, ↓reduceIte, Nat.reduceEqDiff, reduceCtorEq, if_pos, List.append_nil, ↓RS, RG, Nat.reduceAdd, Nat.reduceMul, Nat.reduceLeDiff]
      refine CallR.pc (l1Names_pc hs) rfl (.inl rfl) ?_
      simp (disch := omega) only [↓RU, RV, RH, ↓reduceIte, Nat.reduceEqDiff, reduceCtorEq, if_pos, List.append_nil, ↓RS, RG, Nat.reduceAdd, Nat.reduceMul, Nat.reduceLeDiff]
      refine hK _ _ ?_
      clear hK K
      refine W.ret ?_
      refine BodyQ.ret rfl ?_
      rw [show doneP p = (names p, true) by unfold doneP; rw [hg1, hg2]; rfl]
      rfl

theorem planSplit_pc {p : List Txt} (hs : Sm p) (room : Int) {s : Txt} (hsl : s.length ≤ 1048576) (k : Int) : PC Tryz.prog 181 [eStrs p, .int .i64 room, .str s, .int .i64 k] (.tup [eStrs (splitP p room s k).1, .bool (splitP p room s k).2]) false := by
  have hrb := l1Rooms_bound p
  refine PC.of ⟨Tryz.func181, by kernel_rfl, rfl, by kernel_rfl⟩ tabOk mixed (by show 4 ≤ Tryz.f181.ntmps; decide) ?_
  refine W.seq_region fun K hK => ?_
  simp (disch := omega) only [↓RU, RV, RH, ↓reduceIte, Nat.reduceEqDiff, reduceCtorEq, if_pos, ↓RS, RG, Nat.reduceAdd, Nat.reduceMul, Nat.reduceLeDiff]
  refine hK _ _ ?_
  clear hK K
  refine W.seq ?_
  refine W.seq_region fun K hK => ?_
  simp (disch := omega) only [↓RU, RV, RH, ↓reduceIte, Nat.reduceEqDiff, reduceCtorEq, if_pos, List.append_nil, ↓RS, RG, Nat.reduceAdd, Nat.reduceMul, Nat.reduceLeDiff]
  refine CallR.pc (l1Given_pc hs room) rfl (.inl rfl) ?_
  simp (disch := omega) only [↓RU, RV, RH, ↓reduceIte, Nat.reduceEqDiff, reduceCtorEq, if_pos, List.append_nil, ↓RS, RG, Nat.reduceAdd, Nat.reduceMul, Nat.reduceLeDiff]
  refine hK _ _ ?_
  clear hK K
  refine W.cond rfl (fun h0 => ?_) (fun h0 => ?_)
  · try simp only [RL] at h0
    have hgv : (planB p && (decide (0 ≤ room) && decide (room ≤ l1Rooms p - 1))) = false := by simpa using h0
    refine W.seq_region fun K hK => ?_
    simp (disch := omega) only [↓RU, RV, RH, ↓reduceIte, Nat.reduceEqDiff, reduceCtorEq, if_pos, List.append_nil, ↓RS, RG, Nat.reduceAdd, Nat.reduceMul, Nat.reduceLeDiff]
    refine CallR.pc (l1None_pc) rfl (.inl rfl) ?_
    simp (disch := omega) only [↓RU, RV, RH, ↓reduceIte, Nat.reduceEqDiff, reduceCtorEq, if_pos, List.append_nil, ↓RS, RG, Nat.reduceAdd, Nat.reduceMul, Nat.reduceLeDiff]
    refine hK _ _ ?_
    clear hK K
    refine W.ret ?_
    refine XThen.ret ?_
    refine BodyQ.ret rfl ?_
    first | (rw [splitP_g hgv]; rfl) | (rw [splitP_h hgv e1 e2 e3 e4 hB1]; rfl) | (rw [splitP_v hgv e1 e2 e3 e4 hB1 hB2]; rfl) | (rw [splitP_no hB1 hB2]; rfl)
  · try simp only [RL] at h0
    have hgv : (planB p && (decide (0 ≤ room) && decide (room ≤ l1Rooms p - 1))) = true := by simpa using h0
    have hgv2 := hgv
    simp only [Bool.and_eq_true, decide_eq_true_eq] at hgv2
    obtain ⟨hp, hr0, hr1⟩ := hgv2
    obtain ⟨t, l, h, w, e1, e2, e3, e4, q1, q2, q3, q4⟩ := plan_box hp hr0 hr1
    obtain ⟨ps1, ps2, ps3⟩ := plan_small hp
    have hrw : ∀ row ∈ p, row.length = (hdRow p).length := fun row hr => by obtain ⟨i, hi, rfl⟩ := List.getElem_of_mem hr; exact rows_wide hp (List.getElem?_eq_getElem hi)
    have hw6 : (hdRow p).length ≤ 6 := by obtain ⟨row, hrow, hrm⟩ := get_of ps2; rw [← hrw row hrm]; exact (ps3 row hrm).2
    refine W.skip ?_
    refine XThen.norm ?_
    refine W.seq_region fun K hK => ?_
    simp (disch := omega) only [↓RU, RV, RH, ↓reduceIte, Nat.reduceEqDiff, reduceCtorEq, if_pos, List.append_nil, ↓RS, RG, Nat.reduceAdd, Nat.reduceMul, Nat.reduceLeDiff, e1, e2, e3, e4]
    refine CallR.pc (l1Room_pc hs (by omega) room) rfl (.inl rfl) ?_
    simp (disch := omega) only [↓RU, RV, RH, ↓reduceIte, Nat.reduceEqDiff, reduceCtorEq, if_pos, List.append_nil, ↓RS, RG, Nat.reduceAdd, Nat.reduceMul, Nat.reduceLeDiff, e1, e2, e3, e4]
    refine hK _ _ ?_
    clear hK K
    refine W.seq ?_
    refine W.block ?_
    refine W.seq_region fun K hK => ?_
    cases hb1 : (s == ([104] : Txt))
    · skip
      have hB1 : ((s == [104]) && (decide (1 ≤ k) && decide (k ≤ highOf p room - 1))) = false := by rw [hb1]; rfl
      simp (disch := omega) only [↓RU, RV, RH, ↓reduceIte, Nat.reduceEqDiff, reduceCtorEq, if_pos, w64, List.append_nil, ↓RS, RG, Nat.reduceAdd, Nat.reduceMul, Nat.reduceLeDiff, tyint, tystring, hb1, pStr]
      refine hK _ _ ?_
      clear hK K
      refine W.cond rfl (fun h1 => ?_) (fun h1 => ?_)
      · try simp only [RL] at h1
        exact absurd h1 (by simp)
      · try simp only [RL] at h1
        refine W.seq_region fun K hK => ?_
        cases hb2 : (s == ([118] : Txt))
        · skip
          have hB2 : ((s == [118]) && (decide (1 ≤ k) && decide (k ≤ wideOf p room - 1))) = false := by rw [hb2]; rfl
          simp (disch := omega) only [↓RU, RV, RH, ↓reduceIte, Nat.reduceEqDiff, reduceCtorEq, if_pos, w64, List.append_nil, ↓RS, RG, Nat.reduceAdd, Nat.reduceMul, Nat.reduceLeDiff, tyint, tystring, hb2, pStr]
          refine hK _ _ ?_
          clear hK K
          refine W.cond rfl (fun h2 => ?_) (fun h2 => ?_)
          · try simp only [RL] at h2
            exact absurd h2 (by simp)
          · try simp only [RL] at h2
            refine W.skip ?_
            refine XBlock.norm ?_
            refine XThen.norm ?_
            refine W.seq_region fun K hK => ?_
            simp (disch := omega) only [↓RU, RV, RH, ↓reduceIte, Nat.reduceEqDiff, reduceCtorEq, if_pos, List.append_nil, ↓RS, RG, Nat.reduceAdd, Nat.reduceMul, Nat.reduceLeDiff]
            refine CallR.pc (l1None_pc) rfl (.inl rfl) ?_
            simp (disch := omega) only [↓RU, RV, RH, ↓reduceIte, Nat.reduceEqDiff, reduceCtorEq, if_pos, List.append_nil, ↓RS, RG, Nat.reduceAdd, Nat.reduceMul, Nat.reduceLeDiff]
            refine hK _ _ ?_
            clear hK K
            refine W.ret ?_
            refine BodyQ.ret rfl ?_
            first | (rw [splitP_g hgv]; rfl) | (rw [splitP_h hgv e1 e2 e3 e4 hB1]; rfl) | (rw [splitP_v hgv e1 e2 e3 e4 hB1 hB2]; rfl) | (rw [splitP_no hB1 hB2]; rfl)
        · skip
          simp (disch := omega) only [↓RU, RV, RH, ↓reduceIte, Nat.reduceEqDiff, reduceCtorEq, if_pos, w64, List.append_nil, ↓RS, RG, Nat.reduceAdd, Nat.reduceMul, Nat.reduceLeDiff, tyint, tystring, hb2, pStr]
          refine CallR.pc (l6In_pc _ _ _) rfl (.inl rfl) ?_
          simp (disch := omega) only [↓RU, RV, RH, ↓reduceIte, Nat.reduceEqDiff, reduceCtorEq, if_pos, w64, List.append_nil, ↓RS, RG, Nat.reduceAdd, Nat.reduceMul, Nat.reduceLeDiff, tyint, tystring, hb2, pStr]
          refine hK _ _ ?_
          clear hK K
          refine W.cond rfl (fun h2 => ?_) (fun h2 => ?_)
          · try simp only [RL] at h2
            have hB2 : ((s == [118]) && (decide (1 ≤ k) && decide (k ≤ wideOf p room - 1))) = true := by rw [hb2, e4]; exact h2
            have hk := h2
            simp only [Bool.and_eq_true, decide_eq_true_eq] at hk
            obtain ⟨kn, rfl⟩ : ∃ kn : Nat, k = kn := ⟨k.toNat, by omega⟩
            refine W.seq_region fun K hK => ?_
            simp (disch := omega) only [↓RU, RV, RH, ↓reduceIte, Nat.reduceEqDiff, reduceCtorEq, if_pos, w64, List.append_nil, ↓RS, RG, Nat.reduceAdd, Nat.reduceMul, Nat.reduceLeDiff, tyint, show ((l : Int) + (kn : Int)) = ((l + kn : Nat) : Int) from by omega, show ((w : Int) - (kn : Int)) = ((w - kn : Nat) : Int) from by omega]
            refine CallR.pc (l1Put_pc hs (tp := t) (lf := l + kn) (hg := h) (wd := w - kn) (c := 122) (by omega) (fun row hr => by rw [hrw row hr]; omega)) rfl (.inl rfl) ?_
            simp (disch := omega) only [↓RU, RV, RH, ↓reduceIte, Nat.reduceEqDiff, reduceCtorEq, if_pos, w64, List.append_nil, ↓RS, RG, Nat.reduceAdd, Nat.reduceMul, Nat.reduceLeDiff, tyint, show ((l : Int) + (kn : Int)) = ((l + kn : Nat) : Int) from by omega, show ((w : Int) - (kn : Int)) = ((w - kn : Nat) : Int) from by omega]
            refine CallR.pc (l1Done_pc (putTo_sm hs)) rfl (.inr rfl) ?_
            simp (disch := omega) only [↓RU, RV, RH, ↓reduceIte, Nat.reduceEqDiff, reduceCtorEq, if_pos, w64, List.append_nil, ↓RS, RG, Nat.reduceAdd, Nat.reduceMul, Nat.reduceLeDiff, tyint, show ((l : Int) + (kn : Int)) = ((l + kn : Nat) : Int) from by omega, show ((w : Int) - (kn : Int)) = ((w - kn : Nat) : Int) from by omega]
            refine hK _ _ ?_
            clear hK K
            refine W.ret ?_
            refine XBlock.ret ?_
            refine XThen.ret ?_
            refine BodyQ.ret rfl ?_
            first | (rw [splitP_g hgv]; rfl) | (rw [splitP_h hgv e1 e2 e3 e4 hB1]; rfl) | (rw [splitP_v hgv e1 e2 e3 e4 hB1 hB2]; rfl) | (rw [splitP_no hB1 hB2]; rfl)
          · try simp only [RL] at h2
            have hB2 : ((s == [118]) && (decide (1 ≤ k) && decide (k ≤ wideOf p room - 1))) = false := by rw [hb2, e4]; exact h2
            refine W.skip ?_
            refine XBlock.norm ?_
            refine XThen.norm ?_
            refine W.seq_region fun K hK => ?_
            simp (disch := omega) only [↓RU, RV, RH, ↓reduceIte, Nat.reduceEqDiff, reduceCtorEq, if_pos, List.append_nil, ↓RS, RG, Nat.reduceAdd, Nat.reduceMul, Nat.reduceLeDiff]
            refine CallR.pc (l1None_pc) rfl (.inl rfl) ?_
            simp (disch := omega) only [↓RU, RV, RH, ↓reduceIte, Nat.reduceEqDiff, reduceCtorEq, if_pos, List.append_nil, ↓RS, RG, Nat.reduceAdd, Nat.reduceMul, Nat.reduceLeDiff]
            refine hK _ _ ?_
            clear hK K
            refine W.ret ?_
            refine BodyQ.ret rfl ?_
            first | (rw [splitP_g hgv]; rfl) | (rw [splitP_h hgv e1 e2 e3 e4 hB1]; rfl) | (rw [splitP_v hgv e1 e2 e3 e4 hB1 hB2]; rfl) | (rw [splitP_no hB1 hB2]; rfl)
    · skip
      simp (disch := omega) only [↓RU, RV, RH, ↓reduceIte, Nat.reduceEqDiff, reduceCtorEq, if_pos, w64, List.append_nil, ↓RS, RG, Nat.reduceAdd, Nat.reduceMul, Nat.reduceLeDiff, tyint, tystring, hb1, pStr]
      refine CallR.pc (l6In_pc _ _ _) rfl (.inl rfl) ?_
      simp (disch := omega) only [↓RU, RV, RH, ↓reduceIte, Nat.reduceEqDiff, reduceCtorEq, if_pos, w64, List.append_nil, ↓RS, RG, Nat.reduceAdd, Nat.reduceMul, Nat.reduceLeDiff, tyint, tystring, hb1, pStr]
      refine hK _ _ ?_
      clear hK K
      refine W.cond rfl (fun h1 => ?_) (fun h1 => ?_)
      · try simp only [RL] at h1
        have hB1 : ((s == [104]) && (decide (1 ≤ k) && decide (k ≤ highOf p room - 1))) = true := by rw [hb1, e3]; exact h1
        have hk := h1
        simp only [Bool.and_eq_true, decide_eq_true_eq] at hk
        obtain ⟨kn, rfl⟩ : ∃ kn : Nat, k = kn := ⟨k.toNat, by omega⟩
        refine W.seq_region fun K hK => ?_
        simp (disch := omega) only [↓RU, RV, RH, ↓reduceIte, Nat.reduceEqDiff, reduceCtorEq, if_pos, w64, List.append_nil, ↓RS, RG, Nat.reduceAdd, Nat.reduceMul, Nat.reduceLeDiff, tyint, show ((t : Int) + (kn : Int)) = ((t + kn : Nat) : Int) from by omega, show ((h : Int) - (kn : Int)) = ((h - kn : Nat) : Int) from by omega]
        refine CallR.pc (l1Put_pc hs (tp := t + kn) (lf := l) (hg := h - kn) (wd := w) (c := 122) (by omega) (fun row hr => by rw [hrw row hr]; omega)) rfl (.inl rfl) ?_
        simp (disch := omega) only [↓RU, RV, RH, ↓reduceIte, Nat.reduceEqDiff, reduceCtorEq, if_pos, w64, List.append_nil, ↓RS, RG, Nat.reduceAdd, Nat.reduceMul, Nat.reduceLeDiff, tyint, show ((t : Int) + (kn : Int)) = ((t + kn : Nat) : Int) from by omega, show ((h : Int) - (kn : Int)) = ((h - kn : Nat) : Int) from by omega]
        refine CallR.pc (l1Done_pc (putTo_sm hs)) rfl (.inr rfl) ?_
        simp (disch := omega) only [↓RU, RV, RH, ↓reduceIte, Nat.reduceEqDiff, reduceCtorEq, if_pos, w64, List.append_nil, ↓RS, RG, Nat.reduceAdd, Nat.reduceMul, Nat.reduceLeDiff, tyint, show ((t : Int) + (kn : Int)) = ((t + kn : Nat) : Int) from by omega, show ((h : Int) - (kn : Int)) = ((h - kn : Nat) : Int) from by omega]
        refine hK _ _ ?_
        clear hK K
        refine W.ret ?_
        refine XBlock.ret ?_
        refine XThen.ret ?_
        refine BodyQ.ret rfl ?_
        first | (rw [splitP_g hgv]; rfl) | (rw [splitP_h hgv e1 e2 e3 e4 hB1]; rfl) | (rw [splitP_v hgv e1 e2 e3 e4 hB1 hB2]; rfl) | (rw [splitP_no hB1 hB2]; rfl)
      · try simp only [RL] at h1
        have hB1 : ((s == [104]) && (decide (1 ≤ k) && decide (k ≤ highOf p room - 1))) = false := by rw [hb1, e3]; exact h1
        refine W.seq_region fun K hK => ?_
        cases hb2 : (s == ([118] : Txt))
        · skip
          have hB2 : ((s == [118]) && (decide (1 ≤ k) && decide (k ≤ wideOf p room - 1))) = false := by rw [hb2]; rfl
          simp (disch := omega) only [↓RU, RV, RH, ↓reduceIte, Nat.reduceEqDiff, reduceCtorEq, if_pos, w64, List.append_nil, ↓RS, RG, Nat.reduceAdd, Nat.reduceMul, Nat.reduceLeDiff, tyint, tystring, hb2, pStr]
          refine hK _ _ ?_
          clear hK K
          refine W.cond rfl (fun h2 => ?_) (fun h2 => ?_)
          · try simp only [RL] at h2
            exact absurd h2 (by simp)
          · try simp only [RL] at h2
            refine W.skip ?_
            refine XBlock.norm ?_
            refine XThen.norm ?_
            refine W.seq_region fun K hK => ?_
            simp (disch := omega) only [↓RU, RV, RH, ↓reduceIte, Nat.reduceEqDiff, reduceCtorEq, if_pos, List.append_nil, ↓RS, RG, Nat.reduceAdd, Nat.reduceMul, Nat.reduceLeDiff]
            refine CallR.pc (l1None_pc) rfl (.inl rfl) ?_
            simp (disch := omega) only [↓RU, RV, RH, ↓reduceIte, Nat.reduceEqDiff, reduceCtorEq, if_pos, List.append_nil, ↓RS, RG, Nat.reduceAdd, Nat.reduceMul, Nat.reduceLeDiff]
            refine hK _ _ ?_
            clear hK K
            refine W.ret ?_
            refine BodyQ.ret rfl ?_
            first | (rw [splitP_g hgv]; rfl) | (rw [splitP_h hgv e1 e2 e3 e4 hB1]; rfl) | (rw [splitP_v hgv e1 e2 e3 e4 hB1 hB2]; rfl) | (rw [splitP_no hB1 hB2]; rfl)
        · skip
          simp (disch := omega) only [↓RU, RV, RH, ↓reduceIte, Nat.reduceEqDiff, reduceCtorEq, if_pos, w64, List.append_nil, ↓RS, RG, Nat.reduceAdd, Nat.reduceMul, Nat.reduceLeDiff, tyint, tystring, hb2, pStr]
          refine CallR.pc (l6In_pc _ _ _) rfl (.inl rfl) ?_
          simp (disch := omega) only [↓RU, RV, RH, ↓reduceIte, Nat.reduceEqDiff, reduceCtorEq, if_pos, w64, List.append_nil, ↓RS, RG, Nat.reduceAdd, Nat.reduceMul, Nat.reduceLeDiff, tyint, tystring, hb2, pStr]
          refine hK _ _ ?_
          clear hK K
          refine W.cond rfl (fun h2 => ?_) (fun h2 => ?_)
          · try simp only [RL] at h2
            have hB2 : ((s == [118]) && (decide (1 ≤ k) && decide (k ≤ wideOf p room - 1))) = true := by rw [hb2, e4]; exact h2
            have hk := h2
            simp only [Bool.and_eq_true, decide_eq_true_eq] at hk
            obtain ⟨kn, rfl⟩ : ∃ kn : Nat, k = kn := ⟨k.toNat, by omega⟩
            refine W.seq_region fun K hK => ?_
            simp (disch := omega) only [↓RU, RV, RH, ↓reduceIte, Nat.reduceEqDiff, reduceCtorEq, if_pos, w64, List.append_nil, ↓RS, RG, Nat.reduceAdd, Nat.reduceMul, Nat.reduceLeDiff, tyint, show ((l : Int) + (kn : Int)) = ((l + kn : Nat) : Int) from by omega, show ((w : Int) - (kn : Int)) = ((w - kn : Nat) : Int) from by omega]
            refine CallR.pc (l1Put_pc hs (tp := t) (lf := l + kn) (hg := h) (wd := w - kn) (c := 122) (by omega) (fun row hr => by rw [hrw row hr]; omega)) rfl (.inl rfl) ?_
            simp (disch := omega) only [↓RU, RV, RH, ↓reduceIte, Nat.reduceEqDiff, reduceCtorEq, if_pos, w64, List.append_nil, ↓RS, RG, Nat.reduceAdd, Nat.reduceMul, Nat.reduceLeDiff, tyint, show ((l : Int) + (kn : Int)) = ((l + kn : Nat) : Int) from by omega, show ((w : Int) - (kn : Int)) = ((w - kn : Nat) : Int) from by omega]
            refine CallR.pc (l1Done_pc (putTo_sm hs)) rfl (.inr rfl) ?_
            simp (disch := omega) only [↓RU, RV, RH, ↓reduceIte, Nat.reduceEqDiff, reduceCtorEq, if_pos, w64, List.append_nil, ↓RS, RG, Nat.reduceAdd, Nat.reduceMul, Nat.reduceLeDiff, tyint, show ((l : Int) + (kn : Int)) = ((l + kn : Nat) : Int) from by omega, show ((w : Int) - (kn : Int)) = ((w - kn : Nat) : Int) from by omega]
            refine hK _ _ ?_
            clear hK K
            refine W.ret ?_
            refine XBlock.ret ?_
            refine XThen.ret ?_
            refine BodyQ.ret rfl ?_
            first | (rw [splitP_g hgv]; rfl) | (rw [splitP_h hgv e1 e2 e3 e4 hB1]; rfl) | (rw [splitP_v hgv e1 e2 e3 e4 hB1 hB2]; rfl) | (rw [splitP_no hB1 hB2]; rfl)
          · try simp only [RL] at h2
            have hB2 : ((s == [118]) && (decide (1 ≤ k) && decide (k ≤ wideOf p room - 1))) = false := by rw [hb2, e4]; exact h2
            refine W.skip ?_
            refine XBlock.norm ?_
            refine XThen.norm ?_
            refine W.seq_region fun K hK => ?_
            simp (disch := omega) only [↓RU, RV, RH, ↓reduceIte, Nat.reduceEqDiff, reduceCtorEq, if_pos, List.append_nil, ↓RS, RG, Nat.reduceAdd, Nat.reduceMul, Nat.reduceLeDiff]
            refine CallR.pc (l1None_pc) rfl (.inl rfl) ?_
            simp (disch := omega) only [↓RU, RV, RH, ↓reduceIte, Nat.reduceEqDiff, reduceCtorEq, if_pos, List.append_nil, ↓RS, RG, Nat.reduceAdd, Nat.reduceMul, Nat.reduceLeDiff]
            refine hK _ _ ?_
            clear hK K
            refine W.ret ?_
            refine BodyQ.ret rfl ?_
            first | (rw [splitP_g hgv]; rfl) | (rw [splitP_h hgv e1 e2 e3 e4 hB1]; rfl) | (rw [splitP_v hgv e1 e2 e3 e4 hB1 hB2]; rfl) | (rw [splitP_no hB1 hB2]; rfl)

end Fw
end Go.Proofs.YtcglmbijpjhbmaaGreat

/-! Drawing plans, gone through. -/
namespace Go.Proofs.YtcglmbijpjhbmaaGreat
namespace Fw
open Go

theorem pick_ev {code : Txt} {q vr t : Nat} {R : List Ob} (hc : code.length ≤ 1048576) (hq : q ≤ 1000000) (n : Int) (hn : n ≤ 1000000) (hn0 : -1000000 ≤ n) :
    Ev Tryz.prog 117 [.ref 0 vr 0, .int .i64 n] ⟨.arr vr 119 2 [eBy code, .int .i64 (q : Int)] :: R, t⟩ fun v S => ∃ k : Nat, v = .int .i64 (k : Int) ∧ (n < 1 → k = 0) ∧ (1 ≤ n → (k : Int) < n) ∧ S = ⟨.arr vr 119 2 [eBy code, .int .i64 ((q + 1 : Nat) : Int)] :: R, t⟩ :=
  pick_ev0 hc hq n hn hn0

theorem of_ev {code : Txt} {q vr t v1 : Nat} {R : List Ob} {l : List Txt} (hc : code.length ≤ 1048576) (hq : q ≤ 1000000) (hl : 1 ≤ l.length) (hl2 : l.length ≤ 1000) : Ev Tryz.prog 182 [.ref 0 vr 0, .loc 1 v1 0 l.length] ⟨.arr vr 119 2 [eBy code, .int .i64 (q : Int)] :: .arr v1 9 1 (l.map .str) :: R, t⟩ fun v S => ∃ s, s ∈ l ∧ v = .str s ∧ S = ⟨.arr vr 119 2 [eBy code, .int .i64 ((q + 1 : Nat) : Int)] :: .arr v1 9 1 (l.map .str) :: R, t⟩ := by
  refine Ev.of ⟨Tryz.func182, by kernel_rfl, rfl, by kernel_rfl⟩ tabOk mixed (by show 2 ≤ Tryz.f182.ntmps; decide) ?_
  refine W.seq_region fun K hK => ?_
  simp (disch := omega) only [↓RU, RV, RH, ↓reduceIte, Nat.reduceEqDiff, reduceCtorEq, if_pos, ↓RS, RG, Nat.reduceAdd, Nat.reduceMul, Nat.reduceLeDiff]
  refine hK _ _ ?_
  clear hK K
  refine W.seq_region fun K hK => ?_
  simp (disch := omega) only [↓RU, RV, RH, ↓reduceIte, Nat.reduceEqDiff, reduceCtorEq, if_pos, List.append_nil, ↓RS, RG, Nat.reduceAdd, Nat.reduceMul, Nat.reduceLeDiff, tyLstring, tystring]
  refine CallR.ev (pick_ev hc hq (l.length : Int) (by omega) (by omega)) ?_
  rintro _ _ ⟨k, rfl, -, hk, rfl⟩
  have hk2 := hk (by omega)
  obtain ⟨s, hsk, hsm⟩ := get_of (show k < l.length by omega)
  simp (disch := omega) only [↓RU, RV, RH, ↓reduceIte, Nat.reduceEqDiff, reduceCtorEq, if_pos, List.append_nil, ↓RS, RG, Nat.reduceAdd, Nat.reduceMul, Nat.reduceLeDiff, tyLstring, tystring, hsk]
  refine hK _ _ ?_
  clear hK K
  refine W.ret ?_
  refine BodyQ.ret rfl ?_
  exact ⟨_, s, hsm, rfl, take_all⟩

theorem l91Empty_pc {nh nw : Nat} (hn : nh ≤ 100) (hm : nw ≤ 100) : PC Tryz.prog 172 [.int .i64 nh, .int .i64 nw] (eStrs (List.replicate nh (List.replicate nw (97 : UInt8)))) true := by
  refine PC.of ⟨Tryz.func172, by kernel_rfl, rfl, by kernel_rfl⟩ tabOk mixed (by show 2 ≤ Tryz.f172.ntmps; decide) ?_
  refine W.seq_region fun K hK => ?_
  simp (disch := omega) only [↓RU, RV, RH, ↓reduceIte, Nat.reduceEqDiff, reduceCtorEq, if_pos, ↓RS, RG, Nat.reduceAdd, Nat.reduceMul, Nat.reduceLeDiff]
  refine hK _ _ ?_
  clear hK K
  refine W.seq_region fun K hK => ?_
  simp (disch := omega) only [↓RU, RV, RH, ↓reduceIte, Nat.reduceEqDiff, reduceCtorEq, if_pos, ↓RS, RG, Nat.reduceAdd, Nat.reduceMul, Nat.reduceLeDiff, tyLstring, tystring]
  refine hK _ _ ?_
  clear hK K
  refine W.seq ?_
  refine W.seq_region fun K hK => ?_
  simp (disch := omega) only [↓RU, RV, RH, ↓reduceIte, Nat.reduceEqDiff, reduceCtorEq, if_pos, ↓RS, RG, Nat.reduceAdd, Nat.reduceMul, Nat.reduceLeDiff]
  refine hK _ _ ?_
  clear hK K
  refine W.block ?_
  refine W.loop [0, 1, 5, 6] (fun n vs S => ∃ i v0 tk : Nat, n = nh - i ∧ i ≤ nh ∧ vs = [.int .i64 nh, .int .i64 nw, .loc 0 v0 0 i, .int .i64 i] ∧ S = ⟨[.arr v0 9 1 ((List.replicate i (List.replicate nw (97 : UInt8))).map .str)], tk⟩) (nh) ?_ ?_
  · refine ⟨1, 0, 0, 1, rfl, Nat.zero_le _, ?_, rfl⟩
    simp [Env.put, Env.of, argEnv]
  rintro n vs S - ⟨i, v0, tk, rfl, h_i, rfl, rfl⟩
  refine W.seq ?_
  refine W.seq_region fun K hK => ?_
  simp (disch := omega) only [↓RU, RV, RH, ↓reduceIte, Nat.reduceEqDiff, reduceCtorEq, if_pos, w64, ↓RS, RG, Nat.reduceAdd, Nat.reduceMul, Nat.reduceLeDiff, tyint]
  refine hK _ _ ?_
  clear hK K
  refine W.cond rfl (fun h => ?_) (fun h => ?_)
  · try simp only [RL] at h
    refine W.skip ?_
    refine XThen.norm ?_
    refine W.seq ?_
    refine W.block ?_
    refine W.seq_region fun K hK => ?_
    simp (disch := omega) only [↓RU, RV, RH, ↓reduceIte, Nat.reduceEqDiff, reduceCtorEq, if_pos, ↓RS, RG, Nat.reduceAdd, Nat.reduceMul, Nat.reduceLeDiff, tyLuint8, tyuint8]
    refine hK _ _ ?_
    clear hK K
    refine W.seq ?_
    refine W.seq_region fun K hK => ?_
    simp (disch := omega) only [↓RU, RV, RH, ↓reduceIte, Nat.reduceEqDiff, reduceCtorEq, if_pos, ↓RS, RG, Nat.reduceAdd, Nat.reduceMul, Nat.reduceLeDiff]
    refine hK _ _ ?_
    clear hK K
    refine W.block ?_
    refine W.loop [0, 1, 5, 6, 7, 8] (fun n vs S => ∃ k v1 tk : Nat, n = nw - k ∧ k ≤ nw ∧ vs = [.int .i64 nh, .int .i64 nw, .loc 0 v0 0 i, .int .i64 i, .loc 1 v1 0 k, .int .i64 k] ∧ S = ⟨[.arr v0 9 1 ((List.replicate i (List.replicate nw (97 : UInt8))).map .str), .arr v1 5 1 ((List.replicate k (97 : UInt8)).map eB)], tk⟩) (nw) ?_ ?_
    · refine ⟨2, 0, tk, tk + 1, rfl, Nat.zero_le _, ?_, rfl⟩
      simp [Env.put, Env.of]
    rintro n vs S - ⟨k, v1, tk, rfl, h_k, rfl, rfl⟩
    refine W.seq ?_
    refine W.seq_region fun K hK => ?_
    simp (disch := omega) only [↓RU, RV, RH, ↓reduceIte, Nat.reduceEqDiff, reduceCtorEq, if_pos, w64, ↓RS, RG, Nat.reduceAdd, Nat.reduceMul, Nat.reduceLeDiff, tyint]
    refine hK _ _ ?_
    clear hK K
    refine W.cond rfl (fun h1 => ?_) (fun h1 => ?_)
    · try simp only [RL] at h1
      refine W.skip ?_
      refine XThen.norm ?_
      refine W.seq ?_
      refine W.block ?_
      refine W.region_k fun K hK => ?_
      simp (disch := omega) only [↓RU, RV, RH, ↓reduceIte, Nat.reduceEqDiff, reduceCtorEq, if_pos, ↓RS, RG, Nat.reduceAdd, Nat.reduceMul, Nat.reduceLeDiff, tyLuint8, tyuint8, List.length_replicate]
      refine hK _ _ ?_
      clear hK K
      refine XBlock.norm ?_
      refine XThen.norm ?_
      refine W.region_k fun K hK => ?_
      simp (disch := omega) only [↓RU, RV, RH, ↓reduceIte, Nat.reduceEqDiff, reduceCtorEq, if_pos, w64, ↓RS, RG, Nat.reduceAdd, Nat.reduceMul, Nat.reduceLeDiff, tyint]
      refine hK _ _ ?_
      clear hK K
      refine XThen.norm ?_
      refine ⟨nw - (k + 1), by omega, 2, k + 1, tk + 1, tk + 2, rfl, by omega, ?_, ?_⟩
      all_goals simp [Env.put, Env.of, take_eq, tk_le, List.replicate_succ', List.map_append]
    · try simp only [RL] at h1
      obtain rfl : k = nw := by omega
      have hbo := bytesOf_eB (List.replicate k (97 : UInt8))
      have htk : ((List.replicate k (97 : UInt8)).map eB).take k = (List.replicate k (97 : UInt8)).map eB := List.take_of_length_le (by simp)
      refine W.exit ?_
      refine XThen.exit ?_
      refine XThen.exit ?_
      refine XBlock.hit ?_
      refine XThen.norm ?_
      refine W.region_k fun K hK => ?_
      simp (disch := omega) only [↓RU, RV, RH, ↓reduceIte, Nat.reduceEqDiff, reduceCtorEq, if_pos, w64, ↓RS, RG, Nat.reduceAdd, Nat.reduceMul, Nat.reduceLeDiff, tyLstring, tyLuint8, tystring, tyuint8, List.length_replicate, htk, hbo]
      refine hK _ _ ?_
      clear hK K
      refine XBlock.norm ?_
      refine XThen.norm ?_
      refine W.region_k fun K hK => ?_
      simp (disch := omega) only [↓RU, RV, RH, ↓reduceIte, Nat.reduceEqDiff, reduceCtorEq, if_pos, w64, ↓RS, RG, Nat.reduceAdd, Nat.reduceMul, Nat.reduceLeDiff, tyint]
      refine hK _ _ ?_
      clear hK K
      refine XThen.norm ?_
      refine ⟨nh - (i + 1), by omega, 1, i + 1, tk + 1, tk + 2, rfl, by omega, ?_, ?_⟩
      all_goals simp [Env.put, Env.of, take_eq, tk_le, List.replicate_succ', List.map_append]
  · try simp only [RL] at h
    obtain rfl : i = nh := by omega
    refine W.exit ?_
    refine XThen.exit ?_
    refine XThen.exit ?_
    refine XBlock.hit ?_
    refine XThen.norm ?_
    refine W.seq_region fun K hK => ?_
    simp (disch := omega) only [↓RU, RV, RH, ↓reduceIte, Nat.reduceEqDiff, reduceCtorEq, if_pos, ↓RS, RG, Nat.reduceAdd, Nat.reduceMul, Nat.reduceLeDiff]
    refine hK _ _ ?_
    clear hK K
    refine W.ret ?_
    refine BodyQ.ret rfl ?_
    exact (reify_loc (k := 9) rfl (by simp) (mapM_str _)).trans (by simp)

theorem frz_ref0 {S : Store} {k ver off : Nat} : frz S 1 (k + 1) (.ref 0 ver off) = some (.ref 0 ver off) := by simp [frz]
theorem tk_strs (p : List Txt) : List.take p.length (p.map PV.str) = p.map .str := List.take_of_length_le (by simp)
theorem rfz_tstr {S : Store} {lo k : Nat} (l : List Txt) : (l.map PV.str).mapM (rfz S lo (k + 1)) = some (l.map PV.str) := rfz_map (fun _ => rfl) l
theorem plan_sm {p : List Txt} (h : planB p = true) : Sm p := by
  obtain ⟨h1, -, h3⟩ := plan_small h
  exact ⟨by omega, fun r hr => by have := (h3 r hr).2; omega⟩
theorem plan_rooms9 {p : List Txt} (h : planB p = true) : l1Rooms p ≤ 9 := by
  unfold planB at h; simp only [Bool.and_eq_true, decide_eq_true_eq] at h; omega
theorem hv_len {s : Txt} (h : s ∈ ([[104], [118]] : List Txt)) : s.length ≤ 1048576 := by
  simp only [List.mem_cons, List.not_mem_nil, or_false] at h
  rcases h with rfl | rfl <;> simp

theorem l91Cut_ev {code : Txt} {q vr t : Nat} {R : List Ob} (hc : code.length ≤ 1048576) (hq : q ≤ 900000) {p : List Txt} (hp : planB p = true) {many : Nat} (hm : many ≤ 1000) : Ev Tryz.prog 171 [.ref 0 vr 0, eStrs p, .int .i64 many] ⟨.arr vr 119 2 [eBy code, .int .i64 (q : Int)] :: R, t⟩ fun v S => ∃ (p2 : List Txt) (q2 t2 : Nat), v = eStrs p2 ∧ planB p2 = true ∧ p2.length = p.length ∧ q2 ≤ q + 3 * many ∧ S = ⟨[.arr vr 119 2 [eBy code, .int .i64 (q2 : Int)]], t2⟩ := by
  refine Ev.of ⟨Tryz.func171, by kernel_rfl, rfl, by kernel_rfl⟩ tabOk mixed (by show 3 ≤ Tryz.f171.ntmps; decide) ?_
  refine W.seq_region fun K hK => ?_
  simp (disch := omega) only [↓RU, RV, RH, ↓reduceIte, Nat.reduceEqDiff, reduceCtorEq, if_pos, ↓RS, RG, Nat.reduceAdd, Nat.reduceMul, Nat.reduceLeDiff]
  refine hK _ _ ?_
  clear hK K
  refine W.seq ?_
  refine W.seq_region fun K hK => ?_
  simp (disch := omega) only [↓RU, RV, RH, ↓reduceIte, Nat.reduceEqDiff, reduceCtorEq, if_pos, ↓RS, RG, Nat.reduceAdd, Nat.reduceMul, Nat.reduceLeDiff]
  refine hK _ _ ?_
  clear hK K
  refine W.block ?_
  refine W.loopZ [0, 1, 2, 7] (fun n vs S => ∃ (i : Nat) (p2 : List Txt) (q2 tk : Nat), n = many - i ∧ i ≤ many ∧ planB p2 = true ∧ p2.length = p.length ∧ q2 ≤ q + 3 * i ∧ vs = [.ref 0 vr 0, eStrs p2, .int .i64 many, .int .i64 i] ∧ S = ⟨[.arr vr 119 2 [eBy code, .int .i64 (q2 : Int)]], tk⟩) many ?_ ?_
  · refine ⟨1, [.ref 0 vr 0, eStrs p, .int .i64 many, .int .i64 (0 : Nat)], ⟨[.arr vr 119 2 [eBy code, .int .i64 (q : Int)]], t⟩, ?_, ?_, 0, p, q, t, rfl, by omega, hp, rfl, by omega, rfl, rfl⟩
    · simp [-List.mapM_map, Store.frz, frzObs, frzOb, frz_eInts, frz_loc, rfz_loc, frz_int, frz_sl, frz_ints, rfz_ints, frz_strs, frz_bytes, rfz_bytes, rfz_str, rfz_bool, frz_str, frz_bool, Env.put, Env.of, argEnv, rfz_int, List.mapM_append, List.mapM_cons, frz_ref0, tk_strs, rfz_tstr]
    · simp [-List.mapM_map, Store.frz, frzObs, frzOb, frz_eInts, frz_loc, rfz_loc, frz_int, frz_sl, frz_ints, rfz_ints, frz_strs, frz_bytes, rfz_bytes, rfz_str, rfz_bool, frz_str, frz_bool, Env.put, Env.of, argEnv, rfz_int, List.mapM_append, List.mapM_cons, frz_ref0, tk_strs, rfz_tstr]
  rintro n vs S - ⟨i, p2, q2, tk, rfl, h_i, hp2, hl2, hq2, rfl, rfl⟩
  refine W.seq ?_
  refine W.seq_region fun K hK => ?_
  simp (disch := omega) only [↓RU, RV, RH, ↓reduceIte, Nat.reduceEqDiff, reduceCtorEq, if_pos, w64, ↓RS, RG, Nat.reduceAdd, Nat.reduceMul, Nat.reduceLeDiff, tyint]
  refine hK _ _ ?_
  clear hK K
  refine W.cond rfl (fun h => ?_) (fun h => ?_)
  · try simp only [RL] at h
    have hs2 := plan_sm hp2
    have hr9 := plan_rooms9 hp2
    have hrb := l1Rooms_bound p2
    refine W.skip ?_
    refine XThen.norm ?_
    refine W.seq ?_
    refine W.block ?_
    refine W.seq_region fun K hK => ?_
    simp (disch := omega) only [↓RU, RV, RH, ↓reduceIte, Nat.reduceEqDiff, reduceCtorEq, if_pos, List.append_nil, ↓RS, RG, Nat.reduceAdd, Nat.reduceMul, Nat.reduceLeDiff]
    refine CallR.pc (l1Rooms_pc hs2) rfl (.inl rfl) ?_
    simp (disch := omega) only [↓RU, RV, RH, ↓reduceIte, Nat.reduceEqDiff, reduceCtorEq, if_pos, List.append_nil, ↓RS, RG, Nat.reduceAdd, Nat.reduceMul, Nat.reduceLeDiff]
    refine CallR.ev (pick_ev hc (by omega) (l1Rooms p2) (by omega) (by omega)) ?_
    rintro _ _ ⟨k1, rfl, -, -, rfl⟩
    simp (disch := omega) only [↓RU, RV, RH, ↓reduceIte, Nat.reduceEqDiff, reduceCtorEq, if_pos, List.append_nil, ↓RS, RG, Nat.reduceAdd, Nat.reduceMul, Nat.reduceLeDiff]
    refine hK _ _ ?_
    clear hK K
    refine W.seq_region fun K hK => ?_
    simp (disch := omega) only [↓RU, RV, RH, ↓reduceIte, Nat.reduceEqDiff, reduceCtorEq, if_pos, List.append_nil, w64, ↓RS, RG, Nat.reduceAdd, Nat.reduceMul, Nat.reduceLeDiff, tyLstring, tyint, tystring]
    refine CallR.ev (of_ev (R := []) (l := [[104], [118]]) hc (by omega) (by simp) (by simp)) ?_
    rintro _ _ ⟨s, hsm, rfl, rfl⟩
    have hsl := hv_len hsm
    simp (disch := omega) only [↓RU, RV, RH, ↓reduceIte, Nat.reduceEqDiff, reduceCtorEq, if_pos, List.append_nil, w64, ↓RS, RG, Nat.reduceAdd, Nat.reduceMul, Nat.reduceLeDiff, tyLstring, tyint, tystring]
    refine CallR.ev (pick_ev (q := q2 + 1 + 1) hc (by omega) 3 (by omega) (by omega)) ?_
    rintro _ _ ⟨k2, rfl, -, hk2, rfl⟩
    have hk3 := hk2 (by omega)
    simp (disch := omega) only [↓RU, RV, RH, ↓reduceIte, Nat.reduceEqDiff, reduceCtorEq, if_pos, List.append_nil, w64, ↓RS, RG, Nat.reduceAdd, Nat.reduceMul, Nat.reduceLeDiff, tyLstring, tyint, tystring]
    refine CallR.pc (planSplit_pc hs2 k1 hsl (1 + k2)) rfl (.inr rfl) ?_
    simp (disch := omega) only [↓RU, RV, RH, ↓reduceIte, Nat.reduceEqDiff, reduceCtorEq, if_pos, List.append_nil, w64, ↓RS, RG, Nat.reduceAdd, Nat.reduceMul, Nat.reduceLeDiff, tyLstring, tyint, tystring]
    refine hK _ _ ?_
    clear hK K
    refine W.seq_region fun K hK => ?_
    simp (disch := omega) only [↓RU, RV, RH, ↓reduceIte, Nat.reduceEqDiff, reduceCtorEq, if_pos, ↓RS, RG, Nat.reduceAdd, Nat.reduceMul, Nat.reduceLeDiff]
    refine hK _ _ ?_
    clear hK K
    refine W.cond rfl (fun h1 => ?_) (fun h1 => ?_)
    · try simp only [RL] at h1
      obtain ⟨ho1, ho2⟩ := splitP_ok h1
      refine W.region_k fun K hK => ?_
      simp (disch := omega) only [↓RU, RV, RH, ↓reduceIte, Nat.reduceEqDiff, reduceCtorEq, if_pos, ↓RS, RG, Nat.reduceAdd, Nat.reduceMul, Nat.reduceLeDiff]
      refine hK _ _ ?_
      clear hK K
      refine XBlock.norm ?_
      refine XThen.norm ?_
      refine W.region_k fun K hK => ?_
      simp (disch := omega) only [↓RU, RV, RH, ↓reduceIte, Nat.reduceEqDiff, reduceCtorEq, if_pos, w64, ↓RS, RG, Nat.reduceAdd, Nat.reduceMul, Nat.reduceLeDiff, tyint]
      refine hK _ _ ?_
      clear hK K
      refine XThen.norm ?_
      refine ⟨many - (i + 1), by omega, 1, [.ref 0 vr 0, eStrs (splitP p2 k1 s (1 + k2)).1, .int .i64 many, .int .i64 ((i + 1 : Nat) : Int)], ⟨[.arr vr 119 2 [eBy code, .int .i64 ((q2 + 1 + 1 + 1 : Nat) : Int)]], tk + 1⟩, ?_, ?_, i + 1, (splitP p2 k1 s (1 + k2)).1, q2 + 1 + 1 + 1, tk + 1, rfl, by omega, ho1, ho2.trans hl2, by omega, rfl, rfl⟩
      · simp [-List.mapM_map, Store.frz, frzObs, frzOb, frz_eInts, frz_loc, rfz_loc, frz_int, frz_sl, frz_ints, rfz_ints, frz_strs, frz_bytes, rfz_bytes, rfz_str, rfz_bool, frz_str, frz_bool, Env.put, Env.of, argEnv, rfz_int, List.mapM_append, List.mapM_cons, frz_ref0, tk_strs, rfz_tstr]
      · simp [-List.mapM_map, Store.frz, frzObs, frzOb, frz_eInts, frz_loc, rfz_loc, frz_int, frz_sl, frz_ints, rfz_ints, frz_strs, frz_bytes, rfz_bytes, rfz_str, rfz_bool, frz_str, frz_bool, Env.put, Env.of, argEnv, rfz_int, List.mapM_append, List.mapM_cons, frz_ref0, tk_strs, rfz_tstr]
    · try simp only [RL] at h1
      refine W.skip ?_
      refine XBlock.norm ?_
      refine XThen.norm ?_
      refine W.region_k fun K hK => ?_
      simp (disch := omega) only [↓RU, RV, RH, ↓reduceIte, Nat.reduceEqDiff, reduceCtorEq, if_pos, w64, ↓RS, RG, Nat.reduceAdd, Nat.reduceMul, Nat.reduceLeDiff, tyint]
      refine hK _ _ ?_
      clear hK K
      refine XThen.norm ?_
      refine ⟨many - (i + 1), by omega, 1, [.ref 0 vr 0, eStrs p2, .int .i64 many, .int .i64 ((i + 1 : Nat) : Int)], ⟨[.arr vr 119 2 [eBy code, .int .i64 ((q2 + 1 + 1 + 1 : Nat) : Int)]], tk + 1⟩, ?_, ?_, i + 1, p2, q2 + 1 + 1 + 1, tk + 1, rfl, by omega, hp2, hl2, by omega, rfl, rfl⟩
      · simp [-List.mapM_map, Store.frz, frzObs, frzOb, frz_eInts, frz_loc, rfz_loc, frz_int, frz_sl, frz_ints, rfz_ints, frz_strs, frz_bytes, rfz_bytes, rfz_str, rfz_bool, frz_str, frz_bool, Env.put, Env.of, argEnv, rfz_int, List.mapM_append, List.mapM_cons, frz_ref0, tk_strs, rfz_tstr]
      · simp [-List.mapM_map, Store.frz, frzObs, frzOb, frz_eInts, frz_loc, rfz_loc, frz_int, frz_sl, frz_ints, rfz_ints, frz_strs, frz_bytes, rfz_bytes, rfz_str, rfz_bool, frz_str, frz_bool, Env.put, Env.of, argEnv, rfz_int, List.mapM_append, List.mapM_cons, frz_ref0, tk_strs, rfz_tstr]
  · try simp only [RL] at h
    obtain rfl : i = many := by omega
    refine W.exit ?_
    refine XThen.exit ?_
    refine XThen.exit ?_
    refine XBlock.hit ?_
    refine XThen.norm ?_
    refine W.seq_region fun K hK => ?_
    simp (disch := omega) only [↓RU, RV, RH, ↓reduceIte, Nat.reduceEqDiff, reduceCtorEq, if_pos, ↓RS, RG, Nat.reduceAdd, Nat.reduceMul, Nat.reduceLeDiff]
    refine hK _ _ ?_
    clear hK K
    refine W.ret ?_
    refine BodyQ.ret rfl ?_
    exact ⟨_, p2, q2, tk, rfl, hp2, hl2, by omega, take_all⟩

theorem l91Cut_loc {code : Txt} {q vr t v1 : Nat} {R : List Ob} (hc : code.length ≤ 1048576) (hq : q ≤ 900000) {p : List Txt} (hp : planB p = true) {many : Nat} (hm : many ≤ 1000) : Ev Tryz.prog 171 [.ref 0 vr 0, .loc 1 v1 0 p.length, .int .i64 many] ⟨.arr vr 119 2 [eBy code, .int .i64 (q : Int)] :: .arr v1 9 1 (p.map .str) :: R, t⟩ fun v S => ∃ (p2 : List Txt) (q2 t2 : Nat), v = eStrs p2 ∧ planB p2 = true ∧ p2.length = p.length ∧ q2 ≤ q + 3 * many ∧ S = ⟨[.arr vr 119 2 [eBy code, .int .i64 (q2 : Int)]], t2⟩ := by
  refine Ev.of ⟨Tryz.func171, by kernel_rfl, rfl, by kernel_rfl⟩ tabOk mixed (by show 3 ≤ Tryz.f171.ntmps; decide) ?_
  refine W.seq_region fun K hK => ?_
  simp (disch := omega) only [↓RU, RV, RH, ↓reduceIte, Nat.reduceEqDiff, reduceCtorEq, if_pos, ↓RS, RG, Nat.reduceAdd, Nat.reduceMul, Nat.reduceLeDiff]
  refine hK _ _ ?_
  clear hK K
  refine W.seq ?_
  refine W.seq_region fun K hK => ?_
  simp (disch := omega) only [↓RU, RV, RH, ↓reduceIte, Nat.reduceEqDiff, reduceCtorEq, if_pos, ↓RS, RG, Nat.reduceAdd, Nat.reduceMul, Nat.reduceLeDiff]
  refine hK _ _ ?_
  clear hK K
  refine W.block ?_
  refine W.loopZ [0, 1, 2, 7] (fun n vs S => ∃ (i : Nat) (p2 : List Txt) (q2 tk : Nat), n = many - i ∧ i ≤ many ∧ planB p2 = true ∧ p2.length = p.length ∧ q2 ≤ q + 3 * i ∧ vs = [.ref 0 vr 0, eStrs p2, .int .i64 many, .int .i64 i] ∧ S = ⟨[.arr vr 119 2 [eBy code, .int .i64 (q2 : Int)]], tk⟩) many ?_ ?_
  · refine ⟨1, [.ref 0 vr 0, eStrs p, .int .i64 many, .int .i64 (0 : Nat)], ⟨[.arr vr 119 2 [eBy code, .int .i64 (q : Int)]], t⟩, ?_, ?_, 0, p, q, t, rfl, by omega, hp, rfl, by omega, rfl, rfl⟩
    · simp [-List.mapM_map, Store.frz, frzObs, frzOb, frz_eInts, frz_loc, rfz_loc, frz_int, frz_sl, frz_ints, rfz_ints, frz_strs, frz_bytes, rfz_bytes, rfz_str, rfz_bool, frz_str, frz_bool, Env.put, Env.of, argEnv, rfz_int, List.mapM_append, List.mapM_cons, frz_ref0, tk_strs, rfz_tstr]
    · simp [-List.mapM_map, Store.frz, frzObs, frzOb, frz_eInts, frz_loc, rfz_loc, frz_int, frz_sl, frz_ints, rfz_ints, frz_strs, frz_bytes, rfz_bytes, rfz_str, rfz_bool, frz_str, frz_bool, Env.put, Env.of, argEnv, rfz_int, List.mapM_append, List.mapM_cons, frz_ref0, tk_strs, rfz_tstr]
  rintro n vs S - ⟨i, p2, q2, tk, rfl, h_i, hp2, hl2, hq2, rfl, rfl⟩
  refine W.seq ?_
  refine W.seq_region fun K hK => ?_
  simp (disch := omega) only [↓RU, RV, RH, ↓reduceIte, Nat.reduceEqDiff, reduceCtorEq, if_pos, w64, ↓RS, RG, Nat.reduceAdd, Nat.reduceMul, Nat.reduceLeDiff, tyint]
  refine hK _ _ ?_
  clear hK K
  refine W.cond rfl (fun h => ?_) (fun h => ?_)
  · try simp only [RL] at h
    have hs2 := plan_sm hp2
    have hr9 := plan_rooms9 hp2
    have hrb := l1Rooms_bound p2
    refine W.skip ?_
    refine XThen.norm ?_
    refine W.seq ?_
    refine W.block ?_
    refine W.seq_region fun K hK => ?_
    simp (disch := omega) only [↓RU, RV, RH, ↓reduceIte, Nat.reduceEqDiff, reduceCtorEq, if_pos, List.append_nil, ↓RS, RG, Nat.reduceAdd, Nat.reduceMul, Nat.reduceLeDiff]
    refine CallR.pc (l1Rooms_pc hs2) rfl (.inl rfl) ?_
    simp (disch := omega) only [↓RU, RV, RH, ↓reduceIte, Nat.reduceEqDiff, reduceCtorEq, if_pos, List.append_nil, ↓RS, RG, Nat.reduceAdd, Nat.reduceMul, Nat.reduceLeDiff]
    refine CallR.ev (pick_ev hc (by omega) (l1Rooms p2) (by omega) (by omega)) ?_
    rintro _ _ ⟨k1, rfl, -, -, rfl⟩
    simp (disch := omega) only [↓RU, RV, RH, ↓reduceIte, Nat.reduceEqDiff, reduceCtorEq, if_pos, List.append_nil, ↓RS, RG, Nat.reduceAdd, Nat.reduceMul, Nat.reduceLeDiff]
    refine hK _ _ ?_
    clear hK K
    refine W.seq_region fun K hK => ?_
    simp (disch := omega) only [↓RU, RV, RH, ↓reduceIte, Nat.reduceEqDiff, reduceCtorEq, if_pos, List.append_nil, w64, ↓RS, RG, Nat.reduceAdd, Nat.reduceMul, Nat.reduceLeDiff, tyLstring, tyint, tystring]
    refine CallR.ev (of_ev (R := []) (l := [[104], [118]]) hc (by omega) (by simp) (by simp)) ?_
    rintro _ _ ⟨s, hsm, rfl, rfl⟩
    have hsl := hv_len hsm
    simp (disch := omega) only [↓RU, RV, RH, ↓reduceIte, Nat.reduceEqDiff, reduceCtorEq, if_pos, List.append_nil, w64, ↓RS, RG, Nat.reduceAdd, Nat.reduceMul, Nat.reduceLeDiff, tyLstring, tyint, tystring]
    refine CallR.ev (pick_ev (q := q2 + 1 + 1) hc (by omega) 3 (by omega) (by omega)) ?_
    rintro _ _ ⟨k2, rfl, -, hk2, rfl⟩
    have hk3 := hk2 (by omega)
    simp (disch := omega) only [↓RU, RV, RH, ↓reduceIte, Nat.reduceEqDiff, reduceCtorEq, if_pos, List.append_nil, w64, ↓RS, RG, Nat.reduceAdd, Nat.reduceMul, Nat.reduceLeDiff, tyLstring, tyint, tystring]
    refine CallR.pc (planSplit_pc hs2 k1 hsl (1 + k2)) rfl (.inr rfl) ?_
    simp (disch := omega) only [↓RU, RV, RH, ↓reduceIte, Nat.reduceEqDiff, reduceCtorEq, if_pos, List.append_nil, w64, ↓RS, RG, Nat.reduceAdd, Nat.reduceMul, Nat.reduceLeDiff, tyLstring, tyint, tystring]
    refine hK _ _ ?_
    clear hK K
    refine W.seq_region fun K hK => ?_
    simp (disch := omega) only [↓RU, RV, RH, ↓reduceIte, Nat.reduceEqDiff, reduceCtorEq, if_pos, ↓RS, RG, Nat.reduceAdd, Nat.reduceMul, Nat.reduceLeDiff]
    refine hK _ _ ?_
    clear hK K
    refine W.cond rfl (fun h1 => ?_) (fun h1 => ?_)
    · try simp only [RL] at h1
      obtain ⟨ho1, ho2⟩ := splitP_ok h1
      refine W.region_k fun K hK => ?_
      simp (disch := omega) only [↓RU, RV, RH, ↓reduceIte, Nat.reduceEqDiff, reduceCtorEq, if_pos, ↓RS, RG, Nat.reduceAdd, Nat.reduceMul, Nat.reduceLeDiff]
      refine hK _ _ ?_
      clear hK K
      refine XBlock.norm ?_
      refine XThen.norm ?_
      refine W.region_k fun K hK => ?_
      simp (disch := omega) only [↓RU, RV, RH, ↓reduceIte, Nat.reduceEqDiff, reduceCtorEq, if_pos, w64, ↓RS, RG, Nat.reduceAdd, Nat.reduceMul, Nat.reduceLeDiff, tyint]
      refine hK _ _ ?_
      clear hK K
      refine XThen.norm ?_
      refine ⟨many - (i + 1), by omega, 1, [.ref 0 vr 0, eStrs (splitP p2 k1 s (1 + k2)).1, .int .i64 many, .int .i64 ((i + 1 : Nat) : Int)], ⟨[.arr vr 119 2 [eBy code, .int .i64 ((q2 + 1 + 1 + 1 : Nat) : Int)]], tk + 1⟩, ?_, ?_, i + 1, (splitP p2 k1 s (1 + k2)).1, q2 + 1 + 1 + 1, tk + 1, rfl, by omega, ho1, ho2.trans hl2, by omega, rfl, rfl⟩
      · simp [-List.mapM_map, Store.frz, frzObs, frzOb, frz_eInts, frz_loc, rfz_loc, frz_int, frz_sl, frz_ints, rfz_ints, frz_strs, frz_bytes, rfz_bytes, rfz_str, rfz_bool, frz_str, frz_bool, Env.put, Env.of, argEnv, rfz_int, List.mapM_append, List.mapM_cons, frz_ref0, tk_strs, rfz_tstr]
      · simp [-List.mapM_map, Store.frz, frzObs, frzOb, frz_eInts, frz_loc, rfz_loc, frz_int, frz_sl, frz_ints, rfz_ints, frz_strs, frz_bytes, rfz_bytes, rfz_str, rfz_bool, frz_str, frz_bool, Env.put, Env.of, argEnv, rfz_int, List.mapM_append, List.mapM_cons, frz_ref0, tk_strs, rfz_tstr]
    · try simp only [RL] at h1
      refine W.skip ?_
      refine XBlock.norm ?_
      refine XThen.norm ?_
      refine W.region_k fun K hK => ?_
      simp (disch := omega) only [↓RU, RV, RH, ↓reduceIte, Nat.reduceEqDiff, reduceCtorEq, if_pos, w64, ↓RS, RG, Nat.reduceAdd, Nat.reduceMul, Nat.reduceLeDiff, tyint]
      refine hK _ _ ?_
      clear hK K
      refine XThen.norm ?_
      refine ⟨many - (i + 1), by omega, 1, [.ref 0 vr 0, eStrs p2, .int .i64 many, .int .i64 ((i + 1 : Nat) : Int)], ⟨[.arr vr 119 2 [eBy code, .int .i64 ((q2 + 1 + 1 + 1 : Nat) : Int)]], tk + 1⟩, ?_, ?_, i + 1, p2, q2 + 1 + 1 + 1, tk + 1, rfl, by omega, hp2, hl2, by omega, rfl, rfl⟩
      · simp [-List.mapM_map, Store.frz, frzObs, frzOb, frz_eInts, frz_loc, rfz_loc, frz_int, frz_sl, frz_ints, rfz_ints, frz_strs, frz_bytes, rfz_bytes, rfz_str, rfz_bool, frz_str, frz_bool, Env.put, Env.of, argEnv, rfz_int, List.mapM_append, List.mapM_cons, frz_ref0, tk_strs, rfz_tstr]
      · simp [-List.mapM_map, Store.frz, frzObs, frzOb, frz_eInts, frz_loc, rfz_loc, frz_int, frz_sl, frz_ints, rfz_ints, frz_strs, frz_bytes, rfz_bytes, rfz_str, rfz_bool, frz_str, frz_bool, Env.put, Env.of, argEnv, rfz_int, List.mapM_append, List.mapM_cons, frz_ref0, tk_strs, rfz_tstr]
  · try simp only [RL] at h
    obtain rfl : i = many := by omega
    refine W.exit ?_
    refine XThen.exit ?_
    refine XThen.exit ?_
    refine XBlock.hit ?_
    refine XThen.norm ?_
    refine W.seq_region fun K hK => ?_
    simp (disch := omega) only [↓RU, RV, RH, ↓reduceIte, Nat.reduceEqDiff, reduceCtorEq, if_pos, ↓RS, RG, Nat.reduceAdd, Nat.reduceMul, Nat.reduceLeDiff]
    refine hK _ _ ?_
    clear hK K
    refine W.ret ?_
    refine BodyQ.ret rfl ?_
    exact ⟨_, p2, q2, tk, rfl, hp2, hl2, by omega, take_all⟩

theorem empty_plan {nh nw : Nat} (h1 : 1 ≤ nh) (h2 : nh ≤ 6) (w1 : 1 ≤ nw) (w2 : nw ≤ 6) : planB (List.replicate nh (List.replicate nw (97 : UInt8))) = true := by
  rcases (show nh = 1 ∨ nh = 2 ∨ nh = 3 ∨ nh = 4 ∨ nh = 5 ∨ nh = 6 by omega) with rfl | rfl | rfl | rfl | rfl | rfl <;>
  rcases (show nw = 1 ∨ nw = 2 ∨ nw = 3 ∨ nw = 4 ∨ nw = 5 ∨ nw = 6 by omega) with rfl | rfl | rfl | rfl | rfl | rfl <;> decide +kernel
def wheel3 : List Txt := [[97, 97, 98], [99, 100, 98], [99, 101, 101]]
def wheel4 : List Txt := [[97, 97, 97, 98], [99, 100, 100, 98], [99, 100, 100, 98], [99, 101, 101, 101]]
theorem wheel3_plan : planB wheel3 = true := by decide +kernel
theorem wheel4_plan : planB wheel4 = true := by decide +kernel

theorem l91Plan_ev {code : Txt} {q vr t : Nat} (hc : code.length ≤ 1048576) (hq : q ≤ 800000) {nh nw : Nat} (h1 : 1 ≤ nh) (h2 : nh ≤ 6) (w1 : 1 ≤ nw) (w2 : nw ≤ 6) : Ev Tryz.prog 143 [.ref 0 vr 0, .int .i64 nh, .int .i64 nw] ⟨[.arr vr 119 2 [eBy code, .int .i64 (q : Int)]], t⟩ fun v S => ∃ (p2 : List Txt) (q2 t2 : Nat), v = eStrs p2 ∧ planB p2 = true ∧ p2.length = nh ∧ q2 ≤ q + 100 ∧ S = ⟨[.arr vr 119 2 [eBy code, .int .i64 (q2 : Int)]], t2⟩ := by
  refine Ev.of ⟨Tryz.func143, by kernel_rfl, rfl, by kernel_rfl⟩ tabOk mixed (by show 3 ≤ Tryz.f143.ntmps; decide) ?_
  refine W.seq_region fun K hK => ?_
  simp (disch := omega) only [↓RU, RV, RH, ↓reduceIte, Nat.reduceEqDiff, reduceCtorEq, if_pos, ↓RS, RG, Nat.reduceAdd, Nat.reduceMul, Nat.reduceLeDiff]
  refine hK _ _ ?_
  clear hK K
  refine W.seq ?_
  refine W.join [0, 1, 2, 17] (fun vs S => ∃ (q2 : Nat) (b : Bool), q2 ≤ q + 1 ∧ (b = true → nh = 3) ∧ vs = [.ref 0 vr 0, .int .i64 nh, .int .i64 nw, .bool b] ∧ S = ⟨[.arr vr 119 2 [eBy code, .int .i64 (q2 : Int)]], t⟩) ?_ ?_
  ·
    refine W.region_k fun K hK => ?_
    rcases hd : (((nh : Int) == 3), ((nw : Int) == 3)) with ⟨_ | _, _ | _⟩
    · skip
      simp only [Prod.mk.injEq] at hd
      obtain ⟨hd1, hd2⟩ := hd
      simp (disch := omega) only [↓RU, RV, RH, ↓reduceIte, Nat.reduceEqDiff, reduceCtorEq, if_pos, w64, List.append_nil, ↓RS, RG, Nat.reduceAdd, Nat.reduceMul, Nat.reduceLeDiff, tyint, hd1, hd2]
      refine hK _ _ ?_
      clear hK K
      refine XThen.norm ?_
      refine ⟨_, q, false, by omega, fun h9 => (by cases h9), ?_, take_all⟩
      simp [Env.put, Env.of, argEnv]
    · skip
      simp only [Prod.mk.injEq] at hd
      obtain ⟨hd1, hd2⟩ := hd
      simp (disch := omega) only [↓RU, RV, RH, ↓reduceIte, Nat.reduceEqDiff, reduceCtorEq, if_pos, w64, List.append_nil, ↓RS, RG, Nat.reduceAdd, Nat.reduceMul, Nat.reduceLeDiff, tyint, hd1, hd2]
      refine hK _ _ ?_
      clear hK K
      refine XThen.norm ?_
      refine ⟨_, q, false, by omega, fun h9 => (by cases h9), ?_, take_all⟩
      simp [Env.put, Env.of, argEnv]
    · skip
      simp only [Prod.mk.injEq] at hd
      obtain ⟨hd1, hd2⟩ := hd
      simp (disch := omega) only [↓RU, RV, RH, ↓reduceIte, Nat.reduceEqDiff, reduceCtorEq, if_pos, w64, List.append_nil, ↓RS, RG, Nat.reduceAdd, Nat.reduceMul, Nat.reduceLeDiff, tyint, hd1, hd2]
      refine hK _ _ ?_
      clear hK K
      refine XThen.norm ?_
      refine ⟨_, q, false, by omega, fun h9 => (by cases h9), ?_, take_all⟩
      simp [Env.put, Env.of, argEnv]
    · skip
      simp only [Prod.mk.injEq] at hd
      obtain ⟨hd1, hd2⟩ := hd
      simp (disch := omega) only [↓RU, RV, RH, ↓reduceIte, Nat.reduceEqDiff, reduceCtorEq, if_pos, w64, List.append_nil, ↓RS, RG, Nat.reduceAdd, Nat.reduceMul, Nat.reduceLeDiff, tyint, hd1, hd2]
      refine CallR.ev (pick_ev (q := q) hc (by omega) 2 (by omega) (by omega)) ?_
      rintro _ _ ⟨k1, rfl, -, hk1, rfl⟩
      have hk1b := hk1 (by omega)
      simp (disch := omega) only [↓RU, RV, RH, ↓reduceIte, Nat.reduceEqDiff, reduceCtorEq, if_pos, w64, List.append_nil, ↓RS, RG, Nat.reduceAdd, Nat.reduceMul, Nat.reduceLeDiff, tyint, hd1, hd2]
      refine hK _ _ ?_
      clear hK K
      refine XThen.norm ?_
      refine ⟨_, q + 1, ((k1 : Int) == 0), by omega, fun _ => (by have := beq_iff_eq.1 hd1; omega), ?_, take_all⟩
      simp [Env.put, Env.of, argEnv]
  rintro vs S - ⟨qa, b3, hqa, hb3, rfl, rfl⟩
  refine W.cond rfl (fun h3 => ?_) (fun h3 => ?_)
  · try simp only [RL] at h3
    refine W.seq_region fun K hK => ?_
    simp (disch := omega) only [↓RU, RV, RH, ↓reduceIte, Nat.reduceEqDiff, reduceCtorEq, if_pos, List.append_nil, ↓RS, RG, Nat.reduceAdd, Nat.reduceMul, Nat.reduceLeDiff, tyLstring, tystring]
    refine CallR.ev (pick_ev (q := qa) hc (by omega) 2 (by omega) (by omega)) ?_
    rintro _ _ ⟨k1, rfl, -, hk1, rfl⟩
    have hk1b := hk1 (by omega)
    simp (disch := omega) only [↓RU, RV, RH, ↓reduceIte, Nat.reduceEqDiff, reduceCtorEq, if_pos, List.append_nil, ↓RS, RG, Nat.reduceAdd, Nat.reduceMul, Nat.reduceLeDiff, tyLstring, tystring]
    refine CallR.ev (l91Cut_loc (q := qa + 1) (R := []) hc (by omega) wheel3_plan (many := k1) (by omega)) ?_
    rintro _ _ ⟨p2, q2, t2, rfl, hp2, hl2, hq2, rfl⟩
    simp (disch := omega) only [↓RU, RV, RH, ↓reduceIte, Nat.reduceEqDiff, reduceCtorEq, if_pos, List.append_nil, ↓RS, RG, Nat.reduceAdd, Nat.reduceMul, Nat.reduceLeDiff, tyLstring, tystring]
    refine hK _ _ ?_
    clear hK K
    refine W.ret ?_
    refine XThen.ret ?_
    refine BodyQ.ret rfl ?_
    exact ⟨_, p2, q2, t2, rfl, hp2, hl2.trans (hb3 h3).symm, by omega, take_all⟩
  · try simp only [RL] at h3
    refine W.skip ?_
    refine XThen.norm ?_
    refine W.seq ?_
    refine W.join [0, 1, 2, 33] (fun vs S => ∃ (q2 : Nat) (b : Bool), q2 ≤ q + 2 ∧ (b = true → nh = 4) ∧ vs = [.ref 0 vr 0, .int .i64 nh, .int .i64 nw, .bool b] ∧ S = ⟨[.arr vr 119 2 [eBy code, .int .i64 (q2 : Int)]], t⟩) ?_ ?_
    ·
      refine W.region_k fun K hK => ?_
      rcases hd : (((nh : Int) == 4), ((nw : Int) == 4)) with ⟨_ | _, _ | _⟩
      · skip
        simp only [Prod.mk.injEq] at hd
        obtain ⟨hd1, hd2⟩ := hd
        simp (disch := omega) only [↓RU, RV, RH, ↓reduceIte, Nat.reduceEqDiff, reduceCtorEq, if_pos, w64, List.append_nil, ↓RS, RG, Nat.reduceAdd, Nat.reduceMul, Nat.reduceLeDiff, tyint, hd1, hd2]
        refine hK _ _ ?_
        clear hK K
        refine XThen.norm ?_
        refine ⟨_, qa, false, by omega, fun h9 => (by cases h9), ?_, take_all⟩
        simp [Env.put, Env.of, argEnv]
      · skip
        simp only [Prod.mk.injEq] at hd
        obtain ⟨hd1, hd2⟩ := hd
        simp (disch := omega) only [↓RU, RV, RH, ↓reduceIte, Nat.reduceEqDiff, reduceCtorEq, if_pos, w64, List.append_nil, ↓RS, RG, Nat.reduceAdd, Nat.reduceMul, Nat.reduceLeDiff, tyint, hd1, hd2]
        refine hK _ _ ?_
        clear hK K
        refine XThen.norm ?_
        refine ⟨_, qa, false, by omega, fun h9 => (by cases h9), ?_, take_all⟩
        simp [Env.put, Env.of, argEnv]
      · skip
        simp only [Prod.mk.injEq] at hd
        obtain ⟨hd1, hd2⟩ := hd
        simp (disch := omega) only [↓RU, RV, RH, ↓reduceIte, Nat.reduceEqDiff, reduceCtorEq, if_pos, w64, List.append_nil, ↓RS, RG, Nat.reduceAdd, Nat.reduceMul, Nat.reduceLeDiff, tyint, hd1, hd2]
        refine hK _ _ ?_
        clear hK K
        refine XThen.norm ?_
        refine ⟨_, qa, false, by omega, fun h9 => (by cases h9), ?_, take_all⟩
        simp [Env.put, Env.of, argEnv]
      · skip
        simp only [Prod.mk.injEq] at hd
        obtain ⟨hd1, hd2⟩ := hd
        simp (disch := omega) only [↓RU, RV, RH, ↓reduceIte, Nat.reduceEqDiff, reduceCtorEq, if_pos, w64, List.append_nil, ↓RS, RG, Nat.reduceAdd, Nat.reduceMul, Nat.reduceLeDiff, tyint, hd1, hd2]
        refine CallR.ev (pick_ev (q := qa) hc (by omega) 2 (by omega) (by omega)) ?_
        rintro _ _ ⟨k1, rfl, -, hk1, rfl⟩
        have hk1b := hk1 (by omega)
        simp (disch := omega) only [↓RU, RV, RH, ↓reduceIte, Nat.reduceEqDiff, reduceCtorEq, if_pos, w64, List.append_nil, ↓RS, RG, Nat.reduceAdd, Nat.reduceMul, Nat.reduceLeDiff, tyint, hd1, hd2]
        refine hK _ _ ?_
        clear hK K
        refine XThen.norm ?_
        refine ⟨_, qa + 1, ((k1 : Int) == 0), by omega, fun _ => (by have := beq_iff_eq.1 hd1; omega), ?_, take_all⟩
        simp [Env.put, Env.of, argEnv]
    rintro vs S - ⟨qb, b4, hqb, hb4, rfl, rfl⟩
    refine W.cond rfl (fun h4 => ?_) (fun h4 => ?_)
    · try simp only [RL] at h4
      refine W.seq_region fun K hK => ?_
      simp (disch := omega) only [↓RU, RV, RH, ↓reduceIte, Nat.reduceEqDiff, reduceCtorEq, if_pos, List.append_nil, ↓RS, RG, Nat.reduceAdd, Nat.reduceMul, Nat.reduceLeDiff, tyLstring, tystring]
      refine CallR.ev (pick_ev (q := qb) hc (by omega) 4 (by omega) (by omega)) ?_
      rintro _ _ ⟨k2, rfl, -, hk2, rfl⟩
      have hk2b := hk2 (by omega)
      simp (disch := omega) only [↓RU, RV, RH, ↓reduceIte, Nat.reduceEqDiff, reduceCtorEq, if_pos, List.append_nil, ↓RS, RG, Nat.reduceAdd, Nat.reduceMul, Nat.reduceLeDiff, tyLstring, tystring]
      refine CallR.ev (l91Cut_loc (q := qb + 1) (R := []) hc (by omega) wheel4_plan (many := k2) (by omega)) ?_
      rintro _ _ ⟨p2, q2, t2, rfl, hp2, hl2, hq2, rfl⟩
      simp (disch := omega) only [↓RU, RV, RH, ↓reduceIte, Nat.reduceEqDiff, reduceCtorEq, if_pos, List.append_nil, ↓RS, RG, Nat.reduceAdd, Nat.reduceMul, Nat.reduceLeDiff, tyLstring, tystring]
      refine hK _ _ ?_
      clear hK K
      refine W.ret ?_
      refine XThen.ret ?_
      refine BodyQ.ret rfl ?_
      exact ⟨_, p2, q2, t2, rfl, hp2, hl2.trans (hb4 h4).symm, by omega, take_all⟩
    · try simp only [RL] at h4
      refine W.skip ?_
      refine XThen.norm ?_
      refine W.seq_region fun K hK => ?_
      simp (disch := omega) only [↓RU, RV, RH, ↓reduceIte, Nat.reduceEqDiff, reduceCtorEq, if_pos, List.append_nil, ↓RS, RG, Nat.reduceAdd, Nat.reduceMul, Nat.reduceLeDiff]
      refine CallR.pc (l91Empty_pc (nh := nh) (nw := nw) (by omega) (by omega)) rfl (.inl rfl) ?_
      simp (disch := omega) only [↓RU, RV, RH, ↓reduceIte, Nat.reduceEqDiff, reduceCtorEq, if_pos, List.append_nil, ↓RS, RG, Nat.reduceAdd, Nat.reduceMul, Nat.reduceLeDiff]
      refine CallR.ev (pick_ev (q := qb) hc (by omega) 9 (by omega) (by omega)) ?_
      rintro _ _ ⟨k3, rfl, -, hk3, rfl⟩
      have hk3b := hk3 (by omega)
      simp (disch := omega) only [↓RU, RV, RH, ↓reduceIte, Nat.reduceEqDiff, reduceCtorEq, if_pos, List.append_nil, ↓RS, RG, Nat.reduceAdd, Nat.reduceMul, Nat.reduceLeDiff]
      refine CallR.ev (l91Cut_ev (q := qb + 1) (R := []) hc (by omega) (empty_plan h1 h2 w1 w2) (many := k3) (by omega)) ?_
      rintro _ _ ⟨p2, q2, t2, rfl, hp2, hl2, hq2, rfl⟩
      simp (disch := omega) only [↓RU, RV, RH, ↓reduceIte, Nat.reduceEqDiff, reduceCtorEq, if_pos, List.append_nil, ↓RS, RG, Nat.reduceAdd, Nat.reduceMul, Nat.reduceLeDiff]
      refine hK _ _ ?_
      clear hK K
      refine W.ret ?_
      refine BodyQ.ret rfl ?_
      exact ⟨_, p2, q2, t2, rfl, hp2, by simpa using hl2, by omega, take_all⟩

end Fw
end Go.Proofs.YtcglmbijpjhbmaaGreat

/-! Drawing plans, gone through, continued. -/
namespace Go.Proofs.YtcglmbijpjhbmaaGreat
namespace Fw
open Go

theorem sm_set {p : List Txt} (h : Sm p) {i : Nat} {r : Txt} (hr : r.length ≤ 1048576) : Sm (p.set i r) := by
  refine ⟨by rw [List.length_set]; exact h.1, fun x hx => ?_⟩
  rcases List.mem_or_eq_of_mem_set hx with k | rfl
  · exact h.2 x k
  · exact hr
theorem set_hd {p : List Txt} {x : Txt} (h : 0 < p.length) : PV.str x :: List.drop 1 (p.map PV.str) = (p.set 0 x).map .str := by cases p with | nil => simp at h | cons a p => simp
theorem one_add {k : Nat} : (1 : Int) + (k : Int) = ((1 + k : Nat) : Int) := by omega

theorem l91Some_ev {code : Txt} {q vr t : Nat} (hc : code.length ≤ 1048576) (hq : q ≤ 700000) {rows cols : Nat} (h1 : 1 ≤ rows) (h2 : rows ≤ 6) (w1 : 1 ≤ cols) (w2 : cols ≤ 6) : Ev Tryz.prog 122 [.ref 0 vr 0, .int .i64 rows, .int .i64 cols] ⟨[.arr vr 119 2 [eBy code, .int .i64 (q : Int)]], t⟩ fun v S => ∃ (p2 : List Txt) (q2 t2 : Nat), v = eStrs p2 ∧ Sm p2 ∧ p2.length ≤ 6 ∧ q2 ≤ q + 200 ∧ S = ⟨[.arr vr 119 2 [eBy code, .int .i64 (q2 : Int)]], t2⟩ := by
  refine Ev.of ⟨Tryz.func122, by kernel_rfl, rfl, by kernel_rfl⟩ tabOk mixed (by show 3 ≤ Tryz.f122.ntmps; decide) ?_
  refine W.seq_region fun K hK => ?_
  simp (disch := omega) only [↓RU, RV, RH, ↓reduceIte, Nat.reduceEqDiff, reduceCtorEq, if_pos, ↓RS, RG, Nat.reduceAdd, Nat.reduceMul, Nat.reduceLeDiff]
  refine hK _ _ ?_
  clear hK K
  refine W.seq_region fun K hK => ?_
  simp (disch := omega) only [↓RU, RV, RH, ↓reduceIte, Nat.reduceEqDiff, reduceCtorEq, if_pos, List.append_nil, w64, ↓RS, RG, Nat.reduceAdd, Nat.reduceMul, Nat.reduceLeDiff, tyint]
  refine CallR.ev (pick_ev hc (by omega) (rows : Int) (by omega) (by omega)) ?_
  rintro _ _ ⟨k1, rfl, -, hk1, rfl⟩
  have hk1b := hk1 (by omega)
  simp (disch := omega) only [↓RU, RV, RH, ↓reduceIte, Nat.reduceEqDiff, reduceCtorEq, if_pos, List.append_nil, w64, ↓RS, RG, Nat.reduceAdd, Nat.reduceMul, Nat.reduceLeDiff, tyint, one_add]
  refine hK _ _ ?_
  clear hK K
  refine W.seq_region fun K hK => ?_
  simp (disch := omega) only [↓RU, RV, RH, ↓reduceIte, Nat.reduceEqDiff, reduceCtorEq, if_pos, List.append_nil, w64, ↓RS, RG, Nat.reduceAdd, Nat.reduceMul, Nat.reduceLeDiff, tyint]
  refine CallR.ev (pick_ev hc (by omega) (cols : Int) (by omega) (by omega)) ?_
  rintro _ _ ⟨k2, rfl, -, hk2, rfl⟩
  have hk2b := hk2 (by omega)
  simp (disch := omega) only [↓RU, RV, RH, ↓reduceIte, Nat.reduceEqDiff, reduceCtorEq, if_pos, List.append_nil, w64, ↓RS, RG, Nat.reduceAdd, Nat.reduceMul, Nat.reduceLeDiff, tyint, one_add]
  refine CallR.ev (l91Plan_ev (q := q + 1 + 1) hc (by omega) (nh := 1 + k1) (nw := 1 + k2) (by omega) (by omega) (by omega) (by omega)) ?_
  rintro _ _ ⟨p2, q2, t2, rfl, hp2, hl2, hq2, rfl⟩
  simp (disch := omega) only [↓RU, RV, RH, ↓reduceIte, Nat.reduceEqDiff, reduceCtorEq, if_pos, List.append_nil, w64, ↓RS, RG, Nat.reduceAdd, Nat.reduceMul, Nat.reduceLeDiff, tyint]
  refine hK _ _ ?_
  clear hK K
  obtain ⟨ps1, ps2, ps3⟩ := plan_small hp2
  have hsm := plan_sm hp2
  obtain ⟨nh, hnh⟩ : ∃ nh : Nat, 1 + k1 = nh := ⟨_, rfl⟩
  simp only [hnh] at hl2 ⊢
  refine W.joinZ [8] (fun vs S => ∃ (p3 : List Txt) (q3 tk : Nat), Sm p3 ∧ p3.length ≤ 6 ∧ q3 ≤ q + 200 ∧ vs = [eStrs p3] ∧ S = ⟨[.arr vr 119 2 [eBy code, .int .i64 (q3 : Int)]], tk⟩) ?_ ?_
  ·
    refine W.seq_region fun K hK => ?_
    simp (disch := omega) only [↓RU, RV, RH, ↓reduceIte, Nat.reduceEqDiff, reduceCtorEq, if_pos, List.append_nil, ↓RS, RG, Nat.reduceAdd, Nat.reduceMul, Nat.reduceLeDiff]
    refine CallR.ev (pick_ev hc (by omega) 50 (by omega) (by omega)) ?_
    rintro _ _ ⟨k3, rfl, -, hk3, rfl⟩
    simp (disch := omega) only [↓RU, RV, RH, ↓reduceIte, Nat.reduceEqDiff, reduceCtorEq, if_pos, List.append_nil, ↓RS, RG, Nat.reduceAdd, Nat.reduceMul, Nat.reduceLeDiff]
    refine hK _ _ ?_
    clear hK K
    refine W.block ?_
    refine W.seq_region fun K hK => ?_
    simp (disch := omega) only [↓RU, RV, RH, ↓reduceIte, Nat.reduceEqDiff, reduceCtorEq, if_pos, w64, ↓RS, RG, Nat.reduceAdd, Nat.reduceMul, Nat.reduceLeDiff, tyint]
    refine hK _ _ ?_
    clear hK K
    refine W.cond rfl (fun h0 => ?_) (fun h0 => ?_)
    · try simp only [RL] at h0
      obtain ⟨row, hrow, hrm⟩ := get_of (show nh - 1 < p2.length by omega)
      have hr6 := (ps3 row hrm).2
      refine W.seq_region fun K hK => ?_
      simp (disch := omega) only [↓RU, RV, RH, ↓reduceIte, Nat.reduceEqDiff, reduceCtorEq, if_pos, ↓RS, RG, Nat.reduceAdd, Nat.reduceMul, Nat.reduceLeDiff, tyLstring, tystring]
      refine hK _ _ ?_
      clear hK K
      refine W.region_k fun K hK => ?_
      simp (disch := omega) only [↓RU, RV, RH, ↓reduceIte, Nat.reduceEqDiff, reduceCtorEq, if_pos, w64, ↓RS, RG, Nat.reduceAdd, Nat.reduceMul, Nat.reduceLeDiff, tyLstring, tyint, tystring, toNat_pred, hrow, pStr, set_spl, set_str, cells_str, List.length_cons, List.length_nil]
      refine hK _ _ ?_
      clear hK K
      refine XBlock.norm ?_
      refine XThen.norm ?_
      have hPs : Sm (p2.set (nh - 1) (row ++ [97])) := sm_set hsm (by simp; omega)
      have hPl : (p2.set (nh - 1) (row ++ [97])).length = p2.length := by simp
      generalize p2.set (nh - 1) (row ++ [97]) = P at hPs hPl ⊢
      have htk : (P.map PV.str).take p2.length = P.map .str := List.take_of_length_le (by simp [hPl])
      refine ⟨1, [eStrs P], ⟨[.arr vr 119 2 [eBy code, .int .i64 ((q2 + 1 : Nat) : Int)]], t2 + 1 + 1⟩, ?_, ?_, P, q2 + 1, t2 + 1 + 1, hPs, by omega, by omega, rfl, rfl⟩
      · simp [-List.mapM_map, Store.frz, frzObs, frzOb, frz_eInts, frz_loc, rfz_loc, frz_int, frz_sl, frz_ints, rfz_ints, frz_strs, frz_bytes, rfz_bytes, rfz_str, rfz_bool, frz_str, frz_bool, Env.put, Env.of, argEnv, rfz_int, List.mapM_append, List.mapM_cons, frz_ref0, tk_strs, rfz_tstr, htk, hPl]
      · simp [-List.mapM_map, Store.frz, frzObs, frzOb, frz_eInts, frz_loc, rfz_loc, frz_int, frz_sl, frz_ints, rfz_ints, frz_strs, frz_bytes, rfz_bytes, rfz_str, rfz_bool, frz_str, frz_bool, Env.put, Env.of, argEnv, rfz_int, List.mapM_append, List.mapM_cons, frz_ref0, tk_strs, rfz_tstr]
    · try simp only [RL] at h0
      refine W.seq_region fun K hK => ?_
      simp (disch := omega) only [↓RU, RV, RH, ↓reduceIte, Nat.reduceEqDiff, reduceCtorEq, if_pos, w64, ↓RS, RG, Nat.reduceAdd, Nat.reduceMul, Nat.reduceLeDiff, tyint]
      refine hK _ _ ?_
      clear hK K
      refine W.cond rfl (fun h1 => ?_) (fun h1 => ?_)
      · try simp only [RL] at h1
        obtain ⟨row, hrow, hrm⟩ := get_of (show 0 < p2.length by omega)
        have hr6 := ps3 row hrm
        have hdl : (row.drop 1).length ≤ 6 := by rw [List.length_drop]; omega
        refine W.seq_region fun K hK => ?_
        simp (disch := omega) only [↓RU, RV, RH, ↓reduceIte, Nat.reduceEqDiff, reduceCtorEq, if_pos, ↓RS, RG, Nat.reduceAdd, Nat.reduceMul, Nat.reduceLeDiff, tyLstring, tystring]
        refine hK _ _ ?_
        clear hK K
        refine W.region_k fun K hK => ?_
        simp (disch := omega) only [↓RU, RV, RH, ↓reduceIte, Nat.reduceEqDiff, reduceCtorEq, if_pos, Option.map_none, w64, ↓RS, RG, Nat.reduceAdd, Nat.reduceMul, Nat.reduceLeDiff, tyLstring, tystring, hrow, pStr, set_spl, set_str, cells_str, List.length_cons, List.length_nil, Int.toNat_zero, Int.reduceToNat, List.take_length, Nat.zero_mul, Nat.zero_add]
        refine hK _ _ ?_
        clear hK K
        rw [set_hd (show 0 < p2.length by omega)]
        refine XBlock.norm ?_
        refine XThen.norm ?_
        have hPs : Sm (p2.set 0 (122 :: row.drop 1)) := sm_set hsm (by simp; omega)
        have hPl : (p2.set 0 (122 :: row.drop 1)).length = p2.length := by simp
        generalize p2.set 0 (122 :: row.drop 1) = P at hPs hPl ⊢
        have htk : (P.map PV.str).take p2.length = P.map .str := List.take_of_length_le (by simp [hPl])
        refine ⟨1, [eStrs P], ⟨[.arr vr 119 2 [eBy code, .int .i64 ((q2 + 1 : Nat) : Int)]], t2 + 1 + 1⟩, ?_, ?_, P, q2 + 1, t2 + 1 + 1, hPs, by omega, by omega, rfl, rfl⟩
        · simp [-List.mapM_map, Store.frz, frzObs, frzOb, frz_eInts, frz_loc, rfz_loc, frz_int, frz_sl, frz_ints, rfz_ints, frz_strs, frz_bytes, rfz_bytes, rfz_str, rfz_bool, frz_str, frz_bool, Env.put, Env.of, argEnv, rfz_int, List.mapM_append, List.mapM_cons, frz_ref0, tk_strs, rfz_tstr, htk, hPl]
        · simp [-List.mapM_map, Store.frz, frzObs, frzOb, frz_eInts, frz_loc, rfz_loc, frz_int, frz_sl, frz_ints, rfz_ints, frz_strs, frz_bytes, rfz_bytes, rfz_str, rfz_bool, frz_str, frz_bool, Env.put, Env.of, argEnv, rfz_int, List.mapM_append, List.mapM_cons, frz_ref0, tk_strs, rfz_tstr]
      · try simp only [RL] at h1
        refine W.skip ?_
        refine XBlock.norm ?_
        refine XThen.norm ?_
        have hPs := hsm
        have hPl : p2.length = p2.length := rfl
        have htk : True := trivial
        refine ⟨1, [eStrs p2], ⟨[.arr vr 119 2 [eBy code, .int .i64 ((q2 + 1 : Nat) : Int)]], t2⟩, ?_, ?_, p2, q2 + 1, t2, hPs, by omega, by omega, rfl, rfl⟩
        · simp [-List.mapM_map, Store.frz, frzObs, frzOb, frz_eInts, frz_loc, rfz_loc, frz_int, frz_sl, frz_ints, rfz_ints, frz_strs, frz_bytes, rfz_bytes, rfz_str, rfz_bool, frz_str, frz_bool, Env.put, Env.of, argEnv, rfz_int, List.mapM_append, List.mapM_cons, frz_ref0, tk_strs, rfz_tstr, htk, hPl]
        · simp [-List.mapM_map, Store.frz, frzObs, frzOb, frz_eInts, frz_loc, rfz_loc, frz_int, frz_sl, frz_ints, rfz_ints, frz_strs, frz_bytes, rfz_bytes, rfz_str, rfz_bool, frz_str, frz_bool, Env.put, Env.of, argEnv, rfz_int, List.mapM_append, List.mapM_cons, frz_ref0, tk_strs, rfz_tstr]
  rintro vs S - ⟨p3, q3, tk, hs3, hl3, hq3, rfl, rfl⟩
  refine W.seq_region fun K hK => ?_
  simp (disch := omega) only [↓RU, RV, RH, ↓reduceIte, Nat.reduceEqDiff, reduceCtorEq, if_pos, ↓RS, RG, Nat.reduceAdd, Nat.reduceMul, Nat.reduceLeDiff]
  refine hK _ _ ?_
  clear hK K
  refine W.ret ?_
  refine BodyQ.ret rfl ?_
  exact ⟨_, p3, q3, tk, rfl, hs3, hl3, hq3, take_all⟩

theorem l91Plain_ev {code : Txt} {q vr t : Nat} (hc : code.length ≤ 1048576) (hq : q ≤ 600000) {rows cols : Nat} (h1 : 1 ≤ rows) (h2 : rows ≤ 6) (w1 : 1 ≤ cols) (w2 : cols ≤ 6) : Ev Tryz.prog 97 [.ref 0 vr 0, .int .i64 rows, .int .i64 cols] ⟨[.arr vr 119 2 [eBy code, .int .i64 (q : Int)]], t⟩ fun v S => ∃ (p2 : List Txt) (q2 t2 : Nat), v = eStrs p2 ∧ Sm p2 ∧ p2.length ≤ 6 ∧ q2 ≤ q + 1000 ∧ S = ⟨[.arr vr 119 2 [eBy code, .int .i64 (q2 : Int)]], t2⟩ := by
  refine Ev.of ⟨Tryz.func97, by kernel_rfl, rfl, by kernel_rfl⟩ tabOk mixed (by show 3 ≤ Tryz.f97.ntmps; decide) ?_
  refine W.seq_region fun K hK => ?_
  simp (disch := omega) only [↓RU, RV, RH, ↓reduceIte, Nat.reduceEqDiff, reduceCtorEq, if_pos, ↓RS, RG, Nat.reduceAdd, Nat.reduceMul, Nat.reduceLeDiff]
  refine hK _ _ ?_
  clear hK K
  refine W.seq_region fun K hK => ?_
  simp (disch := omega) only [↓RU, RV, RH, ↓reduceIte, Nat.reduceEqDiff, reduceCtorEq, if_pos, List.append_nil, ↓RS, RG, Nat.reduceAdd, Nat.reduceMul, Nat.reduceLeDiff]
  refine CallR.ev (l91Some_ev (q := q) hc (by omega) h1 h2 w1 w2) ?_
  rintro _ _ ⟨p3, q3, t3, rfl, hs3, hl3, hq3, rfl⟩
  simp (disch := omega) only [↓RU, RV, RH, ↓reduceIte, Nat.reduceEqDiff, reduceCtorEq, if_pos, List.append_nil, ↓RS, RG, Nat.reduceAdd, Nat.reduceMul, Nat.reduceLeDiff]
  refine hK _ _ ?_
  clear hK K
  refine W.seq ?_
  refine W.seq_region fun K hK => ?_
  simp (disch := omega) only [↓RU, RV, RH, ↓reduceIte, Nat.reduceEqDiff, reduceCtorEq, if_pos, ↓RS, RG, Nat.reduceAdd, Nat.reduceMul, Nat.reduceLeDiff]
  refine hK _ _ ?_
  clear hK K
  refine W.block ?_
  refine W.loop [0, 1, 2, 7, 8] (fun n vs S => ∃ (i : Nat) (p2 : List Txt) (q2 tk : Nat), n = 3 - i ∧ i ≤ 3 ∧ Sm p2 ∧ p2.length ≤ 6 ∧ q2 ≤ q + 200 + 200 * i ∧ vs = [.ref 0 vr 0, .int .i64 rows, .int .i64 cols, eStrs p2, .int .i64 i] ∧ S = ⟨[.arr vr 119 2 [eBy code, .int .i64 (q2 : Int)]], tk⟩) 3 ?_ ?_
  · refine ⟨1, 0, p3, q3, t3, rfl, by omega, hs3, hl3, by omega, ?_, rfl⟩
    simp [Env.put, Env.of, argEnv]
  rintro n vs S - ⟨i, p2, q2, tk, rfl, h_i, hs2, hl2, hq2, rfl, rfl⟩
  refine W.seq ?_
  refine W.seq_region fun K hK => ?_
  by_cases hi3 : i < 3
  · skip
    have hd : decide ((i : Int) < 3) = true := decide_eq_true (by omega)
    simp (disch := omega) only [↓RU, RV, RH, ↓reduceIte, Nat.reduceEqDiff, reduceCtorEq, if_pos, w64, List.append_nil, ↓RS, RG, Nat.reduceAdd, Nat.reduceMul, Nat.reduceLeDiff, tyint, hd]
    refine CallR.pc (sWallPlain_pc hs2) rfl (.inl rfl) ?_
    simp (disch := omega) only [↓RU, RV, RH, ↓reduceIte, Nat.reduceEqDiff, reduceCtorEq, if_pos, w64, List.append_nil, ↓RS, RG, Nat.reduceAdd, Nat.reduceMul, Nat.reduceLeDiff, tyint, hd]
    refine hK _ _ ?_
    clear hK K
    refine W.cond rfl (fun h => ?_) (fun h => ?_)
    · try simp only [RL] at h
      refine W.skip ?_
      refine XThen.norm ?_
      refine W.seq ?_
      refine W.block ?_
      refine W.region_k fun K hK => ?_
      simp (disch := omega) only [↓RU, RV, RH, ↓reduceIte, Nat.reduceEqDiff, reduceCtorEq, if_pos, List.append_nil, ↓RS, RG, Nat.reduceAdd, Nat.reduceMul, Nat.reduceLeDiff]
      refine CallR.ev (l91Some_ev (q := q2) hc (by omega) h1 h2 w1 w2) ?_
      rintro _ _ ⟨p3, q3, t3, rfl, hs3, hl3, hq3, rfl⟩
      simp (disch := omega) only [↓RU, RV, RH, ↓reduceIte, Nat.reduceEqDiff, reduceCtorEq, if_pos, List.append_nil, ↓RS, RG, Nat.reduceAdd, Nat.reduceMul, Nat.reduceLeDiff]
      refine hK _ _ ?_
      clear hK K
      refine XBlock.norm ?_
      refine XThen.norm ?_
      refine W.region_k fun K hK => ?_
      simp (disch := omega) only [↓RU, RV, RH, ↓reduceIte, Nat.reduceEqDiff, reduceCtorEq, if_pos, w64, ↓RS, RG, Nat.reduceAdd, Nat.reduceMul, Nat.reduceLeDiff, tyint]
      refine hK _ _ ?_
      clear hK K
      refine XThen.norm ?_
      refine ⟨3 - (i + 1), by omega, 1, i + 1, p3, q3, t3, rfl, by omega, hs3, hl3, by omega, ?_, rfl⟩
      simp [Env.put, Env.of]
    · try simp only [RL] at h
      refine W.exit ?_
      refine XThen.exit ?_
      refine XThen.exit ?_
      refine XBlock.hit ?_
      refine XThen.norm ?_
      refine W.seq_region fun K hK => ?_
      simp (disch := omega) only [↓RU, RV, RH, ↓reduceIte, Nat.reduceEqDiff, reduceCtorEq, if_pos, ↓RS, RG, Nat.reduceAdd, Nat.reduceMul, Nat.reduceLeDiff]
      refine hK _ _ ?_
      clear hK K
      refine W.ret ?_
      refine BodyQ.ret rfl ?_
      exact ⟨_, p2, q2, tk, rfl, hs2, hl2, by omega, take_all⟩
  · skip
    have hd : decide ((i : Int) < 3) = false := decide_eq_false (by omega)
    simp (disch := omega) only [↓RU, RV, RH, ↓reduceIte, Nat.reduceEqDiff, reduceCtorEq, if_pos, w64, List.append_nil, ↓RS, RG, Nat.reduceAdd, Nat.reduceMul, Nat.reduceLeDiff, tyint, hd]
    refine hK _ _ ?_
    clear hK K
    refine W.cond rfl (fun h => ?_) (fun h => ?_)
    · try simp only [RL] at h
      exact absurd h (by simp)
    · try simp only [RL] at h
      refine W.exit ?_
      refine XThen.exit ?_
      refine XThen.exit ?_
      refine XBlock.hit ?_
      refine XThen.norm ?_
      refine W.seq_region fun K hK => ?_
      simp (disch := omega) only [↓RU, RV, RH, ↓reduceIte, Nat.reduceEqDiff, reduceCtorEq, if_pos, ↓RS, RG, Nat.reduceAdd, Nat.reduceMul, Nat.reduceLeDiff]
      refine hK _ _ ?_
      clear hK K
      refine W.ret ?_
      refine BodyQ.ret rfl ?_
      exact ⟨_, p2, q2, tk, rfl, hs2, hl2, by omega, take_all⟩

end Fw
end Go.Proofs.YtcglmbijpjhbmaaGreat

/-! Drawing needs, gone through. -/
namespace Go.Proofs.YtcglmbijpjhbmaaGreat
namespace Fw
open Go

theorem tdiv39 {k : Nat} : ((k : Nat) : Int).tdiv 39 = ((k / 39 : Nat) : Int) := (Int.ofNat_tdiv k 39).symm
theorem tdiv59 {k : Nat} : ((k : Nat) : Int).tdiv 59 = ((k / 59 : Nat) : Int) := (Int.ofNat_tdiv k 59).symm
theorem tw39 : ((39 : Int) = 0) = False := by simp
theorem tw59 : ((59 : Int) = 0) = False := by simp
theorem tk_ints {l : List Int} {q : IntKind} : (l.map (PV.int q)).take l.length = l.map (.int q) := List.take_of_length_le (by simp)
theorem tk_i {l : List Int} {q : IntKind} {i : Nat} (h : l.length = i) : (l.map (PV.int q)).take i = l.map (.int q) := List.take_of_length_le (by simp [h])

theorem l92Needs_ev {code : Txt} {q vr t : Nat} (hc : code.length ≤ 1048576) (hq : q ≤ 700000) {p : List Txt} (hs : Sm p) : Ev Tryz.prog 99 [.ref 0 vr 0, eStrs p] ⟨[.arr vr 119 2 [eBy code, .int .i64 (q : Int)]], t⟩ fun v S => ∃ (l : List Int) (q2 t2 v1 : Nat), v = .loc 1 v1 0 l.length ∧ l.length ≤ 400 ∧ q2 ≤ q + 1000 ∧ S = ⟨[.arr vr 119 2 [eBy code, .int .i64 (q2 : Int)], .arr v1 3 1 (l.map (.int .i64))], t2⟩ := by
  have hrb := l1Rooms_bound p
  refine Ev.of ⟨Tryz.func99, by kernel_rfl, rfl, by kernel_rfl⟩ tabOk mixed (by show 2 ≤ Tryz.f99.ntmps; decide) ?_
  refine W.seq_region fun K hK => ?_
  simp (disch := omega) only [↓RU, RV, RH, ↓reduceIte, Nat.reduceEqDiff, reduceCtorEq, if_pos, ↓RS, RG, Nat.reduceAdd, Nat.reduceMul, Nat.reduceLeDiff]
  refine hK _ _ ?_
  clear hK K
  refine W.seq_region fun K hK => ?_
  simp (disch := omega) only [↓RU, RV, RH, ↓reduceIte, Nat.reduceEqDiff, reduceCtorEq, if_pos, ↓RS, RG, Nat.reduceAdd, Nat.reduceMul, Nat.reduceLeDiff, tyLint, tyint]
  refine hK _ _ ?_
  clear hK K
  refine W.seq_region fun K hK => ?_
  simp (disch := omega) only [↓RU, RV, RH, ↓reduceIte, Nat.reduceEqDiff, reduceCtorEq, if_pos, List.append_nil, w64, ↓RS, RG, Nat.reduceAdd, Nat.reduceMul, Nat.reduceLeDiff, tyint]
  refine CallR.pc (l1Rooms_pc hs) rfl (.inl rfl) ?_
  simp (disch := omega) only [↓RU, RV, RH, ↓reduceIte, Nat.reduceEqDiff, reduceCtorEq, if_pos, List.append_nil, w64, ↓RS, RG, Nat.reduceAdd, Nat.reduceMul, Nat.reduceLeDiff, tyint]
  refine CallR.ev (pick_ev (q := q) hc (by omega) 40 (by omega) (by omega)) ?_
  rintro _ _ ⟨k0, rfl, hk0z, hk0, rfl⟩
  have hk0b := hk0 (by omega)
  simp (disch := omega) only [↓RU, RV, RH, ↓reduceIte, Nat.reduceEqDiff, reduceCtorEq, if_pos, List.append_nil, w64, ↓RS, RG, Nat.reduceAdd, Nat.reduceMul, Nat.reduceLeDiff, tyint, tdiv39, tw39, tdiv59, tw59]
  refine hK _ _ ?_
  clear hK K
  obtain ⟨N, hN⟩ : ∃ N : Nat, l1Rooms p + ((k0 / 39 : Nat) : Int) = N := ⟨(l1Rooms p + ((k0 / 39 : Nat) : Int)).toNat, by omega⟩
  have hN2 : N ≤ 300 := by omega
  simp only [hN]
  refine W.seq ?_
  refine W.seq_region fun K hK => ?_
  simp (disch := omega) only [↓RU, RV, RH, ↓reduceIte, Nat.reduceEqDiff, reduceCtorEq, if_pos, ↓RS, RG, Nat.reduceAdd, Nat.reduceMul, Nat.reduceLeDiff]
  refine hK _ _ ?_
  clear hK K
  refine W.block ?_
  refine W.loop [0, 1, 5, 6, 7] (fun n vs S => ∃ (i q2 v1 t2 : Nat) (l : List Int), n = N - i ∧ i ≤ N ∧ l.length = i ∧ q2 ≤ q + 1 + 2 * i ∧ vs = [.ref 0 vr 0, eStrs p, .loc 1 v1 0 i, .int .i64 N, .int .i64 i] ∧ S = ⟨[.arr vr 119 2 [eBy code, .int .i64 (q2 : Int)], .arr v1 3 1 (l.map (.int .i64))], t2⟩) N ?_ ?_
  · refine ⟨2, 0, q + 1, t, t + 1, [], rfl, by omega, rfl, by omega, ?_, rfl⟩
    simp [Env.put, Env.of, argEnv]
  rintro n vs S - ⟨i, q2, v1, t2, l, rfl, h_i, hll, hq2, rfl, rfl⟩
  refine W.seq ?_
  refine W.seq_region fun K hK => ?_
  simp (disch := omega) only [↓RU, RV, RH, ↓reduceIte, Nat.reduceEqDiff, reduceCtorEq, if_pos, w64, ↓RS, RG, Nat.reduceAdd, Nat.reduceMul, Nat.reduceLeDiff, tyint]
  refine hK _ _ ?_
  clear hK K
  refine W.cond rfl (fun h => ?_) (fun h => ?_)
  · try simp only [RL] at h
    refine W.skip ?_
    refine XThen.norm ?_
    refine W.seq ?_
    refine W.block ?_
    refine W.region_k fun K hK => ?_
    simp (disch := omega) only [↓RU, RV, RH, ↓reduceIte, Nat.reduceEqDiff, reduceCtorEq, if_pos, List.append_nil, w64, ↓RS, RG, Nat.reduceAdd, Nat.reduceMul, Nat.reduceLeDiff, tyLint, tyint, tk_i hll]
    refine CallR.ev (pick_ev (q := q2) hc (by omega) 6 (by omega) (by omega)) ?_
    rintro _ _ ⟨k1, rfl, hk1z, hk1, rfl⟩
    have hk1b := hk1 (by omega)
    simp (disch := omega) only [↓RU, RV, RH, ↓reduceIte, Nat.reduceEqDiff, reduceCtorEq, if_pos, List.append_nil, w64, ↓RS, RG, Nat.reduceAdd, Nat.reduceMul, Nat.reduceLeDiff, tyLint, tyint, tk_i hll, tdiv39, tw39, tdiv59, tw59]
    refine CallR.ev (pick_ev (q := q2 + 1) hc (by omega) 60 (by omega) (by omega)) ?_
    rintro _ _ ⟨k2, rfl, hk2z, hk2, rfl⟩
    have hk2b := hk2 (by omega)
    simp (disch := omega) only [↓RU, RV, RH, ↓reduceIte, Nat.reduceEqDiff, reduceCtorEq, if_pos, List.append_nil, w64, ↓RS, RG, Nat.reduceAdd, Nat.reduceMul, Nat.reduceLeDiff, tyLint, tyint, tk_i hll, tdiv39, tw39, tdiv59, tw59]
    refine hK _ _ ?_
    clear hK K
    refine XBlock.norm ?_
    refine XThen.norm ?_
    refine W.region_k fun K hK => ?_
    simp (disch := omega) only [↓RU, RV, RH, ↓reduceIte, Nat.reduceEqDiff, reduceCtorEq, if_pos, w64, ↓RS, RG, Nat.reduceAdd, Nat.reduceMul, Nat.reduceLeDiff, tyint]
    refine hK _ _ ?_
    clear hK K
    refine XThen.norm ?_
    refine ⟨N - (i + 1), by omega, 2, i + 1, q2 + 1 + 1, t2 + 1, t2 + 2, l ++ [1 + (k1 : Int) + ((k2 / 59 : Nat) : Int) * 9], rfl, by omega, by simp [hll], by omega, ?_, ?_⟩
    all_goals simp [Env.put, Env.of, take_eq, tk_le, hll, tk_i hll]
  · try simp only [RL] at h
    obtain rfl : i = N := by omega
    refine W.exit ?_
    refine XThen.exit ?_
    refine XThen.exit ?_
    refine XBlock.hit ?_
    refine XThen.norm ?_
    refine W.seq_region fun K hK => ?_
    simp (disch := omega) only [↓RU, RV, RH, ↓reduceIte, Nat.reduceEqDiff, reduceCtorEq, if_pos, ↓RS, RG, Nat.reduceAdd, Nat.reduceMul, Nat.reduceLeDiff]
    refine hK _ _ ?_
    clear hK K
    refine W.ret ?_
    refine BodyQ.ret rfl ?_
    exact ⟨_, l, q2, t2, v1, by rw [hll]; rfl, by omega, by omega, take_all⟩

theorem l92Sized_ev {code : Txt} (hc : code.length ≤ 1048576) : Ev Tryz.prog 68 [eBy code] ⟨[], 0⟩ fun v S => ∃ (p : List Txt) (ws : List Int) (t : Nat), Sm p ∧ ws.length ≤ 400 ∧ v = .tup [eStrs p, eInts ws] ∧ S = ⟨[], t⟩ := by
  refine Ev.of ⟨Tryz.func68, by kernel_rfl, rfl, by kernel_rfl⟩ tabOk mixed (by show 1 ≤ Tryz.f68.ntmps; decide) ?_
  refine W.seq_region fun K hK => ?_
  simp (disch := omega) only [↓RU, RV, RH, ↓reduceIte, Nat.reduceEqDiff, reduceCtorEq, if_pos, ↓RS, RG, Nat.reduceAdd, Nat.reduceMul, Nat.reduceLeDiff]
  refine hK _ _ ?_
  clear hK K
  refine W.seq_region fun K hK => ?_
  simp (disch := omega) only [↓RU, RV, RH, ↓reduceIte, Nat.reduceEqDiff, reduceCtorEq, if_pos, List.append_nil, ↓RS, RG, Nat.reduceAdd, Nat.reduceMul, Nat.reduceLeDiff, rdO]
  refine CallR.pn (l6Open_pn hc) rfl (.inr rfl) ?_
  simp (disch := omega) only [↓RU, RV, RH, ↓reduceIte, Nat.reduceEqDiff, reduceCtorEq, if_pos, List.append_nil, ↓RS, RG, Nat.reduceAdd, Nat.reduceMul, Nat.reduceLeDiff, rdO, rdO, RN]
  refine hK _ _ ?_
  clear hK K
  refine W.seq_region fun K hK => ?_
  have hc2 : (code.take 2000).length ≤ 1048576 := by rw [List.length_take]; omega
  generalize code.take 2000 = code2 at hc2 ⊢
  simp (disch := omega) only [↓RU, RV, RH, ↓reduceIte, Nat.reduceEqDiff, reduceCtorEq, if_pos, List.append_nil, ↓RS, RG, Nat.reduceAdd, Nat.reduceMul, Nat.reduceLeDiff]
  refine CallR.ev (l91Plain_ev (q := 0) (code := code2) hc2 (by omega) (rows := 5) (cols := 5) (by omega) (by omega) (by omega) (by omega)) ?_
  rintro _ _ ⟨p, q, t, rfl, hs, hl, hq, rfl⟩
  simp (disch := omega) only [↓RU, RV, RH, ↓reduceIte, Nat.reduceEqDiff, reduceCtorEq, if_pos, List.append_nil, ↓RS, RG, Nat.reduceAdd, Nat.reduceMul, Nat.reduceLeDiff]
  refine hK _ _ ?_
  clear hK K
  refine W.joinZ [2, 3] (fun vs S => ∃ (ws : List Int) (tk : Nat), ws.length ≤ 400 ∧ vs = [eStrs p, eInts ws] ∧ S = ⟨[], tk⟩) ?_ ?_
  ·
    refine W.region_k fun K hK => ?_
    simp (disch := omega) only [↓RU, RV, RH, ↓reduceIte, Nat.reduceEqDiff, reduceCtorEq, if_pos, List.append_nil, ↓RS, RG, Nat.reduceAdd, Nat.reduceMul, Nat.reduceLeDiff]
    refine CallR.ev (l92Needs_ev (q := q) hc2 (by omega) hs) ?_
    rintro _ _ ⟨ws, q2, t2, v1, rfl, hwsl, hq2, rfl⟩
    simp (disch := omega) only [↓RU, RV, RH, ↓reduceIte, Nat.reduceEqDiff, reduceCtorEq, if_pos, List.append_nil, ↓RS, RG, Nat.reduceAdd, Nat.reduceMul, Nat.reduceLeDiff]
    refine hK _ _ ?_
    clear hK K
    refine XThen.norm ?_
    refine ⟨0, [eStrs p, eInts ws], ⟨[], t2⟩, ?_, ?_, ws, t2, hwsl, rfl, rfl⟩
    · simp [-List.mapM_map, Store.frz, frzObs, frzOb, frz_eInts, frz_loc, rfz_loc, frz_int, frz_sl, frz_ints, rfz_ints, frz_strs, frz_bytes, rfz_bytes, rfz_str, rfz_bool, frz_str, frz_bool, Env.put, Env.of, argEnv, rfz_int, List.mapM_append, List.mapM_cons, frz_ref0, tk_strs, rfz_tstr, tk_ints, ← frz_eInts]
    · simp [-List.mapM_map, Store.frz, frzObs, frzOb, frz_eInts, frz_loc, rfz_loc, frz_int, frz_sl, frz_ints, rfz_ints, frz_strs, frz_bytes, rfz_bytes, rfz_str, rfz_bool, frz_str, frz_bool, Env.put, Env.of, argEnv, rfz_int, List.mapM_append, List.mapM_cons, frz_ref0, tk_strs, rfz_tstr, tk_ints]
  rintro vs S - ⟨ws, tk, hwsl, rfl, rfl⟩
  refine W.ret ?_
  refine BodyQ.ret rfl ?_
  exact ⟨0, p, ws, tk, hs, hwsl, rfl, rfl⟩

theorem l92Shaped_ev {code : Txt} (hc : code.length ≤ 1048576) : Ev Tryz.prog 61 [eBy code] ⟨[], 0⟩ fun v S => ∃ (p : List Txt) (ws ht : List Int) (t : Nat), Sm p ∧ ws.length ≤ 400 ∧ ht.length ≤ 400 ∧ v = .tup [eStrs p, eInts ws, eInts ht] ∧ S = ⟨[], t⟩ := by
  refine Ev.of ⟨Tryz.func61, by kernel_rfl, rfl, by kernel_rfl⟩ tabOk mixed (by show 1 ≤ Tryz.f61.ntmps; decide) ?_
  refine W.seq_region fun K hK => ?_
  simp (disch := omega) only [↓RU, RV, RH, ↓reduceIte, Nat.reduceEqDiff, reduceCtorEq, if_pos, ↓RS, RG, Nat.reduceAdd, Nat.reduceMul, Nat.reduceLeDiff]
  refine hK _ _ ?_
  clear hK K
  refine W.seq_region fun K hK => ?_
  simp (disch := omega) only [↓RU, RV, RH, ↓reduceIte, Nat.reduceEqDiff, reduceCtorEq, if_pos, List.append_nil, ↓RS, RG, Nat.reduceAdd, Nat.reduceMul, Nat.reduceLeDiff, rdO]
  refine CallR.pn (l6Open_pn hc) rfl (.inr rfl) ?_
  simp (disch := omega) only [↓RU, RV, RH, ↓reduceIte, Nat.reduceEqDiff, reduceCtorEq, if_pos, List.append_nil, ↓RS, RG, Nat.reduceAdd, Nat.reduceMul, Nat.reduceLeDiff, rdO, rdO, RN]
  refine hK _ _ ?_
  clear hK K
  refine W.seq_region fun K hK => ?_
  have hc2 : (code.take 2000).length ≤ 1048576 := by rw [List.length_take]; omega
  generalize code.take 2000 = code2 at hc2 ⊢
  simp (disch := omega) only [↓RU, RV, RH, ↓reduceIte, Nat.reduceEqDiff, reduceCtorEq, if_pos, List.append_nil, ↓RS, RG, Nat.reduceAdd, Nat.reduceMul, Nat.reduceLeDiff]
  refine CallR.ev (l91Plain_ev (q := 0) (code := code2) hc2 (by omega) (rows := 3) (cols := 4) (by omega) (by omega) (by omega) (by omega)) ?_
  rintro _ _ ⟨p, q, t, rfl, hs, hl, hq, rfl⟩
  simp (disch := omega) only [↓RU, RV, RH, ↓reduceIte, Nat.reduceEqDiff, reduceCtorEq, if_pos, List.append_nil, ↓RS, RG, Nat.reduceAdd, Nat.reduceMul, Nat.reduceLeDiff]
  refine hK _ _ ?_
  clear hK K
  refine W.seq ?_
  refine W.seq_region fun K hK => ?_
  simp (disch := omega) only [↓RU, RV, RH, ↓reduceIte, Nat.reduceEqDiff, reduceCtorEq, if_pos, ↓RS, RG, Nat.reduceAdd, Nat.reduceMul, Nat.reduceLeDiff]
  refine hK _ _ ?_
  clear hK K
  refine W.block ?_
  refine W.loop [5, 6, 7] (fun n vs S => ∃ (i : Nat) (p2 : List Txt) (q2 tk : Nat), n = 3 - i ∧ i ≤ 3 ∧ Sm p2 ∧ q2 ≤ 1000 + 1000 * i ∧ vs = [.ref 0 0 0, eStrs p2, .int .i64 i] ∧ S = ⟨[.arr 0 119 2 [eBy code2, .int .i64 (q2 : Int)]], tk⟩) 3 ?_ ?_
  · refine ⟨1, 0, p, q, t, rfl, by omega, hs, by omega, ?_, rfl⟩
    simp [Env.put, Env.of, argEnv]
  rintro n vs S - ⟨i, p2, q2, tk, rfl, h_i, hs2, hq2, rfl, rfl⟩
  refine W.seq ?_
  refine W.seq_region fun K hK => ?_
  by_cases hi3 : i < 3
  · skip
    have hd : decide ((i : Int) < 3) = true := decide_eq_true (by omega)
    simp (disch := omega) only [↓RU, RV, RH, ↓reduceIte, Nat.reduceEqDiff, reduceCtorEq, if_pos, w64, List.append_nil, ↓RS, RG, Nat.reduceAdd, Nat.reduceMul, Nat.reduceLeDiff, tyint, hd]
    refine CallR.pc (l1Rooms_pc hs2) rfl (.inl rfl) ?_
    simp (disch := omega) only [↓RU, RV, RH, ↓reduceIte, Nat.reduceEqDiff, reduceCtorEq, if_pos, w64, List.append_nil, ↓RS, RG, Nat.reduceAdd, Nat.reduceMul, Nat.reduceLeDiff, tyint, hd]
    refine hK _ _ ?_
    clear hK K
    refine W.cond rfl (fun h => ?_) (fun h => ?_)
    · try simp only [RL] at h
      refine W.skip ?_
      refine XThen.norm ?_
      refine W.seq ?_
      refine W.block ?_
      refine W.region_k fun K hK => ?_
      simp (disch := omega) only [↓RU, RV, RH, ↓reduceIte, Nat.reduceEqDiff, reduceCtorEq, if_pos, List.append_nil, ↓RS, RG, Nat.reduceAdd, Nat.reduceMul, Nat.reduceLeDiff]
      refine CallR.ev (l91Plain_ev (q := q2) (code := code2) hc2 (by omega) (rows := 3) (cols := 3) (by omega) (by omega) (by omega) (by omega)) ?_
      rintro _ _ ⟨p3, q3, t3, rfl, hs3, hl3, hq3, rfl⟩
      simp (disch := omega) only [↓RU, RV, RH, ↓reduceIte, Nat.reduceEqDiff, reduceCtorEq, if_pos, List.append_nil, ↓RS, RG, Nat.reduceAdd, Nat.reduceMul, Nat.reduceLeDiff]
      refine hK _ _ ?_
      clear hK K
      refine XBlock.norm ?_
      refine XThen.norm ?_
      refine W.region_k fun K hK => ?_
      simp (disch := omega) only [↓RU, RV, RH, ↓reduceIte, Nat.reduceEqDiff, reduceCtorEq, if_pos, w64, ↓RS, RG, Nat.reduceAdd, Nat.reduceMul, Nat.reduceLeDiff, tyint]
      refine hK _ _ ?_
      clear hK K
      refine XThen.norm ?_
      have hq9 : q3 ≤ 1000 + 1000 * (i + 1) := Nat.le_trans hq3 (Nat.le_trans (Nat.add_le_add_right hq2 1000) (Nat.le_of_eq (by rw [Nat.mul_succ, Nat.add_assoc])))
      refine ⟨3 - (i + 1), by omega, 1, i + 1, p3, q3, t3, rfl, by omega, hs3, hq9, ?_, rfl⟩
      simp [Env.put, Env.of]
    · try simp only [RL] at h
      refine W.exit ?_
      refine XThen.exit ?_
      refine XThen.exit ?_
      refine XBlock.hit ?_
      refine XThen.norm ?_
      refine W.joinZ [5, 6, 8] (fun vs S => ∃ (ws : List Int) (q3 tk : Nat), ws.length ≤ 400 ∧ q3 ≤ 6000 ∧ vs = [.ref 0 0 0, eStrs p2, eInts ws] ∧ S = ⟨[.arr 0 119 2 [eBy code2, .int .i64 (q3 : Int)]], tk⟩) ?_ ?_
      ·
        refine W.region_k fun K hK => ?_
        simp (disch := omega) only [↓RU, RV, RH, ↓reduceIte, Nat.reduceEqDiff, reduceCtorEq, if_pos, List.append_nil, ↓RS, RG, Nat.reduceAdd, Nat.reduceMul, Nat.reduceLeDiff]
        refine CallR.ev (l92Needs_ev (q := q2) hc2 (by omega) hs2) ?_
        rintro _ _ ⟨ws, qa, ta, v1, rfl, hwsl, hqa, rfl⟩
        simp (disch := omega) only [↓RU, RV, RH, ↓reduceIte, Nat.reduceEqDiff, reduceCtorEq, if_pos, List.append_nil, ↓RS, RG, Nat.reduceAdd, Nat.reduceMul, Nat.reduceLeDiff]
        refine hK _ _ ?_
        clear hK K
        refine XThen.norm ?_
        refine ⟨1, [.ref 0 0 0, eStrs p2, eInts ws], ⟨[.arr 0 119 2 [eBy code2, .int .i64 (qa : Int)]], ta⟩, ?_, ?_, ws, qa, ta, hwsl, by omega, rfl, rfl⟩
        · simp [-List.mapM_map, Store.frz, frzObs, frzOb, frz_eInts, frz_loc, rfz_loc, frz_int, frz_sl, frz_ints, rfz_ints, frz_strs, frz_bytes, rfz_bytes, rfz_str, rfz_bool, frz_str, frz_bool, Env.put, Env.of, argEnv, rfz_int, List.mapM_append, List.mapM_cons, frz_ref0, tk_strs, rfz_tstr, tk_ints, ← frz_eInts]
        · simp [-List.mapM_map, Store.frz, frzObs, frzOb, frz_eInts, frz_loc, rfz_loc, frz_int, frz_sl, frz_ints, rfz_ints, frz_strs, frz_bytes, rfz_bytes, rfz_str, rfz_bool, frz_str, frz_bool, Env.put, Env.of, argEnv, rfz_int, List.mapM_append, List.mapM_cons, frz_ref0, tk_strs, rfz_tstr, tk_ints]
      rintro vs S - ⟨ws, qb, tk, hwsl, hqb, rfl, rfl⟩
      refine W.joinZ [2, 3, 4] (fun vs S => ∃ (ht : List Int) (tk : Nat), ht.length ≤ 400 ∧ vs = [eStrs p2, eInts ws, eInts ht] ∧ S = ⟨[], tk⟩) ?_ ?_
      ·
        refine W.region_k fun K hK => ?_
        simp (disch := omega) only [↓RU, RV, RH, ↓reduceIte, Nat.reduceEqDiff, reduceCtorEq, if_pos, List.append_nil, ↓RS, RG, Nat.reduceAdd, Nat.reduceMul, Nat.reduceLeDiff]
        refine CallR.ev (l92Needs_ev (q := qb) hc2 (by omega) hs2) ?_
        rintro _ _ ⟨ht, qc, tc, v2, rfl, hhtl, hqc, rfl⟩
        simp (disch := omega) only [↓RU, RV, RH, ↓reduceIte, Nat.reduceEqDiff, reduceCtorEq, if_pos, List.append_nil, ↓RS, RG, Nat.reduceAdd, Nat.reduceMul, Nat.reduceLeDiff]
        refine hK _ _ ?_
        clear hK K
        refine XThen.norm ?_
        refine ⟨0, [eStrs p2, eInts ws, eInts ht], ⟨[], tc⟩, ?_, ?_, ht, tc, hhtl, rfl, rfl⟩
        · simp [-List.mapM_map, Store.frz, frzObs, frzOb, frz_eInts, frz_loc, rfz_loc, frz_int, frz_sl, frz_ints, rfz_ints, frz_strs, frz_bytes, rfz_bytes, rfz_str, rfz_bool, frz_str, frz_bool, Env.put, Env.of, argEnv, rfz_int, List.mapM_append, List.mapM_cons, frz_ref0, tk_strs, rfz_tstr, tk_ints, ← frz_eInts]
        · simp [-List.mapM_map, Store.frz, frzObs, frzOb, frz_eInts, frz_loc, rfz_loc, frz_int, frz_sl, frz_ints, rfz_ints, frz_strs, frz_bytes, rfz_bytes, rfz_str, rfz_bool, frz_str, frz_bool, Env.put, Env.of, argEnv, rfz_int, List.mapM_append, List.mapM_cons, frz_ref0, tk_strs, rfz_tstr, tk_ints]
      rintro vs S - ⟨ht, tk, hhtl, rfl, rfl⟩
      refine W.ret ?_
      refine BodyQ.ret rfl ?_
      exact ⟨0, p2, ws, ht, tk, hs2, hwsl, hhtl, rfl, rfl⟩
  · skip
    have hd : decide ((i : Int) < 3) = false := decide_eq_false (by omega)
    simp (disch := omega) only [↓RU, RV, RH, ↓reduceIte, Nat.reduceEqDiff, reduceCtorEq, if_pos, w64, List.append_nil, ↓RS, RG, Nat.reduceAdd, Nat.reduceMul, Nat.reduceLeDiff, tyint, hd]
    refine hK _ _ ?_
    clear hK K
    refine W.cond rfl (fun h => ?_) (fun h => ?_)
    · try simp only [RL] at h
      exact absurd h (by simp)
    · try simp only [RL] at h
      refine W.exit ?_
      refine XThen.exit ?_
      refine XThen.exit ?_
      refine XBlock.hit ?_
      refine XThen.norm ?_
      refine W.joinZ [5, 6, 8] (fun vs S => ∃ (ws : List Int) (q3 tk : Nat), ws.length ≤ 400 ∧ q3 ≤ 6000 ∧ vs = [.ref 0 0 0, eStrs p2, eInts ws] ∧ S = ⟨[.arr 0 119 2 [eBy code2, .int .i64 (q3 : Int)]], tk⟩) ?_ ?_
      ·
        refine W.region_k fun K hK => ?_
        simp (disch := omega) only [↓RU, RV, RH, ↓reduceIte, Nat.reduceEqDiff, reduceCtorEq, if_pos, List.append_nil, ↓RS, RG, Nat.reduceAdd, Nat.reduceMul, Nat.reduceLeDiff]
        refine CallR.ev (l92Needs_ev (q := q2) hc2 (by omega) hs2) ?_
        rintro _ _ ⟨ws, qa, ta, v1, rfl, hwsl, hqa, rfl⟩
        simp (disch := omega) only [↓RU, RV, RH, ↓reduceIte, Nat.reduceEqDiff, reduceCtorEq, if_pos, List.append_nil, ↓RS, RG, Nat.reduceAdd, Nat.reduceMul, Nat.reduceLeDiff]
        refine hK _ _ ?_
        clear hK K
        refine XThen.norm ?_
        refine ⟨1, [.ref 0 0 0, eStrs p2, eInts ws], ⟨[.arr 0 119 2 [eBy code2, .int .i64 (qa : Int)]], ta⟩, ?_, ?_, ws, qa, ta, hwsl, by omega, rfl, rfl⟩
        · simp [-List.mapM_map, Store.frz, frzObs, frzOb, frz_eInts, frz_loc, rfz_loc, frz_int, frz_sl, frz_ints, rfz_ints, frz_strs, frz_bytes, rfz_bytes, rfz_str, rfz_bool, frz_str, frz_bool, Env.put, Env.of, argEnv, rfz_int, List.mapM_append, List.mapM_cons, frz_ref0, tk_strs, rfz_tstr, tk_ints, ← frz_eInts]
        · simp [-List.mapM_map, Store.frz, frzObs, frzOb, frz_eInts, frz_loc, rfz_loc, frz_int, frz_sl, frz_ints, rfz_ints, frz_strs, frz_bytes, rfz_bytes, rfz_str, rfz_bool, frz_str, frz_bool, Env.put, Env.of, argEnv, rfz_int, List.mapM_append, List.mapM_cons, frz_ref0, tk_strs, rfz_tstr, tk_ints]
      rintro vs S - ⟨ws, qb, tk, hwsl, hqb, rfl, rfl⟩
      refine W.joinZ [2, 3, 4] (fun vs S => ∃ (ht : List Int) (tk : Nat), ht.length ≤ 400 ∧ vs = [eStrs p2, eInts ws, eInts ht] ∧ S = ⟨[], tk⟩) ?_ ?_
      ·
        refine W.region_k fun K hK => ?_
        simp (disch := omega) only [↓RU, RV, RH, ↓reduceIte, Nat.reduceEqDiff, reduceCtorEq, if_pos, List.append_nil, ↓RS, RG, Nat.reduceAdd, Nat.reduceMul, Nat.reduceLeDiff]
        refine CallR.ev (l92Needs_ev (q := qb) hc2 (by omega) hs2) ?_
        rintro _ _ ⟨ht, qc, tc, v2, rfl, hhtl, hqc, rfl⟩
        simp (disch := omega) only [↓RU, RV, RH, ↓reduceIte, Nat.reduceEqDiff, reduceCtorEq, if_pos, List.append_nil, ↓RS, RG, Nat.reduceAdd, Nat.reduceMul, Nat.reduceLeDiff]
        refine hK _ _ ?_
        clear hK K
        refine XThen.norm ?_
        refine ⟨0, [eStrs p2, eInts ws, eInts ht], ⟨[], tc⟩, ?_, ?_, ht, tc, hhtl, rfl, rfl⟩
        · simp [-List.mapM_map, Store.frz, frzObs, frzOb, frz_eInts, frz_loc, rfz_loc, frz_int, frz_sl, frz_ints, rfz_ints, frz_strs, frz_bytes, rfz_bytes, rfz_str, rfz_bool, frz_str, frz_bool, Env.put, Env.of, argEnv, rfz_int, List.mapM_append, List.mapM_cons, frz_ref0, tk_strs, rfz_tstr, tk_ints, ← frz_eInts]
        · simp [-List.mapM_map, Store.frz, frzObs, frzOb, frz_eInts, frz_loc, rfz_loc, frz_int, frz_sl, frz_ints, rfz_ints, frz_strs, frz_bytes, rfz_bytes, rfz_str, rfz_bool, frz_str, frz_bool, Env.put, Env.of, argEnv, rfz_int, List.mapM_append, List.mapM_cons, frz_ref0, tk_strs, rfz_tstr, tk_ints]
      rintro vs S - ⟨ht, tk, hhtl, rfl, rfl⟩
      refine W.ret ?_
      refine BodyQ.ret rfl ?_
      exact ⟨0, p2, ws, ht, tk, hs2, hwsl, hhtl, rfl, rfl⟩

theorem drawShapeTurned_ev {code : Txt} (hc : code.length ≤ 1048576) : Ev Tryz.prog 32 [eBy code] ⟨[], 0⟩ fun v S => ∃ (p : List Txt) (ws ht : List Int) (t : Nat), Sm p ∧ ws.length ≤ 400 ∧ ht.length ≤ 400 ∧ v = .tup [eStrs p, eInts ws, eInts ht] ∧ S = ⟨[], t⟩ := by
  refine Ev.of ⟨Tryz.func32, by kernel_rfl, rfl, by kernel_rfl⟩ tabOk mixed (by show 1 ≤ Tryz.f32.ntmps; decide) ?_
  refine W.seq_region fun K hK => ?_
  simp (disch := omega) only [↓RU, RV, RH, ↓reduceIte, Nat.reduceEqDiff, reduceCtorEq, if_pos, ↓RS, RG, Nat.reduceAdd, Nat.reduceMul, Nat.reduceLeDiff]
  refine hK _ _ ?_
  clear hK K
  refine W.seq_region fun K hK => ?_
  simp (disch := omega) only [↓RU, RV, RH, ↓reduceIte, Nat.reduceEqDiff, reduceCtorEq, if_pos, List.append_nil, ↓RS, RG, Nat.reduceAdd, Nat.reduceMul, Nat.reduceLeDiff]
  refine CallR.ev (l92Shaped_ev hc) ?_
  rintro _ _ ⟨p, ws, ht, t, hs, hwsl, hhtl, rfl, rfl⟩
  simp (disch := omega) only [↓RU, RV, RH, ↓reduceIte, Nat.reduceEqDiff, reduceCtorEq, if_pos, List.append_nil, ↓RS, RG, Nat.reduceAdd, Nat.reduceMul, Nat.reduceLeDiff]
  refine hK _ _ ?_
  clear hK K
  refine W.ret ?_
  refine BodyQ.ret rfl ?_
  exact ⟨0, p, ws, ht, _, hs, hwsl, hhtl, rfl, rfl⟩

end Fw
end Go.Proofs.YtcglmbijpjhbmaaGreat

/-! Sizes by the program, gone through. -/
namespace Go.Proofs.YtcglmbijpjhbmaaGreat
namespace Fw
open Go

theorem needing_ev {p : List Txt} (hs : Sm p) {wss : List (List Int)} (hn : wss.length ≤ 1000) (hw : ∀ ws ∈ wss, ws.length ≤ 1048576) {wv t : Nat} : Ev Tryz.prog 64 [eStrs p, .loc 0 wv 0 wss.length] ⟨[.arr wv 24 1 (wss.map eInts)], t⟩ fun v S => ∃ x, v = .tup [x, .bool (needV p wss)] ∧ ((needV p wss) = true → x = eFloor (gP p) (rP p)) ∧ S = ⟨[.arr wv 24 1 (wss.map eInts)], t⟩ := by
  obtain ⟨x, hx, hxy, hxr⟩ := plainOf_ex hs
  refine Ev.of ⟨Tryz.func64, by kernel_rfl, rfl, by kernel_rfl⟩ tabOk mixed (by show 2 ≤ Tryz.f64.ntmps; decide) ?_
  refine W.seq_region fun K hK => ?_
  simp (disch := omega) only [↓RU, RV, RH, ↓reduceIte, Nat.reduceEqDiff, reduceCtorEq, if_pos, ↓RS, RG, Nat.reduceAdd, Nat.reduceMul, Nat.reduceLeDiff]
  refine hK _ _ ?_
  clear hK K
  refine W.seq_region fun K hK => ?_
  simp (disch := omega) only [↓RU, RV, RH, ↓reduceIte, Nat.reduceEqDiff, reduceCtorEq, if_pos, List.append_nil, ↓RS, RG, Nat.reduceAdd, Nat.reduceMul, Nat.reduceLeDiff]
  refine CallR.pc (hx) rfl (.inr rfl) ?_
  simp (disch := omega) only [↓RU, RV, RH, ↓reduceIte, Nat.reduceEqDiff, reduceCtorEq, if_pos, List.append_nil, ↓RS, RG, Nat.reduceAdd, Nat.reduceMul, Nat.reduceLeDiff]
  refine hK _ _ ?_
  clear hK K
  refine W.seq ?_
  refine W.seq_region fun K hK => ?_
  simp (disch := omega) only [↓RU, RV, RH, ↓reduceIte, Nat.reduceEqDiff, reduceCtorEq, if_pos, ↓RS, RG, Nat.reduceAdd, Nat.reduceMul, Nat.reduceLeDiff]
  refine hK _ _ ?_
  clear hK K
  refine W.cond rfl (fun h => ?_) (fun h => ?_)
  · try simp only [RL] at h
    refine W.seq_region fun K hK => ?_
    simp (disch := omega) only [↓RU, RV, RH, ↓reduceIte, Nat.reduceEqDiff, reduceCtorEq, if_pos, ↓RS, RG, Nat.reduceAdd, Nat.reduceMul, Nat.reduceLeDiff]
    refine hK _ _ ?_
    clear hK K
    refine W.ret ?_
    refine XThen.ret ?_
    refine BodyQ.ret rfl ?_
    exact ⟨_, _, by rw [needV, h]; rfl, fun h9 => absurd h9 (by unfold needV; rw [h]; exact Bool.false_ne_true), take_all⟩
  · try simp only [RL] at h
    obtain rfl := hxy h
    refine W.skip ?_
    refine XThen.norm ?_
    refine W.seq_region fun K hK => ?_
    simp (disch := omega) only [↓RU, RV, RH, ↓reduceIte, Nat.reduceEqDiff, reduceCtorEq, if_pos, ↓RS, RG, Nat.reduceAdd, Nat.reduceMul, Nat.reduceLeDiff]
    refine hK _ _ ?_
    clear hK K
    refine W.seq ?_
    refine W.seq_region fun K hK => ?_
    simp (disch := omega) only [↓RU, RV, RH, ↓reduceIte, Nat.reduceEqDiff, reduceCtorEq, if_pos, ↓RS, RG, Nat.reduceAdd, Nat.reduceMul, Nat.reduceLeDiff, tyLLint, tyLint, tyint, cells_fn, ic_fn]
    refine hK _ _ ?_
    clear hK K
    refine W.block ?_
    refine W.loop [6, 8, 18, 19, 20] (fun n vs S => ∃ i : Nat, n = wss.length - i ∧ i ≤ wss.length ∧ ((wss.take i).all (needW p) = true) ∧ vs = [eFloor (gP p) (rP p), .fn 102 [], .loc 0 wv 0 wss.length, .int .i64 wss.length, .int .i64 i] ∧ S = ⟨[.arr wv 24 1 (wss.map eInts)], t⟩) (wss.length) ?_ ?_
    · refine ⟨1, 0, rfl, Nat.zero_le _, rfl, ?_, rfl⟩
      simp [Env.put, Env.of, argEnv]
    rintro n vs S - ⟨i, rfl, h_i, hall, rfl, rfl⟩
    refine W.seq_region fun K hK => ?_
    simp (disch := omega) only [↓RU, RV, RH, ↓reduceIte, Nat.reduceEqDiff, reduceCtorEq, if_pos, w64, ↓RS, RG, Nat.reduceAdd, Nat.reduceMul, Nat.reduceLeDiff, tyint]
    refine hK _ _ ?_
    clear hK K
    refine W.seq ?_
    refine W.cond rfl (fun h1 => ?_) (fun h1 => ?_)
    · try simp only [RL] at h1
      obtain ⟨ws, hws, hwm⟩ := get_of (show i < wss.length by omega)
      have hwl := hw ws hwm
      obtain ⟨hokp, -⟩ := plain_okB h
      have hrp : (rP p).length ≤ 1000 := by have := okB_rooms hokp; omega
      refine W.skip ?_
      refine XThen.norm ?_
      refine W.seq ?_
      refine W.block ?_
      refine W.seq_region fun K hK => ?_
      simp (disch := omega) only [↓RU, RV, RH, ↓reduceIte, Nat.reduceEqDiff, reduceCtorEq, if_pos, ↓RS, RG, Nat.reduceAdd, Nat.reduceMul, Nat.reduceLeDiff, tyLLint, tyLint, tyint, hws]
      refine hK _ _ ?_
      clear hK K
      refine W.seq_region fun K hK => ?_
      by_cases hlen : ws.length = (rP p).length
      · skip
        have hd : ((ws.length : Int) != ((rP p).length : Int)) = false := by rw [hlen]; simp
        simp (disch := omega) only [↓RU, RV, RH, ↓reduceIte, Nat.reduceEqDiff, reduceCtorEq, if_pos, w64, List.append_nil, ↓RS, RG, Nat.reduceAdd, Nat.reduceMul, Nat.reduceLeDiff, tyLLint, tyLimpl_rect, tyLint, tyimpl_floor, tyimpl_grid, tyimpl_rect, tyint, tystruct_cells_impl_grid_rooms_Limpl_rect_, tystruct_row_int_col_int_high_int_wide_int_, hd, rcs_len]
        refine CallR.pc (containsInt_pc (l := ws) (by omega) (g := 102) (cap := []) rfl rfl (test := fun n => !needB n) (fun n _ => needing1_pc n)) rfl (.inl rfl) ?_
        simp (disch := omega) only [↓RU, RV, RH, ↓reduceIte, Nat.reduceEqDiff, reduceCtorEq, if_pos, w64, List.append_nil, ↓RS, RG, Nat.reduceAdd, Nat.reduceMul, Nat.reduceLeDiff, tyLLint, tyLimpl_rect, tyLint, tyimpl_floor, tyimpl_grid, tyimpl_rect, tyint, tystruct_cells_impl_grid_rooms_Limpl_rect_, tystruct_row_int_col_int_high_int_wide_int_, hd, rcs_len]
        refine hK _ _ ?_
        clear hK K
        refine W.cond rfl (fun h2 => ?_) (fun h2 => ?_)
        · try simp only [RL] at h2
          have hok : needW p ws = false := by unfold needW; rw [List.all_eq_not_any_not, h2]; simp
          refine W.seq_region fun K hK => ?_
          simp (disch := omega) only [↓RU, RV, RH, ↓reduceIte, Nat.reduceEqDiff, reduceCtorEq, if_pos, ↓RS, RG, Nat.reduceAdd, Nat.reduceMul, Nat.reduceLeDiff]
          refine hK _ _ ?_
          clear hK K
          refine W.ret ?_
          refine XBlock.ret ?_
          refine XThen.ret ?_
          refine XThen.ret ?_
          refine XBlock.ret ?_
          refine XThen.ret ?_
          refine BodyQ.ret rfl ?_
          exact ⟨_, _, by rw [needV_no hwm hok]; rfl, fun h9 => absurd h9 (by rw [needV_no hwm hok]; exact Bool.false_ne_true), take_all⟩
        · try simp only [RL] at h2
          have hok : needW p ws = true := by unfold needW; rw [decide_eq_true hlen, List.all_eq_not_any_not]; simpa using h2
          refine W.skip ?_
          refine XBlock.norm ?_
          refine XThen.norm ?_
          refine W.region_k fun K hK => ?_
          simp (disch := omega) only [↓RU, RV, RH, ↓reduceIte, Nat.reduceEqDiff, reduceCtorEq, if_pos, w64, ↓RS, RG, Nat.reduceAdd, Nat.reduceMul, Nat.reduceLeDiff, tyint]
          refine hK _ _ ?_
          clear hK K
          refine XThen.norm ?_
          refine ⟨wss.length - (i + 1), by omega, 1, i + 1, rfl, by omega, all_tk hws hall hok, ?_, rfl⟩
          simp [Env.put, Env.of]
      · skip
        have hd : ((ws.length : Int) != ((rP p).length : Int)) = true := by simp; omega
        simp (disch := omega) only [↓RU, RV, RH, ↓reduceIte, Nat.reduceEqDiff, reduceCtorEq, if_pos, w64, List.append_nil, ↓RS, RG, Nat.reduceAdd, Nat.reduceMul, Nat.reduceLeDiff, tyLLint, tyLimpl_rect, tyLint, tyimpl_floor, tyimpl_grid, tyimpl_rect, tyint, tystruct_cells_impl_grid_rooms_Limpl_rect_, tystruct_row_int_col_int_high_int_wide_int_, hd, rcs_len]
        refine hK _ _ ?_
        clear hK K
        refine W.cond rfl (fun h2 => ?_) (fun h2 => ?_)
        · try simp only [RL] at h2
          have hok : needW p ws = false := by unfold needW; rw [decide_eq_false hlen]; rfl
          refine W.seq_region fun K hK => ?_
          simp (disch := omega) only [↓RU, RV, RH, ↓reduceIte, Nat.reduceEqDiff, reduceCtorEq, if_pos, ↓RS, RG, Nat.reduceAdd, Nat.reduceMul, Nat.reduceLeDiff]
          refine hK _ _ ?_
          clear hK K
          refine W.ret ?_
          refine XBlock.ret ?_
          refine XThen.ret ?_
          refine XThen.ret ?_
          refine XBlock.ret ?_
          refine XThen.ret ?_
          refine BodyQ.ret rfl ?_
          exact ⟨_, _, by rw [needV_no hwm hok]; rfl, fun h9 => absurd h9 (by rw [needV_no hwm hok]; exact Bool.false_ne_true), take_all⟩
        · try simp only [RL] at h2
          exact absurd h2 (by simp)
    · try simp only [RL] at h1
      obtain rfl : wss.length = i := by omega
      rw [List.take_length] at hall
      refine W.exit ?_
      refine XThen.exit ?_
      refine XThen.exit ?_
      refine XBlock.hit ?_
      refine XThen.norm ?_
      refine W.seq_region fun K hK => ?_
      simp (disch := omega) only [↓RU, RV, RH, ↓reduceIte, Nat.reduceEqDiff, reduceCtorEq, if_pos, ↓RS, RG, Nat.reduceAdd, Nat.reduceMul, Nat.reduceLeDiff]
      refine hK _ _ ?_
      clear hK K
      refine W.ret ?_
      refine BodyQ.ret rfl ?_
      exact ⟨_, _, by rw [needV, h, hall]; rfl, fun _ => rfl, take_all⟩

end Fw
end Go.Proofs.YtcglmbijpjhbmaaGreat

/-! Sizes, gone through; the small functions of the statements. -/
namespace Go.Proofs.YtcglmbijpjhbmaaGreat
namespace Fw
open Go

theorem l7Places_pn {p : List Txt} (hs : Sm p) (hg : gridB p = true) (h9 : l1Rooms p ≤ 9) {needs : List Int} (hn : needs.length = (l1Rooms p).toNat) (hok : NeedOk needs) (kind : Int) : PN Tryz.prog 69 [eStrs p, eInts needs, .int .i64 kind] (.loc 0 0 0 needs.length) [.arr 0 3 1 ((places (allS p kind) needs).map (.int .i64))] false := by
  have hrb := l1Rooms_bound p
  have hms := allS_msk hg h9 kind
  rw [← hn] at hms
  obtain ⟨nr, hnr⟩ : ∃ nr : Nat, needs.length = nr := ⟨_, rfl⟩
  have hn9 : nr ≤ 9 := by omega
  rw [hnr] at hms
  have hml := hms.1
  refine PN.of ⟨Tryz.func69, by kernel_rfl, rfl, by kernel_rfl⟩ tabOk mixed (by show 3 ≤ Tryz.f69.ntmps; decide) ?_
  refine W.seq_region fun K hK => ?_
  simp (disch := omega) only [↓RU, RV, RH, ↓reduceIte, Nat.reduceEqDiff, reduceCtorEq, if_pos, ↓RS, RG, Nat.reduceAdd, Nat.reduceMul, Nat.reduceLeDiff]
  refine hK _ _ ?_
  clear hK K
  refine W.seq_region fun K hK => ?_
  simp (disch := omega) only [↓RU, RV, RH, ↓reduceIte, Nat.reduceEqDiff, reduceCtorEq, if_pos, List.append_nil, ↓RS, RG, Nat.reduceAdd, Nat.reduceMul, Nat.reduceLeDiff]
  refine CallR.pc (l5All_pc hs hg h9 kind) rfl (.inl rfl) ?_
  simp (disch := omega) only [↓RU, RV, RH, ↓reduceIte, Nat.reduceEqDiff, reduceCtorEq, if_pos, List.append_nil, ↓RS, RG, Nat.reduceAdd, Nat.reduceMul, Nat.reduceLeDiff]
  refine hK _ _ ?_
  clear hK K
  refine W.seq_region fun K hK => ?_
  simp (disch := omega) only [↓RU, RV, RH, ↓reduceIte, Nat.reduceEqDiff, reduceCtorEq, if_pos, ↓RS, RG, Nat.reduceAdd, Nat.reduceMul, Nat.reduceLeDiff, tyLint, tyint, hnr, repz_int, ile_true]
  refine hK _ _ ?_
  clear hK K
  refine W.seq ?_
  refine W.seq_region fun K hK => ?_
  simp (disch := omega) only [↓RU, RV, RH, ↓reduceIte, Nat.reduceEqDiff, reduceCtorEq, if_pos, ↓RS, RG, Nat.reduceAdd, Nat.reduceMul, Nat.reduceLeDiff]
  refine hK _ _ ?_
  clear hK K
  refine W.block ?_
  refine W.loop [0, 1, 2, 7, 8, 9] (fun n vs S => ∃ k : Nat, n = nr - k ∧ k ≤ nr ∧ vs = [eStrs p, eInts needs, .int .i64 kind, eNats (allS p kind), .loc 0 0 0 nr, .int .i64 k] ∧ S = ⟨[.arr 0 3 1 (((List.range k).foldl (plN (allS p kind) needs) (List.replicate nr 0)).map (.int .i64))], 1⟩) (nr) ?_ ?_
  · refine ⟨1, 0, rfl, Nat.zero_le _, ?_, by simp [take_eq]⟩
    simp [Env.put, Env.of, argEnv]
  rintro n vs S - ⟨k, rfl, h_k, rfl, rfl⟩
  refine W.seq ?_
  refine W.seq_region fun K hK => ?_
  simp (disch := omega) only [↓RU, RV, RH, ↓reduceIte, Nat.reduceEqDiff, reduceCtorEq, if_pos, w64, ↓RS, RG, Nat.reduceAdd, Nat.reduceMul, Nat.reduceLeDiff, tyLint, tyint]
  refine hK _ _ ?_
  clear hK K
  refine W.cond rfl (fun h => ?_) (fun h => ?_)
  · try simp only [RL] at h
    have hX := places_to (sets := (allS p kind)) hok hnr hn9 k (by omega)
    generalize hXe : (List.range k).foldl (plN (allS p kind) needs) (List.replicate nr 0) = X at hX
    refine W.skip ?_
    refine XThen.norm ?_
    refine W.seq ?_
    refine W.block ?_
    refine W.seq_region fun K hK => ?_
    simp (disch := omega) only [↓RU, RV, RH, ↓reduceIte, Nat.reduceEqDiff, reduceCtorEq, if_pos, ↓RS, RG, Nat.reduceAdd, Nat.reduceMul, Nat.reduceLeDiff]
    refine hK _ _ ?_
    clear hK K
    refine W.block ?_
    refine W.loop [0, 1, 2, 7, 8, 9, 10] (fun n vs S => ∃ a : Nat, n = nr - a ∧ a ≤ nr ∧ vs = [eStrs p, eInts needs, .int .i64 kind, eNats (allS p kind), .loc 0 0 0 nr, .int .i64 k, .int .i64 a] ∧ S = ⟨[.arr 0 3 1 (((List.range a).foldl (plA (allS p kind) needs) X).map (.int .i64))], 1⟩) (nr) ?_ ?_
    · refine ⟨1, 0, rfl, Nat.zero_le _, ?_, by simp [take_eq, hXe]⟩
      simp [Env.put, Env.of]
    rintro n vs S - ⟨a, rfl, h_a, rfl, rfl⟩
    refine W.seq ?_
    refine W.seq_region fun K hK => ?_
    simp (disch := omega) only [↓RU, RV, RH, ↓reduceIte, Nat.reduceEqDiff, reduceCtorEq, if_pos, w64, ↓RS, RG, Nat.reduceAdd, Nat.reduceMul, Nat.reduceLeDiff, tyLint, tyint]
    refine hK _ _ ?_
    clear hK K
    refine W.cond rfl (fun h1 => ?_) (fun h1 => ?_)
    · try simp only [RL] at h1
      have hY := plN_to (sets := (allS p kind)) hok hnr hn9 hX a (by omega)
      generalize hYe : (List.range a).foldl (plA (allS p kind) needs) X = Y at hY
      refine W.skip ?_
      refine XThen.norm ?_
      refine W.seq ?_
      refine W.block ?_
      refine W.seq_region fun K hK => ?_
      simp (disch := omega) only [↓RU, RV, RH, ↓reduceIte, Nat.reduceEqDiff, reduceCtorEq, if_pos, ↓RS, RG, Nat.reduceAdd, Nat.reduceMul, Nat.reduceLeDiff]
      refine hK _ _ ?_
      clear hK K
      refine W.block ?_
      refine W.loop [0, 1, 2, 7, 8, 9, 10, 11] (fun n vs S => ∃ b : Nat, n = nr - b ∧ b ≤ nr ∧ vs = [eStrs p, eInts needs, .int .i64 kind, eNats (allS p kind), .loc 0 0 0 nr, .int .i64 k, .int .i64 a, .int .i64 b] ∧ S = ⟨[.arr 0 3 1 (((List.range b).foldl (plB (allS p kind) needs a) Y).map (.int .i64))], 1⟩) (nr) ?_ ?_
      · refine ⟨1, 0, rfl, Nat.zero_le _, ?_, by simp [take_eq, hYe]⟩
        simp [Env.put, Env.of]
      rintro n vs S - ⟨b, rfl, h_b, rfl, rfl⟩
      refine W.seq ?_
      refine W.seq_region fun K hK => ?_
      simp (disch := omega) only [↓RU, RV, RH, ↓reduceIte, Nat.reduceEqDiff, reduceCtorEq, if_pos, w64, ↓RS, RG, Nat.reduceAdd, Nat.reduceMul, Nat.reduceLeDiff, tyLint, tyint]
      refine hK _ _ ?_
      clear hK K
      refine W.cond rfl (fun h2 => ?_) (fun h2 => ?_)
      · try simp only [RL] at h2
        have hZ := plA_to (sets := (allS p kind)) hok hnr hY (show a < nr by omega) b (by omega)
        generalize hZe : (List.range b).foldl (plB (allS p kind) needs a) Y = Z at hZ
        obtain ⟨m, hm, hm5⟩ := hms.at_ (show a < nr by omega)
        obtain ⟨u, hu, hu1⟩ := hZ.at_ (show a < nr by omega)
        obtain ⟨v, hv, hv1⟩ := hZ.at_ (show b < nr by omega)
        obtain ⟨z, hz, hzm⟩ := get_of (show a < needs.length by omega)
        have hz1 := hok z hzm
        have hZl := hZ.1
        refine W.skip ?_
        refine XThen.norm ?_
        refine W.seq ?_
        refine W.block ?_
        refine W.seq_region fun K hK => ?_
        simp (disch := omega) only [↓RU, RV, RH, ↓reduceIte, Nat.reduceEqDiff, reduceCtorEq, if_pos, w64, ↓RS, RG, Nat.reduceAdd, Nat.reduceMul, Nat.reduceLeDiff, tyLint, tyint, hm, hml, pShr, w_bit]
        refine hK _ _ ?_
        clear hK K
        refine W.cond rfl (fun h3 => ?_) (fun h3 => ?_)
        · try simp only [RL] at h3
          refine W.draw_k (by kernel_rfl) fun K hK => ?_
          simp (disch := omega) only [↓RU, RV, RH, ↓reduceIte, Nat.reduceEqDiff, reduceCtorEq, if_pos, w64, ite_max, ↓RS, RG, Nat.reduceAdd, Nat.reduceMul, Nat.reduceLeDiff, tyLint, tyint, hu, hv, hz, hnr, hZl, set_spl, set_int]
          refine hK _ _ ?_
          clear hK K
          refine XBlock.norm ?_
          refine XThen.norm ?_
          refine W.region_k fun K hK => ?_
          simp (disch := omega) only [↓RU, RV, RH, ↓reduceIte, Nat.reduceEqDiff, reduceCtorEq, if_pos, w64, ↓RS, RG, Nat.reduceAdd, Nat.reduceMul, Nat.reduceLeDiff, tyint]
          refine hK _ _ ?_
          clear hK K
          refine XThen.norm ?_
          refine ⟨nr - (b + 1), by omega, 1, b + 1, rfl, by omega, ?_, ?_⟩
          · simp [Env.put, Env.of]
          · simp only [take_eq, foldl_rg, hZe, plB, bitOf_is hm, h3, getI_is hu, getI_is hv, getI_is hz]; rfl
        · try simp only [RL] at h3
          refine W.skip ?_
          refine XBlock.norm ?_
          refine XThen.norm ?_
          refine W.region_k fun K hK => ?_
          simp (disch := omega) only [↓RU, RV, RH, ↓reduceIte, Nat.reduceEqDiff, reduceCtorEq, if_pos, w64, ↓RS, RG, Nat.reduceAdd, Nat.reduceMul, Nat.reduceLeDiff, tyint]
          refine hK _ _ ?_
          clear hK K
          refine XThen.norm ?_
          refine ⟨nr - (b + 1), by omega, 1, b + 1, rfl, by omega, ?_, ?_⟩
          · simp [Env.put, Env.of]
          · simp only [take_eq, foldl_rg, hZe, plB, bitOf_is hm, h3, Bool.false_eq_true, if_false]; rfl
      · try simp only [RL] at h2
        obtain rfl : nr = b := by omega
        refine W.exit ?_
        refine XThen.exit ?_
        refine XThen.exit ?_
        refine XBlock.hit ?_
        refine XBlock.norm ?_
        refine XThen.norm ?_
        refine W.region_k fun K hK => ?_
        simp (disch := omega) only [↓RU, RV, RH, ↓reduceIte, Nat.reduceEqDiff, reduceCtorEq, if_pos, w64, ↓RS, RG, Nat.reduceAdd, Nat.reduceMul, Nat.reduceLeDiff, tyint]
        refine hK _ _ ?_
        clear hK K
        refine XThen.norm ?_
        refine ⟨nr - (a + 1), by omega, 1, a + 1, rfl, by omega, ?_, ?_⟩
        · simp [Env.put, Env.of]
        · simp only [take_eq, foldl_rg, hYe, plA, hnr]; rfl
    · try simp only [RL] at h1
      obtain rfl : nr = a := by omega
      refine W.exit ?_
      refine XThen.exit ?_
      refine XThen.exit ?_
      refine XBlock.hit ?_
      refine XBlock.norm ?_
      refine XThen.norm ?_
      refine W.region_k fun K hK => ?_
      simp (disch := omega) only [↓RU, RV, RH, ↓reduceIte, Nat.reduceEqDiff, reduceCtorEq, if_pos, w64, ↓RS, RG, Nat.reduceAdd, Nat.reduceMul, Nat.reduceLeDiff, tyint]
      refine hK _ _ ?_
      clear hK K
      refine XThen.norm ?_
      refine ⟨nr - (k + 1), by omega, 1, k + 1, rfl, by omega, ?_, ?_⟩
      · simp [Env.put, Env.of]
      · simp only [take_eq, foldl_rg, hXe, plN, hnr]; rfl
  · try simp only [RL] at h
    obtain rfl : nr = k := by omega
    refine W.exit ?_
    refine XThen.exit ?_
    refine XThen.exit ?_
    refine XBlock.hit ?_
    refine XThen.norm ?_
    refine W.seq_region fun K hK => ?_
    simp (disch := omega) only [↓RU, RV, RH, ↓reduceIte, Nat.reduceEqDiff, reduceCtorEq, if_pos, ↓RS, RG, Nat.reduceAdd, Nat.reduceMul, Nat.reduceLeDiff]
    refine hK _ _ ?_
    clear hK K
    refine W.ret ?_
    refine BodyQ.ret rfl ?_
    rw [show (List.range nr).foldl (plN (allS p kind) needs) (List.replicate nr 0) = places (allS p kind) needs by rw [places, hnr]]
    rw [hnr]
    exact sh_one rfl (sh_ints _)

theorem l7Least_pc {p : List Txt} (hs : Sm p) (hg : gridB p = true) (h9 : l1Rooms p ≤ 9) {needs : List Int} (hn : needs.length = (l1Rooms p).toNat) (hok : NeedOk needs) (kind : Int) : PC Tryz.prog 63 [eStrs p, eInts needs, .int .i64 kind] (.int .i64 (least (allS p kind) needs)) true := by
  have hn9 : needs.length ≤ 9 := by omega
  obtain ⟨nr, hnr⟩ : ∃ nr : Nat, needs.length = nr := ⟨_, rfl⟩
  have hP := places_bnd (sets := (allS p kind)) hok hnr (by omega)
  have hPl := hP.1
  refine PC.of ⟨Tryz.func63, by kernel_rfl, rfl, by kernel_rfl⟩ tabOk mixed (by show 3 ≤ Tryz.f63.ntmps; decide) ?_
  refine W.seq_region fun K hK => ?_
  simp (disch := omega) only [↓RU, RV, RH, ↓reduceIte, Nat.reduceEqDiff, reduceCtorEq, if_pos, ↓RS, RG, Nat.reduceAdd, Nat.reduceMul, Nat.reduceLeDiff]
  refine hK _ _ ?_
  clear hK K
  refine W.seq_region fun K hK => ?_
  simp (disch := omega) only [↓RU, RV, RH, ↓reduceIte, Nat.reduceEqDiff, reduceCtorEq, if_pos, List.append_nil, ↓RS, RG, Nat.reduceAdd, Nat.reduceMul, Nat.reduceLeDiff, hnr]
  refine CallR.pn (l7Places_pn hs hg h9 hn hok kind) rfl (.inl rfl) ?_
  simp (disch := omega) only [↓RU, RV, RH, ↓reduceIte, Nat.reduceEqDiff, reduceCtorEq, if_pos, List.append_nil, ↓RS, RG, Nat.reduceAdd, Nat.reduceMul, Nat.reduceLeDiff, hnr, RN]
  refine hK _ _ ?_
  clear hK K
  refine W.seq_region fun K hK => ?_
  simp (disch := omega) only [↓RU, RV, RH, ↓reduceIte, Nat.reduceEqDiff, reduceCtorEq, if_pos, ↓RS, RG, Nat.reduceAdd, Nat.reduceMul, Nat.reduceLeDiff]
  refine hK _ _ ?_
  clear hK K
  refine W.seq ?_
  refine W.seq_region fun K hK => ?_
  simp (disch := omega) only [↓RU, RV, RH, ↓reduceIte, Nat.reduceEqDiff, reduceCtorEq, if_pos, ↓RS, RG, Nat.reduceAdd, Nat.reduceMul, Nat.reduceLeDiff]
  refine hK _ _ ?_
  clear hK K
  refine W.block ?_
  refine W.loop [0, 1, 7, 8, 9] (fun n vs S => ∃ a : Nat, n = nr - a ∧ a ≤ nr ∧ vs = [eStrs p, eInts needs, .loc 0 0 0 nr, .int .i64 ((List.range a).foldl (fun m a => max m (getI (places (allS p kind) needs) a + getI needs a)) 0), .int .i64 a] ∧ S = ⟨[.arr 0 3 1 ((places (allS p kind) needs).map (.int .i64))], 1⟩) (nr) ?_ ?_
  · refine ⟨1, 0, rfl, Nat.zero_le _, ?_, by simp [take_eq, up_ints, upOb]⟩
    simp [Env.put, Env.of, argEnv]
  rintro n vs S - ⟨a, rfl, h_a, rfl, rfl⟩
  refine W.seq ?_
  refine W.seq_region fun K hK => ?_
  simp (disch := omega) only [↓RU, RV, RH, ↓reduceIte, Nat.reduceEqDiff, reduceCtorEq, if_pos, w64, ↓RS, RG, Nat.reduceAdd, Nat.reduceMul, Nat.reduceLeDiff, tyLint, tyint]
  refine hK _ _ ?_
  clear hK K
  refine W.cond rfl (fun h => ?_) (fun h => ?_)
  · try simp only [RL] at h
    have hM := least_to (sets := (allS p kind)) hok hnr (by omega) a (by omega)
    generalize hMe : (List.range a).foldl (fun m a => max m (getI (places (allS p kind) needs) a + getI needs a)) 0 = M at hM
    obtain ⟨x, hx, hx1⟩ := hP.at_ (show a < nr by omega)
    obtain ⟨z, hz, hzm⟩ := get_of (show a < needs.length by omega)
    have hz1 := hok z hzm
    refine W.skip ?_
    refine XThen.norm ?_
    refine W.seq ?_
    refine W.block ?_
    refine W.draw_k (by kernel_rfl) fun K hK => ?_
    simp (disch := omega) only [↓RU, RV, RH, ↓reduceIte, Nat.reduceEqDiff, reduceCtorEq, if_pos, w64, ite_max, ↓RS, RG, Nat.reduceAdd, Nat.reduceMul, Nat.reduceLeDiff, tyLint, tyint, hMe, hx, hz, hnr, hPl]
    refine hK _ _ ?_
    clear hK K
    refine XBlock.norm ?_
    refine XThen.norm ?_
    refine W.region_k fun K hK => ?_
    simp (disch := omega) only [↓RU, RV, RH, ↓reduceIte, Nat.reduceEqDiff, reduceCtorEq, if_pos, w64, ↓RS, RG, Nat.reduceAdd, Nat.reduceMul, Nat.reduceLeDiff, tyint]
    refine hK _ _ ?_
    clear hK K
    refine XThen.norm ?_
    refine ⟨nr - (a + 1), by omega, 1, a + 1, rfl, by omega, ?_, rfl⟩
    rw [foldl_rg, getI_is hx, getI_is hz]
    simp [Env.put, Env.of, hMe]
  · try simp only [RL] at h
    obtain rfl : nr = a := by omega
    refine W.exit ?_
    refine XThen.exit ?_
    refine XThen.exit ?_
    refine XBlock.hit ?_
    refine XThen.norm ?_
    refine W.seq_region fun K hK => ?_
    simp (disch := omega) only [↓RU, RV, RH, ↓reduceIte, Nat.reduceEqDiff, reduceCtorEq, if_pos, ↓RS, RG, Nat.reduceAdd, Nat.reduceMul, Nat.reduceLeDiff]
    refine hK _ _ ?_
    clear hK K
    refine W.ret ?_
    refine BodyQ.ret rfl ?_
    rw [least, hnr]
    rfl

theorem l7Needs_pc {p : List Txt} (hs : Sm p) {needs : List Int} (hn : needs.length ≤ 1048576) : PC Tryz.prog 62 [eStrs p, eInts needs] (.bool (needsB p needs)) true := by
  refine PC.of ⟨Tryz.func62, by kernel_rfl, rfl, by kernel_rfl⟩ tabOk mixed (by show 2 ≤ Tryz.f62.ntmps; decide) ?_
  refine W.seq_region fun K hK => ?_
  simp (disch := omega) only [↓RU, RV, RH, ↓reduceIte, Nat.reduceEqDiff, reduceCtorEq, if_pos]
  refine hK _ _ ?_
  clear hK K
  refine W.seq ?_
  refine W.seq_region fun K hK => ?_
  cases hg : plainB p
  · skip
    simp (disch := omega) only [↓RU, RV, RH, ↓reduceIte, Nat.reduceEqDiff, reduceCtorEq, if_pos, List.append_nil, w64, tyLint, tyint, hg]
    refine CallR.pc (l5Plain_pc hs) rfl (.inl rfl) ?_
    simp (disch := omega) only [↓RU, RV, RH, ↓reduceIte, Nat.reduceEqDiff, reduceCtorEq, if_pos, List.append_nil, w64, tyLint, tyint, hg]
    refine hK _ _ ?_
    clear hK K
    refine W.cond rfl (fun h0 => ?_) (fun h0 => ?_)
    · try simp only [RL] at h0
      refine W.seq_region fun K hK => ?_
      simp (disch := omega) only [↓RU, RV, RH, ↓reduceIte, Nat.reduceEqDiff, reduceCtorEq, if_pos]
      refine hK _ _ ?_
      clear hK K
      refine W.ret ?_
      refine XThen.ret ?_
      refine BodyQ.ret rfl ?_
      rw [needsB, hg]
      rfl
    · try simp only [RL] at h0
      exact absurd h0 (by simp)
  · skip
    simp (disch := omega) only [↓RU, RV, RH, ↓reduceIte, Nat.reduceEqDiff, reduceCtorEq, if_pos, List.append_nil, w64, tyLint, tyint, hg]
    refine CallR.pc (l5Plain_pc hs) rfl (.inl rfl) ?_
    simp (disch := omega) only [↓RU, RV, RH, ↓reduceIte, Nat.reduceEqDiff, reduceCtorEq, if_pos, List.append_nil, w64, tyLint, tyint, hg]
    refine CallR.pc (l1Rooms_pc hs) rfl (.inl rfl) ?_
    simp (disch := omega) only [↓RU, RV, RH, ↓reduceIte, Nat.reduceEqDiff, reduceCtorEq, if_pos, List.append_nil, w64, tyLint, tyint, hg]
    refine hK _ _ ?_
    clear hK K
    refine W.cond rfl (fun h1 => ?_) (fun h1 => ?_)
    · try simp only [RL] at h1
      refine W.seq_region fun K hK => ?_
      simp (disch := omega) only [↓RU, RV, RH, ↓reduceIte, Nat.reduceEqDiff, reduceCtorEq, if_pos]
      refine hK _ _ ?_
      clear hK K
      refine W.ret ?_
      refine XThen.ret ?_
      refine BodyQ.ret rfl ?_
      rw [show needsB p needs = false by simp [needsB, h1]]
      rfl
    · try simp only [RL] at h1
      refine W.skip ?_
      refine XThen.norm ?_
      refine W.seq ?_
      refine W.seq_region fun K hK => ?_
      simp (disch := omega) only [↓RU, RV, RH, ↓reduceIte, Nat.reduceEqDiff, reduceCtorEq, if_pos]
      refine hK _ _ ?_
      clear hK K
      refine W.block ?_
      refine W.loop [0, 1, 5] (fun n vs S => ∃ i : Nat, n = needs.length - i ∧ i ≤ needs.length ∧ ((needs.take i).all needB = true) ∧ vs = [eStrs p, eInts needs, .int .i64 i] ∧ S = ⟨[], 0⟩) (needs.length) ?_ ?_
      · refine ⟨0, 0, rfl, Nat.zero_le _, rfl, ?_, rfl⟩
        simp [Env.put, Env.of, argEnv]
      rintro n vs S - ⟨i, rfl, h_i, hall, rfl, rfl⟩
      refine W.seq ?_
      refine W.seq_region fun K hK => ?_
      simp (disch := omega) only [↓RU, RV, RH, ↓reduceIte, Nat.reduceEqDiff, reduceCtorEq, if_pos, w64, tyLint, tyint]
      refine hK _ _ ?_
      clear hK K
      refine W.cond rfl (fun h2 => ?_) (fun h2 => ?_)
      · try simp only [RL] at h2
        obtain ⟨x, hx, hxm⟩ := get_of (show i < needs.length by omega)
        refine W.skip ?_
        refine XThen.norm ?_
        refine W.seq ?_
        refine W.block ?_
        refine W.seq_region fun K hK => ?_
        simp (disch := omega) only [↓RU, RV, RH, ↓reduceIte, Nat.reduceEqDiff, reduceCtorEq, if_pos, List.append_nil, tyLint, tyint, hx]
        refine CallR.pc (l6In_pc _ _ _) rfl (.inl rfl) ?_
        simp (disch := omega) only [↓RU, RV, RH, ↓reduceIte, Nat.reduceEqDiff, reduceCtorEq, if_pos, List.append_nil, tyLint, tyint, hx]
        refine hK _ _ ?_
        clear hK K
        refine W.cond rfl (fun h3 => ?_) (fun h3 => ?_)
        · try simp only [RL] at h3
          refine W.seq_region fun K hK => ?_
          simp (disch := omega) only [↓RU, RV, RH, ↓reduceIte, Nat.reduceEqDiff, reduceCtorEq, if_pos]
          refine hK _ _ ?_
          clear hK K
          refine W.ret ?_
          refine XBlock.ret ?_
          refine XThen.ret ?_
          refine XThen.ret ?_
          refine XBlock.ret ?_
          refine XThen.ret ?_
          refine BodyQ.ret rfl ?_
          rw [show needsB p needs = false by unfold needsB; rw [show needs.all needB = false from List.all_eq_false.2 ⟨x, hxm, by simpa [needB] using h3⟩]; simp]
          rfl
        · try simp only [RL] at h3
          refine W.skip ?_
          refine XBlock.norm ?_
          refine XThen.norm ?_
          refine W.region_k fun K hK => ?_
          simp (disch := omega) only [↓RU, RV, RH, ↓reduceIte, Nat.reduceEqDiff, reduceCtorEq, if_pos, w64, tyint]
          refine hK _ _ ?_
          clear hK K
          refine XThen.norm ?_
          refine ⟨needs.length - (i + 1), by omega, 0, i + 1, rfl, by omega, all_tk hx (by assumption) (by simpa [needB] using h3), ?_, rfl⟩
          simp [Env.put, Env.of]
      · try simp only [RL] at h2
        refine W.exit ?_
        refine XThen.exit ?_
        refine XThen.exit ?_
        refine XBlock.hit ?_
        refine XThen.norm ?_
        refine W.seq_region fun K hK => ?_
        simp (disch := omega) only [↓RU, RV, RH, ↓reduceIte, Nat.reduceEqDiff, reduceCtorEq, if_pos]
        refine hK _ _ ?_
        clear hK K
        refine W.ret ?_
        refine BodyQ.ret rfl ?_
        have hip : needs.take i = needs := List.take_of_length_le (by omega)
        rw [hip] at hall
        rw [show needsB p needs = true by simp only [needsB, hg, hall, h1, decide_true, Bool.and_self]]
        rfl

end Fw
end Go.Proofs.YtcglmbijpjhbmaaGreat

/-! Heaviest sums, gone through. -/
namespace Go.Proofs.YtcglmbijpjhbmaaGreat
namespace Fw
open Go

theorem heavy1_ev {M : List (List Bool)} {ws out : List Int} {nr : Nat} {rk : Nat → Nat} (hu : Up M nr rk) (hn : nr ≤ 9) (hwl : ws.length = nr) (hw : NeedOk ws) {b : Nat} (hb : b < nr) (hmo : Memo M ws nr out)
    (ih : ∀ a, a < nr → rk a < rk b → ∀ out0, Memo M ws nr out0 → Ev Tryz.prog 108 [.int .i64 (a : Nat), .ref 3 3 0, .ref 0 0 0, .ref 4 4 0, .ref 1 1 0] ⟨[.arr 0 59 1 [eRel M], .arr 1 24 1 [eInts ws], .arr 2 3 1 ((out0).map (.int .i64)), .arr 3 24 1 [.loc 2 2 0 nr], .arr 4 104 1 [.fn 108 [.ref 3 3 0, .ref 0 0 0, .ref 4 4 0, .ref 1 1 0]]], 5⟩ (fun v S => v = .int .i64 (HB M ws nr a) ∧ ∃ out2, Memo M ws nr out2 ∧ Keep out0 out2 ∧ out2[a]? = some (HB M ws nr a) ∧ S = ⟨[.arr 0 59 1 [eRel M], .arr 1 24 1 [eInts ws], .arr 2 3 1 ((out2).map (.int .i64)), .arr 3 24 1 [.loc 2 2 0 nr], .arr 4 104 1 [.fn 108 [.ref 3 3 0, .ref 0 0 0, .ref 4 4 0, .ref 1 1 0]]], 5⟩)) : Ev Tryz.prog 108 [.int .i64 (b : Nat), .ref 3 3 0, .ref 0 0 0, .ref 4 4 0, .ref 1 1 0] ⟨[.arr 0 59 1 [eRel M], .arr 1 24 1 [eInts ws], .arr 2 3 1 ((out).map (.int .i64)), .arr 3 24 1 [.loc 2 2 0 nr], .arr 4 104 1 [.fn 108 [.ref 3 3 0, .ref 0 0 0, .ref 4 4 0, .ref 1 1 0]]], 5⟩ fun v S => v = .int .i64 (HB M ws nr b) ∧ ∃ out2, Memo M ws nr out2 ∧ Keep out out2 ∧ out2[b]? = some (HB M ws nr b) ∧ S = ⟨[.arr 0 59 1 [eRel M], .arr 1 24 1 [eInts ws], .arr 2 3 1 ((out2).map (.int .i64)), .arr 3 24 1 [.loc 2 2 0 nr], .arr 4 104 1 [.fn 108 [.ref 3 3 0, .ref 0 0 0, .ref 4 4 0, .ref 1 1 0]]], 5⟩ := by
  obtain ⟨x0, hx0, hx0c⟩ := hmo.at_ hb
  have hml := hmo.1
  have hsq := hu.sq.1
  have hHb := HB_bound (M := M) (n := nr) hw b
  have hHp := HB_pos (M := M) (n := nr) hw (b := b) (by omega)
  have hHe := HB_eq (ws := ws) hu hb
  obtain ⟨wb, hwb, hwbm⟩ := get_of (show b < ws.length by omega)
  have hwb1 := hw wb hwbm
  rw [getI_is hwb] at hHe
  refine Ev.of ⟨Tryz.func108, by kernel_rfl, rfl, by kernel_rfl⟩ tabOk mixed (by show 5 ≤ Tryz.f108.ntmps; decide) ?_
  refine W.seq_region fun K hK => ?_
  simp (disch := omega) only [↓RU, RV, RH, ↓reduceIte, Nat.reduceEqDiff, reduceCtorEq, if_pos, ↓RS, RG, Nat.reduceAdd, Nat.reduceMul, Nat.reduceLeDiff]
  refine hK _ _ ?_
  clear hK K
  refine W.seq ?_
  refine W.seq_region fun K hK => ?_
  simp (disch := omega) only [↓RU, RV, RH, ↓reduceIte, Nat.reduceEqDiff, reduceCtorEq, if_pos, w64, ↓RS, RG, Nat.reduceAdd, Nat.reduceMul, Nat.reduceLeDiff, tyLint, tyint, hx0]
  refine hK _ _ ?_
  clear hK K
  refine W.cond rfl (fun h0 => ?_) (fun h0 => ?_)
  · try simp only [RL] at h0
    subst h0
    refine W.seq_region fun K hK => ?_
    simp (disch := omega) only [↓RU, RV, RH, ↓reduceIte, Nat.reduceEqDiff, reduceCtorEq, if_pos, ↓RS, RG, Nat.reduceAdd, Nat.reduceMul, Nat.reduceLeDiff]
    refine hK _ _ ?_
    clear hK K
    refine W.seq ?_
    refine W.seq_region fun K hK => ?_
    simp (disch := omega) only [↓RU, RV, RH, ↓reduceIte, Nat.reduceEqDiff, reduceCtorEq, if_pos, ↓RS, RG, Nat.reduceAdd, Nat.reduceMul, Nat.reduceLeDiff, tyLLbool, tyLbool, tybool, tyimpl_relation, hsq]
    refine hK _ _ ?_
    clear hK K
    refine W.block ?_
    refine W.loop [0, 1, 2, 3, 4, 7, 15, 16] (fun n vs S => ∃ (a : Nat) (out1 : List Int), n = nr - a ∧ a ≤ nr ∧ Memo M ws nr out1 ∧ Keep out out1 ∧ vs = [.int .i64 (b : Nat), .ref 3 3 0, .ref 0 0 0, .ref 4 4 0, .ref 1 1 0, .int .i64 (hvF M (HB M ws nr) b a), .int .i64 nr, .int .i64 a] ∧ S = ⟨[.arr 0 59 1 [eRel M], .arr 1 24 1 [eInts ws], .arr 2 3 1 ((out1).map (.int .i64)), .arr 3 24 1 [.loc 2 2 0 nr], .arr 4 104 1 [.fn 108 [.ref 3 3 0, .ref 0 0 0, .ref 4 4 0, .ref 1 1 0]]], 5⟩) nr ?_ ?_
    · refine ⟨5, 0, out, rfl, by omega, hmo, Keep.refl _, ?_, rfl⟩
      simp [Env.put, Env.of, argEnv, hvF, hsq]
    rintro n vs S - ⟨a, out1, rfl, h_a, hm1, hk1, rfl, rfl⟩
    refine W.seq_region fun K hK => ?_
    simp (disch := omega) only [↓RU, RV, RH, ↓reduceIte, Nat.reduceEqDiff, reduceCtorEq, if_pos, w64, ↓RS, RG, Nat.reduceAdd, Nat.reduceMul, Nat.reduceLeDiff, tyint]
    refine hK _ _ ?_
    clear hK K
    refine W.seq ?_
    refine W.cond rfl (fun h1 => ?_) (fun h1 => ?_)
    · try simp only [RL] at h1
      have hal : a < nr := by omega
      have hF := hvF_bound (M := M) (g := HB M ws nr) (b := b) (B := 909) (by omega) (i := a) fun a _ _ => (HB_bound hw a).2
      have hHa := HB_bound (M := M) (n := nr) hw a
      obtain ⟨row, hrow, hrl, hrb⟩ := hu.sq.at_ hal hb
      refine W.skip ?_
      refine XThen.norm ?_
      refine W.seq ?_
      refine W.block ?_
      refine W.seq_region fun K hK => ?_
      simp (disch := omega) only [↓RU, RV, RH, ↓reduceIte, Nat.reduceEqDiff, reduceCtorEq, if_pos, ↓RS, RG, Nat.reduceAdd, Nat.reduceMul, Nat.reduceLeDiff]
      refine hK _ _ ?_
      clear hK K
      refine W.seq_region fun K hK => ?_
      simp (disch := omega) only [↓RU, RV, RH, ↓reduceIte, Nat.reduceEqDiff, reduceCtorEq, if_pos, ↓RS, RG, Nat.reduceAdd, Nat.reduceMul, Nat.reduceLeDiff, tyLLbool, tyLbool, tybool, tyimpl_relation, hrow, hrb, hrl]
      refine hK _ _ ?_
      clear hK K
      refine W.cond rfl (fun h2 => ?_) (fun h2 => ?_)
      · try simp only [RL] at h2
        have hrk := hu.up a b hal hb h2
        refine W.region_k fun K hK => ?_
        simp (disch := omega) only [↓RU, RV, RH, ↓reduceIte, Nat.reduceEqDiff, reduceCtorEq, if_pos, List.append_nil, ite_max, ↓RS, RG, Nat.reduceAdd, Nat.reduceMul, Nat.reduceLeDiff, tyfunc_int_int, tyint]
        refine CallR.ev (ih a hal hrk out1 hm1) ?_
        rintro _ _ ⟨rfl, out2, hm2, hk2, ho2, rfl⟩
        simp (disch := omega) only [↓RU, RV, RH, ↓reduceIte, Nat.reduceEqDiff, reduceCtorEq, if_pos, List.append_nil, ite_max, ↓RS, RG, Nat.reduceAdd, Nat.reduceMul, Nat.reduceLeDiff, tyfunc_int_int, tyint]
        refine hK _ _ ?_
        clear hK K
        refine XBlock.norm ?_
        refine XThen.norm ?_
        refine W.region_k fun K hK => ?_
        simp (disch := omega) only [↓RU, RV, RH, ↓reduceIte, Nat.reduceEqDiff, reduceCtorEq, if_pos, w64, ↓RS, RG, Nat.reduceAdd, Nat.reduceMul, Nat.reduceLeDiff, tyint]
        refine hK _ _ ?_
        clear hK K
        refine XThen.norm ?_
        refine ⟨nr - (a + 1), by omega, 5, a + 1, out2, rfl, by omega, hm2, hk1.trans hk2, ?_, rfl⟩
        simp [Env.put, Env.of, hvF_succ, h2]
      · try simp only [RL] at h2
        refine W.skip ?_
        refine XBlock.norm ?_
        refine XThen.norm ?_
        refine W.region_k fun K hK => ?_
        simp (disch := omega) only [↓RU, RV, RH, ↓reduceIte, Nat.reduceEqDiff, reduceCtorEq, if_pos, w64, ↓RS, RG, Nat.reduceAdd, Nat.reduceMul, Nat.reduceLeDiff, tyint]
        refine hK _ _ ?_
        clear hK K
        refine XThen.norm ?_
        refine ⟨nr - (a + 1), by omega, 5, a + 1, out1, rfl, by omega, hm1, hk1, ?_, rfl⟩
        simp [Env.put, Env.of, hvF_succ, h2]
    · try simp only [RL] at h1
      obtain rfl : nr = a := by omega
      have hF := hvF_bound (M := M) (g := HB M ws nr) (b := b) (B := 909) (by omega) (i := nr) fun a _ _ => (HB_bound hw a).2
      have hm1l := hm1.1
      have hset : (out1.set b (HB M ws nr b))[b]? = some (HB M ws nr b) := by rw [List.getElem?_set, if_pos rfl, if_pos (by omega)]
      refine W.exit ?_
      refine XThen.exit ?_
      refine XThen.exit ?_
      refine XBlock.hit ?_
      refine XThen.norm ?_
      refine W.draw_k (by kernel_rfl) fun K hK => ?_
      simp (disch := omega) only [↓RU, RV, RH, ↓reduceIte, Nat.reduceEqDiff, reduceCtorEq, if_pos, w64, ↓RS, RG, Nat.reduceAdd, Nat.reduceMul, Nat.reduceLeDiff, tyLint, tyint, hwb, hm1l, set_spl, set_int, ← hHe]
      refine hK _ _ ?_
      clear hK K
      refine XThen.norm ?_
      refine W.seq_region fun K hK => ?_
      simp (disch := omega) only [↓RU, RV, RH, ↓reduceIte, Nat.reduceEqDiff, reduceCtorEq, if_pos, ↓RS, RG, Nat.reduceAdd, Nat.reduceMul, Nat.reduceLeDiff, tyLint, tyint, hset]
      refine hK _ _ ?_
      clear hK K
      refine W.ret ?_
      refine BodyQ.ret rfl ?_
      exact ⟨5, rfl, _, hm1.set, hk1.trans hm1.keep, hset, rfl⟩
  · try simp only [RL] at h0
    obtain rfl := hx0c.resolve_left h0
    have hset := hx0
    refine W.skip ?_
    refine XThen.norm ?_
    refine W.seq_region fun K hK => ?_
    simp (disch := omega) only [↓RU, RV, RH, ↓reduceIte, Nat.reduceEqDiff, reduceCtorEq, if_pos, ↓RS, RG, Nat.reduceAdd, Nat.reduceMul, Nat.reduceLeDiff, tyLint, tyint, hset]
    refine hK _ _ ?_
    clear hK K
    refine W.ret ?_
    refine BodyQ.ret rfl ?_
    exact ⟨5, rfl, _, hmo, Keep.refl _, hx0, rfl⟩

theorem heavy_ev {M : List (List Bool)} {ws : List Int} {nr : Nat} {rk : Nat → Nat} (hu : Up M nr rk) (hn : nr ≤ 9) (hwl : ws.length = nr) (hw : NeedOk ws) : ∀ (k b : Nat), rk b < k → b < nr → ∀ out, Memo M ws nr out → Ev Tryz.prog 108 [.int .i64 (b : Nat), .ref 3 3 0, .ref 0 0 0, .ref 4 4 0, .ref 1 1 0] ⟨[.arr 0 59 1 [eRel M], .arr 1 24 1 [eInts ws], .arr 2 3 1 ((out).map (.int .i64)), .arr 3 24 1 [.loc 2 2 0 nr], .arr 4 104 1 [.fn 108 [.ref 3 3 0, .ref 0 0 0, .ref 4 4 0, .ref 1 1 0]]], 5⟩ (fun v S => v = .int .i64 (HB M ws nr b) ∧ ∃ out2, Memo M ws nr out2 ∧ Keep out out2 ∧ out2[b]? = some (HB M ws nr b) ∧ S = ⟨[.arr 0 59 1 [eRel M], .arr 1 24 1 [eInts ws], .arr 2 3 1 ((out2).map (.int .i64)), .arr 3 24 1 [.loc 2 2 0 nr], .arr 4 104 1 [.fn 108 [.ref 3 3 0, .ref 0 0 0, .ref 4 4 0, .ref 1 1 0]]], 5⟩)
  | 0, b, h, _, _, _ => by omega
  | k + 1, b, h, hb, out, hm => heavy1_ev hu hn hwl hw hb hm fun a ha hr out0 h0 => heavy_ev hu hn hwl hw k a (by omega) ha out0 h0

theorem heaviest_pn {M : List (List Bool)} {ws : List Int} {nr : Nat} {rk : Nat → Nat} (hu : Up M nr rk) (hn : nr ≤ 9) (hwl : ws.length = nr) (hw : NeedOk ws) : PN Tryz.prog 67 [eRel M, eInts ws] (.loc 0 0 0 nr) [.arr 0 3 1 ((heaviest M ws nr).map (.int .i64))] false := by
  have hsq := hu.sq.1
  refine PN.of ⟨Tryz.func67, by kernel_rfl, rfl, by kernel_rfl⟩ tabOk mixed (by show 2 ≤ Tryz.f67.ntmps; decide) ?_
  refine W.seq_region fun K hK => ?_
  simp (disch := omega) only [↓RU, RV, RH, ↓reduceIte, Nat.reduceEqDiff, reduceCtorEq, if_pos, ↓RS, RG, Nat.reduceAdd, Nat.reduceMul, Nat.reduceLeDiff, tyLLbool, tyLbool, tyLint, tybool, tyimpl_relation, tyint]
  refine hK _ _ ?_
  clear hK K
  refine W.seq_region fun K hK => ?_
  simp (disch := omega) only [↓RU, RV, RH, ↓reduceIte, Nat.reduceEqDiff, reduceCtorEq, if_pos, ↓RS, RG, Nat.reduceAdd, Nat.reduceMul, Nat.reduceLeDiff, tyLLbool, tyLbool, tyLint, tybool, tyimpl_relation, tyint, hsq, repz_int, ile_true]
  refine hK _ _ ?_
  clear hK K
  refine W.seq_region fun K hK => ?_
  simp (disch := omega) only [↓RU, RV, RH, ↓reduceIte, Nat.reduceEqDiff, reduceCtorEq, if_pos, ↓RS, RG, Nat.reduceAdd, Nat.reduceMul, Nat.reduceLeDiff, tyfunc_int_int]
  refine hK _ _ ?_
  clear hK K
  refine W.seq_region fun K hK => ?_
  simp (disch := omega) only [↓RU, RV, RH, ↓reduceIte, Nat.reduceEqDiff, reduceCtorEq, if_pos, ↓RS, RG, Nat.reduceAdd, Nat.reduceMul, Nat.reduceLeDiff, tyfunc_int_int, cells_fn, ic_fn]
  refine hK _ _ ?_
  clear hK K
  refine W.seq ?_
  refine W.seq_region fun K hK => ?_
  simp (disch := omega) only [↓RU, RV, RH, ↓reduceIte, Nat.reduceEqDiff, reduceCtorEq, if_pos, ↓RS, RG, Nat.reduceAdd, Nat.reduceMul, Nat.reduceLeDiff, tyLLbool, tyLbool, tybool, tyimpl_relation, hsq]
  refine hK _ _ ?_
  clear hK K
  refine W.block ?_
  refine W.loop [5, 6, 13, 14] (fun n vs S => ∃ (b : Nat) (out : List Int), n = nr - b ∧ b ≤ nr ∧ Memo M ws nr out ∧ (∀ c, c < b → out[c]? = some (HB M ws nr c)) ∧ vs = [.ref 3 3 0, .ref 4 4 0, .int .i64 nr, .int .i64 b] ∧ S = ⟨[.arr 0 59 1 [eRel M], .arr 1 24 1 [eInts ws], .arr 2 3 1 ((out).map (.int .i64)), .arr 3 24 1 [.loc 2 2 0 nr], .arr 4 104 1 [.fn 108 [.ref 3 3 0, .ref 0 0 0, .ref 4 4 0, .ref 1 1 0]]], 5⟩) nr ?_ ?_
  · refine ⟨5, 0, List.replicate nr 0, rfl, by omega, memo_zero, fun c h => absurd h (by omega), ?_, ?_⟩
    · simp [Env.put, Env.of, argEnv, hsq]
    · simp [take_eq, spl, hsq]
  rintro n vs S - ⟨b, out, rfl, h_b, hm, hdone, rfl, rfl⟩
  refine W.seq_region fun K hK => ?_
  simp (disch := omega) only [↓RU, RV, RH, ↓reduceIte, Nat.reduceEqDiff, reduceCtorEq, if_pos, w64, ↓RS, RG, Nat.reduceAdd, Nat.reduceMul, Nat.reduceLeDiff, tyint]
  refine hK _ _ ?_
  clear hK K
  refine W.seq ?_
  refine W.cond rfl (fun h => ?_) (fun h => ?_)
  · try simp only [RL] at h
    have hbn : b < nr := by omega
    refine W.skip ?_
    refine XThen.norm ?_
    refine W.seq ?_
    refine W.block ?_
    refine W.seq_region fun K hK => ?_
    simp (disch := omega) only [↓RU, RV, RH, ↓reduceIte, Nat.reduceEqDiff, reduceCtorEq, if_pos, ↓RS, RG, Nat.reduceAdd, Nat.reduceMul, Nat.reduceLeDiff]
    refine hK _ _ ?_
    clear hK K
    refine W.region_k fun K hK => ?_
    simp (disch := omega) only [↓RU, RV, RH, ↓reduceIte, Nat.reduceEqDiff, reduceCtorEq, if_pos, List.append_nil, ↓RS, RG, Nat.reduceAdd, Nat.reduceMul, Nat.reduceLeDiff, tyfunc_int_int]
    refine CallR.ev (heavy_ev hu hn hwl hw (rk b + 1) b (by omega) hbn out hm) ?_
    rintro _ _ ⟨rfl, out2, hm2, hk2, ho2, rfl⟩
    simp (disch := omega) only [↓RU, RV, RH, ↓reduceIte, Nat.reduceEqDiff, reduceCtorEq, if_pos, List.append_nil, ↓RS, RG, Nat.reduceAdd, Nat.reduceMul, Nat.reduceLeDiff, tyfunc_int_int]
    refine hK _ _ ?_
    clear hK K
    refine XBlock.norm ?_
    refine XThen.norm ?_
    refine W.region_k fun K hK => ?_
    simp (disch := omega) only [↓RU, RV, RH, ↓reduceIte, Nat.reduceEqDiff, reduceCtorEq, if_pos, w64, ↓RS, RG, Nat.reduceAdd, Nat.reduceMul, Nat.reduceLeDiff, tyint]
    refine hK _ _ ?_
    clear hK K
    refine XThen.norm ?_
    refine ⟨nr - (b + 1), by omega, 5, b + 1, out2, rfl, by omega, hm2, ?_, ?_, rfl⟩
    · intro c hc
      by_cases e : c = b
      · subst e; exact ho2
      · have h1 := hdone c (by omega)
        exact hk2 c _ h1 (by have := HB_pos (M := M) (n := nr) hw (b := c) (by omega); omega)
    · simp [Env.put, Env.of]
  · try simp only [RL] at h
    obtain rfl : nr = b := by omega
    obtain rfl := memo_all hm hdone
    refine W.exit ?_
    refine XThen.exit ?_
    refine XThen.exit ?_
    refine XBlock.hit ?_
    refine XThen.norm ?_
    refine W.joinS [4] (fun vs S => ∃ v t : Nat, vs = [.loc 0 v 0 nr] ∧ S = ⟨[.arr v 3 1 ((heaviest M ws nr).map (.int .i64))], t⟩) ?_ ?_
    ·
      refine W.region_k fun K hK => ?_
      simp (disch := omega) only [↓RU, RV, RH, ↓reduceIte, Nat.reduceEqDiff, reduceCtorEq, if_pos, ↓RS, RG, Nat.reduceAdd, Nat.reduceMul, Nat.reduceLeDiff, tyLint, tyint]
      refine hK _ _ ?_
      clear hK K
      refine XThen.norm ?_
      refine ⟨0, [2], [.loc 0 5 0 nr], ⟨[.arr 5 3 1 ((heaviest M ws nr).map (.int .i64))], 6⟩, ?_, ?_, 5, 6, rfl, rfl⟩
      · simp [-List.mapM_map, Env.put, Env.of, argEnv, Srn_eq, rnObs_cons, rnObs_nil, rnOb_arr, rnOb_map, rn_loc, rn_ref, rn_mp, rn_int, rn_bool, rn_str, rn_ip, rn_sl, rn_nils, rn_nilp, rn_undef, rn_agg, rn_tup, rn_fn, rfq_loc, rfq_int, rfq_bool, rfq_str, rfq_sl, frOf, List.range_succ, List.mapM_append, List.mapM_cons]
      · simp [-List.mapM_map, Env.put, Env.of, argEnv, Srn_eq, rnObs_cons, rnObs_nil, rnOb_arr, rnOb_map, rn_loc, rn_ref, rn_mp, rn_int, rn_bool, rn_str, rn_ip, rn_sl, rn_nils, rn_nilp, rn_undef, rn_agg, rn_tup, rn_fn, rfq_loc, rfq_int, rfq_bool, rfq_str, rfq_sl, frOf, List.range_succ, List.mapM_append, List.mapM_cons, rn_ints]
    rintro vs S - ⟨v, t, rfl, rfl⟩
    refine W.ret ?_
    refine BodyQ.ret rfl ?_
    exact sh_one rfl (sh_ints _)

theorem max_pc {l : List Int} {x0 : Int} (h0 : l[0]? = some x0) (hl : l.length < 2147483648) : PC Tryz.prog 65 [eInts l] (.int .i64 (maxL l)) true := by
  have hl0 := len_of h0
  refine PC.of ⟨Tryz.func65, by kernel_rfl, rfl, by kernel_rfl⟩ tabOk mixed (by show 1 ≤ Tryz.f65.ntmps; decide) ?_
  refine W.seq_region fun K hK => ?_
  simp (disch := omega) only [↓RU, RV, RH, ↓reduceIte, Nat.reduceEqDiff, reduceCtorEq, if_pos]
  refine hK _ _ ?_
  clear hK K
  refine W.seq ?_
  refine W.seq_region fun K hK => ?_
  simp (disch := omega) only [↓RU, RV, RH, ↓reduceIte, Nat.reduceEqDiff, reduceCtorEq, if_pos, w64, tyLint, tyint]
  refine hK _ _ ?_
  clear hK K
  refine W.cond rfl (fun h => ?_) (fun h => ?_)
  · try simp only [RL] at h
    exfalso; omega
  · try simp only [RL] at h
    refine W.skip ?_
    refine XThen.norm ?_
    refine W.seq_region fun K hK => ?_
    simp (disch := omega) only [↓RU, RV, RH, ↓reduceIte, Nat.reduceEqDiff, reduceCtorEq, if_pos, tyLint, tyint, h0, Int.toNat_zero, Nat.zero_mul, Int.reduceToNat]
    refine hK _ _ ?_
    clear hK K
    refine W.seq ?_
    refine W.seq_region fun K hK => ?_
    simp (disch := omega) only [↓RU, RV, RH, ↓reduceIte, Nat.reduceEqDiff, reduceCtorEq, if_pos]
    refine hK _ _ ?_
    clear hK K
    refine W.block ?_
    refine W.loop [0, 3, 4] (fun n vs S => ∃ i : Nat, n = l.length - i ∧ i ≤ l.length ∧ (1 ≤ i) ∧ vs = [eInts l, .int .i64 (((l.take i).drop 1).foldl max x0), .int .i64 i] ∧ S = ⟨[], 0⟩) (l.length - 1) ?_ ?_
    · refine ⟨0, 1, rfl, by omega, Nat.le_refl _, ?_, rfl⟩
      simp [Env.put, Env.of, argEnv, maxL_start]
    rintro n vs S - ⟨i, rfl, h_i, h1i, rfl, rfl⟩
    refine W.seq ?_
    refine W.seq_region fun K hK => ?_
    simp (disch := omega) only [↓RU, RV, RH, ↓reduceIte, Nat.reduceEqDiff, reduceCtorEq, if_pos, w64, tyLint, tyint]
    refine hK _ _ ?_
    clear hK K
    refine W.cond rfl (fun h1 => ?_) (fun h1 => ?_)
    · try simp only [RL] at h1
      obtain ⟨x, hx, -⟩ := get_of (show i < l.length by omega)
      refine W.skip ?_
      refine XThen.norm ?_
      refine W.seq ?_
      refine W.block ?_
      refine W.region_k fun K hK => ?_
      simp (disch := omega) only [↓RU, RV, RH, ↓reduceIte, Nat.reduceEqDiff, reduceCtorEq, if_pos, ite_max, tyLint, tyint, hx]
      refine hK _ _ ?_
      clear hK K
      refine XBlock.norm ?_
      refine XThen.norm ?_
      refine W.region_k fun K hK => ?_
      simp (disch := omega) only [↓RU, RV, RH, ↓reduceIte, Nat.reduceEqDiff, reduceCtorEq, if_pos, w64, tyint]
      refine hK _ _ ?_
      clear hK K
      refine XThen.norm ?_
      refine ⟨l.length - (i + 1), by omega, 0, i + 1, rfl, by omega, by omega, ?_, rfl⟩
      rw [maxL_step h1i hx]
      simp [Env.put, Env.of]
    · try simp only [RL] at h1
      refine W.exit ?_
      refine XThen.exit ?_
      refine XThen.exit ?_
      refine XBlock.hit ?_
      refine XThen.norm ?_
      refine W.seq_region fun K hK => ?_
      simp (disch := omega) only [↓RU, RV, RH, ↓reduceIte, Nat.reduceEqDiff, reduceCtorEq, if_pos]
      refine hK _ _ ?_
      clear hK K
      refine W.ret ?_
      refine BodyQ.ret rfl ?_
      rw [maxL_end h0 (by omega)]
      rfl

end Fw
end Go.Proofs.YtcglmbijpjhbmaaGreat

/-! Areas, gone through. -/
namespace Go.Proofs.YtcglmbijpjhbmaaGreat
namespace Fw
open Go

def areaOf (p : List Txt) (ws hs : List Int) : Int := if needsB p ws && needsB p hs then least (allS p 0) ws * least (allS p 1) hs else 0

theorem sSizeArea_pc {p : List Txt} (hs : Sm p) {ws ht : List Int} (hw : ws.length ≤ 1048576) (hh : ht.length ≤ 1048576) : PC Tryz.prog 17 [eStrs p, eInts ws, eInts ht] (.tup [.int .i64 (areaOf p ws ht), .bool (needsB p ws && needsB p ht)]) true := by
  refine PC.of ⟨Tryz.func17, by kernel_rfl, rfl, by kernel_rfl⟩ tabOk mixed (by show 3 ≤ Tryz.f17.ntmps; decide) ?_
  refine W.seq_region fun K hK => ?_
  simp (disch := omega) only [↓RU, RV, RH, ↓reduceIte, Nat.reduceEqDiff, reduceCtorEq, if_pos]
  refine hK _ _ ?_
  clear hK K
  refine W.seq ?_
  refine W.seq_region fun K hK => ?_
  cases hg : needsB p ws
  · skip
    simp (disch := omega) only [↓RU, RV, RH, ↓reduceIte, Nat.reduceEqDiff, reduceCtorEq, if_pos, List.append_nil, hg]
    refine CallR.pc (l7Needs_pc hs hw) rfl (.inl rfl) ?_
    simp (disch := omega) only [↓RU, RV, RH, ↓reduceIte, Nat.reduceEqDiff, reduceCtorEq, if_pos, List.append_nil, hg]
    refine hK _ _ ?_
    clear hK K
    refine W.cond rfl (fun h0 => ?_) (fun h0 => ?_)
    · try simp only [RL] at h0
      refine W.seq_region fun K hK => ?_
      simp (disch := omega) only [↓RU, RV, RH, ↓reduceIte, Nat.reduceEqDiff, reduceCtorEq, if_pos]
      refine hK _ _ ?_
      clear hK K
      refine W.ret ?_
      refine XThen.ret ?_
      refine BodyQ.ret rfl ?_
      rw [show areaOf p ws ht = 0 by simp [areaOf, hg], hg]
      rfl
    · try simp only [RL] at h0
      exact absurd h0 (by simp)
  · skip
    simp (disch := omega) only [↓RU, RV, RH, ↓reduceIte, Nat.reduceEqDiff, reduceCtorEq, if_pos, List.append_nil, hg]
    refine CallR.pc (l7Needs_pc hs hw) rfl (.inl rfl) ?_
    simp (disch := omega) only [↓RU, RV, RH, ↓reduceIte, Nat.reduceEqDiff, reduceCtorEq, if_pos, List.append_nil, hg]
    refine CallR.pc (l7Needs_pc hs hh) rfl (.inl rfl) ?_
    simp (disch := omega) only [↓RU, RV, RH, ↓reduceIte, Nat.reduceEqDiff, reduceCtorEq, if_pos, List.append_nil, hg]
    refine hK _ _ ?_
    clear hK K
    refine W.cond rfl (fun h1 => ?_) (fun h1 => ?_)
    · try simp only [RL] at h1
      refine W.seq_region fun K hK => ?_
      simp (disch := omega) only [↓RU, RV, RH, ↓reduceIte, Nat.reduceEqDiff, reduceCtorEq, if_pos]
      refine hK _ _ ?_
      clear hK K
      refine W.ret ?_
      refine XThen.ret ?_
      refine BodyQ.ret rfl ?_
      rw [show areaOf p ws ht = 0 by simp [areaOf, h1], hg, h1]
      rfl
    · try simp only [RL] at h1
      obtain ⟨k1, k2, k3, k4, k5, k6⟩ := needsB_ok hg
      obtain ⟨_, _, _, l4, l5, l6⟩ := needsB_ok h1
      have b1 := least_bnd (sets := allS p 0) k6 k5
      have b2 := least_bnd (sets := allS p 1) l6 l5
      have b3 := Int.mul_nonneg b1.1 b2.1
      have b4 := Int.mul_le_mul b1.2 b2.2 b2.1 (by omega)
      refine W.skip ?_
      refine XThen.norm ?_
      refine W.seq_region fun K hK => ?_
      simp (disch := omega) only [↓RU, RV, RH, ↓reduceIte, Nat.reduceEqDiff, reduceCtorEq, if_pos, List.append_nil, w64, tyint]
      refine CallR.pc (l7Least_pc hs k2 k3 k4 k6 0) rfl (.inl rfl) ?_
      simp (disch := omega) only [↓RU, RV, RH, ↓reduceIte, Nat.reduceEqDiff, reduceCtorEq, if_pos, List.append_nil, w64, tyint]
      refine CallR.pc (l7Least_pc hs k2 k3 l4 l6 1) rfl (.inl rfl) ?_
      simp (disch := omega) only [↓RU, RV, RH, ↓reduceIte, Nat.reduceEqDiff, reduceCtorEq, if_pos, List.append_nil, w64, tyint]
      refine hK _ _ ?_
      clear hK K
      refine W.ret ?_
      refine BodyQ.ret rfl ?_
      rw [show areaOf p ws ht = least (allS p 0) ws * least (allS p 1) ht by simp [areaOf, hg, h1], hg, h1]
      rfl

theorem sizeWide_pc {p : List Txt} (hs : Sm p) {ws : List Int} (hw : ws.length ≤ 1048576) (hrm : plainI p = true → RmOk (gP p) p.length (w0 (readG p)) (rP p).length) (hup : plainI p = true → ∃ rk, Up (leftG (gP p) p.length (w0 (readG p)) (rP p).length) (rP p).length rk) : PC Tryz.prog 18 [eStrs p, eInts ws] (sizeV (needV p [ws]) (leftG (gP p) p.length (w0 (readG p)) (rP p).length) ws (rP p).length) true := by
  refine PC.of ⟨Tryz.func18, by kernel_rfl, rfl, by kernel_rfl⟩ tabOk mixed (by show 2 ≤ Tryz.f18.ntmps; decide) ?_
  refine W.seq_region fun K hK => ?_
  simp (disch := omega) only [↓RU, RV, RH, ↓reduceIte, Nat.reduceEqDiff, reduceCtorEq, if_pos, ↓RS, RG, Nat.reduceAdd, Nat.reduceMul, Nat.reduceLeDiff]
  refine hK _ _ ?_
  clear hK K
  refine W.seq_region fun K hK => ?_
  simp (disch := omega) only [↓RU, RV, RH, ↓reduceIte, Nat.reduceEqDiff, reduceCtorEq, if_pos, List.append_nil, ↓RS, RG, Nat.reduceAdd, Nat.reduceMul, Nat.reduceLeDiff, tyLLint, tyLint, tyint]
  refine CallR.ev (needing_ev hs (wss := [ws]) (by simp) (by intro a ha; rw [List.mem_singleton] at ha; subst ha; exact hw)) ?_
  rintro _ _ ⟨x, rfl, hx, rfl⟩
  simp (disch := omega) only [↓RU, RV, RH, ↓reduceIte, Nat.reduceEqDiff, reduceCtorEq, if_pos, List.append_nil, ↓RS, RG, Nat.reduceAdd, Nat.reduceMul, Nat.reduceLeDiff, tyLLint, tyLint, tyint]
  refine hK _ _ ?_
  clear hK K
  refine W.seq ?_
  refine W.seq_region fun K hK => ?_
  simp (disch := omega) only [↓RU, RV, RH, ↓reduceIte, Nat.reduceEqDiff, reduceCtorEq, if_pos, ↓RS, RG, Nat.reduceAdd, Nat.reduceMul, Nat.reduceLeDiff]
  refine hK _ _ ?_
  clear hK K
  refine W.cond rfl (fun h => ?_) (fun h => ?_)
  · try simp only [RL] at h
    refine W.seq_region fun K hK => ?_
    simp (disch := omega) only [↓RU, RV, RH, ↓reduceIte, Nat.reduceEqDiff, reduceCtorEq, if_pos, ↓RS, RG, Nat.reduceAdd, Nat.reduceMul, Nat.reduceLeDiff]
    refine hK _ _ ?_
    clear hK K
    refine W.ret ?_
    refine XThen.ret ?_
    refine BodyQ.ret rfl ?_
    rw [h]
    rfl
  · try simp only [RL] at h
    obtain rfl := hx h
    obtain ⟨hpl, hwl, hwok⟩ := needV_one h
    have hok := (plain_okB hpl).1
    have hg := okB_gw hok
    have hn9 := okB_rooms hok
    have hn1 := okB_rooms1 hok
    obtain ⟨rk, hu⟩ := hup hpl
    have hhl := heaviest_len (M := (leftG (gP p) p.length (w0 (readG p)) (rP p).length)) (ws := ws) (n := (rP p).length)
    obtain ⟨y0, hy0, -⟩ := get_of (show 0 < (heaviest (leftG (gP p) p.length (w0 (readG p)) (rP p).length) ws (rP p).length).length by omega)
    refine W.skip ?_
    refine XThen.norm ?_
    refine W.seq_region fun K hK => ?_
    simp (disch := omega) only [↓RU, RV, RH, ↓reduceIte, Nat.reduceEqDiff, reduceCtorEq, if_pos, List.append_nil, ↓RS, RG, Nat.reduceAdd, Nat.reduceMul, Nat.reduceLeDiff, tyLLbool, tyLbool, tybool, tyimpl_orders, tyimpl_relation, tystruct_left_impl_relation_above_impl_relation_]
    refine CallR.pc (orders_pc hg rfl hn9 (hrm hpl)) rfl (.inl rfl) ?_
    simp (disch := omega) only [↓RU, RV, RH, ↓reduceIte, Nat.reduceEqDiff, reduceCtorEq, if_pos, List.append_nil, ↓RS, RG, Nat.reduceAdd, Nat.reduceMul, Nat.reduceLeDiff, tyLLbool, tyLbool, tybool, tyimpl_orders, tyimpl_relation, tystruct_left_impl_relation_above_impl_relation_]
    refine CallR.pn (heaviest_pn hu hn9 hwl hwok) rfl (.inl rfl) ?_
    simp (disch := omega) only [↓RU, RV, RH, ↓reduceIte, Nat.reduceEqDiff, reduceCtorEq, if_pos, List.append_nil, ↓RS, RG, Nat.reduceAdd, Nat.reduceMul, Nat.reduceLeDiff, tyLLbool, tyLbool, tybool, tyimpl_orders, tyimpl_relation, tystruct_left_impl_relation_above_impl_relation_, RN]
    refine CallR.pc (max_pc hy0 (by omega)) (mapM_one (reify_hv (k := 8) rfl) rfl) (.inl rfl) ?_
    simp (disch := omega) only [↓RU, RV, RH, ↓reduceIte, Nat.reduceEqDiff, reduceCtorEq, if_pos, List.append_nil, ↓RS, RG, Nat.reduceAdd, Nat.reduceMul, Nat.reduceLeDiff, tyLLbool, tyLbool, tybool, tyimpl_orders, tyimpl_relation, tystruct_left_impl_relation_above_impl_relation_]
    refine hK _ _ ?_
    clear hK K
    refine W.ret ?_
    refine BodyQ.ret rfl ?_
    rw [h]
    rfl

theorem sizeHigh_pc {p : List Txt} (hs : Sm p) {ws : List Int} (hw : ws.length ≤ 1048576) (hrm : plainI p = true → RmOk (gP p) p.length (w0 (readG p)) (rP p).length) (hup : plainI p = true → ∃ rk, Up (aboveG (gP p) p.length (w0 (readG p)) (rP p).length) (rP p).length rk) : PC Tryz.prog 19 [eStrs p, eInts ws] (sizeV (needV p [ws]) (aboveG (gP p) p.length (w0 (readG p)) (rP p).length) ws (rP p).length) true := by
  refine PC.of ⟨Tryz.func19, by kernel_rfl, rfl, by kernel_rfl⟩ tabOk mixed (by show 2 ≤ Tryz.f19.ntmps; decide) ?_
  refine W.seq_region fun K hK => ?_
  simp (disch := omega) only [↓RU, RV, RH, ↓reduceIte, Nat.reduceEqDiff, reduceCtorEq, if_pos, ↓RS, RG, Nat.reduceAdd, Nat.reduceMul, Nat.reduceLeDiff]
  refine hK _ _ ?_
  clear hK K
  refine W.seq_region fun K hK => ?_
  simp (disch := omega) only [↓RU, RV, RH, ↓reduceIte, Nat.reduceEqDiff, reduceCtorEq, if_pos, List.append_nil, ↓RS, RG, Nat.reduceAdd, Nat.reduceMul, Nat.reduceLeDiff, tyLLint, tyLint, tyint]
  refine CallR.ev (needing_ev hs (wss := [ws]) (by simp) (by intro a ha; rw [List.mem_singleton] at ha; subst ha; exact hw)) ?_
  rintro _ _ ⟨x, rfl, hx, rfl⟩
  simp (disch := omega) only [↓RU, RV, RH, ↓reduceIte, Nat.reduceEqDiff, reduceCtorEq, if_pos, List.append_nil, ↓RS, RG, Nat.reduceAdd, Nat.reduceMul, Nat.reduceLeDiff, tyLLint, tyLint, tyint]
  refine hK _ _ ?_
  clear hK K
  refine W.seq ?_
  refine W.seq_region fun K hK => ?_
  simp (disch := omega) only [↓RU, RV, RH, ↓reduceIte, Nat.reduceEqDiff, reduceCtorEq, if_pos, ↓RS, RG, Nat.reduceAdd, Nat.reduceMul, Nat.reduceLeDiff]
  refine hK _ _ ?_
  clear hK K
  refine W.cond rfl (fun h => ?_) (fun h => ?_)
  · try simp only [RL] at h
    refine W.seq_region fun K hK => ?_
    simp (disch := omega) only [↓RU, RV, RH, ↓reduceIte, Nat.reduceEqDiff, reduceCtorEq, if_pos, ↓RS, RG, Nat.reduceAdd, Nat.reduceMul, Nat.reduceLeDiff]
    refine hK _ _ ?_
    clear hK K
    refine W.ret ?_
    refine XThen.ret ?_
    refine BodyQ.ret rfl ?_
    rw [h]
    rfl
  · try simp only [RL] at h
    obtain rfl := hx h
    obtain ⟨hpl, hwl, hwok⟩ := needV_one h
    have hok := (plain_okB hpl).1
    have hg := okB_gw hok
    have hn9 := okB_rooms hok
    have hn1 := okB_rooms1 hok
    obtain ⟨rk, hu⟩ := hup hpl
    have hhl := heaviest_len (M := (aboveG (gP p) p.length (w0 (readG p)) (rP p).length)) (ws := ws) (n := (rP p).length)
    obtain ⟨y0, hy0, -⟩ := get_of (show 0 < (heaviest (aboveG (gP p) p.length (w0 (readG p)) (rP p).length) ws (rP p).length).length by omega)
    refine W.skip ?_
    refine XThen.norm ?_
    refine W.seq_region fun K hK => ?_
    simp (disch := omega) only [↓RU, RV, RH, ↓reduceIte, Nat.reduceEqDiff, reduceCtorEq, if_pos, List.append_nil, ↓RS, RG, Nat.reduceAdd, Nat.reduceMul, Nat.reduceLeDiff, tyLLbool, tyLbool, tybool, tyimpl_orders, tyimpl_relation, tystruct_left_impl_relation_above_impl_relation_]
    refine CallR.pc (orders_pc hg rfl hn9 (hrm hpl)) rfl (.inl rfl) ?_
    simp (disch := omega) only [↓RU, RV, RH, ↓reduceIte, Nat.reduceEqDiff, reduceCtorEq, if_pos, List.append_nil, ↓RS, RG, Nat.reduceAdd, Nat.reduceMul, Nat.reduceLeDiff, tyLLbool, tyLbool, tybool, tyimpl_orders, tyimpl_relation, tystruct_left_impl_relation_above_impl_relation_]
    refine CallR.pn (heaviest_pn hu hn9 hwl hwok) rfl (.inl rfl) ?_
    simp (disch := omega) only [↓RU, RV, RH, ↓reduceIte, Nat.reduceEqDiff, reduceCtorEq, if_pos, List.append_nil, ↓RS, RG, Nat.reduceAdd, Nat.reduceMul, Nat.reduceLeDiff, tyLLbool, tyLbool, tybool, tyimpl_orders, tyimpl_relation, tystruct_left_impl_relation_above_impl_relation_, RN]
    refine CallR.pc (max_pc hy0 (by omega)) (mapM_one (reify_hv (k := 8) rfl) rfl) (.inl rfl) ?_
    simp (disch := omega) only [↓RU, RV, RH, ↓reduceIte, Nat.reduceEqDiff, reduceCtorEq, if_pos, List.append_nil, ↓RS, RG, Nat.reduceAdd, Nat.reduceMul, Nat.reduceLeDiff, tyLLbool, tyLbool, tybool, tyimpl_orders, tyimpl_relation, tystruct_left_impl_relation_above_impl_relation_]
    refine hK _ _ ?_
    clear hK K
    refine W.ret ?_
    refine BodyQ.ret rfl ?_
    rw [h]
    rfl

theorem sizeArea_pc {p : List Txt} (hs : Sm p) {ws ht : List Int} (hw : ws.length ≤ 1048576) (hh : ht.length ≤ 1048576) (hrm : plainI p = true → RmOk (gP p) p.length (w0 (readG p)) (rP p).length) (hl : plainI p = true → ∃ rk, Up (leftG (gP p) p.length (w0 (readG p)) (rP p).length) (rP p).length rk) (ha : plainI p = true → ∃ rk, Up (aboveG (gP p) p.length (w0 (readG p)) (rP p).length) (rP p).length rk) : PC Tryz.prog 16 [eStrs p, eInts ws, eInts ht] (.tup [.int .i64 (areaI p ws ht), .bool (needV p [ws] && needV p [ht])]) true := by
  have hpw := sizeWide_pc hs hw hrm hl
  have hph := sizeHigh_pc hs hh hrm ha
  refine PC.of ⟨Tryz.func16, by kernel_rfl, rfl, by kernel_rfl⟩ tabOk mixed (by show 3 ≤ Tryz.f16.ntmps; decide) ?_
  refine W.seq_region fun K hK => ?_
  simp (disch := omega) only [↓RU, RV, RH, ↓reduceIte, Nat.reduceEqDiff, reduceCtorEq, if_pos]
  refine hK _ _ ?_
  clear hK K
  refine W.seq_region fun K hK => ?_
  rcases hx : (needV p [ws], needV p [ht]) with ⟨_ | _, _ | _⟩
  · skip
    simp only [Prod.mk.injEq] at hx
    obtain ⟨hx1, hx2⟩ := hx
    rw [hx1] at hpw
    rw [hx2] at hph
    simp (disch := omega) only [↓RU, RV, RH, ↓reduceIte, Nat.reduceEqDiff, reduceCtorEq, if_pos, List.append_nil, sizeV_f]
    refine CallR.pc (hpw) rfl (.inl rfl) ?_
    simp (disch := omega) only [↓RU, RV, RH, ↓reduceIte, Nat.reduceEqDiff, reduceCtorEq, if_pos, List.append_nil, sizeV_f]
    refine hK _ _ ?_
    clear hK K
    refine W.seq_region fun K hK => ?_
    simp (disch := omega) only [↓RU, RV, RH, ↓reduceIte, Nat.reduceEqDiff, reduceCtorEq, if_pos, List.append_nil, sizeV_t, sizeV_f]
    refine CallR.pc (hph) rfl (.inl rfl) ?_
    simp (disch := omega) only [↓RU, RV, RH, ↓reduceIte, Nat.reduceEqDiff, reduceCtorEq, if_pos, List.append_nil, sizeV_t, sizeV_f]
    refine hK _ _ ?_
    clear hK K
    refine W.seq ?_
    refine W.seq_region fun K hK => ?_
    simp (disch := omega) only [↓RU, RV, RH, ↓reduceIte, Nat.reduceEqDiff, reduceCtorEq, if_pos]
    refine hK _ _ ?_
    clear hK K
    refine W.cond rfl (fun h0 => ?_) (fun h0 => ?_)
    · try simp only [RL] at h0
      refine W.seq_region fun K hK => ?_
      simp (disch := omega) only [↓RU, RV, RH, ↓reduceIte, Nat.reduceEqDiff, reduceCtorEq, if_pos]
      refine hK _ _ ?_
      clear hK K
      refine W.ret ?_
      refine XThen.ret ?_
      refine BodyQ.ret rfl ?_
      rw [areaI, hx1, hx2]
      rfl
    · try simp only [RL] at h0
      exact absurd h0 (by simp)
  · skip
    simp only [Prod.mk.injEq] at hx
    obtain ⟨hx1, hx2⟩ := hx
    rw [hx1] at hpw
    rw [hx2] at hph
    simp (disch := omega) only [↓RU, RV, RH, ↓reduceIte, Nat.reduceEqDiff, reduceCtorEq, if_pos, List.append_nil, sizeV_f]
    refine CallR.pc (hpw) rfl (.inl rfl) ?_
    simp (disch := omega) only [↓RU, RV, RH, ↓reduceIte, Nat.reduceEqDiff, reduceCtorEq, if_pos, List.append_nil, sizeV_f]
    refine hK _ _ ?_
    clear hK K
    refine W.seq_region fun K hK => ?_
    simp (disch := omega) only [↓RU, RV, RH, ↓reduceIte, Nat.reduceEqDiff, reduceCtorEq, if_pos, List.append_nil, sizeV_t, sizeV_f]
    refine CallR.pc (hph) rfl (.inl rfl) ?_
    simp (disch := omega) only [↓RU, RV, RH, ↓reduceIte, Nat.reduceEqDiff, reduceCtorEq, if_pos, List.append_nil, sizeV_t, sizeV_f]
    refine hK _ _ ?_
    clear hK K
    refine W.seq ?_
    refine W.seq_region fun K hK => ?_
    simp (disch := omega) only [↓RU, RV, RH, ↓reduceIte, Nat.reduceEqDiff, reduceCtorEq, if_pos]
    refine hK _ _ ?_
    clear hK K
    refine W.cond rfl (fun h0 => ?_) (fun h0 => ?_)
    · try simp only [RL] at h0
      refine W.seq_region fun K hK => ?_
      simp (disch := omega) only [↓RU, RV, RH, ↓reduceIte, Nat.reduceEqDiff, reduceCtorEq, if_pos]
      refine hK _ _ ?_
      clear hK K
      refine W.ret ?_
      refine XThen.ret ?_
      refine BodyQ.ret rfl ?_
      rw [areaI, hx1, hx2]
      rfl
    · try simp only [RL] at h0
      exact absurd h0 (by simp)
  · skip
    simp only [Prod.mk.injEq] at hx
    obtain ⟨hx1, hx2⟩ := hx
    rw [hx1] at hpw
    rw [hx2] at hph
    simp (disch := omega) only [↓RU, RV, RH, ↓reduceIte, Nat.reduceEqDiff, reduceCtorEq, if_pos, List.append_nil, sizeV_t]
    refine CallR.pc (hpw) rfl (.inl rfl) ?_
    simp (disch := omega) only [↓RU, RV, RH, ↓reduceIte, Nat.reduceEqDiff, reduceCtorEq, if_pos, List.append_nil, sizeV_t]
    refine hK _ _ ?_
    clear hK K
    refine W.seq_region fun K hK => ?_
    simp (disch := omega) only [↓RU, RV, RH, ↓reduceIte, Nat.reduceEqDiff, reduceCtorEq, if_pos, List.append_nil, sizeV_t, sizeV_f]
    refine CallR.pc (hph) rfl (.inl rfl) ?_
    simp (disch := omega) only [↓RU, RV, RH, ↓reduceIte, Nat.reduceEqDiff, reduceCtorEq, if_pos, List.append_nil, sizeV_t, sizeV_f]
    refine hK _ _ ?_
    clear hK K
    refine W.seq ?_
    refine W.seq_region fun K hK => ?_
    simp (disch := omega) only [↓RU, RV, RH, ↓reduceIte, Nat.reduceEqDiff, reduceCtorEq, if_pos]
    refine hK _ _ ?_
    clear hK K
    refine W.cond rfl (fun h0 => ?_) (fun h0 => ?_)
    · try simp only [RL] at h0
      refine W.seq_region fun K hK => ?_
      simp (disch := omega) only [↓RU, RV, RH, ↓reduceIte, Nat.reduceEqDiff, reduceCtorEq, if_pos]
      refine hK _ _ ?_
      clear hK K
      refine W.ret ?_
      refine XThen.ret ?_
      refine BodyQ.ret rfl ?_
      rw [areaI, hx1, hx2]
      rfl
    · try simp only [RL] at h0
      exact absurd h0 (by simp)
  · skip
    simp only [Prod.mk.injEq] at hx
    obtain ⟨hx1, hx2⟩ := hx
    rw [hx1] at hpw
    rw [hx2] at hph
    simp (disch := omega) only [↓RU, RV, RH, ↓reduceIte, Nat.reduceEqDiff, reduceCtorEq, if_pos, List.append_nil, sizeV_t]
    refine CallR.pc (hpw) rfl (.inl rfl) ?_
    simp (disch := omega) only [↓RU, RV, RH, ↓reduceIte, Nat.reduceEqDiff, reduceCtorEq, if_pos, List.append_nil, sizeV_t]
    refine hK _ _ ?_
    clear hK K
    refine W.seq_region fun K hK => ?_
    simp (disch := omega) only [↓RU, RV, RH, ↓reduceIte, Nat.reduceEqDiff, reduceCtorEq, if_pos, List.append_nil, sizeV_t, sizeV_f]
    refine CallR.pc (hph) rfl (.inl rfl) ?_
    simp (disch := omega) only [↓RU, RV, RH, ↓reduceIte, Nat.reduceEqDiff, reduceCtorEq, if_pos, List.append_nil, sizeV_t, sizeV_f]
    refine hK _ _ ?_
    clear hK K
    refine W.seq ?_
    refine W.seq_region fun K hK => ?_
    simp (disch := omega) only [↓RU, RV, RH, ↓reduceIte, Nat.reduceEqDiff, reduceCtorEq, if_pos]
    refine hK _ _ ?_
    clear hK K
    refine W.cond rfl (fun h0 => ?_) (fun h0 => ?_)
    · try simp only [RL] at h0
      exact absurd h0 (by simp)
    · try simp only [RL] at h0
      have b2 := maxH_bound (M := (leftG (gP p) p.length (w0 (readG p)) (rP p).length)) (ws := ws) (n := (rP p).length) (needV_one hx1).2.2
      have b3 := maxH_bound (M := (aboveG (gP p) p.length (w0 (readG p)) (rP p).length)) (ws := ht) (n := (rP p).length) (needV_one hx2).2.2
      have b4 := Int.mul_nonneg b2.1 b3.1
      have b5 := Int.mul_le_mul b2.2 b3.2 b3.1 (by omega)
      refine W.skip ?_
      refine XThen.norm ?_
      refine W.seq_region fun K hK => ?_
      simp (disch := omega) only [↓RU, RV, RH, ↓reduceIte, Nat.reduceEqDiff, reduceCtorEq, if_pos, w64, tyint]
      refine hK _ _ ?_
      clear hK K
      refine W.ret ?_
      refine BodyQ.ret rfl ?_
      rw [areaI, hx1, hx2]
      rfl

end Fw
end Go.Proofs.YtcglmbijpjhbmaaGreat

/-! Where rooms begin and how far they may be moved: the program's lists are the specification's. -/
namespace Go.Proofs.YtcglmbijpjhbmaaGreat
namespace Fw
open Go

/-- One list up to a place, another one from it on. -/
theorem mix_succ {α : Type} {a b : List α} {i : Nat} {x : α} (ha : a[i]? = some x) (hl : a.length = b.length) : (a.take i ++ b.drop i).set i x = a.take (i + 1) ++ b.drop (i + 1) := by
  have hi := len_of ha
  apply List.ext_getElem?
  intro j
  rw [List.getElem?_set]
  by_cases hj : i = j
  · subst hj
    rw [if_pos rfl, if_pos (by simp; omega), tk ha, List.append_assoc, List.getElem?_append_right (by simp; omega)]
    simp [Nat.min_eq_left (Nat.le_of_lt hi)]
  · rw [if_neg hj]
    by_cases hlt : j < i
    · rw [List.getElem?_append_left (by simp; omega), List.getElem?_append_left (by simp; omega)]
      simp [List.getElem?_take, hlt, show j < i + 1 by omega]
    · rw [List.getElem?_append_right (by simp; omega), List.getElem?_append_right (by simp; omega)]
      simp only [List.length_take, Nat.min_eq_left (Nat.le_of_lt hi), Nat.min_eq_left (show i + 1 ≤ a.length by omega), List.getElem?_drop]
      congr 1
      omega
theorem mix_at {α : Type} {a b : List α} {i : Nat} (hl : a.length = b.length) : (a.take i ++ b.drop i)[i]? = b[i]? := by
  by_cases hi : i < a.length
  · rw [List.getElem?_append_right (by simp; omega)]
    simp [Nat.min_eq_left (Nat.le_of_lt hi)]
  · rw [List.getElem?_eq_none (by simp; omega), List.getElem?_eq_none (by omega)]
theorem mix_len {α : Type} {a b : List α} {i : Nat} (hl : a.length = b.length) : (a.take i ++ b.drop i).length = b.length := by simp; omega

section
variable {M : List (List Bool)} {ms : List Nat} {ws : List Int} {n : Nat} {rk : Nat → Nat}

def bhB (sets : List Nat) (needs : List Int) (a : Nat) (out : List Int) (b : Nat) : List Int :=
  if bitOf sets a b then out.set a (max (getI out a) (getI out b + getI needs b)) else out
def bhA (sets : List Nat) (needs : List Int) (out : List Int) (a : Nat) : List Int := (List.range needs.length).foldl (bhB sets needs a) out
def bhN (sets : List Nat) (needs : List Int) (out : List Int) (_ : Nat) : List Int := (List.range needs.length).foldl (bhA sets needs) out
def behind (sets : List Nat) (needs : List Int) : List Int := (List.range needs.length).foldl (bhN sets needs) (List.replicate needs.length 0)
end
/-- A plan's relation of rooms to the left: all that the sizes want. -/
theorem plan_same {p : List Txt} {ws : List Int} (h : needV p [ws] = true) : Same (rP p).length (leftG (gP p) p.length (w0 (readG p)) (rP p).length) (allS p 0) ∧ Same (rP p).length (aboveG (gP p) p.length (w0 (readG p)) (rP p).length) (allS p 1) ∧
    Up (leftG (gP p) p.length (w0 (readG p)) (rP p).length) (rP p).length (rkL p) ∧ Up (aboveG (gP p) p.length (w0 (readG p)) (rP p).length) (rP p).length (rkA p) ∧ ws.length = (rP p).length ∧ 1 ≤ (rP p).length ∧ NeedOk ws := by
  obtain ⟨h1, h2, h3⟩ := needV_one h
  have hok : okB p = true := by
    have h9 := h1
    unfold plainI floorI at h9
    simp only [Bool.and_eq_true] at h9
    exact h9.1.1
  have hn1 := okB_rooms1 hok
  rw [plainI_plain] at h1
  have hp := plain_plan h1
  have hN := plan_named hp
  obtain ⟨u0, u1⟩ := plan_up hp
  have hr := hN.rooms
  obtain ⟨s0, s1⟩ := same_all hN.hg (n := (rP p).length) (by omega) (fun i j hi hj => hN.cell hi hj) gP_room
  rw [w0_read]
  exact ⟨s0, s1, u0, u1, h2, hn1, h3⟩
end Fw
end Go.Proofs.YtcglmbijpjhbmaaGreat

/-! Shapes in plain words: the program's least shapes are the specification's. -/
namespace Go.Proofs.YtcglmbijpjhbmaaGreat
namespace Fw
open Go

/-- The first of so many places at which f is least. -/
def bst (f : Nat → Int) : Nat → Nat
  | 0 => 0
  | k + 1 => if f k < f (bst f k) then k else bst f k
theorem bst_lt {f : Nat → Int} : ∀ {k : Nat}, 1 ≤ k → bst f k < k
  | 1, _ => by simp [bst]
  | k + 2, _ => by
    have ih := bst_lt (f := f) (k := k + 1) (by omega)
    rw [bst]; split <;> omega
theorem bst_congr {f g : Nat → Int} : ∀ {k : Nat}, (∀ s, s < k → f s = g s) → bst f k = bst g k
  | 0, _ => rfl
  | k + 1, h => by
    have ih := bst_congr (f := f) (g := g) (k := k) fun s hs => h s (by omega)
    rw [bst, bst, ih, h k (by omega)]
    have e : f (bst g k) = g (bst g k) := by
      cases k with
      | zero => exact h 0 (by omega)
      | succ k => exact h _ (by have := bst_lt (f := g) (k := k + 1) (by omega); omega)
    rw [e]

/-- Needs with some rooms turned. -/
def swp (ws hs : List Int) (set : Nat) : List Int := (List.range ws.length).map fun r => if set.testBit r then getI hs r else getI ws r
theorem swp_len {ws hs : List Int} {set : Nat} : (swp ws hs set).length = ws.length := by simp [swp]
theorem swp_ok {ws hs : List Int} {set : Nat} (hw : NeedOk ws) (hh : NeedOk hs) (hl : ws.length = hs.length) : NeedOk (swp ws hs set) := by
  intro x hx
  obtain ⟨r, hr, rfl⟩ := List.mem_map.1 hx
  have hr2 : r < ws.length := by simpa using hr
  obtain ⟨y, hy, hym⟩ := get_of hr2
  obtain ⟨z, hz, hzm⟩ := get_of (show r < hs.length by omega)
  rw [getI_is hy, getI_is hz]
  split
  · exact hh z hzm
  · exact hw y hym
theorem swp_at {ws hs : List Int} {set i : Nat} {x y : Int} (hx : ws[i]? = some x) (hy : hs[i]? = some y) : (swp ws hs set)[i]? = some (if set.testBit i then y else x) := by
  have hi := len_of hx
  unfold swp
  rw [List.getElem?_map, List.getElem?_range hi, Option.map_some, getI_is hx, getI_is hy]
theorem swp_take {ws hs : List Int} {set i : Nat} {x y : Int} (hx : ws[i]? = some x) (hy : hs[i]? = some y) : (swp ws hs set).take (i + 1) = (swp ws hs set).take i ++ [if set.testBit i then y else x] := by
  rw [tk (swp_at hx hy)]
/-- A shape put to best ones. -/
def domB (x : Int × Int) (w h : Int) : Bool := decide (x.1 ≤ w) && decide (x.2 ≤ h)
def putStep (w h : Int) (s : List (Int × Int) × Bool) (x : Int × Int) : List (Int × Int) × Bool :=
  if w ≤ x.1 ∧ h ≤ x.2 then s else if s.2 = false ∧ w < x.1 then (s.1 ++ [(w, h), x], true) else (s.1 ++ [x], s.2)
def putF (l : List (Int × Int)) (w h : Int) : List (Int × Int) × Bool := l.foldl (putStep w h) ([], false)
def put (l : List (Int × Int)) (w h : Int) : List (Int × Int) := if l.any (fun x => domB x w h) then l else if (putF l w h).2 then (putF l w h).1 else (putF l w h).1 ++ [(w, h)]
/-- The shape with a set of turned rooms, by the specification. -/
def shS (p : List Txt) (ws hs : List Int) (set : Nat) : Int × Int := (least (allS p 0) (swp ws hs set), least (allS p 1) (swp hs ws set))
def shI (L A : List (List Bool)) (n : Nat) (ws hs : List Int) (set : Nat) : Int × Int := (maxL (heaviest L (swp ws hs set) n), maxL (heaviest A (swp hs ws set) n))
theorem sh_eq {p : List Txt} {ws hs : List Int} (h1 : needV p [ws] = true) (h2 : needV p [hs] = true) (set : Nat) : shI (leftG (gP p) p.length (w0 (readG p)) (rP p).length) (aboveG (gP p) p.length (w0 (readG p)) (rP p).length) (rP p).length ws hs set = shS p ws hs set := by
  obtain ⟨s0, s1, u0, u1, k1, k2, k3⟩ := plan_same h1
  obtain ⟨-, -, -, -, l1, -, l3⟩ := plan_same h2
  unfold shI shS
  rw [least_heaviest s0 u0 (by rw [swp_len, k1]) k2 (swp_ok k3 l3 (by omega)), least_heaviest s1 u1 (by rw [swp_len, l1]) k2 (swp_ok l3 k3 (by omega))]
def eShp (x : Int × Int) : List PV := [.int .i64 x.1, .int .i64 x.2]
end Fw
end Go.Proofs.YtcglmbijpjhbmaaGreat

/-! Sizes in plain words: areas, places, slacks, longest rows. -/
namespace Go.Proofs.YtcglmbijpjhbmaaGreat
namespace Fw
open Go

section
variable {M : List (List Bool)} {ws : List Int} {n : Nat} {rk : Nat → Nat}
end
end Fw
end Go.Proofs.YtcglmbijpjhbmaaGreat

/-! What the laws of sizes ask, of plans in plain words. -/
namespace Go.Proofs.YtcglmbijpjhbmaaGreat
namespace Fw
open Go

end Fw
end Go.Proofs.YtcglmbijpjhbmaaGreat

/-! The law of areas, gone through. -/
namespace Go.Proofs.YtcglmbijpjhbmaaGreat
namespace Fw
open Go

theorem pEq_bb {S : Store} {a b : Bool} : pEq tab S 4 (.bool a) (.bool b) = some (a == b) := rfl
theorem area_same {p : List Txt} {ws ht : List Int} : areaI p ws ht = areaOf p ws ht ∧ (needV p [ws] && needV p [ht]) = (needsB p ws && needsB p ht) := by
  have e : ∀ {ws : List Int}, needsB p ws = needV p [ws] := fun {ws} => (needV_needs).symm
  refine ⟨?_, by rw [e, e]⟩
  unfold areaI areaOf
  rw [e, e]
  by_cases h : (needV p [ws] && needV p [ht]) = true
  · rw [if_pos h, if_pos h]
    simp only [Bool.and_eq_true] at h
    rw [(plan_least h.1).1, (plan_least h.2).2]
  · rw [if_neg h, if_neg h]
theorem all_rm {p : List Txt} (h : plainI p = true) : RmOk (gP p) p.length (w0 (readG p)) (rP p).length := (plan_all h).1
theorem all_up0 {p : List Txt} (h : plainI p = true) : ∃ rk, Up (leftG (gP p) p.length (w0 (readG p)) (rP p).length) (rP p).length rk := (plan_all h).2.1
theorem all_up1 {p : List Txt} (h : plainI p = true) : ∃ rk, Up (aboveG (gP p) p.length (w0 (readG p)) (rP p).length) (rP p).length rk := (plan_all h).2.2
end Fw
end Go.Proofs.YtcglmbijpjhbmaaGreat

/-! Marks, gone through. -/
namespace Go.Proofs.YtcglmbijpjhbmaaGreat
namespace Fw
open Go

end Fw
end Go.Proofs.YtcglmbijpjhbmaaGreat

/-! Places and slack by the specification, gone through. -/
namespace Go.Proofs.YtcglmbijpjhbmaaGreat
namespace Fw
open Go

end Fw
end Go.Proofs.YtcglmbijpjhbmaaGreat

/-! A relation the other way round, place by place. -/
namespace Go.Proofs.YtcglmbijpjhbmaaGreat
namespace Fw
open Go

section
variable {n : Nat} {M X : List (List Bool)}
def rvB (M : List (List Bool)) (a : Nat) (X : List (List Bool)) (b : Nat) : List (List Bool) := setB X b a (getB M a b)
def rvA (n : Nat) (M : List (List Bool)) (X : List (List Bool)) (a : Nat) : List (List Bool) := (List.range n).foldl (rvB M a) X
def rv (n : Nat) (M : List (List Bool)) : List (List Bool) := (List.range n).foldl (rvA n M) (emptyM n)
end
end Fw
end Go.Proofs.YtcglmbijpjhbmaaGreat

/-! Places and slack by the program, gone through. -/
namespace Go.Proofs.YtcglmbijpjhbmaaGreat
namespace Fw
open Go

end Fw
end Go.Proofs.YtcglmbijpjhbmaaGreat

/-! Orders of two rooms, gone through. -/
namespace Go.Proofs.YtcglmbijpjhbmaaGreat
namespace Fw
open Go

end Fw
end Go.Proofs.YtcglmbijpjhbmaaGreat

/-! The laws of left and above, gone through. -/
namespace Go.Proofs.YtcglmbijpjhbmaaGreat
namespace Fw
open Go

end Fw
end Go.Proofs.YtcglmbijpjhbmaaGreat

/-! The law of places, gone through. -/
namespace Go.Proofs.YtcglmbijpjhbmaaGreat
namespace Fw
open Go

theorem needsB_needV {p : List Txt} {ws : List Int} : needsB p ws = needV p [ws] := (needV_needs).symm
end Fw
end Go.Proofs.YtcglmbijpjhbmaaGreat
