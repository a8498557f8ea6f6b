/- Parts of the framework and of the proof: Walls and orders of plans in plain words; Sizes of plans in plain words; The program's own data in plain words; The program's walls in plain words; Lists without neighbours that are the same; the program's relations in plain words; Relations of rooms in plain words, and in the store; The program's orders in plain words; Heaviest sums in plain words; Numbers put in order by putting one after the other in; How many rooms meet at the points of a grid of the program; The text of a grid; How the program numbers rooms and finds the rectangles around them; The numbering of all rooms of a grid; A plan of a grid, as the program finds it; Plans that are read, in plain words; The table of the types of this translation, written by a program (tabgen.py), and that it is right; Small functions of the specification, gone through; The specification of plans, gone through; What a plan is, gone through. -/
import Derived.Test.YtmhcknpjgikgmaaJ1
import Derived.Test.YtmhcknpjgikgmaaChecked
set_option linter.all false
/-! Walls and orders of plans in plain words. -/
namespace Go.Proofs.Ytmhcknpjgikgmaa
namespace Fw
open Go

/-! ### Walls -/
def UpOk (p : List Txt) (k0 : Nat) (w : List Int) : Prop :=
  ∃ k f l : Nat, w = [(k : Int), (f : Int), (l : Int)] ∧ 1 ≤ k ∧ k < k0 ∧ 1 ≤ l ∧ f + l ≤ p.length ∧ ∀ j, f ≤ j → j < f + l → wallB p k j = true

theorem wallB_end {p : List Txt} {k : Nat} : wallB p k p.length = false := by simp [wallB]

theorem upTo_ok {p : List Txt} {k k0 : Nat} (hk : 1 ≤ k) (hk0 : k < k0) {s0 : List (List Int)} (h0 : ∀ w ∈ s0, UpOk p k0 w) : ∀ i, i ≤ p.length + 1 →
    (∀ w ∈ (upTo p k s0 i).2, UpOk p k0 w) ∧ ((upTo p k s0 i).1 = -1 ∨ ∃ f : Nat, (upTo p k s0 i).1 = f ∧ f < i ∧ ∀ j, f ≤ j → j < i → wallB p k j = true)
  | 0, _ => ⟨h0, .inl rfl⟩
  | i + 1, hi => by
    obtain ⟨ih1, ih2⟩ := upTo_ok hk hk0 h0 i (by omega)
    unfold upTo upStep
    cases hw : wallB p k i with
    | true =>
      simp only [Bool.true_and, decide_eq_true_eq, Bool.not_true, Bool.false_and, Bool.false_eq_true, if_false]
      refine ⟨ih1, .inr ?_⟩
      rcases ih2 with h | ⟨f, h, hf, hr⟩
      · rw [h, if_pos (by omega)]
        exact ⟨i, rfl, by omega, fun j h1 h2 => by rw [show j = i by omega]; exact hw⟩
      · rw [h, if_neg (by omega)]
        refine ⟨f, rfl, by omega, fun j h1 h2 => ?_⟩
        by_cases hj : j = i
        · rw [hj]; exact hw
        · exact hr j h1 (by omega)
    | false =>
      simp only [Bool.false_and, Bool.false_eq_true, if_false, Bool.not_false, Bool.true_and, decide_eq_true_eq]
      rcases ih2 with h | ⟨f, h, hf, hr⟩
      · rw [h, if_neg (by omega)]
        exact ⟨ih1, .inl rfl⟩
      · rw [h, if_pos (by omega)]
        refine ⟨fun w hw' => ?_, .inl rfl⟩
        rcases List.mem_append.1 hw' with h1 | h1
        · exact ih1 w h1
        · rw [List.mem_singleton] at h1
          have hip : i ≤ p.length := by omega
          refine ⟨k, f, i - f, by rw [h1]; simp; omega, hk, hk0, by omega, by omega, fun j h1 h2 => hr j h1 (by omega)⟩

theorem UpOk.up {p : List Txt} {k k' : Nat} (h : k ≤ k') {w : List Int} (hw : UpOk p k w) : UpOk p k' w := by
  obtain ⟨a, f, l, h1, h2, h3, h4⟩ := hw
  exact ⟨a, f, l, h1, h2, by omega, h4⟩

theorem upsTo_ok (p : List Txt) : ∀ k, ∀ w ∈ upsTo p k, UpOk p k w
  | 0, w, h => by simp [upsTo] at h
  | k + 1, w, h => by
    unfold upsTo at h
    split at h
    · rename_i hk
      exact (upTo_ok hk (Nat.lt_succ_self k) (fun w hw => (upsTo_ok p k w hw).up (by omega)) _ (Nat.le_refl _)).1 w h
    · exact (upsTo_ok p k w h).up (by omega)

theorem ups_ok {p : List Txt} {w : List Int} (h : w ∈ uprights p) : UpOk p (hdRow p).length w := upsTo_ok p _ w h
theorem ups_three {p : List Txt} {w : List Int} (h : w ∈ uprights p) : w.length = 3 := by
  obtain ⟨_, _, _, rfl, _⟩ := ups_ok h; rfl

theorem get_row {p : List Txt} {i : Nat} (h : i < p.length) : ∃ row, p[i]? = some row ∧ row ∈ p := by
  obtain ⟨r, h1, h2⟩ := get_of h; exact ⟨r, h1, h2⟩

theorem colTo_get {p : List Txt} {k i : Nat} {row : Txt} (h : p[i]? = some row) : (colTo p k p.length)[i]? = some (row.getD k 0) := by
  simp [colTo, h]
theorem trans_get {p : List Txt} {k : Nat} (h : k < (hdRow p).length) : (transP p)[k]? = some (colTo p k p.length) := by
  simp [transP, colsTo, h]
theorem trans_len {p : List Txt} : (transP p).length = (hdRow p).length := by simp [transP, colsTo_len]
theorem trans_hd {p : List Txt} (h : 0 < (hdRow p).length) : (hdRow (transP p)).length = p.length := by
  rw [hdRow_of (trans_get h)]; exact colTo_len (Nat.le_refl _)

theorem grid_mem {p : List Txt} (h : gridB p = true) {i k : Nat} {row : Txt} (hr : p[i]? = some row) (hk : k < (hdRow p).length) : ∃ c, row[k]? = some c ∧ letterB c = true := by
  have hl := grid_row h hr
  unfold gridB at h
  simp only [Bool.and_eq_true, decide_eq_true_eq, List.all_eq_true] at h
  have := h.1.1 row (List.mem_of_getElem? hr)
  simp only [rowB, Bool.and_eq_true, decide_eq_true_eq, List.all_eq_true] at this
  obtain ⟨c, hc, hm⟩ := get_of (show k < row.length by omega)
  exact ⟨c, hc, this.2 c hm⟩

theorem trans_grid {p : List Txt} (h : gridB p = true) : gridB (transP p) = true := by
  have hsm := grid_small h
  obtain ⟨row0, hrow0, hrm0⟩ := get_of hsm.1
  have hhd := hdRow_of hrow0
  have hw1 := row_pos h hrow0
  have hw6 := hsm.2.2 row0 hrm0
  have hlen := trans_len (p := p)
  have hhd2 := trans_hd (p := p) (by rw [hhd]; omega)
  rw [hhd] at hlen
  unfold gridB
  simp only [Bool.and_eq_true, decide_eq_true_eq, List.all_eq_true]
  refine ⟨⟨fun r hr => ?_, by omega⟩, by omega⟩
  simp only [transP, colsTo, List.mem_map, List.mem_range] at hr
  obtain ⟨k, hk, rfl⟩ := hr
  simp only [rowB, Bool.and_eq_true, decide_eq_true_eq, List.all_eq_true]
  refine ⟨⟨⟨by rw [hhd2]; exact colTo_len (Nat.le_refl _), by rw [colTo_len (Nat.le_refl _)]; omega⟩, by rw [colTo_len (Nat.le_refl _)]; omega⟩, fun c hc => ?_⟩
  simp only [colTo, List.take_length, List.mem_map] at hc
  obtain ⟨row, hrm, rfl⟩ := hc
  obtain ⟨i, hi⟩ := List.mem_iff_getElem?.1 hrm
  obtain ⟨c, hc, hl⟩ := grid_mem h hi hk
  simpa [List.getD_eq_getElem?_getD, hc] using hl

theorem Sm.grid {p : List Txt} (h : gridB p = true) : Sm p := by
  have := grid_small h
  exact ⟨by omega, fun r hr => by have := this.2.2 r hr; omega⟩

theorem cellZ_trans {p : List Txt} {i k : Nat} (h : i < p.length) (hk : k < (hdRow p).length) : cellZ (transP p) k i = cellZ p i k := by
  obtain ⟨row, hr, -⟩ := get_of h
  simp [cellZ, trans_get hk, colTo_get hr, hr, List.getD_eq_getElem?_getD]

def walls (p : List Txt) : List (List Int) := (uprights p).map (0 :: ·) ++ (uprights (transP p)).map (1 :: ·)

/-- A wall of a plan: four numbers. -/
def WallOk (p : List Txt) (w : List Int) : Prop :=
  ∃ kind line fr long : Nat, w = [(kind : Int), (line : Int), (fr : Int), (long : Int)] ∧ 1 ≤ line ∧ 1 ≤ long ∧
    ((kind = 0 ∧ line < (hdRow p).length ∧ fr + long ≤ p.length ∧ ∀ j, fr ≤ j → j < fr + long → cellZ p j (line - 1) ≠ cellZ p j line) ∨
     (kind = 1 ∧ line < p.length ∧ fr + long ≤ (hdRow p).length ∧ ∀ j, fr ≤ j → j < fr + long → cellZ p (line - 1) j ≠ cellZ p line j))

theorem walls_ok {p : List Txt} (hg : gridB p = true) {w : List Int} (h : w ∈ walls p) : WallOk p w := by
  have hsm := grid_small hg
  obtain ⟨row0, hrow0, hrm0⟩ := get_of hsm.1
  have hhd := hdRow_of hrow0
  have hw1 := row_pos hg hrow0
  have hhd2 := trans_hd (p := p) (by rw [hhd]; omega)
  unfold walls at h
  rcases List.mem_append.1 h with h | h
  · obtain ⟨u, hu, rfl⟩ := List.mem_map.1 h
    obtain ⟨k, f, l, rfl, h1, h2, h3, h4, h5⟩ := ups_ok hu
    refine ⟨0, k, f, l, rfl, h1, h3, .inl ⟨rfl, h2, h4, fun j a b => ?_⟩⟩
    have := h5 j a b
    simp only [wallB, Bool.and_eq_true, decide_eq_true_eq] at this
    exact this.2
  · obtain ⟨u, hu, rfl⟩ := List.mem_map.1 h
    obtain ⟨k, f, l, rfl, h1, h2, h3, h4, h5⟩ := ups_ok hu
    rw [trans_len] at h4
    rw [hhd2] at h2
    refine ⟨1, k, f, l, rfl, h1, h3, .inr ⟨rfl, h2, h4, fun j a b => ?_⟩⟩
    have := h5 j a b
    simp only [wallB, Bool.and_eq_true, decide_eq_true_eq] at this
    rw [cellZ_trans (by omega) (by omega), cellZ_trans (by omega) (by omega)] at this
    exact this.2
def wallsL (p : List Txt) (i : Nat) : List (List Int) := ((uprights p).take i).map (0 :: ·)
def wallsR (p : List Txt) (j : Nat) : List (List Int) := wallsL p (uprights p).length ++ ((uprights (transP p)).take j).map (1 :: ·)
theorem wallsL_len {p : List Txt} {i : Nat} (h : i ≤ (uprights p).length) : (wallsL p i).length = i := by simp [wallsL]; omega
theorem wallsR_len {p : List Txt} {j : Nat} (h : j ≤ (uprights (transP p)).length) : (wallsR p j).length = (uprights p).length + j := by simp [wallsR, wallsL_len]; omega
theorem wallsL_succ {p : List Txt} {i : Nat} {u : List Int} (h : (uprights p)[i]? = some u) : wallsL p (i + 1) = wallsL p i ++ [0 :: u] := by simp [wallsL, tk h]
theorem wallsR_succ {p : List Txt} {i : Nat} {u : List Int} (h : (uprights (transP p))[i]? = some u) : wallsR p (i + 1) = wallsR p i ++ [1 :: u] := by simp [wallsR, tk h]
theorem wallsR_zero {p : List Txt} : wallsR p 0 = wallsL p (uprights p).length := by simp [wallsR]
theorem wallsR_all {p : List Txt} : wallsR p (uprights (transP p)).length = walls p := by simp [wallsR, wallsL, walls]
theorem walls_len {p : List Txt} (hg : gridB p = true) : (walls p).length ≤ 84 := by
  have hsm := grid_small hg
  obtain ⟨row0, hrow0, hrm0⟩ := get_of hsm.1
  have hhd := hdRow_of hrow0
  have hw1 := row_pos hg hrow0
  have hw6 := hsm.2.2 row0 hrm0
  have hhd2 := trans_hd (p := p) (by rw [hhd]; omega)
  have hl2 := trans_len (p := p)
  rw [hhd] at hl2
  have h1 := Nat.le_trans (upsTo_len p (hdRow p).length) (Nat.mul_le_mul (show p.length + 1 ≤ 7 by omega) (show (hdRow p).length ≤ 6 by rw [hhd]; omega))
  have h2 := Nat.le_trans (upsTo_len (transP p) (hdRow (transP p)).length) (Nat.mul_le_mul (show (transP p).length + 1 ≤ 7 by omega) (show (hdRow (transP p)).length ≤ 6 by omega))
  simp only [walls, uprights, List.length_append, List.length_map]
  omega

/-! ### Rooms of cells -/
theorem rowMax_le (row : Txt) : ∀ (n : Int), n ≤ rowMax n row ∧ ∀ (k : Nat) (c : UInt8), row[k]? = some c → (c.toNat : Int) - 97 + 1 ≤ rowMax n row := by
  induction row with
  | nil => intro n; exact ⟨Int.le_refl _, by simp⟩
  | cons a row ih =>
    intro n
    have h := ih (max n ((a.toNat : Int) - 97 + 1))
    have e : rowMax n (a :: row) = rowMax (max n ((a.toNat : Int) - 97 + 1)) row := rfl
    rw [e]
    refine ⟨by omega, ?_⟩
    rintro (_ | k) c hc
    · simp at hc; subst hc; omega
    · simp at hc; exact h.2 k c hc
theorem rooms_fold (p : List Txt) : ∀ (n : Int), n ≤ p.foldl rowMax n ∧ ∀ (i k : Nat) (row : Txt) (c : UInt8), p[i]? = some row → row[k]? = some c → (c.toNat : Int) - 97 + 1 ≤ p.foldl rowMax n := by
  induction p with
  | nil => intro n; exact ⟨Int.le_refl _, by simp⟩
  | cons r p ih =>
    intro n
    have h := ih (rowMax n r)
    have h2 := rowMax_le r n
    simp only [List.foldl_cons]
    refine ⟨by omega, ?_⟩
    rintro (_ | i) k row c hr hc
    · simp at hr; subst hr
      have := h2.2 k c hc; omega
    · simp at hr; exact h.2 i k row c hr hc
theorem cellZ_lt {p : List Txt} (hg : gridB p = true) {i k : Nat} (hi : i < p.length) (hk : k < (hdRow p).length) : 0 ≤ cellZ p i k ∧ cellZ p i k < l1Rooms p := by
  obtain ⟨row, hr, -⟩ := get_of hi
  obtain ⟨c, hc, hl⟩ := grid_mem hg hr hk
  rw [cellZ_is hr hc]
  have := (rooms_fold p 0).2 i k row c hr hc
  simp only [letterB, Bool.and_eq_true, decide_eq_true_eq] at hl
  unfold l1Rooms
  omega

/-! ### Sets of rooms -/
theorem testBit_small {m b : Nat} (h : m < 2 ^ b) : m.testBit b = false := Nat.testBit_lt_two_pow h

/-- The numbers of rooms that a wall's sides bear. -/
def orBit (ms : List Nat) (a b : Nat) : List Nat := ms.set a ((ms[a]?.getD 0) ||| 2 ^ b)
def justB (a : Nat) (ms : List Nat) (bs : List Int) : List Nat := bs.foldl (fun ms b => orBit ms a b.toNat) ms
def justA (bs : List Int) (ms : List Nat) (la : List Int) : List Nat := la.foldl (fun ms a => justB a.toNat ms bs) ms
def sidesW (p : List Txt) (w : List Int) : List Int × List Int :=
  match w with
  | [kind, line, fr, long] => sidesTo p kind.toNat line.toNat fr.toNat long.toNat
  | _ => ([], [])
def justW (p : List Txt) (kind : Int) (ms : List Nat) (w : List Int) : List Nat :=
  if w[0]?.getD 0 = kind then justA (sidesW p w).2 ms (sidesW p w).1 else ms
def just (p : List Txt) (kind : Int) : List Nat := (walls p).foldl (justW p kind) (List.replicate (l1Rooms p).toNat 0)
def allA (c : Nat) (ms : List Nat) (a : Nat) : List Nat := if (ms[a]?.getD 0).testBit c then ms.set a ((ms[a]?.getD 0) ||| (ms[c]?.getD 0)) else ms
def allC (n : Nat) (ms : List Nat) (c : Nat) : List Nat := (List.range n).foldl (allA c) ms
def allS (p : List Txt) (kind : Int) : List Nat := (List.range (just p kind).length).foldl (allC (just p kind).length) (just p kind)

def Msk (n : Nat) (ms : List Nat) : Prop := ms.length = n ∧ ∀ m ∈ ms, m < 512
theorem Msk.get {n : Nat} {ms : List Nat} (h : Msk n ms) (a : Nat) : ms[a]?.getD 0 < 512 := by
  cases e : ms[a]? with
  | none => simp
  | some m => simpa using h.2 m (List.mem_of_getElem? e)
theorem or_small {a b : Nat} (ha : a < 512) (hb : b < 512) : a ||| b < 512 := Nat.or_lt_two_pow (n := 9) ha hb
theorem Msk.set {n : Nat} {ms : List Nat} (h : Msk n ms) {a m : Nat} (hm : m < 512) : Msk n (ms.set a m) := by
  refine ⟨by simpa using h.1, fun x hx => ?_⟩
  rcases List.mem_or_eq_of_mem_set hx with h1 | rfl
  · exact h.2 x h1
  · exact hm
theorem Msk.orBit {n : Nat} {ms : List Nat} (h : Msk n ms) {a b : Nat} (hb : b < 9) : Msk n (orBit ms a b) :=
  h.set (or_small (h.get a) (Nat.pow_lt_pow_right (by omega) hb))
theorem Msk.justB {n : Nat} {a : Nat} : ∀ {bs : List Int} {ms : List Nat}, Msk n ms → (∀ b ∈ bs, b.toNat < 9) → Msk n (justB a ms bs)
  | [], ms, h, _ => h
  | b :: bs, ms, h, hb => by
    show Msk n (Fw.justB a (Fw.orBit ms a b.toNat) bs)
    exact Msk.justB (h.orBit (hb b (by simp))) fun x hx => hb x (by simp [hx])
theorem Msk.justA {n : Nat} {bs : List Int} (hb : ∀ b ∈ bs, b.toNat < 9) : ∀ {la : List Int} {ms : List Nat}, Msk n ms → Msk n (justA bs ms la)
  | [], ms, h => h
  | a :: la, ms, h => by
    show Msk n (Fw.justA bs (Fw.justB a.toNat ms bs) la)
    exact Msk.justA hb (h.justB hb)
theorem Msk.allA {n c a : Nat} {ms : List Nat} (h : Msk n ms) : Msk n (allA c ms a) := by
  unfold Fw.allA
  split
  · exact h.set (or_small (h.get a) (h.get c))
  · exact h
theorem Msk.foldl {n : Nat} {α : Type} {f : List Nat → α → List Nat} : ∀ {l : List α} {ms : List Nat}, (∀ ms, Msk n ms → ∀ a ∈ l, Msk n (f ms a)) → Msk n ms → Msk n (l.foldl f ms)
  | [], ms, _, h => h
  | a :: l, ms, hf, h => Msk.foldl (l := l) (fun ms hm x hx => hf ms hm x (by simp [hx])) (hf ms h a (by simp))

theorem putL_mem {l : List Int} {x y : Int} (h : y ∈ putL l x) : y ∈ l ∨ y = x := by
  unfold putL at h
  split at h
  · exact .inl h
  · simpa using h
/-- The rooms of a wall's sides are those of its cells. -/
theorem sidesTo_mem {p : List Txt} {kind line fr : Nat} : ∀ n,
    (∀ x ∈ (sidesTo p kind line fr n).1, ∃ j, j < n ∧ x = if kind = 0 then cellZ p (fr + j) (line - 1) else cellZ p (line - 1) (fr + j)) ∧
    (∀ x ∈ (sidesTo p kind line fr n).2, ∃ j, j < n ∧ x = if kind = 0 then cellZ p (fr + j) line else cellZ p line (fr + j))
  | 0 => by simp [sidesTo]
  | n + 1 => by
    obtain ⟨h1, h2⟩ := sidesTo_mem (p := p) (kind := kind) (line := line) (fr := fr) n
    unfold sidesTo
    simp only
    split
    · rename_i hk
      simp only [hk, if_true] at h1 h2 ⊢
      constructor
      · intro x hx
        rcases putL_mem hx with h | h
        · obtain ⟨j, hj, e⟩ := h1 x h; exact ⟨j, by omega, e⟩
        · exact ⟨n, by omega, h⟩
      · intro x hx
        rcases putL_mem hx with h | h
        · obtain ⟨j, hj, e⟩ := h2 x h; exact ⟨j, by omega, e⟩
        · exact ⟨n, by omega, h⟩
    · rename_i hk
      simp only [hk, if_false] at h1 h2 ⊢
      constructor
      · intro x hx
        rcases putL_mem hx with h | h
        · obtain ⟨j, hj, e⟩ := h1 x h; exact ⟨j, by omega, e⟩
        · exact ⟨n, by omega, h⟩
      · intro x hx
        rcases putL_mem hx with h | h
        · obtain ⟨j, hj, e⟩ := h2 x h; exact ⟨j, by omega, e⟩
        · exact ⟨n, by omega, h⟩

theorem sidesW_rooms {p : List Txt} (hg : gridB p = true) {w : List Int} (hw : WallOk p w) :
    (∀ x ∈ (sidesW p w).1, 0 ≤ x ∧ x < l1Rooms p) ∧ (∀ x ∈ (sidesW p w).2, 0 ≤ x ∧ x < l1Rooms p) := by
  obtain ⟨kind, line, fr, long, rfl, h1, h2, h3⟩ := hw
  simp only [sidesW, Int.toNat_natCast]
  obtain ⟨m1, m2⟩ := sidesTo_mem (p := p) (kind := kind) (line := line) (fr := fr) long
  refine ⟨fun x hx => ?_, fun x hx => ?_⟩
  · obtain ⟨j, hj, rfl⟩ := m1 x hx
    rcases h3 with ⟨rfl, a, b, _⟩ | ⟨rfl, a, b, _⟩
    · exact cellZ_lt hg (by omega) (by omega)
    · exact cellZ_lt hg (by omega) (by omega)
  · obtain ⟨j, hj, rfl⟩ := m2 x hx
    rcases h3 with ⟨rfl, a, b, _⟩ | ⟨rfl, a, b, _⟩
    · exact cellZ_lt hg (by omega) (by omega)
    · exact cellZ_lt hg (by omega) (by omega)

theorem Msk.justW {p : List Txt} (hg : gridB p = true) (h9 : l1Rooms p ≤ 9) {n : Nat} {ms : List Nat} (h : Msk n ms) {kind : Int} {w : List Int} (hw : WallOk p w) : Msk n (justW p kind ms w) := by
  unfold Fw.justW
  split
  · exact Msk.justA (fun b hb => by have := (sidesW_rooms hg hw).2 b hb; omega) h
  · exact h
theorem just_msk {p : List Txt} (hg : gridB p = true) (h9 : l1Rooms p ≤ 9) (kind : Int) : Msk (l1Rooms p).toNat (just p kind) :=
  Msk.foldl (fun _ hm _ hw => hm.justW hg h9 (walls_ok hg hw)) ⟨by simp, fun m hm => by rw [(List.mem_replicate.1 hm).2]; omega⟩
theorem allS_msk {p : List Txt} (hg : gridB p = true) (h9 : l1Rooms p ≤ 9) (kind : Int) : Msk (l1Rooms p).toNat (allS p kind) :=
  Msk.foldl (fun _ hm _ _ => Msk.foldl (fun _ hm _ _ => hm.allA) hm) (just_msk hg h9 kind)

/-! ### Whole numbers as sets -/
theorem w_or {a b : Nat} (ha : a < 1048576) (hb : b < 1048576) : IntKind.i64.wrap ((BitVec.ofInt IntKind.i64.bits (a : Int) ||| BitVec.ofInt IntKind.i64.bits (b : Int)).toNat : Int) = ((a ||| b : Nat) : Int) := by
  have h1 : (BitVec.ofInt 64 (a : Int)).toNat = a := by simp [BitVec.toNat_ofInt]; omega
  have h2 : (BitVec.ofInt 64 (b : Int)).toNat = b := by simp [BitVec.toNat_ofInt]; omega
  have h3 : (BitVec.ofInt IntKind.i64.bits (a : Int) ||| BitVec.ofInt IntKind.i64.bits (b : Int)).toNat = a ||| b := by
    show (BitVec.ofInt 64 (a : Int) ||| BitVec.ofInt 64 (b : Int)).toNat = _
    rw [BitVec.toNat_or, h1, h2]
  have h4 : a ||| b < 1048576 := Nat.or_lt_two_pow (n := 20) ha hb
  rw [h3]
  exact w64 (by omega) (by omega)
theorem w_shl {b : Nat} (hb : b < 20) : IntKind.i64.wrap (1 * 2 ^ (min b IntKind.i64.bits)) = ((2 ^ b : Nat) : Int) := by
  have h1 : min b IntKind.i64.bits = b := by simp [IntKind.bits]; omega
  have h2 : (2 : Nat) ^ b < 2 ^ 20 := Nat.pow_lt_pow_right (by omega) hb
  rw [h1, Int.one_mul, show (2 : Int) ^ b = ((2 ^ b : Nat) : Int) by simp]
  generalize (2 : Nat) ^ b = x at h2 ⊢
  exact w64 (by omega) (by omega)
theorem w_bit {m c : Nat} (hm : m < 1048576) (hc : c < 64) : (IntKind.i64.wrap ((BitVec.ofInt IntKind.i64.bits ((m : Int).fdiv (2 ^ (min c IntKind.i64.bits))) &&& BitVec.ofInt IntKind.i64.bits 1).toNat : Int) == 1) = m.testBit c := by
  have h1 : min c IntKind.i64.bits = c := by simp [IntKind.bits]; omega
  have h2 : (m : Int).fdiv (2 ^ c) = ((m / 2 ^ c : Nat) : Int) := by
    rw [show (2 : Int) ^ c = ((2 ^ c : Nat) : Int) by simp, Int.fdiv_eq_ediv_of_nonneg _ (Int.natCast_nonneg _)]
    norm_cast
  have h3 : m / 2 ^ c ≤ m := Nat.div_le_self _ _
  have h4 : (BitVec.ofInt 64 ((m / 2 ^ c : Nat) : Int)).toNat = m / 2 ^ c := by
    generalize m / 2 ^ c = x at h3 ⊢
    simp [BitVec.toNat_ofInt]; omega
  have h5 : (BitVec.ofInt IntKind.i64.bits ((m / 2 ^ c : Nat) : Int) &&& BitVec.ofInt IntKind.i64.bits 1).toNat = (m / 2 ^ c) % 2 := by
    show (BitVec.ofInt 64 ((m / 2 ^ c : Nat) : Int) &&& BitVec.ofInt 64 1).toNat = _
    rw [BitVec.toNat_and, h4]
    show m / 2 ^ c &&& 1 = _
    exact Nat.and_one_is_mod _
  rw [h1, h2, h5, w64 (by omega) (by omega), Nat.testBit_eq_decide_div_mod_eq]
  by_cases h : m / 2 ^ c % 2 = 1
  · simp [h]
  · have : m / 2 ^ c % 2 = 0 := by omega
    simp [this]

abbrev eNats (l : List Nat) : PV := .sl (l.map fun m : Nat => PV.int .i64 m) l.length
theorem repz_nat : ∀ (n : Nat), repz [PV.int .i64 0] n = (List.replicate n 0).map fun m : Nat => PV.int .i64 m
  | 0 => rfl
  | n + 1 => by rw [repz_succ, repz_nat n, List.replicate_succ]; rfl
theorem mapM_nat {S : Store} {im : Bool} {k : Nat} (l : List Nat) : (l.map fun m : Nat => PV.int .i64 m).mapM (reify S im (k + 1)) = some (l.map fun m : Nat => PV.int .i64 m) :=
  mapM_same fun x hx => by obtain ⟨a, _, rfl⟩ := List.mem_map.1 hx; rfl
theorem sh_nat {S : Store} {im : Bool} {k : Nat} (l : List Nat) : (l.map fun m : Nat => PV.int .i64 m).mapM (sh S im (k + 1)) = some (l.map fun m : Nat => PV.int .i64 m) :=
  mapM_same fun x hx => by obtain ⟨a, _, rfl⟩ := List.mem_map.1 hx; rfl
theorem sh_ints {S : Store} {im : Bool} {k : Nat} {q : IntKind} (l : List Int) : (l.map (PV.int q)).mapM (sh S im (k + 1)) = some (l.map (PV.int q)) :=
  mapM_same fun x hx => by obtain ⟨a, _, rfl⟩ := List.mem_map.1 hx; rfl
theorem sh_strs {S : Store} {im : Bool} {k : Nat} (l : List (List UInt8)) : (l.map PV.str).mapM (sh S im (k + 1)) = some (l.map PV.str) :=
  mapM_same fun x hx => by obtain ⟨a, _, rfl⟩ := List.mem_map.1 hx; rfl
/-- The first object alone is given. -/
theorem sh_one {S : Store} {im : Bool} {v et n : Nat} {cells : List PV} {R : List Ob} (hS : S.obs = .arr v et 1 cells :: R) (hc : cells.mapM (sh (S.take 1) im 10) = some cells) :
    ∃ k, sh (S.take k) im 10 (.loc 0 v 0 n) = some (.loc 0 0 0 n) ∧ shObs (S.take k) im (S.take k).obs = some [.arr 0 et 1 cells] := by
  refine ⟨1, ?_, ?_⟩
  · simp [sh, Store.take, hS]
  · have e : (S.take 1).obs = [.arr v et 1 cells] := by simp [Store.take, hS]
    rw [e]
    simp [shObs, shOb, hc]
theorem foldl_tk {α β : Type} {f : β → α → β} {z : β} {l : List α} {i : Nat} {a : α} (h : l[i]? = some a) : (l.take (i + 1)).foldl f z = f ((l.take i).foldl f z) a := by
  simp [tk h, List.foldl_append]
theorem foldl_all {α β : Type} {f : β → α → β} {z : β} {l : List α} {i : Nat} (h : l.length ≤ i) : (l.take i).foldl f z = l.foldl f z := by rw [List.take_of_length_le h]
theorem Msk.at_ {n : Nat} {ms : List Nat} (h : Msk n ms) {a : Nat} (ha : a < n) : ∃ m, ms[a]? = some m ∧ m < 512 := by
  obtain ⟨m, hm, h2⟩ := get_of (show a < ms.length by rw [h.1]; exact ha)
  exact ⟨m, hm, h.2 m h2⟩

theorem ile_true {a b : Int} (h : a ≤ b) : (a ≤ b) = True := eq_true h

theorem pow_small {b : Nat} (h : b < 9) : 2 ^ b < 512 := Nat.pow_lt_pow_right (a := 2) (n := 9) (by omega) h
theorem pShl {k : IntKind} {a : Int} {b : Nat} : pShift .shl k a (b : Int) = some (.int k (k.wrap (a * 2 ^ (min b k.bits)))) := by
  simp [pShift, show ¬ ((b : Int) < 0) by omega]
theorem pShr {k : IntKind} {a : Int} {b : Nat} : pShift .shr k a (b : Int) = some (.int k (a.fdiv (2 ^ (min b k.bits)))) := by
  simp [pShift, show ¬ ((b : Int) < 0) by omega]
theorem sidesW_len {p : List Txt} (hg : gridB p = true) {w : List Int} (hw : WallOk p w) : (sidesW p w).1.length ≤ 6 ∧ (sidesW p w).2.length ≤ 6 := by
  have hsm := grid_small hg
  obtain ⟨row0, hrow0, hrm0⟩ := get_of hsm.1
  have hhd := hdRow_of hrow0
  have hw6 := hsm.2.2 row0 hrm0
  obtain ⟨kind, line, fr, long, rfl, h1, h2, h3⟩ := hw
  have h4 := sidesTo_len (p := p) (kind := kind) (line := line) (fr := fr) long
  simp only [sidesW, Int.toNat_natCast]
  rw [hhd] at h3
  omega

theorem orBit_is {ms : List Nat} {a b m : Nat} (h : ms[a]? = some m) : orBit ms a b = ms.set a (m ||| 2 ^ b) := by simp [orBit, h]
theorem set_spl {α : Type} {f : α → PV} {l : List α} {a : Nat} {v : PV} (h : a < l.length) : (l.map f).take a ++ [v] ++ (l.map f).drop (a + 1) = (l.map f).set a v := by
  rw [List.set_eq_take_append_cons_drop, if_pos (by simpa using h)]; simp
theorem set_nat {l : List Nat} {a m : Nat} : (l.map fun m : Nat => PV.int .i64 m).set a (.int .i64 (m : Int)) = (l.set a m).map fun m : Nat => PV.int .i64 m := by
  rw [List.map_set]
theorem set_int {l : List Int} {q : IntKind} {a : Nat} {m : Int} : (l.map (PV.int q)).set a (.int q m) = (l.set a m).map (PV.int q) := by
  rw [List.map_set]

theorem foldl_rg {β : Type} {f : β → Nat → β} {z : β} {i : Nat} : (List.range (i + 1)).foldl f z = f ((List.range i).foldl f z) i := by
  simp [List.range_succ, List.foldl_append]
theorem allA_yes {ms : List Nat} {c a m k : Nat} (h : ms[a]? = some m) (hc : ms[c]? = some k) (hb : m.testBit c = true) : allA c ms a = ms.set a (m ||| k) := by simp [allA, h, hc, hb]
theorem allA_no {ms : List Nat} {c a m : Nat} (h : ms[a]? = some m) (hb : m.testBit c = false) : allA c ms a = ms := by simp [allA, h, hb]

end Fw
end Go.Proofs.Ytmhcknpjgikgmaa

/-! Sizes of plans in plain words. -/
namespace Go.Proofs.Ytmhcknpjgikgmaa
namespace Fw
open Go

/-- Whole numbers from 0 to M, n of them. -/
def Bnd (n : Nat) (M : Int) (l : List Int) : Prop := l.length = n ∧ ∀ x ∈ l, 0 ≤ x ∧ x ≤ M
theorem Bnd.at_ {n : Nat} {M : Int} {l : List Int} (h : Bnd n M l) {a : Nat} (ha : a < n) : ∃ x, l[a]? = some x ∧ 0 ≤ x ∧ x ≤ M := by
  obtain ⟨x, hx, hm⟩ := get_of (show a < l.length by rw [h.1]; exact ha)
  exact ⟨x, hx, h.2 x hm⟩
theorem Bnd.up {n : Nat} {M M' : Int} {l : List Int} (h : Bnd n M l) (hM : M ≤ M') : Bnd n M' l := ⟨h.1, fun x hx => by have := h.2 x hx; omega⟩
theorem Bnd.set {n : Nat} {M : Int} {l : List Int} (h : Bnd n M l) {a : Nat} {x : Int} (h0 : 0 ≤ x) (hx : x ≤ M) : Bnd n M (l.set a x) := by
  refine ⟨by simpa using h.1, fun y hy => ?_⟩
  rcases List.mem_or_eq_of_mem_set hy with h1 | rfl
  · exact h.2 y h1
  · exact ⟨h0, hx⟩
theorem Bnd.zero {n : Nat} : Bnd n 0 (List.replicate n 0) := ⟨by simp, fun x hx => by rw [(List.mem_replicate.1 hx).2]; omega⟩

def getI (l : List Int) (a : Nat) : Int := l[a]?.getD 0
theorem getI_is {l : List Int} {a : Nat} {x : Int} (h : l[a]? = some x) : getI l a = x := by simp [getI, h]
def bitOf (ms : List Nat) (a b : Nat) : Bool := (ms[a]?.getD 0).testBit b
theorem bitOf_is {ms : List Nat} {a b m : Nat} (h : ms[a]? = some m) : bitOf ms a b = m.testBit b := by simp [bitOf, h]

def plB (sets : List Nat) (needs : List Int) (a : Nat) (out : List Int) (b : Nat) : List Int :=
  if bitOf sets a b then out.set b (max (getI out b) (getI out a + getI needs a)) else out
def plA (sets : List Nat) (needs : List Int) (out : List Int) (a : Nat) : List Int := (List.range needs.length).foldl (plB sets needs a) out
def plN (sets : List Nat) (needs : List Int) (out : List Int) (_ : Nat) : List Int := (List.range needs.length).foldl (plA sets needs) out
def places (sets : List Nat) (needs : List Int) : List Int := (List.range needs.length).foldl (plN sets needs) (List.replicate needs.length 0)
def NeedOk (needs : List Int) : Prop := ∀ x ∈ needs, 1 ≤ x ∧ x ≤ 9

theorem plB_bnd {sets : List Nat} {needs out : List Int} {n : Nat} {M : Int} (hn : NeedOk needs) (hl : needs.length = n) (h : Bnd n M out) {a b : Nat} (ha : a < n) (hb : b < n) : Bnd n (M + 9) (plB sets needs a out b) := by
  unfold plB
  split
  · obtain ⟨x, hx, hx1⟩ := h.at_ ha
    obtain ⟨y, hy, hy1⟩ := h.at_ hb
    obtain ⟨z, hz, hzm⟩ := get_of (show a < needs.length by omega)
    have hz1 := hn z hzm
    rw [getI_is hx, getI_is hy, getI_is hz]
    exact (h.up (by omega)).set (by omega) (by omega)
  · exact h.up (by omega)
theorem plA_to {sets : List Nat} {needs out : List Int} {n : Nat} {M : Int} (hn : NeedOk needs) (hl : needs.length = n) (h : Bnd n M out) {a : Nat} (ha : a < n) : ∀ b, b ≤ n → Bnd n (M + 9 * b) ((List.range b).foldl (plB sets needs a) out)
  | 0, _ => by simpa using h
  | b + 1, hb => by
    rw [foldl_rg]
    exact (plB_bnd hn hl (plA_to hn hl h ha b (by omega)) ha (by omega)).up (by omega)
theorem plN_to {sets : List Nat} {needs out : List Int} {n : Nat} {M : Int} (hn : NeedOk needs) (hl : needs.length = n) (h9 : n ≤ 9) (h : Bnd n M out) : ∀ a, a ≤ n → Bnd n (M + 81 * a) ((List.range a).foldl (plA sets needs) out)
  | 0, _ => by simpa using h
  | a + 1, ha => by
    rw [foldl_rg]
    have := plA_to (sets := sets) hn hl (plN_to (sets := sets) hn hl h9 h a (by omega)) (show a < n by omega) n (Nat.le_refl _)
    generalize (List.range a).foldl (plA sets needs) out = X at this ⊢
    unfold plA
    rw [hl]
    refine Bnd.up this ?_
    omega
theorem places_to {sets : List Nat} {needs : List Int} {n : Nat} (hn : NeedOk needs) (hl : needs.length = n) (h9 : n ≤ 9) : ∀ k, k ≤ n → Bnd n (729 * k) ((List.range k).foldl (plN sets needs) (List.replicate n 0))
  | 0, _ => by simpa using Bnd.zero
  | k + 1, hk => by
    rw [foldl_rg]
    have := plN_to (sets := sets) hn hl h9 (places_to (sets := sets) hn hl h9 k (by omega)) n (Nat.le_refl _)
    generalize (List.range k).foldl (plN sets needs) (List.replicate n 0) = X at this ⊢
    unfold plN
    rw [hl]
    refine Bnd.up this ?_
    omega
theorem places_bnd {sets : List Nat} {needs : List Int} {n : Nat} (hn : NeedOk needs) (hl : needs.length = n) (h9 : n ≤ 9) : Bnd n 6561 (places sets needs) := by
  have := places_to (sets := sets) hn hl h9 n (Nat.le_refl _)
  unfold places
  rw [hl]
  exact this.up (by omega)

def least (sets : List Nat) (needs : List Int) : Int := (List.range needs.length).foldl (fun m a => max m (getI (places sets needs) a + getI needs a)) 0
theorem least_to {sets : List Nat} {needs : List Int} {n : Nat} (hn : NeedOk needs) (hl : needs.length = n) (h9 : n ≤ 9) : ∀ a, a ≤ n →
    0 ≤ (List.range a).foldl (fun m a => max m (getI (places sets needs) a + getI needs a)) 0 ∧ (List.range a).foldl (fun m a => max m (getI (places sets needs) a + getI needs a)) 0 ≤ 6570
  | 0, _ => by simp
  | a + 1, ha => by
    have ih := least_to (sets := sets) hn hl h9 a (by omega)
    obtain ⟨x, hx, hx1⟩ := (places_bnd (sets := sets) hn hl h9).at_ (show a < n by omega)
    obtain ⟨z, hz, hzm⟩ := get_of (show a < needs.length by omega)
    have hz1 := hn z hzm
    rw [foldl_rg, getI_is hx, getI_is hz]
    omega
theorem least_bnd {sets : List Nat} {needs : List Int} (hn : NeedOk needs) (h9 : needs.length ≤ 9) : 0 ≤ least sets needs ∧ least sets needs ≤ 6570 := least_to hn rfl h9 _ (Nat.le_refl _)

def needB (x : Int) : Bool := decide (1 ≤ x) && decide (x ≤ 9)
def needsB (p : List Txt) (needs : List Int) : Bool := plainB p && decide ((needs.length : Int) = l1Rooms p) && needs.all needB
theorem needsB_ok {p : List Txt} {needs : List Int} (h : needsB p needs = true) : plainB p = true ∧ gridB p = true ∧ l1Rooms p ≤ 9 ∧ needs.length = (l1Rooms p).toNat ∧ needs.length ≤ 9 ∧ NeedOk needs := by
  unfold needsB at h
  simp only [Bool.and_eq_true, decide_eq_true_eq, List.all_eq_true, needB] at h
  have hp : planB p = true := by have := h.1.1; unfold plainB at this; simp only [Bool.and_eq_true] at this; exact this.1
  have h9 : l1Rooms p ≤ 9 := by have := hp; unfold planB at this; simp only [Bool.and_eq_true, decide_eq_true_eq] at this; omega
  exact ⟨h.1.1, planB_grid hp, h9, by omega, by omega, fun x hx => h.2 x hx⟩
theorem repz_int : ∀ (n : Nat), repz [PV.int .i64 0] n = (List.replicate n 0).map (PV.int .i64)
  | 0 => rfl
  | n + 1 => by rw [repz_succ, repz_int n, List.replicate_succ]; rfl
theorem repz_str : ∀ (n : Nat), repz [PV.str []] n = (List.replicate n []).map PV.str
  | 0 => rfl
  | n + 1 => by rw [repz_succ, repz_str n, List.replicate_succ]; rfl
theorem set_str {l : List Txt} {a : Nat} {m : Txt} : (l.map PV.str).set a (.str m) = (l.set a m).map PV.str := by
  rw [List.map_set]
theorem max_int {a b : Int} : (if b > a then b else a) = max a b := by omega
/-- A copy that is made place by place. -/
theorem copy_succ {α : Type} {l : List α} {z : α} {i : Nat} {a : α} (h : l[i]? = some a) : ((l.take i) ++ List.replicate (l.length - i) z).set i a = (l.take (i + 1)) ++ List.replicate (l.length - (i + 1)) z := by
  have hi := len_of h
  apply List.ext_getElem?
  intro j
  rw [List.getElem?_set]
  by_cases hj : i = j
  · subst hj
    have e1 : i < (l.take i ++ List.replicate (l.length - i) z).length := by simp; omega
    rw [if_pos rfl, if_pos e1, tk h, List.append_assoc, List.getElem?_append_right (by simp; omega)]
    simp [Nat.min_eq_left (Nat.le_of_lt hi)]
  · rw [if_neg hj]
    by_cases hlt : j < i
    · rw [List.getElem?_append_left (by simp; omega), List.getElem?_append_left (by simp; omega)]
      simp [List.getElem?_take, hlt, show j < i + 1 by omega]
    · rw [List.getElem?_append_right (by simp; omega), List.getElem?_append_right (by simp; omega)]
      simp only [List.length_take, Nat.min_eq_left (Nat.le_of_lt hi), Nat.min_eq_left (show i + 1 ≤ l.length by omega), List.getElem?_replicate]
      have : (j - i < l.length - i) = (j - (i + 1) < l.length - (i + 1)) := by apply propext; omega
      simp [this]

/-- How much is left of so much, for so many texts. -/
def szAll : List Txt → Nat
  | [] => 0
  | r :: p => r.length + szAll p
theorem szAll_take {p : List Txt} {i : Nat} {r : Txt} (h : p[i]? = some r) : szAll (p.take (i + 1)) = szAll (p.take i) + r.length := by
  induction p generalizing i with
  | nil => simp at h
  | cons a p ih =>
    cases i with
    | zero => simp at h; subst h; simp [szAll]
    | succ i => simp at h; simp [szAll, ih h]; omega
theorem szAll_le {p : List Txt} {i : Nat} : szAll (p.take i) ≤ szAll p := by
  induction p generalizing i with
  | nil => simp [szAll]
  | cons a p ih =>
    cases i with
    | zero => simp [szAll]
    | succ i => simp only [List.take_succ_cons, szAll]; have := @ih i; omega
theorem szAll_mem {p : List Txt} {r : Txt} (h : r ∈ p) : r.length ≤ szAll p := by
  induction p with
  | nil => simp at h
  | cons a p ih =>
    simp only [szAll]
    rcases List.mem_cons.1 h with rfl | h
    · omega
    · have := ih h; omega
def sz (p : List Txt) (left : Int) : Int := if (p.length + szAll p : Nat) ≤ left then left - (p.length + szAll p : Nat) else -1
theorem sz_sm {p : List Txt} {left : Int} (hl : left ≤ 1048576) (h : 0 ≤ sz p left) : Sm p := by
  unfold sz at h
  split at h
  · exact ⟨by omega, fun r hr => by have := szAll_mem hr; omega⟩
  · omega

theorem take_eq_succ {α : Type} {p q : List α} {i : Nat} {x y : α} (h : p.take i = q.take i) (hx : p[i]? = some x) (hy : q[i]? = some y) (e : x = y) : p.take (i + 1) = q.take (i + 1) := by
  rw [tk hx, tk hy, h, e]

end Fw
end Go.Proofs.Ytmhcknpjgikgmaa

/-! The program's own data in plain words. -/
namespace Go.Proofs.Ytmhcknpjgikgmaa
namespace Fw
open Go

abbrev eGrid (g : List (List Int)) : PV := .sl (g.map eInts) g.length
structure Rect where
  row : Int
  col : Int
  high : Int
  wide : Int
  deriving DecidableEq
def Rect.cells (r : Rect) : List PV := [.int .i64 r.row, .int .i64 r.col, .int .i64 r.high, .int .i64 r.wide]
abbrev eRect (r : Rect) : PV := .agg r.cells
def rcs (rs : List Rect) : List PV := rs.flatMap Rect.cells
abbrev eRects (rs : List Rect) : PV := .sl (rcs rs) rs.length
abbrev eFloor (g : List (List Int)) (rs : List Rect) : PV := .ip [eGrid g, eRects rs] 0

theorem rcs_len (rs : List Rect) : (rcs rs).length = rs.length * 4 := by
  induction rs with
  | nil => rfl
  | cons r rs ih => simp only [rcs, List.flatMap_cons, List.length_append, List.length_cons] at ih ⊢; rw [ih]; simp [Rect.cells]; omega
theorem rcs_app (rs ss : List Rect) : rcs (rs ++ ss) = rcs rs ++ rcs ss := by simp [rcs]
theorem rcs_cons (r : Rect) (rs : List Rect) : rcs (r :: rs) = r.cells ++ rcs rs := rfl
theorem rcs_nil : rcs [] = [] := rfl
theorem rcs_take (rs : List Rect) (n : Nat) : (rcs rs).take (n * 4) = rcs (rs.take n) := by
  induction rs generalizing n with
  | nil => simp [rcs]
  | cons r rs ih =>
    cases n with
    | zero => simp [rcs]
    | succ n =>
      rw [rcs_cons, List.take_succ_cons, rcs_cons, ← ih n]
      rw [show (n + 1) * 4 = r.cells.length + n * 4 by simp [Rect.cells]; omega, List.take_length_add_append]
theorem rcs_drop (rs : List Rect) (n : Nat) : (rcs rs).drop (n * 4) = rcs (rs.drop n) := by
  induction rs generalizing n with
  | nil => simp [rcs]
  | cons r rs ih =>
    cases n with
    | zero => simp
    | succ n =>
      rw [rcs_cons, List.drop_succ_cons, ← ih n]
      rw [show (n + 1) * 4 = r.cells.length + n * 4 by simp [Rect.cells]; omega, List.drop_length_add_append]
theorem rcs_at {rs : List Rect} {n : Nat} {r : Rect} (h : rs[n]? = some r) : ((rcs rs).drop (n * 4)).take 4 = r.cells := by
  rw [rcs_drop]
  have : rs.drop n = r :: rs.drop (n + 1) := by
    obtain ⟨hn, rfl⟩ := List.getElem?_eq_some_iff.1 h
    exact List.drop_eq_getElem_cons hn
  rw [this, rcs_cons]
  simp [Rect.cells]
theorem rcs_set {rs : List Rect} {n : Nat} {r : Rect} (h : n < rs.length) : (rcs rs).take (n * 4) ++ r.cells ++ (rcs rs).drop (n * 4 + 4) = rcs (rs.set n r) := by
  rw [rcs_take, show n * 4 + 4 = (n + 1) * 4 by omega, rcs_drop, show r.cells = rcs [r] by simp [rcs], ← rcs_app, ← rcs_app]
  congr 1
  rw [List.set_eq_take_append_cons_drop, if_pos h]
  simp

/-- The first place at which a test holds. -/
def ixf {α : Type} (test : α → Bool) (l : List α) : Int :=
  match l.findIdx? test with
  | some i => i
  | none => -1
theorem ixf_at {α : Type} {test : α → Bool} {l : List α} {i : Nat} {x : α} (h : l[i]? = some x) (hall : (l.take i).any test = false) (hx : test x = true) : ixf test l = i := by
  have : l.findIdx? test = some i := by
    obtain ⟨hi, rfl⟩ := List.getElem?_eq_some_iff.1 h
    rw [List.findIdx?_eq_some_iff_getElem]
    refine ⟨hi, hx, fun j hj => ?_⟩
    rw [List.any_eq_false] at hall
    have := hall l[j] (by rw [List.mem_take_iff_getElem]; exact ⟨j, by omega, rfl⟩)
    simpa using this
  simp [ixf, this]
theorem ixf_none {α : Type} {test : α → Bool} {l : List α} (hall : l.any test = false) : ixf test l = -1 := by
  have : l.findIdx? test = none := by
    rw [List.findIdx?_eq_none_iff]
    intro x hx
    rw [List.any_eq_false] at hall
    simpa using hall x hx
  simp [ixf, this]
theorem ixf_any {α : Type} {test : α → Bool} {l : List α} : decide (0 ≤ ixf test l) = l.any test := by
  cases h : l.any test with
  | false => rw [ixf_none h]; rfl
  | true =>
    unfold ixf
    cases hi : l.findIdx? test with
    | none =>
      rw [List.findIdx?_eq_none_iff] at hi
      rw [List.any_eq_true] at h
      obtain ⟨x, hx, hx2⟩ := h
      rw [hi x hx] at hx2; cases hx2
    | some i => simp
theorem ixf_lt {α : Type} {test : α → Bool} {l : List α} : -1 ≤ ixf test l ∧ ixf test l ≤ l.length := by
  unfold ixf
  cases hi : l.findIdx? test with
  | none => simp only; omega
  | some i =>
    rw [List.findIdx?_eq_some_iff_getElem] at hi
    obtain ⟨h, _⟩ := hi
    simp only; omega
theorem any_tk {α : Type} {f : α → Bool} {l : List α} {i : Nat} {a : α} (h : l[i]? = some a) (h1 : (l.take i).any f = false) (h2 : f a = false) : (l.take (i + 1)).any f = false := by
  rw [tk h, List.any_append, h1]; simp [h2]

def minI (a b : Int) : Int := min a b
/-- The least rectangle that has two. -/
def Rect.both (b o : Rect) : Rect := ⟨min b.row o.row, min b.col o.col, max (b.row + b.high) (o.row + o.high) - min b.row o.row, max (b.col + b.wide) (o.col + o.wide) - min b.col o.col⟩
def Rect.In (M : Int) (r : Rect) : Prop := 0 ≤ r.row ∧ r.row ≤ M ∧ 0 ≤ r.col ∧ r.col ≤ M ∧ 0 ≤ r.high ∧ r.high ≤ M ∧ 0 ≤ r.wide ∧ r.wide ≤ M
theorem cells_rect {r : Rect} : (eRect r).cells = r.cells := rfl

theorem reify_fn {S : Store} {im : Bool} {k : Nat} {g : FuncId} {cap : List PV} : reify S im (k + 1) (.fn g cap) = (cap.mapM (reify S im k)).map (.fn g) := rfl

/-! ### Objects in another order: small laws -/
section
variable {S : Store} {k f lo : Nat} {sel : List Nat} {fr : Nat → Bool} {im : Bool}
theorem rn_int {q : IntKind} {n : Int} : rn S k sel (f + 1) (.int q n) = some (.int q n) := rfl
theorem rn_bool {b : Bool} : rn S k sel (f + 1) (.bool b) = some (.bool b) := rfl
theorem rn_str {b : Txt} : rn S k sel (f + 1) (.str b) = some (.str b) := rfl
theorem rn_sl {cs : List PV} {n : Nat} : rn S k sel (f + 1) (.sl cs n) = some (.sl cs n) := rfl
theorem rn_ip {cs : List PV} {n : Nat} : rn S k sel (f + 1) (.ip cs n) = some (.ip cs n) := rfl
theorem rn_nils : rn S k sel (f + 1) .nils = some .nils := rfl
theorem rn_nilp : rn S k sel (f + 1) .nilp = some .nilp := rfl
theorem rn_undef : rn S k sel (f + 1) .undef = some .undef := rfl
theorem rn_agg {cs : List PV} : rn S k sel (f + 1) (.agg cs) = (cs.mapM (rn S k sel f)).map .agg := rfl
theorem rn_tup {cs : List PV} : rn S k sel (f + 1) (.tup cs) = (cs.mapM (rn S k sel f)).map .tup := rfl
theorem rn_fn {g : FuncId} {cs : List PV} : rn S k sel (f + 1) (.fn g cs) = (cs.mapM (rn S k sel f)).map (.fn g) := rfl
theorem rn_loc {o ver off n : Nat} : rn S k sel (f + 1) (.loc o ver off n) = (if o < k then some (.loc o ver off n) else
      if sel.contains o then (match S.obs[o]? with | some (.arr v _ _ _) => if v = ver then some (.loc (k + sel.idxOf o) S.tick off n) else none | _ => none)
      else rfq S (frOf k sel) 10 (.loc o ver off n)) := rfl
theorem rn_ref {o ver off : Nat} : rn S k sel (f + 1) (.ref o ver off) = (if o < k then some (.ref o ver off) else
      if sel.contains o then (match S.obs[o]? with | some (.arr v _ _ _) => if v = ver then some (.ref (k + sel.idxOf o) S.tick off) else none | _ => none)
      else rfq S (frOf k sel) 10 (.ref o ver off)) := rfl
theorem rn_mp {o ver : Nat} : rn S k sel (f + 1) (.mp o ver) = (if o < k then some (.mp o ver) else
      if sel.contains o then (match S.obs[o]? with | some (.map v _) => if v = ver then some (.mp (k + sel.idxOf o) S.tick) else none | _ => none)
      else none) := rfl
theorem rfq_loc {o ver off n : Nat} : rfq S fr (f + 1) (.loc o ver off n) = (match S.obs[o]? with
      | some (.arr v _ sz cells) => if fr o = true ∧ v = ver ∧ off + n * sz ≤ cells.length then (((cells.drop off).take (n * sz)).mapM (rfq S fr f)).map (.sl · n) else none
      | _ => none) := rfl
theorem rfq_int {q : IntKind} {n : Int} : rfq S fr (f + 1) (.int q n) = some (.int q n) := rfl
theorem rfq_bool {b : Bool} : rfq S fr (f + 1) (.bool b) = some (.bool b) := rfl
theorem rfq_str {b : Txt} : rfq S fr (f + 1) (.str b) = some (.str b) := rfl
theorem rfq_sl {cs : List PV} {n : Nat} : rfq S fr (f + 1) (.sl cs n) = some (.sl cs n) := rfl
theorem rnObs_nil {old : Bool} : rnObs S k sel old [] = some [] := rfl
theorem rnObs_cons {old : Bool} {o : Nat} {r : List Nat} : rnObs S k sel old (o :: r) = ((S.obs[o]?).bind (rnOb S k sel old)).bind fun a => (rnObs S k sel old r).map (a :: ·) := rfl
theorem rnOb_arr {old : Bool} {ver et sz : Nat} {cells : List PV} : rnOb S k sel old (.arr ver et sz cells) = (cells.mapM (rn S k sel 10)).map (.arr (if old then ver else S.tick) et sz ·) := rfl
theorem rnOb_map {old : Bool} {ver : Nat} {es : List (PV × PV)} : rnOb S k sel old (.map ver es) = (es.mapM fun q => (rn S k sel 10 q.1).bind fun a => (rn S k sel 10 q.2).map fun b => (a, b)).map (.map (if old then ver else S.tick) ·) := rfl
theorem Srn_eq : S.rn k sel = (if sel.all (fun o => decide (k ≤ o)) && decide sel.Nodup && decide (k ≤ S.obs.length) then
    (rnObs S k sel true (List.range k)).bind fun a => (rnObs S k sel false sel).map fun b => ⟨a ++ b, S.tick + 1⟩
  else none) := rfl
/-- Plain cells. -/
def scal : PV → Bool
  | .int _ _ | .bool _ | .str _ => true
  | _ => false
theorem rn_scal {l : List PV} (h : l.all scal = true) : l.mapM (rn S k sel (f + 1)) = some l := by
  rw [List.all_eq_true] at h
  exact mapM_same fun x hx => by have := h x hx; cases x <;> simp [scal] at this <;> rfl
theorem reify_scal {l : List PV} (h : l.all scal = true) : l.mapM (reify S im (f + 1)) = some l := by
  rw [List.all_eq_true] at h
  exact mapM_same fun x hx => by have := h x hx; cases x <;> simp [scal] at this <;> rfl
theorem sh_scal {l : List PV} (h : l.all scal = true) : l.mapM (sh S im (f + 1)) = some l := by
  rw [List.all_eq_true] at h
  exact mapM_same fun x hx => by have := h x hx; cases x <;> simp [scal] at this <;> rfl
theorem frz_scal {l : List PV} (h : l.all scal = true) : l.mapM (frz S lo (f + 1)) = some l := by
  rw [List.all_eq_true] at h
  exact mapM_same fun x hx => by have := h x hx; cases x <;> simp [scal] at this <;> rfl
theorem scal_rcs (rs : List Rect) : (rcs rs).all scal = true := by
  induction rs with
  | nil => rfl
  | cons r rs ih => rw [rcs_cons, List.all_append, ih]; rfl
end

end Fw
end Go.Proofs.Ytmhcknpjgikgmaa

/-! The program's walls in plain words. -/
namespace Go.Proofs.Ytmhcknpjgikgmaa
namespace Fw
open Go

/-- A grid of H rows and W columns. -/
def GW (g : List (List Int)) (H W : Nat) : Prop := g.length = H ∧ (∀ r ∈ g, r.length = W) ∧ 1 ≤ H ∧ H ≤ 6 ∧ 1 ≤ W ∧ W ≤ 6
def gz (g : List (List Int)) (i j : Nat) : Int := (g[i]?.getD [])[j]?.getD 0
theorem GW.at_ {g : List (List Int)} {H W : Nat} (h : GW g H W) {i j : Nat} (hi : i < H) (hj : j < W) : ∃ row, g[i]? = some row ∧ row.length = W ∧ row[j]? = some (gz g i j) := by
  obtain ⟨row, hr, hm⟩ := get_of (show i < g.length by rw [h.1]; exact hi)
  have hl := h.2.1 row hm
  obtain ⟨x, hx, -⟩ := get_of (show j < row.length by omega)
  exact ⟨row, hr, hl, by simp [gz, hr, hx]⟩
def sidesG (g : List (List Int)) (level : Bool) (line at_ : Nat) : Int × Int := if level then (gz g (line - 1) at_, gz g line at_) else (gz g at_ (line - 1), gz g at_ line)
def InL (H W : Nat) (level : Bool) (line at_ : Nat) : Prop := 1 ≤ line ∧ if level then line < H ∧ at_ < W else line < W ∧ at_ < H

structure Wall where
  level : Bool
  line : Int
  fr : Int
  long : Int
def Wall.cells (w : Wall) : List PV := [.bool w.level, .int .i64 w.line, .int .i64 w.fr, .int .i64 w.long]
abbrev eWall (w : Wall) : PV := .agg w.cells
def wcs (ws : List Wall) : List PV := ws.flatMap Wall.cells
abbrev eWalls (ws : List Wall) : PV := .sl (wcs ws) ws.length
theorem wcs_cons (r : Wall) (rs : List Wall) : wcs (r :: rs) = r.cells ++ wcs rs := rfl
theorem wcs_app (rs ss : List Wall) : wcs (rs ++ ss) = wcs rs ++ wcs ss := by simp [wcs]
theorem wcs_len (rs : List Wall) : (wcs rs).length = rs.length * 4 := by
  induction rs with
  | nil => rfl
  | cons r rs ih => rw [wcs_cons, List.length_append, ih, List.length_cons]; simp [Wall.cells]; omega
theorem wcs_last (ws : List Wall) (w : Wall) : (wcs (ws ++ [w])).drop (ws.length * 4) = w.cells := by
  rw [wcs_app, ← wcs_len, List.drop_left]; simp [wcs]
theorem wcs_at {ws : List Wall} {n : Nat} {w : Wall} (h : ws[n]? = some w) : ((wcs ws).drop (n * 4)).take 4 = w.cells := by
  induction ws generalizing n with
  | nil => simp at h
  | cons a ws ih =>
    cases n with
    | zero => simp at h; subst h; rw [wcs_cons]; simp [Wall.cells]
    | succ n =>
      simp at h
      rw [wcs_cons, show (n + 1) * 4 = a.cells.length + n * 4 by simp [Wall.cells]; omega, List.drop_length_add_append]
      exact ih h

/-- One place of a line: walls go on, begin or end. -/
def wlStep (d : Bool) (level : Bool) (line at_ : Nat) (s : List Wall × Bool) : List Wall × Bool :=
  if d && s.2 then (s.1.dropLast ++ (s.1.getLast?.map fun w => { w with long := w.long + 1 }).toList, d)
  else if d then (s.1 ++ [⟨level, line, at_, 1⟩], d) else (s.1, d)
def difG (g : List (List Int)) (level : Bool) (line at_ : Nat) : Bool := decide ((sidesG g level line at_).1 ≠ (sidesG g level line at_).2)
def wlLine (g : List (List Int)) (level : Bool) (line : Nat) (ws : List Wall) (n : Nat) : List Wall × Bool :=
  (List.range n).foldl (fun s at_ => wlStep (difG g level line at_) level line at_ s) (ws, false)
def wlLevel (g : List (List Int)) (level : Bool) (places : Nat) (ws : List Wall) (line : Nat) : List Wall :=
  (List.range line).foldl (fun ws l => if 1 ≤ l then (wlLine g level l ws places).1 else ws) ws
def wallsG (g : List (List Int)) (H W : Nat) : List Wall := wlLevel g true W (wlLevel g false H [] W) H

theorem wlLine_succ {g : List (List Int)} {level : Bool} {line : Nat} {ws : List Wall} {n : Nat} : wlLine g level line ws (n + 1) = wlStep (difG g level line n) level line n (wlLine g level line ws n) := by
  unfold wlLine; rw [foldl_rg]
theorem wlLevel_succ {g : List (List Int)} {level : Bool} {places : Nat} {ws : List Wall} {line : Nat} (h : 1 ≤ line) : wlLevel g level places ws (line + 1) = (wlLine g level line (wlLevel g level places ws line) places).1 := by
  unfold wlLevel; rw [foldl_rg, if_pos h]
/-- Where the way is open there is a last wall. -/
theorem wlStep_open {d level : Bool} {line at_ : Nat} {s : List Wall × Bool} (h : s.2 = true → s.1 ≠ []) : (wlStep d level line at_ s).2 = d ∧ (d = true → (wlStep d level line at_ s).1 ≠ []) ∧ (wlStep d level line at_ s).1.length ≤ s.1.length + 1 ∧ s.1.length ≤ (wlStep d level line at_ s).1.length := by
  unfold wlStep
  cases d with
  | false => simp
  | true =>
    cases ho : s.2 with
    | false => simp
    | true =>
      have := h ho
      cases hl : s.1.getLast? with
      | none => rw [List.getLast?_eq_none_iff] at hl; exact absurd hl this
      | some w =>
        have : 0 < s.1.length := List.length_pos_iff.2 this
        simp; omega
theorem wlLine_open (g : List (List Int)) (level : Bool) (line : Nat) (ws : List Wall) : ∀ n, ((wlLine g level line ws n).2 = true → (wlLine g level line ws n).1 ≠ []) ∧ (wlLine g level line ws n).1.length ≤ ws.length + n ∧ ws.length ≤ (wlLine g level line ws n).1.length
  | 0 => by simp [wlLine]
  | n + 1 => by
    have ih := wlLine_open g level line ws n
    have := wlStep_open (d := difG g level line n) (level := level) (line := line) (at_ := n) ih.1
    rw [wlLine_succ]
    refine ⟨fun h => this.2.1 (this.1 ▸ h), by omega, by omega⟩
theorem wlLevel_len (g : List (List Int)) (level : Bool) {places : Nat} (hp : places ≤ 6) (ws : List Wall) : ∀ line, (wlLevel g level places ws line).length ≤ ws.length + 6 * line
  | 0 => by simp [wlLevel]
  | line + 1 => by
    have ih := wlLevel_len g level hp ws line
    by_cases h : 1 ≤ line
    · rw [wlLevel_succ h]
      have := (wlLine_open g level line (wlLevel g level places ws line) places).2.1
      omega
    · have : line = 0 := by omega
      subst this
      simp [wlLevel] at ih ⊢
/-- Walls are not too long. -/
theorem wlLine_long (g : List (List Int)) (level : Bool) (line : Nat) {ws : List Wall} {M : Int} (hM : 1 ≤ M) (hws : ∀ w ∈ ws, 0 ≤ w.long ∧ w.long ≤ M) : ∀ n : Nat, ∀ w ∈ (wlLine g level line ws n).1, 0 ≤ w.long ∧ w.long ≤ M + n
  | 0, w, h => by simp [wlLine] at h; have := hws w h; omega
  | n + 1, w, h => by
    have ih := wlLine_long g level line hM hws n
    rw [wlLine_succ] at h
    unfold wlStep at h
    split at h
    · simp only [List.mem_append, Option.mem_toList, Option.mem_def, Option.map_eq_some_iff] at h
      rcases h with h | ⟨u, hu, rfl⟩
      · have := ih w ((List.dropLast_sublist _).subset h); omega
      · have := ih u (List.mem_of_getLast? hu); simp only; omega
    · split at h
      · simp only [List.mem_append, List.mem_singleton] at h
        rcases h with h | rfl
        · have := ih w h; omega
        · simp only; omega
      · have := ih w h; omega
theorem wlLevel_long (g : List (List Int)) (level : Bool) {places : Nat} (hp : places ≤ 6) {ws : List Wall} {M : Int} (hM : 1 ≤ M) (hws : ∀ w ∈ ws, 0 ≤ w.long ∧ w.long ≤ M) : ∀ line : Nat, ∀ w ∈ wlLevel g level places ws line, 0 ≤ w.long ∧ w.long ≤ M + 6 * line
  | 0, w, h => by simp [wlLevel] at h; have := hws w h; omega
  | line + 1, w, h => by
    have ih := wlLevel_long g level hp hM hws line
    by_cases hl : 1 ≤ line
    · rw [wlLevel_succ hl] at h
      have := wlLine_long g level line (M := M + 6 * line) (by omega) ih places w h
      omega
    · have : line = 0 := by omega
      subst this
      simp [wlLevel] at h
      have := hws w h; omega

theorem scal_wcs (ws : List Wall) : (wcs ws).all scal = true := by
  induction ws with
  | nil => rfl
  | cons r rs ih => rw [wcs_cons, List.all_append, ih]; rfl
/-- A list of walls that may be nil. -/
def slW (ws : List Wall) (v : Nat) : PV := match ws with | [] => .nils | _ => .loc 0 v 0 ws.length
def stW (ws : List Wall) (v t : Nat) : Store := match ws with | [] => ⟨[], t⟩ | _ => ⟨[.arr v 98 4 (wcs ws)], t⟩
theorem slW_nil {v : Nat} : slW [] v = .nils := rfl
theorem stW_nil {v t : Nat} : stW [] v t = ⟨[], t⟩ := rfl
theorem slW_ne {ws : List Wall} {v : Nat} (h : ws ≠ []) : slW ws v = .loc 0 v 0 ws.length := by cases ws with | nil => exact absurd rfl h | cons a l => rfl
theorem stW_ne {ws : List Wall} {v t : Nat} (h : ws ≠ []) : stW ws v t = ⟨[.arr v 98 4 (wcs ws)], t⟩ := by cases ws with | nil => exact absurd rfl h | cons a l => rfl

theorem rn_wcs {S : Store} {k f : Nat} {sel : List Nat} (ws : List Wall) : (wcs ws).mapM (rn S k sel (f + 1)) = some (wcs ws) := rn_scal (scal_wcs ws)
theorem reify_wcs {S : Store} {im : Bool} {f : Nat} (ws : List Wall) : (wcs ws).mapM (reify S im (f + 1)) = some (wcs ws) := reify_scal (scal_wcs ws)
theorem wl_cases {d op : Bool} {ws : List Wall} (h : op = true → ws ≠ []) : d = false ∨ (d = true ∧ op = false ∧ ws = []) ∨ (d = true ∧ op = false ∧ ws ≠ []) ∨ (d = true ∧ op = true ∧ ws ≠ []) := by
  cases d <;> cases op <;> simp_all
  by_cases hw : ws = [] <;> simp [hw]
theorem last_of {α : Type} {l : List α} (h : l ≠ []) : ∃ l0 a, l = l0 ++ [a] := ⟨l.dropLast, l.getLast h, (List.dropLast_concat_getLast h).symm⟩
theorem wcs_long {ws : List Wall} {w : Wall} : (wcs (ws ++ [w]))[ws.length * 4 + 3]? = some (.int .i64 w.long) := by
  rw [wcs_app, List.getElem?_append_right (by rw [wcs_len]; omega), wcs_len]
  simp [wcs, Wall.cells]
theorem wcs_set {ws : List Wall} {w : Wall} {x : Int} : (wcs (ws ++ [w])).take (ws.length * 4 + 3) ++ [.int .i64 x] ++ (wcs (ws ++ [w])).drop (ws.length * 4 + 4) = wcs (ws ++ [{ w with long := x }]) := by
  rw [wcs_app, wcs_app, ← wcs_len, List.take_length_add_append, List.drop_length_add_append]
  simp [wcs, Wall.cells]
def wsI (g : List (List Int)) (nh nw : Nat) (i : Nat) : List Wall := if i = 0 then [] else if i = 1 then wlLevel g false nh [] nw else wallsG g nh nw
theorem wlLevel_one {g : List (List Int)} {level : Bool} {places : Nat} {ws : List Wall} : wlLevel g level places ws 1 = ws := by simp [wlLevel]
theorem wlLine_zero {g : List (List Int)} {level : Bool} {line : Nat} {ws : List Wall} : wlLine g level line ws 0 = (ws, false) := rfl
theorem wsI_succ {g : List (List Int)} {nh nw i : Nat} (h : i < 2) : wsI g nh nw (i + 1) = wlLevel g (decide (i = 1)) (if i = 1 then nw else nh) (wsI g nh nw i) (if i = 1 then nh else nw) := by
  rcases (show i = 0 ∨ i = 1 by omega) with rfl | rfl <;> simp [wsI, wallsG]
theorem wsI_len {g : List (List Int)} {nh nw i : Nat} (hh : nh ≤ 6) (hw : nw ≤ 6) : (wsI g nh nw i).length ≤ 72 := by
  have h1 := wlLevel_len g false (places := nh) hh [] nw
  have h2 := wlLevel_len g true (places := nw) hw (wlLevel g false nh [] nw) nh
  unfold wsI
  split
  · simp
  · split
    · simp at h1; omega
    · simp at h1; simp only [wallsG]; omega
theorem wsI_long {g : List (List Int)} {nh nw i : Nat} (hh : nh ≤ 6) (hw : nw ≤ 6) : ∀ w ∈ wsI g nh nw i, 0 ≤ w.long ∧ w.long ≤ 100 := by
  have h1 := wlLevel_long g false (places := nh) hh (ws := []) (M := 1) (by omega) (by simp) nw
  have h2 := wlLevel_long g true (places := nw) hw (M := 1 + 6 * nw) (by omega) h1 nh
  unfold wsI
  split
  · simp
  · split
    · intro w hw; have := h1 w hw; omega
    · intro w hw; have := h2 w hw; omega
theorem rn_slW {ws : List Wall} {v t f : Nat} : rn (stW ws v t) (stW ws v t).obs.length [] (f + 1) (slW ws v) = some (slW ws v) := by
  cases ws <;> rfl
theorem rn_stW {ws : List Wall} {v t : Nat} : (stW ws v t).rn (stW ws v t).obs.length [] = some (stW ws v (t + 1)) := by
  cases ws with
  | nil => rfl
  | cons w ws =>
    rw [stW_ne (by simp), stW_ne (by simp)]
    simp [Srn_eq, rnObs_cons, rnObs_nil, rnOb_arr, rn_wcs, List.range_succ]

theorem take_all {S : Store} : S.take S.obs.length = S := by simp [Store.take]

theorem wcs_tk {ws : List Wall} : (wcs ws).take (ws.length * 4) = wcs ws := by rw [← wcs_len, List.take_length]
theorem wcs_snoc {ws : List Wall} {w : Wall} : wcs (ws ++ [w]) = wcs ws ++ w.cells := by rw [wcs_app]; simp [wcs]

theorem reify_slW {ws : List Wall} {v t : Nat} {im : Bool} {k : Nat} : reify (stW ws v t) im (k + 2) (slW ws v) = some (eWalls ws) := by
  cases ws with
  | nil => rfl
  | cons w ws =>
    rw [slW_ne (by simp), stW_ne (by simp)]
    exact reify_loc rfl (wcs_len _) (reify_wcs _)

theorem toNat_last {n : Nat} : (((n + 1 : Nat) : Int) - 1).toNat = n := by omega

end Fw
end Go.Proofs.Ytmhcknpjgikgmaa

/-! Lists without neighbours that are the same; the program's relations in plain words. -/
namespace Go.Proofs.Ytmhcknpjgikgmaa
namespace Fw
open Go

theorem gF {F R : List Ob} {a : Ob} : (F ++ a :: R)[F.length]? = some a := by simp
theorem setF {F R : List Ob} {a b : Ob} : (F ++ a :: R).set F.length b = F ++ b :: R := by simp

theorem set_app2 {α : Type} {f : α → PV} {l : List α} {x : α} {a n : Nat} : (l.map f).take a ++ (List.replicate n x).map f ++ (l.map f).drop (a + n) = (l.take a ++ List.replicate n x ++ l.drop (a + n)).map f := by simp
theorem allc_int {q : IntKind} {l : List Int} : allCells (l.map (PV.int q)) = True := eq_true (allCells_map (fun _ => rfl) l)
/-- A list without numbers that stand behind the same number. -/
def ddp (l : List Int) : List Int := l.foldl putL []
theorem ddp_succ {l : List Int} {p : Nat} {x : Int} (h : l[p]? = some x) : ddp (l.take (p + 1)) = putL (ddp (l.take p)) x := foldl_tk h
theorem putL_last (l : List Int) (x : Int) : (putL l x).getLast? = some x := by
  unfold putL; split
  · assumption
  · simp
theorem ddp_last {l : List Int} {p : Nat} {y : Int} (h : l[p]? = some y) : (ddp (l.take (p + 1))).getLast? = some y := by rw [ddp_succ h]; exact putL_last _ _
theorem ddp_same {l : List Int} {p : Nat} {x y : Int} (hp : 1 ≤ p) (h0 : l[p - 1]? = some y) (h : l[p]? = some x) (e : x = y) : ddp (l.take (p + 1)) = ddp (l.take p) := by
  have := ddp_last h0
  rw [show p - 1 + 1 = p by omega] at this
  rw [ddp_succ h, putL, this, e]; simp
theorem ddp_new {l : List Int} {p : Nat} {x y : Int} (hp : 1 ≤ p) (h0 : l[p - 1]? = some y) (h : l[p]? = some x) (e : ¬ x = y) : ddp (l.take (p + 1)) = ddp (l.take p) ++ [x] := by
  have := ddp_last h0
  rw [show p - 1 + 1 = p by omega] at this
  rw [ddp_succ h, putL, this, if_neg (by simpa using Ne.symm e)]
theorem ddp_one {l : List Int} (h : 1 ≤ l.length) : ddp (l.take 1) = l.take 1 := by
  cases l with
  | nil => simp at h
  | cons a l => rfl
theorem ddp_short {l : List Int} (h : l.length < 2) : ddp l = l := by
  match l, h with
  | [], _ => rfl
  | [a], _ => rfl
theorem ddp_len (l : List Int) : (ddp l).length ≤ l.length := by
  unfold ddp
  have : ∀ (l m : List Int), (l.foldl putL m).length ≤ m.length + l.length := by
    intro l
    induction l with
    | nil => intro m; simp
    | cons a l ih => intro m; have := ih (putL m a); have := putL_len (l := m) (x := a); simp only [List.foldl_cons, List.length_cons]; omega
  have := this l []
  simpa using this
/-- What stands in the cells while numbers are put to the front. -/
structure DC (l c : List Int) (k p : Nat) : Prop where
  len : c.length = l.length
  dk : (ddp (l.take p)).length = k
  hd : c.take k = ddp (l.take p)
  dr : c.drop (p - 1) = l.drop (p - 1)
  kp : k + 1 ≤ p
theorem DC.get {l c : List Int} {k p j : Nat} (h : DC l c k p) (hj : p - 1 ≤ j) : c[j]? = l[j]? := by
  have := congrArg (fun x => x[j - (p - 1)]?) h.dr
  simp only [List.getElem?_drop] at this
  rwa [show p - 1 + (j - (p - 1)) = j by omega] at this
theorem DC.first {l : List Int} {k : Nat} {x y : Int} (h1 : 1 ≤ k) (hd : ddp (l.take k) = l.take k) (hy : l[k - 1]? = some y) (hx : l[k]? = some x) (e : x = y) : DC l l k (k + 1) := by
  have hk := len_of hx
  refine ⟨rfl, ?_, ?_, rfl, Nat.le_refl _⟩
  · rw [ddp_same h1 hy hx e, hd, List.length_take]; omega
  · rw [ddp_same h1 hy hx e, hd]
theorem DC.same {l c : List Int} {k p : Nat} {x y : Int} (h : DC l c k p) (h1 : 1 ≤ p) (hy : l[p - 1]? = some y) (hx : l[p]? = some x) (e : x = y) : DC l c k (p + 1) := by
  refine ⟨h.len, ?_, ?_, ?_, by have := h.kp; omega⟩
  · rw [ddp_same h1 hy hx e]; exact h.dk
  · rw [ddp_same h1 hy hx e]; exact h.hd
  · have := congrArg (List.drop 1) h.dr
    rw [List.drop_drop, List.drop_drop] at this
    rwa [show p - 1 + 1 = p by omega] at this
theorem DC.new {l c : List Int} {k p : Nat} {x y : Int} (h : DC l c k p) (h1 : 1 ≤ p) (hy : l[p - 1]? = some y) (hx : l[p]? = some x) (e : ¬ x = y) : DC l (c.set k x) (k + 1) (p + 1) := by
  have hp := len_of hx
  have hk := h.kp
  have hl := h.len
  refine ⟨by simpa using hl, ?_, ?_, ?_, by omega⟩
  · rw [ddp_new h1 hy hx e, List.length_append, h.dk]; rfl
  · rw [ddp_new h1 hy hx e, ← h.hd]
    have : (c.set k x)[k]? = some x := by rw [List.getElem?_set]; simp; omega
    rw [tk this, List.take_set_of_le (Nat.le_refl _)]
  · rw [Nat.add_sub_cancel, List.drop_set_of_lt (by omega)]
    have := congrArg (List.drop 1) h.dr
    rw [List.drop_drop, List.drop_drop] at this
    rwa [show p - 1 + 1 = p by omega] at this

/-! ### The sides of a wall -/
def alongG (g : List (List Int)) (level : Bool) (line fr : Nat) (n : Nat) : List Int × List Int :=
  ((List.range n).map fun j => (sidesG g level line (fr + j)).1, (List.range n).map fun j => (sidesG g level line (fr + j)).2)
theorem alongG_succ1 {g : List (List Int)} {level : Bool} {line fr n : Nat} : (alongG g level line fr (n + 1)).1 = (alongG g level line fr n).1 ++ [(sidesG g level line (fr + n)).1] := by simp [alongG, List.range_succ]
theorem alongG_succ2 {g : List (List Int)} {level : Bool} {line fr n : Nat} : (alongG g level line fr (n + 1)).2 = (alongG g level line fr n).2 ++ [(sidesG g level line (fr + n)).2] := by simp [alongG, List.range_succ]
theorem alongG_len {g : List (List Int)} {level : Bool} {line fr n : Nat} : (alongG g level line fr n).1.length = n ∧ (alongG g level line fr n).2.length = n := by simp [alongG]
def slL (l : List Int) (k v : Nat) : PV := match l with | [] => .nils | _ => .loc k v 0 l.length
def tlL (l m : List Int) (v0 v1 : Nat) : List Ob := match l with | [] => [] | _ => [.arr v0 3 1 (l.map (.int .i64)), .arr v1 3 1 (m.map (.int .i64))]
theorem slL_ne {l : List Int} {k v : Nat} (h : l ≠ []) : slL l k v = .loc k v 0 l.length := by cases l with | nil => exact absurd rfl h | cons a l => rfl
theorem tlL_ne {l m : List Int} {v0 v1 : Nat} (h : l ≠ []) : tlL l m v0 v1 = [.arr v0 3 1 (l.map (.int .i64)), .arr v1 3 1 (m.map (.int .i64))] := by cases l with | nil => exact absurd rfl h | cons a l => rfl
theorem rn_ints {S : Store} {k f : Nat} {sel : List Nat} {q : IntKind} (l : List Int) : (l.map (PV.int q)).mapM (rn S k sel (f + 1)) = some (l.map (PV.int q)) :=
  mapM_same fun x hx => by obtain ⟨a, _, rfl⟩ := List.mem_map.1 hx; rfl

theorem reify_pre {S : Store} {im : Bool} {k o ver et : Nat} {l z : List Int} (h : S.obs[o]? = some (.arr ver et 1 ((l ++ z).map (.int .i64)))) : reify S im (k + 2) (.loc o ver 0 l.length) = some (eInts l) := by
  simp only [reify, h, Nat.zero_add, Nat.mul_one, List.length_map, List.length_append, Nat.le_add_right, and_self, if_true, List.drop_zero, List.map_append]
  rw [List.take_append_of_le_length (by simp), List.take_of_length_le (by simp)]
  have := mapM_int (S := S) (im := im) (k := k) (q := .i64) l
  simp only [eInts]
  exact congrArg (Option.map fun x => PV.sl x l.length) this

end Fw
end Go.Proofs.Ytmhcknpjgikgmaa

/-! Relations of rooms in plain words, and in the store. -/
namespace Go.Proofs.Ytmhcknpjgikgmaa
namespace Fw
open Go

abbrev eBools (l : List Bool) : PV := .sl (l.map .bool) l.length
abbrev eRel (M : List (List Bool)) : PV := .sl (M.map eBools) M.length
theorem take_all_of {S S' : Store} (h : S = S') : S.take S.obs.length = S' := by rw [take_all, h]
/-- A relation of n rooms. -/
def Sq (n : Nat) (M : List (List Bool)) : Prop := M.length = n ∧ ∀ r ∈ M, r.length = n
def getB (M : List (List Bool)) (a b : Nat) : Bool := (M[a]?.getD [])[b]?.getD false
def setB (M : List (List Bool)) (a b : Nat) (x : Bool) : List (List Bool) := M.set a ((M[a]?.getD []).set b x)
theorem Sq.at_ {n : Nat} {M : List (List Bool)} (h : Sq n M) {a b : Nat} (ha : a < n) (hb : b < n) : ∃ row, M[a]? = some row ∧ row.length = n ∧ row[b]? = some (getB M a b) := by
  obtain ⟨row, hr, hm⟩ := get_of (show a < M.length by rw [h.1]; exact ha)
  have hl := h.2 row hm
  obtain ⟨x, hx, -⟩ := get_of (show b < row.length by omega)
  exact ⟨row, hr, hl, by simp [getB, hr, hx]⟩
theorem Sq.set {n : Nat} {M : List (List Bool)} (h : Sq n M) {a b : Nat} {x : Bool} (ha : a < n) : Sq n (setB M a b x) := by
  obtain ⟨row, hr, hm⟩ := get_of (show a < M.length by rw [h.1]; exact ha)
  refine ⟨by simp [setB, h.1], fun r hr' => ?_⟩
  rcases List.mem_or_eq_of_mem_set hr' with h1 | rfl
  · exact h.2 r h1
  · simp [hr, h.2 row hm]
theorem setB_is {M : List (List Bool)} {a b : Nat} {x : Bool} {row : List Bool} (h : M[a]? = some row) : setB M a b x = M.set a (row.set b x) := by simp [setB, h]
def emptyM (n : Nat) : List (List Bool) := List.replicate n (List.replicate n false)
theorem emptyM_sq (n : Nat) : Sq n (emptyM n) := ⟨by simp [emptyM], fun r hr => by rw [(List.mem_replicate.1 hr).2]; simp⟩

/-- A relation's objects: its rows behind it. -/
def relObs (k t : Nat) (M : List (List Bool)) : List Ob :=
  .arr t 89 1 ((List.range M.length).map fun i => .loc (k + 1 + i) t 0 M.length) :: M.map fun r => .arr t 4 1 (r.map .bool)
theorem relObs_len {k t : Nat} {M : List (List Bool)} : (relObs k t M).length = M.length + 1 := by simp [relObs]
theorem rel0 {F R : List Ob} {t : Nat} {M : List (List Bool)} {n : Nat} (h : M.length = n) : (F ++ (relObs F.length t M ++ R))[F.length]? = some (.arr t 89 1 ((List.range n).map fun i => .loc (F.length + 1 + i) t 0 n)) := by
  subst h; simp [relObs]
theorem relR {F R : List Ob} {t a : Nat} {M : List (List Bool)} {row : List Bool} (h : M[a]? = some row) : (F ++ (relObs F.length t M ++ R))[F.length + 1 + a]? = some (.arr t 4 1 (row.map .bool)) := by
  have ha := len_of h
  rw [List.getElem?_append_right (by omega), List.getElem?_append_left (by rw [relObs_len]; omega), show F.length + 1 + a - F.length = a + 1 by omega]
  simp [relObs, h]
theorem relSet {F R : List Ob} {t a : Nat} {M : List (List Bool)} {row : List Bool} {n : Nat} (hn : M.length = n) (h : a < n) : (F ++ (relObs F.length t M ++ R)).set (F.length + 1 + a) (.arr t 4 1 (row.map .bool)) = F ++ (relObs F.length t (M.set a row) ++ R) := by
  subst hn
  rw [List.set_append_right _ _ (by omega), List.set_append_left _ _ (by rw [relObs_len]; omega), show F.length + 1 + a - F.length = a + 1 by omega]
  simp [relObs, List.map_set]
theorem rg_get {n a : Nat} (h : a < n) : (List.range n)[a]? = some a := List.getElem?_range h
theorem set_bool {l : List Bool} {a : Nat} {x : Bool} : (l.map PV.bool).set a (.bool x) = (l.set a x).map PV.bool := by rw [List.map_set]
theorem repz_bool : ∀ (n : Nat), repz [PV.bool false] n = (List.replicate n false).map PV.bool
  | 0 => rfl
  | n + 1 => by rw [repz_succ, repz_bool n, List.replicate_succ]; rfl
theorem repz_nils : ∀ (n : Nat), repz [PV.nils] n = List.replicate n PV.nils
  | 0 => rfl
  | n + 1 => by rw [repz_succ, repz_nils n, List.replicate_succ]; rfl

theorem mapM_of {α : Type} {f : α → PV} {g : PV → Option PV} {h : α → PV} : ∀ {l : List α}, (∀ a ∈ l, g (f a) = some (h a)) → (l.map f).mapM g = some (l.map h)
  | [], _ => rfl
  | a :: l, H => by
    rw [List.map_cons, List.mapM_cons, H a (by simp), mapM_of (l := l) fun x hx => H x (by simp [hx])]; rfl
theorem shObs_of {α : Type} {f h : α → Ob} {S : Store} {im : Bool} : ∀ {l : List α}, (∀ a ∈ l, shOb S im (f a) = some (h a)) → shObs S im (l.map f) = some (l.map h)
  | [], _ => rfl
  | a :: l, H => by
    rw [List.map_cons, shObs, H a (by simp), Option.bind_some, shObs_of (l := l) fun x hx => H x (by simp [hx])]; rfl

/-- What stands while a relation is being made: i rows, of versions of their own. -/
def grX (n i : Nat) : List PV := ((List.range i).map fun j => PV.loc (j + 1) (j + 1) 0 n) ++ List.replicate (n - i) .nils
def grY (n i : Nat) : List Ob := (List.range i).map fun j => .arr (j + 1) 4 1 ((List.replicate n false).map .bool)
theorem grX_len {n i : Nat} (h : i ≤ n) : (grX n i).length = n := by simp [grX]; omega
theorem grY_len {n i : Nat} : (grY n i).length = i := by simp [grY]
theorem grY_succ {n i : Nat} : grY n (i + 1) = grY n i ++ [.arr (i + 1) 4 1 ((List.replicate n false).map .bool)] := by simp [grY, List.range_succ]
theorem grX_succ {n i : Nat} (h : i < n) : (grX n i).take i ++ [.loc (i + 1) (i + 1) 0 n] ++ (grX n i).drop (i + 1) = grX n (i + 1) := by
  unfold grX
  have e : ((List.range i).map fun j => PV.loc (j + 1) (j + 1) 0 n).length = i := by simp
  rw [List.take_append_of_le_length (by omega), List.take_of_length_le (by omega)]
  have : (((List.range i).map fun j => PV.loc (j + 1) (j + 1) 0 n) ++ List.replicate (n - i) PV.nils).drop (i + 1) = List.replicate (n - (i + 1)) PV.nils := by
    rw [List.drop_append, List.drop_of_length_le (by omega), e, List.nil_append, List.drop_replicate]; congr 1; omega
  rw [this, List.range_succ]; simp
def growObs (n i : Nat) : List Ob := .arr 0 89 1 (grX n i) :: grY n i
theorem grow_sh {n t : Nat} {im : Bool} : ∃ k, sh (Store.take ⟨growObs n n, t⟩ k) im 10 (.loc 0 0 0 n) = some (.loc 0 0 0 n) ∧ shObs (Store.take ⟨growObs n n, t⟩ k) im (Store.take ⟨growObs n n, t⟩ k).obs = some (relObs 0 0 (emptyM n)) := by
  refine ⟨(growObs n n).length, ?_⟩
  have e : Store.take ⟨growObs n n, t⟩ (growObs n n).length = ⟨growObs n n, t⟩ := take_all
  rw [e]
  refine ⟨rfl, ?_⟩
  have hrow : ∀ j, j < n → (growObs n n)[j + 1]? = some (.arr (j + 1) 4 1 ((List.replicate n false).map .bool)) := by
    intro j hj; simp [growObs, grY, hj]
  have h1 : ((List.range n).map fun j => PV.loc (j + 1) (j + 1) 0 n).mapM (sh ⟨growObs n n, t⟩ im 10) = some ((List.range n).map fun j => PV.loc (0 + 1 + j) 0 0 n) := by
    refine mapM_of fun j hj => ?_
    have hj := List.mem_range.1 hj
    simp only [sh, hrow j hj, if_true]
    congr 2; omega
  have h2 : shObs ⟨growObs n n, t⟩ im ((List.range n).map fun j => .arr (j + 1) 4 1 ((List.replicate n false).map .bool)) = some ((List.range n).map fun _ => .arr 0 4 1 ((List.replicate n false).map .bool)) := by
    refine shObs_of fun j _ => ?_
    simp only [shOb]
    rw [sh_scal (by simp [List.all_replicate, scal])]; rfl
  have h3 : (emptyM n).length = n := by simp [emptyM]
  show shObs ⟨growObs n n, t⟩ im (growObs n n) = _
  conv => lhs; arg 3; unfold growObs grX grY
  rw [shObs, Nat.sub_self, List.replicate_zero, List.append_nil]
  simp only [shOb]
  rw [h1]
  simp only [Option.map_some, Option.bind_some]
  rw [h2]
  simp only [Option.map_some, relObs, h3]
  congr 2
  simp [emptyM, List.map_const']

theorem up_rel {k t : Nat} {M : List (List Bool)} : (relObs 0 0 M).map (upOb k t) = relObs k t M := by
  simp only [relObs, List.map_cons, upOb_arr, List.map_map]
  congr 1
  · congr 1
    apply List.map_congr_left
    intro i _
    simp only [Function.comp, up_loc]
    congr 1; omega
  · apply List.map_congr_left
    intro r _
    simp only [Function.comp, upOb_arr, up_bools]

/-- A relation out of the store. -/
theorem reify_rel {S : Store} {im : Bool} {f k t : Nat} {M : List (List Bool)} {n : Nat} (hM : Sq n M) (h0 : S.obs[k]? = some (.arr t 89 1 ((List.range n).map fun i => .loc (k + 1 + i) t 0 n)))
    (h1 : ∀ a row, M[a]? = some row → S.obs[k + 1 + a]? = some (.arr t 4 1 (row.map .bool))) : reify S im (f + 3) (.loc k t 0 n) = some (eRel M) := by
  have hm : ((List.range n).map fun i => PV.loc (k + 1 + i) t 0 n).mapM (reify S im (f + 2)) = some ((List.range n).map fun i => eBools (M[i]?.getD [])) := by
    refine mapM_of fun i hi => ?_
    have hi := List.mem_range.1 hi
    obtain ⟨row, hr, hm⟩ := get_of (show i < M.length by rw [hM.1]; exact hi)
    have hl := hM.2 row hm
    rw [hr]
    have := reify_loc (n := n) (k := f + 1) (im := im) (h1 i row hr) (by simp [hl]) (mapM_bool row)
    rw [this]
    simp [eBools, hl]
  have := reify_loc (n := n) (k := f + 2) (im := im) h0 (by simp) hm
  rw [this]
  have e : ((List.range n).map fun i => eBools (M[i]?.getD [])) = M.map eBools := by
    apply List.ext_getElem
    · simp [hM.1]
    · intro i a b
      have : i < M.length := by rw [hM.1]; simpa using a
      simp [this]
  rw [e]
  simp [eRel, hM.1]

/-! ### Closing -/
def clB (k a : Nat) (M : List (List Bool)) (b : Nat) : List (List Bool) := setB M a b (getB M a b || (getB M a k && getB M k b))
def clA (n k : Nat) (M : List (List Bool)) (a : Nat) : List (List Bool) := (List.range n).foldl (clB k a) M
def clK (n : Nat) (M : List (List Bool)) (k : Nat) : List (List Bool) := (List.range n).foldl (clA n k) M
def closeM (M : List (List Bool)) : List (List Bool) := (List.range M.length).foldl (clK M.length) M
theorem Sq.foldl {n : Nat} {f : List (List Bool) → Nat → List (List Bool)} : ∀ (i : Nat) {M : List (List Bool)}, (∀ M j, j < i → Sq n M → Sq n (f M j)) → Sq n M → Sq n ((List.range i).foldl f M)
  | 0, M, _, h => by simpa using h
  | i + 1, M, hf, h => by
    rw [foldl_rg]
    exact hf _ i (Nat.lt_succ_self i) (Sq.foldl i (fun M j hj => hf M j (by omega)) h)
theorem Sq.clB {n : Nat} {M : List (List Bool)} {k a b : Nat} (h : Sq n M) (ha : a < n) : Sq n (clB k a M b) := h.set ha
theorem Sq.clA {n : Nat} {M : List (List Bool)} {k a : Nat} (h : Sq n M) (ha : a < n) : Sq n (clA n k M a) := Sq.foldl n (fun _ _ _ h => h.clB ha) h
theorem Sq.clK {n : Nat} {M : List (List Bool)} {k : Nat} (h : Sq n M) : Sq n (clK n M k) := Sq.foldl n (fun _ _ hj h => h.clA hj) h
theorem Sq.close {n : Nat} {M : List (List Bool)} (h : Sq n M) : Sq n (closeM M) := by
  unfold closeM; rw [h.1]; exact Sq.foldl n (fun _ _ _ h => h.clK) h

end Fw
end Go.Proofs.Ytmhcknpjgikgmaa

/-! The program's orders in plain words. -/
namespace Go.Proofs.Ytmhcknpjgikgmaa
namespace Fw
open Go

def relB (a : Int) (bs : List Int) (M : List (List Bool)) : List (List Bool) := bs.foldl (fun M b => setB M a.toNat b.toNat true) M
def relW (M : List (List Bool)) (la bs : List Int) : List (List Bool) := la.foldl (fun M a => relB a bs M) M
def sidesOf (g : List (List Int)) (w : Wall) : List Int × List Int :=
  (ddp (alongG g w.level w.line.toNat w.fr.toNat w.long.toNat).1, ddp (alongG g w.level w.line.toNat w.fr.toNat w.long.toNat).2)
def ordW (g : List (List Int)) (M : List (List Bool) × List (List Bool)) (w : Wall) : List (List Bool) × List (List Bool) :=
  if w.level then (M.1, relW M.2 (sidesOf g w).1 (sidesOf g w).2) else (relW M.1 (sidesOf g w).1 (sidesOf g w).2, M.2)
def ordM (g : List (List Int)) (nh nw n : Nat) : List (List Bool) × List (List Bool) := (wallsG g nh nw).foldl (ordW g) (emptyM n, emptyM n)
def leftG (g : List (List Int)) (nh nw n : Nat) : List (List Bool) := closeM (ordM g nh nw n).1
def aboveG (g : List (List Int)) (nh nw n : Nat) : List (List Bool) := closeM (ordM g nh nw n).2

/-! ### Walls of the program are walls -/
def WlOk (g : List (List Int)) (nh nw : Nat) (w : Wall) : Prop :=
  ∃ line fr long : Nat, w = ⟨w.level, line, fr, long⟩ ∧ 1 ≤ long ∧ ∀ j, fr ≤ j → j < fr + long → InL nh nw w.level line j ∧ difG g w.level line j = true
theorem wlLine_ok {g : List (List Int)} {nh nw : Nat} {level : Bool} {line places : Nat} (hin : ∀ j, j < places → InL nh nw level line j) {ws : List Wall} (hws : ∀ w ∈ ws, WlOk g nh nw w) : ∀ n, n ≤ places →
    (∀ w ∈ (wlLine g level line ws n).1, WlOk g nh nw w) ∧ ((wlLine g level line ws n).2 = true → ∃ ws0, ∃ fr long : Nat, (wlLine g level line ws n).1 = ws0 ++ [⟨level, line, fr, long⟩] ∧ fr + long = n ∧ 1 ≤ long ∧ ∀ j, fr ≤ j → j < fr + long → InL nh nw level line j ∧ difG g level line j = true)
  | 0, _ => ⟨hws, by simp [wlLine]⟩
  | n + 1, hn => by
    obtain ⟨ih1, ih2⟩ := wlLine_ok hin hws n (by omega)
    rw [wlLine_succ]
    generalize wlLine g level line ws n = s at ih1 ih2
    obtain ⟨ws', op⟩ := s
    simp only at ih1 ih2
    cases hd : difG g level line n with
    | false => simp only [wlStep, Bool.false_and, Bool.false_eq_true, if_false]; exact ⟨ih1, by simp⟩
    | true =>
      cases op with
      | false =>
        simp only [wlStep, Bool.and_false, Bool.false_eq_true, if_false, if_true]
        have hnew : ∀ j, n ≤ j → j < n + 1 → InL nh nw level line j ∧ difG g level line j = true := by
          intro j h1 h2
          obtain rfl : j = n := by omega
          exact ⟨hin _ (by omega), hd⟩
        refine ⟨fun w hw => ?_, fun _ => ⟨ws', n, 1, rfl, rfl, Nat.le_refl _, hnew⟩⟩
        rcases List.mem_append.1 hw with h | h
        · exact ih1 w h
        · rw [List.mem_singleton] at h; subst h
          exact ⟨line, n, 1, rfl, Nat.le_refl _, hnew⟩
      | true =>
        obtain ⟨ws0, fr, long, e, h1, h2, h3⟩ := ih2 rfl
        subst e
        have hnew : ∀ j, fr ≤ j → j < fr + (long + 1) → InL nh nw level line j ∧ difG g level line j = true := by
          intro j a b
          by_cases hj : j = n
          · subst hj; exact ⟨hin _ (by omega), hd⟩
          · exact h3 j a (by omega)
        simp only [wlStep, Bool.and_self, if_true, List.dropLast_concat, List.getLast?_concat, Option.map_some, Option.toList_some]
        refine ⟨fun w hw => ?_, fun _ => ⟨ws0, fr, long + 1, rfl, by omega, by omega, hnew⟩⟩
        rcases List.mem_append.1 hw with h | h
        · exact ih1 w (List.mem_append_left _ h)
        · rw [List.mem_singleton] at h; subst h
          exact ⟨line, fr, long + 1, rfl, by omega, hnew⟩
theorem wlLevel_ok {g : List (List Int)} {nh nw : Nat} {level : Bool} {lines places : Nat} (hin : ∀ l j, 1 ≤ l → l < lines → j < places → InL nh nw level l j) {ws : List Wall} (hws : ∀ w ∈ ws, WlOk g nh nw w) : ∀ line, line ≤ lines →
    ∀ w ∈ wlLevel g level places ws line, WlOk g nh nw w
  | 0, _ => by simpa [wlLevel] using hws
  | line + 1, hl => by
    have ih := wlLevel_ok hin hws line (by omega)
    by_cases h : 1 ≤ line
    · rw [wlLevel_succ h]
      exact (wlLine_ok (fun j hj => hin line j h (by omega) hj) ih places (Nat.le_refl _)).1
    · have : line = 0 := by omega
      subst this
      simpa [wlLevel] using hws
theorem wallsG_ok {g : List (List Int)} {nh nw : Nat} : ∀ w ∈ wallsG g nh nw, WlOk g nh nw w :=
  wlLevel_ok (lines := nh) (fun l j h1 h2 h3 => ⟨h1, by simp; omega⟩) (wlLevel_ok (lines := nw) (fun l j h1 h2 h3 => ⟨h1, by simp; omega⟩) (by simp) nw (Nat.le_refl _)) nh (Nat.le_refl _)

/-- All cells are numbers of rooms. -/
def RmOk (g : List (List Int)) (nh nw n : Nat) : Prop := ∀ i j, i < nh → j < nw → 0 ≤ gz g i j ∧ gz g i j < n
theorem sides_rooms {g : List (List Int)} {nh nw n : Nat} (h : RmOk g nh nw n) {level : Bool} {line j : Nat} (hi : InL nh nw level line j) :
    0 ≤ (sidesG g level line j).1 ∧ (sidesG g level line j).1 < n ∧ 0 ≤ (sidesG g level line j).2 ∧ (sidesG g level line j).2 < n := by
  obtain ⟨h1, h2⟩ := hi
  cases level with
  | true => simp only [if_true] at h2; have a := h (line - 1) j (by omega) h2.2; have b := h line j h2.1 h2.2; simp only [sidesG, if_true]; omega
  | false => simp only [Bool.false_eq_true, if_false] at h2; have a := h j (line - 1) h2.2 (by omega); have b := h j line h2.2 h2.1; simp only [sidesG, Bool.false_eq_true, if_false]; omega
theorem ddp_mem {l : List Int} {x : Int} (h : x ∈ ddp l) : x ∈ l := by
  unfold ddp at h
  have : ∀ (l m : List Int), x ∈ l.foldl putL m → x ∈ m ∨ x ∈ l := by
    intro l
    induction l with
    | nil => intro m h; exact .inl h
    | cons a l ih =>
      intro m h
      rcases ih _ h with h | h
      · rcases putL_mem h with h | h
        · exact .inl h
        · exact .inr (by simp [h])
      · exact .inr (by simp [h])
  rcases this l [] h with h | h
  · simp at h
  · exact h
theorem sidesOf_rooms {g : List (List Int)} {nh nw n : Nat} (h : RmOk g nh nw n) {w : Wall} (hw : WlOk g nh nw w) : (∀ x ∈ (sidesOf g w).1, 0 ≤ x ∧ x < n) ∧ (∀ x ∈ (sidesOf g w).2, 0 ≤ x ∧ x < n) := by
  obtain ⟨line, fr, long, e, h1, h2⟩ := hw
  have e1 : w.line.toNat = line := by rw [e]; simp
  have e2 : w.fr.toNat = fr := by rw [e]; simp
  have e3 : w.long.toNat = long := by rw [e]; simp
  simp only [sidesOf, e1, e2, e3]
  refine ⟨fun x hx => ?_, fun x hx => ?_⟩
  · have := ddp_mem hx
    simp only [alongG, List.mem_map, List.mem_range] at this
    obtain ⟨j, hj, rfl⟩ := this
    have := sides_rooms h (h2 (fr + j) (by omega) (by omega)).1
    omega
  · have := ddp_mem hx
    simp only [alongG, List.mem_map, List.mem_range] at this
    obtain ⟨j, hj, rfl⟩ := this
    have := sides_rooms h (h2 (fr + j) (by omega) (by omega)).1
    omega
theorem sidesOf_len {g : List (List Int)} {nh nw : Nat} (hg : GW g nh nw) {w : Wall} (hw : WlOk g nh nw w) : (sidesOf g w).1.length ≤ 6 ∧ (sidesOf g w).2.length ≤ 6 := by
  obtain ⟨line, fr, long, e, h1, h2⟩ := hw
  have hgg := hg.2.2
  have hb : fr + long ≤ 6 := by
    have h := (h2 (fr + long - 1) (by omega) (by omega)).1.2
    cases hl : w.level <;> rw [hl] at h <;> simp at h <;> omega
  have e3 : w.long.toNat = long := by rw [e]; simp
  have h3 := alongG_len (g := g) (level := w.level) (line := w.line.toNat) (fr := w.fr.toNat) (n := long)
  simp only [sidesOf, e3]
  exact ⟨Nat.le_trans (ddp_len _) (by omega), Nat.le_trans (ddp_len _) (by omega)⟩
theorem Sq.relB {n : Nat} {a : Int} (ha : a.toNat < n) : ∀ {bs : List Int} {M : List (List Bool)}, Sq n M → Sq n (relB a bs M)
  | [], M, h => h
  | b :: bs, M, h => by
    show Sq n (Fw.relB a bs (setB M a.toNat b.toNat true))
    exact Sq.relB ha (h.set ha)
theorem Sq.relW {n : Nat} {bs : List Int} : ∀ {la : List Int} {M : List (List Bool)}, (∀ a ∈ la, a.toNat < n) → Sq n M → Sq n (relW M la bs)
  | [], M, _, h => h
  | a :: la, M, ha, h => by
    show Sq n (Fw.relW (Fw.relB a bs M) la bs)
    exact Sq.relW (fun x hx => ha x (by simp [hx])) (h.relB (ha a (by simp)))
theorem ordW_sq {g : List (List Int)} {nh nw n : Nat} (h : RmOk g nh nw n) {w : Wall} (hw : WlOk g nh nw w) {M : List (List Bool) × List (List Bool)} (h1 : Sq n M.1) (h2 : Sq n M.2) : Sq n (ordW g M w).1 ∧ Sq n (ordW g M w).2 := by
  have hs := (sidesOf_rooms h hw).1
  unfold ordW
  split
  · exact ⟨h1, h2.relW fun a ha => by have := hs a ha; omega⟩
  · exact ⟨h1.relW fun a ha => by have := hs a ha; omega, h2⟩
theorem ordTo_sq {g : List (List Int)} {nh nw n : Nat} (h : RmOk g nh nw n) : ∀ {ws : List Wall}, (∀ w ∈ ws, WlOk g nh nw w) → ∀ {M : List (List Bool) × List (List Bool)}, Sq n M.1 → Sq n M.2 → Sq n (ws.foldl (ordW g) M).1 ∧ Sq n (ws.foldl (ordW g) M).2
  | [], _, M, h1, h2 => ⟨h1, h2⟩
  | w :: ws, hw, M, h1, h2 => by
    obtain ⟨k1, k2⟩ := ordW_sq h (hw w (by simp)) h1 h2
    exact ordTo_sq h (ws := ws) (fun x hx => hw x (by simp [hx])) k1 k2

/-! ### Two relations in the store, in whatever order they were made -/
theorem rel0' {F R : List Ob} {k t : Nat} {M : List (List Bool)} {n : Nat} (hk : F.length = k) (h : M.length = n) : (F ++ (relObs k t M ++ R))[k]? = some (.arr t 89 1 ((List.range n).map fun i => .loc (k + 1 + i) t 0 n)) := by subst hk; exact rel0 h
theorem relR' {F R : List Ob} {k t a : Nat} {M : List (List Bool)} {row : List Bool} (hk : F.length = k) (h : M[a]? = some row) : (F ++ (relObs k t M ++ R))[k + 1 + a]? = some (.arr t 4 1 (row.map .bool)) := by subst hk; exact relR h
theorem relSet' {F R : List Ob} {k t a : Nat} {M : List (List Bool)} {row : List Bool} {n : Nat} (hk : F.length = k) (hn : M.length = n) (h : a < n) : (F ++ (relObs k t M ++ R)).set (k + 1 + a) (.arr t 4 1 (row.map .bool)) = F ++ (relObs k t (M.set a row) ++ R) := by subst hk; exact relSet hn h

structure Lay (n : Nat) where
  f : Ob → Ob → List Ob → List (List Bool) → List (List Bool) → List Ob
  pL : Nat
  vL : Nat
  pA : Nat
  vA : Nat
  p3 : Nat
  v3 : Nat
  appR : ∀ {o2 : Ob} {o3 : Ob} {R : List Ob} {L : List (List Bool)} {A : List (List Bool)}, f o2 o3 R L A = f o2 o3 [] L A ++ R
  len0 : ∀ {o2 : Ob} {o3 : Ob} {L : List (List Bool)} {A : List (List Bool)}, L.length = n → A.length = n → (f o2 o3 [] L A).length = 2 * n + 4
  get0 : ∀ {o2 : Ob} {o3 : Ob} {R : List Ob} {L : List (List Bool)} {A : List (List Bool)}, (f o2 o3 R L A)[0]? = some o2
  set0 : ∀ {o2 : Ob} {o3 : Ob} {R : List Ob} {L : List (List Bool)} {A : List (List Bool)} {o : Ob}, (f o2 o3 R L A).set 0 o = f o o3 R L A
  get3 : ∀ {o2 : Ob} {o3 : Ob} {R : List Ob} {L : List (List Bool)} {A : List (List Bool)}, L.length = n → A.length = n → (f o2 o3 R L A)[p3]? = some o3
  getL : ∀ {o2 : Ob} {o3 : Ob} {R : List Ob} {L : List (List Bool)} {A : List (List Bool)}, L.length = n → (f o2 o3 R L A)[pL]? = some (.arr vL 89 1 ((List.range n).map fun i => .loc (pL + 1 + i) vL 0 n))
  getLr : ∀ {o2 : Ob} {o3 : Ob} {R : List Ob} {L : List (List Bool)} {A : List (List Bool)} {a : Nat} {row : List Bool}, L[a]? = some row → (f o2 o3 R L A)[pL + 1 + a]? = some (.arr vL 4 1 (row.map .bool))
  setL : ∀ {o2 : Ob} {o3 : Ob} {R : List Ob} {L : List (List Bool)} {A : List (List Bool)} {a : Nat} {row : List Bool}, L.length = n → a < n → (f o2 o3 R L A).set (pL + 1 + a) (.arr vL 4 1 (row.map .bool)) = f o2 o3 R (L.set a row) A
  getA : ∀ {o2 : Ob} {o3 : Ob} {R : List Ob} {L : List (List Bool)} {A : List (List Bool)}, L.length = n → A.length = n → (f o2 o3 R L A)[pA]? = some (.arr vA 89 1 ((List.range n).map fun i => .loc (pA + 1 + i) vA 0 n))
  getAr : ∀ {o2 : Ob} {o3 : Ob} {R : List Ob} {L : List (List Bool)} {A : List (List Bool)} {a : Nat} {row : List Bool}, L.length = n → A[a]? = some row → (f o2 o3 R L A)[pA + 1 + a]? = some (.arr vA 4 1 (row.map .bool))
  setA : ∀ {o2 : Ob} {o3 : Ob} {R : List Ob} {L : List (List Bool)} {A : List (List Bool)} {a : Nat} {row : List Bool}, L.length = n → A.length = n → a < n → (f o2 o3 R L A).set (pA + 1 + a) (.arr vA 4 1 (row.map .bool)) = f o2 o3 R L (A.set a row)
  splL : ∀ {o2 : Ob} {o3 : Ob} {R : List Ob} {L : List (List Bool)} {A : List (List Bool)}, ∃ F R', pL = F.length ∧ ∀ L' : List (List Bool), L'.length = L.length → f o2 o3 R L' A = F ++ (relObs F.length vL L' ++ R')
  splA : ∀ {o2 : Ob} {o3 : Ob} {R : List Ob} {L : List (List Bool)} {A : List (List Bool)}, L.length = n → ∃ F R', pA = F.length ∧ ∀ A' : List (List Bool), A'.length = A.length → f o2 o3 R L A' = F ++ (relObs F.length vA A' ++ R')
section
variable {n : Nat} (Y : Lay n) {o2 o3 : Ob} {R : List Ob} {a t : Nat} {L A : List (List Bool)} {w w' : Ob}
theorem Lay.app : Y.f o2 o3 R L A ++ [w] = Y.f o2 o3 (R ++ [w]) L A := by rw [Y.appR, Y.appR (R := R ++ [w])]; simp
theorem Lay.len (hl : L.length = n) (h : A.length = n) : (Y.f o2 o3 R L A).length = 2 * n + 4 + R.length := by rw [Y.appR, List.length_append, Y.len0 hl h]
theorem Lay.get4 (hl : L.length = n) (h : A.length = n) : (Y.f o2 o3 (w :: R) L A)[2 * n + 4]? = some w := by
  rw [Y.appR, List.getElem?_append_right (by rw [Y.len0 hl h]; exact Nat.le_refl _), Y.len0 hl h]; simp
theorem Lay.set4 (hl : L.length = n) (h : A.length = n) : (Y.f o2 o3 (w :: R) L A).set (2 * n + 4) w' = Y.f o2 o3 (w' :: R) L A := by
  rw [Y.appR, List.set_append_right _ _ (by rw [Y.len0 hl h]; exact Nat.le_refl _), Y.len0 hl h, Y.appR (R := w' :: R)]; simp
theorem Lay.take (hl : L.length = n) (h : A.length = n) : Store.take ⟨Y.f o2 o3 R L A, t⟩ (2 * n + 4) = ⟨Y.f o2 o3 [] L A, t⟩ := by
  simp only [Store.take]
  rw [Y.appR, List.take_append_of_le_length (by rw [Y.len0 hl h]; exact Nat.le_refl _), List.take_of_length_le (by rw [Y.len0 hl h]; exact Nat.le_refl _)]
end
theorem bodyL {o2 : Ob} {X : List Ob} {L : List (List Bool)} : o2 :: (relObs 1 1 L ++ X) = [o2] ++ (relObs 1 1 L ++ X) := rfl
/-- The variable was made behind both. -/
def lay3 (n : Nat) : Lay n where
  f o2 o3 R L A := [o2] ++ (relObs 1 1 L ++ (relObs (n + 2) 2 A ++ o3 :: R))
  pL := 1
  vL := 1
  pA := n + 2
  vA := 2
  p3 := 2 * n + 3
  v3 := 3
  appR := by intros; simp
  len0 := by intros o2 o3 L A h1 h2; simp [relObs_len]; omega
  get0 := rfl
  set0 := rfl
  get3 := by
    intros o2 o3 R L A h1 h2
    rw [List.getElem?_append_right (by simp), List.getElem?_append_right (by simp [relObs_len]; omega), List.getElem?_append_right (by simp [relObs_len]; omega)]
    rw [relObs_len, relObs_len, show 2 * n + 3 - [o2].length - (L.length + 1) - (A.length + 1) = 0 by simp; omega]; rfl
  getL := fun h => rel0' rfl h
  getLr := fun h => relR' rfl h
  setL := fun h1 h2 => relSet' rfl h1 h2
  getA := by intros o2 o3 R L A h1 h2; rw [← List.append_assoc]; exact rel0' (by simp [relObs_len]; omega) h2
  getAr := by intros o2 o3 R L A a row h1 h2; rw [← List.append_assoc]; exact relR' (by simp [relObs_len]; omega) h2
  setA := by intros o2 o3 R L A a row h1 h2 h3; rw [← List.append_assoc, relSet' (by simp [relObs_len]; omega) h2 h3, List.append_assoc]
  splL := by intros o2 o3 R L A; exact ⟨[o2], _, rfl, fun _ _ => rfl⟩
  splA := by intros o2 o3 R L A h; exact ⟨[o2] ++ relObs 1 1 L, o3 :: R, by simp [relObs_len]; omega, fun A' _ => by rw [show ([o2] ++ relObs 1 1 L).length = n + 2 by simp [relObs_len]; omega, List.append_assoc]⟩
/-- The variable was made between both. -/
def lay2 (n : Nat) : Lay n where
  f o2 o3 R L A := [o2] ++ (relObs 1 1 L ++ (o3 :: (relObs (n + 3) 3 A ++ R)))
  pL := 1
  vL := 1
  pA := n + 3
  vA := 3
  p3 := n + 2
  v3 := 2
  appR := by intros; simp
  len0 := by intros o2 o3 L A h1 h2; simp [relObs_len]; omega
  get0 := rfl
  set0 := rfl
  get3 := by
    intros o2 o3 R L A h1 h2
    rw [List.getElem?_append_right (by simp), List.getElem?_append_right (by simp [relObs_len]; omega)]
    rw [relObs_len, show n + 2 - [o2].length - (L.length + 1) = 0 by simp; omega]; rfl
  getL := fun h => rel0' rfl h
  getLr := fun h => relR' rfl h
  setL := fun h1 h2 => relSet' rfl h1 h2
  getA := by intros o2 o3 R L A h1 h2; rw [show [o2] ++ (relObs 1 1 L ++ (o3 :: (relObs (n + 3) 3 A ++ R))) = ([o2] ++ relObs 1 1 L ++ [o3]) ++ (relObs (n + 3) 3 A ++ R) by simp]; exact rel0' (by simp [relObs_len]; omega) h2
  getAr := by intros o2 o3 R L A a row h1 h2; rw [show [o2] ++ (relObs 1 1 L ++ (o3 :: (relObs (n + 3) 3 A ++ R))) = ([o2] ++ relObs 1 1 L ++ [o3]) ++ (relObs (n + 3) 3 A ++ R) by simp]; exact relR' (by simp [relObs_len]; omega) h2
  setA := by intros o2 o3 R L A a row h1 h2 h3; rw [show [o2] ++ (relObs 1 1 L ++ (o3 :: (relObs (n + 3) 3 A ++ R))) = ([o2] ++ relObs 1 1 L ++ [o3]) ++ (relObs (n + 3) 3 A ++ R) by simp, relSet' (by simp [relObs_len]; omega) h2 h3]; simp
  splL := by intros o2 o3 R L A; exact ⟨[o2], _, rfl, fun _ _ => rfl⟩
  splA := by intros o2 o3 R L A h; exact ⟨[o2] ++ relObs 1 1 L ++ [o3], R, by simp [relObs_len]; omega, fun A' _ => by rw [show ([o2] ++ relObs 1 1 L ++ [o3]).length = n + 3 by simp [relObs_len]; omega]; simp⟩
/-- The variable was made ahead of both. -/
def lay1 (n : Nat) : Lay n where
  f o2 o3 R L A := [o2, o3] ++ (relObs 2 2 L ++ (relObs (n + 3) 3 A ++ R))
  pL := 2
  vL := 2
  pA := n + 3
  vA := 3
  p3 := 1
  v3 := 1
  appR := by intros; simp
  len0 := by intros o2 o3 L A h1 h2; simp [relObs_len]; omega
  get0 := rfl
  set0 := rfl
  get3 := fun _ _ => rfl
  getL := fun h => rel0' rfl h
  getLr := fun h => relR' rfl h
  setL := fun h1 h2 => relSet' rfl h1 h2
  getA := by intros o2 o3 R L A h1 h2; rw [← List.append_assoc]; exact rel0' (by simp [relObs_len]; omega) h2
  getAr := by intros o2 o3 R L A a row h1 h2; rw [← List.append_assoc]; exact relR' (by simp [relObs_len]; omega) h2
  setA := by intros o2 o3 R L A a row h1 h2 h3; rw [← List.append_assoc, relSet' (by simp [relObs_len]; omega) h2 h3, List.append_assoc]
  splL := by intros o2 o3 R L A; exact ⟨[o2, o3], _, rfl, fun _ _ => rfl⟩
  splA := by intros o2 o3 R L A h; exact ⟨[o2, o3] ++ relObs 2 2 L, R, by simp [relObs_len]; omega, fun A' _ => by rw [show ([o2, o3] ++ relObs 2 2 L).length = n + 3 by simp [relObs_len]; omega, List.append_assoc]⟩
def selM (lv : Bool) (M : List (List Bool) × List (List Bool)) (X : List (List Bool)) : List (List Bool) × List (List Bool) := if lv then (M.1, X) else (X, M.2)
def baseM (lv : Bool) (M : List (List Bool) × List (List Bool)) : List (List Bool) := if lv then M.2 else M.1
theorem selM_base {lv : Bool} {M : List (List Bool) × List (List Bool)} : selM lv M (baseM lv M) = M := by cases lv <;> rfl
theorem selM_sq {n : Nat} {lv : Bool} {M : List (List Bool) × List (List Bool)} {X : List (List Bool)} (h1 : Sq n M.1) (h2 : Sq n M.2) (h : Sq n X) : Sq n (selM lv M X).1 ∧ Sq n (selM lv M X).2 := by cases lv <;> simp [selM, h1, h2, h]
theorem baseM_sq {n : Nat} {lv : Bool} {M : List (List Bool) × List (List Bool)} (h1 : Sq n M.1) (h2 : Sq n M.2) : Sq n (baseM lv M) := by cases lv <;> simp [baseM, h1, h2]
theorem ordW_sel {g : List (List Int)} {M : List (List Bool) × List (List Bool)} {w : Wall} : ordW g M w = selM w.level M (relW (baseM w.level M) (sidesOf g w).1 (sidesOf g w).2) := by
  unfold ordW selM baseM; cases w.level <;> rfl
theorem relW_tk {M : List (List Bool)} {la bs : List Int} {x : Nat} {a : Int} (h : la[x]? = some a) : relW M (la.take (x + 1)) bs = relB a bs (relW M (la.take x) bs) := foldl_tk h
theorem relB_tk {M : List (List Bool)} {bs : List Int} {y : Nat} {a b : Int} (h : bs[y]? = some b) : relB a (bs.take (y + 1)) M = setB (relB a (bs.take y) M) a.toNat b.toNat true := foldl_tk h
theorem reify_agg2 {S : Store} {im : Bool} {k : Nat} {a b a2 b2 : PV} (h1 : reify S im k a = some a2) (h2 : reify S im k b = some b2) : reify S im (k + 1) (.agg [a, b]) = some (.agg [a2, b2]) := by
  simp [reify, h1, h2]
theorem gMid1 {nr : Nat} {x : Ob} {B : List Ob} : (relObs 1 1 (emptyM nr) ++ [x] ++ B)[nr + 1]? = some x := by
  have : (relObs 1 1 (emptyM nr)).length = nr + 1 := by simp [relObs_len, emptyM]
  rw [List.append_assoc, List.getElem?_append_right (by omega), this]; simp
theorem sMid1 {nr : Nat} {x y : Ob} {B : List Ob} : (relObs 1 1 (emptyM nr) ++ [x] ++ B).set (nr + 1) y = relObs 1 1 (emptyM nr) ++ [y] ++ B := by
  have : (relObs 1 1 (emptyM nr)).length = nr + 1 := by simp [relObs_len, emptyM]
  rw [List.append_assoc, List.set_append_right _ _ (by omega), this]; simp
theorem eRunM_f {P : Program} {T : Tab} {e : Env} {S : Store} {ds pd : List (Option Tmp)} {t d : Nat} {o : Oper} {r l2 : List Oper} {K : Env → Store → Prop} (hp : pd.contains o.dst = false) (h : isFlatE o.op = true)
    (k : eRun false P T ds [o] e S fun e S => eRunM P T ds pd t d l2 r e S K) : eRunM P T ds pd t d l2 (o :: r) e S K := (eRunM_flat hp h).symm ▸ k
theorem gEnd {l : List Ob} {a : Ob} : (l ++ [a])[l.length]? = some a := by simp
theorem setEnd {l : List Ob} {a b : Ob} : (l ++ [a]).set l.length b = l ++ [b] := by simp
theorem emptyM_len {n : Nat} : (emptyM n).length = n := by simp [emptyM]

end Fw
end Go.Proofs.Ytmhcknpjgikgmaa

/-! Heaviest sums in plain words. -/
namespace Go.Proofs.Ytmhcknpjgikgmaa
namespace Fw
open Go

def hvF (M : List (List Bool)) (g : Nat → Int) (b i : Nat) : Int := (List.range i).foldl (fun m a => if getB M a b then max m (g a) else m) 0
def hv (M : List (List Bool)) (ws : List Int) (n : Nat) : Nat → Nat → Int
  | 0, _ => 0
  | f + 1, b => hvF M (hv M ws n f) b n + getI ws b
theorem hvF_succ {M : List (List Bool)} {g : Nat → Int} {b i : Nat} : hvF M g b (i + 1) = if getB M i b then max (hvF M g b i) (g i) else hvF M g b i := by
  unfold hvF; rw [foldl_rg]
theorem hvF_congr {M : List (List Bool)} {g h : Nat → Int} {b : Nat} : ∀ {i : Nat}, (∀ a, a < i → getB M a b = true → g a = h a) → hvF M g b i = hvF M h b i
  | 0, _ => rfl
  | i + 1, H => by
    rw [hvF_succ, hvF_succ, hvF_congr (i := i) fun a ha => H a (by omega)]
    cases hb : getB M i b with
    | false => rfl
    | true => rw [H i (by omega) hb]
theorem hvF_bound {M : List (List Bool)} {g : Nat → Int} {b : Nat} {B : Int} (hB : 0 ≤ B) : ∀ {i : Nat}, (∀ a, a < i → getB M a b = true → g a ≤ B) → 0 ≤ hvF M g b i ∧ hvF M g b i ≤ B
  | 0, _ => by simp [hvF, hB]
  | i + 1, H => by
    have ih := hvF_bound (M := M) (g := g) (b := b) hB (i := i) fun a ha => H a (by omega)
    rw [hvF_succ]
    cases hb : getB M i b with
    | false => simpa using ih
    | true => have := H i (by omega) hb; simp only [if_true]; omega
theorem hvF_ge {M : List (List Bool)} {g : Nat → Int} {b : Nat} : ∀ {i a : Nat}, a < i → getB M a b = true → g a ≤ hvF M g b i
  | i + 1, a, h, hb => by
    rw [hvF_succ]
    by_cases e : a = i
    · subst e; rw [hb]; simp only [if_true]; omega
    · have := hvF_ge (M := M) (g := g) (i := i) (a := a) (by omega) hb
      split <;> omega

/-- A relation that goes up. -/
structure Up (M : List (List Bool)) (n : Nat) (rk : Nat → Nat) : Prop where
  sq : Sq n M
  up : ∀ a b, a < n → b < n → getB M a b = true → rk a < rk b
  le : ∀ b, rk b ≤ 100
theorem hv_eq {M : List (List Bool)} {ws : List Int} {n : Nat} {rk : Nat → Nat} (hu : Up M n rk) : ∀ (f f' b : Nat), b < n → rk b < f → rk b < f' → hv M ws n f b = hv M ws n f' b
  | 0, _, _, _, h, _ => by omega
  | _ + 1, 0, _, _, _, h => by omega
  | f + 1, f' + 1, b, hb, h1, h2 => by
    show hvF M (hv M ws n f) b n + getI ws b = hvF M (hv M ws n f') b n + getI ws b
    congr 1
    apply hvF_congr
    intro a ha hab
    have h3 := hu.up a b ha hb hab
    exact hv_eq hu f f' a ha (by omega) (by omega)
/-- The heaviest sum that ends with a room. -/
def HB (M : List (List Bool)) (ws : List Int) (n b : Nat) : Int := hv M ws n 101 b
theorem HB_eq {M : List (List Bool)} {ws : List Int} {n : Nat} {rk : Nat → Nat} (hu : Up M n rk) {b : Nat} (hb : b < n) : HB M ws n b = hvF M (HB M ws n) b n + getI ws b := by
  have e : HB M ws n b = hvF M (hv M ws n 100) b n + getI ws b := rfl
  rw [e, hvF_congr (h := HB M ws n)]
  intro a ha hab
  have h3 := hu.up a b ha hb hab
  have h4 := hu.le b
  exact hv_eq hu 100 101 a ha (by omega) (by omega)
theorem hv_bound {M : List (List Bool)} {ws : List Int} {n : Nat} (hw : NeedOk ws) : ∀ (f b : Nat), 0 ≤ hv M ws n f b ∧ hv M ws n f b ≤ 9 * f
  | 0, b => by simp [hv]
  | f + 1, b => by
    have ih := hv_bound (M := M) (n := n) hw f
    have h := hvF_bound (M := M) (g := hv M ws n f) (b := b) (B := 9 * f) (by omega) (i := n) fun a _ _ => (ih a).2
    have hg : 0 ≤ getI ws b ∧ getI ws b ≤ 9 := by
      unfold getI
      cases e : ws[b]? with
      | none => simp
      | some x => have := hw x (List.mem_of_getElem? e); simp; omega
    show 0 ≤ hvF M (hv M ws n f) b n + getI ws b ∧ hvF M (hv M ws n f) b n + getI ws b ≤ 9 * (f + 1 : Nat)
    omega
theorem HB_bound {M : List (List Bool)} {ws : List Int} {n : Nat} (hw : NeedOk ws) (b : Nat) : 0 ≤ HB M ws n b ∧ HB M ws n b ≤ 909 := by
  have := hv_bound (M := M) (n := n) hw 101 b
  unfold HB; omega
theorem HB_pos {M : List (List Bool)} {ws : List Int} {n : Nat} (hw : NeedOk ws) {b : Nat} (hb : b < ws.length) : 1 ≤ HB M ws n b := by
  have ih := hv_bound (M := M) (n := n) hw 100
  have h := hvF_bound (M := M) (g := hv M ws n 100) (b := b) (B := 900) (by omega) (i := n) fun a _ _ => by have := (ih a).2; omega
  obtain ⟨x, hx, hm⟩ := get_of hb
  have := hw x hm
  show 1 ≤ hvF M (hv M ws n 100) b n + getI ws b
  rw [getI_is hx]; omega
/-- What has been noted: nothing, or the sum. -/
def Memo (M : List (List Bool)) (ws : List Int) (n : Nat) (out : List Int) : Prop := out.length = n ∧ ∀ (b : Nat) x, out[b]? = some x → x = 0 ∨ x = HB M ws n b
def Keep (out out' : List Int) : Prop := ∀ (b : Nat) x, out[b]? = some x → x ≠ 0 → out'[b]? = some x
theorem Keep.refl (out : List Int) : Keep out out := fun _ _ h _ => h
theorem Keep.trans {a b c : List Int} (h : Keep a b) (k : Keep b c) : Keep a c := fun i x h1 h2 => k i x (h i x h1 h2) h2
theorem Memo.at_ {M : List (List Bool)} {ws out : List Int} {n : Nat} (h : Memo M ws n out) {b : Nat} (hb : b < n) : ∃ x, out[b]? = some x ∧ (x = 0 ∨ x = HB M ws n b) := by
  obtain ⟨x, hx, -⟩ := get_of (show b < out.length by rw [h.1]; exact hb)
  exact ⟨x, hx, h.2 b x hx⟩
theorem Memo.set {M : List (List Bool)} {ws out : List Int} {n : Nat} (h : Memo M ws n out) {b : Nat} : Memo M ws n (out.set b (HB M ws n b)) := by
  refine ⟨by simpa using h.1, fun c x hx => ?_⟩
  rw [List.getElem?_set] at hx
  split at hx
  · rename_i e; subst e
    split at hx
    · cases hx; exact .inr rfl
    · cases hx
  · exact h.2 c x hx
theorem Memo.keep {M : List (List Bool)} {ws out : List Int} {n : Nat} (h : Memo M ws n out) {b : Nat} : Keep out (out.set b (HB M ws n b)) := by
  intro c x hx h0
  rw [List.getElem?_set]
  split
  · rename_i e; subst e
    have := (h.2 b x hx).resolve_left h0
    rw [if_pos (len_of hx), this]
  · exact hx
def heaviest (M : List (List Bool)) (ws : List Int) (n : Nat) : List Int := (List.range n).map (HB M ws n)
theorem memo_all {M : List (List Bool)} {ws out : List Int} {n : Nat} (h : Memo M ws n out) (hall : ∀ b, b < n → out[b]? = some (HB M ws n b)) : out = heaviest M ws n := by
  apply List.ext_getElem?
  intro i
  by_cases hi : i < n
  · rw [hall i hi]; simp [heaviest, hi]
  · rw [List.getElem?_eq_none (by rw [h.1]; omega), List.getElem?_eq_none (by simp [heaviest]; omega)]
theorem memo_zero {M : List (List Bool)} {ws : List Int} {n : Nat} : Memo M ws n (List.replicate n 0) := by
  refine ⟨by simp, fun b x hx => ?_⟩
  rw [List.getElem?_replicate] at hx
  split at hx <;> cases hx
  exact .inl rfl
def maxL : List Int → Int
  | [] => 0
  | a :: l => l.foldl max a

theorem maxL_start {l : List Int} {x0 : Int} : ((l.take 1).drop 1).foldl max x0 = x0 := by
  rw [List.drop_of_length_le (by simp; omega)]; rfl
theorem maxL_step {l : List Int} {x0 x : Int} {i : Nat} (h1 : 1 ≤ i) (h : l[i]? = some x) : ((l.take (i + 1)).drop 1).foldl max x0 = max (((l.take i).drop 1).foldl max x0) x := by
  have hi := len_of h
  rw [tk h, List.drop_append_of_le_length (by simp; omega), List.foldl_append]; rfl
theorem maxL_end {l : List Int} {x0 : Int} {i : Nat} (h0 : l[0]? = some x0) (hi : l.length ≤ i) : ((l.take i).drop 1).foldl max x0 = maxL l := by
  rw [List.take_of_length_le hi]
  cases l with
  | nil => simp at h0
  | cons a l => simp at h0; subst h0; rfl

theorem cells_fn {f : FuncId} {cs : List PV} : (PV.fn f cs).cells = [.fn f cs] := rfl
theorem ic_fn {f : FuncId} {cs : List PV} : (PV.fn f cs).isCell = true := rfl

end Fw
end Go.Proofs.Ytmhcknpjgikgmaa

/-! Numbers put in order by putting one after the other in. -/
namespace Go.Proofs.Ytmhcknpjgikgmaa
namespace Fw
open Go

/-- The first i numbers stand in order. -/
def Ord (c : List Int) (i : Nat) : Prop := ∀ p q x y, p < q → q < i → c[p]? = some x → c[q]? = some y → x ≤ y
/-- The first i + 1 numbers stand in order, but for the one at j against those ahead of it. -/
def InsO (c : List Int) (j i : Nat) : Prop := ∀ p q x y, p < q → q ≤ i → q ≠ j → c[p]? = some x → c[q]? = some y → x ≤ y

theorem Ord.one (c : List Int) : Ord c 1 := by intro p q x y h1 h2; omega
theorem Ord.ins {c : List Int} {i : Nat} (h : Ord c i) : InsO c i i := by
  intro p q x y h1 h2 h3 hx hy
  exact h p q x y h1 (by omega) hx hy
theorem InsO.zero {c : List Int} {i : Nat} (h : InsO c 0 i) : Ord c (i + 1) := by
  intro p q x y h1 h2 hx hy
  exact h p q x y h1 (by omega) (by omega) hx hy
theorem InsO.stop {c : List Int} {i j : Nat} {a b : Int} (h : InsO c j i) (ha : c[j]? = some a) (hb : c[j - 1]? = some b) (hle : ¬ a < b) : Ord c (i + 1) := by
  intro p q x y h1 h2 hx hy
  by_cases e : q = j
  · subst e
    rw [ha] at hy; cases hy
    by_cases e2 : p = q - 1
    · subst e2; rw [hb] at hx; cases hx; omega
    · have := h p (q - 1) x b (by omega) (by omega) (by omega) hx hb; omega
  · exact h p q x y h1 (by omega) e hx hy
theorem InsO.swap {c : List Int} {i j : Nat} {a b : Int} (h : InsO c j i) (hj : j ≠ 0) (hji : j ≤ i) (ha : c[j]? = some a) (hb : c[j - 1]? = some b) (hlt : a < b) : InsO ((c.set j b).set (j - 1) a) (j - 1) i := by
  have hl := len_of ha
  have g : ∀ k, ((c.set j b).set (j - 1) a)[k]? = if k = j - 1 then some a else if k = j then some b else c[k]? := by
    intro k
    rw [List.getElem?_set]
    by_cases e : j - 1 = k
    · rw [if_pos e, if_pos e.symm, if_pos (by simp; omega)]
    · rw [if_neg e, if_neg (Ne.symm e), List.getElem?_set]
      by_cases e2 : j = k
      · rw [if_pos e2, if_pos e2.symm, if_pos (by omega)]
      · rw [if_neg e2, if_neg (Ne.symm e2)]
  intro p q x y h1 h2 h3 hx hy
  rw [g] at hx hy
  rw [if_neg h3] at hy
  by_cases e : q = j
  · rw [if_pos e] at hy; cases hy
    by_cases e2 : p = j - 1
    · rw [if_pos e2] at hx; cases hx; omega
    · rw [if_neg e2, if_neg (by omega)] at hx
      exact h p (j - 1) x b (by omega) (by omega) (by omega) hx hb
  · rw [if_neg e] at hy
    by_cases e2 : p = j - 1
    · rw [if_pos e2] at hx; cases hx
      exact h j q a y (by omega) h2 e ha hy
    · rw [if_neg e2] at hx
      by_cases e3 : p = j
      · rw [if_pos e3] at hx; cases hx
        exact h (j - 1) q b y (by omega) h2 e hb hy
      · rw [if_neg e3] at hx
        exact h p q x y h1 h2 e hx hy
theorem swap_perm {c l : List Int} {j : Nat} {a b : Int} (h : c.Perm l) (ha : c[j]? = some a) (hb : c[j - 1]? = some b) : ((c.set j b).set (j - 1) a).Perm l := by
  obtain ⟨h1, e1⟩ := List.getElem?_eq_some_iff.mp ha
  obtain ⟨h2, e2⟩ := List.getElem?_eq_some_iff.mp hb
  have := @List.set_set_perm _ c _ _ h1 h2
  rw [e1, e2] at this
  exact this.trans h
theorem swap_len {c : List Int} {j : Nat} {a b : Int} : ((c.set j b).set (j - 1) a).length = c.length := by simp
theorem Ord.pair {c : List Int} (h : Ord c c.length) : c.Pairwise (· ≤ ·) := by
  rw [List.pairwise_iff_getElem]
  intro i j hi hj hij
  exact h i j _ _ hij hj (List.getElem?_eq_getElem hi) (List.getElem?_eq_getElem hj)
end Fw
end Go.Proofs.Ytmhcknpjgikgmaa

/-! How many rooms meet at the points of a grid of the program. -/
namespace Go.Proofs.Ytmhcknpjgikgmaa
namespace Fw
open Go

/-- How many numbers differ. -/
def dn : List Int → Nat
  | [] => 0
  | a :: l => (if a ∈ l then 0 else 1) + dn l
theorem dn_of : ∀ {m l : List Int}, l.Nodup → (∀ x, x ∈ l ↔ x ∈ m) → l.length = dn m
  | [], l, _, h => by
    cases l with
    | nil => rfl
    | cons a l => exact absurd ((h a).1 (by simp)) (by simp)
  | a :: m, l, hn, h => by
    unfold dn
    by_cases ha : a ∈ m
    · rw [if_pos ha, dn_of (m := m) hn fun x => ?_]; · omega
      rw [h x, List.mem_cons]
      constructor
      · rintro (rfl | h)
        · exact ha
        · exact h
      · exact .inr
    · have hal : a ∈ l := (h a).2 (by simp)
      have hl := List.length_erase_of_mem hal
      have h0 := List.length_pos_of_mem hal
      rw [if_neg ha, ← dn_of (m := m) (l := l.erase a) (hn.erase a) fun x => ?_]
      · omega
      · rw [hn.mem_erase_iff, h x, List.mem_cons]
        constructor
        · rintro ⟨h1, h2 | h2⟩
          · exact absurd h2 h1
          · exact h2
        · intro hx
          exact ⟨fun e => ha (e ▸ hx), .inr hx⟩
theorem mem_putL {l : List Int} {x y : Int} : y ∈ putL l x ↔ y ∈ l ∨ y = x := by
  unfold putL
  split
  · rename_i h
    constructor
    · exact .inl
    · rintro (h' | rfl)
      · exact h'
      · exact List.mem_of_getLast? h
  · simp
theorem ddp_sorted {z : List Int} (hz : z.Pairwise (· ≤ ·)) : ∀ p, p ≤ z.length → (ddp (z.take p)).Pairwise (· < ·) ∧ ∀ x, x ∈ ddp (z.take p) ↔ x ∈ z.take p
  | 0, _ => by simp [ddp]
  | p + 1, hp => by
    obtain ⟨x, hx, -⟩ := get_of (show p < z.length by omega)
    obtain ⟨h1, h2⟩ := ddp_sorted hz p (by omega)
    have hle : ∀ a ∈ z.take p, a ≤ x := by
      intro a ha
      obtain ⟨j, hj, rfl⟩ := List.mem_take_iff_getElem.1 ha
      obtain ⟨hp', rfl⟩ := List.getElem?_eq_some_iff.1 hx
      exact (List.pairwise_iff_getElem.1 hz) j p (by omega) hp' (by omega)
    rw [ddp_succ hx]
    constructor
    · unfold putL
      split
      · exact h1
      · rename_i hl
        rw [List.pairwise_append]
        refine ⟨h1, by simp, ?_⟩
        intro a ha b hb
        rw [List.mem_singleton] at hb
        subst hb
        have ha' := (h2 a).1 ha
        by_cases hp0 : p = 0
        · subst hp0; simp at ha'
        · obtain ⟨y, hy, -⟩ := get_of (show p - 1 < z.length by omega)
          have hlast := ddp_last hy
          rw [show p - 1 + 1 = p by omega] at hlast
          have hyb : y ≠ b := fun e => hl (e ▸ hlast)
          have hyl : y ≤ b := hle y ((h2 y).1 (List.mem_of_getLast? hlast))
          have : a ≤ y := by
            obtain ⟨j, hj, rfl⟩ := List.mem_take_iff_getElem.1 ha'
            obtain ⟨hp', rfl⟩ := List.getElem?_eq_some_iff.1 hy
            by_cases e : j = p - 1
            · subst e; exact Int.le_refl _
            · exact (List.pairwise_iff_getElem.1 hz) j (p - 1) (by omega) hp' (by omega)
          omega
    · intro y
      rw [mem_putL, h2 y, tk hx]
      simp
theorem ddp_dn {l z : List Int} (hp : z.Perm l) (hz : z.Pairwise (· ≤ ·)) : (ddp z).length = dn l := by
  have h := ddp_sorted hz z.length (Nat.le_refl _)
  rw [List.take_length] at h
  refine dn_of (h.1.imp fun h => Int.ne_of_lt h) fun x => ?_
  rw [h.2 x]
  exact hp.mem_iff

def four (g : List (List Int)) (i k : Nat) : List Int := [gz g (i - 1) (k - 1), gz g (i - 1) k, gz g i (k - 1), gz g i k]
def ptsRowG (g : List (List Int)) (many : Int) (i : Nat) : Nat → Int
  | 0 => 0
  | k + 1 => ptsRowG g many i k + if 1 ≤ k ∧ ((dn (four g i k) : Nat) : Int) = many then 1 else 0
def ptsG (g : List (List Int)) (many : Int) (w : Nat) : Nat → Int
  | 0 => 0
  | i + 1 => ptsG g many w i + if 1 ≤ i then ptsRowG g many i w else 0
theorem ptsRowG_bound (g : List (List Int)) (many : Int) (i : Nat) : ∀ k, 0 ≤ ptsRowG g many i k ∧ ptsRowG g many i k ≤ k
  | 0 => by simp [ptsRowG]
  | k + 1 => by have := ptsRowG_bound g many i k; unfold ptsRowG; split <;> omega
theorem ptsG_bound (g : List (List Int)) (many : Int) {w : Nat} (hw : w ≤ 6) : ∀ i, 0 ≤ ptsG g many w i ∧ ptsG g many w i ≤ 6 * i
  | 0 => by simp [ptsG]
  | i + 1 => by have := ptsG_bound g many hw i; have := ptsRowG_bound g many i w; unfold ptsG; split <;> omega
theorem ptsG_one {g : List (List Int)} {many : Int} {w : Nat} : ptsG g many w 1 = 0 := by simp [ptsG]
theorem ptsRowG_one {g : List (List Int)} {many : Int} {i : Nat} : ptsRowG g many i 1 = 0 := by simp [ptsRowG]
theorem ptsG_succ {g : List (List Int)} {many : Int} {w i : Nat} (h : 1 ≤ i) : ptsG g many w (i + 1) = ptsG g many w i + ptsRowG g many i w := by simp [ptsG, h]
theorem ptsRowG_hit {g : List (List Int)} {many : Int} {i k : Nat} (h : 1 ≤ k) (e : ((dn (four g i k) : Nat) : Int) = many) : ptsRowG g many i (k + 1) = ptsRowG g many i k + 1 := by simp [ptsRowG, h, e]
theorem ptsRowG_miss {g : List (List Int)} {many : Int} {i k : Nat} (e : ¬ ((dn (four g i k) : Nat) : Int) = many) : ptsRowG g many i (k + 1) = ptsRowG g many i k := by simp [ptsRowG, e]
theorem four_eq {g : List (List Int)} {i k : Nat} : [gz g (i - 1) (k - 1), gz g (i - 1) k, gz g i (k - 1), gz g i k] = four g i k := rfl
end Fw
end Go.Proofs.Ytmhcknpjgikgmaa

/-! The text of a grid. -/
namespace Go.Proofs.Ytmhcknpjgikgmaa
namespace Fw
open Go

def letZ (z : Int) : UInt8 := UInt8.ofNat (97 + z.toNat)
def rowT (row : List Int) : Txt := row.map letZ
def textG (g : List (List Int)) : List Txt := g.map rowT
theorem u8_let {z : Int} (h : 0 ≤ z) : IntKind.u8.wrap (97 + z) = ((letZ z).toNat : Int) := by
  obtain ⟨n, rfl⟩ := Int.eq_ofNat_of_zero_le h
  exact u8_97
/-- A list of texts and a builder. -/
def stB (o : List Txt) (vo vb : Nat) (l : Txt) (vq t : Nat) : Store :=
  match l with
  | [] => ⟨[.arr vo 9 1 (o.map .str), .arr vb 118 2 [.nilp, .nils]], t⟩
  | l => ⟨[.arr vo 9 1 (o.map .str), .arr vb 118 2 [.ref 1 vb 0, .loc 2 vq 0 l.length], .arr vq 5 1 (l.map eB)], t⟩
theorem stB_nil {o : List Txt} {vo vb vq t : Nat} : stB o vo vb [] vq t = ⟨[.arr vo 9 1 (o.map .str), .arr vb 118 2 [.nilp, .nils]], t⟩ := rfl
theorem stB_ne {o : List Txt} {vo vb : Nat} {l : Txt} {vq t : Nat} (h : l ≠ []) : stB o vo vb l vq t = ⟨[.arr vo 9 1 (o.map .str), .arr vb 118 2 [.ref 1 vb 0, .loc 2 vq 0 l.length], .arr vq 5 1 (l.map eB)], t⟩ := by
  cases l with
  | nil => exact absurd rfl h
  | cons a l => rfl
theorem rn_strs {S : Store} {k f : Nat} {sel : List Nat} (o : List Txt) : (o.map PV.str).mapM (rn S k sel (f + 1)) = some (o.map PV.str) := rn_scal (by simp [scal])
theorem reify_txts {S : Store} {im : Bool} {f : Nat} (o : List Txt) : (o.map PV.str).mapM (reify S im (f + 1)) = some (o.map PV.str) := reify_scal (by simp [scal])
theorem rowT_len (row : List Int) : (rowT row).length = row.length := by simp [rowT]
theorem rowT_ne {row : List Int} (h : 1 ≤ row.length) : rowT row ≠ [] := by
  intro e
  have := rowT_len row
  rw [e] at this
  simp at this; omega
theorem rowT_succ {row : List Int} {k : Nat} {z : Int} (h : row[k]? = some z) : rowT (row.take (k + 1)) = rowT (row.take k) ++ [letZ z] := by simp [rowT, tk h]
theorem set_strs {o : List Txt} {i : Nat} {x : Txt} : (o.set i x).map PV.str = (o.map PV.str).set i (.str x) := by simp [List.map_set]
theorem text_done {g : List (List Int)} {o : List Txt} (hl : o.length = g.length) (h : ∀ j, j < g.length → o[j]? = (textG g)[j]?) : o = textG g := by
  refine List.ext_getElem? fun j => ?_
  by_cases hj : j < g.length
  · exact h j hj
  · rw [List.getElem?_eq_none (by omega), List.getElem?_eq_none (by simp [textG]; omega)]
theorem textG_at {g : List (List Int)} {j : Nat} {row : List Int} (h : g[j]? = some row) : (textG g)[j]? = some (rowT row) := by simp [textG, h]
end Fw
end Go.Proofs.Ytmhcknpjgikgmaa

/-! How the program numbers rooms and finds the rectangles around them. -/
namespace Go.Proofs.Ytmhcknpjgikgmaa
namespace Fw
open Go

/-- The entries of a map that numbers keys as they came. -/
def mE (ks : List Int) : List (PV × PV) := ks.zipIdx.map fun q => (.int .i64 q.1, .int .i64 ((q.2 : Nat) : Int))
theorem mE_len (ks : List Int) : (mE ks).length = ks.length := by simp [mE]
theorem mE_app (ks : List Int) (z : Int) : mE (ks ++ [z]) = mE ks ++ [(.int .i64 z, .int .i64 ((ks.length : Nat) : Int))] := by simp [mE, List.zipIdx_append]
theorem sameKey_int {q : IntKind} {a b : Int} : sameKey (.int q a) (.int q b) = some (decide (a = b)) := by
  simp only [sameKey]
  by_cases h : a = b <;> simp [h]
theorem findKey_go {z : Int} : ∀ (ks : List Int) (i : Nat), findKey (.int .i64 z) ((ks.zipIdx i).map fun q => (PV.int .i64 q.1, PV.int .i64 ((q.2 : Nat) : Int))) i = some (if ks.idxOf z = ks.length then none else some (i + ks.idxOf z, .int .i64 ((i + ks.idxOf z : Nat) : Int)))
  | [], i => by simp [findKey]
  | a :: ks, i => by
    simp only [List.zipIdx_cons, List.map_cons, findKey, sameKey_int]
    by_cases h : z = a
    · subst h
      simp [List.idxOf_cons]
    · have h' : (a == z) = false := by simpa using Ne.symm h
      have := findKey_go (z := z) ks (i + 1)
      simp only [h, decide_false]
      rw [this, List.idxOf_cons, h']
      simp only [cond_false, List.length_cons, Nat.add_right_cancel_iff]
      have e : i + 1 + ks.idxOf z = i + (ks.idxOf z + 1) := by omega
      rw [e]
theorem findKey_none {ks : List Int} {z : Int} (h : ks.idxOf z = ks.length) : findKey (.int .i64 z) (mE ks) 0 = some none := by
  rw [mE, findKey_go, if_pos h]
theorem findKey_some {ks : List Int} {z : Int} (h : ¬ ks.idxOf z = ks.length) : findKey (.int .i64 z) (mE ks) 0 = some (some (ks.idxOf z, .int .i64 ((ks.idxOf z : Nat) : Int))) := by
  rw [mE, findKey_go, if_neg h]; simp

/-- A rectangle of a grid. -/
def Rect.Fit (b : Rect) : Prop := 0 ≤ b.row ∧ 0 ≤ b.col ∧ 1 ≤ b.high ∧ 1 ≤ b.wide ∧ b.row + b.high ≤ 6 ∧ b.col + b.wide ≤ 6
theorem Rect.Fit.in_ {b : Rect} (h : b.Fit) : b.In 1000 := by unfold Rect.Fit at h; unfold Rect.In; omega
theorem Rect.Fit.both {b o : Rect} (h : b.Fit) (k : o.Fit) : (b.both o).Fit := by
  unfold Rect.Fit at *
  simp only [Rect.both]
  omega
def oneR (r c : Nat) : Rect := ⟨r, c, 1, 1⟩
theorem oneR_fit {r c : Nat} (hr : r < 6) (hc : c < 6) : (oneR r c).Fit := by unfold Rect.Fit oneR; simp only; omega
theorem oneR_cells {r c : Nat} : (oneR r c).cells = [.int .i64 r, .int .i64 c, .int .i64 1, .int .i64 1] := rfl

def seKs (ks : List Int) (z : Int) : List Int := if ks.idxOf z = ks.length then ks ++ [z] else ks
def seIn (ks : List Int) (rs : List Rect) (z : Int) (q : Rect) : List Rect := if ks.idxOf z = ks.length then rs ++ [q] else rs
def seRs (ks : List Int) (rs : List Rect) (z : Int) (q : Rect) : List Rect := (seIn ks rs z q).set (ks.idxOf z) (((seIn ks rs z q).getD (ks.idxOf z) q).both q)
def SeOk (ks : List Int) (rs : List Rect) : Prop := rs.length = ks.length ∧ ∀ b ∈ rs, b.Fit
theorem SeOk.nil : SeOk [] [] := ⟨rfl, by simp⟩
theorem idxOf_le {ks : List Int} {z : Int} : ks.idxOf z ≤ ks.length := List.idxOf_le_length
theorem SeOk.in_ {ks : List Int} {rs : List Rect} (h : SeOk ks rs) {z : Int} {q : Rect} (hq : q.Fit) : (seIn ks rs z q).length = (seKs ks z).length ∧ (∀ b ∈ seIn ks rs z q, b.Fit) ∧ ∃ b, (seIn ks rs z q)[ks.idxOf z]? = some b ∧ b.Fit := by
  have h1 := h.1
  have h2 := idxOf_le (ks := ks) (z := z)
  have hf : ∀ b ∈ seIn ks rs z q, b.Fit := by
    unfold seIn
    split
    · intro b hb
      rcases List.mem_append.1 hb with hb | hb
      · exact h.2 b hb
      · rw [List.mem_singleton] at hb; subst hb; exact hq
    · exact h.2
  have hl : (seIn ks rs z q).length = (seKs ks z).length := by
    unfold seIn seKs; split <;> simp [h1]
  refine ⟨hl, hf, ?_⟩
  obtain ⟨b, hb, hm⟩ := get_of (show ks.idxOf z < (seIn ks rs z q).length by rw [hl]; unfold seKs; split <;> (try rw [List.length_append, List.length_singleton]) <;> omega)
  exact ⟨b, hb, hf b hm⟩
theorem SeOk.step {ks : List Int} {rs : List Rect} (h : SeOk ks rs) {z : Int} {q : Rect} (hq : q.Fit) : SeOk (seKs ks z) (seRs ks rs z q) := by
  obtain ⟨h1, h2, b, hb, hbf⟩ := h.in_ (z := z) hq
  refine ⟨by rw [seRs, List.length_set, h1], fun c hc => ?_⟩
  unfold seRs at hc
  rcases List.mem_or_eq_of_mem_set hc with hc | rfl
  · exact h2 c hc
  · rw [List.getD_eq_getElem?_getD, hb]; exact hbf.both hq
theorem seRs_is {ks : List Int} {rs : List Rect} {z : Int} {q b : Rect} (hb : (seIn ks rs z q)[ks.idxOf z]? = some b) : seRs ks rs z q = (seIn ks rs z q).set (ks.idxOf z) (b.both q) := by
  rw [seRs, List.getD_eq_getElem?_getD, hb]; rfl
theorem rcs_set4 {rs : List Rect} {n : Nat} {r : Rect} (h : n < rs.length) : (rcs rs).take (n * 4) ++ r.cells ++ (rcs rs).drop (n * 4 + 4) = rcs (rs.set n r) := rcs_set h
theorem rn_mE {S : Store} {k f : Nat} {sel : List Nat} (ks : List Int) : ((mE ks).mapM fun q => (rn S k sel (f + 1) q.1).bind fun a => (rn S k sel (f + 1) q.2).map fun b => (a, b)) = some (mE ks) := by
  have : ∀ l : List (PV × PV), (∀ q ∈ l, ∃ a b : Int, q = (.int .i64 a, .int .i64 b)) → (l.mapM fun q => (rn S k sel (f + 1) q.1).bind fun a => (rn S k sel (f + 1) q.2).map fun b => (a, b)) = some l := by
    intro l
    induction l with
    | nil => intro _; rfl
    | cons q l ih =>
      intro h
      obtain ⟨a, b, rfl⟩ := h q (by simp)
      rw [List.mapM_cons, ih fun x hx => h x (by simp [hx])]
      rfl
  refine this _ fun q hq => ?_
  obtain ⟨a, _, rfl⟩ := List.mem_map.1 hq
  exact ⟨_, _, rfl⟩
theorem rn_rcs {S : Store} {k f : Nat} {sel : List Nat} (rs : List Rect) : (rcs rs).mapM (rn S k sel (f + 1)) = some (rcs rs) := rn_scal (scal_rcs rs)
theorem pp_load {T : Tab} {S : Store} {e : Env} {t : TypeId} {x : Operand} : pPure T S e (.load t x) = pLoad (T t) S (e.ev x) := rfl
theorem pp_nil {T : Tab} {S : Store} {e : Env} {x : Operand} : pPure T S e (.nilCheck x) = pNilCheck S (e.ev x) := rfl
theorem pp_fa {T : Tab} {S : Store} {e : Env} {t : TypeId} {x : Operand} {f : Nat} : pPure T S e (.fieldAddr t x f) = pFieldAddr T S t (e.ev x) f := rfl
theorem pp_ia {T : Tab} {S : Store} {e : Env} {t : TypeId} {x i : Operand} : pPure T S e (.indexAddr t x i) = pIndexAddr T S t (e.ev x) (e.ev i) := rfl
theorem rcs_one {r : Rect} : rcs [r] = r.cells := by simp [rcs]
theorem rcs_tk {rs : List Rect} : (rcs rs).take (rs.length * 4) = rcs rs := by rw [← rcs_len, List.take_length]
theorem rcell_len {r : Rect} : r.cells.length = 4 := rfl
theorem rcell_all {r : Rect} : allCells r.cells = True := eq_true (by intro p hp; simp [Rect.cells] at hp; rcases hp with rfl | rfl | rfl | rfl <;> rfl)
/-- The cells of a grid that is being made. -/
def gcs (d : List (List Int)) (cur : PV) (m : Nat) : List PV := d.map eInts ++ cur :: List.replicate m .nils
theorem rn_gcs {S : Store} {k f : Nat} {sel : List Nat} {d : List (List Int)} {cur cur2 : PV} {m : Nat} (h : rn S k sel (f + 1) cur = some cur2) : (gcs d cur m).mapM (rn S k sel (f + 1)) = some (gcs d cur2 m) := by
  unfold gcs
  rw [List.mapM_append, mapM_same (l := d.map eInts) (fun x hx => by obtain ⟨a, _, rfl⟩ := List.mem_map.1 hx; rfl), List.mapM_cons, h, mapM_same (l := List.replicate m PV.nils) (fun x hx => by obtain rfl := List.eq_of_mem_replicate hx; rfl)]
  rfl
end Fw
end Go.Proofs.Ytmhcknpjgikgmaa

/-! The numbering of all rooms of a grid. -/
namespace Go.Proofs.Ytmhcknpjgikgmaa
namespace Fw
open Go

def prS (g : List (List Int)) (w : Nat) (rv : PV) (ks : List Int) : List Ob := [.arr 0 55 1 [eGrid g], .arr 1 3 1 [.int .i64 w], .arr 2 58 2 [.nils, rv], .arr 3 51 1 [.ref 2 2 0], .map 4 (mE ks), .arr 5 136 1 [.mp 4 4]]
/-- The store while a row is being filled. -/
def seS (g : List (List Int)) (w : Nat) (xv yv : Nat) (x y : List PV) (ks : List Int) (rs : List Rect) (vq t : Nat) : Store :=
  match rs with
  | [] => ⟨prS g w .nils ks ++ [.arr xv 30 1 x, .arr yv 3 1 y], t⟩
  | rs => ⟨prS g w (.loc 8 vq 0 rs.length) ks ++ [.arr xv 30 1 x, .arr yv 3 1 y, .arr vq 69 4 (rcs rs)], t⟩
theorem seS_nil {g : List (List Int)} {w xv yv : Nat} {x y : List PV} {ks : List Int} {vq t : Nat} : seS g w xv yv x y ks [] vq t = ⟨prS g w .nils ks ++ [.arr xv 30 1 x, .arr yv 3 1 y], t⟩ := rfl
theorem seS_ne {g : List (List Int)} {w xv yv : Nat} {x y : List PV} {ks : List Int} {rs : List Rect} {vq t : Nat} (h : rs ≠ []) : seS g w xv yv x y ks rs vq t = ⟨prS g w (.loc 8 vq 0 rs.length) ks ++ [.arr xv 30 1 x, .arr yv 3 1 y, .arr vq 69 4 (rcs rs)], t⟩ := by
  cases rs with
  | nil => exact absurd rfl h
  | cons a l => rfl
section
variable {g : List (List Int)} {w xv yv : Nat} {x y y2 : List PV} {ks : List Int} {rs : List Rect} {vq t : Nat}
theorem seS_get6 : (seS g w xv yv x y ks rs vq t).obs[6]? = some (.arr xv 30 1 x) := by cases rs <;> rfl
theorem seS_get7 : (seS g w xv yv x y ks rs vq t).obs[7]? = some (.arr yv 3 1 y) := by cases rs <;> rfl
theorem seS_upd : (seS g w xv yv x y ks rs vq t).set 7 (.arr yv 3 1 y2) = seS g w xv yv x y2 ks rs vq t := by cases rs <;> rfl
end
theorem rn_rep {S : Store} {k f : Nat} {sel : List Nat} {n : Nat} {q : IntKind} {z : Int} : (List.replicate n (PV.int q z)).mapM (rn S k sel (f + 1)) = some (List.replicate n (PV.int q z)) :=
  mapM_same fun x hx => by obtain rfl := List.eq_of_mem_replicate hx; rfl
theorem rn_nilsr {S : Store} {k f : Nat} {sel : List Nat} {n : Nat} : (List.replicate n PV.nils).mapM (rn S k sel (f + 1)) = some (List.replicate n PV.nils) :=
  mapM_same fun x hx => by obtain rfl := List.eq_of_mem_replicate hx; rfl
theorem rn_gcs2 {S : Store} {k f : Nat} {sel : List Nat} {d : List (List Int)} {cur : PV} {m : Nat} : (gcs d cur m).mapM (rn S k sel (f + 1)) = (rn S k sel (f + 1) cur).map fun c => gcs d c m := by
  unfold gcs
  rw [List.mapM_append, mapM_same (l := d.map eInts) (fun x hx => by obtain ⟨a, _, rfl⟩ := List.mem_map.1 hx; rfl), List.mapM_cons, mapM_same (l := List.replicate m PV.nils) (fun x hx => by obtain rfl := List.eq_of_mem_replicate hx; rfl)]
  cases rn S k sel (f + 1) cur <;> rfl
theorem rfq_ints {S : Store} {fr : Nat → Bool} {f : Nat} {q : IntKind} (l : List Int) : (l.map (PV.int q)).mapM (rfq S fr (f + 1)) = some (l.map (PV.int q)) :=
  mapM_same fun x hx => by obtain ⟨a, _, rfl⟩ := List.mem_map.1 hx; rfl
/-- The store between rows. -/
def seO (g : List (List Int)) (w : Nat) (xv : Nat) (x : List PV) (ks : List Int) (rs : List Rect) (vq t : Nat) : Store :=
  match rs with
  | [] => ⟨prS g w .nils ks ++ [.arr xv 30 1 x], t⟩
  | rs => ⟨prS g w (.loc 7 vq 0 rs.length) ks ++ [.arr xv 30 1 x, .arr vq 69 4 (rcs rs)], t⟩
theorem seO_nil {g : List (List Int)} {w xv : Nat} {x : List PV} {ks : List Int} {vq t : Nat} : seO g w xv x ks [] vq t = ⟨prS g w .nils ks ++ [.arr xv 30 1 x], t⟩ := rfl
theorem seO_ne {g : List (List Int)} {w xv : Nat} {x : List PV} {ks : List Int} {rs : List Rect} {vq t : Nat} (h : rs ≠ []) : seO g w xv x ks rs vq t = ⟨prS g w (.loc 7 vq 0 rs.length) ks ++ [.arr xv 30 1 x, .arr vq 69 4 (rcs rs)], t⟩ := by
  cases rs with
  | nil => exact absurd rfl h
  | cons a l => rfl

def seRow (g : List (List Int)) (i : Nat) (s : List Int × List Rect) : Nat → List Int × List Rect
  | 0 => s
  | j + 1 => (seKs (seRow g i s j).1 (gz g i j), seRs (seRow g i s j).1 (seRow g i s j).2 (gz g i j) (oneR i j))
def seRows (g : List (List Int)) (nw : Nat) : Nat → List Int × List Rect
  | 0 => ([], [])
  | i + 1 => seRow g i (seRows g nw i) nw
/-- The numbers of a row. -/
def zRow (g : List (List Int)) (i : Nat) (s : List Int × List Rect) : Nat → List Int
  | 0 => []
  | j + 1 => zRow g i s j ++ [(((seRow g i s j).1.idxOf (gz g i j) : Nat) : Int)]
def zRows (g : List (List Int)) (nw : Nat) : Nat → List (List Int)
  | 0 => []
  | i + 1 => zRows g nw i ++ [zRow g i (seRows g nw i) nw]
theorem zRow_len {g : List (List Int)} {i : Nat} {s : List Int × List Rect} : ∀ j, (zRow g i s j).length = j
  | 0 => rfl
  | j + 1 => by simp [zRow, zRow_len j]
theorem zRow_set {g : List (List Int)} {i nw j : Nat} {s : List Int × List Rect} (h : j < nw) : zRow g i s (j + 1) ++ List.replicate (nw - (j + 1)) 0 = (zRow g i s j ++ List.replicate (nw - j) 0).set j (((seRow g i s j).1.idxOf (gz g i j) : Nat) : Int) := by
  obtain ⟨m, hm⟩ : ∃ m, nw - j = m + 1 := ⟨nw - j - 1, by omega⟩
  rw [hm, show nw - (j + 1) = m by omega, List.set_append_right _ _ (by rw [zRow_len]; exact Nat.le_refl _), zRow_len, Nat.sub_self]
  simp [zRow, List.replicate_succ]
theorem zRows_len {g : List (List Int)} {nw : Nat} : ∀ i, (zRows g nw i).length = i
  | 0 => rfl
  | i + 1 => by simp [zRows, zRows_len i]
theorem seKs_len {ks : List Int} {z : Int} : (seKs ks z).length ≤ ks.length + 1 ∧ ks.length ≤ (seKs ks z).length ∧ 1 ≤ (seKs ks z).length := by
  have h := idxOf_le (ks := ks) (z := z)
  unfold seKs
  split
  · simp
  · refine ⟨by omega, by omega, ?_⟩
    have : ks.idxOf z ≠ ks.length := by assumption
    omega
theorem seRow_ok {g : List (List Int)} {i : Nat} (hi : i < 6) {s : List Int × List Rect} (h : SeOk s.1 s.2) : ∀ j, j ≤ 6 → SeOk (seRow g i s j).1 (seRow g i s j).2 ∧ (seRow g i s j).1.length ≤ s.1.length + j ∧ s.1.length ≤ (seRow g i s j).1.length ∧ (1 ≤ j → 1 ≤ (seRow g i s j).1.length)
  | 0, _ => ⟨h, by simp [seRow], by simp [seRow], by omega⟩
  | j + 1, hj => by
    obtain ⟨h1, h2, h3, h4⟩ := seRow_ok hi h j (by omega)
    have := seKs_len (ks := (seRow g i s j).1) (z := gz g i j)
    exact ⟨h1.step (oneR_fit hi (by omega)), by simp only [seRow]; omega, by simp only [seRow]; omega, fun _ => by simp only [seRow]; omega⟩
theorem seRows_ok {g : List (List Int)} {nw : Nat} (hw : nw ≤ 6) (hw1 : 1 ≤ nw) : ∀ i, i ≤ 6 → SeOk (seRows g nw i).1 (seRows g nw i).2 ∧ (seRows g nw i).1.length ≤ 6 * i ∧ (1 ≤ i → 1 ≤ (seRows g nw i).1.length)
  | 0, _ => ⟨SeOk.nil, by simp [seRows], by omega⟩
  | i + 1, hi => by
    obtain ⟨h1, h2, h3⟩ := seRows_ok hw hw1 i (by omega)
    obtain ⟨k1, k2, k3, k4⟩ := seRow_ok (g := g) (i := i) (by omega) h1 nw hw
    exact ⟨k1, by simp only [seRows]; omega, fun _ => by simp only [seRows]; exact k4 hw1⟩
theorem SeOk.ne {ks : List Int} {rs : List Rect} (h : SeOk ks rs) (h1 : 1 ≤ ks.length) : rs ≠ [] := by
  rintro rfl
  have := h.1
  simp at this; omega
theorem SeOk.nl {ks : List Int} (h : SeOk ks []) : ks = [] := List.eq_nil_of_length_eq_zero h.1.symm
theorem gcs_get {d : List (List Int)} {cur : PV} {m i : Nat} (h : d.length = i) : (gcs d cur m)[i]? = some cur := by subst h; simp [gcs]
theorem gcs_len {d : List (List Int)} {cur : PV} {m : Nat} : (gcs d cur m).length = d.length + 1 + m := by simp [gcs]; omega
/-- A grid whose last rows aren't made yet. -/
def gc0 (d : List (List Int)) (m : Nat) : List PV := d.map eInts ++ List.replicate m .nils
theorem gc0_len {d : List (List Int)} {m : Nat} : (gc0 d m).length = d.length + m := by simp [gc0]
theorem gc0_set {d : List (List Int)} {m i : Nat} {c : PV} (h : d.length = i) (hm : 1 ≤ m) : (gc0 d m).take i ++ [c] ++ (gc0 d m).drop (i + 1) = gcs d c (m - 1) := by
  subst h
  obtain ⟨m, rfl⟩ : ∃ n, m = n + 1 := ⟨m - 1, by omega⟩
  simp only [gc0, gcs, Nat.add_sub_cancel]
  rw [show d.length = (d.map eInts).length by simp, List.take_left, List.drop_length_add_append]
  simp [List.replicate_succ]
theorem gcs_gc0 {d : List (List Int)} {r : List Int} {m : Nat} : gcs d (eInts r) m = gc0 (d ++ [r]) m := by simp [gcs, gc0]
theorem gc0_all {d : List (List Int)} : gc0 d 0 = d.map eInts := by simp [gc0]
theorem gc0_nil {m : Nat} : gc0 [] m = List.replicate m .nils := rfl
theorem rn_gc0 {S : Store} {k f : Nat} {sel : List Nat} {d : List (List Int)} {m : Nat} : (gc0 d m).mapM (rn S k sel (f + 1)) = some (gc0 d m) := by
  unfold gc0
  rw [List.mapM_append, mapM_same (l := d.map eInts) (fun x hx => by obtain ⟨a, _, rfl⟩ := List.mem_map.1 hx; rfl), mapM_same (l := List.replicate m PV.nils) (fun x hx => by obtain rfl := List.eq_of_mem_replicate hx; rfl)]
  rfl
end Fw
end Go.Proofs.Ytmhcknpjgikgmaa

/-! A plan of a grid, as the program finds it. -/
namespace Go.Proofs.Ytmhcknpjgikgmaa
namespace Fw
open Go

def w0 (g : List (List Int)) : Nat := (g[0]?.getD []).length
def okG (g : List (List Int)) : Bool := decide (1 ≤ g.length) && decide (g.length ≤ 6) && decide (1 ≤ w0 g) && decide (w0 g ≤ 6) && !(g.any fun r => decide ((r.length : Int) ≠ (w0 g : Nat)))
def stG (g : List (List Int)) : List Int × List Rect := seRows g (w0 g) g.length
def zG (g : List (List Int)) : List (List Int) := zRows g (w0 g) g.length
def sumA (rs : List Rect) : Int := rs.foldl (fun s b => s + b.high * b.wide) 0
def okS (g : List (List Int)) : Bool := okG g && decide ((stG g).2.length ≤ 9)
def fullG (g : List (List Int)) : Bool := decide (sumA (stG g).2 = ((g.length * w0 g : Nat) : Int))
def settledV (g : List (List Int)) : PV := if okS g then .tup [eFloor (zG g) (stG g).2, .bool (fullG g)] else .tup [.nilp, .bool false]

theorem w0_is {g : List (List Int)} {row : List Int} (h : g[0]? = some row) : w0 g = row.length := by simp [w0, h]
theorem okG_iff {g : List (List Int)} : okG g = true ↔ GW g g.length (w0 g) := by
  unfold okG GW
  simp only [Bool.and_eq_true, decide_eq_true_eq, Bool.not_eq_true', List.any_eq_false, decide_eq_true_eq, ne_eq, Decidable.not_not]
  constructor
  · rintro ⟨⟨⟨⟨h1, h2⟩, h3⟩, h4⟩, h5⟩
    exact ⟨trivial, fun r hr => by have := h5 r hr; omega, h1, h2, h3, h4⟩
  · rintro ⟨_, h5, h1, h2, h3, h4⟩
    exact ⟨⟨⟨⟨h1, h2⟩, h3⟩, h4⟩, fun r hr => by have := h5 r hr; omega⟩
theorem sumA_succ {rs : List Rect} {k : Nat} {b : Rect} (h : rs[k]? = some b) : sumA (rs.take (k + 1)) = sumA (rs.take k) + b.high * b.wide := by
  unfold sumA; rw [foldl_tk h]
theorem Rect.Fit.area {b : Rect} (h : b.Fit) : 1 ≤ b.high * b.wide ∧ b.high * b.wide ≤ 36 := by
  unfold Rect.Fit at h
  obtain ⟨h1, h2, h3, h4, h5, h6⟩ := h
  obtain ⟨m, hm⟩ : ∃ m : Nat, b.high = m := ⟨b.high.toNat, by omega⟩
  obtain ⟨n, hn⟩ : ∃ n : Nat, b.wide = n := ⟨b.wide.toNat, by omega⟩
  rw [hm, hn]
  have h7 := Nat.mul_le_mul (show m ≤ 6 by omega) (show n ≤ 6 by omega)
  have h8 := Nat.mul_le_mul (show 1 ≤ m by omega) (show 1 ≤ n by omega)
  have : ((m * n : Nat) : Int) = (m : Int) * n := by simp
  omega
theorem sumA_bound {rs : List Rect} (h : ∀ b ∈ rs, b.Fit) : ∀ k, 0 ≤ sumA (rs.take k) ∧ sumA (rs.take k) ≤ 36 * k
  | 0 => by simp [sumA]
  | k + 1 => by
    have ih := sumA_bound h k
    by_cases hk : k < rs.length
    · obtain ⟨b, hb, hm⟩ := get_of hk
      rw [sumA_succ hb]
      have := (h b hm).area
      omega
    · rw [List.take_of_length_le (by omega)] at ih ⊢
      omega
theorem zRows_at {g : List (List Int)} {nw : Nat} : ∀ {i k : Nat}, k < i → (zRows g nw i)[k]? = some (zRow g k (seRows g nw k) nw)
  | 0, k, h => by omega
  | i + 1, k, h => by
    unfold zRows
    by_cases e : k = i
    · subst e; rw [List.getElem?_append_right (by rw [zRows_len]; exact Nat.le_refl _), zRows_len]; simp
    · rw [List.getElem?_append_left (by rw [zRows_len]; omega)]; exact zRows_at (by omega)
theorem zG_ok {g : List (List Int)} {nh nw : Nat} (hg : GW g nh nw) : GW (zRows g nw nh) nh nw := by
  refine ⟨zRows_len _, fun r hr => ?_, hg.2.2⟩
  obtain ⟨k, hk⟩ := List.getElem?_of_mem hr
  have hkl := len_of hk
  rw [zRows_len] at hkl
  rw [zRows_at hkl] at hk
  cases hk
  exact zRow_len _
theorem reify_floor {S : Store} {xv vq nh f : Nat} {Z : List (List Int)} {rs : List Rect} (h2 : S.obs[2]? = some (.arr 2 58 2 [.loc 6 xv 0 nh, .loc 7 vq 0 rs.length])) (h6 : S.obs[6]? = some (.arr xv 30 1 (Z.map eInts))) (hZ : Z.length = nh)
    (h7 : S.obs[7]? = some (.arr vq 69 4 (rcs rs))) : reify S true (f + 4) (.ref 2 2 0) = some (eFloor Z rs) := by
  have e1 : reify S true (f + 3) (.loc 6 xv 0 nh) = some (eGrid Z) := by
    rw [← hZ]
    exact reify_loc (k := f + 2) h6 (by simp) (mapM_ints2 _)
  have e2 : reify S true (f + 3) (.loc 7 vq 0 rs.length) = some (eRects rs) := reify_loc (k := f + 2) h7 (rcs_len _) (reify_scal (scal_rcs _))
  have hc : S.cellsOf 2 2 = some [.loc 6 xv 0 nh, .loc 7 vq 0 rs.length] := by simp [Store.cellsOf, h2]
  have e0 : reify S true (f + 4) (.ref 2 2 0) = (S.cellsOf 2 2).bind fun cells => (cells.mapM (reify S true (f + 3))).map (.ip · 0) := rfl
  rw [e0, hc, Option.bind_some, List.mapM_cons, e1, List.mapM_cons, e2]
  rfl
end Fw
end Go.Proofs.Ytmhcknpjgikgmaa

/-! Plans that are read, in plain words. -/
namespace Go.Proofs.Ytmhcknpjgikgmaa
namespace Fw
open Go

def rowZ (t : Txt) : List Int := t.map fun c => (c.toNat : Int)
def readG (p : List Txt) : List (List Int) := p.map rowZ
def lettersB (p : List Txt) : Bool := p.all fun r => r.all letterB
def readV (p : List Txt) : PV := if lettersB p then settledV (readG p) else .tup [.nilp, .bool false]
def okB (p : List Txt) : Bool := lettersB p && okS (readG p)
def gP (p : List Txt) : List (List Int) := zG (readG p)
def rP (p : List Txt) : List Rect := (stG (readG p)).2
theorem rowZ_len (t : Txt) : (rowZ t).length = t.length := by simp [rowZ]
theorem rowZ_succ {t : Txt} {k : Nat} {c : UInt8} (h : t[k]? = some c) : rowZ (t.take (k + 1)) = rowZ (t.take k) ++ [(c.toNat : Int)] := by simp [rowZ, tk h]
theorem readG_succ {p : List Txt} {i : Nat} {t : Txt} (h : p[i]? = some t) : readG (p.take (i + 1)) = readG (p.take i) ++ [rowZ t] := by simp [readG, tk h]
theorem readG_len (p : List Txt) : (readG p).length = p.length := by simp [readG]
theorem letters_bad {p : List Txt} {r : Txt} {c : UInt8} (hr : r ∈ p) (hc : c ∈ r) (h : letterB c = false) : lettersB p = false := by
  unfold lettersB
  rw [List.all_eq_false]
  refine ⟨r, hr, ?_⟩
  rw [Bool.not_eq_true, List.all_eq_false]
  exact ⟨c, hc, by rw [h]; exact Bool.false_ne_true⟩
theorem zRow_bound {g : List (List Int)} {i : Nat} (hi : i < 6) {s : List Int × List Rect} (hs : SeOk s.1 s.2) {n : Nat} (hn : n ≤ 6) : ∀ j, j ≤ n → ∀ z ∈ zRow g i s j, 0 ≤ z ∧ z ≤ s.1.length + n
  | 0, _, z, h => by simp [zRow] at h
  | j + 1, hj, z, h => by
    simp only [zRow, List.mem_append, List.mem_singleton] at h
    rcases h with h | rfl
    · exact zRow_bound hi hs hn j (by omega) z h
    · have h1 := idxOf_le (ks := (seRow g i s j).1) (z := gz g i j)
      obtain ⟨-, h2, -, -⟩ := seRow_ok (g := g) hi hs j (by omega)
      omega
theorem zRows_bound {g : List (List Int)} {nw : Nat} (hw : nw ≤ 6) (hw1 : 1 ≤ nw) : ∀ i, i ≤ 6 → ∀ r ∈ zRows g nw i, ∀ z ∈ r, 0 ≤ z ∧ z ≤ 100
  | 0, _, r, h => by simp [zRows] at h
  | i + 1, hi, r, h => by
    simp only [zRows, List.mem_append, List.mem_singleton] at h
    rcases h with h | rfl
    · exact zRows_bound hw hw1 i (by omega) r h
    · intro z hz
      obtain ⟨h1, h2, -⟩ := seRows_ok (g := g) hw hw1 i (by omega)
      have := zRow_bound (g := g) (i := i) (by omega) h1 hw nw (Nat.le_refl _) z hz
      omega
theorem okS_gw {g : List (List Int)} (h : okS g = true) : GW g g.length (w0 g) := by
  unfold okS at h
  rw [Bool.and_eq_true] at h
  exact okG_iff.1 h.1
theorem zG_gw {g : List (List Int)} (h : okS g = true) : GW (zG g) g.length (w0 g) := zG_ok (okS_gw h)
theorem zG_bound {g : List (List Int)} (h : okS g = true) : ∀ r ∈ zG g, ∀ z ∈ r, 0 ≤ z ∧ z ≤ 100 := by
  obtain ⟨-, -, h1, h2, h3, h4⟩ := okS_gw h
  exact zRows_bound h4 h3 _ h2
theorem settledV_no {g : List (List Int)} (h : okS g = false) : settledV g = .tup [.nilp, .bool false] := by rw [settledV, h]; rfl
theorem settledV_yes {g : List (List Int)} (h : okS g = true) : settledV g = .tup [eFloor (zG g) (stG g).2, .bool (fullG g)] := by rw [settledV, h]; rfl
theorem rfz_eIntss {S : Store} {lo k : Nat} (l : List (List Int)) : (l.map eInts).mapM (rfz S lo (k + 1)) = some (l.map eInts) := rfz_map (fun _ => rfl) l
theorem readV_no {p : List Txt} (h : okB p = false) : readV p = .tup [.nilp, .bool false] := by
  unfold okB at h
  unfold readV
  cases hl : lettersB p with
  | false => rfl
  | true => rw [hl, Bool.true_and] at h; rw [if_pos rfl, settledV_no h]
theorem readV_yes {p : List Txt} (h : okB p = true) : readV p = .tup [eFloor (gP p) (rP p), .bool (fullG (readG p))] := by
  unfold okB at h
  rw [Bool.and_eq_true] at h
  rw [readV, if_pos h.1, settledV_yes h.2]
  rfl
theorem okB_gw {p : List Txt} (h : okB p = true) : GW (gP p) p.length (w0 (readG p)) := by
  unfold okB at h
  rw [Bool.and_eq_true] at h
  have := zG_gw h.2
  rwa [readG_len] at this
theorem okB_bound {p : List Txt} (h : okB p = true) : ∀ r ∈ gP p, ∀ z ∈ r, 0 ≤ z ∧ z ≤ 100 := by
  unfold okB at h
  rw [Bool.and_eq_true] at h
  exact zG_bound h.2
theorem textG_len (g : List (List Int)) : (textG g).length = g.length := by simp [textG]
def floorV (p : List Txt) : Bool := fullG (readG p) && decide (textG (gP p) = p)
def floorI (p : List Txt) : Bool := okB p && floorV p
def plainI (p : List Txt) : Bool := floorI p && decide (ptsG (gP p) 4 (w0 (readG p)) p.length = 0)
def needW (p : List Txt) (ws : List Int) : Bool := decide (ws.length = (rP p).length) && ws.all needB
def needV (p : List Txt) (wss : List (List Int)) : Bool := plainI p && wss.all (needW p)
theorem needV_no {p : List Txt} {wss : List (List Int)} {ws : List Int} (hm : ws ∈ wss) (h : needW p ws = false) : needV p wss = false := by
  unfold needV
  rw [Bool.and_eq_false_iff]
  right
  rw [List.all_eq_false]
  exact ⟨ws, hm, by rw [h]; exact Bool.false_ne_true⟩
theorem okB_rooms {p : List Txt} (h : okB p = true) : (rP p).length ≤ 9 := by
  unfold okB okS at h
  simp only [Bool.and_eq_true, decide_eq_true_eq] at h
  exact h.2.2
theorem okB_rooms1 {p : List Txt} (h : okB p = true) : 1 ≤ (rP p).length := by
  unfold okB at h
  rw [Bool.and_eq_true] at h
  obtain ⟨-, -, h1, h2, h3, h4⟩ := okS_gw h.2
  obtain ⟨k1, -, k3⟩ := seRows_ok (g := readG p) h4 h3 _ h2
  have := k1.1
  have := k3 h1
  unfold rP stG
  omega
theorem needV_one {p : List Txt} {ws : List Int} (h : needV p [ws] = true) : plainI p = true ∧ ws.length = (rP p).length ∧ NeedOk ws := by
  unfold needV needW at h
  simp only [List.all_cons, List.all_nil, Bool.and_true, Bool.and_eq_true, decide_eq_true_eq, List.all_eq_true, needB] at h
  exact ⟨h.1, h.2.1, fun x hx => h.2.2 x hx⟩
def sizeV (b : Bool) (M : List (List Bool)) (ws : List Int) (n : Nat) : PV := if b then .tup [.int .i64 (maxL (heaviest M ws n)), .bool true] else .tup [.int .i64 0, .bool false]
theorem heaviest_len {M : List (List Bool)} {ws : List Int} {n : Nat} : (heaviest M ws n).length = n := by simp [heaviest]
theorem reify_hv {S : Store} {o v et k : Nat} {M : List (List Bool)} {ws : List Int} {n : Nat} (h : S.obs[o]? = some (.arr v et 1 ((heaviest M ws n).map (.int .i64)))) : reify S true (k + 2) (.loc o v 0 n) = some (eInts (heaviest M ws n)) := by
  have := reify_loc (S := S) (im := true) (k := k + 1) (n := n) h (by rw [List.length_map, heaviest_len, Nat.mul_one]) (mapM_int _)
  rw [this]
  show some (PV.sl _ n) = some (PV.sl _ (heaviest M ws n).length)
  rw [heaviest_len]
theorem sizeV_t {M : List (List Bool)} {ws : List Int} {n : Nat} : sizeV true M ws n = .tup [.int .i64 (maxL (heaviest M ws n)), .bool true] := rfl
theorem sizeV_f {M : List (List Bool)} {ws : List Int} {n : Nat} : sizeV false M ws n = .tup [.int .i64 0, .bool false] := rfl
theorem foldl_max_bound {B : Int} : ∀ (l : List Int) (a : Int), 0 ≤ a → a ≤ B → (∀ x ∈ l, 0 ≤ x ∧ x ≤ B) → 0 ≤ l.foldl max a ∧ l.foldl max a ≤ B
  | [], a, h1, h2, _ => ⟨h1, h2⟩
  | x :: l, a, h1, h2, h => by
    have hx := h x (by simp)
    exact foldl_max_bound l (max a x) (by omega) (by omega) fun y hy => h y (by simp [hy])
theorem maxH_bound {M : List (List Bool)} {ws : List Int} {n : Nat} (hw : NeedOk ws) : 0 ≤ maxL (heaviest M ws n) ∧ maxL (heaviest M ws n) ≤ 909 := by
  have hb : ∀ x ∈ heaviest M ws n, 0 ≤ x ∧ x ≤ 909 := by
    intro x hx
    unfold heaviest at hx
    obtain ⟨b, _, rfl⟩ := List.mem_map.1 hx
    exact HB_bound hw b
  generalize heaviest M ws n = l at hb
  cases l with
  | nil => simp [maxL]
  | cons a l =>
    have ha := hb a (by simp)
    exact foldl_max_bound l a ha.1 ha.2 fun y hy => hb y (by simp [hy])
def areaI (p : List Txt) (ws ht : List Int) : Int :=
  if needV p [ws] && needV p [ht] then maxL (heaviest (leftG (gP p) p.length (w0 (readG p)) (rP p).length) ws (rP p).length) * maxL (heaviest (aboveG (gP p) p.length (w0 (readG p)) (rP p).length) ht (rP p).length) else 0
end Fw
end Go.Proofs.Ytmhcknpjgikgmaa

/-! The table of the types of this translation, written by a program (tabgen.py), and that it is right. -/
namespace Go.Proofs.Ytmhcknpjgikgmaa
namespace Fw
open Go

def tabList : List (Nat × TI) := [
  (1, ⟨.func, 1, 8, [.nilf]⟩),
  (2, ⟨.int .i64, 1, 8, [.int .i64 0]⟩),
  (3, ⟨.int .i64, 1, 8, [.int .i64 0]⟩),
  (4, ⟨.bool, 1, 1, [.bool false]⟩),
  (5, ⟨.int .u8, 1, 1, [.int .u8 0]⟩),
  (6, ⟨.int .u8, 1, 1, [.int .u8 0]⟩),
  (7, ⟨.struct [(0, 2), (1, 3), (2, 4), (3, 6)], 4, 24, [.int .i64 0, .int .i64 0, .bool false, .int .u8 0]⟩),
  (8, ⟨.struct [(0, 2), (1, 3), (2, 4), (3, 6)], 4, 24, [.int .i64 0, .int .i64 0, .bool false, .int .u8 0]⟩),
  (9, ⟨.str, 1, 16, [.str []]⟩),
  (10, ⟨.str, 1, 16, [.str []]⟩),
  (11, ⟨.str, 1, 16, [.str []]⟩),
  (12, ⟨.int .u64, 1, 8, [.int .u64 0]⟩),
  (13, ⟨.struct [(0, 9), (1, 12)], 2, 24, [.str [], .int .u64 0]⟩),
  (14, ⟨.struct [(0, 9), (1, 12)], 2, 24, [.str [], .int .u64 0]⟩),
  (15, ⟨.ptr 182, 1, 8, [.nilp]⟩),
  (16, ⟨.ptr 185, 1, 8, [.nilp]⟩),
  (17, ⟨.ptr 192, 1, 8, [.nilp]⟩),
  (18, ⟨.struct [(0, 17)], 1, 8, [.nilp]⟩),
  (19, ⟨.struct [(0, 17)], 1, 8, [.nilp]⟩),
  (21, ⟨.int .i32, 1, 4, [.int .i32 0]⟩),
  (22, ⟨.slice 5, 1, 24, [.nils]⟩),
  (23, ⟨.slice 9, 1, 24, [.nils]⟩),
  (25, ⟨.func, 1, 8, [.nilf]⟩),
  (26, ⟨.func, 1, 8, [.nilf]⟩),
  (28, ⟨.func, 1, 8, [.nilf]⟩),
  (29, ⟨.func, 1, 8, [.nilf]⟩),
  (30, ⟨.slice 3, 1, 24, [.nils]⟩),
  (31, ⟨.func, 1, 8, [.nilf]⟩),
  (33, ⟨.func, 1, 8, [.nilf]⟩),
  (34, ⟨.func, 1, 8, [.nilf]⟩),
  (35, ⟨.func, 1, 8, [.nilf]⟩),
  (36, ⟨.func, 1, 8, [.nilf]⟩),
  (37, ⟨.func, 1, 8, [.nilf]⟩),
  (38, ⟨.func, 1, 8, [.nilf]⟩),
  (39, ⟨.func, 1, 8, [.nilf]⟩),
  (41, ⟨.func, 1, 8, [.nilf]⟩),
  (43, ⟨.func, 1, 8, [.nilf]⟩),
  (44, ⟨.func, 1, 8, [.nilf]⟩),
  (45, ⟨.func, 1, 8, [.nilf]⟩),
  (46, ⟨.func, 1, 8, [.nilf]⟩),
  (47, ⟨.func, 1, 8, [.nilf]⟩),
  (48, ⟨.func, 1, 8, [.nilf]⟩),
  (49, ⟨.func, 1, 8, [.nilf]⟩),
  (50, ⟨.func, 1, 8, [.nilf]⟩),
  (51, ⟨.ptr 58, 1, 8, [.nilp]⟩),
  (53, ⟨.func, 1, 8, [.nilf]⟩),
  (54, ⟨.slice 30, 1, 24, [.nils]⟩),
  (55, ⟨.slice 30, 1, 24, [.nils]⟩),
  (56, ⟨.slice 69, 1, 24, [.nils]⟩),
  (57, ⟨.struct [(0, 55), (1, 56)], 2, 48, [.nils, .nils]⟩),
  (58, ⟨.struct [(0, 55), (1, 56)], 2, 48, [.nils, .nils]⟩),
  (59, ⟨.func, 1, 8, [.nilf]⟩),
  (60, ⟨.func, 1, 8, [.nilf]⟩),
  (61, ⟨.slice 89, 1, 24, [.nils]⟩),
  (62, ⟨.slice 89, 1, 24, [.nils]⟩),
  (63, ⟨.struct [(0, 62), (1, 62)], 2, 48, [.nils, .nils]⟩),
  (64, ⟨.struct [(0, 62), (1, 62)], 2, 48, [.nils, .nils]⟩),
  (65, ⟨.func, 1, 8, [.nilf]⟩),
  (66, ⟨.func, 1, 8, [.nilf]⟩),
  (67, ⟨.func, 1, 8, [.nilf]⟩),
  (68, ⟨.struct [(0, 3), (1, 3), (2, 3), (3, 3)], 4, 32, [.int .i64 0, .int .i64 0, .int .i64 0, .int .i64 0]⟩),
  (69, ⟨.struct [(0, 3), (1, 3), (2, 3), (3, 3)], 4, 32, [.int .i64 0, .int .i64 0, .int .i64 0, .int .i64 0]⟩),
  (70, ⟨.func, 1, 8, [.nilf]⟩),
  (71, ⟨.func, 1, 8, [.nilf]⟩),
  (72, ⟨.func, 1, 8, [.nilf]⟩),
  (74, ⟨.func, 1, 8, [.nilf]⟩),
  (76, ⟨.func, 1, 8, [.nilf]⟩),
  (77, ⟨.func, 1, 8, [.nilf]⟩),
  (78, ⟨.func, 1, 8, [.nilf]⟩),
  (79, ⟨.func, 1, 8, [.nilf]⟩),
  (81, ⟨.func, 1, 8, [.nilf]⟩),
  (82, ⟨.func, 1, 8, [.nilf]⟩),
  (83, ⟨.func, 1, 8, [.nilf]⟩),
  (84, ⟨.ptr 111, 1, 8, [.nilp]⟩),
  (85, ⟨.func, 1, 8, [.nilf]⟩),
  (86, ⟨.func, 1, 8, [.nilf]⟩),
  (87, ⟨.func, 1, 8, [.nilf]⟩),
  (88, ⟨.func, 1, 8, [.nilf]⟩),
  (89, ⟨.slice 4, 1, 24, [.nils]⟩),
  (90, ⟨.func, 1, 8, [.nilf]⟩),
  (91, ⟨.func, 1, 8, [.nilf]⟩),
  (92, ⟨.func, 1, 8, [.nilf]⟩),
  (93, ⟨.func, 1, 8, [.nilf]⟩),
  (94, ⟨.func, 1, 8, [.nilf]⟩),
  (95, ⟨.slice 98, 1, 24, [.nils]⟩),
  (96, ⟨.func, 1, 8, [.nilf]⟩),
  (97, ⟨.struct [(0, 4), (1, 3), (2, 3), (3, 3)], 4, 32, [.bool false, .int .i64 0, .int .i64 0, .int .i64 0]⟩),
  (98, ⟨.struct [(0, 4), (1, 3), (2, 3), (3, 3)], 4, 32, [.bool false, .int .i64 0, .int .i64 0, .int .i64 0]⟩),
  (100, ⟨.func, 1, 8, [.nilf]⟩),
  (101, ⟨.func, 1, 8, [.nilf]⟩),
  (102, ⟨.slice 106, 1, 24, [.nils]⟩),
  (104, ⟨.func, 1, 8, [.nilf]⟩),
  (105, ⟨.struct [(0, 3), (1, 3)], 2, 16, [.int .i64 0, .int .i64 0]⟩),
  (106, ⟨.struct [(0, 3), (1, 3)], 2, 16, [.int .i64 0, .int .i64 0]⟩),
  (107, ⟨.func, 1, 8, [.nilf]⟩),
  (108, ⟨.func, 1, 8, [.nilf]⟩),
  (109, ⟨.func, 1, 8, [.nilf]⟩),
  (110, ⟨.struct [(0, 22), (1, 3)], 2, 32, [.nils, .int .i64 0]⟩),
  (111, ⟨.struct [(0, 22), (1, 3)], 2, 32, [.nils, .int .i64 0]⟩),
  (112, ⟨.func, 1, 8, [.nilf]⟩),
  (113, ⟨.func, 1, 8, [.nilf]⟩),
  (114, ⟨.func, 1, 8, [.nilf]⟩),
  (115, ⟨.func, 1, 8, [.nilf]⟩),
  (116, ⟨.ptr 118, 1, 8, [.nilp]⟩),
  (117, ⟨.struct [(0, 116), (1, 22)], 2, 32, [.nilp, .nils]⟩),
  (118, ⟨.struct [(0, 116), (1, 22)], 2, 32, [.nilp, .nils]⟩),
  (121, ⟨.func, 1, 8, [.nilf]⟩),
  (122, ⟨.func, 1, 8, [.nilf]⟩),
  (123, ⟨.func, 1, 8, [.nilf]⟩),
  (124, ⟨.func, 1, 8, [.nilf]⟩),
  (125, ⟨.func, 1, 8, [.nilf]⟩),
  (126, ⟨.func, 1, 8, [.nilf]⟩),
  (127, ⟨.func, 1, 8, [.nilf]⟩),
  (128, ⟨.func, 1, 8, [.nilf]⟩),
  (129, ⟨.func, 1, 8, [.nilf]⟩),
  (130, ⟨.int .u64, 1, 8, [.int .u64 0]⟩),
  (132, ⟨.func, 1, 8, [.nilf]⟩),
  (133, ⟨.func, 1, 8, [.nilf]⟩),
  (134, ⟨.func, 1, 8, [.nilf]⟩),
  (135, ⟨.func, 1, 8, [.nilf]⟩),
  (136, ⟨.map 3 3, 1, 8, [.nilm]⟩),
  (137, ⟨.func, 1, 8, [.nilf]⟩),
  (138, ⟨.func, 1, 8, [.nilf]⟩),
  (139, ⟨.ptr 5, 1, 8, [.nilp]⟩),
  (140, ⟨.func, 1, 8, [.nilf]⟩),
  (141, ⟨.func, 1, 8, [.nilf]⟩),
  (142, ⟨.int .i64, 1, 8, [.int .i64 0]⟩),
  (144, ⟨.func, 1, 8, [.nilf]⟩),
  (145, ⟨.func, 1, 8, [.nilf]⟩),
  (146, ⟨.func, 1, 8, [.nilf]⟩),
  (147, ⟨.func, 1, 8, [.nilf]⟩),
  (148, ⟨.func, 1, 8, [.nilf]⟩),
  (149, ⟨.int .u32, 1, 4, [.int .u32 0]⟩),
  (150, ⟨.func, 1, 8, [.nilf]⟩),
  (151, ⟨.int .u64, 1, 8, [.int .u64 0]⟩),
  (152, ⟨.func, 1, 8, [.nilf]⟩),
  (153, ⟨.func, 1, 8, [.nilf]⟩),
  (154, ⟨.func, 1, 8, [.nilf]⟩),
  (156, ⟨.func, 1, 8, [.nilf]⟩),
  (157, ⟨.func, 1, 8, [.nilf]⟩),
  (158, ⟨.int .u64, 1, 8, [.int .u64 0]⟩),
  (159, ⟨.func, 1, 8, [.nilf]⟩),
  (160, ⟨.func, 1, 8, [.nilf]⟩),
  (161, ⟨.func, 1, 8, [.nilf]⟩),
  (162, ⟨.ptr 3, 1, 8, [.nilp]⟩),
  (163, ⟨.func, 1, 8, [.nilf]⟩),
  (165, ⟨.func, 1, 8, [.nilf]⟩),
  (166, ⟨.func, 1, 8, [.nilf]⟩),
  (167, ⟨.func, 1, 8, [.nilf]⟩),
  (168, ⟨.ptr 158, 1, 8, [.nilp]⟩),
  (169, ⟨.func, 1, 8, [.nilf]⟩),
  (170, ⟨.func, 1, 8, [.nilf]⟩),
  (171, ⟨.func, 1, 8, [.nilf]⟩),
  (172, ⟨.func, 1, 8, [.nilf]⟩),
  (173, ⟨.func, 1, 8, [.nilf]⟩),
  (174, ⟨.func, 1, 8, [.nilf]⟩),
  (175, ⟨.func, 1, 8, [.nilf]⟩),
  (176, ⟨.func, 1, 8, [.nilf]⟩),
  (177, ⟨.func, 1, 8, [.nilf]⟩),
  (178, ⟨.func, 1, 8, [.nilf]⟩),
  (179, ⟨.func, 1, 8, [.nilf]⟩),
  (180, ⟨.func, 1, 8, [.nilf]⟩),
  (181, ⟨.struct [(0, 17), (1, 17), (2, 17), (3, 9)], 4, 40, [.nilp, .nilp, .nilp, .str []]⟩),
  (182, ⟨.struct [(0, 17), (1, 17), (2, 17), (3, 9)], 4, 40, [.nilp, .nilp, .nilp, .str []]⟩),
  (183, ⟨.arr 0 16, 0, 0, []⟩),
  (184, ⟨.struct [(0, 183)], 0, 0, []⟩),
  (185, ⟨.struct [(0, 183)], 0, 0, []⟩),
  (186, ⟨.int .u8, 1, 1, [.int .u8 0]⟩),
  (187, ⟨.int .u8, 1, 1, [.int .u8 0]⟩),
  (188, ⟨.func, 1, 8, [.nilf]⟩),
  (189, ⟨.int .i32, 1, 4, [.int .i32 0]⟩),
  (190, ⟨.int .i32, 1, 4, [.int .i32 0]⟩),
  (191, ⟨.struct [(0, 12), (1, 12), (2, 149), (3, 186), (4, 5), (5, 5), (6, 187), (7, 188), (8, 139), (9, 189), (10, 190)], 11, 48, [.int .u64 0, .int .u64 0, .int .u32 0, .int .u8 0, .int .u8 0, .int .u8 0, .int .u8 0, .nilf, .nilp, .int .i32 0, .int .i32 0]⟩),
  (192, ⟨.struct [(0, 12), (1, 12), (2, 149), (3, 186), (4, 5), (5, 5), (6, 187), (7, 188), (8, 139), (9, 189), (10, 190)], 11, 48, [.int .u64 0, .int .u64 0, .int .u32 0, .int .u8 0, .int .u8 0, .int .u8 0, .int .u8 0, .nilf, .nilp, .int .i32 0, .int .i32 0]⟩)]

def tab : Tab := lk tabList

theorem tabOk : TabOk Try.prog tab := tab_ok (by kernel_rfl)

theorem mixed : Try.prog.follows .mixedOrders = true := Checked.mixed Try.checked

theorem tyfunc_ : tab 1 = ⟨.func, 1, 8, [.nilf]⟩ := by kernel_rfl
theorem tyint64 : tab 2 = ⟨.int .i64, 1, 8, [.int .i64 0]⟩ := by kernel_rfl
theorem tyint : tab 3 = ⟨.int .i64, 1, 8, [.int .i64 0]⟩ := by kernel_rfl
theorem tybool : tab 4 = ⟨.bool, 1, 1, [.bool false]⟩ := by kernel_rfl
theorem tyuint8 : tab 5 = ⟨.int .u8, 1, 1, [.int .u8 0]⟩ := by kernel_rfl
theorem tyabi_BoundsErrorCode : tab 6 = ⟨.int .u8, 1, 1, [.int .u8 0]⟩ := by kernel_rfl
theorem tystruct_x_int64_y_int_signed_bool_code_abi_BoundsErrorCode_ : tab 7 = ⟨.struct [(0, 2), (1, 3), (2, 4), (3, 6)], 4, 24, [.int .i64 0, .int .i64 0, .bool false, .int .u8 0]⟩ := by kernel_rfl
theorem tyruntime_boundsError : tab 8 = ⟨.struct [(0, 2), (1, 3), (2, 4), (3, 6)], 4, 24, [.int .i64 0, .int .i64 0, .bool false, .int .u8 0]⟩ := by kernel_rfl
theorem tystring : tab 9 = ⟨.str, 1, 16, [.str []]⟩ := by kernel_rfl
theorem tyruntime_errorString : tab 10 = ⟨.str, 1, 16, [.str []]⟩ := by kernel_rfl
theorem tyruntime_plainError : tab 11 = ⟨.str, 1, 16, [.str []]⟩ := by kernel_rfl
theorem tyuintptr : tab 12 = ⟨.int .u64, 1, 8, [.int .u64 0]⟩ := by kernel_rfl
theorem tystruct_msg_string_addr_uintptr_ : tab 13 = ⟨.struct [(0, 9), (1, 12)], 2, 24, [.str [], .int .u64 0]⟩ := by kernel_rfl
theorem tyruntime_errorAddressString : tab 14 = ⟨.struct [(0, 9), (1, 12)], 2, 24, [.str [], .int .u64 0]⟩ := by kernel_rfl
theorem tyPruntime_TypeAssertionError : tab 15 = ⟨.ptr 182, 1, 8, [.nilp]⟩ := by kernel_rfl
theorem tyPruntime_PanicNilError : tab 16 = ⟨.ptr 185, 1, 8, [.nilp]⟩ := by kernel_rfl
theorem tyPabi_Type : tab 17 = ⟨.ptr 192, 1, 8, [.nilp]⟩ := by kernel_rfl
theorem tystruct_typ_Pabi_Type_ : tab 18 = ⟨.struct [(0, 17)], 1, 8, [.nilp]⟩ := by kernel_rfl
theorem tymaps_unhashableTypeError : tab 19 = ⟨.struct [(0, 17)], 1, 8, [.nilp]⟩ := by kernel_rfl
theorem tyint32 : tab 21 = ⟨.int .i32, 1, 4, [.int .i32 0]⟩ := by kernel_rfl
theorem tyLuint8 : tab 22 = ⟨.slice 5, 1, 24, [.nils]⟩ := by kernel_rfl
theorem tyLstring : tab 23 = ⟨.slice 9, 1, 24, [.nils]⟩ := by kernel_rfl
theorem tyfunc_Luint8_Lstring_int_int_ : tab 25 = ⟨.func, 1, 8, [.nilf]⟩ := by kernel_rfl
theorem tyfunc_Lstring_int_int_bool : tab 26 = ⟨.func, 1, 8, [.nilf]⟩ := by kernel_rfl
theorem tyfunc_Lstring_int_bool_ : tab 28 = ⟨.func, 1, 8, [.nilf]⟩ := by kernel_rfl
theorem tyfunc_Luint8_bool : tab 29 = ⟨.func, 1, 8, [.nilf]⟩ := by kernel_rfl
theorem tyLint : tab 30 = ⟨.slice 3, 1, 24, [.nils]⟩ := by kernel_rfl
theorem tyfunc_Lstring_int_int : tab 31 = ⟨.func, 1, 8, [.nilf]⟩ := by kernel_rfl
theorem tyfunc_Lstring_Lint_Lint_bool_ : tab 33 = ⟨.func, 1, 8, [.nilf]⟩ := by kernel_rfl
theorem tyfunc_Lstring_Lstring : tab 34 = ⟨.func, 1, 8, [.nilf]⟩ := by kernel_rfl
theorem tyfunc_Lint_Lint : tab 35 = ⟨.func, 1, 8, [.nilf]⟩ := by kernel_rfl
theorem tyfunc_Lint_Lint_bool : tab 36 = ⟨.func, 1, 8, [.nilf]⟩ := by kernel_rfl
theorem tyfunc_Lstring_Lstring_bool : tab 37 = ⟨.func, 1, 8, [.nilf]⟩ := by kernel_rfl
theorem tyfunc_Lint_int_int : tab 38 = ⟨.func, 1, 8, [.nilf]⟩ := by kernel_rfl
theorem tyfunc_Lstring_Lint_bool : tab 39 = ⟨.func, 1, 8, [.nilf]⟩ := by kernel_rfl
theorem tyfunc_Lstring_int_int_string_bool_ : tab 41 = ⟨.func, 1, 8, [.nilf]⟩ := by kernel_rfl
theorem tyfunc_Lstring_int_int_int_int_int_bool_ : tab 43 = ⟨.func, 1, 8, [.nilf]⟩ := by kernel_rfl
theorem tyfunc_Lstring_Lint_Lint_int_bool_ : tab 44 = ⟨.func, 1, 8, [.nilf]⟩ := by kernel_rfl
theorem tyfunc_Lstring_Lint_Lint_bool : tab 45 = ⟨.func, 1, 8, [.nilf]⟩ := by kernel_rfl
theorem tyfunc_Lstring_Lint_bool_ : tab 46 = ⟨.func, 1, 8, [.nilf]⟩ := by kernel_rfl
theorem tyfunc_Lstring_bool : tab 47 = ⟨.func, 1, 8, [.nilf]⟩ := by kernel_rfl
theorem tyfunc_Lstring_int_int_func_impl_orders_impl_relation_bool : tab 48 = ⟨.func, 1, 8, [.nilf]⟩ := by kernel_rfl
theorem tyfunc_impl_orders_impl_relation : tab 49 = ⟨.func, 1, 8, [.nilf]⟩ := by kernel_rfl
theorem tyfunc_Lstring_int_Lint : tab 50 = ⟨.func, 1, 8, [.nilf]⟩ := by kernel_rfl
theorem tyPimpl_floor : tab 51 = ⟨.ptr 58, 1, 8, [.nilp]⟩ := by kernel_rfl
theorem tyfunc_Lstring_Pimpl_floor_bool_ : tab 53 = ⟨.func, 1, 8, [.nilf]⟩ := by kernel_rfl
theorem tyLLint : tab 54 = ⟨.slice 30, 1, 24, [.nils]⟩ := by kernel_rfl
theorem tyimpl_grid : tab 55 = ⟨.slice 30, 1, 24, [.nils]⟩ := by kernel_rfl
theorem tyLimpl_rect : tab 56 = ⟨.slice 69, 1, 24, [.nils]⟩ := by kernel_rfl
theorem tystruct_cells_impl_grid_rooms_Limpl_rect_ : tab 57 = ⟨.struct [(0, 55), (1, 56)], 2, 48, [.nils, .nils]⟩ := by kernel_rfl
theorem tyimpl_floor : tab 58 = ⟨.struct [(0, 55), (1, 56)], 2, 48, [.nils, .nils]⟩ := by kernel_rfl
theorem tyfunc_Lstring_Lint_int_Lint : tab 59 = ⟨.func, 1, 8, [.nilf]⟩ := by kernel_rfl
theorem tyfunc_Lstring_Lint_Pimpl_floor_bool_ : tab 60 = ⟨.func, 1, 8, [.nilf]⟩ := by kernel_rfl
theorem tyLLbool : tab 61 = ⟨.slice 89, 1, 24, [.nils]⟩ := by kernel_rfl
theorem tyimpl_relation : tab 62 = ⟨.slice 89, 1, 24, [.nils]⟩ := by kernel_rfl
theorem tystruct_left_impl_relation_above_impl_relation_ : tab 63 = ⟨.struct [(0, 62), (1, 62)], 2, 48, [.nils, .nils]⟩ := by kernel_rfl
theorem tyimpl_orders : tab 64 = ⟨.struct [(0, 62), (1, 62)], 2, 48, [.nils, .nils]⟩ := by kernel_rfl
theorem tyfunc_impl_orders : tab 65 = ⟨.func, 1, 8, [.nilf]⟩ := by kernel_rfl
theorem tyfunc_int_string : tab 66 = ⟨.func, 1, 8, [.nilf]⟩ := by kernel_rfl
theorem tyfunc_int_bool : tab 67 = ⟨.func, 1, 8, [.nilf]⟩ := by kernel_rfl
theorem tystruct_row_int_col_int_high_int_wide_int_ : tab 68 = ⟨.struct [(0, 3), (1, 3), (2, 3), (3, 3)], 4, 32, [.int .i64 0, .int .i64 0, .int .i64 0, .int .i64 0]⟩ := by kernel_rfl
theorem tyimpl_rect : tab 69 = ⟨.struct [(0, 3), (1, 3), (2, 3), (3, 3)], 4, 32, [.int .i64 0, .int .i64 0, .int .i64 0, .int .i64 0]⟩ := by kernel_rfl
theorem tyfunc_Lstring_Lint_int_int : tab 70 = ⟨.func, 1, 8, [.nilf]⟩ := by kernel_rfl
theorem tyfunc_impl_relation : tab 71 = ⟨.func, 1, 8, [.nilf]⟩ := by kernel_rfl
theorem tyfunc_Lint_int : tab 72 = ⟨.func, 1, 8, [.nilf]⟩ := by kernel_rfl
theorem tyfunc_Lstring_Lint_Lint_int_int_ : tab 74 = ⟨.func, 1, 8, [.nilf]⟩ := by kernel_rfl
theorem tyfunc_Lstring_Lint_Lint_func_impl_shape_int_int_int_bool_ : tab 76 = ⟨.func, 1, 8, [.nilf]⟩ := by kernel_rfl
theorem tyfunc_impl_shape_int : tab 77 = ⟨.func, 1, 8, [.nilf]⟩ := by kernel_rfl
theorem tyfunc_Lstring_Lint_Lint_LLint : tab 78 = ⟨.func, 1, 8, [.nilf]⟩ := by kernel_rfl
theorem tyfunc_Lstring_bool_Lint : tab 79 = ⟨.func, 1, 8, [.nilf]⟩ := by kernel_rfl
theorem tyfunc_Lstring_impl_orders_bool_ : tab 81 = ⟨.func, 1, 8, [.nilf]⟩ := by kernel_rfl
theorem tyfunc_func_int_int_bool_Lint : tab 82 = ⟨.func, 1, 8, [.nilf]⟩ := by kernel_rfl
theorem tyfunc_int_int_bool : tab 83 = ⟨.func, 1, 8, [.nilf]⟩ := by kernel_rfl
theorem tyPspec_l6Rd : tab 84 = ⟨.ptr 111, 1, 8, [.nilp]⟩ := by kernel_rfl
theorem tyfunc_Luint8_Pspec_l6Rd : tab 85 = ⟨.func, 1, 8, [.nilf]⟩ := by kernel_rfl
theorem tyfunc_Pspec_l6Rd_int_int_Lstring : tab 86 = ⟨.func, 1, 8, [.nilf]⟩ := by kernel_rfl
theorem tyfunc_int_int : tab 87 = ⟨.func, 1, 8, [.nilf]⟩ := by kernel_rfl
theorem tyfunc_Lstring_int : tab 88 = ⟨.func, 1, 8, [.nilf]⟩ := by kernel_rfl
theorem tyLbool : tab 89 = ⟨.slice 4, 1, 24, [.nils]⟩ := by kernel_rfl
theorem tyfunc_Lstring_int_bool : tab 90 = ⟨.func, 1, 8, [.nilf]⟩ := by kernel_rfl
theorem tyfunc_Lstring : tab 91 = ⟨.func, 1, 8, [.nilf]⟩ := by kernel_rfl
theorem tyfunc_int_int_int_bool : tab 92 = ⟨.func, 1, 8, [.nilf]⟩ := by kernel_rfl
theorem tyfunc_Lint_func_int_bool_bool : tab 93 = ⟨.func, 1, 8, [.nilf]⟩ := by kernel_rfl
theorem tyfunc_int_impl_relation : tab 94 = ⟨.func, 1, 8, [.nilf]⟩ := by kernel_rfl
theorem tyLimpl_wall : tab 95 = ⟨.slice 98, 1, 24, [.nils]⟩ := by kernel_rfl
theorem tyfunc_Limpl_wall : tab 96 = ⟨.func, 1, 8, [.nilf]⟩ := by kernel_rfl
theorem tystruct_level_bool_line_int_from_int_long_int_ : tab 97 = ⟨.struct [(0, 4), (1, 3), (2, 3), (3, 3)], 4, 32, [.bool false, .int .i64 0, .int .i64 0, .int .i64 0]⟩ := by kernel_rfl
theorem tyimpl_wall : tab 98 = ⟨.struct [(0, 4), (1, 3), (2, 3), (3, 3)], 4, 32, [.bool false, .int .i64 0, .int .i64 0, .int .i64 0]⟩ := by kernel_rfl
theorem tyfunc_impl_wall_Lint_Lint_ : tab 100 = ⟨.func, 1, 8, [.nilf]⟩ := by kernel_rfl
theorem tyfunc_Lstring_Lint_Lint_int_int_int_ : tab 101 = ⟨.func, 1, 8, [.nilf]⟩ := by kernel_rfl
theorem tyLimpl_shape : tab 102 = ⟨.slice 106, 1, 24, [.nils]⟩ := by kernel_rfl
theorem tyfunc_Lstring_Lint_Lint_Limpl_shape_bool_ : tab 104 = ⟨.func, 1, 8, [.nilf]⟩ := by kernel_rfl
theorem tystruct_wide_int_high_int_ : tab 105 = ⟨.struct [(0, 3), (1, 3)], 2, 16, [.int .i64 0, .int .i64 0]⟩ := by kernel_rfl
theorem tyimpl_shape : tab 106 = ⟨.struct [(0, 3), (1, 3)], 2, 16, [.int .i64 0, .int .i64 0]⟩ := by kernel_rfl
theorem tyfunc_LLint_int_int_LLint : tab 107 = ⟨.func, 1, 8, [.nilf]⟩ := by kernel_rfl
theorem tyfunc_Lint_func_int_int_int_ : tab 108 = ⟨.func, 1, 8, [.nilf]⟩ := by kernel_rfl
theorem tyfunc_int_int_int : tab 109 = ⟨.func, 1, 8, [.nilf]⟩ := by kernel_rfl
theorem tystruct_b_Luint8_p_int_ : tab 110 = ⟨.struct [(0, 22), (1, 3)], 2, 32, [.nils, .int .i64 0]⟩ := by kernel_rfl
theorem tyspec_l6Rd : tab 111 = ⟨.struct [(0, 22), (1, 3)], 2, 32, [.nils, .int .i64 0]⟩ := by kernel_rfl
theorem tyfunc_Lstring_LLint : tab 112 = ⟨.func, 1, 8, [.nilf]⟩ := by kernel_rfl
theorem tyfunc_Lstring_Lint_Lint_Lint_ : tab 113 = ⟨.func, 1, 8, [.nilf]⟩ := by kernel_rfl
theorem tyfunc_impl_grid_Pimpl_floor_bool_ : tab 114 = ⟨.func, 1, 8, [.nilf]⟩ := by kernel_rfl
theorem tyfunc_int : tab 115 = ⟨.func, 1, 8, [.nilf]⟩ := by kernel_rfl
theorem tyPstrings_Builder : tab 116 = ⟨.ptr 118, 1, 8, [.nilp]⟩ := by kernel_rfl
theorem tystruct_addr_Pstrings_Builder_buf_Luint8_ : tab 117 = ⟨.struct [(0, 116), (1, 22)], 2, 32, [.nilp, .nils]⟩ := by kernel_rfl
theorem tystrings_Builder : tab 118 = ⟨.struct [(0, 116), (1, 22)], 2, 32, [.nilp, .nils]⟩ := by kernel_rfl
theorem tyfunc_uint8_error : tab 121 = ⟨.func, 1, 8, [.nilf]⟩ := by kernel_rfl
theorem tyfunc_string : tab 122 = ⟨.func, 1, 8, [.nilf]⟩ := by kernel_rfl
theorem tyfunc_bool : tab 123 = ⟨.func, 1, 8, [.nilf]⟩ := by kernel_rfl
theorem tyfunc_Lint_func_int_bool_int : tab 124 = ⟨.func, 1, 8, [.nilf]⟩ := by kernel_rfl
theorem tyfunc_bool_int_int_bool : tab 125 = ⟨.func, 1, 8, [.nilf]⟩ := by kernel_rfl
theorem tyfunc_bool_int_int_int_int_ : tab 126 = ⟨.func, 1, 8, [.nilf]⟩ := by kernel_rfl
theorem tyfunc_Lstring_Lint_Lint_Pimpl_floor_bool_ : tab 127 = ⟨.func, 1, 8, [.nilf]⟩ := by kernel_rfl
theorem tyfunc_Lint_int_int_int_func_int_int_int_ : tab 128 = ⟨.func, 1, 8, [.nilf]⟩ := by kernel_rfl
theorem tyfunc_uint_int : tab 129 = ⟨.func, 1, 8, [.nilf]⟩ := by kernel_rfl
theorem tyuint : tab 130 = ⟨.int .u64, 1, 8, [.int .u64 0]⟩ := by kernel_rfl
theorem tyfunc_Lstring_int_int_int_int_int_ : tab 132 = ⟨.func, 1, 8, [.nilf]⟩ := by kernel_rfl
theorem tyfunc_Lint_int_Lint : tab 133 = ⟨.func, 1, 8, [.nilf]⟩ := by kernel_rfl
theorem tyfunc_impl_grid_func_Lint_bool_bool : tab 134 = ⟨.func, 1, 8, [.nilf]⟩ := by kernel_rfl
theorem tyfunc_Lint_bool : tab 135 = ⟨.func, 1, 8, [.nilf]⟩ := by kernel_rfl
theorem tymapBint_int : tab 136 = ⟨.map 3 3, 1, 8, [.nilm]⟩ := by kernel_rfl
theorem tyfunc_int_int_func_int_int_int_impl_grid : tab 137 = ⟨.func, 1, 8, [.nilf]⟩ := by kernel_rfl
theorem tyfunc_impl_rect_impl_rect : tab 138 = ⟨.func, 1, 8, [.nilf]⟩ := by kernel_rfl
theorem tyPuint8 : tab 139 = ⟨.ptr 5, 1, 8, [.nilp]⟩ := by kernel_rfl
theorem tyfunc_Lstring_int_int_int : tab 140 = ⟨.func, 1, 8, [.nilf]⟩ := by kernel_rfl
theorem tyfunc_Lint_int_int_func_int_int_int_ : tab 141 = ⟨.func, 1, 8, [.nilf]⟩ := by kernel_rfl
theorem tyslices_sortedHint : tab 142 = ⟨.int .i64, 1, 8, [.int .i64 0]⟩ := by kernel_rfl
theorem tyfunc_Lint_int_int_func_int_int_int_int_slices_sortedHint_ : tab 144 = ⟨.func, 1, 8, [.nilf]⟩ := by kernel_rfl
theorem tyfunc_Lint_int_int_func_int_int_int_bool : tab 145 = ⟨.func, 1, 8, [.nilf]⟩ := by kernel_rfl
theorem tyfunc_Lint_int_int_int_func_int_int_int_int : tab 146 = ⟨.func, 1, 8, [.nilf]⟩ := by kernel_rfl
theorem tyfunc_Lint_int_int_int_func_int_int_int_int_bool_ : tab 147 = ⟨.func, 1, 8, [.nilf]⟩ := by kernel_rfl
theorem tyfunc_uint32_int : tab 148 = ⟨.func, 1, 8, [.nilf]⟩ := by kernel_rfl
theorem tyuint32 : tab 149 = ⟨.int .u32, 1, 4, [.int .u32 0]⟩ := by kernel_rfl
theorem tyfunc_uint64_int : tab 150 = ⟨.func, 1, 8, [.nilf]⟩ := by kernel_rfl
theorem tyuint64 : tab 151 = ⟨.int .u64, 1, 8, [.int .u64 0]⟩ := by kernel_rfl
theorem tyfunc_Pspec_l6Rd_Lstring_int_Lstring : tab 152 = ⟨.func, 1, 8, [.nilf]⟩ := by kernel_rfl
theorem tyfunc_int_int_Lstring : tab 153 = ⟨.func, 1, 8, [.nilf]⟩ := by kernel_rfl
theorem tyfunc_impl_grid_func_Lint_bool_int : tab 154 = ⟨.func, 1, 8, [.nilf]⟩ := by kernel_rfl
theorem tyfunc_unsafe_Pointer_unsafe_Pointer : tab 156 = ⟨.func, 1, 8, [.nilf]⟩ := by kernel_rfl
theorem tyfunc_Lint_ : tab 157 = ⟨.func, 1, 8, [.nilf]⟩ := by kernel_rfl
theorem tyslices_xorshift : tab 158 = ⟨.int .u64, 1, 8, [.int .u64 0]⟩ := by kernel_rfl
theorem tyfunc_int_uint : tab 159 = ⟨.func, 1, 8, [.nilf]⟩ := by kernel_rfl
theorem tyfunc_uint64 : tab 160 = ⟨.func, 1, 8, [.nilf]⟩ := by kernel_rfl
theorem tyfunc_Lint_int_Pint_func_int_int_int_int : tab 161 = ⟨.func, 1, 8, [.nilf]⟩ := by kernel_rfl
theorem tyPint : tab 162 = ⟨.ptr 3, 1, 8, [.nilp]⟩ := by kernel_rfl
theorem tyfunc_Lint_int_int_int_Pint_func_int_int_int_int : tab 163 = ⟨.func, 1, 8, [.nilf]⟩ := by kernel_rfl
theorem tyfunc_Lstring_int_string_int_Lstring_bool_ : tab 165 = ⟨.func, 1, 8, [.nilf]⟩ := by kernel_rfl
theorem tyfunc_Lstring_string : tab 166 = ⟨.func, 1, 8, [.nilf]⟩ := by kernel_rfl
theorem tyfunc_Lint_int_int_int_ : tab 167 = ⟨.func, 1, 8, [.nilf]⟩ := by kernel_rfl
theorem tyPslices_xorshift : tab 168 = ⟨.ptr 158, 1, 8, [.nilp]⟩ := by kernel_rfl
theorem tyfunc_Lint_int_int_Pint_func_int_int_int_int_int_ : tab 169 = ⟨.func, 1, 8, [.nilf]⟩ := by kernel_rfl
theorem tyfunc_Lstring_bool_ : tab 170 = ⟨.func, 1, 8, [.nilf]⟩ := by kernel_rfl
theorem tyfunc_Lstring_Lstring_bool_ : tab 171 = ⟨.func, 1, 8, [.nilf]⟩ := by kernel_rfl
theorem tyfunc_Lstring_int_int_int_int_uint8_Lstring : tab 172 = ⟨.func, 1, 8, [.nilf]⟩ := by kernel_rfl
theorem tyfunc_Lint_int_int_ : tab 173 = ⟨.func, 1, 8, [.nilf]⟩ := by kernel_rfl
theorem tyfunc_Lint_int_int_int_slices_sortedHint_ : tab 174 = ⟨.func, 1, 8, [.nilf]⟩ := by kernel_rfl
theorem tyfunc_Lint_int_int_bool : tab 175 = ⟨.func, 1, 8, [.nilf]⟩ := by kernel_rfl
theorem tyfunc_Lint_int_int_int_int : tab 176 = ⟨.func, 1, 8, [.nilf]⟩ := by kernel_rfl
theorem tyfunc_Lint_int_int_int_int_bool_ : tab 177 = ⟨.func, 1, 8, [.nilf]⟩ := by kernel_rfl
theorem tyfunc_Lint_int_Pint_int : tab 178 = ⟨.func, 1, 8, [.nilf]⟩ := by kernel_rfl
theorem tyfunc_Lint_int_int_int_Pint_int : tab 179 = ⟨.func, 1, 8, [.nilf]⟩ := by kernel_rfl
theorem tyfunc_Lint_int_int_Pint_int_int_ : tab 180 = ⟨.func, 1, 8, [.nilf]⟩ := by kernel_rfl
theorem tystruct__interface_Pabi_Type_concrete_Pabi_Type_asserted_Pabi_Type_missingMethod_string_ : tab 181 = ⟨.struct [(0, 17), (1, 17), (2, 17), (3, 9)], 4, 40, [.nilp, .nilp, .nilp, .str []]⟩ := by kernel_rfl
theorem tyruntime_TypeAssertionError : tab 182 = ⟨.struct [(0, 17), (1, 17), (2, 17), (3, 9)], 4, 40, [.nilp, .nilp, .nilp, .str []]⟩ := by kernel_rfl
theorem tyB0_Pruntime_PanicNilError : tab 183 = ⟨.arr 0 16, 0, 0, []⟩ := by kernel_rfl
theorem tystruct___B0_Pruntime_PanicNilError_ : tab 184 = ⟨.struct [(0, 183)], 0, 0, []⟩ := by kernel_rfl
theorem tyruntime_PanicNilError : tab 185 = ⟨.struct [(0, 183)], 0, 0, []⟩ := by kernel_rfl
theorem tyabi_TFlag : tab 186 = ⟨.int .u8, 1, 1, [.int .u8 0]⟩ := by kernel_rfl
theorem tyabi_Kind : tab 187 = ⟨.int .u8, 1, 1, [.int .u8 0]⟩ := by kernel_rfl
theorem tyfunc_unsafe_Pointer_unsafe_Pointer_bool : tab 188 = ⟨.func, 1, 8, [.nilf]⟩ := by kernel_rfl
theorem tyabi_NameOff : tab 189 = ⟨.int .i32, 1, 4, [.int .i32 0]⟩ := by kernel_rfl
theorem tyabi_TypeOff : tab 190 = ⟨.int .i32, 1, 4, [.int .i32 0]⟩ := by kernel_rfl
theorem tystruct_Size__uintptr_PtrBytes_uintptr_Hash_uint32_TFlag_abi_TFlag_Align__uint8_FieldAlign__uint8_Kind__abi_Kind_Equal_func_unsafe_Pointer_unsafe_Pointer_bool_GCData_Puint8_Str_abi_NameOff_PtrToThis_abi_TypeOff_ : tab 191 = ⟨.struct [(0, 12), (1, 12), (2, 149), (3, 186), (4, 5), (5, 5), (6, 187), (7, 188), (8, 139), (9, 189), (10, 190)], 11, 48, [.int .u64 0, .int .u64 0, .int .u32 0, .int .u8 0, .int .u8 0, .int .u8 0, .int .u8 0, .nilf, .nilp, .int .i32 0, .int .i32 0]⟩ := by kernel_rfl
theorem tyabi_Type : tab 192 = ⟨.struct [(0, 12), (1, 12), (2, 149), (3, 186), (4, 5), (5, 5), (6, 187), (7, 188), (8, 139), (9, 189), (10, 190)], 11, 48, [.int .u64 0, .int .u64 0, .int .u32 0, .int .u8 0, .int .u8 0, .int .u8 0, .int .u8 0, .nilf, .nilp, .int .i32 0, .int .i32 0]⟩ := by kernel_rfl

end Fw
end Go.Proofs.Ytmhcknpjgikgmaa

/-! Small functions of the specification, gone through. -/
namespace Go.Proofs.Ytmhcknpjgikgmaa
namespace Fw
open Go

theorem l6In_pc (n low high : Int) : PC Try.prog 81 [.int .i64 n, .int .i64 low, .int .i64 high] (.bool (decide (low ≤ n) && decide (n ≤ high))) true := by
  refine PC.of ⟨Try.func81, by kernel_rfl, rfl, by kernel_rfl⟩ tabOk mixed (by show 3 ≤ Try.f81.ntmps; decide) ?_
  refine W.seq_region fun K hK => ?_
  simp (disch := omega) only [↓RU, RV, RH, ↓reduceIte, Nat.reduceEqDiff, reduceCtorEq, if_pos]
  refine hK _ _ ?_
  clear hK K
  refine W.seq_region fun K hK => ?_
  by_cases h : low ≤ n
  · skip
    simp (disch := omega) only [↓RU, RV, RH, ↓reduceIte, Nat.reduceEqDiff, reduceCtorEq, if_pos, w64, tyint, ge_iff_le, h, decide_true]
    refine hK _ _ ?_
    clear hK K
    refine W.ret ?_
    refine BodyQ.ret rfl ?_
    simp only [decide_true, Bool.true_and, h]; rfl
  · skip
    simp (disch := omega) only [↓RU, RV, RH, ↓reduceIte, Nat.reduceEqDiff, reduceCtorEq, if_pos, w64, tyint, ge_iff_le, h, decide_false]
    refine hK _ _ ?_
    clear hK K
    refine W.ret ?_
    refine BodyQ.ret rfl ?_
    simp only [decide_false, Bool.false_and, h]; rfl

theorem l1Rooms_pc {p : List Txt} (hs : Sm p) : PC Try.prog 75 [eStrs p] (.int .i64 (l1Rooms p)) true := by
  have hp := hs.rows
  have hr := hs.cols
  refine PC.of ⟨Try.func75, by kernel_rfl, rfl, by kernel_rfl⟩ tabOk mixed (by show 1 ≤ Try.f75.ntmps; decide) ?_
  refine W.seq_region fun K hK => ?_
  simp (disch := omega) only [↓RU, RV, RH, ↓reduceIte, Nat.reduceEqDiff, reduceCtorEq, if_pos]
  refine hK _ _ ?_
  clear hK K
  refine W.seq_region fun K hK => ?_
  simp (disch := omega) only [↓RU, RV, RH, ↓reduceIte, Nat.reduceEqDiff, reduceCtorEq, if_pos]
  refine hK _ _ ?_
  clear hK K
  refine W.seq ?_
  refine W.seq_region fun K hK => ?_
  simp (disch := omega) only [↓RU, RV, RH, ↓reduceIte, Nat.reduceEqDiff, reduceCtorEq, if_pos]
  refine hK _ _ ?_
  clear hK K
  refine W.block ?_
  refine W.loop [0, 3, 4] (fun n vs S => ∃ i : Nat, n = p.length - i ∧ i ≤ p.length ∧ vs = [eStrs p, .int .i64 (l1Rooms (p.take i)), .int .i64 i] ∧ S = ⟨[], 0⟩) (p.length) ?_ ?_
  · refine ⟨0, 0, rfl, Nat.zero_le _, ?_, rfl⟩
    simp [Env.put, argEnv, l1Rooms]
  rintro n vs S - ⟨i, rfl, h_i, rfl, rfl⟩
  refine W.seq ?_
  refine W.seq_region fun K hK => ?_
  simp (disch := omega) only [↓RU, RV, RH, ↓reduceIte, Nat.reduceEqDiff, reduceCtorEq, if_pos, w64, tyLstring, tyint, tystring]
  refine hK _ _ ?_
  clear hK K
  refine W.cond rfl (fun h => ?_) (fun h => ?_)
  · try simp only [RL] at h
    obtain ⟨row, hrow, hrm⟩ := get_of (show i < p.length by omega)
    have hrl := hr row hrm
    refine W.skip ?_
    refine XThen.norm ?_
    refine W.seq ?_
    refine W.block ?_
    refine W.seq_region fun K hK => ?_
    simp (disch := omega) only [↓RU, RV, RH, ↓reduceIte, Nat.reduceEqDiff, reduceCtorEq, if_pos]
    refine hK _ _ ?_
    clear hK K
    refine W.block ?_
    refine W.loop [0, 3, 4, 5] (fun n vs S => ∃ k : Nat, n = row.length - k ∧ k ≤ row.length ∧ vs = [eStrs p, .int .i64 (rowMax (l1Rooms (p.take i)) (row.take k)), .int .i64 i, .int .i64 k] ∧ S = ⟨[], 0⟩) (row.length) ?_ ?_
    · refine ⟨0, 0, rfl, Nat.zero_le _, ?_, rfl⟩
      simp [Env.put, Env.of, rowMax]
    rintro n vs S - ⟨k, rfl, h_k, rfl, rfl⟩
    refine W.seq ?_
    refine W.seq_region fun K hK => ?_
    simp (disch := omega) only [↓RU, RV, RH, ↓reduceIte, Nat.reduceEqDiff, reduceCtorEq, if_pos, w64, tyLstring, tyint, tystring, hrow]
    refine hK _ _ ?_
    clear hK K
    refine W.cond rfl (fun h1 => ?_) (fun h1 => ?_)
    · try simp only [RL] at h1
      obtain ⟨c, hc, -⟩ := get_of (show k < row.length by omega)
      have hcl := c.toNat_lt
      refine W.skip ?_
      refine XThen.norm ?_
      refine W.seq ?_
      refine W.block ?_
      refine W.region_k fun K hK => ?_
      simp (disch := omega) only [↓RU, RV, RH, ↓reduceIte, Nat.reduceEqDiff, reduceCtorEq, if_pos, w64, w64, ite_max, tyLstring, tyint, tystring, tyuint8, hrow, hc, ite_max]
      refine hK _ _ ?_
      clear hK K
      refine XBlock.norm ?_
      refine XThen.norm ?_
      refine W.region_k fun K hK => ?_
      simp (disch := omega) only [↓RU, RV, RH, ↓reduceIte, Nat.reduceEqDiff, reduceCtorEq, if_pos, w64, tyint]
      refine hK _ _ ?_
      clear hK K
      refine XThen.norm ?_
      refine ⟨row.length - (k + 1), by omega, 0, k + 1, rfl, by omega, ?_, rfl⟩
      rw [tk hc]
      simp [Env.put, Env.of, rowMax, List.foldl_append]
    · try simp only [RL] at h1
      refine W.exit ?_
      refine XThen.exit ?_
      refine XThen.exit ?_
      refine XBlock.hit ?_
      refine XBlock.norm ?_
      refine XThen.norm ?_
      refine W.region_k fun K hK => ?_
      simp (disch := omega) only [↓RU, RV, RH, ↓reduceIte, Nat.reduceEqDiff, reduceCtorEq, if_pos, w64, tyint]
      refine hK _ _ ?_
      clear hK K
      refine XThen.norm ?_
      refine ⟨p.length - (i + 1), by omega, 0, i + 1, rfl, by omega, ?_, rfl⟩
      rw [tk hrow]
      simp [Env.put, Env.of, l1Rooms, List.foldl_append, show k = row.length by omega]
  · try simp only [RL] at h
    refine W.exit ?_
    refine XThen.exit ?_
    refine XThen.exit ?_
    refine XBlock.hit ?_
    refine XThen.norm ?_
    refine W.seq_region fun K hK => ?_
    simp (disch := omega) only [↓RU, RV, RH, ↓reduceIte, Nat.reduceEqDiff, reduceCtorEq, if_pos]
    refine hK _ _ ?_
    clear hK K
    refine W.ret ?_
    refine BodyQ.ret rfl ?_
    have hip : i = p.length := by omega
    subst hip
    rw [List.take_length]
    rfl

theorem l1Same_pc {p q : List Txt} (hs : Sm p) : PC Try.prog 117 [eStrs p, eStrs q] (.bool (decide (p = q))) true := by
  have hp := hs.rows
  have hr := hs.cols
  refine PC.of ⟨Try.func117, by kernel_rfl, rfl, by kernel_rfl⟩ tabOk mixed (by show 2 ≤ Try.f117.ntmps; decide) ?_
  refine W.seq_region fun K hK => ?_
  simp (disch := omega) only [↓RU, RV, RH, ↓reduceIte, Nat.reduceEqDiff, reduceCtorEq, if_pos]
  refine hK _ _ ?_
  clear hK K
  refine W.seq ?_
  refine W.seq_region fun K hK => ?_
  simp (disch := omega) only [↓RU, RV, RH, ↓reduceIte, Nat.reduceEqDiff, reduceCtorEq, if_pos, w64, tyLstring, tyint, tystring]
  refine hK _ _ ?_
  clear hK K
  refine W.cond rfl (fun h0 => ?_) (fun h0 => ?_)
  · try simp only [RL] at h0
    skip
    refine W.seq_region fun K hK => ?_
    simp (disch := omega) only [↓RU, RV, RH, ↓reduceIte, Nat.reduceEqDiff, reduceCtorEq, if_pos]
    refine hK _ _ ?_
    clear hK K
    refine W.ret ?_
    refine XThen.ret ?_
    refine BodyQ.ret rfl ?_
    have : p ≠ q := fun e => h0 (by rw [e])
    simp [this]; rfl
  · try simp only [RL] at h0
    refine W.skip ?_
    refine XThen.norm ?_
    refine W.seq ?_
    refine W.seq_region fun K hK => ?_
    simp (disch := omega) only [↓RU, RV, RH, ↓reduceIte, Nat.reduceEqDiff, reduceCtorEq, if_pos]
    refine hK _ _ ?_
    clear hK K
    refine W.block ?_
    refine W.loop [0, 1, 5] (fun n vs S => ∃ i : Nat, n = p.length - i ∧ i ≤ p.length ∧ (p.take i = q.take i) ∧ vs = [eStrs p, eStrs q, .int .i64 i] ∧ S = ⟨[], 0⟩) (p.length) ?_ ?_
    · refine ⟨0, 0, rfl, Nat.zero_le _, rfl, ?_, rfl⟩
      simp [Env.put, Env.of, argEnv]
    rintro n vs S - ⟨i, rfl, h_i, hq, rfl, rfl⟩
    refine W.seq ?_
    refine W.seq_region fun K hK => ?_
    simp (disch := omega) only [↓RU, RV, RH, ↓reduceIte, Nat.reduceEqDiff, reduceCtorEq, if_pos, w64, tyLstring, tyint, tystring]
    refine hK _ _ ?_
    clear hK K
    refine W.cond rfl (fun h1 => ?_) (fun h1 => ?_)
    · try simp only [RL] at h1
      obtain ⟨row, hrow, hrm⟩ := get_of (show i < p.length by omega)
      obtain ⟨row2, hrow2, -⟩ := get_of (show i < q.length by omega)
      refine W.skip ?_
      refine XThen.norm ?_
      refine W.seq ?_
      refine W.block ?_
      refine W.seq_draw (by kernel_rfl) fun K hK => ?_
      simp (disch := omega) only [↓RU, RV, RH, ↓reduceIte, Nat.reduceEqDiff, reduceCtorEq, if_pos, w64, tyLstring, tystring, hrow, hrow2, pStr]
      refine hK _ _ ?_
      clear hK K
      refine W.cond rfl (fun h2 => ?_) (fun h2 => ?_)
      · try simp only [RL] at h2
        refine W.seq_region fun K hK => ?_
        simp (disch := omega) only [↓RU, RV, RH, ↓reduceIte, Nat.reduceEqDiff, reduceCtorEq, if_pos]
        refine hK _ _ ?_
        clear hK K
        refine W.ret ?_
        refine XBlock.ret ?_
        refine XThen.ret ?_
        refine XThen.ret ?_
        refine XBlock.ret ?_
        refine XThen.ret ?_
        refine BodyQ.ret rfl ?_
        have : p ≠ q := fun e => h2 (by rw [e, hrow2] at hrow; exact (Option.some.inj hrow).symm)
        simp [this]; rfl
      · try simp only [RL] at h2
        refine W.skip ?_
        refine XBlock.norm ?_
        refine XThen.norm ?_
        refine W.region_k fun K hK => ?_
        simp (disch := omega) only [↓RU, RV, RH, ↓reduceIte, Nat.reduceEqDiff, reduceCtorEq, if_pos, w64, tyint]
        refine hK _ _ ?_
        clear hK K
        refine XThen.norm ?_
        refine ⟨p.length - (i + 1), by omega, 0, i + 1, rfl, by omega, by rw [tk hrow, tk hrow2, hq, h2], ?_, rfl⟩
        simp [Env.put, Env.of]
    · try simp only [RL] at h1
      refine W.exit ?_
      refine XThen.exit ?_
      refine XThen.exit ?_
      refine XBlock.hit ?_
      refine XThen.norm ?_
      refine W.seq_region fun K hK => ?_
      simp (disch := omega) only [↓RU, RV, RH, ↓reduceIte, Nat.reduceEqDiff, reduceCtorEq, if_pos]
      refine hK _ _ ?_
      clear hK K
      refine W.ret ?_
      refine BodyQ.ret rfl ?_
      have hip : i = p.length := by omega
      have h0n : p.length = q.length := by omega
      have : p = q := by rw [hip, List.take_length, h0n, List.take_length] at hq; exact hq
      simp [this]; rfl

theorem l1Cells_pc {p : List Txt} (hs : Sm p) (hc1 : p.length ≤ 1000) (hc2 : ∀ r ∈ p, r.length ≤ 1000) (room : Int) : PC Try.prog 120 [eStrs p, .int .i64 room] (.int .i64 (l1Cells p room)) true := by
  have hp := hs.rows
  have hr := hs.cols
  refine PC.of ⟨Try.func120, by kernel_rfl, rfl, by kernel_rfl⟩ tabOk mixed (by show 2 ≤ Try.f120.ntmps; decide) ?_
  refine W.seq_region fun K hK => ?_
  simp (disch := omega) only [↓RU, RV, RH, ↓reduceIte, Nat.reduceEqDiff, reduceCtorEq, if_pos]
  refine hK _ _ ?_
  clear hK K
  refine W.seq_region fun K hK => ?_
  simp (disch := omega) only [↓RU, RV, RH, ↓reduceIte, Nat.reduceEqDiff, reduceCtorEq, if_pos]
  refine hK _ _ ?_
  clear hK K
  refine W.seq ?_
  refine W.seq_region fun K hK => ?_
  simp (disch := omega) only [↓RU, RV, RH, ↓reduceIte, Nat.reduceEqDiff, reduceCtorEq, if_pos]
  refine hK _ _ ?_
  clear hK K
  refine W.block ?_
  refine W.loop [0, 1, 5, 6] (fun n vs S => ∃ i : Nat, n = p.length - i ∧ i ≤ p.length ∧ vs = [eStrs p, .int .i64 room, .int .i64 (l1Cells (p.take i) room), .int .i64 i] ∧ S = ⟨[], 0⟩) (p.length) ?_ ?_
  · refine ⟨0, 0, rfl, Nat.zero_le _, ?_, rfl⟩
    simp [Env.put, argEnv, l1Cells]
  rintro n vs S - ⟨i, rfl, h_i, rfl, rfl⟩
  refine W.seq ?_
  refine W.seq_region fun K hK => ?_
  simp (disch := omega) only [↓RU, RV, RH, ↓reduceIte, Nat.reduceEqDiff, reduceCtorEq, if_pos, w64, tyLstring, tyint, tystring]
  refine hK _ _ ?_
  clear hK K
  refine W.cond rfl (fun h => ?_) (fun h => ?_)
  · try simp only [RL] at h
    obtain ⟨row, hrow, hrm⟩ := get_of (show i < p.length by omega)
    have hrl := hr row hrm
    refine W.skip ?_
    refine XThen.norm ?_
    refine W.seq ?_
    refine W.block ?_
    refine W.seq_region fun K hK => ?_
    simp (disch := omega) only [↓RU, RV, RH, ↓reduceIte, Nat.reduceEqDiff, reduceCtorEq, if_pos]
    refine hK _ _ ?_
    clear hK K
    refine W.block ?_
    refine W.loop [0, 1, 5, 6, 7] (fun n vs S => ∃ k : Nat, n = row.length - k ∧ k ≤ row.length ∧ vs = [eStrs p, .int .i64 room, .int .i64 (cellsRow room (l1Cells (p.take i) room) (row.take k)), .int .i64 i, .int .i64 k] ∧ S = ⟨[], 0⟩) (row.length) ?_ ?_
    · refine ⟨0, 0, rfl, Nat.zero_le _, ?_, rfl⟩
      simp [Env.put, Env.of, cellsRow]
    rintro n vs S - ⟨k, rfl, h_k, rfl, rfl⟩
    refine W.seq ?_
    refine W.seq_region fun K hK => ?_
    simp (disch := omega) only [↓RU, RV, RH, ↓reduceIte, Nat.reduceEqDiff, reduceCtorEq, if_pos, w64, tyLstring, tyint, tystring, hrow]
    refine hK _ _ ?_
    clear hK K
    refine W.cond rfl (fun h1 => ?_) (fun h1 => ?_)
    · try simp only [RL] at h1
      obtain ⟨c, hc, -⟩ := get_of (show k < row.length by omega)
      have hcl := c.toNat_lt
      have hb1 := l1Cells_bound room (p.take i) fun r hr => hc2 r (List.mem_of_mem_take hr)
      have hb2 := cellsRow_bound room (row.take k) (l1Cells (p.take i) room)
      have hb3 := List.length_take_le i p
      have hb4 := List.length_take_le k row
      refine W.skip ?_
      refine XThen.norm ?_
      refine W.seq ?_
      refine W.block ?_
      refine W.seq_region fun K hK => ?_
      simp (disch := omega) only [↓RU, RV, RH, ↓reduceIte, Nat.reduceEqDiff, reduceCtorEq, if_pos, w64, w64, tyLstring, tyint, tystring, tyuint8, hrow, hc]
      refine hK _ _ ?_
      clear hK K
      refine W.cond rfl (fun h2 => ?_) (fun h2 => ?_)
      · try simp only [RL] at h2
        refine W.region_k fun K hK => ?_
        simp (disch := omega) only [↓RU, RV, RH, ↓reduceIte, Nat.reduceEqDiff, reduceCtorEq, if_pos, w64, tyint]
        refine hK _ _ ?_
        clear hK K
        refine XBlock.norm ?_
        refine XThen.norm ?_
        refine W.region_k fun K hK => ?_
        simp (disch := omega) only [↓RU, RV, RH, ↓reduceIte, Nat.reduceEqDiff, reduceCtorEq, if_pos, w64, tyint]
        refine hK _ _ ?_
        clear hK K
        refine XThen.norm ?_
        refine ⟨row.length - (k + 1), by omega, 0, k + 1, rfl, by omega, ?_, rfl⟩
        rw [tk hc]
        simp [Env.put, Env.of, cellsRow, List.foldl_append, inRoom, h2]
      · try simp only [RL] at h2
        refine W.skip ?_
        refine XBlock.norm ?_
        refine XThen.norm ?_
        refine W.region_k fun K hK => ?_
        simp (disch := omega) only [↓RU, RV, RH, ↓reduceIte, Nat.reduceEqDiff, reduceCtorEq, if_pos, w64, tyint]
        refine hK _ _ ?_
        clear hK K
        refine XThen.norm ?_
        refine ⟨row.length - (k + 1), by omega, 0, k + 1, rfl, by omega, ?_, rfl⟩
        rw [tk hc]
        simp [Env.put, Env.of, cellsRow, List.foldl_append, inRoom, h2]
    · try simp only [RL] at h1
      refine W.exit ?_
      refine XThen.exit ?_
      refine XThen.exit ?_
      refine XBlock.hit ?_
      refine XBlock.norm ?_
      refine XThen.norm ?_
      refine W.region_k fun K hK => ?_
      simp (disch := omega) only [↓RU, RV, RH, ↓reduceIte, Nat.reduceEqDiff, reduceCtorEq, if_pos, w64, tyint]
      refine hK _ _ ?_
      clear hK K
      refine XThen.norm ?_
      refine ⟨p.length - (i + 1), by omega, 0, i + 1, rfl, by omega, ?_, rfl⟩
      rw [tk hrow]
      simp [Env.put, Env.of, l1Cells, List.foldl_append, show k = row.length by omega]
  · try simp only [RL] at h
    refine W.exit ?_
    refine XThen.exit ?_
    refine XThen.exit ?_
    refine XBlock.hit ?_
    refine XThen.norm ?_
    refine W.seq_region fun K hK => ?_
    simp (disch := omega) only [↓RU, RV, RH, ↓reduceIte, Nat.reduceEqDiff, reduceCtorEq, if_pos]
    refine hK _ _ ?_
    clear hK K
    refine W.ret ?_
    refine BodyQ.ret rfl ?_
    have hip : i = p.length := by omega
    subst hip
    rw [List.take_length]
    rfl

theorem l1Room_pc {p : List Txt} (hs : Sm p) (hne : 0 < p.length) (room : Int) : PC Try.prog 119 [eStrs p, .int .i64 room] (.tup [.int .i64 (boxOf p room).top, .int .i64 (boxOf p room).left, .int .i64 (highOf p room), .int .i64 (wideOf p room)]) true := by
  have hp := hs.rows
  have hr := hs.cols
  obtain ⟨row0, hrow0, hrm0⟩ := get_of hne
  have hrl0 := hr row0 hrm0
  have hhd := hdRow_of hrow0
  refine PC.of ⟨Try.func119, by kernel_rfl, rfl, by kernel_rfl⟩ tabOk mixed (by show 2 ≤ Try.f119.ntmps; decide) ?_
  refine W.seq_region fun K hK => ?_
  simp (disch := omega) only [↓RU, RV, RH, ↓reduceIte, Nat.reduceEqDiff, reduceCtorEq, if_pos]
  refine hK _ _ ?_
  clear hK K
  refine W.seq_region fun K hK => ?_
  simp (disch := omega) only [↓RU, RV, RH, ↓reduceIte, Nat.reduceEqDiff, reduceCtorEq, if_pos, tyLstring, tystring]
  refine hK _ _ ?_
  clear hK K
  refine W.seq_region fun K hK => ?_
  simp (disch := omega) only [↓RU, RV, RH, ↓reduceIte, Nat.reduceEqDiff, reduceCtorEq, if_pos, tyLstring, tystring, hrow0, Int.toNat_zero, Nat.zero_mul, Int.reduceToNat]
  refine hK _ _ ?_
  clear hK K
  refine W.seq_region fun K hK => ?_
  simp (disch := omega) only [↓RU, RV, RH, ↓reduceIte, Nat.reduceEqDiff, reduceCtorEq, if_pos]
  refine hK _ _ ?_
  clear hK K
  refine W.seq_region fun K hK => ?_
  simp (disch := omega) only [↓RU, RV, RH, ↓reduceIte, Nat.reduceEqDiff, reduceCtorEq, if_pos]
  refine hK _ _ ?_
  clear hK K
  refine W.seq ?_
  refine W.seq_region fun K hK => ?_
  simp (disch := omega) only [↓RU, RV, RH, ↓reduceIte, Nat.reduceEqDiff, reduceCtorEq, if_pos]
  refine hK _ _ ?_
  clear hK K
  refine W.block ?_
  refine W.loop [0, 1, 8, 9, 10, 11, 12] (fun n vs S => ∃ i : Nat, n = p.length - i ∧ i ≤ p.length ∧ vs = [eStrs p, .int .i64 room, .int .i64 (boxTo p room i).top, .int .i64 (boxTo p room i).left, .int .i64 (boxTo p room i).low, .int .i64 (boxTo p room i).right, .int .i64 i] ∧ S = ⟨[], 0⟩) (p.length) ?_ ?_
  · refine ⟨0, 0, rfl, Nat.zero_le _, ?_, rfl⟩
    simp [Env.put, argEnv, boxTo, hhd]
  rintro n vs S - ⟨i, rfl, h_i, rfl, rfl⟩
  refine W.seq ?_
  refine W.seq_region fun K hK => ?_
  simp (disch := omega) only [↓RU, RV, RH, ↓reduceIte, Nat.reduceEqDiff, reduceCtorEq, if_pos, w64, tyLstring, tyint, tystring]
  refine hK _ _ ?_
  clear hK K
  refine W.cond rfl (fun h => ?_) (fun h => ?_)
  · try simp only [RL] at h
    obtain ⟨row, hrow, hrm⟩ := get_of (show i < p.length by omega)
    have hrl := hr row hrm
    refine W.skip ?_
    refine XThen.norm ?_
    refine W.seq ?_
    refine W.block ?_
    refine W.seq_region fun K hK => ?_
    simp (disch := omega) only [↓RU, RV, RH, ↓reduceIte, Nat.reduceEqDiff, reduceCtorEq, if_pos]
    refine hK _ _ ?_
    clear hK K
    refine W.block ?_
    refine W.loop [0, 1, 8, 9, 10, 11, 12, 13] (fun n vs S => ∃ k : Nat, n = row.length - k ∧ k ≤ row.length ∧ vs = [eStrs p, .int .i64 room, .int .i64 (rowTo room i (boxTo p room i) row k).top, .int .i64 (rowTo room i (boxTo p room i) row k).left, .int .i64 (rowTo room i (boxTo p room i) row k).low, .int .i64 (rowTo room i (boxTo p room i) row k).right, .int .i64 i, .int .i64 k] ∧ S = ⟨[], 0⟩) (row.length) ?_ ?_
    · refine ⟨0, 0, rfl, Nat.zero_le _, ?_, rfl⟩
      simp [Env.put, Env.of, rowTo]
    rintro n vs S - ⟨k, rfl, h_k, rfl, rfl⟩
    refine W.seq ?_
    refine W.seq_region fun K hK => ?_
    simp (disch := omega) only [↓RU, RV, RH, ↓reduceIte, Nat.reduceEqDiff, reduceCtorEq, if_pos, w64, tyLstring, tyint, tystring, hrow]
    refine hK _ _ ?_
    clear hK K
    refine W.cond rfl (fun h1 => ?_) (fun h1 => ?_)
    · try simp only [RL] at h1
      obtain ⟨c, hc, -⟩ := get_of (show k < row.length by omega)
      have hcl := c.toNat_lt
      refine W.skip ?_
      refine XThen.norm ?_
      refine W.seq ?_
      refine W.block ?_
      refine W.seq_region fun K hK => ?_
      simp (disch := omega) only [↓RU, RV, RH, ↓reduceIte, Nat.reduceEqDiff, reduceCtorEq, if_pos, w64, w64, tyLstring, tyint, tystring, tyuint8, hrow, hc]
      refine hK _ _ ?_
      clear hK K
      refine W.cond rfl (fun h2 => ?_) (fun h2 => ?_)
      · try simp only [RL] at h2
        refine W.seq_region fun K hK => ?_
        simp (disch := omega) only [↓RU, RV, RH, ↓reduceIte, Nat.reduceEqDiff, reduceCtorEq, if_pos, ite_min, tyint]
        refine hK _ _ ?_
        clear hK K
        refine W.seq_region fun K hK => ?_
        simp (disch := omega) only [↓RU, RV, RH, ↓reduceIte, Nat.reduceEqDiff, reduceCtorEq, if_pos, ite_min, tyint]
        refine hK _ _ ?_
        clear hK K
        refine W.seq_region fun K hK => ?_
        simp (disch := omega) only [↓RU, RV, RH, ↓reduceIte, Nat.reduceEqDiff, reduceCtorEq, if_pos, ite_max, tyint]
        refine hK _ _ ?_
        clear hK K
        refine W.region_k fun K hK => ?_
        simp (disch := omega) only [↓RU, RV, RH, ↓reduceIte, Nat.reduceEqDiff, reduceCtorEq, if_pos, ite_max, tyint]
        refine hK _ _ ?_
        clear hK K
        refine XBlock.norm ?_
        refine XThen.norm ?_
        refine W.region_k fun K hK => ?_
        simp (disch := omega) only [↓RU, RV, RH, ↓reduceIte, Nat.reduceEqDiff, reduceCtorEq, if_pos, w64, tyint]
        refine hK _ _ ?_
        clear hK K
        refine XThen.norm ?_
        refine ⟨row.length - (k + 1), by omega, 0, k + 1, rfl, by omega, ?_, rfl⟩
        rw [rowTo_succ hc]
        simp [Env.put, Env.of, boxCell, inRoom, h2]
      · try simp only [RL] at h2
        refine W.skip ?_
        refine XBlock.norm ?_
        refine XThen.norm ?_
        refine W.region_k fun K hK => ?_
        simp (disch := omega) only [↓RU, RV, RH, ↓reduceIte, Nat.reduceEqDiff, reduceCtorEq, if_pos, w64, tyint]
        refine hK _ _ ?_
        clear hK K
        refine XThen.norm ?_
        refine ⟨row.length - (k + 1), by omega, 0, k + 1, rfl, by omega, ?_, rfl⟩
        rw [rowTo_succ hc]
        simp [Env.put, Env.of, boxCell, inRoom, h2]
    · try simp only [RL] at h1
      refine W.exit ?_
      refine XThen.exit ?_
      refine XThen.exit ?_
      refine XBlock.hit ?_
      refine XBlock.norm ?_
      refine XThen.norm ?_
      refine W.region_k fun K hK => ?_
      simp (disch := omega) only [↓RU, RV, RH, ↓reduceIte, Nat.reduceEqDiff, reduceCtorEq, if_pos, w64, tyint]
      refine hK _ _ ?_
      clear hK K
      refine XThen.norm ?_
      refine ⟨p.length - (i + 1), by omega, 0, i + 1, rfl, by omega, ?_, rfl⟩
      rw [boxTo_succ hrow]
      simp [Env.put, Env.of, show k = row.length by omega]
  · try simp only [RL] at h
    refine W.exit ?_
    refine XThen.exit ?_
    refine XThen.exit ?_
    refine XBlock.hit ?_
    refine XThen.norm ?_
    refine W.seq_region fun K hK => ?_
    have hip : i = p.length := by omega
    subst hip
    have hbb := boxTo_bound room hs.1 hs.2 p.length (Nat.le_refl _)
    rw [boxTo_all] at hbb
    simp only [Box.In] at hbb
    simp (disch := omega) only [↓RU, RV, RH, ↓reduceIte, Nat.reduceEqDiff, reduceCtorEq, if_pos, w64, tyint, boxTo_all]
    refine hK _ _ ?_
    clear hK K
    refine W.ret ?_
    refine BodyQ.ret rfl ?_
    rfl

end Fw
end Go.Proofs.Ytmhcknpjgikgmaa

/-! The specification of plans, gone through. -/
namespace Go.Proofs.Ytmhcknpjgikgmaa
namespace Fw
open Go

theorem l1Grid_pc {p : List Txt} (hs : Sm p) : PC Try.prog 116 [eStrs p] (.bool (gridB p)) true := by
  have hp := hs.rows
  have hr := hs.cols
  refine PC.of ⟨Try.func116, by kernel_rfl, rfl, by kernel_rfl⟩ tabOk mixed (by show 1 ≤ Try.f116.ntmps; decide) ?_
  refine W.seq_region fun K hK => ?_
  simp (disch := omega) only [↓RU, RV, RH, ↓reduceIte, Nat.reduceEqDiff, reduceCtorEq, if_pos]
  refine hK _ _ ?_
  clear hK K
  refine W.seq ?_
  refine W.seq_region fun K hK => ?_
  simp (disch := omega) only [↓RU, RV, RH, ↓reduceIte, Nat.reduceEqDiff, reduceCtorEq, if_pos]
  refine hK _ _ ?_
  clear hK K
  refine W.block ?_
  refine W.loop [0, 3] (fun n vs S => ∃ i : Nat, n = p.length - i ∧ i ≤ p.length ∧ ((p.take i).all (rowB (hdRow p).length) = true) ∧ vs = [eStrs p, .int .i64 i] ∧ S = ⟨[], 0⟩) (p.length) ?_ ?_
  · refine ⟨0, 0, rfl, Nat.zero_le _, rfl, ?_, rfl⟩
    simp [Env.put, Env.of, argEnv]
  rintro n vs S - ⟨i, rfl, h_i, hg, rfl, rfl⟩
  refine W.seq ?_
  refine W.seq_region fun K hK => ?_
  simp (disch := omega) only [↓RU, RV, RH, ↓reduceIte, Nat.reduceEqDiff, reduceCtorEq, if_pos, w64, tyLstring, tyint, tystring]
  refine hK _ _ ?_
  clear hK K
  refine W.cond rfl (fun h => ?_) (fun h => ?_)
  · try simp only [RL] at h
    obtain ⟨row, hrow, hrm⟩ := get_of (show i < p.length by omega)
    have hrl := hr row hrm
    obtain ⟨row0, hrow0, hrm0⟩ := get_of (show 0 < p.length by omega)
    have hhd := hdRow_of hrow0
    refine W.skip ?_
    refine XThen.norm ?_
    refine W.seq ?_
    refine W.block ?_
    refine W.seq ?_
    refine W.seq_draw (by kernel_rfl) fun K hK => ?_
    cases hw : ((row.length : Int) != (row0.length : Int))
    · skip
      simp (disch := omega) only [↓RU, RV, RH, ↓reduceIte, Nat.reduceEqDiff, reduceCtorEq, if_pos, w64, List.append_nil, tyLstring, tyint, tystring, hrow, hrow0, Int.toNat_zero, Nat.zero_mul, Int.reduceToNat, hw]
      refine CallR.pc (l6In_pc _ _ _) rfl (.inl rfl) ?_
      simp (disch := omega) only [↓RU, RV, RH, ↓reduceIte, Nat.reduceEqDiff, reduceCtorEq, if_pos, w64, List.append_nil, tyLstring, tyint, tystring, hrow, hrow0, Int.toNat_zero, Nat.zero_mul, Int.reduceToNat, hw]
      refine hK _ _ ?_
      clear hK K
      simp only [bne_eq_false_iff_eq] at hw
      refine W.cond rfl (fun h2 => ?_) (fun h2 => ?_)
      · skip
        simp only [Bool.not_eq_true', Bool.and_eq_false_iff, decide_eq_false_iff_not] at h2
        refine W.seq_region fun K hK => ?_
        simp (disch := omega) only [↓RU, RV, RH, ↓reduceIte, Nat.reduceEqDiff, reduceCtorEq, if_pos]
        refine hK _ _ ?_
        clear hK K
        refine W.ret ?_
        refine XThen.ret ?_
        refine XBlock.ret ?_
        refine XThen.ret ?_
        refine XThen.ret ?_
        refine XBlock.ret ?_
        refine XThen.ret ?_
        refine BodyQ.ret rfl ?_
        rw [gridB_no hrow (by cases hb : rowB (hdRow p).length row with | false => rfl | true => exfalso; simp only [rowB, Bool.and_eq_true, decide_eq_true_eq] at hb; rw [hhd] at hb; omega)]
        rfl
      · skip
        simp only [Bool.not_eq_false', Bool.and_eq_true, decide_eq_true_eq] at h2
        refine W.skip ?_
        refine XThen.norm ?_
        refine W.seq_region fun K hK => ?_
        simp (disch := omega) only [↓RU, RV, RH, ↓reduceIte, Nat.reduceEqDiff, reduceCtorEq, if_pos]
        refine hK _ _ ?_
        clear hK K
        refine W.block ?_
        refine W.loop [0, 3, 4] (fun n vs S => ∃ k : Nat, n = row.length - k ∧ k ≤ row.length ∧ ((row.take k).all letterB = true) ∧ vs = [eStrs p, .int .i64 i, .int .i64 k] ∧ S = ⟨[], 0⟩) (row.length) ?_ ?_
        · refine ⟨0, 0, rfl, Nat.zero_le _, rfl, ?_, rfl⟩
          simp [Env.put, Env.of, argEnv]
        rintro n vs S - ⟨k, rfl, h_k, hl, rfl, rfl⟩
        refine W.seq ?_
        refine W.seq_region fun K hK => ?_
        simp (disch := omega) only [↓RU, RV, RH, ↓reduceIte, Nat.reduceEqDiff, reduceCtorEq, if_pos, w64, tyLstring, tyint, tystring, hrow]
        refine hK _ _ ?_
        clear hK K
        refine W.cond rfl (fun h3 => ?_) (fun h3 => ?_)
        · try simp only [RL] at h3
          obtain ⟨c, hc, -⟩ := get_of (show k < row.length by omega)
          have hcl := c.toNat_lt
          refine W.skip ?_
          refine XThen.norm ?_
          refine W.seq ?_
          refine W.block ?_
          refine W.seq_region fun K hK => ?_
          cases hlo : decide ((c.toNat : Int) < 97)
          · skip
            simp (disch := omega) only [↓RU, RV, RH, ↓reduceIte, Nat.reduceEqDiff, reduceCtorEq, if_pos, w64, tyLstring, tystring, tyuint8, hrow, hc, hlo]
            refine hK _ _ ?_
            clear hK K
            refine W.cond rfl (fun h4 => ?_) (fun h4 => ?_)
            · try simp only [RL] at h4
              refine W.seq_region fun K hK => ?_
              simp (disch := omega) only [↓RU, RV, RH, ↓reduceIte, Nat.reduceEqDiff, reduceCtorEq, if_pos]
              refine hK _ _ ?_
              clear hK K
              refine W.ret ?_
              refine XBlock.ret ?_
              refine XThen.ret ?_
              refine XThen.ret ?_
              refine XBlock.ret ?_
              refine XBlock.ret ?_
              refine XThen.ret ?_
              refine XThen.ret ?_
              refine XBlock.ret ?_
              refine XThen.ret ?_
              refine BodyQ.ret rfl ?_
              rw [gridB_no hrow (row_letter_no hc (by cases hb : letterB c with | false => rfl | true => exfalso; simp only [letterB, Bool.and_eq_true, decide_eq_true_eq] at hb; omega))]
              rfl
            · try simp only [RL] at h4
              refine W.skip ?_
              refine XBlock.norm ?_
              refine XThen.norm ?_
              refine W.region_k fun K hK => ?_
              simp (disch := omega) only [↓RU, RV, RH, ↓reduceIte, Nat.reduceEqDiff, reduceCtorEq, if_pos, w64, tyint]
              refine hK _ _ ?_
              clear hK K
              refine XThen.norm ?_
              refine ⟨row.length - (k + 1), by omega, 0, k + 1, rfl, by omega, all_tk hc hl (by simp only [decide_eq_false_iff_not] at hlo; simp only [letterB, Bool.and_eq_true, decide_eq_true_eq]; omega), ?_, rfl⟩
              simp [Env.put, Env.of]
          · skip
            simp (disch := omega) only [↓RU, RV, RH, ↓reduceIte, Nat.reduceEqDiff, reduceCtorEq, if_pos, w64, tyLstring, tystring, tyuint8, hrow, hc, hlo]
            refine hK _ _ ?_
            clear hK K
            refine W.cond rfl (fun h4 => ?_) (fun h4 => ?_)
            · try simp only [RL] at h4
              refine W.seq_region fun K hK => ?_
              simp (disch := omega) only [↓RU, RV, RH, ↓reduceIte, Nat.reduceEqDiff, reduceCtorEq, if_pos]
              refine hK _ _ ?_
              clear hK K
              refine W.ret ?_
              refine XBlock.ret ?_
              refine XThen.ret ?_
              refine XThen.ret ?_
              refine XBlock.ret ?_
              refine XBlock.ret ?_
              refine XThen.ret ?_
              refine XThen.ret ?_
              refine XBlock.ret ?_
              refine XThen.ret ?_
              refine BodyQ.ret rfl ?_
              simp only [decide_eq_true_eq] at hlo
              rw [gridB_no hrow (row_letter_no hc (by cases hb : letterB c with | false => rfl | true => exfalso; simp only [letterB, Bool.and_eq_true, decide_eq_true_eq] at hb; omega))]
              rfl
            · try simp only [RL] at h4
              exact absurd h4 (by simp)
        · try simp only [RL] at h3
          have hl2 : row.all letterB = true := by rw [show k = row.length by omega, List.take_length] at hl; exact hl
          refine W.exit ?_
          refine XThen.exit ?_
          refine XThen.exit ?_
          refine XBlock.hit ?_
          refine XBlock.norm ?_
          refine XThen.norm ?_
          refine W.region_k fun K hK => ?_
          simp (disch := omega) only [↓RU, RV, RH, ↓reduceIte, Nat.reduceEqDiff, reduceCtorEq, if_pos, w64, tyint]
          refine hK _ _ ?_
          clear hK K
          refine XThen.norm ?_
          refine ⟨p.length - (i + 1), by omega, 0, i + 1, rfl, by omega, all_tk hrow hg (by rw [hhd]; simp only [rowB, hl2, Bool.and_true, Bool.and_eq_true, decide_eq_true_eq]; omega), ?_, rfl⟩
          simp [Env.put, Env.of]
    · skip
      simp (disch := omega) only [↓RU, RV, RH, ↓reduceIte, Nat.reduceEqDiff, reduceCtorEq, if_pos, w64, List.append_nil, tyLstring, tyint, tystring, hrow, hrow0, Int.toNat_zero, Nat.zero_mul, Int.reduceToNat, hw]
      refine hK _ _ ?_
      clear hK K
      simp only [bne_iff_ne, ne_eq] at hw
      refine W.cond rfl (fun h2 => ?_) (fun h2 => ?_)
      · try simp only [RL] at h2
        refine W.seq_region fun K hK => ?_
        simp (disch := omega) only [↓RU, RV, RH, ↓reduceIte, Nat.reduceEqDiff, reduceCtorEq, if_pos]
        refine hK _ _ ?_
        clear hK K
        refine W.ret ?_
        refine XThen.ret ?_
        refine XBlock.ret ?_
        refine XThen.ret ?_
        refine XThen.ret ?_
        refine XBlock.ret ?_
        refine XThen.ret ?_
        refine BodyQ.ret rfl ?_
        rw [gridB_no hrow (by cases hb : rowB (hdRow p).length row with | false => rfl | true => exfalso; simp only [rowB, Bool.and_eq_true, decide_eq_true_eq] at hb; rw [hhd] at hb; omega)]
        rfl
      · try simp only [RL] at h2
        exact absurd h2 (by simp)
  · try simp only [RL] at h
    refine W.exit ?_
    refine XThen.exit ?_
    refine XThen.exit ?_
    refine XBlock.hit ?_
    refine XThen.norm ?_
    refine W.seq_region fun K hK => ?_
    simp (disch := omega) only [↓RU, RV, RH, ↓reduceIte, Nat.reduceEqDiff, reduceCtorEq, if_pos, List.append_nil, tyLstring, tystring]
    refine CallR.pc (l6In_pc _ _ _) rfl (.inl rfl) ?_
    simp (disch := omega) only [↓RU, RV, RH, ↓reduceIte, Nat.reduceEqDiff, reduceCtorEq, if_pos, List.append_nil, tyLstring, tystring]
    refine hK _ _ ?_
    clear hK K
    refine W.ret ?_
    refine BodyQ.ret rfl ?_
    have hip : i = p.length := by omega
    rw [hip, List.take_length] at hg
    rw [gridB_yes hg, ← in_nat]
    rfl

theorem l1Names_pc {p : List Txt} (hs : Sm p) : PC Try.prog 118 [eStrs p] (eStrs (names p)) true := by
  have hp := hs.rows
  have hr := hs.cols
  refine PC.of ⟨Try.func118, by kernel_rfl, rfl, by kernel_rfl⟩ tabOk mixed (by show 1 ≤ Try.f118.ntmps; decide) ?_
  refine W.seq_region fun K hK => ?_
  simp (disch := omega) only [↓RU, RV, RH, ↓reduceIte, Nat.reduceEqDiff, reduceCtorEq, if_pos, ↓RS, RG, Nat.reduceAdd, Nat.reduceMul, Nat.reduceLeDiff]
  refine hK _ _ ?_
  clear hK K
  refine W.seq_region fun K hK => ?_
  simp (disch := omega) only [↓RU, RV, RH, ↓reduceIte, Nat.reduceEqDiff, reduceCtorEq, if_pos, ↓RS, RG, Nat.reduceAdd, Nat.reduceMul, Nat.reduceLeDiff, tyLuint8, tyuint8]
  refine hK _ _ ?_
  clear hK K
  refine W.seq_region fun K hK => ?_
  simp (disch := omega) only [↓RU, RV, RH, ↓reduceIte, Nat.reduceEqDiff, reduceCtorEq, if_pos, ↓RS, RG, Nat.reduceAdd, Nat.reduceMul, Nat.reduceLeDiff, tyLstring, tystring]
  refine hK _ _ ?_
  clear hK K
  refine W.seq ?_
  refine W.seq_region fun K hK => ?_
  simp (disch := omega) only [↓RU, RV, RH, ↓reduceIte, Nat.reduceEqDiff, reduceCtorEq, if_pos, ↓RS, RG, Nat.reduceAdd, Nat.reduceMul, Nat.reduceLeDiff]
  refine hK _ _ ?_
  clear hK K
  refine W.block ?_
  refine W.loop [0, 3, 4, 5] (fun n vs S => ∃ i v0 v1 tk : Nat, n = p.length - i ∧ i ≤ p.length ∧ vs = [eStrs p, .loc 0 v0 0 (allSt p i).1.length, .loc 1 v1 0 (allSt p i).2.length, .int .i64 i] ∧ S = ⟨[.arr v0 5 1 ((allSt p i).1.map eB), .arr v1 9 1 ((allSt p i).2.map .str)], tk⟩) (p.length) ?_ ?_
  · refine ⟨2, 0, 0, 1, 2, rfl, Nat.zero_le _, ?_, rfl⟩
    simp [Env.put, Env.of, argEnv, allSt]
  rintro n vs S - ⟨i, v0, v1, tk, rfl, h_i, rfl, rfl⟩
  refine W.seq ?_
  refine W.seq_region fun K hK => ?_
  simp (disch := omega) only [↓RU, RV, RH, ↓reduceIte, Nat.reduceEqDiff, reduceCtorEq, if_pos, w64, ↓RS, RG, Nat.reduceAdd, Nat.reduceMul, Nat.reduceLeDiff, tyLstring, tyint, tystring]
  refine hK _ _ ?_
  clear hK K
  refine W.cond rfl (fun h => ?_) (fun h => ?_)
  · try simp only [RL] at h
    obtain ⟨row, hrow, hrm⟩ := get_of (show i < p.length by omega)
    have hrl := hr row hrm
    have hal := allSt_len hs.2 h_i
    have hs1 := hs.1
    refine W.skip ?_
    refine XThen.norm ?_
    refine W.seq ?_
    refine W.block ?_
    refine W.seq_region fun K hK => ?_
    simp (disch := omega) only [↓RU, RV, RH, ↓reduceIte, Nat.reduceEqDiff, reduceCtorEq, if_pos, ↓RS, RG, Nat.reduceAdd, Nat.reduceMul, Nat.reduceLeDiff, tyLuint8, tyuint8]
    refine hK _ _ ?_
    clear hK K
    refine W.seq ?_
    refine W.seq_region fun K hK => ?_
    simp (disch := omega) only [↓RU, RV, RH, ↓reduceIte, Nat.reduceEqDiff, reduceCtorEq, if_pos, ↓RS, RG, Nat.reduceAdd, Nat.reduceMul, Nat.reduceLeDiff]
    refine hK _ _ ?_
    clear hK K
    refine W.block ?_
    refine W.loop [0, 3, 4, 5, 6, 7] (fun n vs S => ∃ k v0 v2 tk : Nat, n = row.length - k ∧ k ≤ row.length ∧ vs = [eStrs p, .loc 0 v0 0 (rowSt (allSt p i).1 row k).1.length, .loc 1 v1 0 (allSt p i).2.length, .int .i64 i, .loc 2 v2 0 (rowSt (allSt p i).1 row k).2.length, .int .i64 k] ∧ S = ⟨[.arr v0 5 1 ((rowSt (allSt p i).1 row k).1.map eB), .arr v1 9 1 ((allSt p i).2.map .str), .arr v2 5 1 ((rowSt (allSt p i).1 row k).2.map eB)], tk⟩) (row.length) ?_ ?_
    · refine ⟨3, 0, v0, tk, tk + 1, rfl, Nat.zero_le _, ?_, rfl⟩
      simp [Env.put, Env.of, argEnv, rowSt]
    rintro n vs S - ⟨k, v0, v2, tk, rfl, h_k, rfl, rfl⟩
    refine W.seq ?_
    refine W.seq_region fun K hK => ?_
    simp (disch := omega) only [↓RU, RV, RH, ↓reduceIte, Nat.reduceEqDiff, reduceCtorEq, if_pos, w64, ↓RS, RG, Nat.reduceAdd, Nat.reduceMul, Nat.reduceLeDiff, tyLstring, tyint, tystring, hrow]
    refine hK _ _ ?_
    clear hK K
    refine W.cond rfl (fun h1 => ?_) (fun h1 => ?_)
    · try simp only [RL] at h1
      obtain ⟨c, hc, -⟩ := get_of (show k < row.length by omega)
      have hcl := c.toNat_lt
      have hrs := rowSt_len (o := (allSt p i).1) h_k
      generalize hst : rowSt (allSt p i).1 row k = st at hrs ⊢
      refine W.skip ?_
      refine XThen.norm ?_
      refine W.seq ?_
      refine W.block ?_
      refine W.seq_region fun K hK => ?_
      simp (disch := omega) only [↓RU, RV, RH, ↓reduceIte, Nat.reduceEqDiff, reduceCtorEq, if_pos, ↓RS, RG, Nat.reduceAdd, Nat.reduceMul, Nat.reduceLeDiff]
      refine hK _ _ ?_
      clear hK K
      refine W.seq ?_
      refine W.block ?_
      refine W.loop [0, 3, 4, 5, 6, 7, 8] (fun n vs S => ∃ a : Nat, n = st.1.length - a ∧ a ≤ st.1.length ∧ (∀ j, j < a → st.1[j]? ≠ some c) ∧ vs = [eStrs p, .loc 0 v0 0 st.1.length, .loc 1 v1 0 (allSt p i).2.length, .int .i64 i, .loc 2 v2 0 st.2.length, .int .i64 k, .int .i64 a] ∧ S = ⟨[.arr v0 5 1 (st.1.map eB), .arr v1 9 1 ((allSt p i).2.map .str), .arr v2 5 1 (st.2.map eB)], tk⟩) (st.1.length) ?_ ?_
      · refine ⟨3, 0, rfl, Nat.zero_le _, fun j hj => absurd hj (Nat.not_lt_zero _), ?_, rfl⟩
        simp [Env.put, Env.of, argEnv]
      rintro n vs S - ⟨a, rfl, h_a, ha, rfl, rfl⟩
      refine W.seq ?_
      refine W.seq_draw (by kernel_rfl) fun K hK => ?_
      cases ho : decide ((a : Int) < (st.1.length : Int))
      · skip
        simp (disch := omega) only [↓RU, RV, RH, ↓reduceIte, Nat.reduceEqDiff, reduceCtorEq, if_pos, w64, ↓RS, RG, Nat.reduceAdd, Nat.reduceMul, Nat.reduceLeDiff, tyLstring, tyLuint8, tyint, tystring, tyuint8, hrow, hc, ho]
        refine hK _ _ ?_
        clear hK K
        refine W.cond rfl (fun h2 => ?_) (fun h2 => ?_)
        · try simp only [RL] at h2
          exact absurd h2 (by simp)
        · try simp only [RL] at h2
          have hal2 : a = st.1.length := by simp at ho; omega
          have hix : st.1.idxOf c = a := idxOf_is ha (.inl hal2)
          refine W.exit ?_
          refine XThen.exit ?_
          refine XThen.exit ?_
          refine XBlock.hit ?_
          refine XThen.norm ?_
          refine W.seq ?_
          refine W.seq_region fun K hK => ?_
          simp (disch := omega) only [↓RU, RV, RH, ↓reduceIte, Nat.reduceEqDiff, reduceCtorEq, if_pos, w64, ↓RS, RG, Nat.reduceAdd, Nat.reduceMul, Nat.reduceLeDiff, tyLuint8, tyint, tyuint8]
          refine hK _ _ ?_
          clear hK K
          refine W.cond rfl (fun h3 => ?_) (fun h3 => ?_)
          · try simp only [RL] at h3
            refine W.region_k fun K hK => ?_
            simp (disch := omega) only [↓RU, RV, RH, ↓reduceIte, Nat.reduceEqDiff, reduceCtorEq, if_pos, ↓RS, RG, Nat.reduceAdd, Nat.reduceMul, Nat.reduceLeDiff, tyLstring, tyLuint8, tystring, tyuint8, hrow, hc]
            refine hK _ _ ?_
            clear hK K
            refine XThen.norm ?_
            refine W.region_k fun K hK => ?_
            simp (disch := omega) only [↓RU, RV, RH, ↓reduceIte, Nat.reduceEqDiff, reduceCtorEq, if_pos, w64, w64, ↓RS, RG, Nat.reduceAdd, Nat.reduceMul, Nat.reduceLeDiff, tyLuint8, tyint, tyuint8, u8_97]
            refine hK _ _ ?_
            clear hK K
            refine XBlock.norm ?_
            refine XThen.norm ?_
            refine W.region_k fun K hK => ?_
            simp (disch := omega) only [↓RU, RV, RH, ↓reduceIte, Nat.reduceEqDiff, reduceCtorEq, if_pos, w64, ↓RS, RG, Nat.reduceAdd, Nat.reduceMul, Nat.reduceLeDiff, tyint]
            refine hK _ _ ?_
            clear hK K
            refine XThen.norm ?_
            refine ⟨row.length - (k + 1), by omega, 3, k + 1, tk + 1, tk + 3, tk + 4, rfl, by omega, ?_, ?_⟩
            all_goals rw [rowSt_succ hc, hst, name_new hix hal2]
            all_goals simp [Env.put, Env.of, take_eq]
          · try simp only [RL] at h3
            simp at ho; omega
      · skip
        obtain ⟨x, hx, -⟩ := get_of (show a < st.1.length by simpa using ho)
        have ho2 : a < st.1.length := by simpa using ho
        simp (disch := omega) only [↓RU, RV, RH, ↓reduceIte, Nat.reduceEqDiff, reduceCtorEq, if_pos, w64, ↓RS, RG, Nat.reduceAdd, Nat.reduceMul, Nat.reduceLeDiff, tyLstring, tyLuint8, tyint, tystring, tyuint8, hrow, hc, ho, hx]
        refine hK _ _ ?_
        clear hK K
        refine W.cond rfl (fun h2 => ?_) (fun h2 => ?_)
        · try simp only [RL] at h2
          refine W.skip ?_
          refine XThen.norm ?_
          refine W.block ?_
          refine W.region_k fun K hK => ?_
          simp (disch := omega) only [↓RU, RV, RH, ↓reduceIte, Nat.reduceEqDiff, reduceCtorEq, if_pos, w64, ↓RS, RG, Nat.reduceAdd, Nat.reduceMul, Nat.reduceLeDiff, tyint]
          refine hK _ _ ?_
          clear hK K
          refine XBlock.norm ?_
          refine XThen.norm ?_
          refine ⟨st.1.length - (a + 1), by omega, 3, a + 1, rfl, by omega, fun j hj => (Nat.lt_succ_iff_lt_or_eq.1 hj).elim (ha j) fun e => by rw [e, hx]; intro e2; exact h2 (by rw [Option.some.inj e2]), ?_, rfl⟩
          simp [Env.put, Env.of]
        · try simp only [RL] at h2
          have hal2 : a < st.1.length := by simpa using ho
          have hix : st.1.idxOf c = a := idxOf_is ha (.inr (by rw [hx, UInt8.toNat_inj.1 (show x.toNat = c.toNat by omega)]))
          refine W.exit ?_
          refine XThen.exit ?_
          refine XThen.exit ?_
          refine XBlock.hit ?_
          refine XThen.norm ?_
          refine W.seq ?_
          refine W.seq_region fun K hK => ?_
          simp (disch := omega) only [↓RU, RV, RH, ↓reduceIte, Nat.reduceEqDiff, reduceCtorEq, if_pos, w64, ↓RS, RG, Nat.reduceAdd, Nat.reduceMul, Nat.reduceLeDiff, tyLuint8, tyint, tyuint8]
          refine hK _ _ ?_
          clear hK K
          refine W.cond rfl (fun h3 => ?_) (fun h3 => ?_)
          · try simp only [RL] at h3
            simp at ho; omega
          · try simp only [RL] at h3
            refine W.skip ?_
            refine XThen.norm ?_
            refine W.region_k fun K hK => ?_
            simp (disch := omega) only [↓RU, RV, RH, ↓reduceIte, Nat.reduceEqDiff, reduceCtorEq, if_pos, w64, w64, ↓RS, RG, Nat.reduceAdd, Nat.reduceMul, Nat.reduceLeDiff, tyLuint8, tyint, tyuint8, u8_97]
            refine hK _ _ ?_
            clear hK K
            refine XBlock.norm ?_
            refine XThen.norm ?_
            refine W.region_k fun K hK => ?_
            simp (disch := omega) only [↓RU, RV, RH, ↓reduceIte, Nat.reduceEqDiff, reduceCtorEq, if_pos, w64, ↓RS, RG, Nat.reduceAdd, Nat.reduceMul, Nat.reduceLeDiff, tyint]
            refine hK _ _ ?_
            clear hK K
            refine XThen.norm ?_
            refine ⟨row.length - (k + 1), by omega, 3, k + 1, v0, tk + 1, tk + 2, rfl, by omega, ?_, ?_⟩
            all_goals rw [rowSt_succ hc, hst, name_old hix hal2]
            all_goals simp [Env.put, Env.of, take_eq]
    · try simp only [RL] at h1
      have hkr : k = row.length := by omega
      subst hkr
      refine W.exit ?_
      refine XThen.exit ?_
      refine XThen.exit ?_
      refine XBlock.hit ?_
      refine XThen.norm ?_
      refine W.region_k fun K hK => ?_
      simp (disch := omega) only [↓RU, RV, RH, ↓reduceIte, Nat.reduceEqDiff, reduceCtorEq, if_pos, w64, ↓RS, RG, Nat.reduceAdd, Nat.reduceMul, Nat.reduceLeDiff, tyLstring, tyLuint8, tystring, tyuint8]
      refine hK _ _ ?_
      clear hK K
      refine XBlock.norm ?_
      refine XThen.norm ?_
      refine W.region_k fun K hK => ?_
      simp (disch := omega) only [↓RU, RV, RH, ↓reduceIte, Nat.reduceEqDiff, reduceCtorEq, if_pos, w64, ↓RS, RG, Nat.reduceAdd, Nat.reduceMul, Nat.reduceLeDiff, tyint]
      refine hK _ _ ?_
      clear hK K
      refine XThen.norm ?_
      refine ⟨p.length - (i + 1), by omega, 2, i + 1, v0, tk + 1, tk + 2, rfl, by omega, ?_, ?_⟩
      all_goals rw [allSt_succ hrow]
      all_goals simp [Env.put, Env.of, take_eq]
  · try simp only [RL] at h
    refine W.exit ?_
    refine XThen.exit ?_
    refine XThen.exit ?_
    refine XBlock.hit ?_
    refine XThen.norm ?_
    refine W.seq_region fun K hK => ?_
    simp (disch := omega) only [↓RU, RV, RH, ↓reduceIte, Nat.reduceEqDiff, reduceCtorEq, if_pos, ↓RS, RG, Nat.reduceAdd, Nat.reduceMul, Nat.reduceLeDiff]
    refine hK _ _ ?_
    clear hK K
    refine W.ret ?_
    refine BodyQ.ret rfl ?_
    have hip : i = p.length := by omega
    subst hip
    rw [allSt_all]
    exact reify_loc (k := 9) rfl (by simp) (mapM_str _)

end Fw
end Go.Proofs.Ytmhcknpjgikgmaa

/-! What a plan is, gone through. -/
namespace Go.Proofs.Ytmhcknpjgikgmaa
namespace Fw
open Go

theorem sPlanIn_pc {p : List Txt} (hs : Sm p) : PC Try.prog 97 [eStrs p] (.bool (planB p)) true := by
  have hp := hs.rows
  have hrb := l1Rooms_bound p
  obtain ⟨R, hR⟩ : ∃ R : Nat, l1Rooms p = R := ⟨_, (Int.toNat_of_nonneg hrb.1).symm⟩
  refine PC.of ⟨Try.func97, by kernel_rfl, rfl, by kernel_rfl⟩ tabOk mixed (by show 1 ≤ Try.f97.ntmps; decide) ?_
  refine W.seq_region fun K hK => ?_
  simp (disch := omega) only [↓RU, RV, RH, ↓reduceIte, Nat.reduceEqDiff, reduceCtorEq, if_pos]
  refine hK _ _ ?_
  clear hK K
  refine W.seq ?_
  refine W.seq_region fun K hK => ?_
  rcases hx : (gridB p, decide (names p = p)) with ⟨_ | _, _ | _⟩
  · skip
    simp only [Prod.mk.injEq] at hx
    obtain ⟨hg, hn⟩ := hx
    simp (disch := omega) only [↓RU, RV, RH, ↓reduceIte, Nat.reduceEqDiff, reduceCtorEq, if_pos, List.append_nil, w64, tyint, hg]
    refine CallR.pc (l1Grid_pc hs) rfl (.inl rfl) ?_
    simp (disch := omega) only [↓RU, RV, RH, ↓reduceIte, Nat.reduceEqDiff, reduceCtorEq, if_pos, List.append_nil, w64, tyint, hg]
    refine hK _ _ ?_
    clear hK K
    refine W.cond rfl (fun h0 => ?_) (fun h0 => ?_)
    · try simp only [RL] at h0
      refine W.seq_region fun K hK => ?_
      simp (disch := omega) only [↓RU, RV, RH, ↓reduceIte, Nat.reduceEqDiff, reduceCtorEq, if_pos]
      refine hK _ _ ?_
      clear hK K
      refine W.ret ?_
      refine XThen.ret ?_
      refine BodyQ.ret rfl ?_
      rw [planB_no (.inl hg)]
      rfl
    · try simp only [RL] at h0
      exact absurd h0 (by simp)
  · skip
    simp only [Prod.mk.injEq] at hx
    obtain ⟨hg, hn⟩ := hx
    simp (disch := omega) only [↓RU, RV, RH, ↓reduceIte, Nat.reduceEqDiff, reduceCtorEq, if_pos, List.append_nil, w64, tyint, hg]
    refine CallR.pc (l1Grid_pc hs) rfl (.inl rfl) ?_
    simp (disch := omega) only [↓RU, RV, RH, ↓reduceIte, Nat.reduceEqDiff, reduceCtorEq, if_pos, List.append_nil, w64, tyint, hg]
    refine hK _ _ ?_
    clear hK K
    refine W.cond rfl (fun h0 => ?_) (fun h0 => ?_)
    · try simp only [RL] at h0
      refine W.seq_region fun K hK => ?_
      simp (disch := omega) only [↓RU, RV, RH, ↓reduceIte, Nat.reduceEqDiff, reduceCtorEq, if_pos]
      refine hK _ _ ?_
      clear hK K
      refine W.ret ?_
      refine XThen.ret ?_
      refine BodyQ.ret rfl ?_
      rw [planB_no (.inl hg)]
      rfl
    · try simp only [RL] at h0
      exact absurd h0 (by simp)
  · skip
    simp only [Prod.mk.injEq] at hx
    obtain ⟨hg, hn⟩ := hx
    simp (disch := omega) only [↓RU, RV, RH, ↓reduceIte, Nat.reduceEqDiff, reduceCtorEq, if_pos, List.append_nil, w64, tyint, hg, hn]
    refine CallR.pc (l1Grid_pc hs) rfl (.inl rfl) ?_
    simp (disch := omega) only [↓RU, RV, RH, ↓reduceIte, Nat.reduceEqDiff, reduceCtorEq, if_pos, List.append_nil, w64, tyint, hg, hn]
    refine CallR.pc (l1Names_pc hs) rfl (.inl rfl) ?_
    simp (disch := omega) only [↓RU, RV, RH, ↓reduceIte, Nat.reduceEqDiff, reduceCtorEq, if_pos, List.append_nil, w64, tyint, hg, hn]
    refine CallR.pc (l1Same_pc hs.names) rfl (.inl rfl) ?_
    simp (disch := omega) only [↓RU, RV, RH, ↓reduceIte, Nat.reduceEqDiff, reduceCtorEq, if_pos, List.append_nil, w64, tyint, hg, hn]
    refine hK _ _ ?_
    clear hK K
    refine W.cond rfl (fun h0 => ?_) (fun h0 => ?_)
    · try simp only [RL] at h0
      refine W.seq_region fun K hK => ?_
      simp (disch := omega) only [↓RU, RV, RH, ↓reduceIte, Nat.reduceEqDiff, reduceCtorEq, if_pos]
      refine hK _ _ ?_
      clear hK K
      refine W.ret ?_
      refine XThen.ret ?_
      refine BodyQ.ret rfl ?_
      rw [planB_no (.inr (.inl hn))]
      rfl
    · try simp only [RL] at h0
      exact absurd h0 (by simp)
  · skip
    simp only [Prod.mk.injEq] at hx
    obtain ⟨hg, hn⟩ := hx
    simp (disch := omega) only [↓RU, RV, RH, ↓reduceIte, Nat.reduceEqDiff, reduceCtorEq, if_pos, List.append_nil, w64, tyint, hg, hn]
    refine CallR.pc (l1Grid_pc hs) rfl (.inl rfl) ?_
    simp (disch := omega) only [↓RU, RV, RH, ↓reduceIte, Nat.reduceEqDiff, reduceCtorEq, if_pos, List.append_nil, w64, tyint, hg, hn]
    refine CallR.pc (l1Names_pc hs) rfl (.inl rfl) ?_
    simp (disch := omega) only [↓RU, RV, RH, ↓reduceIte, Nat.reduceEqDiff, reduceCtorEq, if_pos, List.append_nil, w64, tyint, hg, hn]
    refine CallR.pc (l1Same_pc hs.names) rfl (.inl rfl) ?_
    simp (disch := omega) only [↓RU, RV, RH, ↓reduceIte, Nat.reduceEqDiff, reduceCtorEq, if_pos, List.append_nil, w64, tyint, hg, hn]
    refine CallR.pc (l1Rooms_pc hs) rfl (.inl rfl) ?_
    simp (disch := omega) only [↓RU, RV, RH, ↓reduceIte, Nat.reduceEqDiff, reduceCtorEq, if_pos, List.append_nil, w64, tyint, hg, hn]
    refine hK _ _ ?_
    clear hK K
    refine W.cond rfl (fun h0 => ?_) (fun h0 => ?_)
    · try simp only [RL] at h0
      refine W.seq_region fun K hK => ?_
      simp (disch := omega) only [↓RU, RV, RH, ↓reduceIte, Nat.reduceEqDiff, reduceCtorEq, if_pos]
      refine hK _ _ ?_
      clear hK K
      refine W.ret ?_
      refine XThen.ret ?_
      refine BodyQ.ret rfl ?_
      rw [planB_no (.inr (.inr h0))]
      rfl
    · try simp only [RL] at h0
      have hsm := grid_small hg
      refine W.skip ?_
      refine XThen.norm ?_
      refine W.seq ?_
      refine W.seq_region fun K hK => ?_
      simp (disch := omega) only [↓RU, RV, RH, ↓reduceIte, Nat.reduceEqDiff, reduceCtorEq, if_pos]
      refine hK _ _ ?_
      clear hK K
      refine W.block ?_
      refine W.loop [0, 3] (fun n vs S => ∃ i : Nat, n = R - i ∧ i ≤ R ∧ ((List.range i).all (roomB p) = true) ∧ vs = [eStrs p, .int .i64 i] ∧ S = ⟨[], 0⟩) (R) ?_ ?_
      · refine ⟨0, 0, rfl, Nat.zero_le _, rfl, ?_, rfl⟩
        simp [Env.put, Env.of, argEnv]
      rintro n vs S - ⟨i, rfl, h_i, hi, rfl, rfl⟩
      refine W.seq ?_
      refine W.seq_region fun K hK => ?_
      simp (disch := omega) only [↓RU, RV, RH, ↓reduceIte, Nat.reduceEqDiff, reduceCtorEq, if_pos, List.append_nil, w64, tyint, hR]
      refine CallR.pc (l1Rooms_pc hs) rfl (.inl rfl) ?_
      simp (disch := omega) only [↓RU, RV, RH, ↓reduceIte, Nat.reduceEqDiff, reduceCtorEq, if_pos, List.append_nil, w64, tyint, hR]
      refine hK _ _ ?_
      clear hK K
      refine W.cond rfl (fun h1 => ?_) (fun h1 => ?_)
      · try simp only [RL] at h1
        have hbs := box_small (i : Int) hsm.2.1 hsm.2.2
        refine W.skip ?_
        refine XThen.norm ?_
        refine W.seq ?_
        refine W.block ?_
        refine W.seq_region fun K hK => ?_
        simp (disch := omega) only [↓RU, RV, RH, ↓reduceIte, Nat.reduceEqDiff, reduceCtorEq, if_pos, List.append_nil]
        refine CallR.pc (l1Room_pc hs hsm.1 (i : Int)) rfl (.inl rfl) ?_
        simp (disch := omega) only [↓RU, RV, RH, ↓reduceIte, Nat.reduceEqDiff, reduceCtorEq, if_pos, List.append_nil]
        refine hK _ _ ?_
        clear hK K
        refine W.seq_region fun K hK => ?_
        simp (disch := omega) only [↓RU, RV, RH, ↓reduceIte, Nat.reduceEqDiff, reduceCtorEq, if_pos, List.append_nil, w64, tyint]
        refine CallR.pc (l1Cells_pc hs (by omega) (fun r hr => by have := hsm.2.2 r hr; omega) (i : Int)) rfl (.inl rfl) ?_
        simp (disch := omega) only [↓RU, RV, RH, ↓reduceIte, Nat.reduceEqDiff, reduceCtorEq, if_pos, List.append_nil, w64, tyint]
        refine hK _ _ ?_
        clear hK K
        refine W.cond rfl (fun h2 => ?_) (fun h2 => ?_)
        · try simp only [RL] at h2
          refine W.seq_region fun K hK => ?_
          simp (disch := omega) only [↓RU, RV, RH, ↓reduceIte, Nat.reduceEqDiff, reduceCtorEq, if_pos]
          refine hK _ _ ?_
          clear hK K
          refine W.ret ?_
          refine XBlock.ret ?_
          refine XThen.ret ?_
          refine XThen.ret ?_
          refine XBlock.ret ?_
          refine XThen.ret ?_
          refine BodyQ.ret rfl ?_
          have : (List.range R).all (roomB p) = false := by
            rw [List.all_eq_false]
            exact ⟨i, by simp; omega, by simpa [roomB] using h2⟩
          rw [planB_is hg hn (by omega) hR, this]
          rfl
        · try simp only [RL] at h2
          refine W.skip ?_
          refine XBlock.norm ?_
          refine XThen.norm ?_
          refine W.region_k fun K hK => ?_
          simp (disch := omega) only [↓RU, RV, RH, ↓reduceIte, Nat.reduceEqDiff, reduceCtorEq, if_pos, w64, tyint]
          refine hK _ _ ?_
          clear hK K
          refine XThen.norm ?_
          refine ⟨R - (i + 1), by omega, 0, i + 1, rfl, by omega, by rw [List.range_succ, List.all_append, hi]; simpa [roomB] using h2, ?_, rfl⟩
          simp [Env.put, Env.of]
      · try simp only [RL] at h1
        refine W.exit ?_
        refine XThen.exit ?_
        refine XThen.exit ?_
        refine XBlock.hit ?_
        refine XThen.norm ?_
        refine W.seq_region fun K hK => ?_
        simp (disch := omega) only [↓RU, RV, RH, ↓reduceIte, Nat.reduceEqDiff, reduceCtorEq, if_pos]
        refine hK _ _ ?_
        clear hK K
        refine W.ret ?_
        refine BodyQ.ret rfl ?_
        have hip : i = R := by omega
        rw [hip] at hi
        rw [planB_is hg hn (by omega) hR, hi]
        rfl

theorem l1Given_pc {p : List Txt} (hs : Sm p) (room : Int) : PC Try.prog 76 [eStrs p, .int .i64 room] (.bool (planB p && (decide (0 ≤ room) && decide (room ≤ l1Rooms p - 1)))) true := by
  have hrb := l1Rooms_bound p
  refine PC.of ⟨Try.func76, by kernel_rfl, rfl, by kernel_rfl⟩ tabOk mixed (by show 2 ≤ Try.f76.ntmps; decide) ?_
  refine W.seq_region fun K hK => ?_
  simp (disch := omega) only [↓RU, RV, RH, ↓reduceIte, Nat.reduceEqDiff, reduceCtorEq, if_pos]
  refine hK _ _ ?_
  clear hK K
  refine W.seq_region fun K hK => ?_
  cases hg : planB p
  · skip
    simp (disch := omega) only [↓RU, RV, RH, ↓reduceIte, Nat.reduceEqDiff, reduceCtorEq, if_pos, List.append_nil, w64, tyint, hg]
    refine CallR.pc (sPlanIn_pc hs) rfl (.inl rfl) ?_
    simp (disch := omega) only [↓RU, RV, RH, ↓reduceIte, Nat.reduceEqDiff, reduceCtorEq, if_pos, List.append_nil, w64, tyint, hg]
    refine hK _ _ ?_
    clear hK K
    refine W.ret ?_
    refine BodyQ.ret rfl ?_
    rw [hg]
    rfl
  · skip
    simp (disch := omega) only [↓RU, RV, RH, ↓reduceIte, Nat.reduceEqDiff, reduceCtorEq, if_pos, List.append_nil, w64, tyint, hg]
    refine CallR.pc (sPlanIn_pc hs) rfl (.inl rfl) ?_
    simp (disch := omega) only [↓RU, RV, RH, ↓reduceIte, Nat.reduceEqDiff, reduceCtorEq, if_pos, List.append_nil, w64, tyint, hg]
    refine CallR.pc (l1Rooms_pc hs) rfl (.inl rfl) ?_
    simp (disch := omega) only [↓RU, RV, RH, ↓reduceIte, Nat.reduceEqDiff, reduceCtorEq, if_pos, List.append_nil, w64, tyint, hg]
    refine CallR.pc (l6In_pc _ _ _) rfl (.inl rfl) ?_
    simp (disch := omega) only [↓RU, RV, RH, ↓reduceIte, Nat.reduceEqDiff, reduceCtorEq, if_pos, List.append_nil, w64, tyint, hg]
    refine hK _ _ ?_
    clear hK K
    refine W.ret ?_
    refine BodyQ.ret rfl ?_
    rw [hg]
    rfl

end Fw
end Go.Proofs.Ytmhcknpjgikgmaa
