/- The program's OrderSecond answers as the specification's, for all arguments, and leaves what it should: the statement FnExactOrderSecond. No condition. -/
import Derived.Test.YtcglmbijpjhbmaaGreatJ4
import Derived.Test.YtcglmbijpjhbmaaGreatJ3
import Derived.Test.YtcglmbijpjhbmaaGreatJ2
import Derived.Test.YtcglmbijpjhbmaaGreatJ1
import Derived.Lib.ConvBytes
set_option linter.all false
/-! Orders of a plain plan: each two rooms are in just one. -/
namespace Go.Proofs.YtcglmbijpjhbmaaGreat
namespace Fw
open Go

theorem ptsRow_no {p : List Txt} {i : Nat} : ∀ {w : Nat}, ptsRow p 4 i w = 0 → ∀ k, 1 ≤ k → k < w → meetsAt p i k ≠ 4
  | w + 1, h, k, h1, h2 => by
    have hb := (ptsRow_bound p 4 i w).1
    unfold ptsRow at h
    by_cases e : k = w
    · subst e
      intro q
      rw [if_pos ⟨h1, q⟩] at h
      omega
    · have h0 : ptsRow p 4 i w = 0 := by split at h <;> omega
      exact ptsRow_no h0 k h1 (by omega)
theorem ptsTo_no {p : List Txt} {w : Nat} : ∀ {n : Nat}, ptsTo p 4 w n = 0 → ∀ i, 1 ≤ i → i < n → ptsRow p 4 i w = 0
  | n + 1, h, i, h1, h2 => by
    have hb : 0 ≤ ptsTo p 4 w n := by
      clear h h1 h2
      induction n with
      | zero => simp [ptsTo]
      | succ n ih =>
        have := (ptsRow_bound p 4 n w).1
        unfold ptsTo; split <;> omega
    have hr := (ptsRow_bound p 4 n w).1
    unfold ptsTo at h
    by_cases e : i = n
    · subst e
      rw [if_pos h1] at h
      omega
    · have h0 : ptsTo p 4 w n = 0 := by split at h <;> omega
      exact ptsTo_no h0 i h1 (by omega)
theorem u8_ne {a b : UInt8} (h : (a.toNat : Int) - 97 ≠ (b.toNat : Int) - 97) : a ≠ b := by
  rintro rfl; exact h rfl
/-- Where four letters meet, four rooms do. -/
theorem meets_four {p : List Txt} (hg : gridB p = true) {i k : Nat} (hi : i + 1 < p.length) (hk : k + 1 < (hdRow p).length) (h1 : cellZ p i k ≠ cellZ p i (k + 1)) (h2 : cellZ p i k ≠ cellZ p (i + 1) k) (h3 : cellZ p i k ≠ cellZ p (i + 1) (k + 1))
    (h4 : cellZ p i (k + 1) ≠ cellZ p (i + 1) k) (h5 : cellZ p i (k + 1) ≠ cellZ p (i + 1) (k + 1)) (h6 : cellZ p (i + 1) k ≠ cellZ p (i + 1) (k + 1)) : meetsAt p (i + 1) (k + 1) = 4 := by
  obtain ⟨r1, hr1, -⟩ := get_of (show i < p.length by omega)
  obtain ⟨r2, hr2, -⟩ := get_of hi
  have e1 := grid_row hg hr1
  have e2 := grid_row hg hr2
  obtain ⟨a, ha, -⟩ := get_of (show k < r1.length by omega)
  obtain ⟨b, hb, -⟩ := get_of (show k + 1 < r1.length by omega)
  obtain ⟨c, hc, -⟩ := get_of (show k < r2.length by omega)
  obtain ⟨d, hd, -⟩ := get_of (show k + 1 < r2.length by omega)
  rw [cellZ_is hr1 ha] at h1 h2 h3
  rw [cellZ_is hr1 hb] at h1 h4 h5
  rw [cellZ_is hr2 hc] at h2 h4 h6
  rw [cellZ_is hr2 hd] at h3 h5 h6
  have n1 := u8_ne h1
  have n2 := u8_ne h2
  have n3 := u8_ne h3
  have n4 := u8_ne h4
  have n5 := u8_ne h5
  have n6 := u8_ne h6
  unfold meetsAt
  simp only [Nat.add_sub_cancel, hr1, hr2, ha, hb, hc, hd]
  simp [distTo, newAt, newTo, Ne.symm n1, Ne.symm n2, Ne.symm n3, Ne.symm n4, Ne.symm n5, Ne.symm n6]
theorem cn_cell {p : List Txt} (hp : planB p = true) {i j : Nat} (hi : i < p.length) (hj : j < (hdRow p).length) : (cn (gP p) i j : Int) = cellZ p i j := by
  have hN := plan_named hp
  have := hN.room hi hj
  unfold cn
  rw [hN.cell hi hj]; omega
theorem plan_pl {p : List Txt} (hp : plainB p = true) : Pl (cn (gP p)) p.length (hdRow p).length := by
  have hpl := plain_plan hp
  have hN := plan_named hpl
  have rect : ∀ {i j i' j' : Nat} (k l : Nat), i < p.length → i' < p.length → j < (hdRow p).length → j' < (hdRow p).length → cn (gP p) i j = cn (gP p) i' j' → min i i' ≤ k → k ≤ max i i' → min j j' ≤ l → l ≤ max j j' → cn (gP p) k l = cn (gP p) i j := by
    intro i j i' j' k l h1 h2 h3 h4 e h5 h6 h7 h8
    have e1 := cn_cell hpl h1 h3
    have e2 := cn_cell hpl h2 h4
    have e3 := cn_cell hpl (show k < p.length by omega) (show l < (hdRow p).length by omega)
    obtain ⟨b, hb, q1, -, c1⟩ := plan_rect hpl h1 h3
    obtain ⟨b', hb', q2, -, -⟩ := plan_rect hpl h2 h4
    have e4 : cellZ p i j = cellZ p i' j' := by omega
    rw [e4, hb'] at hb
    obtain rfl := Option.some.inj hb
    have q3 : inB b' k l = true := by
      unfold inB at q1 q2 ⊢
      simp only [Bool.and_eq_true, decide_eq_true_eq] at q1 q2 ⊢
      omega
    have := c1 k l (by omega) (by omega) q3
    omega
  refine ⟨rect, fun {i j} h1 h2 n1 n2 n3 => Classical.byContradiction fun n4 => ?_⟩
  have h0 : points p 4 = 0 := by
    unfold plainB at hp
    simp only [Bool.and_eq_true, decide_eq_true_eq] at hp
    exact hp.2
  have hno := ptsRow_no (ptsTo_no h0 (i + 1) (by omega) h1) (j + 1) (by omega) h2
  have n5 : cn (gP p) i j ≠ cn (gP p) (i + 1) (j + 1) := by
    intro e
    exact n1 (rect i (j + 1) (by omega) h1 (by omega) h2 e (by omega) (by omega) (by omega) (by omega)).symm
  have n6 : cn (gP p) i (j + 1) ≠ cn (gP p) (i + 1) j := by
    intro e
    exact n1 (rect i j (by omega) h1 h2 (by omega) e (by omega) (by omega) (by omega) (by omega))
  have c1 := cn_cell hpl (show i < p.length by omega) (show j < (hdRow p).length by omega)
  have c2 := cn_cell hpl (show i < p.length by omega) h2
  have c3 := cn_cell hpl h1 (show j < (hdRow p).length by omega)
  have c4 := cn_cell hpl h1 h2
  exact hno (meets_four hN.hg h1 h2 (by omega) (by omega) (by omega) (by omega) (by omega) (by omega))
theorem room_cell {p : List Txt} {a : Nat} (ha : a < (rP p).length) : ∃ i j, i < p.length ∧ j < (hdRow p).length ∧ cn (gP p) i j = a := by
  have hi := keys_inv p
  obtain ⟨b, hb, -⟩ := get_of ha
  obtain ⟨v, hv, -⟩ := get_of (show a < (keys p).length by rw [← hi.len]; exact ha)
  obtain ⟨i, j, ⟨hz, hj, hij⟩, -⟩ := (hi.hull a v b hv hb).at_
  have hi2 : i < p.length := by omega
  refine ⟨i, j, hi2, hj, ?_⟩
  unfold cn
  rw [gP_at hi2 hj, hz, Int.toNat_natCast]
  have hlt : ¬ (keys p).idxOf v = (keys p).length := by
    have := List.idxOf_lt_length_iff.2 (List.mem_of_getElem? hv)
    omega
  exact nodup_one hi.nd (idxOf_mem hlt) hv

/-- The orders of a plan. -/
def lfM (p : List Txt) : List (List Bool) := leftG (gP p) p.length (hdRow p).length (rP p).length
def abM (p : List Txt) : List (List Bool) := aboveG (gP p) p.length (hdRow p).length (rP p).length
def Lf (p : List Txt) (a b : Nat) : Prop := getB (lfM p) a b = true
def Ab (p : List Txt) (a b : Nat) : Prop := getB (abM p) a b = true
section
variable {p : List Txt} {a b d : Nat}
theorem Lf.iff (ha : a < (rP p).length) (hb : b < (rP p).length) : Lf p a b ↔ TC (DL (cn (gP p)) p.length (hdRow p).length) a b := left_tc gP_room ha hb
theorem Ab.iff (ha : a < (rP p).length) (hb : b < (rP p).length) : Ab p a b ↔ TC (DU (cn (gP p)) p.length (hdRow p).length) a b := above_tc gP_room ha hb
theorem Lf.trans (ha : a < (rP p).length) (hb : b < (rP p).length) (hd : d < (rP p).length) (h : Lf p a b) (k : Lf p b d) : Lf p a d := by
  rw [Lf.iff ha hd]; exact ((Lf.iff ha hb).1 h).trans ((Lf.iff hb hd).1 k)
theorem Ab.trans (ha : a < (rP p).length) (hb : b < (rP p).length) (hd : d < (rP p).length) (h : Ab p a b) (k : Ab p b d) : Ab p a d := by
  rw [Ab.iff ha hd]; exact ((Ab.iff ha hb).1 h).trans ((Ab.iff hb hd).1 k)
/-- Two ways to put all rooms in a row. -/
theorem plan_orders (hp : plainB p = true) : ∃ f g : Nat → Nat, ∀ a b, a < (rP p).length → b < (rP p).length → (Lf p a b → f a < f b ∧ g a < g b) ∧ (Ab p a b → f a < f b ∧ g b < g a) := by
  have hpl := plan_pl hp
  obtain ⟨f, hf⟩ := order_ex hpl (n := (rP p).length) (fun i j hi hj => cn_lt gP_room hi hj)
  obtain ⟨g, hg⟩ := order_ex2 hpl (n := (rP p).length) (fun i j hi hj => cn_lt gP_room hi hj)
  refine ⟨f, g, fun a b ha hb => ⟨fun h => ?_, fun h => ?_⟩⟩
  · rw [Lf.iff ha hb] at h
    exact ⟨h.rise fun a b k => hf a b (.inl k), h.rise fun a b k => hg a b (.inl k)⟩
  · rw [Ab.iff ha hb] at h
    exact ⟨h.rise fun a b k => hf a b (.inr k), (h.rev (S := fun x y => DU (cn (gP p)) p.length (hdRow p).length y x) fun _ _ k => k).rise fun a b k => hg a b (.inr k)⟩
theorem order_some (hp : plainB p = true) (ha : a < (rP p).length) (hb : b < (rP p).length) (hne : a ≠ b) : Lf p a b ∨ Lf p b a ∨ Ab p a b ∨ Ab p b a := by
  obtain ⟨i, j, h1, h2, e1⟩ := room_cell ha
  obtain ⟨k, l, h3, h4, e2⟩ := room_cell hb
  have := total_ex (plan_pl hp) h1 h2 h3 h4 (by rw [e1, e2]; exact hne)
  rw [e1, e2] at this
  rw [Lf.iff ha hb, Lf.iff hb ha, Ab.iff ha hb, Ab.iff hb ha]
  exact this
end
end Fw
end Go.Proofs.YtcglmbijpjhbmaaGreat

/-! Rooms put in a row by how many are ahead of them. -/
namespace Go.Proofs.YtcglmbijpjhbmaaGreat
namespace Fw
open Go

/-- One place for each room. -/
def putAll (ah : Nat → Nat) (n : Nat) : Nat → List Int
  | 0 => List.replicate n 0
  | a + 1 => (putAll ah n a).set (ah a) (a : Int)
theorem putAll_len {ah : Nat → Nat} {n : Nat} : ∀ k, (putAll ah n k).length = n
  | 0 => by simp [putAll]
  | k + 1 => by simp [putAll, putAll_len k]
theorem putAll_at {ah : Nat → Nat} {n : Nat} (hn : ∀ a, a < n → ah a < n) (hi : ∀ a b, a < n → b < n → ah a = ah b → a = b) : ∀ k, k ≤ n → ∀ a, a < k → (putAll ah n k)[ah a]? = some (a : Int)
  | 0, _, a, h => by omega
  | k + 1, hk, a, h => by
    unfold putAll
    rw [List.getElem?_set, putAll_len]
    by_cases e : a = k
    · subst e; rw [if_pos rfl, if_pos (hn a (by omega))]
    · rw [if_neg fun q => e (hi a k (by omega) (by omega) q.symm)]
      exact putAll_at hn hi k (by omega) a (by omega)
/-- The numbers of the rooms. -/
def rooms (n : Nat) : List Int := (List.range n).map fun i : Nat => (i : Int)
theorem rooms_len {n : Nat} : (rooms n).length = n := by simp [rooms]
theorem mem_rooms {n : Nat} {x : Int} : x ∈ rooms n ↔ 0 ≤ x ∧ x < n := by
  unfold rooms
  rw [List.mem_map]
  constructor
  · rintro ⟨i, hi, rfl⟩; simp at hi; omega
  · rintro ⟨h1, h2⟩; exact ⟨x.toNat, by simp; omega, by omega⟩
theorem rooms_at {n i : Nat} (h : i < n) : (rooms n)[i]? = some (i : Int) := by simp [rooms, h]
theorem rooms_succ {n : Nat} : rooms (n + 1) = rooms n ++ [(n : Int)] := by simp [rooms, List.range_succ]

/-- In a list that goes up, as many are less than a member as stand ahead of it. -/
theorem sorted_idx {z : List Int} {g : Int → Int} (hs : (z.map g).Pairwise (· ≤ ·)) (hd : ∀ (i j : Nat) x y, z[i]? = some x → z[j]? = some y → g x = g y → i = j) {i : Nat} {x : Int} (hx : z[i]? = some x) : z.countP (fun y => decide (g y < g x)) = i := by
  have hil := len_of hx
  have hp := List.pairwise_iff_getElem.1 hs
  have lt : ∀ (a b : Nat) u v, z[a]? = some u → z[b]? = some v → a < b → g u < g v := by
    intro a b u v hu hv hab
    have h1 := len_of hu
    have h2 := len_of hv
    have h3 := hp a b (by simpa using h1) (by simpa using h2) hab
    simp only [List.getElem_map] at h3
    rw [List.getElem?_eq_getElem h1] at hu
    rw [List.getElem?_eq_getElem h2] at hv
    cases hu; cases hv
    rcases Int.lt_or_le (g z[a]) (g z[b]) with q | q
    · exact q
    · have e := hd a b _ _ (List.getElem?_eq_getElem h1) (List.getElem?_eq_getElem h2) (by omega)
      omega
  have e : z = z.take i ++ z.drop i := (List.take_append_drop i z).symm
  have c1 : (z.take i).countP (fun y => decide (g y < g x)) = i := by
    rw [List.countP_eq_length.2]
    · rw [List.length_take]; omega
    · intro y hy
      obtain ⟨j, hj⟩ := List.mem_iff_getElem?.1 hy
      rw [List.getElem?_take] at hj
      split at hj
      · exact decide_eq_true (lt j i y x hj hx (by assumption))
      · cases hj
  have c2 : (z.drop i).countP (fun y => decide (g y < g x)) = 0 := by
    rw [List.countP_eq_zero]
    intro y hy
    obtain ⟨j, hj⟩ := List.mem_iff_getElem?.1 hy
    rw [List.getElem?_drop] at hj
    by_cases q : j = 0
    · subst q; rw [Nat.add_zero, hx] at hj; cases hj; simp
    · have := lt i (i + j) x y hx hj (by omega)
      simp; omega
  rw [e, List.countP_append, c1, c2, Nat.add_zero]
theorem countP_rooms {f : Int → Bool} : ∀ n, (rooms n).countP f = (List.range n).countP fun a : Nat => f (a : Int)
  | 0 => rfl
  | n + 1 => by rw [rooms_succ, List.range_succ, List.countP_append, List.countP_append, countP_rooms n]; rfl
theorem rooms_nodup {n : Nat} : ∀ (i j : Nat) x, (rooms n)[i]? = some x → (rooms n)[j]? = some x → i = j := by
  intro i j x hi hj
  have h1 := len_of hi
  have h2 := len_of hj
  rw [rooms_len] at h1 h2
  rw [rooms_at h1] at hi
  rw [rooms_at h2] at hj
  cases hi; cases hj; rfl
theorem nodup_get {z : List Int} (h : z.Nodup) {i j : Nat} (hi : i < z.length) (hj : j < z.length) (e : z[i] = z[j]) : i = j := by
  unfold List.Nodup at h
  rw [List.pairwise_iff_getElem] at h
  rcases Nat.lt_trichotomy i j with q | q | q
  · exact absurd e (h i j hi hj q)
  · exact q
  · exact absurd e.symm (h j i hj hi q)
theorem nodup_rooms (n : Nat) : (rooms n).Nodup := by
  unfold List.Nodup
  rw [List.pairwise_iff_getElem]
  intro i j hi hj hij e
  have := rooms_nodup i j _ (List.getElem?_eq_getElem hi) (e ▸ List.getElem?_eq_getElem hj)
  omega

section
variable {n : Nat} {f : Nat → Nat}
theorem ahead_inj (hf : ∀ a b, a < n → b < n → f a = f b → a = b) {a b : Nat} (ha : a < n) (hb : b < n) (h : ahead n f a = ahead n f b) : a = b := by
  rcases Nat.lt_trichotomy (f a) (f b) with q | q | q
  · have := ahead_lt (n := n) ha q; omega
  · exact hf a b ha hb q
  · have := ahead_lt (n := n) hb q; omega
/-- The rooms in order are put at their places. -/
theorem sorted_put (hf : ∀ a b, a < n → b < n → f a = f b → a = b) {z : List Int} (hp : z.Perm (rooms n)) (hs : (z.map fun x => ((f x.toNat : Nat) : Int)).Pairwise (· ≤ ·)) : z = putAll (ahead n f) n n := by
  have hl := hp.length_eq
  rw [rooms_len] at hl
  have hm : ∀ x ∈ z, 0 ≤ x ∧ x < n := fun x hx => mem_rooms.1 (hp.mem_iff.1 hx)
  have hd : ∀ (i j : Nat) x y, z[i]? = some x → z[j]? = some y → ((f x.toNat : Nat) : Int) = ((f y.toNat : Nat) : Int) → i = j := by
    intro i j x y hx hy e
    have h1 := hm x (List.mem_of_getElem? hx)
    have h2 := hm y (List.mem_of_getElem? hy)
    have e2 := hf x.toNat y.toNat (by omega) (by omega) (by omega)
    have e3 : x = y := by omega
    subst e3
    have hnd : z.Nodup := hp.nodup_iff.2 (nodup_rooms n)
    have hi := len_of hx
    have hj := len_of hy
    rw [List.getElem?_eq_getElem hi] at hx
    rw [List.getElem?_eq_getElem hj] at hy
    exact nodup_get hnd hi hj ((Option.some.inj hx).trans (Option.some.inj hy).symm)
  apply List.ext_getElem?
  intro i
  by_cases hi : i < n
  · obtain ⟨x, hx, hxm⟩ := get_of (show i < z.length by omega)
    have h1 := hm x hxm
    have e := sorted_idx hs hd hx
    rw [hp.countP_eq, countP_rooms] at e
    have e2 : ahead n f x.toNat = i := by
      unfold ahead
      rw [← e]
      apply List.countP_congr
      intro a ha
      simp
    have := putAll_at (fun a ha => ahead_n (rk := f) ha) (fun a b ha hb h => ahead_inj hf ha hb h) n (Nat.le_refl _) x.toNat (by omega)
    rw [e2] at this
    rw [hx, this, show ((x.toNat : Nat) : Int) = x by omega]
  · rw [List.getElem?_eq_none (by omega), List.getElem?_eq_none (by rw [putAll_len]; omega)]
end
/-- Which room is ahead of which in the first order, and in the second one. -/
def bf1 (p : List Txt) (a b : Nat) : Bool := getB (lfM p) a b || getB (abM p) a b
def bf2 (p : List Txt) (a b : Nat) : Bool := getB (lfM p) a b || getB (abM p) b a
def bfK (p : List Txt) (below : Bool) (a b : Nat) : Bool := if below then bf2 p a b else bf1 p a b
def ahK (p : List Txt) (below : Bool) (a : Nat) : Nat := (List.range (rP p).length).countP fun b => bfK p below b a
theorem bf_rank {p : List Txt} (hp : plainB p = true) (below : Bool) : ∃ f : Nat → Nat, (∀ a b, a < (rP p).length → b < (rP p).length → (bfK p below a b = true ↔ f a < f b)) ∧ ∀ a b, a < (rP p).length → b < (rP p).length → f a = f b → a = b := by
  obtain ⟨f, g, hfg⟩ := plan_orders hp
  have tot := fun a b ha hb hne => order_some (a := a) (b := b) hp ha hb hne
  cases below with
  | false =>
    have h1 : ∀ a b, a < (rP p).length → b < (rP p).length → bfK p false a b = true → f a < f b := by
      intro a b ha hb h
      simp only [bfK, bf1, Bool.false_eq_true, if_false, Bool.or_eq_true] at h
      rcases h with h | h
      · exact ((hfg a b ha hb).1 h).1
      · exact ((hfg a b ha hb).2 h).1
    have h2 : ∀ a b, a < (rP p).length → b < (rP p).length → a ≠ b → bfK p false a b = true ∨ bfK p false b a = true := by
      intro a b ha hb hne
      simp only [bfK, bf1, Bool.false_eq_true, if_false, Bool.or_eq_true]
      rcases tot a b ha hb hne with h | h | h | h
      · exact .inl (.inl h)
      · exact .inr (.inl h)
      · exact .inl (.inr h)
      · exact .inr (.inr h)
    have h3 : ∀ a b, a < (rP p).length → b < (rP p).length → f a = f b → a = b := by
      intro a b ha hb e
      refine Classical.byContradiction fun hne => ?_
      rcases h2 a b ha hb hne with h | h
      · have := h1 a b ha hb h; omega
      · have := h1 b a hb ha h; omega
    refine ⟨f, fun a b ha hb => ⟨h1 a b ha hb, fun h => ?_⟩, h3⟩
    rcases h2 a b ha hb (by rintro rfl; omega) with k | k
    · exact k
    · have := h1 b a hb ha k; omega
  | true =>
    have h1 : ∀ a b, a < (rP p).length → b < (rP p).length → bfK p true a b = true → g a < g b := by
      intro a b ha hb h
      simp only [bfK, bf2, if_true, Bool.or_eq_true] at h
      rcases h with h | h
      · exact ((hfg a b ha hb).1 h).2
      · exact ((hfg b a hb ha).2 h).2
    have h2 : ∀ a b, a < (rP p).length → b < (rP p).length → a ≠ b → bfK p true a b = true ∨ bfK p true b a = true := by
      intro a b ha hb hne
      simp only [bfK, bf2, if_true, Bool.or_eq_true]
      rcases tot a b ha hb hne with h | h | h | h
      · exact .inl (.inl h)
      · exact .inr (.inl h)
      · exact .inr (.inr h)
      · exact .inl (.inr h)
    have h3 : ∀ a b, a < (rP p).length → b < (rP p).length → g a = g b → a = b := by
      intro a b ha hb e
      refine Classical.byContradiction fun hne => ?_
      rcases h2 a b ha hb hne with h | h
      · have := h1 a b ha hb h; omega
      · have := h1 b a hb ha h; omega
    refine ⟨g, fun a b ha hb => ⟨h1 a b ha hb, fun h => ?_⟩, h3⟩
    rcases h2 a b ha hb (by rintro rfl; omega) with k | k
    · exact k
    · have := h1 b a hb ha k; omega
theorem ahK_is {p : List Txt} {below : Bool} {f : Nat → Nat} (hf : ∀ a b, a < (rP p).length → b < (rP p).length → (bfK p below a b = true ↔ f a < f b)) {a : Nat} (ha : a < (rP p).length) : ahK p below a = ahead (rP p).length f a := by
  unfold ahK ahead
  apply List.countP_congr
  intro b hb
  rw [hf b a (by simpa using hb) ha]; simp
theorem putAll_congr {f g : Nat → Nat} {n : Nat} : ∀ k, (∀ a, a < k → f a = g a) → putAll f n k = putAll g n k
  | 0, _ => rfl
  | k + 1, h => by unfold putAll; rw [putAll_congr k fun a ha => h a (by omega), h k (by omega)]
/-- The rooms of a plan in one of the two orders. -/
def srt (p : List Txt) (below : Bool) : List Int := putAll (ahK p below) (rP p).length (rP p).length
theorem srt_len {p : List Txt} {below : Bool} : (srt p below).length = (rP p).length := putAll_len _
theorem srt_is {p : List Txt} {below : Bool} {f : Nat → Nat} (hf : ∀ a b, a < (rP p).length → b < (rP p).length → (bfK p below a b = true ↔ f a < f b)) (hi : ∀ a b, a < (rP p).length → b < (rP p).length → f a = f b → a = b)
    {z : List Int} (hz : z.Perm (rooms (rP p).length)) (hs : (z.map fun x => ((f x.toNat : Nat) : Int)).Pairwise (· ≤ ·)) : z = srt p below := by
  rw [sorted_put hi hz hs]
  exact (putAll_congr _ fun a ha => ahK_is hf ha).symm
end Fw
end Go.Proofs.YtcglmbijpjhbmaaGreat

/-! Plans that are cut, in plain words. -/
namespace Go.Proofs.YtcglmbijpjhbmaaGreat
namespace Fw
open Go

section
variable {p : List Txt} {room : Int} {s : Txt} {t l h w k : Nat}
end
end Fw
end Go.Proofs.YtcglmbijpjhbmaaGreat

/-! Orders of two rooms, gone through. -/
namespace Go.Proofs.YtcglmbijpjhbmaaGreat
namespace Fw
open Go

theorem lf_is {p : List Txt} : leftG (gP p) p.length (w0 (readG p)) (rP p).length = lfM p := by rw [w0_read]; rfl
theorem ab_is {p : List Txt} : aboveG (gP p) p.length (w0 (readG p)) (rP p).length = abM p := by rw [w0_read]; rfl
theorem lfM_sq {p : List Txt} (h : plainI p = true) : Sq (rP p).length (lfM p) := by
  obtain ⟨-, ⟨_, hu⟩, -⟩ := plan_all h
  rw [lf_is] at hu; exact hu.sq
theorem abM_sq {p : List Txt} (h : plainI p = true) : Sq (rP p).length (abM p) := by
  obtain ⟨-, -, ⟨_, hu⟩⟩ := plan_all h
  rw [ab_is] at hu; exact hu.sq

theorem ordersOf_no {p : List Txt} (hs : Sm p) (hv : plainI p = false) : PC Tryz.prog 74 [eStrs p] (.tup [.agg [.sl [] 0, .sl [] 0], .bool false]) false := by
  obtain ⟨x, hx, hxy, hxr⟩ := plainOf_ex hs
  refine PC.of ⟨Tryz.func74, by kernel_rfl, rfl, by kernel_rfl⟩ tabOk mixed (by show 1 ≤ Tryz.f74.ntmps; decide) ?_
  refine W.seq_region fun K hK => ?_
  simp (disch := omega) only [↓RU, RV, RH, ↓reduceIte, Nat.reduceEqDiff, reduceCtorEq, if_pos, ↓RS, RG, Nat.reduceAdd, Nat.reduceMul, Nat.reduceLeDiff, tyLLbool, tyLbool, tybool, tyimpl_orders, tyimpl_relation, tystruct_left_impl_relation_above_impl_relation_]
  refine hK _ _ ?_
  clear hK K
  refine W.seq_region fun K hK => ?_
  simp (disch := omega) only [↓RU, RV, RH, ↓reduceIte, Nat.reduceEqDiff, reduceCtorEq, if_pos, List.append_nil, ↓RS, RG, Nat.reduceAdd, Nat.reduceMul, Nat.reduceLeDiff, hv]
  refine CallR.pc (hx) rfl (.inr rfl) ?_
  simp (disch := omega) only [↓RU, RV, RH, ↓reduceIte, Nat.reduceEqDiff, reduceCtorEq, if_pos, List.append_nil, ↓RS, RG, Nat.reduceAdd, Nat.reduceMul, Nat.reduceLeDiff, hv]
  refine hK _ _ ?_
  clear hK K
  refine W.seq ?_
  refine W.seq_region fun K hK => ?_
  simp (disch := omega) only [↓RU, RV, RH, ↓reduceIte, Nat.reduceEqDiff, reduceCtorEq, if_pos, ↓RS, RG, Nat.reduceAdd, Nat.reduceMul, Nat.reduceLeDiff]
  refine hK _ _ ?_
  clear hK K
  refine W.cond rfl (fun h => ?_) (fun h => ?_)
  · try simp only [RL] at h
    refine W.seq_region fun K hK => ?_
    simp (disch := omega) only [↓RU, RV, RH, ↓reduceIte, Nat.reduceEqDiff, reduceCtorEq, if_pos, ↓RS, RG, Nat.reduceAdd, Nat.reduceMul, Nat.reduceLeDiff, tyLLbool, tyLbool, tybool, tyimpl_orders, tyimpl_relation, tystruct_left_impl_relation_above_impl_relation_]
    refine hK _ _ ?_
    clear hK K
    refine W.ret ?_
    refine XThen.ret ?_
    refine BodyQ.ret rfl ?_
    rfl
  · try simp only [RL] at h
    exact absurd h (by simp)

theorem ordersOf_yes {p : List Txt} (hs : Sm p) (hv : plainI p = true) : PC Tryz.prog 74 [eStrs p] (.tup [(.agg [eRel (lfM p), eRel (abM p)]), .bool true]) false := by
  obtain ⟨x, hx, hxy, hxr⟩ := plainOf_ex hs
  obtain rfl := hxy hv
  obtain ⟨hrm, -, -⟩ := plan_all hv
  have hok := (plain_okB hv).1
  have hg := okB_gw hok
  have hn9 := okB_rooms hok
  have hn1 := okB_rooms1 hok
  refine PC.of ⟨Tryz.func74, by kernel_rfl, rfl, by kernel_rfl⟩ tabOk mixed (by show 1 ≤ Tryz.f74.ntmps; decide) ?_
  refine W.seq_region fun K hK => ?_
  simp (disch := omega) only [↓RU, RV, RH, ↓reduceIte, Nat.reduceEqDiff, reduceCtorEq, if_pos, ↓RS, RG, Nat.reduceAdd, Nat.reduceMul, Nat.reduceLeDiff, tyLLbool, tyLbool, tybool, tyimpl_orders, tyimpl_relation, tystruct_left_impl_relation_above_impl_relation_]
  refine hK _ _ ?_
  clear hK K
  refine W.seq_region fun K hK => ?_
  simp (disch := omega) only [↓RU, RV, RH, ↓reduceIte, Nat.reduceEqDiff, reduceCtorEq, if_pos, List.append_nil, ↓RS, RG, Nat.reduceAdd, Nat.reduceMul, Nat.reduceLeDiff, hv]
  refine CallR.pc (hx) rfl (.inr rfl) ?_
  simp (disch := omega) only [↓RU, RV, RH, ↓reduceIte, Nat.reduceEqDiff, reduceCtorEq, if_pos, List.append_nil, ↓RS, RG, Nat.reduceAdd, Nat.reduceMul, Nat.reduceLeDiff, hv]
  refine hK _ _ ?_
  clear hK K
  refine W.seq ?_
  refine W.seq_region fun K hK => ?_
  simp (disch := omega) only [↓RU, RV, RH, ↓reduceIte, Nat.reduceEqDiff, reduceCtorEq, if_pos, ↓RS, RG, Nat.reduceAdd, Nat.reduceMul, Nat.reduceLeDiff]
  refine hK _ _ ?_
  clear hK K
  refine W.cond rfl (fun h => ?_) (fun h => ?_)
  · try simp only [RL] at h
    exact absurd h (by simp)
  · try simp only [RL] at h
    refine W.skip ?_
    refine XThen.norm ?_
    refine W.seq_region fun K hK => ?_
    simp (disch := omega) only [↓RU, RV, RH, ↓reduceIte, Nat.reduceEqDiff, reduceCtorEq, if_pos, List.append_nil, ↓RS, RG, Nat.reduceAdd, Nat.reduceMul, Nat.reduceLeDiff, tyLLbool, tyLbool, tybool, tyimpl_orders, tyimpl_relation, tystruct_left_impl_relation_above_impl_relation_]
    refine CallR.pc (orders_pc hg rfl hn9 hrm) rfl (.inl rfl) ?_
    simp (disch := omega) only [↓RU, RV, RH, ↓reduceIte, Nat.reduceEqDiff, reduceCtorEq, if_pos, List.append_nil, ↓RS, RG, Nat.reduceAdd, Nat.reduceMul, Nat.reduceLeDiff, tyLLbool, tyLbool, tybool, tyimpl_orders, tyimpl_relation, tystruct_left_impl_relation_above_impl_relation_]
    refine hK _ _ ?_
    clear hK K
    refine W.ret ?_
    refine BodyQ.ret rfl ?_
    rw [lf_is, ab_is]
    rfl

end Fw
end Go.Proofs.YtcglmbijpjhbmaaGreat

/-! Sorting by a function, gone through. -/
namespace Go.Proofs.YtcglmbijpjhbmaaGreat
namespace Fw
open Go

theorem insortF_ev {F R : List Ob} {ver t : Nat} {l : List Int} {f : FuncId} {cs : List PV} {cm : Int → Int → Int} {g : Int → Int} (hf : ∀ x y, x ∈ l → y ∈ l → PC Tryz.prog f [.int .i64 x, .int .i64 y, .ip cs 0] (.int .i64 (cm x y)) true) (hg : ∀ x y, x ∈ l → y ∈ l → (cm x y < 0 ↔ g x < g y)) (hl : l.length < 2147483648) (h1 : 1 ≤ l.length) : Ev Tryz.prog 154 [.loc F.length ver 0 l.length, .int .i64 0, .int .i64 l.length, .fn f [.ip cs 0]] ⟨F ++ .arr ver 3 1 (l.map (.int .i64)) :: R, t⟩ fun v S => v = .tup [] ∧ ∃ z : List Int, z.Perm l ∧ (z.map g).Pairwise (· ≤ ·) ∧ S = ⟨F ++ .arr ver 3 1 (z.map (.int .i64)) :: R, t⟩ := by
  refine Ev.of ⟨Tryz.func154, by kernel_rfl, rfl, by kernel_rfl⟩ tabOk mixed (by show 4 ≤ Tryz.f154.ntmps; decide) ?_
  refine W.seq_region fun K hK => ?_
  simp (disch := omega) only [↓RU, RV, RH, ↓reduceIte, Nat.reduceEqDiff, reduceCtorEq, if_pos, w64, ↓RS, RG, Nat.reduceAdd, Nat.reduceMul, Nat.reduceLeDiff, tyint, gF, setF]
  refine hK _ _ ?_
  clear hK K
  refine W.block ?_
  refine W.loop [0, 1, 2, 3, 8] (fun n vs S => ∃ (i : Nat) (c : List Int), n = l.length - i ∧ 1 ≤ i ∧ i ≤ l.length ∧ c.Perm l ∧ Ord (c.map g) i ∧ vs = [.loc F.length ver 0 l.length, .int .i64 0, .int .i64 l.length, .fn f [.ip cs 0], .int .i64 i] ∧ S = ⟨F ++ .arr ver 3 1 (c.map (.int .i64)) :: R, t⟩) (l.length - 1) ?_ ?_
  · refine ⟨_, 1, l, rfl, Nat.le_refl _, h1, List.Perm.refl _, Ord.one _, ?_, take_all⟩
    simp [Env.put, Env.of, argEnv]
  rintro n vs S - ⟨i, c, rfl, hi1, h_i, hp, ho, rfl, rfl⟩
  refine W.seq ?_
  refine W.seq_region fun K hK => ?_
  simp (disch := omega) only [↓RU, RV, RH, ↓reduceIte, Nat.reduceEqDiff, reduceCtorEq, if_pos, w64, ↓RS, RG, Nat.reduceAdd, Nat.reduceMul, Nat.reduceLeDiff, tyint, gF, setF]
  refine hK _ _ ?_
  clear hK K
  refine W.cond rfl (fun h => ?_) (fun h => ?_)
  · try simp only [RL] at h
    refine W.skip ?_
    refine XThen.norm ?_
    refine W.seq ?_
    refine W.block ?_
    refine W.seq_region fun K hK => ?_
    simp (disch := omega) only [↓RU, RV, RH, ↓reduceIte, Nat.reduceEqDiff, reduceCtorEq, if_pos, ↓RS, RG, Nat.reduceAdd, Nat.reduceMul, Nat.reduceLeDiff, gF, setF]
    refine hK _ _ ?_
    clear hK K
    refine W.block ?_
    refine W.loop [0, 1, 2, 3, 8, 9] (fun n vs S => ∃ (j : Nat) (d : List Int), n = j + 1 ∧ j ≤ i ∧ d.Perm l ∧ InsO (d.map g) j i ∧ vs = [.loc F.length ver 0 l.length, .int .i64 0, .int .i64 l.length, .fn f [.ip cs 0], .int .i64 i, .int .i64 j] ∧ S = ⟨F ++ .arr ver 3 1 (d.map (.int .i64)) :: R, t⟩) (i + 1) ?_ ?_
    · refine ⟨_, i, c, rfl, Nat.le_refl _, hp, ho.ins, ?_, take_all⟩
      simp [Env.put, Env.of]
    rintro n vs S - ⟨j, d, rfl, h_j, hq, hO, rfl, rfl⟩
    refine W.seq ?_
    refine W.seq_draw (by kernel_rfl) fun K hK => ?_
    cases hd : decide ((j : Int) > 0)
    · skip
      obtain rfl : j = 0 := by simpa using hd
      simp (disch := omega) only [↓RU, RV, RH, ↓reduceIte, Nat.reduceEqDiff, reduceCtorEq, if_pos, w64, List.append_nil, ↓RS, RG, Nat.reduceAdd, Nat.reduceMul, Nat.reduceLeDiff, tyLint, tyint, gF, setF, hd]
      refine hK _ _ ?_
      clear hK K
      refine W.cond rfl (fun h2 => ?_) (fun h2 => ?_)
      · try simp only [RL] at h2
        exact absurd h2 (by simp)
      · try simp only [RL] at h2
        have hO2 : Ord (d.map g) (i + 1) := hO.zero
        refine W.exit ?_
        refine XThen.exit ?_
        refine XThen.exit ?_
        refine XBlock.hit ?_
        refine XBlock.norm ?_
        refine XThen.norm ?_
        refine W.region_k fun K hK => ?_
        simp (disch := omega) only [↓RU, RV, RH, ↓reduceIte, Nat.reduceEqDiff, reduceCtorEq, if_pos, w64, ↓RS, RG, Nat.reduceAdd, Nat.reduceMul, Nat.reduceLeDiff, tyint, gF, setF]
        refine hK _ _ ?_
        clear hK K
        refine XThen.norm ?_
        refine ⟨l.length - (i + 1), by omega, _, i + 1, d, rfl, by omega, by omega, hq, hO2, ?_, take_all⟩
        simp [Env.put, Env.of]
    · skip
      have hj0 : j ≠ 0 := by have := of_decide_eq_true hd; omega
      have hdl := hq.length_eq
      obtain ⟨x, hx, hxm⟩ := get_of (show j < d.length by omega)
      obtain ⟨y, hy, hym⟩ := get_of (show j - 1 < d.length by omega)
      have hxl := hq.mem_iff.1 hxm
      have hyl := hq.mem_iff.1 hym
      have hxg : (d.map g)[j]? = some (g x) := by rw [List.getElem?_map, hx]; rfl
      have hyg : (d.map g)[j - 1]? = some (g y) := by rw [List.getElem?_map, hy]; rfl
      simp (disch := omega) only [↓RU, RV, RH, ↓reduceIte, Nat.reduceEqDiff, reduceCtorEq, if_pos, w64, List.append_nil, ↓RS, RG, Nat.reduceAdd, Nat.reduceMul, Nat.reduceLeDiff, tyLint, tyint, gF, setF, hd, hx, hy, toNat_pred]
      refine CallR.pc (hf x y hxl hyl) rfl (.inl rfl) ?_
      simp (disch := omega) only [↓RU, RV, RH, ↓reduceIte, Nat.reduceEqDiff, reduceCtorEq, if_pos, w64, List.append_nil, ↓RS, RG, Nat.reduceAdd, Nat.reduceMul, Nat.reduceLeDiff, tyLint, tyint, gF, setF, hd, hx, hy, toNat_pred]
      refine hK _ _ ?_
      clear hK K
      refine W.cond rfl (fun h2 => ?_) (fun h2 => ?_)
      · try simp only [RL] at h2
        have hjl := len_of hx
        have hsl : (d.set j y).length = d.length := by simp
        refine W.skip ?_
        refine XThen.norm ?_
        refine W.seq ?_
        refine W.block ?_
        refine W.draw_k (by kernel_rfl) fun K hK => ?_
        simp (disch := omega) only [↓RU, RV, RH, ↓reduceIte, Nat.reduceEqDiff, reduceCtorEq, if_pos, w64, ↓RS, RG, Nat.reduceAdd, Nat.reduceMul, Nat.reduceLeDiff, tyLint, tyint, gF, setF, hx, hy, toNat_pred, set_spl, set_int, List.length_set]
        refine hK _ _ ?_
        clear hK K
        refine XBlock.norm ?_
        refine XThen.norm ?_
        refine W.region_k fun K hK => ?_
        simp (disch := omega) only [↓RU, RV, RH, ↓reduceIte, Nat.reduceEqDiff, reduceCtorEq, if_pos, w64, ↓RS, RG, Nat.reduceAdd, Nat.reduceMul, Nat.reduceLeDiff, tyint, gF, setF]
        refine hK _ _ ?_
        clear hK K
        refine XThen.norm ?_
        refine ⟨j - 1 + 1, by omega, _, j - 1, (d.set j y).set (j - 1) x, rfl, by omega, swap_perm hq hx hy, by rw [List.map_set, List.map_set]; exact hO.swap hj0 h_j hxg hyg ((hg x y hxl hyl).1 h2), ?_, take_all⟩
        simp [Env.put, Env.of]; omega
      · try simp only [RL] at h2
        have hO2 : Ord (d.map g) (i + 1) := hO.stop hxg hyg (fun q => h2 ((hg x y hxl hyl).2 q))
        refine W.exit ?_
        refine XThen.exit ?_
        refine XThen.exit ?_
        refine XBlock.hit ?_
        refine XBlock.norm ?_
        refine XThen.norm ?_
        refine W.region_k fun K hK => ?_
        simp (disch := omega) only [↓RU, RV, RH, ↓reduceIte, Nat.reduceEqDiff, reduceCtorEq, if_pos, w64, ↓RS, RG, Nat.reduceAdd, Nat.reduceMul, Nat.reduceLeDiff, tyint, gF, setF]
        refine hK _ _ ?_
        clear hK K
        refine XThen.norm ?_
        refine ⟨l.length - (i + 1), by omega, _, i + 1, d, rfl, by omega, by omega, hq, hO2, ?_, take_all⟩
        simp [Env.put, Env.of]
  · try simp only [RL] at h
    obtain rfl : l.length = i := by omega
    refine W.exit ?_
    refine XThen.exit ?_
    refine XThen.exit ?_
    refine XBlock.hit ?_
    refine BodyQ.norm rfl ?_
    exact ⟨_, rfl, c, hp, (by rw [← hp.length_eq] at ho; exact Ord.pair (by rw [List.length_map]; exact ho)), take_all⟩

theorem len64_1  : PC Tryz.prog 163 [.int .u64 1] (.int .i64 1) true := by
  refine PC.of ⟨Tryz.func163, by kernel_rfl, rfl, by kernel_rfl⟩ tabOk mixed (by show 1 ≤ Tryz.f163.ntmps; decide) ?_
  refine W.seq_region fun K hK => ?_
  simp (disch := omega) only [↓RU, RV, RH, ↓reduceIte, Nat.reduceEqDiff, reduceCtorEq, if_pos]
  refine hK _ _ ?_
  clear hK K
  refine W.seq ?_
  refine W.seq_region fun K hK => ?_
  simp (disch := omega) only [↓RU, RV, RH, ↓reduceIte, Nat.reduceEqDiff, reduceCtorEq, if_pos, w64, tyuint64]
  refine hK _ _ ?_
  clear hK K
  refine W.cond rfl (fun h => ?_) (fun h => ?_)
  · try simp only [RL] at h
    exact absurd h (by decide)
  · try simp only [RL] at h
    refine W.skip ?_
    refine XThen.norm ?_
    refine W.seq ?_
    refine W.seq_region fun K hK => ?_
    simp (disch := omega) only [↓RU, RV, RH, ↓reduceIte, Nat.reduceEqDiff, reduceCtorEq, if_pos, w64, tyuint64]
    refine hK _ _ ?_
    clear hK K
    refine W.cond rfl (fun h1 => ?_) (fun h1 => ?_)
    · try simp only [RL] at h1
      exact absurd h1 (by decide)
    · try simp only [RL] at h1
      refine W.skip ?_
      refine XThen.norm ?_
      refine W.seq ?_
      refine W.seq_region fun K hK => ?_
      simp (disch := omega) only [↓RU, RV, RH, ↓reduceIte, Nat.reduceEqDiff, reduceCtorEq, if_pos, w64, tyuint64]
      refine hK _ _ ?_
      clear hK K
      refine W.cond rfl (fun h2 => ?_) (fun h2 => ?_)
      · try simp only [RL] at h2
        exact absurd h2 (by decide)
      · try simp only [RL] at h2
        refine W.skip ?_
        refine XThen.norm ?_
        refine W.seq_region fun K hK => ?_
        simp (disch := omega) only [↓RU, RV, RH, ↓reduceIte, Nat.reduceEqDiff, reduceCtorEq, if_pos, w64, w64, tyint, tystring, tyuint64, tyuint8]
        refine hK _ _ ?_
        clear hK K
        refine W.ret ?_
        refine BodyQ.ret rfl ?_
        rfl

theorem len_1  : PC Tryz.prog 139 [.int .u64 1] (.int .i64 1) true := by
  refine PC.of ⟨Tryz.func139, by kernel_rfl, rfl, by kernel_rfl⟩ tabOk mixed (by show 1 ≤ Tryz.f139.ntmps; decide) ?_
  refine W.seq_region fun K hK => ?_
  simp (disch := omega) only [↓RU, RV, RH, ↓reduceIte, Nat.reduceEqDiff, reduceCtorEq, if_pos]
  refine hK _ _ ?_
  clear hK K
  refine W.seq ?_
  refine W.cond rfl (fun h => ?_) (fun h => ?_)
  · try simp only [RL] at h
    exact absurd h (by decide)
  · try simp only [RL] at h
    refine W.skip ?_
    refine XThen.norm ?_
    refine W.seq_region fun K hK => ?_
    simp (disch := omega) only [↓RU, RV, RH, ↓reduceIte, Nat.reduceEqDiff, reduceCtorEq, if_pos, List.append_nil]
    refine CallR.pc (len64_1) rfl (.inl rfl) ?_
    simp (disch := omega) only [↓RU, RV, RH, ↓reduceIte, Nat.reduceEqDiff, reduceCtorEq, if_pos, List.append_nil]
    refine hK _ _ ?_
    clear hK K
    refine W.ret ?_
    refine BodyQ.ret rfl ?_
    rfl

theorem len64_2  : PC Tryz.prog 163 [.int .u64 2] (.int .i64 2) true := by
  refine PC.of ⟨Tryz.func163, by kernel_rfl, rfl, by kernel_rfl⟩ tabOk mixed (by show 1 ≤ Tryz.f163.ntmps; decide) ?_
  refine W.seq_region fun K hK => ?_
  simp (disch := omega) only [↓RU, RV, RH, ↓reduceIte, Nat.reduceEqDiff, reduceCtorEq, if_pos]
  refine hK _ _ ?_
  clear hK K
  refine W.seq ?_
  refine W.seq_region fun K hK => ?_
  simp (disch := omega) only [↓RU, RV, RH, ↓reduceIte, Nat.reduceEqDiff, reduceCtorEq, if_pos, w64, tyuint64]
  refine hK _ _ ?_
  clear hK K
  refine W.cond rfl (fun h => ?_) (fun h => ?_)
  · try simp only [RL] at h
    exact absurd h (by decide)
  · try simp only [RL] at h
    refine W.skip ?_
    refine XThen.norm ?_
    refine W.seq ?_
    refine W.seq_region fun K hK => ?_
    simp (disch := omega) only [↓RU, RV, RH, ↓reduceIte, Nat.reduceEqDiff, reduceCtorEq, if_pos, w64, tyuint64]
    refine hK _ _ ?_
    clear hK K
    refine W.cond rfl (fun h1 => ?_) (fun h1 => ?_)
    · try simp only [RL] at h1
      exact absurd h1 (by decide)
    · try simp only [RL] at h1
      refine W.skip ?_
      refine XThen.norm ?_
      refine W.seq ?_
      refine W.seq_region fun K hK => ?_
      simp (disch := omega) only [↓RU, RV, RH, ↓reduceIte, Nat.reduceEqDiff, reduceCtorEq, if_pos, w64, tyuint64]
      refine hK _ _ ?_
      clear hK K
      refine W.cond rfl (fun h2 => ?_) (fun h2 => ?_)
      · try simp only [RL] at h2
        exact absurd h2 (by decide)
      · try simp only [RL] at h2
        refine W.skip ?_
        refine XThen.norm ?_
        refine W.seq_region fun K hK => ?_
        simp (disch := omega) only [↓RU, RV, RH, ↓reduceIte, Nat.reduceEqDiff, reduceCtorEq, if_pos, w64, w64, tyint, tystring, tyuint64, tyuint8]
        refine hK _ _ ?_
        clear hK K
        refine W.ret ?_
        refine BodyQ.ret rfl ?_
        rfl

theorem len_2  : PC Tryz.prog 139 [.int .u64 2] (.int .i64 2) true := by
  refine PC.of ⟨Tryz.func139, by kernel_rfl, rfl, by kernel_rfl⟩ tabOk mixed (by show 1 ≤ Tryz.f139.ntmps; decide) ?_
  refine W.seq_region fun K hK => ?_
  simp (disch := omega) only [↓RU, RV, RH, ↓reduceIte, Nat.reduceEqDiff, reduceCtorEq, if_pos]
  refine hK _ _ ?_
  clear hK K
  refine W.seq ?_
  refine W.cond rfl (fun h => ?_) (fun h => ?_)
  · try simp only [RL] at h
    exact absurd h (by decide)
  · try simp only [RL] at h
    refine W.skip ?_
    refine XThen.norm ?_
    refine W.seq_region fun K hK => ?_
    simp (disch := omega) only [↓RU, RV, RH, ↓reduceIte, Nat.reduceEqDiff, reduceCtorEq, if_pos, List.append_nil]
    refine CallR.pc (len64_2) rfl (.inl rfl) ?_
    simp (disch := omega) only [↓RU, RV, RH, ↓reduceIte, Nat.reduceEqDiff, reduceCtorEq, if_pos, List.append_nil]
    refine hK _ _ ?_
    clear hK K
    refine W.ret ?_
    refine BodyQ.ret rfl ?_
    rfl

theorem len64_3  : PC Tryz.prog 163 [.int .u64 3] (.int .i64 2) true := by
  refine PC.of ⟨Tryz.func163, by kernel_rfl, rfl, by kernel_rfl⟩ tabOk mixed (by show 1 ≤ Tryz.f163.ntmps; decide) ?_
  refine W.seq_region fun K hK => ?_
  simp (disch := omega) only [↓RU, RV, RH, ↓reduceIte, Nat.reduceEqDiff, reduceCtorEq, if_pos]
  refine hK _ _ ?_
  clear hK K
  refine W.seq ?_
  refine W.seq_region fun K hK => ?_
  simp (disch := omega) only [↓RU, RV, RH, ↓reduceIte, Nat.reduceEqDiff, reduceCtorEq, if_pos, w64, tyuint64]
  refine hK _ _ ?_
  clear hK K
  refine W.cond rfl (fun h => ?_) (fun h => ?_)
  · try simp only [RL] at h
    exact absurd h (by decide)
  · try simp only [RL] at h
    refine W.skip ?_
    refine XThen.norm ?_
    refine W.seq ?_
    refine W.seq_region fun K hK => ?_
    simp (disch := omega) only [↓RU, RV, RH, ↓reduceIte, Nat.reduceEqDiff, reduceCtorEq, if_pos, w64, tyuint64]
    refine hK _ _ ?_
    clear hK K
    refine W.cond rfl (fun h1 => ?_) (fun h1 => ?_)
    · try simp only [RL] at h1
      exact absurd h1 (by decide)
    · try simp only [RL] at h1
      refine W.skip ?_
      refine XThen.norm ?_
      refine W.seq ?_
      refine W.seq_region fun K hK => ?_
      simp (disch := omega) only [↓RU, RV, RH, ↓reduceIte, Nat.reduceEqDiff, reduceCtorEq, if_pos, w64, tyuint64]
      refine hK _ _ ?_
      clear hK K
      refine W.cond rfl (fun h2 => ?_) (fun h2 => ?_)
      · try simp only [RL] at h2
        exact absurd h2 (by decide)
      · try simp only [RL] at h2
        refine W.skip ?_
        refine XThen.norm ?_
        refine W.seq_region fun K hK => ?_
        simp (disch := omega) only [↓RU, RV, RH, ↓reduceIte, Nat.reduceEqDiff, reduceCtorEq, if_pos, w64, w64, tyint, tystring, tyuint64, tyuint8]
        refine hK _ _ ?_
        clear hK K
        refine W.ret ?_
        refine BodyQ.ret rfl ?_
        rfl

theorem len_3  : PC Tryz.prog 139 [.int .u64 3] (.int .i64 2) true := by
  refine PC.of ⟨Tryz.func139, by kernel_rfl, rfl, by kernel_rfl⟩ tabOk mixed (by show 1 ≤ Tryz.f139.ntmps; decide) ?_
  refine W.seq_region fun K hK => ?_
  simp (disch := omega) only [↓RU, RV, RH, ↓reduceIte, Nat.reduceEqDiff, reduceCtorEq, if_pos]
  refine hK _ _ ?_
  clear hK K
  refine W.seq ?_
  refine W.cond rfl (fun h => ?_) (fun h => ?_)
  · try simp only [RL] at h
    exact absurd h (by decide)
  · try simp only [RL] at h
    refine W.skip ?_
    refine XThen.norm ?_
    refine W.seq_region fun K hK => ?_
    simp (disch := omega) only [↓RU, RV, RH, ↓reduceIte, Nat.reduceEqDiff, reduceCtorEq, if_pos, List.append_nil]
    refine CallR.pc (len64_3) rfl (.inl rfl) ?_
    simp (disch := omega) only [↓RU, RV, RH, ↓reduceIte, Nat.reduceEqDiff, reduceCtorEq, if_pos, List.append_nil]
    refine hK _ _ ?_
    clear hK K
    refine W.ret ?_
    refine BodyQ.ret rfl ?_
    rfl

theorem len64_4  : PC Tryz.prog 163 [.int .u64 4] (.int .i64 3) true := by
  refine PC.of ⟨Tryz.func163, by kernel_rfl, rfl, by kernel_rfl⟩ tabOk mixed (by show 1 ≤ Tryz.f163.ntmps; decide) ?_
  refine W.seq_region fun K hK => ?_
  simp (disch := omega) only [↓RU, RV, RH, ↓reduceIte, Nat.reduceEqDiff, reduceCtorEq, if_pos]
  refine hK _ _ ?_
  clear hK K
  refine W.seq ?_
  refine W.seq_region fun K hK => ?_
  simp (disch := omega) only [↓RU, RV, RH, ↓reduceIte, Nat.reduceEqDiff, reduceCtorEq, if_pos, w64, tyuint64]
  refine hK _ _ ?_
  clear hK K
  refine W.cond rfl (fun h => ?_) (fun h => ?_)
  · try simp only [RL] at h
    exact absurd h (by decide)
  · try simp only [RL] at h
    refine W.skip ?_
    refine XThen.norm ?_
    refine W.seq ?_
    refine W.seq_region fun K hK => ?_
    simp (disch := omega) only [↓RU, RV, RH, ↓reduceIte, Nat.reduceEqDiff, reduceCtorEq, if_pos, w64, tyuint64]
    refine hK _ _ ?_
    clear hK K
    refine W.cond rfl (fun h1 => ?_) (fun h1 => ?_)
    · try simp only [RL] at h1
      exact absurd h1 (by decide)
    · try simp only [RL] at h1
      refine W.skip ?_
      refine XThen.norm ?_
      refine W.seq ?_
      refine W.seq_region fun K hK => ?_
      simp (disch := omega) only [↓RU, RV, RH, ↓reduceIte, Nat.reduceEqDiff, reduceCtorEq, if_pos, w64, tyuint64]
      refine hK _ _ ?_
      clear hK K
      refine W.cond rfl (fun h2 => ?_) (fun h2 => ?_)
      · try simp only [RL] at h2
        exact absurd h2 (by decide)
      · try simp only [RL] at h2
        refine W.skip ?_
        refine XThen.norm ?_
        refine W.seq_region fun K hK => ?_
        simp (disch := omega) only [↓RU, RV, RH, ↓reduceIte, Nat.reduceEqDiff, reduceCtorEq, if_pos, w64, w64, tyint, tystring, tyuint64, tyuint8]
        refine hK _ _ ?_
        clear hK K
        refine W.ret ?_
        refine BodyQ.ret rfl ?_
        rfl

theorem len_4  : PC Tryz.prog 139 [.int .u64 4] (.int .i64 3) true := by
  refine PC.of ⟨Tryz.func139, by kernel_rfl, rfl, by kernel_rfl⟩ tabOk mixed (by show 1 ≤ Tryz.f139.ntmps; decide) ?_
  refine W.seq_region fun K hK => ?_
  simp (disch := omega) only [↓RU, RV, RH, ↓reduceIte, Nat.reduceEqDiff, reduceCtorEq, if_pos]
  refine hK _ _ ?_
  clear hK K
  refine W.seq ?_
  refine W.cond rfl (fun h => ?_) (fun h => ?_)
  · try simp only [RL] at h
    exact absurd h (by decide)
  · try simp only [RL] at h
    refine W.skip ?_
    refine XThen.norm ?_
    refine W.seq_region fun K hK => ?_
    simp (disch := omega) only [↓RU, RV, RH, ↓reduceIte, Nat.reduceEqDiff, reduceCtorEq, if_pos, List.append_nil]
    refine CallR.pc (len64_4) rfl (.inl rfl) ?_
    simp (disch := omega) only [↓RU, RV, RH, ↓reduceIte, Nat.reduceEqDiff, reduceCtorEq, if_pos, List.append_nil]
    refine hK _ _ ?_
    clear hK K
    refine W.ret ?_
    refine BodyQ.ret rfl ?_
    rfl

theorem len64_5  : PC Tryz.prog 163 [.int .u64 5] (.int .i64 3) true := by
  refine PC.of ⟨Tryz.func163, by kernel_rfl, rfl, by kernel_rfl⟩ tabOk mixed (by show 1 ≤ Tryz.f163.ntmps; decide) ?_
  refine W.seq_region fun K hK => ?_
  simp (disch := omega) only [↓RU, RV, RH, ↓reduceIte, Nat.reduceEqDiff, reduceCtorEq, if_pos]
  refine hK _ _ ?_
  clear hK K
  refine W.seq ?_
  refine W.seq_region fun K hK => ?_
  simp (disch := omega) only [↓RU, RV, RH, ↓reduceIte, Nat.reduceEqDiff, reduceCtorEq, if_pos, w64, tyuint64]
  refine hK _ _ ?_
  clear hK K
  refine W.cond rfl (fun h => ?_) (fun h => ?_)
  · try simp only [RL] at h
    exact absurd h (by decide)
  · try simp only [RL] at h
    refine W.skip ?_
    refine XThen.norm ?_
    refine W.seq ?_
    refine W.seq_region fun K hK => ?_
    simp (disch := omega) only [↓RU, RV, RH, ↓reduceIte, Nat.reduceEqDiff, reduceCtorEq, if_pos, w64, tyuint64]
    refine hK _ _ ?_
    clear hK K
    refine W.cond rfl (fun h1 => ?_) (fun h1 => ?_)
    · try simp only [RL] at h1
      exact absurd h1 (by decide)
    · try simp only [RL] at h1
      refine W.skip ?_
      refine XThen.norm ?_
      refine W.seq ?_
      refine W.seq_region fun K hK => ?_
      simp (disch := omega) only [↓RU, RV, RH, ↓reduceIte, Nat.reduceEqDiff, reduceCtorEq, if_pos, w64, tyuint64]
      refine hK _ _ ?_
      clear hK K
      refine W.cond rfl (fun h2 => ?_) (fun h2 => ?_)
      · try simp only [RL] at h2
        exact absurd h2 (by decide)
      · try simp only [RL] at h2
        refine W.skip ?_
        refine XThen.norm ?_
        refine W.seq_region fun K hK => ?_
        simp (disch := omega) only [↓RU, RV, RH, ↓reduceIte, Nat.reduceEqDiff, reduceCtorEq, if_pos, w64, w64, tyint, tystring, tyuint64, tyuint8]
        refine hK _ _ ?_
        clear hK K
        refine W.ret ?_
        refine BodyQ.ret rfl ?_
        rfl

theorem len_5  : PC Tryz.prog 139 [.int .u64 5] (.int .i64 3) true := by
  refine PC.of ⟨Tryz.func139, by kernel_rfl, rfl, by kernel_rfl⟩ tabOk mixed (by show 1 ≤ Tryz.f139.ntmps; decide) ?_
  refine W.seq_region fun K hK => ?_
  simp (disch := omega) only [↓RU, RV, RH, ↓reduceIte, Nat.reduceEqDiff, reduceCtorEq, if_pos]
  refine hK _ _ ?_
  clear hK K
  refine W.seq ?_
  refine W.cond rfl (fun h => ?_) (fun h => ?_)
  · try simp only [RL] at h
    exact absurd h (by decide)
  · try simp only [RL] at h
    refine W.skip ?_
    refine XThen.norm ?_
    refine W.seq_region fun K hK => ?_
    simp (disch := omega) only [↓RU, RV, RH, ↓reduceIte, Nat.reduceEqDiff, reduceCtorEq, if_pos, List.append_nil]
    refine CallR.pc (len64_5) rfl (.inl rfl) ?_
    simp (disch := omega) only [↓RU, RV, RH, ↓reduceIte, Nat.reduceEqDiff, reduceCtorEq, if_pos, List.append_nil]
    refine hK _ _ ?_
    clear hK K
    refine W.ret ?_
    refine BodyQ.ret rfl ?_
    rfl

theorem len64_6  : PC Tryz.prog 163 [.int .u64 6] (.int .i64 3) true := by
  refine PC.of ⟨Tryz.func163, by kernel_rfl, rfl, by kernel_rfl⟩ tabOk mixed (by show 1 ≤ Tryz.f163.ntmps; decide) ?_
  refine W.seq_region fun K hK => ?_
  simp (disch := omega) only [↓RU, RV, RH, ↓reduceIte, Nat.reduceEqDiff, reduceCtorEq, if_pos]
  refine hK _ _ ?_
  clear hK K
  refine W.seq ?_
  refine W.seq_region fun K hK => ?_
  simp (disch := omega) only [↓RU, RV, RH, ↓reduceIte, Nat.reduceEqDiff, reduceCtorEq, if_pos, w64, tyuint64]
  refine hK _ _ ?_
  clear hK K
  refine W.cond rfl (fun h => ?_) (fun h => ?_)
  · try simp only [RL] at h
    exact absurd h (by decide)
  · try simp only [RL] at h
    refine W.skip ?_
    refine XThen.norm ?_
    refine W.seq ?_
    refine W.seq_region fun K hK => ?_
    simp (disch := omega) only [↓RU, RV, RH, ↓reduceIte, Nat.reduceEqDiff, reduceCtorEq, if_pos, w64, tyuint64]
    refine hK _ _ ?_
    clear hK K
    refine W.cond rfl (fun h1 => ?_) (fun h1 => ?_)
    · try simp only [RL] at h1
      exact absurd h1 (by decide)
    · try simp only [RL] at h1
      refine W.skip ?_
      refine XThen.norm ?_
      refine W.seq ?_
      refine W.seq_region fun K hK => ?_
      simp (disch := omega) only [↓RU, RV, RH, ↓reduceIte, Nat.reduceEqDiff, reduceCtorEq, if_pos, w64, tyuint64]
      refine hK _ _ ?_
      clear hK K
      refine W.cond rfl (fun h2 => ?_) (fun h2 => ?_)
      · try simp only [RL] at h2
        exact absurd h2 (by decide)
      · try simp only [RL] at h2
        refine W.skip ?_
        refine XThen.norm ?_
        refine W.seq_region fun K hK => ?_
        simp (disch := omega) only [↓RU, RV, RH, ↓reduceIte, Nat.reduceEqDiff, reduceCtorEq, if_pos, w64, w64, tyint, tystring, tyuint64, tyuint8]
        refine hK _ _ ?_
        clear hK K
        refine W.ret ?_
        refine BodyQ.ret rfl ?_
        rfl

theorem len_6  : PC Tryz.prog 139 [.int .u64 6] (.int .i64 3) true := by
  refine PC.of ⟨Tryz.func139, by kernel_rfl, rfl, by kernel_rfl⟩ tabOk mixed (by show 1 ≤ Tryz.f139.ntmps; decide) ?_
  refine W.seq_region fun K hK => ?_
  simp (disch := omega) only [↓RU, RV, RH, ↓reduceIte, Nat.reduceEqDiff, reduceCtorEq, if_pos]
  refine hK _ _ ?_
  clear hK K
  refine W.seq ?_
  refine W.cond rfl (fun h => ?_) (fun h => ?_)
  · try simp only [RL] at h
    exact absurd h (by decide)
  · try simp only [RL] at h
    refine W.skip ?_
    refine XThen.norm ?_
    refine W.seq_region fun K hK => ?_
    simp (disch := omega) only [↓RU, RV, RH, ↓reduceIte, Nat.reduceEqDiff, reduceCtorEq, if_pos, List.append_nil]
    refine CallR.pc (len64_6) rfl (.inl rfl) ?_
    simp (disch := omega) only [↓RU, RV, RH, ↓reduceIte, Nat.reduceEqDiff, reduceCtorEq, if_pos, List.append_nil]
    refine hK _ _ ?_
    clear hK K
    refine W.ret ?_
    refine BodyQ.ret rfl ?_
    rfl

theorem len64_7  : PC Tryz.prog 163 [.int .u64 7] (.int .i64 3) true := by
  refine PC.of ⟨Tryz.func163, by kernel_rfl, rfl, by kernel_rfl⟩ tabOk mixed (by show 1 ≤ Tryz.f163.ntmps; decide) ?_
  refine W.seq_region fun K hK => ?_
  simp (disch := omega) only [↓RU, RV, RH, ↓reduceIte, Nat.reduceEqDiff, reduceCtorEq, if_pos]
  refine hK _ _ ?_
  clear hK K
  refine W.seq ?_
  refine W.seq_region fun K hK => ?_
  simp (disch := omega) only [↓RU, RV, RH, ↓reduceIte, Nat.reduceEqDiff, reduceCtorEq, if_pos, w64, tyuint64]
  refine hK _ _ ?_
  clear hK K
  refine W.cond rfl (fun h => ?_) (fun h => ?_)
  · try simp only [RL] at h
    exact absurd h (by decide)
  · try simp only [RL] at h
    refine W.skip ?_
    refine XThen.norm ?_
    refine W.seq ?_
    refine W.seq_region fun K hK => ?_
    simp (disch := omega) only [↓RU, RV, RH, ↓reduceIte, Nat.reduceEqDiff, reduceCtorEq, if_pos, w64, tyuint64]
    refine hK _ _ ?_
    clear hK K
    refine W.cond rfl (fun h1 => ?_) (fun h1 => ?_)
    · try simp only [RL] at h1
      exact absurd h1 (by decide)
    · try simp only [RL] at h1
      refine W.skip ?_
      refine XThen.norm ?_
      refine W.seq ?_
      refine W.seq_region fun K hK => ?_
      simp (disch := omega) only [↓RU, RV, RH, ↓reduceIte, Nat.reduceEqDiff, reduceCtorEq, if_pos, w64, tyuint64]
      refine hK _ _ ?_
      clear hK K
      refine W.cond rfl (fun h2 => ?_) (fun h2 => ?_)
      · try simp only [RL] at h2
        exact absurd h2 (by decide)
      · try simp only [RL] at h2
        refine W.skip ?_
        refine XThen.norm ?_
        refine W.seq_region fun K hK => ?_
        simp (disch := omega) only [↓RU, RV, RH, ↓reduceIte, Nat.reduceEqDiff, reduceCtorEq, if_pos, w64, w64, tyint, tystring, tyuint64, tyuint8]
        refine hK _ _ ?_
        clear hK K
        refine W.ret ?_
        refine BodyQ.ret rfl ?_
        rfl

theorem len_7  : PC Tryz.prog 139 [.int .u64 7] (.int .i64 3) true := by
  refine PC.of ⟨Tryz.func139, by kernel_rfl, rfl, by kernel_rfl⟩ tabOk mixed (by show 1 ≤ Tryz.f139.ntmps; decide) ?_
  refine W.seq_region fun K hK => ?_
  simp (disch := omega) only [↓RU, RV, RH, ↓reduceIte, Nat.reduceEqDiff, reduceCtorEq, if_pos]
  refine hK _ _ ?_
  clear hK K
  refine W.seq ?_
  refine W.cond rfl (fun h => ?_) (fun h => ?_)
  · try simp only [RL] at h
    exact absurd h (by decide)
  · try simp only [RL] at h
    refine W.skip ?_
    refine XThen.norm ?_
    refine W.seq_region fun K hK => ?_
    simp (disch := omega) only [↓RU, RV, RH, ↓reduceIte, Nat.reduceEqDiff, reduceCtorEq, if_pos, List.append_nil]
    refine CallR.pc (len64_7) rfl (.inl rfl) ?_
    simp (disch := omega) only [↓RU, RV, RH, ↓reduceIte, Nat.reduceEqDiff, reduceCtorEq, if_pos, List.append_nil]
    refine hK _ _ ?_
    clear hK K
    refine W.ret ?_
    refine BodyQ.ret rfl ?_
    rfl

theorem len64_8  : PC Tryz.prog 163 [.int .u64 8] (.int .i64 4) true := by
  refine PC.of ⟨Tryz.func163, by kernel_rfl, rfl, by kernel_rfl⟩ tabOk mixed (by show 1 ≤ Tryz.f163.ntmps; decide) ?_
  refine W.seq_region fun K hK => ?_
  simp (disch := omega) only [↓RU, RV, RH, ↓reduceIte, Nat.reduceEqDiff, reduceCtorEq, if_pos]
  refine hK _ _ ?_
  clear hK K
  refine W.seq ?_
  refine W.seq_region fun K hK => ?_
  simp (disch := omega) only [↓RU, RV, RH, ↓reduceIte, Nat.reduceEqDiff, reduceCtorEq, if_pos, w64, tyuint64]
  refine hK _ _ ?_
  clear hK K
  refine W.cond rfl (fun h => ?_) (fun h => ?_)
  · try simp only [RL] at h
    exact absurd h (by decide)
  · try simp only [RL] at h
    refine W.skip ?_
    refine XThen.norm ?_
    refine W.seq ?_
    refine W.seq_region fun K hK => ?_
    simp (disch := omega) only [↓RU, RV, RH, ↓reduceIte, Nat.reduceEqDiff, reduceCtorEq, if_pos, w64, tyuint64]
    refine hK _ _ ?_
    clear hK K
    refine W.cond rfl (fun h1 => ?_) (fun h1 => ?_)
    · try simp only [RL] at h1
      exact absurd h1 (by decide)
    · try simp only [RL] at h1
      refine W.skip ?_
      refine XThen.norm ?_
      refine W.seq ?_
      refine W.seq_region fun K hK => ?_
      simp (disch := omega) only [↓RU, RV, RH, ↓reduceIte, Nat.reduceEqDiff, reduceCtorEq, if_pos, w64, tyuint64]
      refine hK _ _ ?_
      clear hK K
      refine W.cond rfl (fun h2 => ?_) (fun h2 => ?_)
      · try simp only [RL] at h2
        exact absurd h2 (by decide)
      · try simp only [RL] at h2
        refine W.skip ?_
        refine XThen.norm ?_
        refine W.seq_region fun K hK => ?_
        simp (disch := omega) only [↓RU, RV, RH, ↓reduceIte, Nat.reduceEqDiff, reduceCtorEq, if_pos, w64, w64, tyint, tystring, tyuint64, tyuint8]
        refine hK _ _ ?_
        clear hK K
        refine W.ret ?_
        refine BodyQ.ret rfl ?_
        rfl

theorem len_8  : PC Tryz.prog 139 [.int .u64 8] (.int .i64 4) true := by
  refine PC.of ⟨Tryz.func139, by kernel_rfl, rfl, by kernel_rfl⟩ tabOk mixed (by show 1 ≤ Tryz.f139.ntmps; decide) ?_
  refine W.seq_region fun K hK => ?_
  simp (disch := omega) only [↓RU, RV, RH, ↓reduceIte, Nat.reduceEqDiff, reduceCtorEq, if_pos]
  refine hK _ _ ?_
  clear hK K
  refine W.seq ?_
  refine W.cond rfl (fun h => ?_) (fun h => ?_)
  · try simp only [RL] at h
    exact absurd h (by decide)
  · try simp only [RL] at h
    refine W.skip ?_
    refine XThen.norm ?_
    refine W.seq_region fun K hK => ?_
    simp (disch := omega) only [↓RU, RV, RH, ↓reduceIte, Nat.reduceEqDiff, reduceCtorEq, if_pos, List.append_nil]
    refine CallR.pc (len64_8) rfl (.inl rfl) ?_
    simp (disch := omega) only [↓RU, RV, RH, ↓reduceIte, Nat.reduceEqDiff, reduceCtorEq, if_pos, List.append_nil]
    refine hK _ _ ?_
    clear hK K
    refine W.ret ?_
    refine BodyQ.ret rfl ?_
    rfl

theorem len64_9  : PC Tryz.prog 163 [.int .u64 9] (.int .i64 4) true := by
  refine PC.of ⟨Tryz.func163, by kernel_rfl, rfl, by kernel_rfl⟩ tabOk mixed (by show 1 ≤ Tryz.f163.ntmps; decide) ?_
  refine W.seq_region fun K hK => ?_
  simp (disch := omega) only [↓RU, RV, RH, ↓reduceIte, Nat.reduceEqDiff, reduceCtorEq, if_pos]
  refine hK _ _ ?_
  clear hK K
  refine W.seq ?_
  refine W.seq_region fun K hK => ?_
  simp (disch := omega) only [↓RU, RV, RH, ↓reduceIte, Nat.reduceEqDiff, reduceCtorEq, if_pos, w64, tyuint64]
  refine hK _ _ ?_
  clear hK K
  refine W.cond rfl (fun h => ?_) (fun h => ?_)
  · try simp only [RL] at h
    exact absurd h (by decide)
  · try simp only [RL] at h
    refine W.skip ?_
    refine XThen.norm ?_
    refine W.seq ?_
    refine W.seq_region fun K hK => ?_
    simp (disch := omega) only [↓RU, RV, RH, ↓reduceIte, Nat.reduceEqDiff, reduceCtorEq, if_pos, w64, tyuint64]
    refine hK _ _ ?_
    clear hK K
    refine W.cond rfl (fun h1 => ?_) (fun h1 => ?_)
    · try simp only [RL] at h1
      exact absurd h1 (by decide)
    · try simp only [RL] at h1
      refine W.skip ?_
      refine XThen.norm ?_
      refine W.seq ?_
      refine W.seq_region fun K hK => ?_
      simp (disch := omega) only [↓RU, RV, RH, ↓reduceIte, Nat.reduceEqDiff, reduceCtorEq, if_pos, w64, tyuint64]
      refine hK _ _ ?_
      clear hK K
      refine W.cond rfl (fun h2 => ?_) (fun h2 => ?_)
      · try simp only [RL] at h2
        exact absurd h2 (by decide)
      · try simp only [RL] at h2
        refine W.skip ?_
        refine XThen.norm ?_
        refine W.seq_region fun K hK => ?_
        simp (disch := omega) only [↓RU, RV, RH, ↓reduceIte, Nat.reduceEqDiff, reduceCtorEq, if_pos, w64, w64, tyint, tystring, tyuint64, tyuint8]
        refine hK _ _ ?_
        clear hK K
        refine W.ret ?_
        refine BodyQ.ret rfl ?_
        rfl

theorem len_9  : PC Tryz.prog 139 [.int .u64 9] (.int .i64 4) true := by
  refine PC.of ⟨Tryz.func139, by kernel_rfl, rfl, by kernel_rfl⟩ tabOk mixed (by show 1 ≤ Tryz.f139.ntmps; decide) ?_
  refine W.seq_region fun K hK => ?_
  simp (disch := omega) only [↓RU, RV, RH, ↓reduceIte, Nat.reduceEqDiff, reduceCtorEq, if_pos]
  refine hK _ _ ?_
  clear hK K
  refine W.seq ?_
  refine W.cond rfl (fun h => ?_) (fun h => ?_)
  · try simp only [RL] at h
    exact absurd h (by decide)
  · try simp only [RL] at h
    refine W.skip ?_
    refine XThen.norm ?_
    refine W.seq_region fun K hK => ?_
    simp (disch := omega) only [↓RU, RV, RH, ↓reduceIte, Nat.reduceEqDiff, reduceCtorEq, if_pos, List.append_nil]
    refine CallR.pc (len64_9) rfl (.inl rfl) ?_
    simp (disch := omega) only [↓RU, RV, RH, ↓reduceIte, Nat.reduceEqDiff, reduceCtorEq, if_pos, List.append_nil]
    refine hK _ _ ?_
    clear hK K
    refine W.ret ?_
    refine BodyQ.ret rfl ?_
    rfl

theorem pdqF_ev {F R : List Ob} {ver t : Nat} {l : List Int} {f : FuncId} {cs : List PV} {cm : Int → Int → Int} {g : Int → Int} (hf : ∀ x y, x ∈ l → y ∈ l → PC Tryz.prog f [.int .i64 x, .int .i64 y, .ip cs 0] (.int .i64 (cm x y)) true) (hg : ∀ x y, x ∈ l → y ∈ l → (cm x y < 0 ↔ g x < g y)) (hl : l.length ≤ 12) (h1 : 1 ≤ l.length) (lim : Int) : Ev Tryz.prog 138 [.loc F.length ver 0 l.length, .int .i64 0, .int .i64 l.length, .int .i64 lim, .fn f [.ip cs 0]] ⟨F ++ .arr ver 3 1 (l.map (.int .i64)) :: R, t⟩ fun v S => v = .tup [] ∧ ∃ z : List Int, z.Perm l ∧ (z.map g).Pairwise (· ≤ ·) ∧ S = ⟨F ++ .arr ver 3 1 (z.map (.int .i64)) :: R, t⟩ := by
  refine Ev.of ⟨Tryz.func138, by kernel_rfl, rfl, by kernel_rfl⟩ tabOk mixed (by show 5 ≤ Tryz.f138.ntmps; decide) ?_
  refine W.seq_region fun K hK => ?_
  simp (disch := omega) only [↓RU, RV, RH, ↓reduceIte, Nat.reduceEqDiff, reduceCtorEq, if_pos, ↓RS, RG, Nat.reduceAdd, Nat.reduceMul, Nat.reduceLeDiff, gF, setF]
  refine hK _ _ ?_
  clear hK K
  refine W.seq_region fun K hK => ?_
  simp (disch := omega) only [↓RU, RV, RH, ↓reduceIte, Nat.reduceEqDiff, reduceCtorEq, if_pos, ↓RS, RG, Nat.reduceAdd, Nat.reduceMul, Nat.reduceLeDiff, gF, setF]
  refine hK _ _ ?_
  clear hK K
  refine W.block ?_
  refine W.loop [0, 1, 2, 4] (fun n vs S => vs = [.loc F.length ver 0 l.length, .int .i64 0, .int .i64 l.length, .fn f [.ip cs 0]] ∧ S = ⟨F ++ .arr ver 3 1 (l.map (.int .i64)) :: R, t⟩) 0 ?_ ?_
  · refine ⟨_, ?_, take_all⟩
    simp [Env.put, Env.of, argEnv]
  rintro n vs S - ⟨rfl, rfl⟩
  refine W.block ?_
  refine W.seq_region fun K hK => ?_
  simp (disch := omega) only [↓RU, RV, RH, ↓reduceIte, Nat.reduceEqDiff, reduceCtorEq, if_pos, w64, ↓RS, RG, Nat.reduceAdd, Nat.reduceMul, Nat.reduceLeDiff, tyint, gF, setF]
  refine hK _ _ ?_
  clear hK K
  refine W.seq ?_
  refine W.seq_region fun K hK => ?_
  simp (disch := omega) only [↓RU, RV, RH, ↓reduceIte, Nat.reduceEqDiff, reduceCtorEq, if_pos, w64, ↓RS, RG, Nat.reduceAdd, Nat.reduceMul, Nat.reduceLeDiff, tyint, gF, setF]
  refine hK _ _ ?_
  clear hK K
  refine W.cond rfl (fun h => ?_) (fun h => ?_)
  · try simp only [RL] at h
    refine W.seq_region fun K hK => ?_
    simp (disch := omega) only [↓RU, RV, RH, ↓reduceIte, Nat.reduceEqDiff, reduceCtorEq, if_pos, List.append_nil, ↓RS, RG, Nat.reduceAdd, Nat.reduceMul, Nat.reduceLeDiff, gF, setF]
    refine CallR.ev (insortF_ev hf hg (by omega) h1) ?_
    rintro _ _ ⟨rfl, z, hz1, hz2, rfl⟩
    simp (disch := omega) only [↓RU, RV, RH, ↓reduceIte, Nat.reduceEqDiff, reduceCtorEq, if_pos, List.append_nil, ↓RS, RG, Nat.reduceAdd, Nat.reduceMul, Nat.reduceLeDiff, gF, setF]
    refine hK _ _ ?_
    clear hK K
    refine W.ret ?_
    refine XThen.ret ?_
    refine XBlock.ret ?_
    refine XThen.ret ?_
    refine XBlock.ret ?_
    refine BodyQ.ret rfl ?_
    exact ⟨_, rfl, z, hz1, hz2, take_all⟩
  · try simp only [RL] at h
    exact absurd (show (l.length : Int) ≤ 12 by omega) h

theorem sortF_ev {F R : List Ob} {ver t : Nat} {l : List Int} {f : FuncId} {cs : List PV} {cm : Int → Int → Int} {g : Int → Int} (hf : ∀ x y, x ∈ l → y ∈ l → PC Tryz.prog f [.int .i64 x, .int .i64 y, .ip cs 0] (.int .i64 (cm x y)) true) (hg : ∀ x y, x ∈ l → y ∈ l → (cm x y < 0 ↔ g x < g y)) (h9 : l.length ≤ 9) (h1 : 1 ≤ l.length) : Ev Tryz.prog 114 [.loc F.length ver 0 l.length, .fn f [.ip cs 0]] ⟨F ++ .arr ver 3 1 (l.map (.int .i64)) :: R, t⟩ fun v S => v = .tup [] ∧ ∃ z : List Int, z.Perm l ∧ (z.map g).Pairwise (· ≤ ·) ∧ S = ⟨F ++ .arr ver 3 1 (z.map (.int .i64)) :: R, t⟩ := by
  refine Ev.of ⟨Tryz.func114, by kernel_rfl, rfl, by kernel_rfl⟩ tabOk mixed (by show 2 ≤ Tryz.f114.ntmps; decide) ?_
  refine W.seq_region fun K hK => ?_
  simp (disch := omega) only [↓RU, RV, RH, ↓reduceIte, Nat.reduceEqDiff, reduceCtorEq, if_pos, ↓RS, RG, Nat.reduceAdd, Nat.reduceMul, Nat.reduceLeDiff, tyLint, tyint, gF, setF]
  refine hK _ _ ?_
  clear hK K
  refine W.region_k fun K hK => ?_
  obtain hk | hk | hk | hk | hk | hk | hk | hk | hk : l.length = 1 ∨ l.length = 2 ∨ l.length = 3 ∨ l.length = 4 ∨ l.length = 5 ∨ l.length = 6 ∨ l.length = 7 ∨ l.length = 8 ∨ l.length = 9 := by omega
  · skip
    have hw : IntKind.u64.wrap ((l.length : Nat) : Int) = 1 := by rw [hk]; rfl
    simp (disch := omega) only [↓RU, RV, RH, ↓reduceIte, Nat.reduceEqDiff, reduceCtorEq, if_pos, w64, List.append_nil, ↓RS, RG, Nat.reduceAdd, Nat.reduceMul, Nat.reduceLeDiff, tyint, tyuint, gF, setF, hw]
    refine CallR.pc (len_1) rfl (.inl rfl) ?_
    simp (disch := omega) only [↓RU, RV, RH, ↓reduceIte, Nat.reduceEqDiff, reduceCtorEq, if_pos, w64, List.append_nil, ↓RS, RG, Nat.reduceAdd, Nat.reduceMul, Nat.reduceLeDiff, tyint, tyuint, gF, setF, hw]
    refine CallR.ev (pdqF_ev hf hg (by omega) (by omega) 1) ?_
    rintro _ _ ⟨rfl, z, hz1, hz2, rfl⟩
    simp (disch := omega) only [↓RU, RV, RH, ↓reduceIte, Nat.reduceEqDiff, reduceCtorEq, if_pos, w64, List.append_nil, ↓RS, RG, Nat.reduceAdd, Nat.reduceMul, Nat.reduceLeDiff, tyint, tyuint, gF, setF, hw]
    refine hK _ _ ?_
    clear hK K
    refine BodyQ.norm rfl ?_
    exact ⟨_, rfl, z, hz1, hz2, take_all⟩
  · skip
    have hw : IntKind.u64.wrap ((l.length : Nat) : Int) = 2 := by rw [hk]; rfl
    simp (disch := omega) only [↓RU, RV, RH, ↓reduceIte, Nat.reduceEqDiff, reduceCtorEq, if_pos, w64, List.append_nil, ↓RS, RG, Nat.reduceAdd, Nat.reduceMul, Nat.reduceLeDiff, tyint, tyuint, gF, setF, hw]
    refine CallR.pc (len_2) rfl (.inl rfl) ?_
    simp (disch := omega) only [↓RU, RV, RH, ↓reduceIte, Nat.reduceEqDiff, reduceCtorEq, if_pos, w64, List.append_nil, ↓RS, RG, Nat.reduceAdd, Nat.reduceMul, Nat.reduceLeDiff, tyint, tyuint, gF, setF, hw]
    refine CallR.ev (pdqF_ev hf hg (by omega) (by omega) 2) ?_
    rintro _ _ ⟨rfl, z, hz1, hz2, rfl⟩
    simp (disch := omega) only [↓RU, RV, RH, ↓reduceIte, Nat.reduceEqDiff, reduceCtorEq, if_pos, w64, List.append_nil, ↓RS, RG, Nat.reduceAdd, Nat.reduceMul, Nat.reduceLeDiff, tyint, tyuint, gF, setF, hw]
    refine hK _ _ ?_
    clear hK K
    refine BodyQ.norm rfl ?_
    exact ⟨_, rfl, z, hz1, hz2, take_all⟩
  · skip
    have hw : IntKind.u64.wrap ((l.length : Nat) : Int) = 3 := by rw [hk]; rfl
    simp (disch := omega) only [↓RU, RV, RH, ↓reduceIte, Nat.reduceEqDiff, reduceCtorEq, if_pos, w64, List.append_nil, ↓RS, RG, Nat.reduceAdd, Nat.reduceMul, Nat.reduceLeDiff, tyint, tyuint, gF, setF, hw]
    refine CallR.pc (len_3) rfl (.inl rfl) ?_
    simp (disch := omega) only [↓RU, RV, RH, ↓reduceIte, Nat.reduceEqDiff, reduceCtorEq, if_pos, w64, List.append_nil, ↓RS, RG, Nat.reduceAdd, Nat.reduceMul, Nat.reduceLeDiff, tyint, tyuint, gF, setF, hw]
    refine CallR.ev (pdqF_ev hf hg (by omega) (by omega) 2) ?_
    rintro _ _ ⟨rfl, z, hz1, hz2, rfl⟩
    simp (disch := omega) only [↓RU, RV, RH, ↓reduceIte, Nat.reduceEqDiff, reduceCtorEq, if_pos, w64, List.append_nil, ↓RS, RG, Nat.reduceAdd, Nat.reduceMul, Nat.reduceLeDiff, tyint, tyuint, gF, setF, hw]
    refine hK _ _ ?_
    clear hK K
    refine BodyQ.norm rfl ?_
    exact ⟨_, rfl, z, hz1, hz2, take_all⟩
  · skip
    have hw : IntKind.u64.wrap ((l.length : Nat) : Int) = 4 := by rw [hk]; rfl
    simp (disch := omega) only [↓RU, RV, RH, ↓reduceIte, Nat.reduceEqDiff, reduceCtorEq, if_pos, w64, List.append_nil, ↓RS, RG, Nat.reduceAdd, Nat.reduceMul, Nat.reduceLeDiff, tyint, tyuint, gF, setF, hw]
    refine CallR.pc (len_4) rfl (.inl rfl) ?_
    simp (disch := omega) only [↓RU, RV, RH, ↓reduceIte, Nat.reduceEqDiff, reduceCtorEq, if_pos, w64, List.append_nil, ↓RS, RG, Nat.reduceAdd, Nat.reduceMul, Nat.reduceLeDiff, tyint, tyuint, gF, setF, hw]
    refine CallR.ev (pdqF_ev hf hg (by omega) (by omega) 3) ?_
    rintro _ _ ⟨rfl, z, hz1, hz2, rfl⟩
    simp (disch := omega) only [↓RU, RV, RH, ↓reduceIte, Nat.reduceEqDiff, reduceCtorEq, if_pos, w64, List.append_nil, ↓RS, RG, Nat.reduceAdd, Nat.reduceMul, Nat.reduceLeDiff, tyint, tyuint, gF, setF, hw]
    refine hK _ _ ?_
    clear hK K
    refine BodyQ.norm rfl ?_
    exact ⟨_, rfl, z, hz1, hz2, take_all⟩
  · skip
    have hw : IntKind.u64.wrap ((l.length : Nat) : Int) = 5 := by rw [hk]; rfl
    simp (disch := omega) only [↓RU, RV, RH, ↓reduceIte, Nat.reduceEqDiff, reduceCtorEq, if_pos, w64, List.append_nil, ↓RS, RG, Nat.reduceAdd, Nat.reduceMul, Nat.reduceLeDiff, tyint, tyuint, gF, setF, hw]
    refine CallR.pc (len_5) rfl (.inl rfl) ?_
    simp (disch := omega) only [↓RU, RV, RH, ↓reduceIte, Nat.reduceEqDiff, reduceCtorEq, if_pos, w64, List.append_nil, ↓RS, RG, Nat.reduceAdd, Nat.reduceMul, Nat.reduceLeDiff, tyint, tyuint, gF, setF, hw]
    refine CallR.ev (pdqF_ev hf hg (by omega) (by omega) 3) ?_
    rintro _ _ ⟨rfl, z, hz1, hz2, rfl⟩
    simp (disch := omega) only [↓RU, RV, RH, ↓reduceIte, Nat.reduceEqDiff, reduceCtorEq, if_pos, w64, List.append_nil, ↓RS, RG, Nat.reduceAdd, Nat.reduceMul, Nat.reduceLeDiff, tyint, tyuint, gF, setF, hw]
    refine hK _ _ ?_
    clear hK K
    refine BodyQ.norm rfl ?_
    exact ⟨_, rfl, z, hz1, hz2, take_all⟩
  · skip
    have hw : IntKind.u64.wrap ((l.length : Nat) : Int) = 6 := by rw [hk]; rfl
    simp (disch := omega) only [↓RU, RV, RH, ↓reduceIte, Nat.reduceEqDiff, reduceCtorEq, if_pos, w64, List.append_nil, ↓RS, RG, Nat.reduceAdd, Nat.reduceMul, Nat.reduceLeDiff, tyint, tyuint, gF, setF, hw]
    refine CallR.pc (len_6) rfl (.inl rfl) ?_
    simp (disch := omega) only [↓RU, RV, RH, ↓reduceIte, Nat.reduceEqDiff, reduceCtorEq, if_pos, w64, List.append_nil, ↓RS, RG, Nat.reduceAdd, Nat.reduceMul, Nat.reduceLeDiff, tyint, tyuint, gF, setF, hw]
    refine CallR.ev (pdqF_ev hf hg (by omega) (by omega) 3) ?_
    rintro _ _ ⟨rfl, z, hz1, hz2, rfl⟩
    simp (disch := omega) only [↓RU, RV, RH, ↓reduceIte, Nat.reduceEqDiff, reduceCtorEq, if_pos, w64, List.append_nil, ↓RS, RG, Nat.reduceAdd, Nat.reduceMul, Nat.reduceLeDiff, tyint, tyuint, gF, setF, hw]
    refine hK _ _ ?_
    clear hK K
    refine BodyQ.norm rfl ?_
    exact ⟨_, rfl, z, hz1, hz2, take_all⟩
  · skip
    have hw : IntKind.u64.wrap ((l.length : Nat) : Int) = 7 := by rw [hk]; rfl
    simp (disch := omega) only [↓RU, RV, RH, ↓reduceIte, Nat.reduceEqDiff, reduceCtorEq, if_pos, w64, List.append_nil, ↓RS, RG, Nat.reduceAdd, Nat.reduceMul, Nat.reduceLeDiff, tyint, tyuint, gF, setF, hw]
    refine CallR.pc (len_7) rfl (.inl rfl) ?_
    simp (disch := omega) only [↓RU, RV, RH, ↓reduceIte, Nat.reduceEqDiff, reduceCtorEq, if_pos, w64, List.append_nil, ↓RS, RG, Nat.reduceAdd, Nat.reduceMul, Nat.reduceLeDiff, tyint, tyuint, gF, setF, hw]
    refine CallR.ev (pdqF_ev hf hg (by omega) (by omega) 3) ?_
    rintro _ _ ⟨rfl, z, hz1, hz2, rfl⟩
    simp (disch := omega) only [↓RU, RV, RH, ↓reduceIte, Nat.reduceEqDiff, reduceCtorEq, if_pos, w64, List.append_nil, ↓RS, RG, Nat.reduceAdd, Nat.reduceMul, Nat.reduceLeDiff, tyint, tyuint, gF, setF, hw]
    refine hK _ _ ?_
    clear hK K
    refine BodyQ.norm rfl ?_
    exact ⟨_, rfl, z, hz1, hz2, take_all⟩
  · skip
    have hw : IntKind.u64.wrap ((l.length : Nat) : Int) = 8 := by rw [hk]; rfl
    simp (disch := omega) only [↓RU, RV, RH, ↓reduceIte, Nat.reduceEqDiff, reduceCtorEq, if_pos, w64, List.append_nil, ↓RS, RG, Nat.reduceAdd, Nat.reduceMul, Nat.reduceLeDiff, tyint, tyuint, gF, setF, hw]
    refine CallR.pc (len_8) rfl (.inl rfl) ?_
    simp (disch := omega) only [↓RU, RV, RH, ↓reduceIte, Nat.reduceEqDiff, reduceCtorEq, if_pos, w64, List.append_nil, ↓RS, RG, Nat.reduceAdd, Nat.reduceMul, Nat.reduceLeDiff, tyint, tyuint, gF, setF, hw]
    refine CallR.ev (pdqF_ev hf hg (by omega) (by omega) 4) ?_
    rintro _ _ ⟨rfl, z, hz1, hz2, rfl⟩
    simp (disch := omega) only [↓RU, RV, RH, ↓reduceIte, Nat.reduceEqDiff, reduceCtorEq, if_pos, w64, List.append_nil, ↓RS, RG, Nat.reduceAdd, Nat.reduceMul, Nat.reduceLeDiff, tyint, tyuint, gF, setF, hw]
    refine hK _ _ ?_
    clear hK K
    refine BodyQ.norm rfl ?_
    exact ⟨_, rfl, z, hz1, hz2, take_all⟩
  · skip
    have hw : IntKind.u64.wrap ((l.length : Nat) : Int) = 9 := by rw [hk]; rfl
    simp (disch := omega) only [↓RU, RV, RH, ↓reduceIte, Nat.reduceEqDiff, reduceCtorEq, if_pos, w64, List.append_nil, ↓RS, RG, Nat.reduceAdd, Nat.reduceMul, Nat.reduceLeDiff, tyint, tyuint, gF, setF, hw]
    refine CallR.pc (len_9) rfl (.inl rfl) ?_
    simp (disch := omega) only [↓RU, RV, RH, ↓reduceIte, Nat.reduceEqDiff, reduceCtorEq, if_pos, w64, List.append_nil, ↓RS, RG, Nat.reduceAdd, Nat.reduceMul, Nat.reduceLeDiff, tyint, tyuint, gF, setF, hw]
    refine CallR.ev (pdqF_ev hf hg (by omega) (by omega) 4) ?_
    rintro _ _ ⟨rfl, z, hz1, hz2, rfl⟩
    simp (disch := omega) only [↓RU, RV, RH, ↓reduceIte, Nat.reduceEqDiff, reduceCtorEq, if_pos, w64, List.append_nil, ↓RS, RG, Nat.reduceAdd, Nat.reduceMul, Nat.reduceLeDiff, tyint, tyuint, gF, setF, hw]
    refine hK _ _ ?_
    clear hK K
    refine BodyQ.norm rfl ?_
    exact ⟨_, rfl, z, hz1, hz2, take_all⟩

end Fw
end Go.Proofs.YtcglmbijpjhbmaaGreat

/-! Sizes by the program, gone through. -/
namespace Go.Proofs.YtcglmbijpjhbmaaGreat
namespace Fw
open Go

end Fw
end Go.Proofs.YtcglmbijpjhbmaaGreat

/-! Sizes, gone through; the small functions of the statements. -/
namespace Go.Proofs.YtcglmbijpjhbmaaGreat
namespace Fw
open Go

theorem l7Places_pn {p : List Txt} (hs : Sm p) (hg : gridB p = true) (h9 : l1Rooms p ≤ 9) {needs : List Int} (hn : needs.length = (l1Rooms p).toNat) (hok : NeedOk needs) (kind : Int) : PN Tryz.prog 69 [eStrs p, eInts needs, .int .i64 kind] (.loc 0 0 0 needs.length) [.arr 0 3 1 ((places (allS p kind) needs).map (.int .i64))] false := by
  have hrb := l1Rooms_bound p
  have hms := allS_msk hg h9 kind
  rw [← hn] at hms
  obtain ⟨nr, hnr⟩ : ∃ nr : Nat, needs.length = nr := ⟨_, rfl⟩
  have hn9 : nr ≤ 9 := by omega
  rw [hnr] at hms
  have hml := hms.1
  refine PN.of ⟨Tryz.func69, by kernel_rfl, rfl, by kernel_rfl⟩ tabOk mixed (by show 3 ≤ Tryz.f69.ntmps; decide) ?_
  refine W.seq_region fun K hK => ?_
  simp (disch := omega) only [↓RU, RV, RH, ↓reduceIte, Nat.reduceEqDiff, reduceCtorEq, if_pos, ↓RS, RG, Nat.reduceAdd, Nat.reduceMul, Nat.reduceLeDiff]
  refine hK _ _ ?_
  clear hK K
  refine W.seq_region fun K hK => ?_
  simp (disch := omega) only [↓RU, RV, RH, ↓reduceIte, Nat.reduceEqDiff, reduceCtorEq, if_pos, List.append_nil, ↓RS, RG, Nat.reduceAdd, Nat.reduceMul, Nat.reduceLeDiff]
  refine CallR.pc (l5All_pc hs hg h9 kind) rfl (.inl rfl) ?_
  simp (disch := omega) only [↓RU, RV, RH, ↓reduceIte, Nat.reduceEqDiff, reduceCtorEq, if_pos, List.append_nil, ↓RS, RG, Nat.reduceAdd, Nat.reduceMul, Nat.reduceLeDiff]
  refine hK _ _ ?_
  clear hK K
  refine W.seq_region fun K hK => ?_
  simp (disch := omega) only [↓RU, RV, RH, ↓reduceIte, Nat.reduceEqDiff, reduceCtorEq, if_pos, ↓RS, RG, Nat.reduceAdd, Nat.reduceMul, Nat.reduceLeDiff, tyLint, tyint, hnr, repz_int, ile_true]
  refine hK _ _ ?_
  clear hK K
  refine W.seq ?_
  refine W.seq_region fun K hK => ?_
  simp (disch := omega) only [↓RU, RV, RH, ↓reduceIte, Nat.reduceEqDiff, reduceCtorEq, if_pos, ↓RS, RG, Nat.reduceAdd, Nat.reduceMul, Nat.reduceLeDiff]
  refine hK _ _ ?_
  clear hK K
  refine W.block ?_
  refine W.loop [0, 1, 2, 7, 8, 9] (fun n vs S => ∃ k : Nat, n = nr - k ∧ k ≤ nr ∧ vs = [eStrs p, eInts needs, .int .i64 kind, eNats (allS p kind), .loc 0 0 0 nr, .int .i64 k] ∧ S = ⟨[.arr 0 3 1 (((List.range k).foldl (plN (allS p kind) needs) (List.replicate nr 0)).map (.int .i64))], 1⟩) (nr) ?_ ?_
  · refine ⟨1, 0, rfl, Nat.zero_le _, ?_, by simp [take_eq]⟩
    simp [Env.put, Env.of, argEnv]
  rintro n vs S - ⟨k, rfl, h_k, rfl, rfl⟩
  refine W.seq ?_
  refine W.seq_region fun K hK => ?_
  simp (disch := omega) only [↓RU, RV, RH, ↓reduceIte, Nat.reduceEqDiff, reduceCtorEq, if_pos, w64, ↓RS, RG, Nat.reduceAdd, Nat.reduceMul, Nat.reduceLeDiff, tyLint, tyint]
  refine hK _ _ ?_
  clear hK K
  refine W.cond rfl (fun h => ?_) (fun h => ?_)
  · try simp only [RL] at h
    have hX := places_to (sets := (allS p kind)) hok hnr hn9 k (by omega)
    generalize hXe : (List.range k).foldl (plN (allS p kind) needs) (List.replicate nr 0) = X at hX
    refine W.skip ?_
    refine XThen.norm ?_
    refine W.seq ?_
    refine W.block ?_
    refine W.seq_region fun K hK => ?_
    simp (disch := omega) only [↓RU, RV, RH, ↓reduceIte, Nat.reduceEqDiff, reduceCtorEq, if_pos, ↓RS, RG, Nat.reduceAdd, Nat.reduceMul, Nat.reduceLeDiff]
    refine hK _ _ ?_
    clear hK K
    refine W.block ?_
    refine W.loop [0, 1, 2, 7, 8, 9, 10] (fun n vs S => ∃ a : Nat, n = nr - a ∧ a ≤ nr ∧ vs = [eStrs p, eInts needs, .int .i64 kind, eNats (allS p kind), .loc 0 0 0 nr, .int .i64 k, .int .i64 a] ∧ S = ⟨[.arr 0 3 1 (((List.range a).foldl (plA (allS p kind) needs) X).map (.int .i64))], 1⟩) (nr) ?_ ?_
    · refine ⟨1, 0, rfl, Nat.zero_le _, ?_, by simp [take_eq, hXe]⟩
      simp [Env.put, Env.of]
    rintro n vs S - ⟨a, rfl, h_a, rfl, rfl⟩
    refine W.seq ?_
    refine W.seq_region fun K hK => ?_
    simp (disch := omega) only [↓RU, RV, RH, ↓reduceIte, Nat.reduceEqDiff, reduceCtorEq, if_pos, w64, ↓RS, RG, Nat.reduceAdd, Nat.reduceMul, Nat.reduceLeDiff, tyLint, tyint]
    refine hK _ _ ?_
    clear hK K
    refine W.cond rfl (fun h1 => ?_) (fun h1 => ?_)
    · try simp only [RL] at h1
      have hY := plN_to (sets := (allS p kind)) hok hnr hn9 hX a (by omega)
      generalize hYe : (List.range a).foldl (plA (allS p kind) needs) X = Y at hY
      refine W.skip ?_
      refine XThen.norm ?_
      refine W.seq ?_
      refine W.block ?_
      refine W.seq_region fun K hK => ?_
      simp (disch := omega) only [↓RU, RV, RH, ↓reduceIte, Nat.reduceEqDiff, reduceCtorEq, if_pos, ↓RS, RG, Nat.reduceAdd, Nat.reduceMul, Nat.reduceLeDiff]
      refine hK _ _ ?_
      clear hK K
      refine W.block ?_
      refine W.loop [0, 1, 2, 7, 8, 9, 10, 11] (fun n vs S => ∃ b : Nat, n = nr - b ∧ b ≤ nr ∧ vs = [eStrs p, eInts needs, .int .i64 kind, eNats (allS p kind), .loc 0 0 0 nr, .int .i64 k, .int .i64 a, .int .i64 b] ∧ S = ⟨[.arr 0 3 1 (((List.range b).foldl (plB (allS p kind) needs a) Y).map (.int .i64))], 1⟩) (nr) ?_ ?_
      · refine ⟨1, 0, rfl, Nat.zero_le _, ?_, by simp [take_eq, hYe]⟩
        simp [Env.put, Env.of]
      rintro n vs S - ⟨b, rfl, h_b, rfl, rfl⟩
      refine W.seq ?_
      refine W.seq_region fun K hK => ?_
      simp (disch := omega) only [↓RU, RV, RH, ↓reduceIte, Nat.reduceEqDiff, reduceCtorEq, if_pos, w64, ↓RS, RG, Nat.reduceAdd, Nat.reduceMul, Nat.reduceLeDiff, tyLint, tyint]
      refine hK _ _ ?_
      clear hK K
      refine W.cond rfl (fun h2 => ?_) (fun h2 => ?_)
      · try simp only [RL] at h2
        have hZ := plA_to (sets := (allS p kind)) hok hnr hY (show a < nr by omega) b (by omega)
        generalize hZe : (List.range b).foldl (plB (allS p kind) needs a) Y = Z at hZ
        obtain ⟨m, hm, hm5⟩ := hms.at_ (show a < nr by omega)
        obtain ⟨u, hu, hu1⟩ := hZ.at_ (show a < nr by omega)
        obtain ⟨v, hv, hv1⟩ := hZ.at_ (show b < nr by omega)
        obtain ⟨z, hz, hzm⟩ := get_of (show a < needs.length by omega)
        have hz1 := hok z hzm
        have hZl := hZ.1
        refine W.skip ?_
        refine XThen.norm ?_
        refine W.seq ?_
        refine W.block ?_
        refine W.seq_region fun K hK => ?_
        simp (disch := omega) only [↓RU, RV, RH, ↓reduceIte, Nat.reduceEqDiff, reduceCtorEq, if_pos, w64, ↓RS, RG, Nat.reduceAdd, Nat.reduceMul, Nat.reduceLeDiff, tyLint, tyint, hm, hml, pShr, w_bit]
        refine hK _ _ ?_
        clear hK K
        refine W.cond rfl (fun h3 => ?_) (fun h3 => ?_)
        · try simp only [RL] at h3
          refine W.draw_k (by kernel_rfl) fun K hK => ?_
          simp (disch := omega) only [↓RU, RV, RH, ↓reduceIte, Nat.reduceEqDiff, reduceCtorEq, if_pos, w64, ite_max, ↓RS, RG, Nat.reduceAdd, Nat.reduceMul, Nat.reduceLeDiff, tyLint, tyint, hu, hv, hz, hnr, hZl, set_spl, set_int]
          refine hK _ _ ?_
          clear hK K
          refine XBlock.norm ?_
          refine XThen.norm ?_
          refine W.region_k fun K hK => ?_
          simp (disch := omega) only [↓RU, RV, RH, ↓reduceIte, Nat.reduceEqDiff, reduceCtorEq, if_pos, w64, ↓RS, RG, Nat.reduceAdd, Nat.reduceMul, Nat.reduceLeDiff, tyint]
          refine hK _ _ ?_
          clear hK K
          refine XThen.norm ?_
          refine ⟨nr - (b + 1), by omega, 1, b + 1, rfl, by omega, ?_, ?_⟩
          · simp [Env.put, Env.of]
          · simp only [take_eq, foldl_rg, hZe, plB, bitOf_is hm, h3, getI_is hu, getI_is hv, getI_is hz]; rfl
        · try simp only [RL] at h3
          refine W.skip ?_
          refine XBlock.norm ?_
          refine XThen.norm ?_
          refine W.region_k fun K hK => ?_
          simp (disch := omega) only [↓RU, RV, RH, ↓reduceIte, Nat.reduceEqDiff, reduceCtorEq, if_pos, w64, ↓RS, RG, Nat.reduceAdd, Nat.reduceMul, Nat.reduceLeDiff, tyint]
          refine hK _ _ ?_
          clear hK K
          refine XThen.norm ?_
          refine ⟨nr - (b + 1), by omega, 1, b + 1, rfl, by omega, ?_, ?_⟩
          · simp [Env.put, Env.of]
          · simp only [take_eq, foldl_rg, hZe, plB, bitOf_is hm, h3, Bool.false_eq_true, if_false]; rfl
      · try simp only [RL] at h2
        obtain rfl : nr = b := by omega
        refine W.exit ?_
        refine XThen.exit ?_
        refine XThen.exit ?_
        refine XBlock.hit ?_
        refine XBlock.norm ?_
        refine XThen.norm ?_
        refine W.region_k fun K hK => ?_
        simp (disch := omega) only [↓RU, RV, RH, ↓reduceIte, Nat.reduceEqDiff, reduceCtorEq, if_pos, w64, ↓RS, RG, Nat.reduceAdd, Nat.reduceMul, Nat.reduceLeDiff, tyint]
        refine hK _ _ ?_
        clear hK K
        refine XThen.norm ?_
        refine ⟨nr - (a + 1), by omega, 1, a + 1, rfl, by omega, ?_, ?_⟩
        · simp [Env.put, Env.of]
        · simp only [take_eq, foldl_rg, hYe, plA, hnr]; rfl
    · try simp only [RL] at h1
      obtain rfl : nr = a := by omega
      refine W.exit ?_
      refine XThen.exit ?_
      refine XThen.exit ?_
      refine XBlock.hit ?_
      refine XBlock.norm ?_
      refine XThen.norm ?_
      refine W.region_k fun K hK => ?_
      simp (disch := omega) only [↓RU, RV, RH, ↓reduceIte, Nat.reduceEqDiff, reduceCtorEq, if_pos, w64, ↓RS, RG, Nat.reduceAdd, Nat.reduceMul, Nat.reduceLeDiff, tyint]
      refine hK _ _ ?_
      clear hK K
      refine XThen.norm ?_
      refine ⟨nr - (k + 1), by omega, 1, k + 1, rfl, by omega, ?_, ?_⟩
      · simp [Env.put, Env.of]
      · simp only [take_eq, foldl_rg, hXe, plN, hnr]; rfl
  · try simp only [RL] at h
    obtain rfl : nr = k := by omega
    refine W.exit ?_
    refine XThen.exit ?_
    refine XThen.exit ?_
    refine XBlock.hit ?_
    refine XThen.norm ?_
    refine W.seq_region fun K hK => ?_
    simp (disch := omega) only [↓RU, RV, RH, ↓reduceIte, Nat.reduceEqDiff, reduceCtorEq, if_pos, ↓RS, RG, Nat.reduceAdd, Nat.reduceMul, Nat.reduceLeDiff]
    refine hK _ _ ?_
    clear hK K
    refine W.ret ?_
    refine BodyQ.ret rfl ?_
    rw [show (List.range nr).foldl (plN (allS p kind) needs) (List.replicate nr 0) = places (allS p kind) needs by rw [places, hnr]]
    rw [hnr]
    exact sh_one rfl (sh_ints _)

theorem szStringS_pc {p : List Txt} (hl : p.length ≤ 9223372036854775807) (hr : ∀ r ∈ p, r.length ≤ 9223372036854775807) {left : Int} (h0 : 0 ≤ left) (h1 : left ≤ 1048576) : PC Tryz.prog 36 [eStrs p, .int .i64 left] (.int .i64 (sz p left)) true := by
  refine PC.of ⟨Tryz.func36, by kernel_rfl, rfl, by kernel_rfl⟩ tabOk mixed (by show 2 ≤ Tryz.f36.ntmps; decide) ?_
  refine W.seq_region fun K hK => ?_
  simp (disch := omega) only [↓RU, RV, RH, ↓reduceIte, Nat.reduceEqDiff, reduceCtorEq, if_pos]
  refine hK _ _ ?_
  clear hK K
  refine W.seq_region fun K hK => ?_
  simp (disch := omega) only [↓RU, RV, RH, ↓reduceIte, Nat.reduceEqDiff, reduceCtorEq, if_pos, w64, tyLstring, tyint, tystring]
  refine hK _ _ ?_
  clear hK K
  refine W.seq ?_
  refine W.seq_region fun K hK => ?_
  simp (disch := omega) only [↓RU, RV, RH, ↓reduceIte, Nat.reduceEqDiff, reduceCtorEq, if_pos, w64, tyint]
  refine hK _ _ ?_
  clear hK K
  refine W.cond rfl (fun h2 => ?_) (fun h2 => ?_)
  · try simp only [RL] at h2
    refine W.seq_region fun K hK => ?_
    simp (disch := omega) only [↓RU, RV, RH, ↓reduceIte, Nat.reduceEqDiff, reduceCtorEq, if_pos]
    refine hK _ _ ?_
    clear hK K
    refine W.ret ?_
    refine XThen.ret ?_
    refine BodyQ.ret rfl ?_
    rw [show sz p left = -1 by simp only [sz]; rw [if_neg (by omega)]]
    rfl
  · try simp only [RL] at h2
    refine W.skip ?_
    refine XThen.norm ?_
    refine W.seq ?_
    refine W.seq_region fun K hK => ?_
    simp (disch := omega) only [↓RU, RV, RH, ↓reduceIte, Nat.reduceEqDiff, reduceCtorEq, if_pos]
    refine hK _ _ ?_
    clear hK K
    refine W.block ?_
    refine W.loop [0, 1, 5] (fun n vs S => ∃ i : Nat, n = p.length - i ∧ i ≤ p.length ∧ ((szAll (p.take i) : Int) ≤ left - p.length) ∧ vs = [eStrs p, .int .i64 (left - p.length - szAll (p.take i)), .int .i64 i] ∧ S = ⟨[], 0⟩) (p.length) ?_ ?_
    · refine ⟨0, 0, rfl, Nat.zero_le _, by simp [szAll]; omega, ?_, rfl⟩
      simp [Env.put, Env.of, argEnv, szAll]
    rintro n vs S - ⟨i, rfl, h_i, hge, rfl, rfl⟩
    refine W.seq ?_
    refine W.seq_region fun K hK => ?_
    simp (disch := omega) only [↓RU, RV, RH, ↓reduceIte, Nat.reduceEqDiff, reduceCtorEq, if_pos, w64, tyLstring, tyint, tystring]
    refine hK _ _ ?_
    clear hK K
    refine W.cond rfl (fun h3 => ?_) (fun h3 => ?_)
    · try simp only [RL] at h3
      obtain ⟨r, hr1, hrm⟩ := get_of (show i < p.length by omega)
      have hrl := hr r hrm
      have hst := szAll_take hr1
      have hsl := szAll_le (p := p) (i := i + 1)
      refine W.skip ?_
      refine XThen.norm ?_
      refine W.seq ?_
      refine W.block ?_
      refine W.seq_region fun K hK => ?_
      simp (disch := omega) only [↓RU, RV, RH, ↓reduceIte, Nat.reduceEqDiff, reduceCtorEq, if_pos, w64, tyLstring, tyint, tystring, hr1]
      refine hK _ _ ?_
      clear hK K
      refine W.seq_region fun K hK => ?_
      simp (disch := omega) only [↓RU, RV, RH, ↓reduceIte, Nat.reduceEqDiff, reduceCtorEq, if_pos, w64, tyint]
      refine hK _ _ ?_
      clear hK K
      refine W.cond rfl (fun h4 => ?_) (fun h4 => ?_)
      · try simp only [RL] at h4
        refine W.seq_region fun K hK => ?_
        simp (disch := omega) only [↓RU, RV, RH, ↓reduceIte, Nat.reduceEqDiff, reduceCtorEq, if_pos]
        refine hK _ _ ?_
        clear hK K
        refine W.ret ?_
        refine XBlock.ret ?_
        refine XThen.ret ?_
        refine XThen.ret ?_
        refine XBlock.ret ?_
        refine XThen.ret ?_
        refine BodyQ.ret rfl ?_
        rw [show sz p left = -1 by simp only [sz]; rw [if_neg (by omega)]]
        rfl
      · try simp only [RL] at h4
        refine W.skip ?_
        refine XBlock.norm ?_
        refine XThen.norm ?_
        refine W.region_k fun K hK => ?_
        simp (disch := omega) only [↓RU, RV, RH, ↓reduceIte, Nat.reduceEqDiff, reduceCtorEq, if_pos, w64, tyint]
        refine hK _ _ ?_
        clear hK K
        refine XThen.norm ?_
        refine ⟨p.length - (i + 1), by omega, 0, i + 1, rfl, by omega, by omega, ?_, rfl⟩
        simp [Env.put, Env.of, hst]
        omega
    · try simp only [RL] at h3
      refine W.exit ?_
      refine XThen.exit ?_
      refine XThen.exit ?_
      refine XBlock.hit ?_
      refine XThen.norm ?_
      refine W.seq_region fun K hK => ?_
      simp (disch := omega) only [↓RU, RV, RH, ↓reduceIte, Nat.reduceEqDiff, reduceCtorEq, if_pos]
      refine hK _ _ ?_
      clear hK K
      refine W.ret ?_
      refine BodyQ.ret rfl ?_
      have hip : p.take i = p := List.take_of_length_le (by omega)
      rw [hip] at hge ⊢
      rw [show sz p left = left - p.length - szAll p by simp only [sz]; rw [if_pos (by omega)]; omega]
      rfl

theorem toStringS_pn {p : List Txt} (hp : p.length ≤ 1048576) : PN Tryz.prog 38 [eStrs p] (.loc 0 0 0 p.length) [.arr 0 9 1 (p.map .str)] false := by
  refine PN.of ⟨Tryz.func38, by kernel_rfl, rfl, by kernel_rfl⟩ tabOk mixed (by show 1 ≤ Tryz.f38.ntmps; decide) ?_
  refine W.seq_region fun K hK => ?_
  simp (disch := omega) only [↓RU, RV, RH, ↓reduceIte, Nat.reduceEqDiff, reduceCtorEq, if_pos, ↓RS, RG, Nat.reduceAdd, Nat.reduceMul, Nat.reduceLeDiff]
  refine hK _ _ ?_
  clear hK K
  refine W.seq_region fun K hK => ?_
  simp (disch := omega) only [↓RU, RV, RH, ↓reduceIte, Nat.reduceEqDiff, reduceCtorEq, if_pos, ↓RS, RG, Nat.reduceAdd, Nat.reduceMul, Nat.reduceLeDiff, tyLstring, tystring, repz_str, ile_true]
  refine hK _ _ ?_
  clear hK K
  refine W.seq ?_
  refine W.seq_region fun K hK => ?_
  simp (disch := omega) only [↓RU, RV, RH, ↓reduceIte, Nat.reduceEqDiff, reduceCtorEq, if_pos, ↓RS, RG, Nat.reduceAdd, Nat.reduceMul, Nat.reduceLeDiff]
  refine hK _ _ ?_
  clear hK K
  refine W.block ?_
  refine W.loop [0, 3, 4] (fun n vs S => ∃ i : Nat, n = p.length - i ∧ i ≤ p.length ∧ vs = [eStrs p, .loc 0 0 0 p.length, .int .i64 i] ∧ S = ⟨[.arr 0 9 1 ((p.take i ++ List.replicate (p.length - i) []).map .str)], 1⟩) (p.length) ?_ ?_
  · refine ⟨1, 0, rfl, Nat.zero_le _, ?_, by simp [take_eq]⟩
    simp [Env.put, Env.of, argEnv]
  rintro n vs S - ⟨i, rfl, h_i, rfl, rfl⟩
  refine W.seq ?_
  refine W.seq_region fun K hK => ?_
  simp (disch := omega) only [↓RU, RV, RH, ↓reduceIte, Nat.reduceEqDiff, reduceCtorEq, if_pos, w64, ↓RS, RG, Nat.reduceAdd, Nat.reduceMul, Nat.reduceLeDiff, tyLstring, tyint, tystring]
  refine hK _ _ ?_
  clear hK K
  refine W.cond rfl (fun h => ?_) (fun h => ?_)
  · try simp only [RL] at h
    obtain ⟨r, hr, hrm⟩ := get_of (show i < p.length by omega)
    have hcl : (p.take i ++ List.replicate (p.length - i) []).length = p.length := by simp; omega
    refine W.skip ?_
    refine XThen.norm ?_
    refine W.seq ?_
    refine W.block ?_
    refine W.region_k fun K hK => ?_
    simp (disch := omega) only [↓RU, RV, RH, ↓reduceIte, Nat.reduceEqDiff, reduceCtorEq, if_pos, ↓RS, RG, Nat.reduceAdd, Nat.reduceMul, Nat.reduceLeDiff, tyLstring, tystring, hr, hcl, set_spl, set_str]
    refine hK _ _ ?_
    clear hK K
    refine XBlock.norm ?_
    refine XThen.norm ?_
    refine W.region_k fun K hK => ?_
    simp (disch := omega) only [↓RU, RV, RH, ↓reduceIte, Nat.reduceEqDiff, reduceCtorEq, if_pos, w64, ↓RS, RG, Nat.reduceAdd, Nat.reduceMul, Nat.reduceLeDiff, tyint]
    refine hK _ _ ?_
    clear hK K
    refine XThen.norm ?_
    refine ⟨p.length - (i + 1), by omega, 1, i + 1, rfl, by omega, ?_, ?_⟩
    · simp [Env.put, Env.of]
    · simp only [take_eq]; rw [copy_succ hr]; rfl
  · try simp only [RL] at h
    obtain rfl : i = p.length := by omega
    refine W.exit ?_
    refine XThen.exit ?_
    refine XThen.exit ?_
    refine XBlock.hit ?_
    refine XThen.norm ?_
    refine W.seq_region fun K hK => ?_
    simp (disch := omega) only [↓RU, RV, RH, ↓reduceIte, Nat.reduceEqDiff, reduceCtorEq, if_pos, ↓RS, RG, Nat.reduceAdd, Nat.reduceMul, Nat.reduceLeDiff]
    refine hK _ _ ?_
    clear hK K
    refine W.ret ?_
    refine BodyQ.ret rfl ?_
    rw [List.take_length, Nat.sub_self, List.replicate_zero, List.append_nil]
    exact sh_one rfl (sh_strs _)

theorem eqStringS_pc {p q : List Txt} (hp : p.length < 2147483648) (hq : q.length < 2147483648) : PC Tryz.prog 40 [eStrs p, eStrs q] (.bool (decide (p = q))) true := by
  refine PC.of ⟨Tryz.func40, by kernel_rfl, rfl, by kernel_rfl⟩ tabOk mixed (by show 2 ≤ Tryz.f40.ntmps; decide) ?_
  refine W.seq_region fun K hK => ?_
  simp (disch := omega) only [↓RU, RV, RH, ↓reduceIte, Nat.reduceEqDiff, reduceCtorEq, if_pos]
  refine hK _ _ ?_
  clear hK K
  refine W.seq ?_
  refine W.seq_region fun K hK => ?_
  simp (disch := omega) only [↓RU, RV, RH, ↓reduceIte, Nat.reduceEqDiff, reduceCtorEq, if_pos, w64, tyLstring, tyint, tystring]
  refine hK _ _ ?_
  clear hK K
  refine W.cond rfl (fun h => ?_) (fun h => ?_)
  · try simp only [RL] at h
    refine W.seq_region fun K hK => ?_
    simp (disch := omega) only [↓RU, RV, RH, ↓reduceIte, Nat.reduceEqDiff, reduceCtorEq, if_pos]
    refine hK _ _ ?_
    clear hK K
    refine W.ret ?_
    refine XThen.ret ?_
    refine BodyQ.ret rfl ?_
    rw [show decide (p = q) = false by simp; rintro rfl; exact h rfl]
    rfl
  · try simp only [RL] at h
    refine W.skip ?_
    refine XThen.norm ?_
    refine W.seq ?_
    refine W.seq_region fun K hK => ?_
    simp (disch := omega) only [↓RU, RV, RH, ↓reduceIte, Nat.reduceEqDiff, reduceCtorEq, if_pos]
    refine hK _ _ ?_
    clear hK K
    refine W.block ?_
    refine W.loop [0, 1, 5] (fun n vs S => ∃ i : Nat, n = p.length - i ∧ i ≤ p.length ∧ (p.take i = q.take i) ∧ vs = [eStrs p, eStrs q, .int .i64 i] ∧ S = ⟨[], 0⟩) (p.length) ?_ ?_
    · refine ⟨0, 0, rfl, Nat.zero_le _, rfl, ?_, rfl⟩
      simp [Env.put, Env.of, argEnv]
    rintro n vs S - ⟨i, rfl, h_i, htk, rfl, rfl⟩
    refine W.seq ?_
    refine W.seq_region fun K hK => ?_
    simp (disch := omega) only [↓RU, RV, RH, ↓reduceIte, Nat.reduceEqDiff, reduceCtorEq, if_pos, w64, tyLstring, tyint, tystring]
    refine hK _ _ ?_
    clear hK K
    refine W.cond rfl (fun h1 => ?_) (fun h1 => ?_)
    · try simp only [RL] at h1
      obtain ⟨x, hx, -⟩ := get_of (show i < p.length by omega)
      obtain ⟨y, hy, -⟩ := get_of (show i < q.length by omega)
      refine W.skip ?_
      refine XThen.norm ?_
      refine W.seq ?_
      refine W.block ?_
      refine W.seq_draw (by kernel_rfl) fun K hK => ?_
      simp (disch := omega) only [↓RU, RV, RH, ↓reduceIte, Nat.reduceEqDiff, reduceCtorEq, if_pos, w64, tyLstring, tystring, hx, hy]
      refine hK _ _ ?_
      clear hK K
      refine W.cond rfl (fun h2 => ?_) (fun h2 => ?_)
      · try simp only [RL] at h2
        refine W.seq_region fun K hK => ?_
        simp (disch := omega) only [↓RU, RV, RH, ↓reduceIte, Nat.reduceEqDiff, reduceCtorEq, if_pos]
        refine hK _ _ ?_
        clear hK K
        refine W.ret ?_
        refine XBlock.ret ?_
        refine XThen.ret ?_
        refine XThen.ret ?_
        refine XBlock.ret ?_
        refine XThen.ret ?_
        refine BodyQ.ret rfl ?_
        rw [show decide (p = q) = false by simp; rintro rfl; rw [hx] at hy; simp_all]
        rfl
      · try simp only [RL] at h2
        refine W.skip ?_
        refine XBlock.norm ?_
        refine XThen.norm ?_
        refine W.region_k fun K hK => ?_
        simp (disch := omega) only [↓RU, RV, RH, ↓reduceIte, Nat.reduceEqDiff, reduceCtorEq, if_pos, w64, tyint]
        refine hK _ _ ?_
        clear hK K
        refine XThen.norm ?_
        refine ⟨p.length - (i + 1), by omega, 0, i + 1, rfl, by omega, take_eq_succ htk hx hy h2, ?_, rfl⟩
        simp [Env.put, Env.of]
    · try simp only [RL] at h1
      refine W.exit ?_
      refine XThen.exit ?_
      refine XThen.exit ?_
      refine XBlock.hit ?_
      refine XThen.norm ?_
      refine W.seq_region fun K hK => ?_
      simp (disch := omega) only [↓RU, RV, RH, ↓reduceIte, Nat.reduceEqDiff, reduceCtorEq, if_pos]
      refine hK _ _ ?_
      clear hK K
      refine W.ret ?_
      refine BodyQ.ret rfl ?_
      have h1 : p.take i = p := List.take_of_length_le (by omega)
      have h2 : q.take i = q := List.take_of_length_le (by omega)
      rw [show decide (p = q) = true by simp; rw [← h1, ← h2]; exact htk]
      rfl

theorem eqIntS_pc {p q : List Int} (hp : p.length < 2147483648) (hq : q.length < 2147483648) : PC Tryz.prog 43 [eInts p, eInts q] (.bool (decide (p = q))) true := by
  refine PC.of ⟨Tryz.func43, by kernel_rfl, rfl, by kernel_rfl⟩ tabOk mixed (by show 2 ≤ Tryz.f43.ntmps; decide) ?_
  refine W.seq_region fun K hK => ?_
  simp (disch := omega) only [↓RU, RV, RH, ↓reduceIte, Nat.reduceEqDiff, reduceCtorEq, if_pos]
  refine hK _ _ ?_
  clear hK K
  refine W.seq ?_
  refine W.seq_region fun K hK => ?_
  simp (disch := omega) only [↓RU, RV, RH, ↓reduceIte, Nat.reduceEqDiff, reduceCtorEq, if_pos, w64, tyLint, tyint]
  refine hK _ _ ?_
  clear hK K
  refine W.cond rfl (fun h => ?_) (fun h => ?_)
  · try simp only [RL] at h
    refine W.seq_region fun K hK => ?_
    simp (disch := omega) only [↓RU, RV, RH, ↓reduceIte, Nat.reduceEqDiff, reduceCtorEq, if_pos]
    refine hK _ _ ?_
    clear hK K
    refine W.ret ?_
    refine XThen.ret ?_
    refine BodyQ.ret rfl ?_
    rw [show decide (p = q) = false by simp; rintro rfl; exact h rfl]
    rfl
  · try simp only [RL] at h
    refine W.skip ?_
    refine XThen.norm ?_
    refine W.seq ?_
    refine W.seq_region fun K hK => ?_
    simp (disch := omega) only [↓RU, RV, RH, ↓reduceIte, Nat.reduceEqDiff, reduceCtorEq, if_pos]
    refine hK _ _ ?_
    clear hK K
    refine W.block ?_
    refine W.loop [0, 1, 5] (fun n vs S => ∃ i : Nat, n = p.length - i ∧ i ≤ p.length ∧ (p.take i = q.take i) ∧ vs = [eInts p, eInts q, .int .i64 i] ∧ S = ⟨[], 0⟩) (p.length) ?_ ?_
    · refine ⟨0, 0, rfl, Nat.zero_le _, rfl, ?_, rfl⟩
      simp [Env.put, Env.of, argEnv]
    rintro n vs S - ⟨i, rfl, h_i, htk, rfl, rfl⟩
    refine W.seq ?_
    refine W.seq_region fun K hK => ?_
    simp (disch := omega) only [↓RU, RV, RH, ↓reduceIte, Nat.reduceEqDiff, reduceCtorEq, if_pos, w64, tyLint, tyint]
    refine hK _ _ ?_
    clear hK K
    refine W.cond rfl (fun h1 => ?_) (fun h1 => ?_)
    · try simp only [RL] at h1
      obtain ⟨x, hx, -⟩ := get_of (show i < p.length by omega)
      obtain ⟨y, hy, -⟩ := get_of (show i < q.length by omega)
      refine W.skip ?_
      refine XThen.norm ?_
      refine W.seq ?_
      refine W.block ?_
      refine W.seq_draw (by kernel_rfl) fun K hK => ?_
      simp (disch := omega) only [↓RU, RV, RH, ↓reduceIte, Nat.reduceEqDiff, reduceCtorEq, if_pos, w64, tyLint, tyint, hx, hy]
      refine hK _ _ ?_
      clear hK K
      refine W.cond rfl (fun h2 => ?_) (fun h2 => ?_)
      · try simp only [RL] at h2
        refine W.seq_region fun K hK => ?_
        simp (disch := omega) only [↓RU, RV, RH, ↓reduceIte, Nat.reduceEqDiff, reduceCtorEq, if_pos]
        refine hK _ _ ?_
        clear hK K
        refine W.ret ?_
        refine XBlock.ret ?_
        refine XThen.ret ?_
        refine XThen.ret ?_
        refine XBlock.ret ?_
        refine XThen.ret ?_
        refine BodyQ.ret rfl ?_
        rw [show decide (p = q) = false by simp; rintro rfl; rw [hx] at hy; simp_all]
        rfl
      · try simp only [RL] at h2
        refine W.skip ?_
        refine XBlock.norm ?_
        refine XThen.norm ?_
        refine W.region_k fun K hK => ?_
        simp (disch := omega) only [↓RU, RV, RH, ↓reduceIte, Nat.reduceEqDiff, reduceCtorEq, if_pos, w64, tyint]
        refine hK _ _ ?_
        clear hK K
        refine XThen.norm ?_
        refine ⟨p.length - (i + 1), by omega, 0, i + 1, rfl, by omega, take_eq_succ htk hx hy h2, ?_, rfl⟩
        simp [Env.put, Env.of]
    · try simp only [RL] at h1
      refine W.exit ?_
      refine XThen.exit ?_
      refine XThen.exit ?_
      refine XBlock.hit ?_
      refine XThen.norm ?_
      refine W.seq_region fun K hK => ?_
      simp (disch := omega) only [↓RU, RV, RH, ↓reduceIte, Nat.reduceEqDiff, reduceCtorEq, if_pos]
      refine hK _ _ ?_
      clear hK K
      refine W.ret ?_
      refine BodyQ.ret rfl ?_
      have h1 : p.take i = p := List.take_of_length_le (by omega)
      have h2 : q.take i = q := List.take_of_length_le (by omega)
      rw [show decide (p = q) = true by simp; rw [← h1, ← h2]; exact htk]
      rfl

end Fw
end Go.Proofs.YtcglmbijpjhbmaaGreat

/-! Heaviest sums, gone through. -/
namespace Go.Proofs.YtcglmbijpjhbmaaGreat
namespace Fw
open Go

end Fw
end Go.Proofs.YtcglmbijpjhbmaaGreat

/-! Where rooms begin and how far they may be moved: the program's lists are the specification's. -/
namespace Go.Proofs.YtcglmbijpjhbmaaGreat
namespace Fw
open Go

section
variable {M : List (List Bool)} {ms : List Nat} {ws : List Int} {n : Nat} {rk : Nat → Nat}

def bhB (sets : List Nat) (needs : List Int) (a : Nat) (out : List Int) (b : Nat) : List Int :=
  if bitOf sets a b then out.set a (max (getI out a) (getI out b + getI needs b)) else out
def bhA (sets : List Nat) (needs : List Int) (out : List Int) (a : Nat) : List Int := (List.range needs.length).foldl (bhB sets needs a) out
def bhN (sets : List Nat) (needs : List Int) (out : List Int) (_ : Nat) : List Int := (List.range needs.length).foldl (bhA sets needs) out
def behind (sets : List Nat) (needs : List Int) : List Int := (List.range needs.length).foldl (bhN sets needs) (List.replicate needs.length 0)
end
end Fw
end Go.Proofs.YtcglmbijpjhbmaaGreat

/-! Marks, gone through. -/
namespace Go.Proofs.YtcglmbijpjhbmaaGreat
namespace Fw
open Go

def mkL : Nat → Nat → Txt → Txt
  | 0, _, s => s
  | f + 1, k, s => if k = 0 then s else mkL f (k / 10) (UInt8.ofNat (48 + k % 10) :: s)
/-- The text that marks a place. -/
def markT (k : Int) : Txt := if k ≤ 0 then [109, 48] else 109 :: mkL 41 k.toNat []
theorem mkL_zero : ∀ {f : Nat} {s : Txt}, mkL f 0 s = s
  | 0, _ => rfl
  | _ + 1, _ => by simp [mkL]
theorem mkL_succ {f k : Nat} {s : Txt} (h : 0 < k) : mkL (f + 1) k s = mkL f (k / 10) (UInt8.ofNat (48 + k % 10) :: s) := by rw [mkL, if_neg (by omega)]
theorem ten0 : ((10 : Int) = 0) = False := by simp
theorem tmod_nat {k : Nat} : ((k : Int)).tmod 10 = ((k % 10 : Nat) : Int) := (Int.ofNat_tmod k 10).symm
theorem tdiv_nat {k : Nat} : ((k : Int)).tdiv 10 = ((k / 10 : Nat) : Int) := (Int.ofNat_tdiv k 10).symm
theorem dig_add {k : Nat} : (48 : Int) + ((k % 10 : Nat) : Int) = ((48 + k % 10 : Nat) : Int) := by omega
theorem bytes_one {b : UInt8} : bytesOf [PV.int .u8 (b.toNat : Int)] = some [b] := by simp [bytesOf]

theorem markText_pc {k0 : Int} (h0 : -1 ≤ k0) (h1 : k0 ≤ 1099511627776) : PC Tryz.prog 87 [.int .i64 k0] (.str (markT k0)) true := by
  refine PC.of ⟨Tryz.func87, by kernel_rfl, rfl, by kernel_rfl⟩ tabOk mixed (by show 1 ≤ Tryz.f87.ntmps; decide) ?_
  refine W.seq_region fun K hK => ?_
  simp (disch := omega) only [↓RU, RV, RH, ↓reduceIte, Nat.reduceEqDiff, reduceCtorEq, if_pos, ↓RS, RG, Nat.reduceAdd, Nat.reduceMul, Nat.reduceLeDiff]
  refine hK _ _ ?_
  clear hK K
  refine W.seq ?_
  refine W.seq_region fun K hK => ?_
  simp (disch := omega) only [↓RU, RV, RH, ↓reduceIte, Nat.reduceEqDiff, reduceCtorEq, if_pos, w64, ↓RS, RG, Nat.reduceAdd, Nat.reduceMul, Nat.reduceLeDiff, tyint]
  refine hK _ _ ?_
  clear hK K
  refine W.cond rfl (fun h => ?_) (fun h => ?_)
  · try simp only [RL] at h
    refine W.seq_region fun K hK => ?_
    simp (disch := omega) only [↓RU, RV, RH, ↓reduceIte, Nat.reduceEqDiff, reduceCtorEq, if_pos, ↓RS, RG, Nat.reduceAdd, Nat.reduceMul, Nat.reduceLeDiff]
    refine hK _ _ ?_
    clear hK K
    refine W.ret ?_
    refine XThen.ret ?_
    refine BodyQ.ret rfl ?_
    rw [markT, if_pos (by omega)]
    rfl
  · try simp only [RL] at h
    obtain ⟨k1, rfl⟩ : ∃ k1 : Nat, k0 = k1 := ⟨k0.toNat, by omega⟩
    refine W.skip ?_
    refine XThen.norm ?_
    refine W.seq_region fun K hK => ?_
    simp (disch := omega) only [↓RU, RV, RH, ↓reduceIte, Nat.reduceEqDiff, reduceCtorEq, if_pos, ↓RS, RG, Nat.reduceAdd, Nat.reduceMul, Nat.reduceLeDiff]
    refine hK _ _ ?_
    clear hK K
    refine W.seq ?_
    refine W.block ?_
    refine W.loop [0, 3] (fun n vs S => ∃ j k tk : Nat, ∃ s : Txt, n = 41 - j ∧ j ≤ 41 ∧ k < 2 ^ (41 - j) ∧ k ≤ 1099511627776 ∧ s.length = j ∧ mkL (41 - j) k s = mkL 41 k1 [] ∧ vs = [.int .i64 (k : Nat), .str s] ∧ S = ⟨[], tk⟩) 41 ?_ ?_
    · refine ⟨0, 0, k1, 0, [], rfl, by omega, by omega, by omega, rfl, rfl, ?_, rfl⟩
      simp [Env.put, Env.of, argEnv]
    rintro n vs S - ⟨j, k, tk, s, rfl, h_j, hkf, hkl, hsf, hmk, rfl, rfl⟩
    refine W.seq ?_
    refine W.seq_region fun K hK => ?_
    simp (disch := omega) only [↓RU, RV, RH, ↓reduceIte, Nat.reduceEqDiff, reduceCtorEq, if_pos, w64, ↓RS, RG, Nat.reduceAdd, Nat.reduceMul, Nat.reduceLeDiff, tyint]
    refine hK _ _ ?_
    clear hK K
    refine W.cond rfl (fun h2 => ?_) (fun h2 => ?_)
    · try simp only [RL] at h2
      have hj1 : j ≠ 41 := by rintro rfl; simp at hkf; omega
      obtain ⟨f, hf⟩ : ∃ f, 41 - j = f + 1 := ⟨40 - j, by omega⟩
      rw [hf] at hkf hmk
      rw [Nat.pow_succ] at hkf
      rw [mkL_succ (by omega)] at hmk
      refine W.skip ?_
      refine XThen.norm ?_
      refine W.block ?_
      refine W.seq_region fun K hK => ?_
      simp (disch := omega) only [↓RU, RV, RH, ↓reduceIte, Nat.reduceEqDiff, reduceCtorEq, if_pos, w64, w64, ↓RS, RG, Nat.reduceAdd, Nat.reduceMul, Nat.reduceLeDiff, tyLuint8, tyint, tystring, tyuint8, pStr, ten0, tmod_nat, dig_add, u8_of, bytes_one, cells_int, Option.map_some, List.length_cons, List.length_nil]
      refine hK _ _ ?_
      clear hK K
      refine W.region_k fun K hK => ?_
      simp (disch := omega) only [↓RU, RV, RH, ↓reduceIte, Nat.reduceEqDiff, reduceCtorEq, if_pos, w64, ↓RS, RG, Nat.reduceAdd, Nat.reduceMul, Nat.reduceLeDiff, tyint, ten0, tdiv_nat]
      refine hK _ _ ?_
      clear hK K
      refine XBlock.norm ?_
      refine XThen.norm ?_
      refine ⟨41 - (j + 1), by omega, 0, j + 1, k / 10, _, _, rfl, by omega, by rw [show 41 - (j + 1) = f by omega]; omega, by omega, ?_, by rw [show 41 - (j + 1) = f by omega]; exact hmk, ?_, rfl⟩
      · simp [hsf]
      · simp [Env.put, Env.of]
    · try simp only [RL] at h2
      obtain rfl : k = 0 := by omega
      rw [mkL_zero] at hmk
      refine W.exit ?_
      refine XThen.exit ?_
      refine XThen.exit ?_
      refine XBlock.hit ?_
      refine XThen.norm ?_
      refine W.seq_region fun K hK => ?_
      simp (disch := omega) only [↓RU, RV, RH, ↓reduceIte, Nat.reduceEqDiff, reduceCtorEq, if_pos, w64, ↓RS, RG, Nat.reduceAdd, Nat.reduceMul, Nat.reduceLeDiff, tystring, pStr]
      refine hK _ _ ?_
      clear hK K
      refine W.ret ?_
      refine BodyQ.ret rfl ?_
      rw [markT, if_neg (by omega), Int.toNat_natCast, ← hmk]
      rfl

theorem markStringS_ev {F R : List Ob} {ver t : Nat} {l : List Txt} (hl : l.length ≤ 1048576) {k0 : Int} (hk0 : 0 ≤ k0) (hk1 : k0 ≤ 4294967296) : Ev Tryz.prog 44 [.loc F.length ver 0 l.length, .int .i64 k0] ⟨F ++ .arr ver 9 1 (l.map .str) :: R, t⟩ fun v S => v = .int .i64 (k0 + l.length) ∧ ∃ ts : List Txt, ts.length = l.length ∧ S = ⟨F ++ .arr ver 9 1 (ts.map .str) :: R, t⟩ := by
  refine Ev.of ⟨Tryz.func44, by kernel_rfl, rfl, by kernel_rfl⟩ tabOk mixed (by show 2 ≤ Tryz.f44.ntmps; decide) ?_
  refine W.seq_region fun K hK => ?_
  simp (disch := omega) only [↓RU, RV, RH, ↓reduceIte, Nat.reduceEqDiff, reduceCtorEq, if_pos, ↓RS, RG, Nat.reduceAdd, Nat.reduceMul, Nat.reduceLeDiff, gF, setF]
  refine hK _ _ ?_
  clear hK K
  refine W.seq ?_
  refine W.seq_region fun K hK => ?_
  simp (disch := omega) only [↓RU, RV, RH, ↓reduceIte, Nat.reduceEqDiff, reduceCtorEq, if_pos, ↓RS, RG, Nat.reduceAdd, Nat.reduceMul, Nat.reduceLeDiff, gF, setF]
  refine hK _ _ ?_
  clear hK K
  refine W.block ?_
  refine W.loop [0, 1, 5] (fun n vs S => ∃ (i : Nat) (ts : List Txt), n = l.length - i ∧ i ≤ l.length ∧ ts.length = l.length ∧ vs = [.loc F.length ver 0 l.length, .int .i64 (k0 + i), .int .i64 i] ∧ S = ⟨F ++ .arr ver 9 1 (ts.map .str) :: R, t⟩) l.length ?_ ?_
  · refine ⟨_, 0, l, rfl, by omega, rfl, ?_, take_all⟩
    simp [Env.put, Env.of, argEnv]
  rintro n vs S - ⟨i, ts, rfl, h_i, hts, rfl, rfl⟩
  refine W.seq ?_
  refine W.seq_region fun K hK => ?_
  simp (disch := omega) only [↓RU, RV, RH, ↓reduceIte, Nat.reduceEqDiff, reduceCtorEq, if_pos, w64, ↓RS, RG, Nat.reduceAdd, Nat.reduceMul, Nat.reduceLeDiff, tyLstring, tyint, tystring, gF, setF]
  refine hK _ _ ?_
  clear hK K
  refine W.cond rfl (fun h => ?_) (fun h => ?_)
  · try simp only [RL] at h
    refine W.skip ?_
    refine XThen.norm ?_
    refine W.seq ?_
    refine W.block ?_
    refine W.seq_region fun K hK => ?_
    simp (disch := omega) only [↓RU, RV, RH, ↓reduceIte, Nat.reduceEqDiff, reduceCtorEq, if_pos, List.append_nil, ↓RS, RG, Nat.reduceAdd, Nat.reduceMul, Nat.reduceLeDiff, tyLstring, tystring, gF, setF, hts, set_spl, set_str]
    refine CallR.pc (markText_pc (k0 := k0 + i) (by omega) (by omega)) rfl (.inl rfl) ?_
    simp (disch := omega) only [↓RU, RV, RH, ↓reduceIte, Nat.reduceEqDiff, reduceCtorEq, if_pos, List.append_nil, ↓RS, RG, Nat.reduceAdd, Nat.reduceMul, Nat.reduceLeDiff, tyLstring, tystring, gF, setF, hts, set_spl, set_str]
    refine hK _ _ ?_
    clear hK K
    refine W.region_k fun K hK => ?_
    simp (disch := omega) only [↓RU, RV, RH, ↓reduceIte, Nat.reduceEqDiff, reduceCtorEq, if_pos, w64, ↓RS, RG, Nat.reduceAdd, Nat.reduceMul, Nat.reduceLeDiff, tyint, gF, setF]
    refine hK _ _ ?_
    clear hK K
    refine XBlock.norm ?_
    refine XThen.norm ?_
    refine W.region_k fun K hK => ?_
    simp (disch := omega) only [↓RU, RV, RH, ↓reduceIte, Nat.reduceEqDiff, reduceCtorEq, if_pos, w64, ↓RS, RG, Nat.reduceAdd, Nat.reduceMul, Nat.reduceLeDiff, tyint, gF, setF]
    refine hK _ _ ?_
    clear hK K
    refine XThen.norm ?_
    refine ⟨l.length - (i + 1), by omega, _, i + 1, ts.set i (markT (k0 + i)), rfl, by omega, by simpa using hts, ?_, take_all⟩
    simp [Env.put, Env.of, Int.add_assoc]
  · try simp only [RL] at h
    obtain rfl : i = l.length := by omega
    refine W.exit ?_
    refine XThen.exit ?_
    refine XThen.exit ?_
    refine XBlock.hit ?_
    refine XThen.norm ?_
    refine W.seq_region fun K hK => ?_
    simp (disch := omega) only [↓RU, RV, RH, ↓reduceIte, Nat.reduceEqDiff, reduceCtorEq, if_pos, ↓RS, RG, Nat.reduceAdd, Nat.reduceMul, Nat.reduceLeDiff, gF, setF]
    refine hK _ _ ?_
    clear hK K
    refine W.ret ?_
    refine BodyQ.ret rfl ?_
    exact ⟨_, rfl, ts, hts, take_all⟩

theorem held_succ {ts : List Int} {k0 : Int} {i : Nat} (h : ∀ j : Nat, j < i → ts[j]? = some (k0 + j)) (hi : i < ts.length) : ∀ j : Nat, j < i + 1 → (ts.set i (k0 + i))[j]? = some (k0 + j) := by
  intro j hj
  rw [List.getElem?_set]
  by_cases e : i = j
  · subst e; rw [if_pos rfl, if_pos hi]
  · rw [if_neg e]; exact h j (by omega)

theorem markIntS_ev {F R : List Ob} {ver t : Nat} {l : List Int} (hl : l.length ≤ 1048576) {k0 : Int} (hk0 : 0 ≤ k0) (hk1 : k0 ≤ 4294967296) : Ev Tryz.prog 45 [.loc F.length ver 0 l.length, .int .i64 k0] ⟨F ++ .arr ver 3 1 (l.map (.int .i64)) :: R, t⟩ fun v S => v = .int .i64 (k0 + l.length) ∧ ∃ ts : List Int, ts.length = l.length ∧ (∀ j : Nat, j < l.length → ts[j]? = some (k0 + j)) ∧ S = ⟨F ++ .arr ver 3 1 (ts.map (.int .i64)) :: R, t⟩ := by
  refine Ev.of ⟨Tryz.func45, by kernel_rfl, rfl, by kernel_rfl⟩ tabOk mixed (by show 2 ≤ Tryz.f45.ntmps; decide) ?_
  refine W.seq_region fun K hK => ?_
  simp (disch := omega) only [↓RU, RV, RH, ↓reduceIte, Nat.reduceEqDiff, reduceCtorEq, if_pos, ↓RS, RG, Nat.reduceAdd, Nat.reduceMul, Nat.reduceLeDiff, gF, setF]
  refine hK _ _ ?_
  clear hK K
  refine W.seq ?_
  refine W.seq_region fun K hK => ?_
  simp (disch := omega) only [↓RU, RV, RH, ↓reduceIte, Nat.reduceEqDiff, reduceCtorEq, if_pos, ↓RS, RG, Nat.reduceAdd, Nat.reduceMul, Nat.reduceLeDiff, gF, setF]
  refine hK _ _ ?_
  clear hK K
  refine W.block ?_
  refine W.loop [0, 1, 5] (fun n vs S => ∃ (i : Nat) (ts : List Int), n = l.length - i ∧ i ≤ l.length ∧ ts.length = l.length ∧ (∀ j : Nat, j < i → ts[j]? = some (k0 + j)) ∧ vs = [.loc F.length ver 0 l.length, .int .i64 (k0 + i), .int .i64 i] ∧ S = ⟨F ++ .arr ver 3 1 (ts.map (.int .i64)) :: R, t⟩) l.length ?_ ?_
  · refine ⟨_, 0, l, rfl, by omega, rfl, fun j h => absurd h (by omega), ?_, take_all⟩
    simp [Env.put, Env.of, argEnv]
  rintro n vs S - ⟨i, ts, rfl, h_i, hts, hd, rfl, rfl⟩
  refine W.seq ?_
  refine W.seq_region fun K hK => ?_
  simp (disch := omega) only [↓RU, RV, RH, ↓reduceIte, Nat.reduceEqDiff, reduceCtorEq, if_pos, w64, ↓RS, RG, Nat.reduceAdd, Nat.reduceMul, Nat.reduceLeDiff, tyLint, tyint, gF, setF]
  refine hK _ _ ?_
  clear hK K
  refine W.cond rfl (fun h => ?_) (fun h => ?_)
  · try simp only [RL] at h
    refine W.skip ?_
    refine XThen.norm ?_
    refine W.seq ?_
    refine W.block ?_
    refine W.seq_region fun K hK => ?_
    simp (disch := omega) only [↓RU, RV, RH, ↓reduceIte, Nat.reduceEqDiff, reduceCtorEq, if_pos, ↓RS, RG, Nat.reduceAdd, Nat.reduceMul, Nat.reduceLeDiff, tyLint, tyint, gF, setF, hts, set_spl, set_int]
    refine hK _ _ ?_
    clear hK K
    refine W.region_k fun K hK => ?_
    simp (disch := omega) only [↓RU, RV, RH, ↓reduceIte, Nat.reduceEqDiff, reduceCtorEq, if_pos, w64, ↓RS, RG, Nat.reduceAdd, Nat.reduceMul, Nat.reduceLeDiff, tyint, gF, setF]
    refine hK _ _ ?_
    clear hK K
    refine XBlock.norm ?_
    refine XThen.norm ?_
    refine W.region_k fun K hK => ?_
    simp (disch := omega) only [↓RU, RV, RH, ↓reduceIte, Nat.reduceEqDiff, reduceCtorEq, if_pos, w64, ↓RS, RG, Nat.reduceAdd, Nat.reduceMul, Nat.reduceLeDiff, tyint, gF, setF]
    refine hK _ _ ?_
    clear hK K
    refine XThen.norm ?_
    refine ⟨l.length - (i + 1), by omega, _, i + 1, ts.set i (k0 + i), rfl, by omega, by simpa using hts, held_succ hd (by omega), ?_, take_all⟩
    simp [Env.put, Env.of, Int.add_assoc]
  · try simp only [RL] at h
    obtain rfl : i = l.length := by omega
    refine W.exit ?_
    refine XThen.exit ?_
    refine XThen.exit ?_
    refine XBlock.hit ?_
    refine XThen.norm ?_
    refine W.seq_region fun K hK => ?_
    simp (disch := omega) only [↓RU, RV, RH, ↓reduceIte, Nat.reduceEqDiff, reduceCtorEq, if_pos, ↓RS, RG, Nat.reduceAdd, Nat.reduceMul, Nat.reduceLeDiff, gF, setF]
    refine hK _ _ ?_
    clear hK K
    refine W.ret ?_
    refine BodyQ.ret rfl ?_
    exact ⟨_, rfl, ts, hts, hd, take_all⟩

theorem heldIntS_pc {l : List Int} (hl : l.length ≤ 1048576) {k0 : Int} (hk0 : 0 ≤ k0) (hk1 : k0 ≤ 4294967296) (hd : ∀ j : Nat, j < l.length → l[j]? = some (k0 + j)) : PC Tryz.prog 46 [eInts l, .int .i64 k0] (.int .i64 (k0 + l.length)) true := by
  refine PC.of ⟨Tryz.func46, by kernel_rfl, rfl, by kernel_rfl⟩ tabOk mixed (by show 2 ≤ Tryz.f46.ntmps; decide) ?_
  refine W.seq_region fun K hK => ?_
  simp (disch := omega) only [↓RU, RV, RH, ↓reduceIte, Nat.reduceEqDiff, reduceCtorEq, if_pos]
  refine hK _ _ ?_
  clear hK K
  refine W.seq ?_
  refine W.seq_region fun K hK => ?_
  simp (disch := omega) only [↓RU, RV, RH, ↓reduceIte, Nat.reduceEqDiff, reduceCtorEq, if_pos]
  refine hK _ _ ?_
  clear hK K
  refine W.block ?_
  refine W.loop [0, 1, 5] (fun n vs S => ∃ i : Nat, n = l.length - i ∧ i ≤ l.length ∧ vs = [eInts l, .int .i64 (k0 + i), .int .i64 i] ∧ S = ⟨[], 0⟩) (l.length) ?_ ?_
  · refine ⟨0, 0, rfl, Nat.zero_le _, ?_, rfl⟩
    simp [Env.put, Env.of, argEnv]
  rintro n vs S - ⟨i, rfl, h_i, rfl, rfl⟩
  refine W.seq ?_
  refine W.seq_region fun K hK => ?_
  simp (disch := omega) only [↓RU, RV, RH, ↓reduceIte, Nat.reduceEqDiff, reduceCtorEq, if_pos, w64, tyLint, tyint]
  refine hK _ _ ?_
  clear hK K
  refine W.cond rfl (fun h => ?_) (fun h => ?_)
  · try simp only [RL] at h
    have hx := hd i (by omega)
    refine W.skip ?_
    refine XThen.norm ?_
    refine W.seq ?_
    refine W.block ?_
    refine W.seq ?_
    refine W.seq_region fun K hK => ?_
    have hne : ((k0 + (i : Int)) != (k0 + (i : Int))) = false := by simp
    simp (disch := omega) only [↓RU, RV, RH, ↓reduceIte, Nat.reduceEqDiff, reduceCtorEq, if_pos, w64, tyLint, tyint, hx]
    refine hK _ _ ?_
    clear hK K
    refine W.cond rfl (fun h1 => ?_) (fun h1 => ?_)
    · try simp only [RL] at h1
      exact absurd h1 (by simp)
    · try simp only [RL] at h1
      refine W.skip ?_
      refine XThen.norm ?_
      refine W.region_k fun K hK => ?_
      simp (disch := omega) only [↓RU, RV, RH, ↓reduceIte, Nat.reduceEqDiff, reduceCtorEq, if_pos, w64, tyint]
      refine hK _ _ ?_
      clear hK K
      refine XBlock.norm ?_
      refine XThen.norm ?_
      refine W.region_k fun K hK => ?_
      simp (disch := omega) only [↓RU, RV, RH, ↓reduceIte, Nat.reduceEqDiff, reduceCtorEq, if_pos, w64, tyint]
      refine hK _ _ ?_
      clear hK K
      refine XThen.norm ?_
      refine ⟨l.length - (i + 1), by omega, 0, i + 1, rfl, by omega, ?_, rfl⟩
      simp [Env.put, Env.of, Int.add_assoc]
  · try simp only [RL] at h
    obtain rfl : i = l.length := by omega
    refine W.exit ?_
    refine XThen.exit ?_
    refine XThen.exit ?_
    refine XBlock.hit ?_
    refine XThen.norm ?_
    refine W.seq_region fun K hK => ?_
    simp (disch := omega) only [↓RU, RV, RH, ↓reduceIte, Nat.reduceEqDiff, reduceCtorEq, if_pos]
    refine hK _ _ ?_
    clear hK K
    refine W.ret ?_
    refine BodyQ.ret rfl ?_
    rfl

theorem markIntS0_pc (k0 : Int) : PC Tryz.prog 45 [eInts [], .int .i64 k0] (.int .i64 k0) true := by
  refine PC.of ⟨Tryz.func45, by kernel_rfl, rfl, by kernel_rfl⟩ tabOk mixed (by show 2 ≤ Tryz.f45.ntmps; decide) ?_
  refine W.seq_region fun K hK => ?_
  simp (disch := omega) only [↓RU, RV, RH, ↓reduceIte, Nat.reduceEqDiff, reduceCtorEq, if_pos, ↓RS, RG, Nat.reduceAdd, Nat.reduceMul, Nat.reduceLeDiff]
  refine hK _ _ ?_
  clear hK K
  refine W.seq ?_
  refine W.seq_region fun K hK => ?_
  simp (disch := omega) only [↓RU, RV, RH, ↓reduceIte, Nat.reduceEqDiff, reduceCtorEq, if_pos, ↓RS, RG, Nat.reduceAdd, Nat.reduceMul, Nat.reduceLeDiff]
  refine hK _ _ ?_
  clear hK K
  refine W.block ?_
  refine W.loop [0, 1, 5] (fun n vs S => n = 0 ∧ vs = [eInts [], .int .i64 k0, .int .i64 0] ∧ S = ⟨[], 0⟩) 0 ?_ ?_
  · refine ⟨0, rfl, ?_, rfl⟩
    simp [Env.put, Env.of, argEnv]
  rintro n vs S - ⟨rfl, rfl, rfl⟩
  refine W.seq ?_
  refine W.seq_region fun K hK => ?_
  simp (disch := omega) only [↓RU, RV, RH, ↓reduceIte, Nat.reduceEqDiff, reduceCtorEq, if_pos, w64, ↓RS, RG, Nat.reduceAdd, Nat.reduceMul, Nat.reduceLeDiff, tyLint, tyint]
  refine hK _ _ ?_
  clear hK K
  refine W.cond rfl (fun h => ?_) (fun h => ?_)
  · try simp only [RL] at h
    exact absurd h (by simp)
  · try simp only [RL] at h
    refine W.exit ?_
    refine XThen.exit ?_
    refine XThen.exit ?_
    refine XBlock.hit ?_
    refine XThen.norm ?_
    refine W.seq_region fun K hK => ?_
    simp (disch := omega) only [↓RU, RV, RH, ↓reduceIte, Nat.reduceEqDiff, reduceCtorEq, if_pos, ↓RS, RG, Nat.reduceAdd, Nat.reduceMul, Nat.reduceLeDiff]
    refine hK _ _ ?_
    clear hK K
    refine W.ret ?_
    refine BodyQ.ret rfl ?_
    rfl

end Fw
end Go.Proofs.YtcglmbijpjhbmaaGreat

/-! Places and slack by the specification, gone through. -/
namespace Go.Proofs.YtcglmbijpjhbmaaGreat
namespace Fw
open Go

end Fw
end Go.Proofs.YtcglmbijpjhbmaaGreat

/-! Shapes in plain words: the program's least shapes are the specification's. -/
namespace Go.Proofs.YtcglmbijpjhbmaaGreat
namespace Fw
open Go

/-- A shape put to best ones. -/
def domB (x : Int × Int) (w h : Int) : Bool := decide (x.1 ≤ w) && decide (x.2 ≤ h)
def putStep (w h : Int) (s : List (Int × Int) × Bool) (x : Int × Int) : List (Int × Int) × Bool :=
  if w ≤ x.1 ∧ h ≤ x.2 then s else if s.2 = false ∧ w < x.1 then (s.1 ++ [(w, h), x], true) else (s.1 ++ [x], s.2)
def putF (l : List (Int × Int)) (w h : Int) : List (Int × Int) × Bool := l.foldl (putStep w h) ([], false)
def put (l : List (Int × Int)) (w h : Int) : List (Int × Int) := if l.any (fun x => domB x w h) then l else if (putF l w h).2 then (putF l w h).1 else (putF l w h).1 ++ [(w, h)]
end Fw
end Go.Proofs.YtcglmbijpjhbmaaGreat

/-! A relation the other way round, place by place. -/
namespace Go.Proofs.YtcglmbijpjhbmaaGreat
namespace Fw
open Go

section
variable {n : Nat} {M X : List (List Bool)}
def rvB (M : List (List Bool)) (a : Nat) (X : List (List Bool)) (b : Nat) : List (List Bool) := setB X b a (getB M a b)
def rvA (n : Nat) (M : List (List Bool)) (X : List (List Bool)) (a : Nat) : List (List Bool) := (List.range n).foldl (rvB M a) X
def rv (n : Nat) (M : List (List Bool)) : List (List Bool) := (List.range n).foldl (rvA n M) (emptyM n)
end
end Fw
end Go.Proofs.YtcglmbijpjhbmaaGreat

/-! Places and slack by the program, gone through. -/
namespace Go.Proofs.YtcglmbijpjhbmaaGreat
namespace Fw
open Go

theorem rn_rep0 {S : Store} {k f n : Nat} {sel : List Nat} : (List.replicate n (PV.int .i64 0)).mapM (rn S k sel (f + 1)) = some (List.replicate n (PV.int .i64 0)) := rn_scal (by simp [List.all_replicate, scal])
theorem sh_one2 {S : Store} {im : Bool} {v et n : Nat} {b : Bool} {cells : List PV} (hS : S.obs = [.arr v et 1 cells]) (hc : cells.mapM (sh (S.take 1) im 10) = some cells) : ∃ k, sh (S.take k) im 10 (.tup [.loc 0 v 0 n, .bool b]) = some (.tup [.loc 0 0 0 n, .bool b]) ∧ shObs (S.take k) im (S.take k).obs = some [.arr 0 et 1 cells] := by
  refine ⟨1, ?_, ?_⟩
  · simp [sh, Store.take, hS]
  · simp only [Store.take, hS] at hc ⊢
    simp only [List.take_succ_cons, List.take_zero] at hc ⊢
    simp only [shObs, shOb, hc]
    rfl
end Fw
end Go.Proofs.YtcglmbijpjhbmaaGreat

/-! Rooms in order by the program, gone through. -/
namespace Go.Proofs.YtcglmbijpjhbmaaGreat
namespace Fw
open Go

theorem before_pc {L A : List (List Bool)} {n a b : Nat} (hL : Sq n L) (hA : Sq n A) (ha : a < n) (hb : b < n) : PC Tryz.prog 92 [(.agg [eRel L, eRel A]), .int .i64 a, .int .i64 b] (.bool (getB L a b || getB A a b)) true := by
  have hL1 := hL.1
  have hA1 := hA.1
  obtain ⟨row, hrow, hrl, hrb⟩ := hL.at_ ha hb
  obtain ⟨sow, hsow, hsl, hsb⟩ := hA.at_ ha hb
  refine PC.of ⟨Tryz.func92, by kernel_rfl, rfl, by kernel_rfl⟩ tabOk mixed (by show 3 ≤ Tryz.f92.ntmps; decide) ?_
  refine W.seq_region fun K hK => ?_
  simp (disch := omega) only [↓RU, RV, RH, ↓reduceIte, Nat.reduceEqDiff, reduceCtorEq, if_pos, ↓RS, RG, Nat.reduceAdd, Nat.reduceMul, Nat.reduceLeDiff, tyLLbool, tyLbool, tybool, tyimpl_orders, tyimpl_relation, tystruct_left_impl_relation_above_impl_relation_]
  refine hK _ _ ?_
  clear hK K
  refine W.seq_region fun K hK => ?_
  cases hc : getB L a b
  · skip
    rw [hc] at hrb
    simp (disch := omega) only [↓RU, RV, RH, ↓reduceIte, Nat.reduceEqDiff, reduceCtorEq, if_pos, ↓RS, RG, Nat.reduceAdd, Nat.reduceMul, Nat.reduceLeDiff, tyLLbool, tyLbool, tybool, tyimpl_orders, tyimpl_relation, tystruct_left_impl_relation_above_impl_relation_, hrow, hrl, hrb, hsow, hsl, hsb, hL1, hA1]
    refine hK _ _ ?_
    clear hK K
    refine W.ret ?_
    refine BodyQ.ret rfl ?_
    rw [hc]
    rfl
  · skip
    rw [hc] at hrb
    simp (disch := omega) only [↓RU, RV, RH, ↓reduceIte, Nat.reduceEqDiff, reduceCtorEq, if_pos, ↓RS, RG, Nat.reduceAdd, Nat.reduceMul, Nat.reduceLeDiff, tyLLbool, tyLbool, tybool, tyimpl_orders, tyimpl_relation, tystruct_left_impl_relation_above_impl_relation_, hrow, hrl, hrb, hsow, hsl, hsb, hL1, hA1]
    refine hK _ _ ?_
    clear hK K
    refine W.ret ?_
    refine BodyQ.ret rfl ?_
    rw [hc]
    rfl

theorem beforeSecond_pc {L A : List (List Bool)} {n a b : Nat} (hL : Sq n L) (hA : Sq n A) (ha : a < n) (hb : b < n) : PC Tryz.prog 86 [(.agg [eRel L, eRel A]), .int .i64 a, .int .i64 b] (.bool (getB L a b || getB A b a)) true := by
  have hL1 := hL.1
  have hA1 := hA.1
  obtain ⟨row, hrow, hrl, hrb⟩ := hL.at_ ha hb
  obtain ⟨sow, hsow, hsl, hsb⟩ := hA.at_ hb ha
  refine PC.of ⟨Tryz.func86, by kernel_rfl, rfl, by kernel_rfl⟩ tabOk mixed (by show 3 ≤ Tryz.f86.ntmps; decide) ?_
  refine W.seq_region fun K hK => ?_
  simp (disch := omega) only [↓RU, RV, RH, ↓reduceIte, Nat.reduceEqDiff, reduceCtorEq, if_pos, ↓RS, RG, Nat.reduceAdd, Nat.reduceMul, Nat.reduceLeDiff, tyLLbool, tyLbool, tybool, tyimpl_orders, tyimpl_relation, tystruct_left_impl_relation_above_impl_relation_]
  refine hK _ _ ?_
  clear hK K
  refine W.seq_region fun K hK => ?_
  cases hc : getB L a b
  · skip
    rw [hc] at hrb
    simp (disch := omega) only [↓RU, RV, RH, ↓reduceIte, Nat.reduceEqDiff, reduceCtorEq, if_pos, ↓RS, RG, Nat.reduceAdd, Nat.reduceMul, Nat.reduceLeDiff, tyLLbool, tyLbool, tybool, tyimpl_orders, tyimpl_relation, tystruct_left_impl_relation_above_impl_relation_, hrow, hrl, hrb, hsow, hsl, hsb, hL1, hA1]
    refine hK _ _ ?_
    clear hK K
    refine W.ret ?_
    refine BodyQ.ret rfl ?_
    rw [hc]
    rfl
  · skip
    rw [hc] at hrb
    simp (disch := omega) only [↓RU, RV, RH, ↓reduceIte, Nat.reduceEqDiff, reduceCtorEq, if_pos, ↓RS, RG, Nat.reduceAdd, Nat.reduceMul, Nat.reduceLeDiff, tyLLbool, tyLbool, tybool, tyimpl_orders, tyimpl_relation, tystruct_left_impl_relation_above_impl_relation_, hrow, hrl, hrb, hsow, hsl, hsb, hL1, hA1]
    refine hK _ _ ?_
    clear hK K
    refine W.ret ?_
    refine BodyQ.ret rfl ?_
    rw [hc]
    rfl

/-- What the program's comparison answers. -/
def cmV (b1 b2 : Bool) : Int := if b1 then -1 else if b2 then 1 else 0
theorem cmV_lt {b1 b2 : Bool} : cmV b1 b2 < 0 ↔ b1 = true := by cases b1 <;> cases b2 <;> simp [cmV]

theorem sorted1_pc {q : FuncId} {L A : List (List Bool)} {x y : Int} {b1 b2 : Bool} (h1 : PC Tryz.prog q [(.agg [eRel L, eRel A]), .int .i64 x, .int .i64 y] (.bool b1) true) (h2 : PC Tryz.prog q [(.agg [eRel L, eRel A]), .int .i64 y, .int .i64 x] (.bool b2) true) : PC Tryz.prog 115 [.int .i64 x, .int .i64 y, .ip [.bm q (.agg [eRel L, eRel A])] 0] (.int .i64 (cmV b1 b2)) true := by
  refine PC.of ⟨Tryz.func115, by kernel_rfl, rfl, by kernel_rfl⟩ tabOk mixed (by show 3 ≤ Tryz.f115.ntmps; decide) ?_
  refine W.seq_region fun K hK => ?_
  simp (disch := omega) only [↓RU, RV, RH, ↓reduceIte, Nat.reduceEqDiff, reduceCtorEq, if_pos, ↓RS, RG, Nat.reduceAdd, Nat.reduceMul, Nat.reduceLeDiff]
  refine hK _ _ ?_
  clear hK K
  refine W.seq ?_
  refine W.block ?_
  refine W.seq_region fun K hK => ?_
  simp (disch := omega) only [↓RU, RV, RH, ↓reduceIte, Nat.reduceEqDiff, reduceCtorEq, if_pos, List.append_nil, ↓RS, RG, Nat.reduceAdd, Nat.reduceMul, Nat.reduceLeDiff, tyfunc_int_int_bool]
  refine CallR.pc (h1) rfl (.inl rfl) ?_
  simp (disch := omega) only [↓RU, RV, RH, ↓reduceIte, Nat.reduceEqDiff, reduceCtorEq, if_pos, List.append_nil, ↓RS, RG, Nat.reduceAdd, Nat.reduceMul, Nat.reduceLeDiff, tyfunc_int_int_bool]
  refine hK _ _ ?_
  clear hK K
  refine W.cond rfl (fun k1 => ?_) (fun k1 => ?_)
  · try simp only [RL] at k1
    refine W.seq_region fun K hK => ?_
    simp (disch := omega) only [↓RU, RV, RH, ↓reduceIte, Nat.reduceEqDiff, reduceCtorEq, if_pos, ↓RS, RG, Nat.reduceAdd, Nat.reduceMul, Nat.reduceLeDiff]
    refine hK _ _ ?_
    clear hK K
    refine W.ret ?_
    refine XBlock.ret ?_
    refine XThen.ret ?_
    refine BodyQ.ret rfl ?_
    subst k1
    rfl
  · try simp only [RL] at k1
    refine W.seq_region fun K hK => ?_
    simp (disch := omega) only [↓RU, RV, RH, ↓reduceIte, Nat.reduceEqDiff, reduceCtorEq, if_pos, List.append_nil, ↓RS, RG, Nat.reduceAdd, Nat.reduceMul, Nat.reduceLeDiff, tyfunc_int_int_bool]
    refine CallR.pc (h2) rfl (.inl rfl) ?_
    simp (disch := omega) only [↓RU, RV, RH, ↓reduceIte, Nat.reduceEqDiff, reduceCtorEq, if_pos, List.append_nil, ↓RS, RG, Nat.reduceAdd, Nat.reduceMul, Nat.reduceLeDiff, tyfunc_int_int_bool]
    refine hK _ _ ?_
    clear hK K
    refine W.cond rfl (fun k2 => ?_) (fun k2 => ?_)
    · try simp only [RL] at k2
      refine W.seq_region fun K hK => ?_
      simp (disch := omega) only [↓RU, RV, RH, ↓reduceIte, Nat.reduceEqDiff, reduceCtorEq, if_pos, ↓RS, RG, Nat.reduceAdd, Nat.reduceMul, Nat.reduceLeDiff]
      refine hK _ _ ?_
      clear hK K
      refine W.ret ?_
      refine XBlock.ret ?_
      refine XThen.ret ?_
      refine BodyQ.ret rfl ?_
      have k1 : b1 = false := by simpa using k1
      subst k1
      subst k2
      rfl
    · try simp only [RL] at k2
      refine W.skip ?_
      refine XBlock.norm ?_
      refine XThen.norm ?_
      refine W.seq_region fun K hK => ?_
      simp (disch := omega) only [↓RU, RV, RH, ↓reduceIte, Nat.reduceEqDiff, reduceCtorEq, if_pos, ↓RS, RG, Nat.reduceAdd, Nat.reduceMul, Nat.reduceLeDiff]
      refine hK _ _ ?_
      clear hK K
      refine W.ret ?_
      refine BodyQ.ret rfl ?_
      have k1 : b1 = false := by simpa using k1
      have k2 : b2 = false := by simpa using k2
      subst k1
      subst k2
      rfl

theorem pure_oa {L A : List (List Bool)} : pureV 10 (.agg [eRel L, eRel A]) = true := rfl
section
variable {S : Store} {fr : Nat → Bool} {f : Nat}
theorem rfq_ref {o ver off : Nat} : rfq S fr (f + 1) (.ref o ver off) = if fr o = true then (S.cellsOf o ver).bind fun cells => (cells.mapM (rfq S fr f)).map (.ip · off) else none := rfl
theorem rfq_bm {g : FuncId} {b : PV} : rfq S fr (f + 1) (.bm g b) = some (.bm g b) := rfl
theorem cells_bm {g : FuncId} {b : PV} : (PV.bm g b).cells = [.bm g b] := rfl
theorem ic_bm {g : FuncId} {b : PV} : (PV.bm g b).isCell = true := rfl
end

theorem sorted_pn {q : FuncId} {L A : List (List Bool)} {n : Nat} (hL : Sq n L) (h1 : 1 ≤ n) (h9 : n ≤ 9) {bf : Nat → Nat → Bool} {f : Nat → Nat} (hq : ∀ a b : Nat, a < n → b < n → PC Tryz.prog q [(.agg [eRel L, eRel A]), .int .i64 a, .int .i64 b] (.bool (bf a b)) true) (hf : ∀ a b, a < n → b < n → (bf a b = true ↔ f a < f b)) {Z : List Int} (hZ : ∀ z : List Int, z.Perm (rooms n) → (z.map fun x => ((f x.toNat : Nat) : Int)).Pairwise (· ≤ ·) → z = Z) : PN Tryz.prog 85 [(.agg [eRel L, eRel A]), .bm q (.agg [eRel L, eRel A])] (.loc 0 0 0 n) [.arr 0 3 1 (Z.map (.int .i64))] false := by
  have hL1 := hL.1
  obtain ⟨l, hl, hln⟩ : ∃ l, l = rooms n ∧ l.length = n := ⟨_, rfl, rooms_len⟩
  subst hln
  have hmem : ∀ x, x ∈ l → ∃ a : Nat, x = a ∧ a < l.length := fun x hx => by rw [hl, mem_rooms] at hx; exact ⟨x.toNat, by omega, by omega⟩
  have hcm : ∀ x y, x ∈ l → y ∈ l → PC Tryz.prog 115 [.int .i64 x, .int .i64 y, .ip [.bm q (.agg [eRel L, eRel A])] 0] (.int .i64 (cmV (bf x.toNat y.toNat) (bf y.toNat x.toNat))) true := fun x y hx hy => by
    obtain ⟨a, rfl, ha⟩ := hmem x hx
    obtain ⟨b, rfl, hb⟩ := hmem y hy
    exact sorted1_pc (hq a b ha hb) (hq b a hb ha)
  have hlt : ∀ x y, x ∈ l → y ∈ l → (cmV (bf x.toNat y.toNat) (bf y.toNat x.toNat) < 0 ↔ (fun x : Int => ((f x.toNat : Nat) : Int)) x < (fun x : Int => ((f x.toNat : Nat) : Int)) y) := fun x y hx hy => by
    obtain ⟨a, rfl, ha⟩ := hmem x hx
    obtain ⟨b, rfl, hb⟩ := hmem y hy
    rw [cmV_lt, hf _ _ (by simpa using ha) (by simpa using hb)]
    simp only; omega
  refine PN.of ⟨Tryz.func85, by kernel_rfl, rfl, by kernel_rfl⟩ tabOk mixed (by show 2 ≤ Tryz.f85.ntmps; decide) ?_
  refine W.seq_region fun K hK => ?_
  simp (disch := omega) only [↓RU, RV, RH, ↓reduceIte, Nat.reduceEqDiff, reduceCtorEq, if_pos, ↓RS, RG, Nat.reduceAdd, Nat.reduceMul, Nat.reduceLeDiff, tyLLbool, tyLbool, tybool, tyfunc_int_int_bool, tyimpl_orders, tyimpl_relation, tystruct_left_impl_relation_above_impl_relation_, cells_bm, ic_bm]
  refine hK _ _ ?_
  clear hK K
  refine W.joinS [3, 5] (fun vs S => ∃ t tk : Nat, vs = [.ip [.bm q (.agg [eRel L, eRel A])] 0, .loc 0 t 0 l.length] ∧ S = ⟨[.arr t 3 1 ((List.replicate l.length 0).map (.int .i64))], tk⟩) ?_ ?_
  ·
    refine W.region_k fun K hK => ?_
    simp (disch := omega) only [↓RU, RV, RH, ↓reduceIte, Nat.reduceEqDiff, reduceCtorEq, if_pos, ↓RS, RG, Nat.reduceAdd, Nat.reduceMul, Nat.reduceLeDiff, tyLLbool, tyLbool, tyLint, tybool, tyimpl_orders, tyimpl_relation, tyint, tystruct_left_impl_relation_above_impl_relation_, hL1, repz_int, ile_true]
    refine hK _ _ ?_
    clear hK K
    refine XThen.norm ?_
    refine ⟨0, [2], [.ip [.bm q (.agg [eRel L, eRel A])] 0, .loc 0 3 0 l.length], ⟨[.arr 3 3 1 ((List.replicate l.length 0).map (.int .i64))], 4⟩, ?_, ?_, 3, 4, rfl, rfl⟩
    · simp [-List.mapM_map, Env.put, Env.of, argEnv, Srn_eq, rnObs_cons, rnObs_nil, rnOb_arr, rnOb_map, rn_loc, rn_ref, rn_mp, rn_int, rn_bool, rn_str, rn_ip, rn_sl, rn_nils, rn_nilp, rn_undef, rn_agg, rn_tup, rn_fn, rfq_loc, rfq_int, rfq_bool, rfq_str, rfq_sl, frOf, List.range_succ, List.mapM_append, List.mapM_cons, rfq_ref, rfq_bm, Store.cellsOf]
    · simp [-List.mapM_map, Env.put, Env.of, argEnv, Srn_eq, rnObs_cons, rnObs_nil, rnOb_arr, rnOb_map, rn_loc, rn_ref, rn_mp, rn_int, rn_bool, rn_str, rn_ip, rn_sl, rn_nils, rn_nilp, rn_undef, rn_agg, rn_tup, rn_fn, rfq_loc, rfq_int, rfq_bool, rfq_str, rfq_sl, frOf, List.range_succ, List.mapM_append, List.mapM_cons, rn_rep0]
  rintro vs S - ⟨t0, tk0, rfl, rfl⟩
  refine W.seq ?_
  refine W.seq_region fun K hK => ?_
  simp (disch := omega) only [↓RU, RV, RH, ↓reduceIte, Nat.reduceEqDiff, reduceCtorEq, if_pos, ↓RS, RG, Nat.reduceAdd, Nat.reduceMul, Nat.reduceLeDiff, tyLint, tyint]
  refine hK _ _ ?_
  clear hK K
  refine W.block ?_
  refine W.loop [3, 5, 12, 13] (fun n vs S => ∃ i t tk : Nat, n = l.length - i ∧ i ≤ l.length ∧ vs = [.ip [.bm q (.agg [eRel L, eRel A])] 0, .loc 0 t 0 l.length, .int .i64 l.length, .int .i64 i] ∧ S = ⟨[.arr t 3 1 ((l.take i ++ List.replicate (l.length - i) 0).map (.int .i64))], tk⟩) l.length ?_ ?_
  · refine ⟨1, 0, t0, tk0, rfl, by omega, ?_, by simp [Store.take]⟩
    simp [Env.put, Env.of, argEnv]
  rintro n vs S - ⟨i, t, tk, rfl, h_i, rfl, rfl⟩
  refine W.seq_region fun K hK => ?_
  simp (disch := omega) only [↓RU, RV, RH, ↓reduceIte, Nat.reduceEqDiff, reduceCtorEq, if_pos, w64, ↓RS, RG, Nat.reduceAdd, Nat.reduceMul, Nat.reduceLeDiff, tyint]
  refine hK _ _ ?_
  clear hK K
  refine W.seq ?_
  refine W.cond rfl (fun h => ?_) (fun h => ?_)
  · try simp only [RL] at h
    have hix : l[i]? = some (i : Int) := by rw [hl]; exact rooms_at (by omega)
    have hol : (l.take i ++ List.replicate (l.length - i) 0).length = l.length := by simp; omega
    refine W.skip ?_
    refine XThen.norm ?_
    refine W.seq ?_
    refine W.block ?_
    refine W.seq_region fun K hK => ?_
    simp (disch := omega) only [↓RU, RV, RH, ↓reduceIte, Nat.reduceEqDiff, reduceCtorEq, if_pos, ↓RS, RG, Nat.reduceAdd, Nat.reduceMul, Nat.reduceLeDiff]
    refine hK _ _ ?_
    clear hK K
    refine W.region_k fun K hK => ?_
    simp (disch := omega) only [↓RU, RV, RH, ↓reduceIte, Nat.reduceEqDiff, reduceCtorEq, if_pos, ↓RS, RG, Nat.reduceAdd, Nat.reduceMul, Nat.reduceLeDiff, tyLint, tyint, set_spl, set_int, hol]
    refine hK _ _ ?_
    clear hK K
    refine XBlock.norm ?_
    refine XThen.norm ?_
    refine W.region_k fun K hK => ?_
    simp (disch := omega) only [↓RU, RV, RH, ↓reduceIte, Nat.reduceEqDiff, reduceCtorEq, if_pos, w64, ↓RS, RG, Nat.reduceAdd, Nat.reduceMul, Nat.reduceLeDiff, tyint]
    refine hK _ _ ?_
    clear hK K
    refine XThen.norm ?_
    refine ⟨l.length - (i + 1), by omega, 1, i + 1, t, tk, rfl, by omega, ?_, ?_⟩
    · simp [Env.put, Env.of]
    · simp only [take_eq, copy_succ hix]; rfl
  · try simp only [RL] at h
    obtain rfl : l.length = i := by omega
    rw [List.take_length, Nat.sub_self]
    simp only [List.replicate_zero, List.append_nil]
    refine W.exit ?_
    refine XThen.exit ?_
    refine XThen.exit ?_
    refine XBlock.hit ?_
    refine XThen.norm ?_
    refine W.seq_region fun K hK => ?_
    simp (disch := omega) only [↓RU, RV, RH, ↓reduceIte, Nat.reduceEqDiff, reduceCtorEq, if_pos, List.append_nil, ↓RS, RG, Nat.reduceAdd, Nat.reduceMul, Nat.reduceLeDiff]
    refine CallR.ev (sortF_ev (F := []) (R := []) hcm hlt h9 h1) ?_
    rintro _ _ ⟨rfl, z, hz1, hz2, rfl⟩
    simp (disch := omega) only [↓RU, RV, RH, ↓reduceIte, Nat.reduceEqDiff, reduceCtorEq, if_pos, List.append_nil, ↓RS, RG, Nat.reduceAdd, Nat.reduceMul, Nat.reduceLeDiff]
    refine hK _ _ ?_
    clear hK K
    refine W.seq_region fun K hK => ?_
    simp (disch := omega) only [↓RU, RV, RH, ↓reduceIte, Nat.reduceEqDiff, reduceCtorEq, if_pos, ↓RS, RG, Nat.reduceAdd, Nat.reduceMul, Nat.reduceLeDiff]
    refine hK _ _ ?_
    clear hK K
    refine W.ret ?_
    refine BodyQ.ret rfl ?_
    have e := hZ z (by rw [← hl]; exact hz1) hz2
    subst e
    exact sh_one rfl (sh_ints _)

end Fw
end Go.Proofs.YtcglmbijpjhbmaaGreat

/-! The first and the second order, gone through. -/
namespace Go.Proofs.YtcglmbijpjhbmaaGreat
namespace Fw
open Go

theorem orderFirst_no {p : List Txt} (hs : Sm p) (hv : plainI p = false) : PC Tryz.prog 52 [eStrs p] (.tup [eInts [], .bool false]) true := by
  refine PC.of ⟨Tryz.func52, by kernel_rfl, rfl, by kernel_rfl⟩ tabOk mixed (by show 1 ≤ Tryz.f52.ntmps; decide) ?_
  refine W.seq_region fun K hK => ?_
  simp (disch := omega) only [↓RU, RV, RH, ↓reduceIte, Nat.reduceEqDiff, reduceCtorEq, if_pos, ↓RS, RG, Nat.reduceAdd, Nat.reduceMul, Nat.reduceLeDiff]
  refine hK _ _ ?_
  clear hK K
  refine W.seq_region fun K hK => ?_
  simp (disch := omega) only [↓RU, RV, RH, ↓reduceIte, Nat.reduceEqDiff, reduceCtorEq, if_pos, List.append_nil, ↓RS, RG, Nat.reduceAdd, Nat.reduceMul, Nat.reduceLeDiff, tyLLbool, tyLbool, tybool, tyimpl_orders, tyimpl_relation, tystruct_left_impl_relation_above_impl_relation_]
  refine CallR.pc (ordersOf_no hs hv) rfl (.inr rfl) ?_
  simp (disch := omega) only [↓RU, RV, RH, ↓reduceIte, Nat.reduceEqDiff, reduceCtorEq, if_pos, List.append_nil, ↓RS, RG, Nat.reduceAdd, Nat.reduceMul, Nat.reduceLeDiff, tyLLbool, tyLbool, tybool, tyimpl_orders, tyimpl_relation, tystruct_left_impl_relation_above_impl_relation_]
  refine hK _ _ ?_
  clear hK K
  refine W.seq ?_
  refine W.seq_region fun K hK => ?_
  simp (disch := omega) only [↓RU, RV, RH, ↓reduceIte, Nat.reduceEqDiff, reduceCtorEq, if_pos, ↓RS, RG, Nat.reduceAdd, Nat.reduceMul, Nat.reduceLeDiff]
  refine hK _ _ ?_
  clear hK K
  refine W.cond rfl (fun h => ?_) (fun h => ?_)
  · try simp only [RL] at h
    refine W.seq_region fun K hK => ?_
    simp (disch := omega) only [↓RU, RV, RH, ↓reduceIte, Nat.reduceEqDiff, reduceCtorEq, if_pos, ↓RS, RG, Nat.reduceAdd, Nat.reduceMul, Nat.reduceLeDiff]
    refine hK _ _ ?_
    clear hK K
    refine W.ret ?_
    refine XThen.ret ?_
    refine BodyQ.ret rfl ?_
    rfl
  · try simp only [RL] at h
    exact absurd h (by simp)

theorem orderFirst_yes {p : List Txt} (hs : Sm p) (hv : plainI p = true) : PN Tryz.prog 52 [eStrs p] (.tup [.loc 0 0 0 (rP p).length, .bool true]) [.arr 0 3 1 ((srt p false).map (.int .i64))] false := by
  have hok := (plain_okB hv).1
  have hn9 := okB_rooms hok
  have hn1 := okB_rooms1 hok
  have hlq := lfM_sq hv
  have haq := abM_sq hv
  have hp : plainB p = true := by rw [← plainI_plain]; exact hv
  obtain ⟨f, hf, hi⟩ := bf_rank hp false
  have hq : ∀ a b : Nat, a < (rP p).length → b < (rP p).length → PC Tryz.prog 92 [(.agg [eRel (lfM p), eRel (abM p)]), .int .i64 a, .int .i64 b] (.bool (bfK p false a b)) true := fun a b ha hb => before_pc hlq haq ha hb
  refine PN.of ⟨Tryz.func52, by kernel_rfl, rfl, by kernel_rfl⟩ tabOk mixed (by show 1 ≤ Tryz.f52.ntmps; decide) ?_
  refine W.seq_region fun K hK => ?_
  simp (disch := omega) only [↓RU, RV, RH, ↓reduceIte, Nat.reduceEqDiff, reduceCtorEq, if_pos, ↓RS, RG, Nat.reduceAdd, Nat.reduceMul, Nat.reduceLeDiff]
  refine hK _ _ ?_
  clear hK K
  refine W.seq_region fun K hK => ?_
  simp (disch := omega) only [↓RU, RV, RH, ↓reduceIte, Nat.reduceEqDiff, reduceCtorEq, if_pos, List.append_nil, ↓RS, RG, Nat.reduceAdd, Nat.reduceMul, Nat.reduceLeDiff, tyLLbool, tyLbool, tybool, tyimpl_orders, tyimpl_relation, tystruct_left_impl_relation_above_impl_relation_]
  refine CallR.pc (ordersOf_yes hs hv) rfl (.inr rfl) ?_
  simp (disch := omega) only [↓RU, RV, RH, ↓reduceIte, Nat.reduceEqDiff, reduceCtorEq, if_pos, List.append_nil, ↓RS, RG, Nat.reduceAdd, Nat.reduceMul, Nat.reduceLeDiff, tyLLbool, tyLbool, tybool, tyimpl_orders, tyimpl_relation, tystruct_left_impl_relation_above_impl_relation_]
  refine hK _ _ ?_
  clear hK K
  refine W.seq ?_
  refine W.seq_region fun K hK => ?_
  simp (disch := omega) only [↓RU, RV, RH, ↓reduceIte, Nat.reduceEqDiff, reduceCtorEq, if_pos, ↓RS, RG, Nat.reduceAdd, Nat.reduceMul, Nat.reduceLeDiff]
  refine hK _ _ ?_
  clear hK K
  refine W.cond rfl (fun h => ?_) (fun h => ?_)
  · try simp only [RL] at h
    exact absurd h (by simp)
  · try simp only [RL] at h
    refine W.skip ?_
    refine XThen.norm ?_
    refine W.joinS [2, 3] (fun vs S => ∃ t tk : Nat, vs = [.loc 0 t 0 (rP p).length, .bool true] ∧ S = ⟨[.arr t 3 1 ((srt p false).map (.int .i64))], tk⟩) ?_ ?_
    ·
      refine W.region_k fun K hK => ?_
      simp (disch := omega) only [↓RU, RV, RH, ↓reduceIte, Nat.reduceEqDiff, reduceCtorEq, if_pos, List.append_nil, ↓RS, RG, Nat.reduceAdd, Nat.reduceMul, Nat.reduceLeDiff, tyLLbool, tyLbool, tybool, tyimpl_orders, tyimpl_relation, tystruct_left_impl_relation_above_impl_relation_, pure_oa, List.isEmpty_nil, Bool.and_self]
      refine CallR.pn (sorted_pn hlq hn1 hn9 hq hf (fun z h1 h2 => srt_is hf hi h1 h2)) rfl (.inl rfl) ?_
      simp (disch := omega) only [↓RU, RV, RH, ↓reduceIte, Nat.reduceEqDiff, reduceCtorEq, if_pos, List.append_nil, ↓RS, RG, Nat.reduceAdd, Nat.reduceMul, Nat.reduceLeDiff, tyLLbool, tyLbool, tybool, tyimpl_orders, tyimpl_relation, tystruct_left_impl_relation_above_impl_relation_, pure_oa, List.isEmpty_nil, Bool.and_self, RN]
      refine hK _ _ ?_
      clear hK K
      refine XThen.norm ?_
      refine ⟨0, [1], [.loc 0 2 0 (rP p).length, .bool true], ⟨[.arr 2 3 1 ((srt p false).map (.int .i64))], 3⟩, ?_, ?_, 2, 3, rfl, rfl⟩
      · simp [-List.mapM_map, Env.put, Env.of, argEnv, Srn_eq, rnObs_cons, rnObs_nil, rnOb_arr, rnOb_map, rn_loc, rn_ref, rn_mp, rn_int, rn_bool, rn_str, rn_ip, rn_sl, rn_nils, rn_nilp, rn_undef, rn_agg, rn_tup, rn_fn, rfq_loc, rfq_int, rfq_bool, rfq_str, rfq_sl, frOf, List.range_succ, List.mapM_append, List.mapM_cons, Store.cellsOf]
      · simp [-List.mapM_map, Env.put, Env.of, argEnv, Srn_eq, rnObs_cons, rnObs_nil, rnOb_arr, rnOb_map, rn_loc, rn_ref, rn_mp, rn_int, rn_bool, rn_str, rn_ip, rn_sl, rn_nils, rn_nilp, rn_undef, rn_agg, rn_tup, rn_fn, rfq_loc, rfq_int, rfq_bool, rfq_str, rfq_sl, frOf, List.range_succ, List.mapM_append, List.mapM_cons, rn_ints]
    rintro vs S - ⟨t0, tk0, rfl, rfl⟩
    refine W.ret ?_
    refine BodyQ.ret rfl ?_
    exact sh_one2 rfl (sh_ints _)

theorem orderSecond_no {p : List Txt} (hs : Sm p) (hv : plainI p = false) : PC Tryz.prog 42 [eStrs p] (.tup [eInts [], .bool false]) true := by
  refine PC.of ⟨Tryz.func42, by kernel_rfl, rfl, by kernel_rfl⟩ tabOk mixed (by show 1 ≤ Tryz.f42.ntmps; decide) ?_
  refine W.seq_region fun K hK => ?_
  simp (disch := omega) only [↓RU, RV, RH, ↓reduceIte, Nat.reduceEqDiff, reduceCtorEq, if_pos, ↓RS, RG, Nat.reduceAdd, Nat.reduceMul, Nat.reduceLeDiff]
  refine hK _ _ ?_
  clear hK K
  refine W.seq_region fun K hK => ?_
  simp (disch := omega) only [↓RU, RV, RH, ↓reduceIte, Nat.reduceEqDiff, reduceCtorEq, if_pos, List.append_nil, ↓RS, RG, Nat.reduceAdd, Nat.reduceMul, Nat.reduceLeDiff, tyLLbool, tyLbool, tybool, tyimpl_orders, tyimpl_relation, tystruct_left_impl_relation_above_impl_relation_]
  refine CallR.pc (ordersOf_no hs hv) rfl (.inr rfl) ?_
  simp (disch := omega) only [↓RU, RV, RH, ↓reduceIte, Nat.reduceEqDiff, reduceCtorEq, if_pos, List.append_nil, ↓RS, RG, Nat.reduceAdd, Nat.reduceMul, Nat.reduceLeDiff, tyLLbool, tyLbool, tybool, tyimpl_orders, tyimpl_relation, tystruct_left_impl_relation_above_impl_relation_]
  refine hK _ _ ?_
  clear hK K
  refine W.seq ?_
  refine W.seq_region fun K hK => ?_
  simp (disch := omega) only [↓RU, RV, RH, ↓reduceIte, Nat.reduceEqDiff, reduceCtorEq, if_pos, ↓RS, RG, Nat.reduceAdd, Nat.reduceMul, Nat.reduceLeDiff]
  refine hK _ _ ?_
  clear hK K
  refine W.cond rfl (fun h => ?_) (fun h => ?_)
  · try simp only [RL] at h
    refine W.seq_region fun K hK => ?_
    simp (disch := omega) only [↓RU, RV, RH, ↓reduceIte, Nat.reduceEqDiff, reduceCtorEq, if_pos, ↓RS, RG, Nat.reduceAdd, Nat.reduceMul, Nat.reduceLeDiff]
    refine hK _ _ ?_
    clear hK K
    refine W.ret ?_
    refine XThen.ret ?_
    refine BodyQ.ret rfl ?_
    rfl
  · try simp only [RL] at h
    exact absurd h (by simp)

theorem orderSecond_yes {p : List Txt} (hs : Sm p) (hv : plainI p = true) : PN Tryz.prog 42 [eStrs p] (.tup [.loc 0 0 0 (rP p).length, .bool true]) [.arr 0 3 1 ((srt p true).map (.int .i64))] false := by
  have hok := (plain_okB hv).1
  have hn9 := okB_rooms hok
  have hn1 := okB_rooms1 hok
  have hlq := lfM_sq hv
  have haq := abM_sq hv
  have hp : plainB p = true := by rw [← plainI_plain]; exact hv
  obtain ⟨f, hf, hi⟩ := bf_rank hp true
  have hq : ∀ a b : Nat, a < (rP p).length → b < (rP p).length → PC Tryz.prog 86 [(.agg [eRel (lfM p), eRel (abM p)]), .int .i64 a, .int .i64 b] (.bool (bfK p true a b)) true := fun a b ha hb => beforeSecond_pc hlq haq ha hb
  refine PN.of ⟨Tryz.func42, by kernel_rfl, rfl, by kernel_rfl⟩ tabOk mixed (by show 1 ≤ Tryz.f42.ntmps; decide) ?_
  refine W.seq_region fun K hK => ?_
  simp (disch := omega) only [↓RU, RV, RH, ↓reduceIte, Nat.reduceEqDiff, reduceCtorEq, if_pos, ↓RS, RG, Nat.reduceAdd, Nat.reduceMul, Nat.reduceLeDiff]
  refine hK _ _ ?_
  clear hK K
  refine W.seq_region fun K hK => ?_
  simp (disch := omega) only [↓RU, RV, RH, ↓reduceIte, Nat.reduceEqDiff, reduceCtorEq, if_pos, List.append_nil, ↓RS, RG, Nat.reduceAdd, Nat.reduceMul, Nat.reduceLeDiff, tyLLbool, tyLbool, tybool, tyimpl_orders, tyimpl_relation, tystruct_left_impl_relation_above_impl_relation_]
  refine CallR.pc (ordersOf_yes hs hv) rfl (.inr rfl) ?_
  simp (disch := omega) only [↓RU, RV, RH, ↓reduceIte, Nat.reduceEqDiff, reduceCtorEq, if_pos, List.append_nil, ↓RS, RG, Nat.reduceAdd, Nat.reduceMul, Nat.reduceLeDiff, tyLLbool, tyLbool, tybool, tyimpl_orders, tyimpl_relation, tystruct_left_impl_relation_above_impl_relation_]
  refine hK _ _ ?_
  clear hK K
  refine W.seq ?_
  refine W.seq_region fun K hK => ?_
  simp (disch := omega) only [↓RU, RV, RH, ↓reduceIte, Nat.reduceEqDiff, reduceCtorEq, if_pos, ↓RS, RG, Nat.reduceAdd, Nat.reduceMul, Nat.reduceLeDiff]
  refine hK _ _ ?_
  clear hK K
  refine W.cond rfl (fun h => ?_) (fun h => ?_)
  · try simp only [RL] at h
    exact absurd h (by simp)
  · try simp only [RL] at h
    refine W.skip ?_
    refine XThen.norm ?_
    refine W.joinS [2, 3] (fun vs S => ∃ t tk : Nat, vs = [.loc 0 t 0 (rP p).length, .bool true] ∧ S = ⟨[.arr t 3 1 ((srt p true).map (.int .i64))], tk⟩) ?_ ?_
    ·
      refine W.region_k fun K hK => ?_
      simp (disch := omega) only [↓RU, RV, RH, ↓reduceIte, Nat.reduceEqDiff, reduceCtorEq, if_pos, List.append_nil, ↓RS, RG, Nat.reduceAdd, Nat.reduceMul, Nat.reduceLeDiff, tyLLbool, tyLbool, tybool, tyimpl_orders, tyimpl_relation, tystruct_left_impl_relation_above_impl_relation_, pure_oa, List.isEmpty_nil, Bool.and_self]
      refine CallR.pn (sorted_pn hlq hn1 hn9 hq hf (fun z h1 h2 => srt_is hf hi h1 h2)) rfl (.inl rfl) ?_
      simp (disch := omega) only [↓RU, RV, RH, ↓reduceIte, Nat.reduceEqDiff, reduceCtorEq, if_pos, List.append_nil, ↓RS, RG, Nat.reduceAdd, Nat.reduceMul, Nat.reduceLeDiff, tyLLbool, tyLbool, tybool, tyimpl_orders, tyimpl_relation, tystruct_left_impl_relation_above_impl_relation_, pure_oa, List.isEmpty_nil, Bool.and_self, RN]
      refine hK _ _ ?_
      clear hK K
      refine XThen.norm ?_
      refine ⟨0, [1], [.loc 0 2 0 (rP p).length, .bool true], ⟨[.arr 2 3 1 ((srt p true).map (.int .i64))], 3⟩, ?_, ?_, 2, 3, rfl, rfl⟩
      · simp [-List.mapM_map, Env.put, Env.of, argEnv, Srn_eq, rnObs_cons, rnObs_nil, rnOb_arr, rnOb_map, rn_loc, rn_ref, rn_mp, rn_int, rn_bool, rn_str, rn_ip, rn_sl, rn_nils, rn_nilp, rn_undef, rn_agg, rn_tup, rn_fn, rfq_loc, rfq_int, rfq_bool, rfq_str, rfq_sl, frOf, List.range_succ, List.mapM_append, List.mapM_cons, Store.cellsOf]
      · simp [-List.mapM_map, Env.put, Env.of, argEnv, Srn_eq, rnObs_cons, rnObs_nil, rnOb_arr, rnOb_map, rn_loc, rn_ref, rn_mp, rn_int, rn_bool, rn_str, rn_ip, rn_sl, rn_nils, rn_nilp, rn_undef, rn_agg, rn_tup, rn_fn, rfq_loc, rfq_int, rfq_bool, rfq_str, rfq_sl, frOf, List.range_succ, List.mapM_append, List.mapM_cons, rn_ints]
    rintro vs S - ⟨t0, tk0, rfl, rfl⟩
    refine W.ret ?_
    refine BodyQ.ret rfl ?_
    exact sh_one2 rfl (sh_ints _)

end Fw
end Go.Proofs.YtcglmbijpjhbmaaGreat

/-! The orders by the specification, gone through. -/
namespace Go.Proofs.YtcglmbijpjhbmaaGreat
namespace Fw
open Go

theorem countP_succ {f : Nat → Bool} {b : Nat} : (List.range (b + 1)).countP f = (List.range b).countP f + (if f b then 1 else 0) := by
  rw [List.range_succ, List.countP_append]; simp
theorem plain_spec {p : List Txt} (hp : plainB p = true) : gridB p = true ∧ l1Rooms p = (rP p).length ∧ (rP p).length ≤ 9 ∧ 1 ≤ (rP p).length ∧ (∀ a b, a < (rP p).length → b < (rP p).length → bitOf (allS p 0) a b = getB (lfM p) a b) ∧ ∀ a b, a < (rP p).length → b < (rP p).length → bitOf (allS p 1) a b = getB (abM p) a b := by
  have hpl := plain_plan hp
  have hN := plan_named hpl
  have hr := hN.rooms
  have h1 := hp
  rw [← plainI_plain] at h1
  have hok : okB p = true := by
    have h9 := h1
    unfold plainI floorI at h9
    simp only [Bool.and_eq_true] at h9
    exact h9.1.1
  obtain ⟨s0, s1⟩ := same_all hN.hg (n := (rP p).length) (by omega) (fun i j hi hj => hN.cell hi hj) gP_room
  exact ⟨hN.hg, hr, okB_rooms hok, okB_rooms1 hok, fun a b ha hb => (s0.2.2 a b ha hb).symm, fun a b ha hb => (s1.2.2 a b ha hb).symm⟩

theorem l5Sorted_pn {p : List Txt} (hs : Sm p) (hp : plainB p = true) (below : Bool) : PN Tryz.prog 84 [eStrs p, .bool below] (.loc 0 0 0 (rP p).length) [.arr 0 3 1 ((srt p below).map (.int .i64))] false := by
  obtain ⟨hg, hr, hn9, hn1, e0, e1⟩ := plain_spec hp
  have h9 : l1Rooms p ≤ 9 := by omega
  have hm0 := allS_msk hg h9 0
  have hm1 := allS_msk hg h9 1
  obtain ⟨f, hf, hi⟩ := bf_rank hp below
  have hahl : ∀ a, a < (rP p).length → ahK p below a < (rP p).length := fun a ha => by rw [ahK_is hf ha]; exact ahead_n ha
  obtain ⟨nr, hnr⟩ : ∃ nr : Nat, (rP p).length = nr := ⟨_, rfl⟩
  unfold srt
  rw [hnr] at hr hn9 hn1 e0 e1 hahl ⊢
  rw [show (l1Rooms p).toNat = nr by omega] at hm0 hm1
  have hml := hm0.1
  have hml1 := hm1.1
  refine PN.of ⟨Tryz.func84, by kernel_rfl, rfl, by kernel_rfl⟩ tabOk mixed (by show 2 ≤ Tryz.f84.ntmps; decide) ?_
  refine W.seq_region fun K hK => ?_
  simp (disch := omega) only [↓RU, RV, RH, ↓reduceIte, Nat.reduceEqDiff, reduceCtorEq, if_pos, ↓RS, RG, Nat.reduceAdd, Nat.reduceMul, Nat.reduceLeDiff]
  refine hK _ _ ?_
  clear hK K
  refine W.seq_region fun K hK => ?_
  simp (disch := omega) only [↓RU, RV, RH, ↓reduceIte, Nat.reduceEqDiff, reduceCtorEq, if_pos, List.append_nil, ↓RS, RG, Nat.reduceAdd, Nat.reduceMul, Nat.reduceLeDiff]
  refine CallR.pc (l5All_pc hs hg h9 0) rfl (.inl rfl) ?_
  simp (disch := omega) only [↓RU, RV, RH, ↓reduceIte, Nat.reduceEqDiff, reduceCtorEq, if_pos, List.append_nil, ↓RS, RG, Nat.reduceAdd, Nat.reduceMul, Nat.reduceLeDiff]
  refine hK _ _ ?_
  clear hK K
  refine W.seq_region fun K hK => ?_
  simp (disch := omega) only [↓RU, RV, RH, ↓reduceIte, Nat.reduceEqDiff, reduceCtorEq, if_pos, List.append_nil, ↓RS, RG, Nat.reduceAdd, Nat.reduceMul, Nat.reduceLeDiff]
  refine CallR.pc (l5All_pc hs hg h9 1) rfl (.inl rfl) ?_
  simp (disch := omega) only [↓RU, RV, RH, ↓reduceIte, Nat.reduceEqDiff, reduceCtorEq, if_pos, List.append_nil, ↓RS, RG, Nat.reduceAdd, Nat.reduceMul, Nat.reduceLeDiff]
  refine hK _ _ ?_
  clear hK K
  refine W.seq_region fun K hK => ?_
  simp (disch := omega) only [↓RU, RV, RH, ↓reduceIte, Nat.reduceEqDiff, reduceCtorEq, if_pos, ↓RS, RG, Nat.reduceAdd, Nat.reduceMul, Nat.reduceLeDiff, tyLint, tyint, hml]
  refine hK _ _ ?_
  clear hK K
  refine W.seq_region fun K hK => ?_
  simp (disch := omega) only [↓RU, RV, RH, ↓reduceIte, Nat.reduceEqDiff, reduceCtorEq, if_pos, ↓RS, RG, Nat.reduceAdd, Nat.reduceMul, Nat.reduceLeDiff, tyLint, tyint, repz_int, ile_true]
  refine hK _ _ ?_
  clear hK K
  refine W.seq ?_
  refine W.seq_region fun K hK => ?_
  simp (disch := omega) only [↓RU, RV, RH, ↓reduceIte, Nat.reduceEqDiff, reduceCtorEq, if_pos, ↓RS, RG, Nat.reduceAdd, Nat.reduceMul, Nat.reduceLeDiff]
  refine hK _ _ ?_
  clear hK K
  refine W.block ?_
  refine W.loop [0, 1, 5, 6, 7, 8, 9] (fun n vs S => ∃ a : Nat, n = nr - a ∧ a ≤ nr ∧ vs = [eStrs p, .bool below, eNats (allS p 0), eNats (allS p 1), .int .i64 nr, .loc 0 0 0 nr, .int .i64 a] ∧ S = ⟨[.arr 0 3 1 ((putAll (ahK p below) nr a).map (.int .i64))], 1⟩) (nr) ?_ ?_
  · refine ⟨1, 0, rfl, Nat.zero_le _, ?_, by simp [take_eq, putAll]⟩
    simp [Env.put, Env.of, argEnv]
  rintro n vs S - ⟨a, rfl, h_a, rfl, rfl⟩
  refine W.seq ?_
  refine W.seq_region fun K hK => ?_
  simp (disch := omega) only [↓RU, RV, RH, ↓reduceIte, Nat.reduceEqDiff, reduceCtorEq, if_pos, w64, ↓RS, RG, Nat.reduceAdd, Nat.reduceMul, Nat.reduceLeDiff, tyint]
  refine hK _ _ ?_
  clear hK K
  refine W.cond rfl (fun h => ?_) (fun h => ?_)
  · try simp only [RL] at h
    have hal := putAll_len (ah := ahK p below) (n := nr) a
    have hah := hahl a (by omega)
    refine W.skip ?_
    refine XThen.norm ?_
    refine W.seq ?_
    refine W.block ?_
    refine W.seq_region fun K hK => ?_
    simp (disch := omega) only [↓RU, RV, RH, ↓reduceIte, Nat.reduceEqDiff, reduceCtorEq, if_pos, ↓RS, RG, Nat.reduceAdd, Nat.reduceMul, Nat.reduceLeDiff]
    refine hK _ _ ?_
    clear hK K
    refine W.seq ?_
    refine W.seq_region fun K hK => ?_
    simp (disch := omega) only [↓RU, RV, RH, ↓reduceIte, Nat.reduceEqDiff, reduceCtorEq, if_pos, ↓RS, RG, Nat.reduceAdd, Nat.reduceMul, Nat.reduceLeDiff]
    refine hK _ _ ?_
    clear hK K
    refine W.block ?_
    refine W.loop [0, 1, 5, 6, 7, 8, 9, 10, 11] (fun n vs S => ∃ b : Nat, n = nr - b ∧ b ≤ nr ∧ vs = [eStrs p, .bool below, eNats (allS p 0), eNats (allS p 1), .int .i64 nr, .loc 0 0 0 nr, .int .i64 a, .int .i64 (((List.range b).countP fun c => bfK p below c a) : Nat), .int .i64 b] ∧ S = ⟨[.arr 0 3 1 ((putAll (ahK p below) nr a).map (.int .i64))], 1⟩) nr ?_ ?_
    · refine ⟨1, 0, rfl, Nat.zero_le _, ?_, rfl⟩
      simp [Env.put, Env.of]
    rintro n vs S - ⟨b, rfl, h_b, rfl, rfl⟩
    refine W.seq ?_
    refine W.seq_region fun K hK => ?_
    simp (disch := omega) only [↓RU, RV, RH, ↓reduceIte, Nat.reduceEqDiff, reduceCtorEq, if_pos, w64, ↓RS, RG, Nat.reduceAdd, Nat.reduceMul, Nat.reduceLeDiff, tyint]
    refine hK _ _ ?_
    clear hK K
    refine W.cond rfl (fun h1 => ?_) (fun h1 => ?_)
    · try simp only [RL] at h1
      have hcl : ((List.range b).countP fun c => bfK p below c a) ≤ b := by have := List.countP_le_length (p := fun c => bfK p below c a) (l := List.range b); simpa using this
      obtain ⟨m, hm, hm5⟩ := hm0.at_ (show b < nr by omega)
      obtain ⟨k, hk, hk5⟩ := hm1.at_ (show a < nr by omega)
      obtain ⟨o, ho, ho5⟩ := hm1.at_ (show b < nr by omega)
      have e0m := e0 b a (by omega) (by omega)
      have e1k := e1 a b (by omega) (by omega)
      have e1o := e1 b a (by omega) (by omega)
      rw [bitOf_is hm] at e0m
      rw [bitOf_is hk] at e1k
      rw [bitOf_is ho] at e1o
      refine W.skip ?_
      refine XThen.norm ?_
      refine W.seq ?_
      refine W.block ?_
      refine W.seq_region fun K hK => ?_
      simp (disch := omega) only [↓RU, RV, RH, ↓reduceIte, Nat.reduceEqDiff, reduceCtorEq, if_pos, w64, ↓RS, RG, Nat.reduceAdd, Nat.reduceMul, Nat.reduceLeDiff, tyLint, tyint, hm, hml, pShr, w_bit]
      refine hK _ _ ?_
      clear hK K
      refine W.join [0, 1, 5, 6, 7, 8, 9, 10, 11, 12] (fun vs S => vs = [eStrs p, .bool below, eNats (allS p 0), eNats (allS p 1), .int .i64 nr, .loc 0 0 0 nr, .int .i64 a, .int .i64 (((List.range b).countP fun c => bfK p below c a) : Nat), .int .i64 b, .bool (bfK p below b a)] ∧ S = ⟨[.arr 0 3 1 ((putAll (ahK p below) nr a).map (.int .i64))], 1⟩) ?_ ?_
      ·
        refine W.seq_region fun K hK => ?_
        simp (disch := omega) only [↓RU, RV, RH, ↓reduceIte, Nat.reduceEqDiff, reduceCtorEq, if_pos, ↓RS, RG, Nat.reduceAdd, Nat.reduceMul, Nat.reduceLeDiff]
        refine hK _ _ ?_
        clear hK K
        refine W.cond rfl (fun h2 => ?_) (fun h2 => ?_)
        · try simp only [RL] at h2
          refine W.region_k fun K hK => ?_
          cases hx : m.testBit a
          · skip
            simp (disch := omega) only [↓RU, RV, RH, ↓reduceIte, Nat.reduceEqDiff, reduceCtorEq, if_pos, w64, ↓RS, RG, Nat.reduceAdd, Nat.reduceMul, Nat.reduceLeDiff, tyLint, tyint, hk, hml1, pShr, w_bit]
            refine hK _ _ ?_
            clear hK K
            refine XThen.norm ?_
            refine ⟨1, ?_, ?_⟩
            · simp [Env.put, Env.of, bfK, bf2, h2, ← e0m, ← e1k, hx]
            · rfl
          · skip
            simp (disch := omega) only [↓RU, RV, RH, ↓reduceIte, Nat.reduceEqDiff, reduceCtorEq, if_pos, w64, ↓RS, RG, Nat.reduceAdd, Nat.reduceMul, Nat.reduceLeDiff, tyLint, tyint, hk, hml1, pShr, w_bit]
            refine hK _ _ ?_
            clear hK K
            refine XThen.norm ?_
            refine ⟨1, ?_, ?_⟩
            · simp [Env.put, Env.of, bfK, bf2, h2, ← e0m, hx]
            · rfl
        · try simp only [RL] at h2
          refine W.region_k fun K hK => ?_
          cases hx : m.testBit a
          · skip
            simp (disch := omega) only [↓RU, RV, RH, ↓reduceIte, Nat.reduceEqDiff, reduceCtorEq, if_pos, w64, ↓RS, RG, Nat.reduceAdd, Nat.reduceMul, Nat.reduceLeDiff, tyLint, tyint, ho, hml1, pShr, w_bit]
            refine hK _ _ ?_
            clear hK K
            refine XThen.norm ?_
            refine ⟨1, ?_, ?_⟩
            · simp [Env.put, Env.of, bfK, bf1, h2, ← e0m, ← e1o, hx]
            · rfl
          · skip
            simp (disch := omega) only [↓RU, RV, RH, ↓reduceIte, Nat.reduceEqDiff, reduceCtorEq, if_pos, w64, ↓RS, RG, Nat.reduceAdd, Nat.reduceMul, Nat.reduceLeDiff, tyLint, tyint, ho, hml1, pShr, w_bit]
            refine hK _ _ ?_
            clear hK K
            refine XThen.norm ?_
            refine ⟨1, ?_, ?_⟩
            · simp [Env.put, Env.of, bfK, bf1, h2, ← e0m, hx]
            · rfl
      rintro vs S - ⟨rfl, rfl⟩
      refine W.seq_region fun K hK => ?_
      simp (disch := omega) only [↓RU, RV, RH, ↓reduceIte, Nat.reduceEqDiff, reduceCtorEq, if_pos, ↓RS, RG, Nat.reduceAdd, Nat.reduceMul, Nat.reduceLeDiff]
      refine hK _ _ ?_
      clear hK K
      refine W.cond rfl (fun h3 => ?_) (fun h3 => ?_)
      · try simp only [RL] at h3
        refine W.region_k fun K hK => ?_
        simp (disch := omega) only [↓RU, RV, RH, ↓reduceIte, Nat.reduceEqDiff, reduceCtorEq, if_pos, w64, ↓RS, RG, Nat.reduceAdd, Nat.reduceMul, Nat.reduceLeDiff, tyint]
        refine hK _ _ ?_
        clear hK K
        refine XBlock.norm ?_
        refine XThen.norm ?_
        refine W.region_k fun K hK => ?_
        simp (disch := omega) only [↓RU, RV, RH, ↓reduceIte, Nat.reduceEqDiff, reduceCtorEq, if_pos, w64, ↓RS, RG, Nat.reduceAdd, Nat.reduceMul, Nat.reduceLeDiff, tyint]
        refine hK _ _ ?_
        clear hK K
        refine XThen.norm ?_
        refine ⟨nr - (b + 1), by omega, 1, b + 1, rfl, by omega, ?_, rfl⟩
        simp only [countP_succ, h3]
        simp [Env.put, Env.of]
      · try simp only [RL] at h3
        refine W.skip ?_
        refine XBlock.norm ?_
        refine XThen.norm ?_
        refine W.region_k fun K hK => ?_
        simp (disch := omega) only [↓RU, RV, RH, ↓reduceIte, Nat.reduceEqDiff, reduceCtorEq, if_pos, w64, ↓RS, RG, Nat.reduceAdd, Nat.reduceMul, Nat.reduceLeDiff, tyint]
        refine hK _ _ ?_
        clear hK K
        refine XThen.norm ?_
        refine ⟨nr - (b + 1), by omega, 1, b + 1, rfl, by omega, ?_, rfl⟩
        simp only [countP_succ, h3]
        simp [Env.put, Env.of]
    · try simp only [RL] at h1
      obtain rfl : nr = b := by omega
      have hcq : ((List.range nr).countP fun c => bfK p below c a) = ahK p below a := by unfold ahK; rw [hnr]
      refine W.exit ?_
      refine XThen.exit ?_
      refine XThen.exit ?_
      refine XBlock.hit ?_
      refine XThen.norm ?_
      refine W.region_k fun K hK => ?_
      rw [hcq]
      simp (disch := omega) only [↓RU, RV, RH, ↓reduceIte, Nat.reduceEqDiff, reduceCtorEq, if_pos, ↓RS, RG, Nat.reduceAdd, Nat.reduceMul, Nat.reduceLeDiff, tyLint, tyint, hal, set_spl, set_int]
      refine hK _ _ ?_
      clear hK K
      refine XBlock.norm ?_
      refine XThen.norm ?_
      refine W.region_k fun K hK => ?_
      simp (disch := omega) only [↓RU, RV, RH, ↓reduceIte, Nat.reduceEqDiff, reduceCtorEq, if_pos, w64, ↓RS, RG, Nat.reduceAdd, Nat.reduceMul, Nat.reduceLeDiff, tyint]
      refine hK _ _ ?_
      clear hK K
      refine XThen.norm ?_
      refine ⟨nr - (a + 1), by omega, 1, a + 1, rfl, by omega, ?_, ?_⟩
      · simp [Env.put, Env.of]
      · simp only [take_eq, putAll]; rfl
  · try simp only [RL] at h
    obtain rfl : nr = a := by omega
    refine W.exit ?_
    refine XThen.exit ?_
    refine XThen.exit ?_
    refine XBlock.hit ?_
    refine XThen.norm ?_
    refine W.seq_region fun K hK => ?_
    simp (disch := omega) only [↓RU, RV, RH, ↓reduceIte, Nat.reduceEqDiff, reduceCtorEq, if_pos, ↓RS, RG, Nat.reduceAdd, Nat.reduceMul, Nat.reduceLeDiff]
    refine hK _ _ ?_
    clear hK K
    refine W.ret ?_
    refine BodyQ.ret rfl ?_
    rw [← hnr]
    exact sh_one rfl (sh_ints _)

end Fw
end Go.Proofs.YtcglmbijpjhbmaaGreat

/-! The two orders are orders of all rooms; the places of the second order in the first one. -/
namespace Go.Proofs.YtcglmbijpjhbmaaGreat
namespace Fw
open Go

section
variable {p : List Txt} {below : Bool}
theorem srt_perm (hp : plainB p = true) (below : Bool) : (srt p below).Perm (rooms (rP p).length) := by
  obtain ⟨f, hf, hi⟩ := bf_rank hp below
  have h1 : ((rooms (rP p).length).mergeSort fun x y => decide (f x.toNat ≤ f y.toNat)).Perm (rooms (rP p).length) := List.mergeSort_perm _ _
  have h2 : (((rooms (rP p).length).mergeSort fun x y => decide (f x.toNat ≤ f y.toNat)).map fun x => ((f x.toNat : Nat) : Int)).Pairwise (· ≤ ·) := by
    rw [List.pairwise_map]
    refine (List.pairwise_mergeSort (fun a b c h k => ?_) (fun a b => ?_) _).imp fun {a b} h => ?_
    · simp only [decide_eq_true_eq] at h k ⊢; omega
    · simp only [Bool.or_eq_true, decide_eq_true_eq]; omega
    · simp only [decide_eq_true_eq] at h; omega
  rw [← srt_is hf hi h1 h2]
  exact h1
theorem srt_mem (hp : plainB p = true) {x : Int} : x ∈ srt p below ↔ 0 ≤ x ∧ x < (rP p).length := by
  rw [(srt_perm hp below).mem_iff, mem_rooms]
theorem srt_nodup (hp : plainB p = true) : (srt p below).Nodup := (srt_perm hp below).nodup_iff.2 (nodup_rooms _)
theorem ahK_lt (hp : plainB p = true) {a : Nat} (ha : a < (rP p).length) : ahK p below a < (rP p).length := by
  obtain ⟨f, hf, hi⟩ := bf_rank hp below
  rw [ahK_is hf ha]; exact ahead_n ha
theorem ahK_inj (hp : plainB p = true) {a b : Nat} (ha : a < (rP p).length) (hb : b < (rP p).length) (h : ahK p below a = ahK p below b) : a = b := by
  obtain ⟨f, hf, hi⟩ := bf_rank hp below
  rw [ahK_is hf ha, ahK_is hf hb] at h
  exact ahead_inj hi ha hb h
theorem srt_at (hp : plainB p = true) {a : Nat} (ha : a < (rP p).length) : (srt p below)[ahK p below a]? = some (a : Int) :=
  putAll_at (fun a ha => ahK_lt hp ha) (fun a b ha hb h => ahK_inj hp ha hb h) _ (Nat.le_refl _) a ha
theorem srt_get (hp : plainB p = true) {i : Nat} (hi : i < (rP p).length) : ∃ a, a < (rP p).length ∧ ahK p below a = i ∧ (srt p below)[i]? = some (a : Int) := by
  obtain ⟨x, hx, hm⟩ := get_of (show i < (srt p below).length by rw [srt_len]; exact hi)
  obtain ⟨h1, h2⟩ := (srt_mem hp).1 hm
  refine ⟨x.toNat, by omega, ?_, by rw [hx]; congr 1; omega⟩
  have h3 := srt_at (below := below) hp (a := x.toNat) (by omega)
  have e : ((x.toNat : Nat) : Int) = x := by omega
  rw [e] at h3
  have k1 := len_of h3
  have k2 := len_of hx
  rw [List.getElem?_eq_getElem k1] at h3
  rw [List.getElem?_eq_getElem k2] at hx
  exact nodup_get (srt_nodup hp) k1 k2 ((Option.some.inj h3).trans (Option.some.inj hx).symm)
/-- For each room in the second order its place in the first one. -/
def permV (p : List Txt) : List Int := (srt p true).map fun x => ((ahK p false x.toNat : Nat) : Int)
theorem permV_len : (permV p).length = (rP p).length := by simp [permV, srt_len]
theorem permV_at (hp : plainB p = true) {i a : Nat} (h : (srt p true)[i]? = some (a : Int)) : (permV p)[i]? = some ((ahK p false a : Nat) : Int) := by
  unfold permV
  rw [List.getElem?_map, h]
  simp
end
end Fw
end Go.Proofs.YtcglmbijpjhbmaaGreat

/-! The framework, part z: a region in which the bytes of a text become a new row that is written later. -/
namespace Go.Proofs.YtcglmbijpjhbmaaGreat
namespace Fw
open Go

section
variable {P : Program} {T : Tab} {F : Nat → Prop} {G : GSt} {w : World} {e : Env} {a : Act} {F0 : Nat → Prop} {G0 : GSt} {w0 : World} {N : Nat}

end
section
variable {P : Program} {T : Tab} {Q : Exit → Env → Store → Prop} {e : Env} {S : Store} {b : Code}
end
end Fw
end Go.Proofs.YtcglmbijpjhbmaaGreat

/-! Drawing: the reader, gone through. -/
namespace Go.Proofs.YtcglmbijpjhbmaaGreat
namespace Fw
open Go

end Fw
end Go.Proofs.YtcglmbijpjhbmaaGreat

/-! Plans cut in two, gone through. -/
namespace Go.Proofs.YtcglmbijpjhbmaaGreat
namespace Fw
open Go

end Fw
end Go.Proofs.YtcglmbijpjhbmaaGreat

/-! Drawing plans, gone through. -/
namespace Go.Proofs.YtcglmbijpjhbmaaGreat
namespace Fw
open Go

end Fw
end Go.Proofs.YtcglmbijpjhbmaaGreat

/-! Drawing plans, gone through, continued. -/
namespace Go.Proofs.YtcglmbijpjhbmaaGreat
namespace Fw
open Go

end Fw
end Go.Proofs.YtcglmbijpjhbmaaGreat

/-! Drawing needs, gone through. -/
namespace Go.Proofs.YtcglmbijpjhbmaaGreat
namespace Fw
open Go

end Fw
end Go.Proofs.YtcglmbijpjhbmaaGreat

/-! Areas, gone through. -/
namespace Go.Proofs.YtcglmbijpjhbmaaGreat
namespace Fw
open Go

end Fw
end Go.Proofs.YtcglmbijpjhbmaaGreat

/-! Sizes in plain words: areas, places, slacks, longest rows. -/
namespace Go.Proofs.YtcglmbijpjhbmaaGreat
namespace Fw
open Go

section
variable {M : List (List Bool)} {ws : List Int} {n : Nat} {rk : Nat → Nat}
end
end Fw
end Go.Proofs.YtcglmbijpjhbmaaGreat

/-! What the laws of sizes ask, of plans in plain words. -/
namespace Go.Proofs.YtcglmbijpjhbmaaGreat
namespace Fw
open Go

end Fw
end Go.Proofs.YtcglmbijpjhbmaaGreat

/-! The law of areas, gone through. -/
namespace Go.Proofs.YtcglmbijpjhbmaaGreat
namespace Fw
open Go

end Fw
end Go.Proofs.YtcglmbijpjhbmaaGreat

/-! The laws of left and above, gone through. -/
namespace Go.Proofs.YtcglmbijpjhbmaaGreat
namespace Fw
open Go

end Fw
end Go.Proofs.YtcglmbijpjhbmaaGreat

/-! The law of places, gone through. -/
namespace Go.Proofs.YtcglmbijpjhbmaaGreat
namespace Fw
open Go

end Fw
end Go.Proofs.YtcglmbijpjhbmaaGreat

/-! Permutations by the program and by the specification, gone through. -/
namespace Go.Proofs.YtcglmbijpjhbmaaGreat
namespace Fw
open Go

theorem PN.ints0 {P : Program} {f : FuncId} {args : List PV} {l : List Int} {n : Nat} {im : Bool} (h : PN P f args (.loc 0 0 0 n) [.arr 0 3 1 (l.map (.int .i64))] im) (h1 : args.mapM (reify ⟨[], 0⟩ true 10) = some args) (hl : l.length = n) : PC P f args (eInts l) true := by
  refine PN.pc h h1 ?_
  subst hl
  simp only [up_loc, List.map_cons, List.map_nil, upOb_arr, up_ints, Nat.add_zero]
  exact reify_loc (k := 9) rfl (by simp) (mapM_int _)
theorem sortedK_pc {p : List Txt} (hv : plainI p = true) : PC Tryz.prog 85 [(.agg [eRel (lfM p), eRel (abM p)]), .bm 92 (.agg [eRel (lfM p), eRel (abM p)])] (eInts (srt p false)) true ∧ PC Tryz.prog 85 [(.agg [eRel (lfM p), eRel (abM p)]), .bm 86 (.agg [eRel (lfM p), eRel (abM p)])] (eInts (srt p true)) true := by
  have hok := (plain_okB hv).1
  have hn9 := okB_rooms hok
  have hn1 := okB_rooms1 hok
  have hlq := lfM_sq hv
  have haq := abM_sq hv
  have hp : plainB p = true := by rw [← plainI_plain]; exact hv
  obtain ⟨f, hf, hi⟩ := bf_rank hp false
  obtain ⟨g, hg, hj⟩ := bf_rank hp true
  exact ⟨PN.ints0 (sorted_pn (bf := bfK p false) hlq hn1 hn9 (fun a b ha hb => before_pc hlq haq ha hb) hf (fun z h1 h2 => srt_is hf hi h1 h2)) rfl srt_len,
    PN.ints0 (sorted_pn (bf := bfK p true) hlq hn1 hn9 (fun a b ha hb => beforeSecond_pc hlq haq ha hb) hg (fun z h1 h2 => srt_is hg hj h1 h2)) rfl srt_len⟩

theorem indexOf_pc {l : List Int} (hl : l.length < 2147483648) {x : Int} {i : Nat} (hx : l[i]? = some x) (hi : ∀ (j : Nat), j < i → l[j]? ≠ some x) : PC Tryz.prog 116 [eInts l, .int .i64 x] (.int .i64 i) true := by
  refine PC.of ⟨Tryz.func116, by kernel_rfl, rfl, by kernel_rfl⟩ tabOk mixed (by show 2 ≤ Tryz.f116.ntmps; decide) ?_
  refine W.seq_region fun K hK => ?_
  simp (disch := omega) only [↓RU, RV, RH, ↓reduceIte, Nat.reduceEqDiff, reduceCtorEq, if_pos]
  refine hK _ _ ?_
  clear hK K
  refine W.seq ?_
  refine W.seq_region fun K hK => ?_
  simp (disch := omega) only [↓RU, RV, RH, ↓reduceIte, Nat.reduceEqDiff, reduceCtorEq, if_pos, tyLint, tyint]
  refine hK _ _ ?_
  clear hK K
  refine W.block ?_
  refine W.loop [0, 1, 7, 8] (fun n vs S => ∃ j : Nat, n = l.length - j ∧ j ≤ l.length ∧ (j ≤ i) ∧ vs = [eInts l, .int .i64 x, .int .i64 l.length, .int .i64 j] ∧ S = ⟨[], 0⟩) (l.length) ?_ ?_
  · refine ⟨0, 0, rfl, Nat.zero_le _, Nat.zero_le _, ?_, rfl⟩
    simp [Env.put, Env.of, argEnv]
  rintro n vs S - ⟨j, rfl, h_j, hji, rfl, rfl⟩
  refine W.seq_region fun K hK => ?_
  simp (disch := omega) only [↓RU, RV, RH, ↓reduceIte, Nat.reduceEqDiff, reduceCtorEq, if_pos, w64, tyint]
  refine hK _ _ ?_
  clear hK K
  refine W.seq ?_
  refine W.cond rfl (fun h => ?_) (fun h => ?_)
  · try simp only [RL] at h
    obtain ⟨y, hy, -⟩ := get_of (show j < l.length by omega)
    refine W.skip ?_
    refine XThen.norm ?_
    refine W.seq ?_
    refine W.block ?_
    refine W.seq_region fun K hK => ?_
    simp (disch := omega) only [↓RU, RV, RH, ↓reduceIte, Nat.reduceEqDiff, reduceCtorEq, if_pos]
    refine hK _ _ ?_
    clear hK K
    refine W.seq_region fun K hK => ?_
    simp (disch := omega) only [↓RU, RV, RH, ↓reduceIte, Nat.reduceEqDiff, reduceCtorEq, if_pos, w64, tyLint, tyint, hy]
    refine hK _ _ ?_
    clear hK K
    refine W.cond rfl (fun h1 => ?_) (fun h1 => ?_)
    · try simp only [RL] at h1
      have e : x = y := by simpa using h1
      have hij : j = i := by
        refine Classical.byContradiction fun k => hi j (by omega) (by rw [hy, e])
      subst hij
      refine W.seq_region fun K hK => ?_
      simp (disch := omega) only [↓RU, RV, RH, ↓reduceIte, Nat.reduceEqDiff, reduceCtorEq, if_pos]
      refine hK _ _ ?_
      clear hK K
      refine W.ret ?_
      refine XBlock.ret ?_
      refine XThen.ret ?_
      refine XThen.ret ?_
      refine XBlock.ret ?_
      refine XThen.ret ?_
      refine BodyQ.ret rfl ?_
      rfl
    · try simp only [RL] at h1
      have hne : j ≠ i := by rintro rfl; rw [hx] at hy; cases hy; simp at h1
      refine W.skip ?_
      refine XBlock.norm ?_
      refine XThen.norm ?_
      refine W.region_k fun K hK => ?_
      simp (disch := omega) only [↓RU, RV, RH, ↓reduceIte, Nat.reduceEqDiff, reduceCtorEq, if_pos, w64, tyint]
      refine hK _ _ ?_
      clear hK K
      refine XThen.norm ?_
      refine ⟨l.length - (j + 1), by omega, 0, j + 1, rfl, by omega, by have := hne; omega, ?_, rfl⟩
      simp [Env.put, Env.of]
  · try simp only [RL] at h
    exact absurd (len_of hx) (by omega)

theorem perm_pn {p : List Txt} (hv : plainI p = true) : PN Tryz.prog 88 [(.agg [eRel (lfM p), eRel (abM p)])] (.loc 0 0 0 (rP p).length) [.arr 0 3 1 ((permV p).map (.int .i64))] false := by
  have hok := (plain_okB hv).1
  have hn9 := okB_rooms hok
  have hn1 := okB_rooms1 hok
  have hlq := lfM_sq hv
  have haq := abM_sq hv
  have hp : plainB p = true := by rw [← plainI_plain]; exact hv
  obtain ⟨hs1, hs2⟩ := sortedK_pc hv
  have hl1 := srt_len (p := p) (below := false)
  have hl2 := srt_len (p := p) (below := true)
  have hpl := permV_len (p := p)
  refine PN.of ⟨Tryz.func88, by kernel_rfl, rfl, by kernel_rfl⟩ tabOk mixed (by show 1 ≤ Tryz.f88.ntmps; decide) ?_
  refine W.seq_region fun K hK => ?_
  simp (disch := omega) only [↓RU, RV, RH, ↓reduceIte, Nat.reduceEqDiff, reduceCtorEq, if_pos, ↓RS, RG, Nat.reduceAdd, Nat.reduceMul, Nat.reduceLeDiff, tyLLbool, tyLbool, tybool, tyimpl_orders, tyimpl_relation, tystruct_left_impl_relation_above_impl_relation_]
  refine hK _ _ ?_
  clear hK K
  refine W.seq_region fun K hK => ?_
  simp (disch := omega) only [↓RU, RV, RH, ↓reduceIte, Nat.reduceEqDiff, reduceCtorEq, if_pos, List.append_nil, ↓RS, RG, Nat.reduceAdd, Nat.reduceMul, Nat.reduceLeDiff, tyLLbool, tyLbool, tybool, tyimpl_orders, tyimpl_relation, tystruct_left_impl_relation_above_impl_relation_, pure_oa, List.isEmpty_nil, Bool.and_self]
  refine CallR.pc (hs1) rfl (.inl rfl) ?_
  simp (disch := omega) only [↓RU, RV, RH, ↓reduceIte, Nat.reduceEqDiff, reduceCtorEq, if_pos, List.append_nil, ↓RS, RG, Nat.reduceAdd, Nat.reduceMul, Nat.reduceLeDiff, tyLLbool, tyLbool, tybool, tyimpl_orders, tyimpl_relation, tystruct_left_impl_relation_above_impl_relation_, pure_oa, List.isEmpty_nil, Bool.and_self]
  refine hK _ _ ?_
  clear hK K
  refine W.seq_region fun K hK => ?_
  simp (disch := omega) only [↓RU, RV, RH, ↓reduceIte, Nat.reduceEqDiff, reduceCtorEq, if_pos, List.append_nil, ↓RS, RG, Nat.reduceAdd, Nat.reduceMul, Nat.reduceLeDiff, tyLLbool, tyLbool, tybool, tyimpl_orders, tyimpl_relation, tystruct_left_impl_relation_above_impl_relation_, pure_oa, List.isEmpty_nil, Bool.and_self]
  refine CallR.pc (hs2) rfl (.inl rfl) ?_
  simp (disch := omega) only [↓RU, RV, RH, ↓reduceIte, Nat.reduceEqDiff, reduceCtorEq, if_pos, List.append_nil, ↓RS, RG, Nat.reduceAdd, Nat.reduceMul, Nat.reduceLeDiff, tyLLbool, tyLbool, tybool, tyimpl_orders, tyimpl_relation, tystruct_left_impl_relation_above_impl_relation_, pure_oa, List.isEmpty_nil, Bool.and_self]
  refine hK _ _ ?_
  clear hK K
  refine W.joinS [3, 4, 5] (fun vs S => ∃ t tk : Nat, vs = [eInts (srt p false), eInts (srt p true), .loc 0 t 0 (rP p).length] ∧ S = ⟨[.arr t 3 1 ((List.replicate (rP p).length 0).map (.int .i64))], tk⟩) ?_ ?_
  ·
    refine W.region_k fun K hK => ?_
    simp (disch := omega) only [↓RU, RV, RH, ↓reduceIte, Nat.reduceEqDiff, reduceCtorEq, if_pos, ↓RS, RG, Nat.reduceAdd, Nat.reduceMul, Nat.reduceLeDiff, tyLint, tyint, hl2, repz_int, ile_true]
    refine hK _ _ ?_
    clear hK K
    refine XThen.norm ?_
    refine ⟨0, [1], [eInts (srt p false), eInts (srt p true), .loc 0 2 0 (rP p).length], ⟨[.arr 2 3 1 ((List.replicate (rP p).length 0).map (.int .i64))], 3⟩, ?_, ?_, 2, 3, rfl, rfl⟩
    · simp [-List.mapM_map, Env.put, Env.of, argEnv, Srn_eq, rnObs_cons, rnObs_nil, rnOb_arr, rnOb_map, rn_loc, rn_ref, rn_mp, rn_int, rn_bool, rn_str, rn_ip, rn_sl, rn_nils, rn_nilp, rn_undef, rn_agg, rn_tup, rn_fn, rfq_loc, rfq_int, rfq_bool, rfq_str, rfq_sl, frOf, List.range_succ, List.mapM_append, List.mapM_cons, Store.cellsOf]
    · simp [-List.mapM_map, Env.put, Env.of, argEnv, Srn_eq, rnObs_cons, rnObs_nil, rnOb_arr, rnOb_map, rn_loc, rn_ref, rn_mp, rn_int, rn_bool, rn_str, rn_ip, rn_sl, rn_nils, rn_nilp, rn_undef, rn_agg, rn_tup, rn_fn, rfq_loc, rfq_int, rfq_bool, rfq_str, rfq_sl, frOf, List.range_succ, List.mapM_append, List.mapM_cons, rn_rep0]
  rintro vs S - ⟨t0, tk0, rfl, rfl⟩
  refine W.seq ?_
  refine W.seq_region fun K hK => ?_
  simp (disch := omega) only [↓RU, RV, RH, ↓reduceIte, Nat.reduceEqDiff, reduceCtorEq, if_pos, ↓RS, RG, Nat.reduceAdd, Nat.reduceMul, Nat.reduceLeDiff, tyLint, tyint]
  refine hK _ _ ?_
  clear hK K
  refine W.block ?_
  refine W.loop [3, 5, 19, 20, 21] (fun n vs S => ∃ i t tk : Nat, n = (rP p).length - i ∧ i ≤ (rP p).length ∧ vs = [eInts (srt p false), .loc 0 t 0 (rP p).length, eInts (srt p true), .int .i64 (rP p).length, .int .i64 i] ∧ S = ⟨[.arr t 3 1 (((permV p).take i ++ List.replicate ((rP p).length - i) 0).map (.int .i64))], tk⟩) (rP p).length ?_ ?_
  · refine ⟨1, 0, t0, tk0, rfl, by omega, ?_, by simp [Store.take]⟩
    simp [Env.put, Env.of, argEnv, hl2]
  rintro n vs S - ⟨i, t, tk, rfl, h_i, rfl, rfl⟩
  refine W.seq_region fun K hK => ?_
  simp (disch := omega) only [↓RU, RV, RH, ↓reduceIte, Nat.reduceEqDiff, reduceCtorEq, if_pos, w64, ↓RS, RG, Nat.reduceAdd, Nat.reduceMul, Nat.reduceLeDiff, tyint]
  refine hK _ _ ?_
  clear hK K
  refine W.seq ?_
  refine W.cond rfl (fun h => ?_) (fun h => ?_)
  · try simp only [RL] at h
    obtain ⟨a, ha, ha2, hsa⟩ := srt_get (below := true) hp (show i < (rP p).length by omega)
    have hpa := permV_at hp hsa
    have hix := srt_at (below := false) hp ha
    have hin : ∀ j, j < ahK p false a → (srt p false)[j]? ≠ some (a : Int) := fun j hj k => by
      have k1 := len_of hix
      have k2 := len_of k
      rw [List.getElem?_eq_getElem k1] at hix
      rw [List.getElem?_eq_getElem k2] at k
      have := nodup_get (srt_nodup hp) k1 k2 ((Option.some.inj hix).trans (Option.some.inj k).symm)
      omega
    have hol : ((permV p).take i ++ List.replicate ((rP p).length - i) 0).length = (rP p).length := by simp [hpl]; omega
    refine W.skip ?_
    refine XThen.norm ?_
    refine W.seq ?_
    refine W.block ?_
    refine W.seq_region fun K hK => ?_
    simp (disch := omega) only [↓RU, RV, RH, ↓reduceIte, Nat.reduceEqDiff, reduceCtorEq, if_pos, ↓RS, RG, Nat.reduceAdd, Nat.reduceMul, Nat.reduceLeDiff, tyLint, tyint, hsa]
    refine hK _ _ ?_
    clear hK K
    refine W.region_k fun K hK => ?_
    simp (disch := omega) only [↓RU, RV, RH, ↓reduceIte, Nat.reduceEqDiff, reduceCtorEq, if_pos, List.append_nil, ↓RS, RG, Nat.reduceAdd, Nat.reduceMul, Nat.reduceLeDiff, tyLint, tyint, set_spl, set_int, hol]
    refine CallR.pc (indexOf_pc (by omega) hix hin) rfl (.inl rfl) ?_
    simp (disch := omega) only [↓RU, RV, RH, ↓reduceIte, Nat.reduceEqDiff, reduceCtorEq, if_pos, List.append_nil, ↓RS, RG, Nat.reduceAdd, Nat.reduceMul, Nat.reduceLeDiff, tyLint, tyint, set_spl, set_int, hol]
    refine hK _ _ ?_
    clear hK K
    refine XBlock.norm ?_
    refine XThen.norm ?_
    refine W.region_k fun K hK => ?_
    simp (disch := omega) only [↓RU, RV, RH, ↓reduceIte, Nat.reduceEqDiff, reduceCtorEq, if_pos, w64, ↓RS, RG, Nat.reduceAdd, Nat.reduceMul, Nat.reduceLeDiff, tyint]
    refine hK _ _ ?_
    clear hK K
    refine XThen.norm ?_
    refine ⟨(rP p).length - (i + 1), by omega, 1, i + 1, t, tk, rfl, by omega, ?_, ?_⟩
    · simp [Env.put, Env.of]
    · rw [← hpl]; simp only [take_eq, copy_succ hpa]; rfl
  · try simp only [RL] at h
    obtain rfl : i = (rP p).length := by omega
    rw [List.take_of_length_le (by omega), Nat.sub_self]
    simp only [List.replicate_zero, List.append_nil]
    refine W.exit ?_
    refine XThen.exit ?_
    refine XThen.exit ?_
    refine XBlock.hit ?_
    refine XThen.norm ?_
    refine W.seq_region fun K hK => ?_
    simp (disch := omega) only [↓RU, RV, RH, ↓reduceIte, Nat.reduceEqDiff, reduceCtorEq, if_pos, ↓RS, RG, Nat.reduceAdd, Nat.reduceMul, Nat.reduceLeDiff]
    refine hK _ _ ?_
    clear hK K
    refine W.ret ?_
    refine BodyQ.ret rfl ?_
    exact sh_one rfl (sh_ints _)

end Fw
end Go.Proofs.YtcglmbijpjhbmaaGreat

/-! Permutations of plans, gone through. -/
namespace Go.Proofs.YtcglmbijpjhbmaaGreat
namespace Fw
open Go

/-- A list, or none. -/
def ifL (b : Bool) (l : List Int) : List Int := if b then l else []
theorem l5Sorted_pc {p : List Txt} (hs : Sm p) (hp : plainB p = true) (below : Bool) : PC Tryz.prog 84 [eStrs p, .bool below] (eInts (srt p below)) true := PN.ints0 (l5Sorted_pn hs hp below) rfl srt_len

end Fw
end Go.Proofs.YtcglmbijpjhbmaaGreat

/-! The orders and permutations: the exported functions, gone through. -/
namespace Go.Proofs.YtcglmbijpjhbmaaGreat
namespace Fw
open Go

theorem sOrderFirst_pc {p : List Txt} (hs : Sm p) : PC Tryz.prog 56 [eStrs p] (.tup [eInts (ifL (plainB p) (srt p false)), .bool (plainB p)]) false := by
  refine PC.of ⟨Tryz.func56, by kernel_rfl, rfl, by kernel_rfl⟩ tabOk mixed (by show 1 ≤ Tryz.f56.ntmps; decide) ?_
  refine W.seq_region fun K hK => ?_
  simp (disch := omega) only [↓RU, RV, RH, ↓reduceIte, Nat.reduceEqDiff, reduceCtorEq, if_pos, ↓RS, RG, Nat.reduceAdd, Nat.reduceMul, Nat.reduceLeDiff]
  refine hK _ _ ?_
  clear hK K
  refine W.seq ?_
  refine W.seq_region fun K hK => ?_
  simp (disch := omega) only [↓RU, RV, RH, ↓reduceIte, Nat.reduceEqDiff, reduceCtorEq, if_pos, List.append_nil, ↓RS, RG, Nat.reduceAdd, Nat.reduceMul, Nat.reduceLeDiff]
  refine CallR.pc (l5Plain_pc hs) rfl (.inl rfl) ?_
  simp (disch := omega) only [↓RU, RV, RH, ↓reduceIte, Nat.reduceEqDiff, reduceCtorEq, if_pos, List.append_nil, ↓RS, RG, Nat.reduceAdd, Nat.reduceMul, Nat.reduceLeDiff]
  refine hK _ _ ?_
  clear hK K
  refine W.cond rfl (fun h0 => ?_) (fun h0 => ?_)
  · try simp only [RL] at h0
    have h : plainB p = false := by simpa using h0
    refine W.seq_region fun K hK => ?_
    simp (disch := omega) only [↓RU, RV, RH, ↓reduceIte, Nat.reduceEqDiff, reduceCtorEq, if_pos, ↓RS, RG, Nat.reduceAdd, Nat.reduceMul, Nat.reduceLeDiff, tyLint, tyint]
    refine hK _ _ ?_
    clear hK K
    refine W.ret ?_
    refine XThen.ret ?_
    refine BodyQ.ret rfl ?_
    rw [h]
    rfl
  · try simp only [RL] at h0
    have h : plainB p = true := by simpa using h0
    refine W.skip ?_
    refine XThen.norm ?_
    refine W.seq_region fun K hK => ?_
    simp (disch := omega) only [↓RU, RV, RH, ↓reduceIte, Nat.reduceEqDiff, reduceCtorEq, if_pos, List.append_nil, ↓RS, RG, Nat.reduceAdd, Nat.reduceMul, Nat.reduceLeDiff]
    refine CallR.pc (l5Sorted_pc hs h false) rfl (.inl rfl) ?_
    simp (disch := omega) only [↓RU, RV, RH, ↓reduceIte, Nat.reduceEqDiff, reduceCtorEq, if_pos, List.append_nil, ↓RS, RG, Nat.reduceAdd, Nat.reduceMul, Nat.reduceLeDiff]
    refine hK _ _ ?_
    clear hK K
    refine W.ret ?_
    refine BodyQ.ret rfl ?_
    rw [h]
    rfl

theorem sOrderSecond_pc {p : List Txt} (hs : Sm p) : PC Tryz.prog 41 [eStrs p] (.tup [eInts (ifL (plainB p) (srt p true)), .bool (plainB p)]) false := by
  refine PC.of ⟨Tryz.func41, by kernel_rfl, rfl, by kernel_rfl⟩ tabOk mixed (by show 1 ≤ Tryz.f41.ntmps; decide) ?_
  refine W.seq_region fun K hK => ?_
  simp (disch := omega) only [↓RU, RV, RH, ↓reduceIte, Nat.reduceEqDiff, reduceCtorEq, if_pos, ↓RS, RG, Nat.reduceAdd, Nat.reduceMul, Nat.reduceLeDiff]
  refine hK _ _ ?_
  clear hK K
  refine W.seq ?_
  refine W.seq_region fun K hK => ?_
  simp (disch := omega) only [↓RU, RV, RH, ↓reduceIte, Nat.reduceEqDiff, reduceCtorEq, if_pos, List.append_nil, ↓RS, RG, Nat.reduceAdd, Nat.reduceMul, Nat.reduceLeDiff]
  refine CallR.pc (l5Plain_pc hs) rfl (.inl rfl) ?_
  simp (disch := omega) only [↓RU, RV, RH, ↓reduceIte, Nat.reduceEqDiff, reduceCtorEq, if_pos, List.append_nil, ↓RS, RG, Nat.reduceAdd, Nat.reduceMul, Nat.reduceLeDiff]
  refine hK _ _ ?_
  clear hK K
  refine W.cond rfl (fun h0 => ?_) (fun h0 => ?_)
  · try simp only [RL] at h0
    have h : plainB p = false := by simpa using h0
    refine W.seq_region fun K hK => ?_
    simp (disch := omega) only [↓RU, RV, RH, ↓reduceIte, Nat.reduceEqDiff, reduceCtorEq, if_pos, ↓RS, RG, Nat.reduceAdd, Nat.reduceMul, Nat.reduceLeDiff, tyLint, tyint]
    refine hK _ _ ?_
    clear hK K
    refine W.ret ?_
    refine XThen.ret ?_
    refine BodyQ.ret rfl ?_
    rw [h]
    rfl
  · try simp only [RL] at h0
    have h : plainB p = true := by simpa using h0
    refine W.skip ?_
    refine XThen.norm ?_
    refine W.seq_region fun K hK => ?_
    simp (disch := omega) only [↓RU, RV, RH, ↓reduceIte, Nat.reduceEqDiff, reduceCtorEq, if_pos, List.append_nil, ↓RS, RG, Nat.reduceAdd, Nat.reduceMul, Nat.reduceLeDiff]
    refine CallR.pc (l5Sorted_pc hs h true) rfl (.inl rfl) ?_
    simp (disch := omega) only [↓RU, RV, RH, ↓reduceIte, Nat.reduceEqDiff, reduceCtorEq, if_pos, List.append_nil, ↓RS, RG, Nat.reduceAdd, Nat.reduceMul, Nat.reduceLeDiff]
    refine hK _ _ ?_
    clear hK K
    refine W.ret ?_
    refine BodyQ.ret rfl ?_
    rw [h]
    rfl

end Fw
end Go.Proofs.YtcglmbijpjhbmaaGreat

/-! The laws of the orders, gone through. -/
namespace Go.Proofs.YtcglmbijpjhbmaaGreat
namespace Fw
open Go

theorem tStr_pc {p : List Txt} (hp : p.length ≤ 1048576) : PC Tryz.prog 38 [eStrs p] (eStrs p) true :=
  PN.pc (toStringS_pn hp) rfl (by simp only [List.map_cons, List.map_nil, upOb_arr, up_loc, up_strs, Nat.add_zero]; exact reify_loc rfl (by simp) (mapM_str _))

theorem orderPerm_yn {p : List Txt} (hs : Sm p) (hv : plainI p = true) : PN Tryz.prog 48 [eStrs p] (.tup [.loc 0 0 0 (rP p).length, .bool true]) [.arr 0 3 1 ((permV p).map (.int .i64))] false := by
  refine PN.of ⟨Tryz.func48, by kernel_rfl, rfl, by kernel_rfl⟩ tabOk mixed (by show 1 ≤ Tryz.f48.ntmps; decide) ?_
  refine W.seq_region fun K hK => ?_
  simp (disch := omega) only [↓RU, RV, RH, ↓reduceIte, Nat.reduceEqDiff, reduceCtorEq, if_pos, ↓RS, RG, Nat.reduceAdd, Nat.reduceMul, Nat.reduceLeDiff]
  refine hK _ _ ?_
  clear hK K
  refine W.seq_region fun K hK => ?_
  simp (disch := omega) only [↓RU, RV, RH, ↓reduceIte, Nat.reduceEqDiff, reduceCtorEq, if_pos, List.append_nil, ↓RS, RG, Nat.reduceAdd, Nat.reduceMul, Nat.reduceLeDiff, tyLLbool, tyLbool, tybool, tyimpl_orders, tyimpl_relation, tystruct_left_impl_relation_above_impl_relation_]
  refine CallR.pc (ordersOf_yes hs hv) rfl (.inr rfl) ?_
  simp (disch := omega) only [↓RU, RV, RH, ↓reduceIte, Nat.reduceEqDiff, reduceCtorEq, if_pos, List.append_nil, ↓RS, RG, Nat.reduceAdd, Nat.reduceMul, Nat.reduceLeDiff, tyLLbool, tyLbool, tybool, tyimpl_orders, tyimpl_relation, tystruct_left_impl_relation_above_impl_relation_]
  refine hK _ _ ?_
  clear hK K
  refine W.seq ?_
  refine W.seq_region fun K hK => ?_
  simp (disch := omega) only [↓RU, RV, RH, ↓reduceIte, Nat.reduceEqDiff, reduceCtorEq, if_pos, ↓RS, RG, Nat.reduceAdd, Nat.reduceMul, Nat.reduceLeDiff]
  refine hK _ _ ?_
  clear hK K
  refine W.cond rfl (fun h => ?_) (fun h => ?_)
  · try simp only [RL] at h
    exact absurd h (by simp)
  · try simp only [RL] at h
    refine W.skip ?_
    refine XThen.norm ?_
    refine W.joinS [2, 3] (fun vs S => ∃ t tk : Nat, vs = [.loc 0 t 0 (rP p).length, .bool true] ∧ S = ⟨[.arr t 3 1 ((permV p).map (.int .i64))], tk⟩) ?_ ?_
    ·
      refine W.region_k fun K hK => ?_
      simp (disch := omega) only [↓RU, RV, RH, ↓reduceIte, Nat.reduceEqDiff, reduceCtorEq, if_pos, List.append_nil, ↓RS, RG, Nat.reduceAdd, Nat.reduceMul, Nat.reduceLeDiff, tyLLbool, tyLbool, tybool, tyimpl_orders, tyimpl_relation, tystruct_left_impl_relation_above_impl_relation_]
      refine CallR.pn (perm_pn hv) rfl (.inl rfl) ?_
      simp (disch := omega) only [↓RU, RV, RH, ↓reduceIte, Nat.reduceEqDiff, reduceCtorEq, if_pos, List.append_nil, ↓RS, RG, Nat.reduceAdd, Nat.reduceMul, Nat.reduceLeDiff, tyLLbool, tyLbool, tybool, tyimpl_orders, tyimpl_relation, tystruct_left_impl_relation_above_impl_relation_, RN]
      refine hK _ _ ?_
      clear hK K
      refine XThen.norm ?_
      refine ⟨0, [1], [.loc 0 2 0 (rP p).length, .bool true], ⟨[.arr 2 3 1 ((permV p).map (.int .i64))], 3⟩, ?_, ?_, 2, 3, rfl, rfl⟩
      · simp [-List.mapM_map, Env.put, Env.of, argEnv, Srn_eq, rnObs_cons, rnObs_nil, rnOb_arr, rnOb_map, rn_loc, rn_ref, rn_mp, rn_int, rn_bool, rn_str, rn_ip, rn_sl, rn_nils, rn_nilp, rn_undef, rn_agg, rn_tup, rn_fn, rfq_loc, rfq_int, rfq_bool, rfq_str, rfq_sl, frOf, List.range_succ, List.mapM_append, List.mapM_cons, Store.cellsOf]
      · simp [-List.mapM_map, Env.put, Env.of, argEnv, Srn_eq, rnObs_cons, rnObs_nil, rnOb_arr, rnOb_map, rn_loc, rn_ref, rn_mp, rn_int, rn_bool, rn_str, rn_ip, rn_sl, rn_nils, rn_nilp, rn_undef, rn_agg, rn_tup, rn_fn, rfq_loc, rfq_int, rfq_bool, rfq_str, rfq_sl, frOf, List.range_succ, List.mapM_append, List.mapM_cons, rn_ints]
    rintro vs S - ⟨t0, tk0, rfl, rfl⟩
    refine W.ret ?_
    refine BodyQ.ret rfl ?_
    exact sh_one2 rfl (sh_ints _)

theorem orderSecondLaw_no {p : List Txt} (hl : p.length ≤ 9223372036854775807) (hr : ∀ r ∈ p, r.length ≤ 9223372036854775807)
    (hspec : Sm p → PC Tryz.prog 41 [eStrs p] (.tup [eInts ([] : List Int), .bool false]) false)
    (himp : Sm p → PC Tryz.prog 42 [eStrs p] (.tup [eInts [], .bool false]) true) : PC Tryz.prog 9 [eStrs p] (.bool true) true := by
  refine PC.of ⟨Tryz.func9, by kernel_rfl, rfl, by kernel_rfl⟩ tabOk mixed (by show 1 ≤ Tryz.f9.ntmps; decide) ?_
  refine W.seq_region fun K hK => ?_
  simp (disch := omega) only [↓RU, RV, RH, ↓reduceIte, Nat.reduceEqDiff, reduceCtorEq, if_pos, ↓RS, RG, Nat.reduceAdd, Nat.reduceMul, Nat.reduceLeDiff]
  refine hK _ _ ?_
  clear hK K
  refine W.seq_region fun K hK => ?_
  simp (disch := omega) only [↓RU, RV, RH, ↓reduceIte, Nat.reduceEqDiff, reduceCtorEq, if_pos, ↓RS, RG, Nat.reduceAdd, Nat.reduceMul, Nat.reduceLeDiff]
  refine hK _ _ ?_
  clear hK K
  refine W.seq_region fun K hK => ?_
  simp (disch := omega) only [↓RU, RV, RH, ↓reduceIte, Nat.reduceEqDiff, reduceCtorEq, if_pos, List.append_nil, ↓RS, RG, Nat.reduceAdd, Nat.reduceMul, Nat.reduceLeDiff]
  refine CallR.pc (szStringS_pc hl hr (left := 1048576) (by omega) (by omega)) rfl (.inl rfl) ?_
  simp (disch := omega) only [↓RU, RV, RH, ↓reduceIte, Nat.reduceEqDiff, reduceCtorEq, if_pos, List.append_nil, ↓RS, RG, Nat.reduceAdd, Nat.reduceMul, Nat.reduceLeDiff]
  refine hK _ _ ?_
  clear hK K
  refine W.seq ?_
  refine W.seq_region fun K hK => ?_
  simp (disch := omega) only [↓RU, RV, RH, ↓reduceIte, Nat.reduceEqDiff, reduceCtorEq, if_pos, w64, ↓RS, RG, Nat.reduceAdd, Nat.reduceMul, Nat.reduceLeDiff, tyint]
  refine hK _ _ ?_
  clear hK K
  refine W.cond rfl (fun h0 => ?_) (fun h0 => ?_)
  · try simp only [RL] at h0
    refine W.seq_region fun K hK => ?_
    simp (disch := omega) only [↓RU, RV, RH, ↓reduceIte, Nat.reduceEqDiff, reduceCtorEq, if_pos, ↓RS, RG, Nat.reduceAdd, Nat.reduceMul, Nat.reduceLeDiff]
    refine hK _ _ ?_
    clear hK K
    refine W.ret ?_
    refine XThen.ret ?_
    refine BodyQ.ret rfl ?_
    rfl
  · try simp only [RL] at h0
    have hs : Sm p := sz_sm (Int.le_refl _) (by omega)
    have hs1 := hs.1
    refine W.skip ?_
    refine XThen.norm ?_
    refine W.seq_region fun K hK => ?_
    simp (disch := omega) only [↓RU, RV, RH, ↓reduceIte, Nat.reduceEqDiff, reduceCtorEq, if_pos, List.append_nil, ↓RS, RG, Nat.reduceAdd, Nat.reduceMul, Nat.reduceLeDiff]
    refine CallR.pc (tStr_pc hs1) rfl (.inl rfl) ?_
    simp (disch := omega) only [↓RU, RV, RH, ↓reduceIte, Nat.reduceEqDiff, reduceCtorEq, if_pos, List.append_nil, ↓RS, RG, Nat.reduceAdd, Nat.reduceMul, Nat.reduceLeDiff]
    refine CallR.pc (hspec hs) rfl (.inr rfl) ?_
    simp (disch := omega) only [↓RU, RV, RH, ↓reduceIte, Nat.reduceEqDiff, reduceCtorEq, if_pos, List.append_nil, ↓RS, RG, Nat.reduceAdd, Nat.reduceMul, Nat.reduceLeDiff]
    refine hK _ _ ?_
    clear hK K
    refine W.seq_region fun K hK => ?_
    simp (disch := omega) only [↓RU, RV, RH, ↓reduceIte, Nat.reduceEqDiff, reduceCtorEq, if_pos, List.append_nil, ↓RS, RG, Nat.reduceAdd, Nat.reduceMul, Nat.reduceLeDiff]
    refine CallR.pn (toStringS_pn hs1) rfl (.inl rfl) ?_
    simp (disch := omega) only [↓RU, RV, RH, ↓reduceIte, Nat.reduceEqDiff, reduceCtorEq, if_pos, List.append_nil, ↓RS, RG, Nat.reduceAdd, Nat.reduceMul, Nat.reduceLeDiff, RN]
    refine hK _ _ ?_
    clear hK K
    refine W.seq_region fun K hK => ?_
    simp (disch := omega) only [↓RU, RV, RH, ↓reduceIte, Nat.reduceEqDiff, reduceCtorEq, if_pos, List.append_nil, ↓RS, RG, Nat.reduceAdd, Nat.reduceMul, Nat.reduceLeDiff]
    refine CallR.pc (himp hs) (mapM_one (reify_loc (k := 9) rfl (by simp) (mapM_str _)) rfl) (.inl rfl) ?_
    simp (disch := omega) only [↓RU, RV, RH, ↓reduceIte, Nat.reduceEqDiff, reduceCtorEq, if_pos, List.append_nil, ↓RS, RG, Nat.reduceAdd, Nat.reduceMul, Nat.reduceLeDiff]
    refine hK _ _ ?_
    clear hK K
    refine W.seq ?_
    refine W.seq_region fun K hK => ?_
    simp (disch := omega) only [↓RU, RV, RH, ↓reduceIte, Nat.reduceEqDiff, reduceCtorEq, if_pos, List.append_nil, w64, ↓RS, RG, Nat.reduceAdd, Nat.reduceMul, Nat.reduceLeDiff, tybool]
    refine CallR.pc (eqIntS_pc (p := ([] : List Int)) (q := ([] : List Int)) (by simp) (by simp)) (mapM_one rfl (mapM_one rfl rfl)) (.inl rfl) ?_
    simp (disch := omega) only [↓RU, RV, RH, ↓reduceIte, Nat.reduceEqDiff, reduceCtorEq, if_pos, List.append_nil, w64, ↓RS, RG, Nat.reduceAdd, Nat.reduceMul, Nat.reduceLeDiff, tybool, decide_true, Bool.not_true, bne_self_eq_false]
    refine hK _ _ ?_
    clear hK K
    refine W.cond rfl (fun h2 => ?_) (fun h2 => ?_)
    · try simp only [RL] at h2
      first | (exfalso; omega) | exact absurd h2 (by simp)
    · try simp only [RL] at h2
      refine W.skip ?_
      refine XThen.norm ?_
      refine W.seq ?_
      refine W.seq_region fun K hK => ?_
      simp (disch := omega) only [↓RU, RV, RH, ↓reduceIte, Nat.reduceEqDiff, reduceCtorEq, if_pos, List.append_nil, ↓RS, RG, Nat.reduceAdd, Nat.reduceMul, Nat.reduceLeDiff]
      refine CallR.pc (tStr_pc hs1) rfl (.inl rfl) ?_
      simp (disch := omega) only [↓RU, RV, RH, ↓reduceIte, Nat.reduceEqDiff, reduceCtorEq, if_pos, List.append_nil, ↓RS, RG, Nat.reduceAdd, Nat.reduceMul, Nat.reduceLeDiff]
      refine CallR.pc (eqStringS_pc (p := p) (q := p) (by omega) (by omega)) (mapM_one (reify_loc (k := 9) rfl (by simp) (mapM_str _)) (mapM_one rfl rfl)) (.inl rfl) ?_
      simp (disch := omega) only [↓RU, RV, RH, ↓reduceIte, Nat.reduceEqDiff, reduceCtorEq, if_pos, List.append_nil, ↓RS, RG, Nat.reduceAdd, Nat.reduceMul, Nat.reduceLeDiff]
      refine hK _ _ ?_
      clear hK K
      refine W.cond rfl (fun h3 => ?_) (fun h3 => ?_)
      · try simp only [RL] at h3
        first | (exfalso; omega) | exact absurd h3 (by simp)
      · try simp only [RL] at h3
        refine W.skip ?_
        refine XThen.norm ?_
        refine W.seq_region fun K hK => ?_
        simp (disch := omega) only [↓RU, RV, RH, ↓reduceIte, Nat.reduceEqDiff, reduceCtorEq, if_pos, ↓RS, RG, Nat.reduceAdd, Nat.reduceMul, Nat.reduceLeDiff]
        refine hK _ _ ?_
        clear hK K
        refine W.seq_region fun K hK => ?_
        simp (disch := omega) only [↓RU, RV, RH, ↓reduceIte, Nat.reduceEqDiff, reduceCtorEq, if_pos, List.append_nil, ↓RS, RG, Nat.reduceAdd, Nat.reduceMul, Nat.reduceLeDiff]
        refine CallR.ev (markStringS_ev (F := []) (R := []) (l := p) hs1 (k0 := 1) (by omega) (by omega)) ?_
        rintro _ _ ⟨rfl, t1, ht1, rfl⟩
        simp (disch := omega) only [↓RU, RV, RH, ↓reduceIte, Nat.reduceEqDiff, reduceCtorEq, if_pos, List.append_nil, ↓RS, RG, Nat.reduceAdd, Nat.reduceMul, Nat.reduceLeDiff, List.nil_append, List.cons_append, List.append_nil]
        refine hK _ _ ?_
        clear hK K
        refine W.seq ?_
        refine W.seq_region fun K hK => ?_
        have hk0 : decide ((1 + (p.length : Int)) < 0) = false := by simp; omega
        simp (disch := omega) only [↓RU, RV, RH, ↓reduceIte, Nat.reduceEqDiff, reduceCtorEq, if_pos, w64, List.append_nil, ↓RS, RG, Nat.reduceAdd, Nat.reduceMul, Nat.reduceLeDiff, tybool, tyint, hk0]
        refine CallR.pc (eqIntS_pc (p := ([] : List Int)) (q := ([] : List Int)) (by simp) (by simp)) (mapM_one rfl (mapM_one rfl rfl)) (.inl rfl) ?_
        simp (disch := omega) only [↓RU, RV, RH, ↓reduceIte, Nat.reduceEqDiff, reduceCtorEq, if_pos, w64, List.append_nil, ↓RS, RG, Nat.reduceAdd, Nat.reduceMul, Nat.reduceLeDiff, tybool, tyint, hk0, decide_true, Bool.not_true, bne_self_eq_false]
        refine hK _ _ ?_
        clear hK K
        refine W.cond rfl (fun h4 => ?_) (fun h4 => ?_)
        · try simp only [RL] at h4
          first | (exfalso; omega) | exact absurd h4 (by simp)
        · try simp only [RL] at h4
          refine W.skip ?_
          refine XThen.norm ?_
          refine W.seq_region fun K hK => ?_
          simp (disch := omega) only [↓RU, RV, RH, ↓reduceIte, Nat.reduceEqDiff, reduceCtorEq, if_pos, ↓RS, RG, Nat.reduceAdd, Nat.reduceMul, Nat.reduceLeDiff]
          refine hK _ _ ?_
          clear hK K
          refine W.seq_region fun K hK => ?_
          simp (disch := omega) only [↓RU, RV, RH, ↓reduceIte, Nat.reduceEqDiff, reduceCtorEq, if_pos, List.append_nil, ↓RS, RG, Nat.reduceAdd, Nat.reduceMul, Nat.reduceLeDiff]
          refine CallR.pc (markIntS0_pc 1) rfl (.inl rfl) ?_
          simp (disch := omega) only [↓RU, RV, RH, ↓reduceIte, Nat.reduceEqDiff, reduceCtorEq, if_pos, List.append_nil, ↓RS, RG, Nat.reduceAdd, Nat.reduceMul, Nat.reduceLeDiff]
          refine hK _ _ ?_
          clear hK K
          refine W.seq_region fun K hK => ?_
          simp (disch := omega) only [↓RU, RV, RH, ↓reduceIte, Nat.reduceEqDiff, reduceCtorEq, if_pos, ↓RS, RG, Nat.reduceAdd, Nat.reduceMul, Nat.reduceLeDiff]
          refine hK _ _ ?_
          clear hK K
          refine W.seq_region fun K hK => ?_
          simp (disch := omega) only [↓RU, RV, RH, ↓reduceIte, Nat.reduceEqDiff, reduceCtorEq, if_pos, List.append_nil, ↓RS, RG, Nat.reduceAdd, Nat.reduceMul, Nat.reduceLeDiff]
          refine CallR.pc (heldIntS_pc (l := []) (k0 := 1) (by simp) (by omega) (by omega) (fun j h => absurd h (by simp))) rfl (.inl rfl) ?_
          simp (disch := omega) only [↓RU, RV, RH, ↓reduceIte, Nat.reduceEqDiff, reduceCtorEq, if_pos, List.append_nil, ↓RS, RG, Nat.reduceAdd, Nat.reduceMul, Nat.reduceLeDiff, List.length_nil]
          refine hK _ _ ?_
          clear hK K
          refine W.seq ?_
          refine W.seq_region fun K hK => ?_
          simp (disch := omega) only [↓RU, RV, RH, ↓reduceIte, Nat.reduceEqDiff, reduceCtorEq, if_pos, w64, ↓RS, RG, Nat.reduceAdd, Nat.reduceMul, Nat.reduceLeDiff, tyint]
          refine hK _ _ ?_
          clear hK K
          refine W.cond rfl (fun h5 => ?_) (fun h5 => ?_)
          · try simp only [RL] at h5
            first | (exfalso; omega) | exact absurd h5 (by simp)
          · try simp only [RL] at h5
            refine W.skip ?_
            refine XThen.norm ?_
            refine W.seq ?_
            refine W.seq_region fun K hK => ?_
            simp (disch := omega) only [↓RU, RV, RH, ↓reduceIte, Nat.reduceEqDiff, reduceCtorEq, if_pos, w64, ↓RS, RG, Nat.reduceAdd, Nat.reduceMul, Nat.reduceLeDiff, tyint]
            refine hK _ _ ?_
            clear hK K
            refine W.cond rfl (fun h6 => ?_) (fun h6 => ?_)
            · try simp only [RL] at h6
              first | (exfalso; omega) | exact absurd h6 (by simp)
            · try simp only [RL] at h6
              refine W.skip ?_
              refine XThen.norm ?_
              refine W.seq_region fun K hK => ?_
              simp (disch := omega) only [↓RU, RV, RH, ↓reduceIte, Nat.reduceEqDiff, reduceCtorEq, if_pos, List.append_nil, ↓RS, RG, Nat.reduceAdd, Nat.reduceMul, Nat.reduceLeDiff]
              refine CallR.pc (tStr_pc hs1) rfl (.inl rfl) ?_
              simp (disch := omega) only [↓RU, RV, RH, ↓reduceIte, Nat.reduceEqDiff, reduceCtorEq, if_pos, List.append_nil, ↓RS, RG, Nat.reduceAdd, Nat.reduceMul, Nat.reduceLeDiff]
              refine CallR.pc (himp hs) rfl (.inl rfl) ?_
              simp (disch := omega) only [↓RU, RV, RH, ↓reduceIte, Nat.reduceEqDiff, reduceCtorEq, if_pos, List.append_nil, ↓RS, RG, Nat.reduceAdd, Nat.reduceMul, Nat.reduceLeDiff]
              refine hK _ _ ?_
              clear hK K
              refine W.seq ?_
              refine W.seq_region fun K hK => ?_
              simp (disch := omega) only [↓RU, RV, RH, ↓reduceIte, Nat.reduceEqDiff, reduceCtorEq, if_pos, List.append_nil, w64, ↓RS, RG, Nat.reduceAdd, Nat.reduceMul, Nat.reduceLeDiff, tybool]
              refine CallR.pc (eqIntS_pc (p := ([] : List Int)) (q := ([] : List Int)) (by simp) (by simp)) (mapM_one rfl (mapM_one rfl rfl)) (.inl rfl) ?_
              simp (disch := omega) only [↓RU, RV, RH, ↓reduceIte, Nat.reduceEqDiff, reduceCtorEq, if_pos, List.append_nil, w64, ↓RS, RG, Nat.reduceAdd, Nat.reduceMul, Nat.reduceLeDiff, tybool, decide_true, Bool.not_true, bne_self_eq_false]
              refine hK _ _ ?_
              clear hK K
              refine W.cond rfl (fun h7 => ?_) (fun h7 => ?_)
              · try simp only [RL] at h7
                first | (exfalso; omega) | exact absurd h7 (by simp)
              · try simp only [RL] at h7
                refine W.skip ?_
                refine XThen.norm ?_
                refine W.seq_region fun K hK => ?_
                simp (disch := omega) only [↓RU, RV, RH, ↓reduceIte, Nat.reduceEqDiff, reduceCtorEq, if_pos, ↓RS, RG, Nat.reduceAdd, Nat.reduceMul, Nat.reduceLeDiff]
                refine hK _ _ ?_
                clear hK K
                refine W.seq_region fun K hK => ?_
                simp (disch := omega) only [↓RU, RV, RH, ↓reduceIte, Nat.reduceEqDiff, reduceCtorEq, if_pos, List.append_nil, ↓RS, RG, Nat.reduceAdd, Nat.reduceMul, Nat.reduceLeDiff]
                refine CallR.pc (heldIntS_pc (l := []) (k0 := 1) (by simp) (by omega) (by omega) (fun j h => absurd h (by simp))) rfl (.inl rfl) ?_
                simp (disch := omega) only [↓RU, RV, RH, ↓reduceIte, Nat.reduceEqDiff, reduceCtorEq, if_pos, List.append_nil, ↓RS, RG, Nat.reduceAdd, Nat.reduceMul, Nat.reduceLeDiff, List.length_nil]
                refine hK _ _ ?_
                clear hK K
                refine W.seq ?_
                refine W.seq_region fun K hK => ?_
                simp (disch := omega) only [↓RU, RV, RH, ↓reduceIte, Nat.reduceEqDiff, reduceCtorEq, if_pos, w64, ↓RS, RG, Nat.reduceAdd, Nat.reduceMul, Nat.reduceLeDiff, tyint]
                refine hK _ _ ?_
                clear hK K
                refine W.cond rfl (fun h8 => ?_) (fun h8 => ?_)
                · try simp only [RL] at h8
                  first | (exfalso; omega) | exact absurd h8 (by simp)
                · try simp only [RL] at h8
                  refine W.skip ?_
                  refine XThen.norm ?_
                  refine W.seq ?_
                  refine W.seq_region fun K hK => ?_
                  simp (disch := omega) only [↓RU, RV, RH, ↓reduceIte, Nat.reduceEqDiff, reduceCtorEq, if_pos, w64, ↓RS, RG, Nat.reduceAdd, Nat.reduceMul, Nat.reduceLeDiff, tyint]
                  refine hK _ _ ?_
                  clear hK K
                  refine W.cond rfl (fun h9 => ?_) (fun h9 => ?_)
                  · try simp only [RL] at h9
                    first | (exfalso; omega) | exact absurd h9 (by simp)
                  · try simp only [RL] at h9
                    refine W.skip ?_
                    refine XThen.norm ?_
                    refine W.seq_region fun K hK => ?_
                    simp (disch := omega) only [↓RU, RV, RH, ↓reduceIte, Nat.reduceEqDiff, reduceCtorEq, if_pos, ↓RS, RG, Nat.reduceAdd, Nat.reduceMul, Nat.reduceLeDiff]
                    refine hK _ _ ?_
                    clear hK K
                    refine W.ret ?_
                    refine BodyQ.ret rfl ?_
                    rfl

theorem orderSecondLaw_yes {p : List Txt} (hl : p.length ≤ 9223372036854775807) (hr : ∀ r ∈ p, r.length ≤ 9223372036854775807) {Q : List Int} (hQ : Q.length ≤ 9)
    (hspec : Sm p → PC Tryz.prog 41 [eStrs p] (.tup [eInts Q, .bool true]) false)
    (himp : Sm p → PN Tryz.prog 42 [eStrs p] (.tup [.loc 0 0 0 Q.length, .bool true]) [.arr 0 3 1 (Q.map (.int .i64))] false) : PC Tryz.prog 9 [eStrs p] (.bool true) true := by
  refine PC.of ⟨Tryz.func9, by kernel_rfl, rfl, by kernel_rfl⟩ tabOk mixed (by show 1 ≤ Tryz.f9.ntmps; decide) ?_
  refine W.seq_region fun K hK => ?_
  simp (disch := omega) only [↓RU, RV, RH, ↓reduceIte, Nat.reduceEqDiff, reduceCtorEq, if_pos, ↓RS, RG, Nat.reduceAdd, Nat.reduceMul, Nat.reduceLeDiff]
  refine hK _ _ ?_
  clear hK K
  refine W.seq_region fun K hK => ?_
  simp (disch := omega) only [↓RU, RV, RH, ↓reduceIte, Nat.reduceEqDiff, reduceCtorEq, if_pos, ↓RS, RG, Nat.reduceAdd, Nat.reduceMul, Nat.reduceLeDiff]
  refine hK _ _ ?_
  clear hK K
  refine W.seq_region fun K hK => ?_
  simp (disch := omega) only [↓RU, RV, RH, ↓reduceIte, Nat.reduceEqDiff, reduceCtorEq, if_pos, List.append_nil, ↓RS, RG, Nat.reduceAdd, Nat.reduceMul, Nat.reduceLeDiff]
  refine CallR.pc (szStringS_pc hl hr (left := 1048576) (by omega) (by omega)) rfl (.inl rfl) ?_
  simp (disch := omega) only [↓RU, RV, RH, ↓reduceIte, Nat.reduceEqDiff, reduceCtorEq, if_pos, List.append_nil, ↓RS, RG, Nat.reduceAdd, Nat.reduceMul, Nat.reduceLeDiff]
  refine hK _ _ ?_
  clear hK K
  refine W.seq ?_
  refine W.seq_region fun K hK => ?_
  simp (disch := omega) only [↓RU, RV, RH, ↓reduceIte, Nat.reduceEqDiff, reduceCtorEq, if_pos, w64, ↓RS, RG, Nat.reduceAdd, Nat.reduceMul, Nat.reduceLeDiff, tyint]
  refine hK _ _ ?_
  clear hK K
  refine W.cond rfl (fun h0 => ?_) (fun h0 => ?_)
  · try simp only [RL] at h0
    refine W.seq_region fun K hK => ?_
    simp (disch := omega) only [↓RU, RV, RH, ↓reduceIte, Nat.reduceEqDiff, reduceCtorEq, if_pos, ↓RS, RG, Nat.reduceAdd, Nat.reduceMul, Nat.reduceLeDiff]
    refine hK _ _ ?_
    clear hK K
    refine W.ret ?_
    refine XThen.ret ?_
    refine BodyQ.ret rfl ?_
    rfl
  · try simp only [RL] at h0
    have hs : Sm p := sz_sm (Int.le_refl _) (by omega)
    have hs1 := hs.1
    refine W.skip ?_
    refine XThen.norm ?_
    refine W.seq_region fun K hK => ?_
    simp (disch := omega) only [↓RU, RV, RH, ↓reduceIte, Nat.reduceEqDiff, reduceCtorEq, if_pos, List.append_nil, ↓RS, RG, Nat.reduceAdd, Nat.reduceMul, Nat.reduceLeDiff]
    refine CallR.pc (tStr_pc hs1) rfl (.inl rfl) ?_
    simp (disch := omega) only [↓RU, RV, RH, ↓reduceIte, Nat.reduceEqDiff, reduceCtorEq, if_pos, List.append_nil, ↓RS, RG, Nat.reduceAdd, Nat.reduceMul, Nat.reduceLeDiff]
    refine CallR.pc (hspec hs) rfl (.inr rfl) ?_
    simp (disch := omega) only [↓RU, RV, RH, ↓reduceIte, Nat.reduceEqDiff, reduceCtorEq, if_pos, List.append_nil, ↓RS, RG, Nat.reduceAdd, Nat.reduceMul, Nat.reduceLeDiff]
    refine hK _ _ ?_
    clear hK K
    refine W.seq_region fun K hK => ?_
    simp (disch := omega) only [↓RU, RV, RH, ↓reduceIte, Nat.reduceEqDiff, reduceCtorEq, if_pos, List.append_nil, ↓RS, RG, Nat.reduceAdd, Nat.reduceMul, Nat.reduceLeDiff]
    refine CallR.pn (toStringS_pn hs1) rfl (.inl rfl) ?_
    simp (disch := omega) only [↓RU, RV, RH, ↓reduceIte, Nat.reduceEqDiff, reduceCtorEq, if_pos, List.append_nil, ↓RS, RG, Nat.reduceAdd, Nat.reduceMul, Nat.reduceLeDiff, RN]
    refine hK _ _ ?_
    clear hK K
    refine W.seq_region fun K hK => ?_
    simp (disch := omega) only [↓RU, RV, RH, ↓reduceIte, Nat.reduceEqDiff, reduceCtorEq, if_pos, List.append_nil, ↓RS, RG, Nat.reduceAdd, Nat.reduceMul, Nat.reduceLeDiff]
    refine CallR.pn (himp hs) (mapM_one (reify_loc (k := 9) rfl (by simp) (mapM_str _)) rfl) (.inl rfl) ?_
    simp (disch := omega) only [↓RU, RV, RH, ↓reduceIte, Nat.reduceEqDiff, reduceCtorEq, if_pos, List.append_nil, ↓RS, RG, Nat.reduceAdd, Nat.reduceMul, Nat.reduceLeDiff, RN]
    refine hK _ _ ?_
    clear hK K
    refine W.seq ?_
    refine W.seq_region fun K hK => ?_
    simp (disch := omega) only [↓RU, RV, RH, ↓reduceIte, Nat.reduceEqDiff, reduceCtorEq, if_pos, List.append_nil, w64, ↓RS, RG, Nat.reduceAdd, Nat.reduceMul, Nat.reduceLeDiff, tybool]
    refine CallR.pc (eqIntS_pc (p := Q) (q := Q) (by omega) (by omega)) (mapM_one (reify_loc (k := 9) rfl (by simp) (mapM_int _)) (mapM_one rfl rfl)) (.inl rfl) ?_
    simp (disch := omega) only [↓RU, RV, RH, ↓reduceIte, Nat.reduceEqDiff, reduceCtorEq, if_pos, List.append_nil, w64, ↓RS, RG, Nat.reduceAdd, Nat.reduceMul, Nat.reduceLeDiff, tybool, decide_true, Bool.not_true, bne_self_eq_false]
    refine hK _ _ ?_
    clear hK K
    refine W.cond rfl (fun h2 => ?_) (fun h2 => ?_)
    · try simp only [RL] at h2
      first | (exfalso; omega) | exact absurd h2 (by simp)
    · try simp only [RL] at h2
      refine W.skip ?_
      refine XThen.norm ?_
      refine W.seq ?_
      refine W.seq_region fun K hK => ?_
      simp (disch := omega) only [↓RU, RV, RH, ↓reduceIte, Nat.reduceEqDiff, reduceCtorEq, if_pos, List.append_nil, ↓RS, RG, Nat.reduceAdd, Nat.reduceMul, Nat.reduceLeDiff]
      refine CallR.pc (tStr_pc hs1) rfl (.inl rfl) ?_
      simp (disch := omega) only [↓RU, RV, RH, ↓reduceIte, Nat.reduceEqDiff, reduceCtorEq, if_pos, List.append_nil, ↓RS, RG, Nat.reduceAdd, Nat.reduceMul, Nat.reduceLeDiff]
      refine CallR.pc (eqStringS_pc (p := p) (q := p) (by omega) (by omega)) (mapM_one (reify_loc (k := 9) rfl (by simp) (mapM_str _)) (mapM_one rfl rfl)) (.inl rfl) ?_
      simp (disch := omega) only [↓RU, RV, RH, ↓reduceIte, Nat.reduceEqDiff, reduceCtorEq, if_pos, List.append_nil, ↓RS, RG, Nat.reduceAdd, Nat.reduceMul, Nat.reduceLeDiff]
      refine hK _ _ ?_
      clear hK K
      refine W.cond rfl (fun h3 => ?_) (fun h3 => ?_)
      · try simp only [RL] at h3
        first | (exfalso; omega) | exact absurd h3 (by simp)
      · try simp only [RL] at h3
        refine W.skip ?_
        refine XThen.norm ?_
        refine W.seq_region fun K hK => ?_
        simp (disch := omega) only [↓RU, RV, RH, ↓reduceIte, Nat.reduceEqDiff, reduceCtorEq, if_pos, ↓RS, RG, Nat.reduceAdd, Nat.reduceMul, Nat.reduceLeDiff]
        refine hK _ _ ?_
        clear hK K
        refine W.seq_region fun K hK => ?_
        simp (disch := omega) only [↓RU, RV, RH, ↓reduceIte, Nat.reduceEqDiff, reduceCtorEq, if_pos, List.append_nil, ↓RS, RG, Nat.reduceAdd, Nat.reduceMul, Nat.reduceLeDiff]
        refine CallR.ev (markStringS_ev (F := []) (R := [_]) (l := p) hs1 (k0 := 1) (by omega) (by omega)) ?_
        rintro _ _ ⟨rfl, t1, ht1, rfl⟩
        simp (disch := omega) only [↓RU, RV, RH, ↓reduceIte, Nat.reduceEqDiff, reduceCtorEq, if_pos, List.append_nil, ↓RS, RG, Nat.reduceAdd, Nat.reduceMul, Nat.reduceLeDiff, List.nil_append, List.cons_append, List.append_nil]
        refine hK _ _ ?_
        clear hK K
        refine W.seq ?_
        refine W.seq_region fun K hK => ?_
        have hk0 : decide ((1 + (p.length : Int)) < 0) = false := by simp; omega
        simp (disch := omega) only [↓RU, RV, RH, ↓reduceIte, Nat.reduceEqDiff, reduceCtorEq, if_pos, w64, List.append_nil, ↓RS, RG, Nat.reduceAdd, Nat.reduceMul, Nat.reduceLeDiff, tybool, tyint, hk0]
        refine CallR.pc (eqIntS_pc (p := Q) (q := Q) (by omega) (by omega)) (mapM_one (reify_loc (k := 9) rfl (by simp) (mapM_int _)) (mapM_one rfl rfl)) (.inl rfl) ?_
        simp (disch := omega) only [↓RU, RV, RH, ↓reduceIte, Nat.reduceEqDiff, reduceCtorEq, if_pos, w64, List.append_nil, ↓RS, RG, Nat.reduceAdd, Nat.reduceMul, Nat.reduceLeDiff, tybool, tyint, hk0, decide_true, Bool.not_true, bne_self_eq_false]
        refine hK _ _ ?_
        clear hK K
        refine W.cond rfl (fun h4 => ?_) (fun h4 => ?_)
        · try simp only [RL] at h4
          first | (exfalso; omega) | exact absurd h4 (by simp)
        · try simp only [RL] at h4
          refine W.skip ?_
          refine XThen.norm ?_
          refine W.seq_region fun K hK => ?_
          simp (disch := omega) only [↓RU, RV, RH, ↓reduceIte, Nat.reduceEqDiff, reduceCtorEq, if_pos, ↓RS, RG, Nat.reduceAdd, Nat.reduceMul, Nat.reduceLeDiff]
          refine hK _ _ ?_
          clear hK K
          refine W.seq_region fun K hK => ?_
          simp (disch := omega) only [↓RU, RV, RH, ↓reduceIte, Nat.reduceEqDiff, reduceCtorEq, if_pos, List.append_nil, ↓RS, RG, Nat.reduceAdd, Nat.reduceMul, Nat.reduceLeDiff]
          refine CallR.ev (markIntS_ev (F := [_]) (R := []) (l := Q) (by omega) (k0 := 1) (by omega) (by omega)) ?_
          rintro _ _ ⟨rfl, t3, ht3, hd3, rfl⟩
          simp (disch := omega) only [↓RU, RV, RH, ↓reduceIte, Nat.reduceEqDiff, reduceCtorEq, if_pos, List.append_nil, ↓RS, RG, Nat.reduceAdd, Nat.reduceMul, Nat.reduceLeDiff, List.nil_append, List.cons_append, List.append_nil]
          refine hK _ _ ?_
          clear hK K
          refine W.seq_region fun K hK => ?_
          simp (disch := omega) only [↓RU, RV, RH, ↓reduceIte, Nat.reduceEqDiff, reduceCtorEq, if_pos, ↓RS, RG, Nat.reduceAdd, Nat.reduceMul, Nat.reduceLeDiff]
          refine hK _ _ ?_
          clear hK K
          refine W.seq_region fun K hK => ?_
          simp (disch := omega) only [↓RU, RV, RH, ↓reduceIte, Nat.reduceEqDiff, reduceCtorEq, if_pos, List.append_nil, ↓RS, RG, Nat.reduceAdd, Nat.reduceMul, Nat.reduceLeDiff]
          refine CallR.pc (heldIntS_pc (l := t3) (k0 := 1) (by omega) (by omega) (by omega) (fun j h => hd3 j (by omega))) (mapM_one ((reify_loc (k := 9) (n := Q.length) rfl (by simp [ht3]) (mapM_int _)).trans (by rw [← ht3])) rfl) (.inl rfl) ?_
          simp (disch := omega) only [↓RU, RV, RH, ↓reduceIte, Nat.reduceEqDiff, reduceCtorEq, if_pos, List.append_nil, ↓RS, RG, Nat.reduceAdd, Nat.reduceMul, Nat.reduceLeDiff, ht3]
          refine hK _ _ ?_
          clear hK K
          refine W.seq ?_
          refine W.seq_region fun K hK => ?_
          simp (disch := omega) only [↓RU, RV, RH, ↓reduceIte, Nat.reduceEqDiff, reduceCtorEq, if_pos, w64, ↓RS, RG, Nat.reduceAdd, Nat.reduceMul, Nat.reduceLeDiff, tyint]
          refine hK _ _ ?_
          clear hK K
          refine W.cond rfl (fun h5 => ?_) (fun h5 => ?_)
          · try simp only [RL] at h5
            first | (exfalso; omega) | exact absurd h5 (by simp)
          · try simp only [RL] at h5
            refine W.skip ?_
            refine XThen.norm ?_
            refine W.seq ?_
            refine W.seq_region fun K hK => ?_
            simp (disch := omega) only [↓RU, RV, RH, ↓reduceIte, Nat.reduceEqDiff, reduceCtorEq, if_pos, w64, ↓RS, RG, Nat.reduceAdd, Nat.reduceMul, Nat.reduceLeDiff, tyint]
            refine hK _ _ ?_
            clear hK K
            refine W.cond rfl (fun h6 => ?_) (fun h6 => ?_)
            · try simp only [RL] at h6
              first | (exfalso; omega) | exact absurd h6 (by simp)
            · try simp only [RL] at h6
              refine W.skip ?_
              refine XThen.norm ?_
              refine W.seq_region fun K hK => ?_
              simp (disch := omega) only [↓RU, RV, RH, ↓reduceIte, Nat.reduceEqDiff, reduceCtorEq, if_pos, List.append_nil, ↓RS, RG, Nat.reduceAdd, Nat.reduceMul, Nat.reduceLeDiff]
              refine CallR.pc (tStr_pc hs1) rfl (.inl rfl) ?_
              simp (disch := omega) only [↓RU, RV, RH, ↓reduceIte, Nat.reduceEqDiff, reduceCtorEq, if_pos, List.append_nil, ↓RS, RG, Nat.reduceAdd, Nat.reduceMul, Nat.reduceLeDiff]
              refine CallR.pn (himp hs) rfl (.inl rfl) ?_
              simp (disch := omega) only [↓RU, RV, RH, ↓reduceIte, Nat.reduceEqDiff, reduceCtorEq, if_pos, List.append_nil, ↓RS, RG, Nat.reduceAdd, Nat.reduceMul, Nat.reduceLeDiff, RN]
              refine hK _ _ ?_
              clear hK K
              refine W.seq ?_
              refine W.seq_region fun K hK => ?_
              simp (disch := omega) only [↓RU, RV, RH, ↓reduceIte, Nat.reduceEqDiff, reduceCtorEq, if_pos, List.append_nil, w64, ↓RS, RG, Nat.reduceAdd, Nat.reduceMul, Nat.reduceLeDiff, tybool]
              refine CallR.pc (eqIntS_pc (p := Q) (q := Q) (by omega) (by omega)) (mapM_one (reify_loc (k := 9) rfl (by simp) (mapM_int _)) (mapM_one rfl rfl)) (.inl rfl) ?_
              simp (disch := omega) only [↓RU, RV, RH, ↓reduceIte, Nat.reduceEqDiff, reduceCtorEq, if_pos, List.append_nil, w64, ↓RS, RG, Nat.reduceAdd, Nat.reduceMul, Nat.reduceLeDiff, tybool, decide_true, Bool.not_true, bne_self_eq_false]
              refine hK _ _ ?_
              clear hK K
              refine W.cond rfl (fun h7 => ?_) (fun h7 => ?_)
              · try simp only [RL] at h7
                first | (exfalso; omega) | exact absurd h7 (by simp)
              · try simp only [RL] at h7
                refine W.skip ?_
                refine XThen.norm ?_
                refine W.seq_region fun K hK => ?_
                simp (disch := omega) only [↓RU, RV, RH, ↓reduceIte, Nat.reduceEqDiff, reduceCtorEq, if_pos, ↓RS, RG, Nat.reduceAdd, Nat.reduceMul, Nat.reduceLeDiff]
                refine hK _ _ ?_
                clear hK K
                refine W.seq_region fun K hK => ?_
                simp (disch := omega) only [↓RU, RV, RH, ↓reduceIte, Nat.reduceEqDiff, reduceCtorEq, if_pos, List.append_nil, ↓RS, RG, Nat.reduceAdd, Nat.reduceMul, Nat.reduceLeDiff]
                refine CallR.pc (heldIntS_pc (l := t3) (k0 := 1) (by omega) (by omega) (by omega) (fun j h => hd3 j (by omega))) (mapM_one ((reify_loc (k := 9) (n := Q.length) rfl (by simp [ht3]) (mapM_int _)).trans (by rw [← ht3])) rfl) (.inl rfl) ?_
                simp (disch := omega) only [↓RU, RV, RH, ↓reduceIte, Nat.reduceEqDiff, reduceCtorEq, if_pos, List.append_nil, ↓RS, RG, Nat.reduceAdd, Nat.reduceMul, Nat.reduceLeDiff, ht3]
                refine hK _ _ ?_
                clear hK K
                refine W.seq ?_
                refine W.seq_region fun K hK => ?_
                simp (disch := omega) only [↓RU, RV, RH, ↓reduceIte, Nat.reduceEqDiff, reduceCtorEq, if_pos, w64, ↓RS, RG, Nat.reduceAdd, Nat.reduceMul, Nat.reduceLeDiff, tyint]
                refine hK _ _ ?_
                clear hK K
                refine W.cond rfl (fun h8 => ?_) (fun h8 => ?_)
                · try simp only [RL] at h8
                  first | (exfalso; omega) | exact absurd h8 (by simp)
                · try simp only [RL] at h8
                  refine W.skip ?_
                  refine XThen.norm ?_
                  refine W.seq ?_
                  refine W.seq_region fun K hK => ?_
                  simp (disch := omega) only [↓RU, RV, RH, ↓reduceIte, Nat.reduceEqDiff, reduceCtorEq, if_pos, w64, ↓RS, RG, Nat.reduceAdd, Nat.reduceMul, Nat.reduceLeDiff, tyint]
                  refine hK _ _ ?_
                  clear hK K
                  refine W.cond rfl (fun h9 => ?_) (fun h9 => ?_)
                  · try simp only [RL] at h9
                    first | (exfalso; omega) | exact absurd h9 (by simp)
                  · try simp only [RL] at h9
                    refine W.skip ?_
                    refine XThen.norm ?_
                    refine W.seq_region fun K hK => ?_
                    simp (disch := omega) only [↓RU, RV, RH, ↓reduceIte, Nat.reduceEqDiff, reduceCtorEq, if_pos, ↓RS, RG, Nat.reduceAdd, Nat.reduceMul, Nat.reduceLeDiff]
                    refine hK _ _ ?_
                    clear hK K
                    refine W.ret ?_
                    refine BodyQ.ret rfl ?_
                    rfl

/-- The law FnExactOrderSecond. -/
theorem lawOrderSecond {p : List Txt} (hl : p.length ≤ 9223372036854775807) (hr : ∀ r ∈ p, r.length ≤ 9223372036854775807) : PC Tryz.prog 9 [eStrs p] (.bool true) true := by
  have hI := plainI_plain (p := p)
  cases hv : plainI p with
  | false =>
    refine orderSecondLaw_no hl hr (fun hs => ?_) (fun hs => orderSecond_no hs hv)
    have h := sOrderSecond_pc hs
    rw [← hI, hv] at h; exact h
  | true =>
    have hq : (srt p true).length ≤ 9 := by rw [srt_len]; exact okB_rooms (plain_okB hv).1
    refine orderSecondLaw_yes hl hr hq (fun hs => ?_) (fun hs => by rw [srt_len]; exact orderSecond_yes hs hv)
    have h := sOrderSecond_pc hs
    rw [← hI, hv] at h; exact h

end Fw
end Go.Proofs.YtcglmbijpjhbmaaGreat

/-! The program's OrderSecond answers as the specification's, for all arguments, and leaves what it should: the statement FnExactOrderSecond. No condition. -/
namespace Go.Proofs.YtcglmbijpjhbmaaGreat
open Go Go.ChangeShapes Go.WideShapes Go.ChangeAt Go.RowKit Fw

theorem Tryz.ownRq : ownKnob Tryz.prog.godebug = none := by kernel_rfl
theorem Tryz.laidOutRq : laidOutB Tryz.prog = true := by kernel_rfl

set_option maxRecDepth 100000 in
theorem rq_lifted (os : Os) (started : os.Started) (H : Type) (enc : TypeId × Value → H) :
    ReturnsInHanded {} Tryz.checked os 9 .any (Rows.fnExactOrderSecondSpec.pre6 enc Tryz.prog Tryz.f9 Rows.fnExactOrderSecondRow.domain false) (Rows.fnExactOrderSecondSpec.post enc Tryz.prog Tryz.f9 false true false false) := by
  refine returnsInHanded_of_change (C := Tryz.checked) Tryz.ownRq started (by kernel_rfl) Tryz.func9
    (ChangeSpec.witness6 (enc := enc) (C := Tryz.checked) false ⟨#[], #[.slice none 0 0], []⟩ 8 (by kernel_rfl) (by kernel_rfl) (by kernel_rfl) (by kernel_rfl)) ?_
  intro W base args ds gs before hval0 hW hcnd _
  have hval : ∀ (j : Nat) t v, Tryz.f9.params[j]? = some t → args[j]? = some v → Value.okWide Tryz.prog W .any base t v := hval0
  have hW' := hW
  obtain ⟨p, q, hA0, hV, rfl, hfz, hnd⟩ := hW
  have hA : DataW.TrodAll enc Tryz.prog W 0 (fun _ => true) true Tryz.f9.params.toList args.toList ds p := hA0
  rw [Tryz.params9] at hA hval
  obtain ⟨v0, d0, rfl, rfl, h0⟩ := trodAll_one hA
  obtain ⟨rfl, rfl⟩ := trodVars_none hV
  obtain ⟨l0, i0, b0, c0⟩ := vi_strs (hval 0 _ v0 rfl rfl) h0
  have hlt : ∀ x ∈ p, x.block < W.heap.size := fun x hx => hW'.lt x (by simp [hx])
  refine ((lawOrderSecond b0 c0).run (fun b => b < W.heap.size) W #[v0] (fun _ h => h) rfl ?_).mono ?_
  · rintro (_ | i) p c hp hc
    · cases hp; cases hc; exact i0
    · simp at hp
  · rintro e W' ⟨cv, rfl, hB, hr⟩
    have hcv : cv = .bool true := by cases hr; rfl
    subst hcv
    have t0 := Below.trod Tryz.laidOutRq (by kernel_rfl) (of_decide_eq_true (by kernel_rfl)) h0 hB fun x hx => hlt x (by simp [hx])
    refine ⟨_, rfl, _, _, _, [], p, [], hW', ?_, ?_, ?_, hB.frame _, fun h => by cases h⟩
    · exact trodAll_mk1 (shut_bool Tryz.underlying4 true)
    · rw [Tryz.params9]; exact trodAll_mk1 t0
    · trivial
theorem rq_holds : Rows.FnExactOrderSecondSaid :=
  OpenClaim.holds_of_wide 9 Tryz.f9 rfl rfl rfl rfl rfl rfl rfl ⟨rfl, rfl, rfl, rfl, rfl⟩ rfl rfl rfl rfl rfl (by kernel_rfl) Tryz.func9 (by kernel_rfl)
    (of_decide_eq_true (by kernel_rfl)) (by unfold Func.isWrapper; first | (rw [if_pos (by decide +kernel)]; kernel_rfl) | (rw [if_neg (by decide +kernel)]; exact ⟨rfl, rfl⟩))
    (fun os started H enc _ => rq_lifted os started H enc)
end Go.Proofs.YtcglmbijpjhbmaaGreat
