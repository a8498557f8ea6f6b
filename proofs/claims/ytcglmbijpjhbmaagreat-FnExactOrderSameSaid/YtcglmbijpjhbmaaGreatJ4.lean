/- Parts of the framework and of the proof: Plans that are read are the specification's: grids and names; Plans that are read are the specification's: numbers of rooms and rectangles; Plans that are read are the specification's: rooms fill their rectangles; Areas by the program are the specification's; Areas by the program are the specification's, joined; Plans in which no four rooms meet: two orders of rooms go on without end, and each two rooms are in one; The program's closures and walls in words of cells: left of is going on from just left of, above is going on from just above; Orders of a plain plan: each two rooms are in just one; Rooms put in a row by how many are ahead of them; Points of the program, gone through; strings.Builder: copyCheck and String, in the model's own words; The text of a plan of the program, gone through; The numbering of rooms by the program, gone through; Grids of the program, gone through; Plans of the program, gone through; Reading plans, gone through; Plans that are cut, in plain words; Orders of two rooms, gone through. -/
import Derived.Test.YtcglmbijpjhbmaaGreatJ3
import Derived.Test.YtcglmbijpjhbmaaGreatJ2
import Derived.Lib.Builder
import Derived.Lib.UnsafeStr
import Derived.Lib.Walk
import Derived.WalkKit
import Derived.Laws.Externs
set_option linter.all false
/-! Plans that are read are the specification's: grids and names. -/
namespace Go.Proofs.YtcglmbijpjhbmaaGreat
namespace Fw
open Go

def u8I (c : UInt8) : Int := (c.toNat : Int)
theorem u8I_inj {a b : UInt8} (h : u8I a = u8I b) : a = b := by
  unfold u8I at h
  exact UInt8.toNat_inj.1 (by omega)
theorem idxOf_map {α β : Type} [DecidableEq α] [DecidableEq β] {f : α → β} (hf : ∀ a b, f a = f b → a = b) {c : α} : ∀ (l : List α), (l.map f).idxOf (f c) = l.idxOf c
  | [] => rfl
  | a :: l => by
    rw [List.map_cons, List.idxOf_cons, List.idxOf_cons, idxOf_map hf l]
    by_cases e : a = c
    · subst e; simp
    · have e2 : f a ≠ f c := fun h => e (hf _ _ h)
      rw [show (f a == f c) = false by simpa using e2, show (a == c) = false by simpa using e]
theorem gz_read {p : List Txt} {i k : Nat} {row : Txt} {c : UInt8} (h : p[i]? = some row) (hc : row[k]? = some c) : gz (readG p) i k = u8I c := by
  simp [gz, readG, rowZ, h, hc, u8I]
theorem nameRow_is {p : List Txt} {i : Nat} {row : Txt} (h : p[i]? = some row) {o : List UInt8} {s : List Int × List Rect} (ho : o.map u8I = s.1) : ∀ j, j ≤ row.length →
    ((row.take j).foldl nameStep (o, [])).1.map u8I = (seRow (readG p) i s j).1 ∧ ((row.take j).foldl nameStep (o, [])).2 = rowT (zRow (readG p) i s j)
  | 0, _ => ⟨by simpa [seRow] using ho, by simp [zRow, rowT]⟩
  | j + 1, hj => by
    obtain ⟨c, hc, -⟩ := get_of (show j < row.length by omega)
    obtain ⟨h1, h2⟩ := nameRow_is h ho j (by omega)
    rw [foldl_tk hc]
    generalize (row.take j).foldl nameStep (o, []) = q at h1 h2 ⊢
    have hz := gz_read h hc
    have hi : (seRow (readG p) i s j).1.idxOf (gz (readG p) i j) = q.1.idxOf c := by rw [← h1, hz, idxOf_map fun a b => u8I_inj]
    have hl : (seRow (readG p) i s j).1.length = q.1.length := by rw [← h1, List.length_map]
    constructor
    · simp only [nameStep, seRow, seKs]
      rw [hi, hl]
      split
      · rw [List.map_append, h1, hz]; rfl
      · exact h1
    · simp only [nameStep, zRow]
      rw [hi, h2]
      simp [rowT, letZ]
theorem names_to {p : List Txt} {W : Nat} (hW : ∀ row ∈ p, row.length = W) : ∀ i, i ≤ p.length →
    ((p.take i).foldl nameGo ([], [])).1.map u8I = (seRows (readG p) W i).1 ∧ ((p.take i).foldl nameGo ([], [])).2 = textG (zRows (readG p) W i)
  | 0, _ => by simp [seRows, zRows, textG]
  | i + 1, hi => by
    obtain ⟨row, hr, hm⟩ := get_of (show i < p.length by omega)
    obtain ⟨h1, h2⟩ := names_to hW i (by omega)
    rw [foldl_tk hr]
    generalize (p.take i).foldl nameGo ([], []) = q at h1 h2 ⊢
    have hl := hW row hm
    obtain ⟨k1, k2⟩ := nameRow_is hr h1 row.length (Nat.le_refl _)
    rw [List.take_length, hl] at k1 k2
    constructor
    · simp only [nameGo, nameRow, seRows]; exact k1
    · simp only [nameGo, nameRow, zRows, textG, List.map_append, List.map_cons, List.map_nil]
      rw [k2, h2]
      rfl
theorem w0_read {p : List Txt} : w0 (readG p) = (hdRow p).length := by
  cases p with
  | nil => rfl
  | cons a p => simp [w0, readG, rowZ, hdRow]
theorem grid_rows {p : List Txt} (hg : gridB p = true) : ∀ row ∈ p, row.length = (hdRow p).length := by
  intro row hm
  obtain ⟨i, hi⟩ := List.getElem?_of_mem hm
  exact grid_row hg hi
theorem names_text {p : List Txt} (hg : gridB p = true) : names p = textG (gP p) := by
  have := (names_to (grid_rows hg) p.length (Nat.le_refl _)).2
  rw [List.take_length] at this
  unfold names namesAll gP zG
  rw [this, w0_read, readG_len]
theorem grid_iff {p : List Txt} : gridB p = (lettersB p && okG (readG p)) := by
  rw [Bool.eq_iff_iff, Bool.and_eq_true, okG_iff, readG_len, w0_read]
  unfold gridB lettersB GW rowB
  simp only [Bool.and_eq_true, decide_eq_true_eq, List.all_eq_true, readG_len, true_and]
  constructor
  · rintro ⟨⟨h1, h2⟩, h3⟩
    obtain ⟨row0, hr0, hm0⟩ := get_of (show 0 < p.length by omega)
    have hh := hdRow_of hr0
    have h4 := h1 row0 hm0
    refine ⟨fun r hr => (h1 r hr).2, fun r hr => ?_, h2, h3, by rw [hh]; omega, by rw [hh]; omega⟩
    obtain ⟨t, ht, rfl⟩ := List.mem_map.1 hr
    rw [rowZ_len]; exact (h1 t ht).1.1.1
  · rintro ⟨h1, h2, h3, h4, h5, h6⟩
    refine ⟨⟨fun r hr => ?_, h3⟩, h4⟩
    have := h2 (rowZ r) (List.mem_map.2 ⟨r, hr, rfl⟩)
    rw [rowZ_len] at this
    exact ⟨⟨⟨this, by omega⟩, by omega⟩, h1 r hr⟩
end Fw
end Go.Proofs.YtcglmbijpjhbmaaGreat

/-! Plans that are read are the specification's: numbers of rooms and rectangles. -/
namespace Go.Proofs.YtcglmbijpjhbmaaGreat
namespace Fw
open Go

theorem zRow_at {g : List (List Int)} {i : Nat} {s : List Int × List Rect} : ∀ {j k : Nat}, k < j → (zRow g i s j)[k]? = some (((seRow g i s k).1.idxOf (gz g i k) : Nat) : Int)
  | 0, k, h => by omega
  | j + 1, k, h => by
    unfold zRow
    by_cases e : k = j
    · subst e; rw [List.getElem?_append_right (by rw [zRow_len]; exact Nat.le_refl _), zRow_len]; simp
    · rw [List.getElem?_append_left (by rw [zRow_len]; omega)]; exact zRow_at (by omega)
def keys (p : List Txt) : List Int := (seRows (readG p) (hdRow p).length p.length).1
theorem gP_eq {p : List Txt} : gP p = zRows (readG p) (hdRow p).length p.length := by unfold gP zG; rw [w0_read, readG_len]
theorem rP_eq {p : List Txt} : rP p = (seRows (readG p) (hdRow p).length p.length).2 := by unfold rP stG; rw [w0_read, readG_len]
theorem gP_at {p : List Txt} {i j : Nat} (hi : i < p.length) (hj : j < (hdRow p).length) : gz (gP p) i j = (((keys p).idxOf (gz (readG p) i j) : Nat) : Int) := by
  rw [gP_eq]
  unfold gz
  rw [zRows_at hi, Option.getD_some, zRow_at hj, Option.getD_some]
  congr 1
  exact zNum hi hj
theorem keys_inv (p : List Txt) : SeInv (gz (readG p)) (hdRow p).length p.length 0 (keys p) (rP p) := by
  rw [rP_eq]; exact SeInv.rows p.length
theorem gone_all {H W i j : Nat} (hi : i < H) (hj : j < W) : Gone W H 0 i j := ⟨hj, .inl hi⟩
theorem gP_room {p : List Txt} : RmOk (gP p) p.length (hdRow p).length (rP p).length := by
  intro i j hi hj
  rw [gP_at hi hj]
  have hm := (keys_inv p).mem i j (gone_all hi hj)
  have hl := (keys_inv p).len
  have := List.idxOf_lt_length_iff.2 hm
  omega
/-- A plan whose names are as they should be. -/
structure Named (p : List Txt) : Prop where
  hg : gridB p = true
  ht : textG (gP p) = p
theorem Named.cell {p : List Txt} (h : Named p) {i j : Nat} (hi : i < p.length) (hj : j < (hdRow p).length) : gz (gP p) i j = cellZ p i j := by
  have hgz := gP_at hi hj
  have hm := (keys_inv p).mem i j (gone_all hi hj)
  have hsm := grid_small h.hg
  obtain ⟨row0, hr0, hm0⟩ := get_of hsm.1
  have hh := hdRow_of hr0
  have hw6 := hsm.2.2 row0 hm0
  have hw1 := row_pos h.hg hr0
  rw [← hh] at hw6 hw1
  have hb := zRows_bound (g := readG p) hw6 hw1 p.length hsm.2.1
  rw [← gP_eq] at hb
  have hrl : (gP p).length = p.length := by rw [gP_eq]; exact zRows_len _
  obtain ⟨zr, hzr, hzm⟩ := get_of (show i < (gP p).length by omega)
  have hzl : zr.length = (hdRow p).length := by
    have e := hzr
    rw [gP_eq, zRows_at hi] at e
    cases e
    exact zRow_len _
  obtain ⟨z, hz, hzm2⟩ := get_of (show j < zr.length by omega)
  have hz1 := hb zr hzm z hzm2
  have e1 : gz (gP p) i j = z := by simp [gz, hzr, hz]
  have e2 : p[i]? = some (rowT zr) := by
    have := textG_at hzr
    rwa [h.ht] at this
  have e3 : (rowT zr)[j]? = some (letZ z) := by simp [rowT, hz]
  rw [e1, cellZ_is e2 e3]
  unfold letZ
  rw [UInt8.toNat_ofNat_of_lt' (by show 97 + z.toNat < 256; omega)]
  omega
theorem Named.room {p : List Txt} (h : Named p) {i j : Nat} (hi : i < p.length) (hj : j < (hdRow p).length) : 0 ≤ cellZ p i j ∧ cellZ p i j < (rP p).length := by
  rw [← h.cell hi hj]; exact gP_room i j hi hj
/-- A key is in a cell just if the cell's room is the key's number. -/
theorem Named.key {p : List Txt} (h : Named p) {m : Nat} {v : Int} (hm : (keys p)[m]? = some v) (a b : Nat) : Val (gz (readG p)) (hdRow p).length p.length 0 v a b ↔ Val (cellZ p) (hdRow p).length p.length 0 m a b := by
  unfold Val
  constructor
  · rintro ⟨h1, h2⟩
    refine ⟨?_, h2⟩
    obtain ⟨hb, ha⟩ := h2
    have ha' : a < p.length := by omega
    rw [← h.cell ha' hb, gP_at ha' hb, h1]
    congr 1
    have hv := List.mem_of_getElem? hm
    have hlt := List.idxOf_lt_length_iff.2 hv
    have := idxOf_mem (ks := keys p) (z := v) (by omega)
    exact nodup_one (keys_inv p).nd this hm
  · rintro ⟨h1, h2⟩
    refine ⟨?_, h2⟩
    obtain ⟨hb, ha⟩ := h2
    have ha' : a < p.length := by omega
    have hmem := (keys_inv p).mem a b (gone_all ha' hb)
    have hlt := List.idxOf_lt_length_iff.2 hmem
    rw [← h.cell ha' hb, gP_at ha' hb] at h1
    have := idxOf_mem (ks := keys p) (z := gz (readG p) a b) (by omega)
    rw [show (keys p).idxOf (gz (readG p) a b) = m by omega, hm] at this
    cases this; rfl
/-- The rectangle of a room. -/
theorem Named.rect {p : List Txt} (h : Named p) {m : Nat} {b : Rect} (hb : (rP p)[m]? = some b) : HullR (Val (cellZ p) (hdRow p).length p.length 0 m) b := by
  have hi := keys_inv p
  have hml := len_of hb
  rw [hi.len] at hml
  obtain ⟨v, hv, -⟩ := get_of hml
  exact (hi.hull m v b hv hb).congr (h.key hv)
theorem Named.box {p : List Txt} (h : Named p) {m : Nat} {b : Rect} (hb : (rP p)[m]? = some b) : b.row = (boxOf p m).top ∧ b.col = (boxOf p m).left ∧ b.high = highOf p m ∧ b.wide = wideOf p m := by
  have h1 := h.rect hb
  have h2 := boxOf_inv (grid_rows h.hg) rfl (r := (m : Int))
  rcases h2 with ⟨h2, -⟩ | h2
  · obtain ⟨a, c, q, -⟩ := h1.at_
    exact absurd q (h2 a c)
  · have := Hull.uniq h1 h2
    unfold highOf wideOf
    omega
theorem foldl_max_le {f : UInt8 → Int} {B : Int} : ∀ (row : Txt) (n : Int), n ≤ B → (∀ c ∈ row, f c ≤ B) → row.foldl (fun n c => max n (f c)) n ≤ B
  | [], n, h, _ => h
  | c :: row, n, h, hc => foldl_max_le row _ (by have := hc c (by simp); show max n (f c) ≤ B; omega) fun d hd => hc d (by simp [hd])
theorem rooms_le {B : Int} : ∀ (p : List Txt) (n : Int), n ≤ B → (∀ row ∈ p, ∀ c ∈ row, (c.toNat : Int) - 97 + 1 ≤ B) → p.foldl rowMax n ≤ B
  | [], n, h, _ => h
  | row :: p, n, h, hc => rooms_le p _ (foldl_max_le row n h (hc row (by simp))) fun r hr => hc r (by simp [hr])
theorem Named.rooms {p : List Txt} (h : Named p) : l1Rooms p = (rP p).length := by
  have hi := keys_inv p
  have hl := hi.len
  apply Int.le_antisymm
  · refine rooms_le p 0 (by omega) fun row hr c hc => ?_
    obtain ⟨i, hrow⟩ := List.getElem?_of_mem hr
    obtain ⟨j, hcol⟩ := List.getElem?_of_mem hc
    have hil := len_of hrow
    have hjl := len_of hcol
    have := h.room hil (by rw [← grid_row h.hg hrow]; exact hjl)
    rw [cellZ_is hrow hcol] at this
    omega
  · by_cases h0 : (rP p).length = 0
    · have := (l1Rooms_bound p).1; omega
    · obtain ⟨b, hb, -⟩ := get_of (show (rP p).length - 1 < (rP p).length by omega)
      obtain ⟨a, c, ⟨q1, q2⟩, -⟩ := (h.rect hb).at_
      obtain ⟨hc, ha⟩ := q2
      have ha' : a < p.length := by omega
      obtain ⟨row, hrow, hrm⟩ := get_of ha'
      have hrl := grid_row h.hg hrow
      obtain ⟨d, hd, -⟩ := get_of (show c < row.length by omega)
      have := (rooms_fold p 0).2 a c row d hrow hd
      rw [cellZ_is hrow hd] at q1
      unfold l1Rooms
      omega
end Fw
end Go.Proofs.YtcglmbijpjhbmaaGreat

/-! Plans that are read are the specification's: rooms fill their rectangles. -/
namespace Go.Proofs.YtcglmbijpjhbmaaGreat
namespace Fw
open Go

def inB (b : Rect) (i j : Nat) : Bool := (decide (b.row ≤ i) && decide ((i : Int) < b.row + b.high)) && (decide (b.col ≤ j) && decide ((j : Int) < b.col + b.wide))
theorem rect_cnt {z : Nat → Nat → Int} {H W : Nat} {v : Int} {b : Rect} (h : HullR (Val z W H 0 v) b) : ((cnt H W (inB b) : Nat) : Int) = b.high * b.wide ∧ ∀ i j, i < H → j < W → z i j = v → inB b i j = true := by
  obtain ⟨t, l, hh, w, e1, e2, e3, e4, h1, h2, h3, h4, h5⟩ := Hull.nat h
  have e5 : b.high = hh := by omega
  have e6 : b.wide = w := by omega
  have e : ∀ i j, inB b i j = inR t l hh w i j := by
    intro i j
    unfold inB inR
    rw [e1, e2, e5, e6, Bool.eq_iff_iff]
    simp only [Bool.and_eq_true, decide_eq_true_eq]
    omega
  have e7 : inB b = inR t l hh w := by funext i j; exact e i j
  rw [e7, cnt_rect h3 h4, e5, e6]
  exact ⟨by simp, h5⟩
/-- How many cells the rectangle of a room has. -/
def arN (p : List Txt) (m : Nat) : Nat :=
  match (rP p)[m]? with
  | some b => cnt p.length (hdRow p).length (inB b)
  | none => 0
theorem arN_is {p : List Txt} {m : Nat} {b : Rect} (h : (rP p)[m]? = some b) : arN p m = cnt p.length (hdRow p).length (inB b) := by simp [arN, h]
theorem sumA_is {p : List Txt} (h : Named p) : ∀ k, k ≤ (rP p).length → sumA ((rP p).take k) = ((sN k (arN p) : Nat) : Int)
  | 0, _ => by simp [sumA, sN]
  | k + 1, hk => by
    obtain ⟨b, hb, -⟩ := get_of (show k < (rP p).length by omega)
    rw [sumA_succ hb, sumA_is h k (by omega), sN, arN_is hb, ← (rect_cnt (h.rect hb)).1]
    simp
theorem Named.cells_le {p : List Txt} (h : Named p) {m : Nat} (hm : m < (rP p).length) : cnt p.length (hdRow p).length (inZ p m) ≤ arN p m := by
  obtain ⟨b, hb, -⟩ := get_of hm
  rw [arN_is hb]
  exact cnt_le fun i j hi hj hz => (rect_cnt (h.rect hb)).2 i j hi hj (by unfold inZ at hz; simpa using hz)
theorem Named.all {p : List Txt} (h : Named p) : sN (rP p).length (fun m => cnt p.length (hdRow p).length (inZ p m)) = p.length * (hdRow p).length := by
  rw [← cnt_classes (H := p.length) (W := (hdRow p).length) (n := (rP p).length) (z := fun i j => (cellZ p i j).toNat) fun i j hi hj => by have := h.room hi hj; omega]
  refine sN_congr fun m hm => cnt_congr fun i j hi hj => ?_
  unfold inZ
  have := h.room hi hj
  apply decide_eq_decide.2
  omega
theorem fullG_is {p : List Txt} (h : Named p) : fullG (readG p) = decide (sN (rP p).length (arN p) = p.length * (hdRow p).length) := by
  have := sumA_is h (rP p).length (Nat.le_refl _)
  rw [List.take_length] at this
  unfold fullG
  rw [show (stG (readG p)).2 = rP p from rfl, this, readG_len, w0_read]
  apply decide_eq_decide.2
  omega
theorem Named.area {p : List Txt} (h : Named p) {m : Nat} (hm : m < (rP p).length) : (l1Cells p m = highOf p m * wideOf p m) ↔ cnt p.length (hdRow p).length (inZ p m) = arN p m := by
  obtain ⟨b, hb, -⟩ := get_of hm
  obtain ⟨-, -, e1, e2⟩ := h.box hb
  rw [l1Cells_is (grid_rows h.hg), ← e1, ← e2, ← (rect_cnt (h.rect hb)).1, arN_is hb]
  omega
theorem Named.full {p : List Txt} (h : Named p) : fullG (readG p) = true ↔ ∀ m, m < (rP p).length → cnt p.length (hdRow p).length (inZ p m) = arN p m := by
  rw [fullG_is h, decide_eq_true_eq, ← h.all]
  constructor
  · intro e m hm
    exact sN_eq (fun m hm => h.cells_le hm) e.symm m hm
  · intro e
    exact sN_congr fun m hm => (e m hm).symm
/-- Where areas are cells, rooms fill their rectangles. -/
theorem Named.fill {p : List Txt} (h : Named p) (hf : fullG (readG p) = true) {m : Nat} {b : Rect} (hb : (rP p)[m]? = some b) {i j : Nat} (hi : i < p.length) (hj : j < (hdRow p).length) : inB b i j = decide (cellZ p i j = m) := by
  have e := h.full.1 hf m (len_of hb)
  rw [arN_is hb] at e
  exact (cnt_eq (fun i j hi hj hz => (rect_cnt (h.rect hb)).2 i j hi hj (by unfold inZ at hz; simpa using hz)) e i j hi hj).symm
theorem floorI_plan {p : List Txt} : floorI p = planB p := by
  unfold floorI floorV okB okS planB
  rw [Bool.eq_iff_iff]
  simp only [Bool.and_eq_true, decide_eq_true_eq, List.all_eq_true, List.mem_range]
  have hgi := grid_iff (p := p)
  constructor
  · rintro ⟨⟨h1, h2, h3⟩, h4, h5⟩
    have hg : gridB p = true := by rw [hgi, h1, h2]; rfl
    have hN : Named p := ⟨hg, h5⟩
    have hr := hN.rooms
    have h3' : (rP p).length ≤ 9 := h3
    refine ⟨⟨⟨hg, by rw [names_text hg]; exact h5⟩, by omega⟩, fun m hm => ?_⟩
    have hm' : m < (rP p).length := by omega
    exact (hN.area hm').2 (hN.full.1 h4 m hm')
  · rintro ⟨⟨⟨hg, h2⟩, h3⟩, h4⟩
    have h5 : textG (gP p) = p := by rw [← names_text hg]; exact h2
    have hN : Named p := ⟨hg, h5⟩
    have hr := hN.rooms
    rw [hgi, Bool.and_eq_true] at hg
    have h3' : (rP p).length ≤ 9 := by omega
    exact ⟨⟨hg.1, hg.2, h3'⟩, hN.full.2 fun m hm => (hN.area hm).1 (h4 m (by omega)), h5⟩
theorem plan_named {p : List Txt} (h : planB p = true) : Named p := by
  have h2 := h
  rw [← floorI_plan] at h2
  unfold floorI floorV at h2
  simp only [Bool.and_eq_true, decide_eq_true_eq] at h2
  exact ⟨planB_grid h, h2.2.2⟩
theorem plan_full {p : List Txt} (h : planB p = true) : fullG (readG p) = true := by
  rw [← floorI_plan] at h
  unfold floorI floorV at h
  simp only [Bool.and_eq_true, decide_eq_true_eq] at h
  exact h.2.1
end Fw
end Go.Proofs.YtcglmbijpjhbmaaGreat

/-! Areas by the program are the specification's. -/
namespace Go.Proofs.YtcglmbijpjhbmaaGreat
namespace Fw
open Go

/-! ### Points -/
def cz (c : UInt8) : Int := (c.toNat : Int) - 97
theorem cz_inj {a b : UInt8} : (cz a = cz b) = (a = b) := by
  rw [u8_eq]
  unfold cz
  apply propext; omega
theorem dn_dist (a b c d : UInt8) : ((dn [cz a, cz b, cz c, cz d] : Nat) : Int) = distTo [a, b, c, d] 4 := by
  simp only [dn, distTo, newAt, newTo, List.mem_cons, List.not_mem_nil, or_false, cz_inj]
  by_cases h1 : a = b <;> by_cases h2 : a = c <;> by_cases h3 : a = d <;> by_cases h4 : b = c <;> by_cases h5 : b = d <;> by_cases h6 : c = d <;> simp_all [eq_comm]
theorem four_meets {p : List Txt} (h : Named p) {i k : Nat} (hi : 1 ≤ i) (hi2 : i < p.length) (hk : 1 ≤ k) (hk2 : k < (hdRow p).length) : ((dn (four (gP p) i k) : Nat) : Int) = meetsAt p i k := by
  obtain ⟨r1, hr1, -⟩ := get_of (show i - 1 < p.length by omega)
  obtain ⟨r2, hr2, -⟩ := get_of hi2
  have l1 := grid_row h.hg hr1
  have l2 := grid_row h.hg hr2
  obtain ⟨a, ha, -⟩ := get_of (show k - 1 < r1.length by omega)
  obtain ⟨b, hb, -⟩ := get_of (show k < r1.length by omega)
  obtain ⟨c, hc, -⟩ := get_of (show k - 1 < r2.length by omega)
  obtain ⟨d, hd, -⟩ := get_of (show k < r2.length by omega)
  unfold four meetsAt
  rw [h.cell (by omega) (by omega), h.cell (by omega) (by omega), h.cell (by omega) (by omega), h.cell (by omega) (by omega), cellZ_is hr1 ha, cellZ_is hr1 hb, cellZ_is hr2 hc, cellZ_is hr2 hd]
  simp only [hr1, hr2, ha, hb, hc, hd]
  exact dn_dist a b c d
theorem ptsRow_eq {p : List Txt} (h : Named p) {many : Int} {i : Nat} (hi : 1 ≤ i) (hi2 : i < p.length) : ∀ k, k ≤ (hdRow p).length → ptsRowG (gP p) many i k = ptsRow p many i k
  | 0, _ => rfl
  | k + 1, hk => by
    unfold ptsRowG ptsRow
    rw [ptsRow_eq h hi hi2 k (by omega)]
    by_cases h1 : 1 ≤ k
    · rw [four_meets h hi hi2 h1 (by omega)]
    · rw [if_neg (fun e => h1 e.1), if_neg (fun e => h1 e.1)]
theorem pts_eq {p : List Txt} (h : Named p) {many : Int} : ∀ i, i ≤ p.length → ptsG (gP p) many (hdRow p).length i = ptsTo p many (hdRow p).length i
  | 0, _ => rfl
  | i + 1, hi => by
    unfold ptsG ptsTo
    rw [pts_eq h i (by omega)]
    by_cases h1 : 1 ≤ i
    · rw [ptsRow_eq h h1 (by omega) _ (Nat.le_refl _)]
    · rw [if_neg h1, if_neg h1]
theorem plainI_plain {p : List Txt} : plainI p = plainB p := by
  unfold plainI plainB
  rw [floorI_plan]
  cases hp : planB p with
  | false => rfl
  | true =>
    rw [w0_read, pts_eq (plan_named hp) p.length (Nat.le_refl _)]
    rfl
theorem plain_plan {p : List Txt} (h : plainB p = true) : planB p = true := by
  unfold plainB at h
  rw [Bool.and_eq_true] at h
  exact h.1
/-! ### Orders go up -/
theorem mem_ddp {l : List Int} {x : Int} : x ∈ ddp l ↔ x ∈ l := by
  have : ∀ (l m : List Int), x ∈ l.foldl putL m ↔ x ∈ m ∨ x ∈ l := by
    intro l
    induction l with
    | nil => intro m; simp
    | cons a l ih => intro m; rw [List.foldl_cons, ih, mem_putL, List.mem_cons, or_assoc]
  unfold ddp
  rw [this]
  simp
/-- A relation all of whose pairs go up. -/
def Rise (n : Nat) (rk : Nat → Nat) (M : List (List Bool)) : Prop := Sq n M ∧ ∀ a b, a < n → b < n → getB M a b = true → rk a < rk b
theorem Rise.clA {n : Nat} {rk : Nat → Nat} {M : List (List Bool)} (h : Rise n rk M) {k a : Nat} (hk : k < n) (ha : a < n) : Rise n rk (clA n k M a) := by
  obtain ⟨h1, h2⟩ := clA_to h.1 hk ha n (Nat.le_refl _)
  refine ⟨h1, fun x y hx hy hxy => ?_⟩
  unfold Fw.clA at hxy
  rw [h2 x y hx hy] at hxy
  split at hxy
  · rename_i e
    obtain ⟨rfl, -⟩ := e
    rw [Bool.or_eq_true, Bool.and_eq_true] at hxy
    rcases hxy with hxy | ⟨h3, h4⟩
    · exact h.2 x y hx hy hxy
    · exact Nat.lt_trans (h.2 x k hx hk h3) (h.2 k y hk hy h4)
  · exact h.2 x y hx hy hxy
theorem Rise.fold {n : Nat} {rk : Nat → Nat} {f : List (List Bool) → Nat → List (List Bool)} : ∀ (i : Nat) {M : List (List Bool)}, i ≤ n → (∀ M j, j < n → Rise n rk M → Rise n rk (f M j)) → Rise n rk M → Rise n rk ((List.range i).foldl f M)
  | 0, _, _, _, h => h
  | i + 1, M, hi, hs, h => by
    rw [foldl_rg]
    exact hs _ i (by omega) (Rise.fold i (by omega) hs h)
theorem Rise.close {n : Nat} {rk : Nat → Nat} {M : List (List Bool)} (h : Rise n rk M) : Rise n rk (closeM M) := by
  unfold closeM
  rw [h.1.1]
  exact Rise.fold n (Nat.le_refl _) (fun _ k hk h => Rise.fold n (Nat.le_refl _) (fun _ a ha h => h.clA hk ha) h) h
theorem Rise.relB {n : Nat} {rk : Nat → Nat} {a : Int} (ha : 0 ≤ a ∧ a < n) : ∀ {bs : List Int} {M : List (List Bool)}, Rm n bs → (∀ b ∈ bs, rk a.toNat < rk b.toNat) → Rise n rk M → Rise n rk (relB a bs M)
  | [], _, _, _, h => h
  | b :: bs, M, hb, hr, h => by
    have hb0 := hb b (by simp)
    refine Rise.relB ha (bs := bs) (fun x hx => hb x (by simp [hx])) (fun x hx => hr x (by simp [hx])) ⟨h.1.set (by omega), fun x y hx hy hxy => ?_⟩
    rw [getB_setB h.1 (by omega) (by omega)] at hxy
    split at hxy
    · rename_i e
      rw [e.1, e.2]; exact hr b (by simp)
    · exact h.2 x y hx hy hxy
theorem Rise.relW {n : Nat} {rk : Nat → Nat} {bs : List Int} (hb : Rm n bs) : ∀ {la : List Int} {M : List (List Bool)}, Rm n la → (∀ a ∈ la, ∀ b ∈ bs, rk a.toNat < rk b.toNat) → Rise n rk M → Rise n rk (relW M la bs)
  | [], _, _, _, h => h
  | a :: la, M, ha, hr, h => Rise.relW hb (la := la) (fun x hx => ha x (by simp [hx])) (fun x hx => hr x (by simp [hx])) (h.relB (ha a (by simp)) hb (hr a (by simp)))
theorem Rise.empty {n : Nat} {rk : Nat → Nat} : Rise n rk (emptyM n) := by
  refine ⟨emptyM_sq n, fun a b ha hb h => ?_⟩
  simp [getB, emptyM, ha, hb] at h
theorem Rise.ord {g : List (List Int)} {nh nw n : Nat} {r0 r1 : Nat → Nat} (hrm : RmOk g nh nw n) (h0 : ∀ w, WlOk g nh nw w → w.level = false → ∀ a ∈ (sidesOf g w).1, ∀ b ∈ (sidesOf g w).2, r0 a.toNat < r0 b.toNat)
    (h1 : ∀ w, WlOk g nh nw w → w.level = true → ∀ a ∈ (sidesOf g w).1, ∀ b ∈ (sidesOf g w).2, r1 a.toNat < r1 b.toNat) : ∀ (ws : List Wall), (∀ w ∈ ws, WlOk g nh nw w) → ∀ {M : List (List Bool) × List (List Bool)}, Rise n r0 M.1 → Rise n r1 M.2 →
    Rise n r0 (ws.foldl (ordW g) M).1 ∧ Rise n r1 (ws.foldl (ordW g) M).2
  | [], _, _, k0, k1 => ⟨k0, k1⟩
  | w :: ws, hws, M, k0, k1 => by
    have hw := hws w (by simp)
    obtain ⟨hr1, hr2⟩ := sidesOf_rooms hrm hw
    rw [List.foldl_cons]
    refine Rise.ord hrm h0 h1 ws (fun w hw => hws w (by simp [hw])) ?_ ?_
    · unfold ordW
      cases hlv : w.level with
      | false => simpa using k0.relW hr2 hr1 (h0 w hw hlv)
      | true => simpa using k0
    · unfold ordW
      cases hlv : w.level with
      | false => simpa using k1
      | true => simpa using k1.relW hr2 hr1 (h1 w hw hlv)
end Fw
end Go.Proofs.YtcglmbijpjhbmaaGreat

/-! Areas by the program are the specification's, joined. -/
namespace Go.Proofs.YtcglmbijpjhbmaaGreat
namespace Fw
open Go

theorem side1 {g : List (List Int)} {nh nw : Nat} {w : Wall} (hw : WlOk g nh nw w) {x : Int} (hx : x ∈ (sidesOf g w).1) : ∃ line j : Nat, w.line = line ∧ x = (sidesG g w.level line j).1 ∧ InL nh nw w.level line j ∧ difG g w.level line j = true := by
  obtain ⟨line, fr, long, e, h1, h2⟩ := hw
  have e1 : w.line.toNat = line := by rw [e]; simp
  have e2 : w.fr.toNat = fr := by rw [e]; simp
  have e3 : w.long.toNat = long := by rw [e]; simp
  simp only [sidesOf, e1, e2, e3] at hx
  have := mem_ddp.1 hx
  simp only [alongG, List.mem_map, List.mem_range] at this
  obtain ⟨j, hj, rfl⟩ := this
  have h3 := h2 (fr + j) (by omega) (by omega)
  exact ⟨line, fr + j, by rw [e], rfl, h3.1, h3.2⟩
theorem side2 {g : List (List Int)} {nh nw : Nat} {w : Wall} (hw : WlOk g nh nw w) {x : Int} (hx : x ∈ (sidesOf g w).2) : ∃ line j : Nat, w.line = line ∧ x = (sidesG g w.level line j).2 ∧ InL nh nw w.level line j ∧ difG g w.level line j = true := by
  obtain ⟨line, fr, long, e, h1, h2⟩ := hw
  have e1 : w.line.toNat = line := by rw [e]; simp
  have e2 : w.fr.toNat = fr := by rw [e]; simp
  have e3 : w.long.toNat = long := by rw [e]; simp
  simp only [sidesOf, e1, e2, e3] at hx
  have := mem_ddp.1 hx
  simp only [alongG, List.mem_map, List.mem_range] at this
  obtain ⟨j, hj, rfl⟩ := this
  have h3 := h2 (fr + j) (by omega) (by omega)
  exact ⟨line, fr + j, by rw [e], rfl, h3.1, h3.2⟩
def rkL (p : List Txt) (a : Nat) : Nat := match (rP p)[a]? with | some b => b.col.toNat | none => 0
def rkA (p : List Txt) (a : Nat) : Nat := match (rP p)[a]? with | some b => b.row.toNat | none => 0
/-- A room's cell lies in its rectangle, and where the rectangle is filled, the other way round. -/
theorem plan_rect {p : List Txt} (hp : planB p = true) {i j : Nat} (hi : i < p.length) (hj : j < (hdRow p).length) : ∃ b, (rP p)[(cellZ p i j).toNat]? = some b ∧ inB b i j = true ∧ b.Fit ∧ ∀ k l, k < p.length → l < (hdRow p).length → inB b k l = true → cellZ p k l = cellZ p i j := by
  have hN := plan_named hp
  have hr := hN.room hi hj
  obtain ⟨b, hb, hbm⟩ := get_of (show (cellZ p i j).toNat < (rP p).length by omega)
  have hf := plan_full hp
  have hsm := grid_small hN.hg
  obtain ⟨row0, hr0, hm0⟩ := get_of hsm.1
  have hh := hdRow_of hr0
  have hw6 := hsm.2.2 row0 hm0
  have hw1 := row_pos hN.hg hr0
  rw [← hh] at hw6 hw1
  have hok := (seRows_ok (g := readG p) hw6 hw1 p.length hsm.2.1).1
  rw [← rP_eq] at hok
  refine ⟨b, hb, ?_, hok.2 b hbm, fun k l hk hl hkl => ?_⟩
  · rw [hN.fill hf hb hi hj]; exact decide_eq_true (by omega)
  · rw [hN.fill hf hb hk hl] at hkl
    have := of_decide_eq_true hkl
    omega
theorem plan_left {p : List Txt} (hp : planB p = true) {w : Wall} (hw : WlOk (gP p) p.length (hdRow p).length w) (hl : w.level = false) : ∀ a ∈ (sidesOf (gP p) w).1, ∀ b ∈ (sidesOf (gP p) w).2, rkL p a.toNat < rkL p b.toNat := by
  intro a ha b hb
  have hN := plan_named hp
  obtain ⟨L, j, e1, rfl, ⟨h1, h2⟩, h3⟩ := side1 hw ha
  obtain ⟨L', j', e2, rfl, ⟨k1, k2⟩, k3⟩ := side2 hw hb
  obtain rfl : L = L' := by omega
  simp only [hl, Bool.false_eq_true, if_false] at h2 k2
  unfold difG at k3
  simp only [hl, sidesG, Bool.false_eq_true, if_false, decide_eq_true_eq] at k3 ⊢
  rw [hN.cell k2.2 (by omega), hN.cell k2.2 k2.1] at k3
  rw [hN.cell h2.2 (by omega), hN.cell k2.2 k2.1]
  obtain ⟨r1, hr1, q1, f1, -⟩ := plan_rect hp h2.2 (show L - 1 < (hdRow p).length by omega)
  obtain ⟨r2, hr2, q2, f2, c2⟩ := plan_rect hp k2.2 k2.1
  unfold rkL
  rw [hr1, hr2]
  simp only
  have c3 := c2 j' (L - 1) k2.2 (by omega)
  unfold inB at q1 q2 c3
  unfold Rect.Fit at f1 f2
  simp only [Bool.and_eq_true, decide_eq_true_eq] at q1 q2 c3
  by_cases hc : r2.col < (L : Int)
  · exact absurd (c3 (by omega)) k3
  · omega
theorem plan_above {p : List Txt} (hp : planB p = true) {w : Wall} (hw : WlOk (gP p) p.length (hdRow p).length w) (hl : w.level = true) : ∀ a ∈ (sidesOf (gP p) w).1, ∀ b ∈ (sidesOf (gP p) w).2, rkA p a.toNat < rkA p b.toNat := by
  intro a ha b hb
  have hN := plan_named hp
  obtain ⟨L, j, e1, rfl, ⟨h1, h2⟩, h3⟩ := side1 hw ha
  obtain ⟨L', j', e2, rfl, ⟨k1, k2⟩, k3⟩ := side2 hw hb
  obtain rfl : L = L' := by omega
  simp only [hl, if_true] at h2 k2
  unfold difG at k3
  simp only [hl, sidesG, if_true, decide_eq_true_eq] at k3 ⊢
  rw [hN.cell (by omega) k2.2, hN.cell k2.1 k2.2] at k3
  rw [hN.cell (by omega) h2.2, hN.cell k2.1 k2.2]
  obtain ⟨r1, hr1, q1, f1, -⟩ := plan_rect hp (show L - 1 < p.length by omega) h2.2
  obtain ⟨r2, hr2, q2, f2, c2⟩ := plan_rect hp k2.1 k2.2
  unfold rkA
  rw [hr1, hr2]
  simp only
  have c3 := c2 (L - 1) j' (by omega) k2.2
  unfold inB at q1 q2 c3
  unfold Rect.Fit at f1 f2
  simp only [Bool.and_eq_true, decide_eq_true_eq] at q1 q2 c3
  by_cases hc : r2.row < (L : Int)
  · exact absurd (c3 (by omega)) k3
  · omega
theorem rk_le {p : List Txt} (hp : planB p = true) (b : Nat) : rkL p b ≤ 100 ∧ rkA p b ≤ 100 := by
  have hN := plan_named hp
  have hsm := grid_small hN.hg
  obtain ⟨row0, hr0, hm0⟩ := get_of hsm.1
  have hh := hdRow_of hr0
  have hw6 := hsm.2.2 row0 hm0
  have hw1 := row_pos hN.hg hr0
  rw [← hh] at hw6 hw1
  have hok := (seRows_ok (g := readG p) hw6 hw1 p.length hsm.2.1).1
  rw [← rP_eq] at hok
  unfold rkL rkA
  cases hb : (rP p)[b]? with
  | none => simp
  | some r =>
    have := hok.2 r (List.mem_of_getElem? hb)
    unfold Rect.Fit at this
    simp only
    omega
theorem plan_up {p : List Txt} (hp : planB p = true) : Up (leftG (gP p) p.length (hdRow p).length (rP p).length) (rP p).length (rkL p) ∧ Up (aboveG (gP p) p.length (hdRow p).length (rP p).length) (rP p).length (rkA p) := by
  have h := Rise.ord (r0 := rkL p) (r1 := rkA p) (gP_room (p := p)) (fun w hw hl => plan_left hp hw hl) (fun w hw hl => plan_above hp hw hl) (wallsG (gP p) p.length (hdRow p).length) wallsG_ok (M := (emptyM (rP p).length, emptyM (rP p).length)) Rise.empty Rise.empty
  have h0 := h.1.close
  have h1 := h.2.close
  exact ⟨⟨h0.1, h0.2, fun b => (rk_le hp b).1⟩, ⟨h1.1, h1.2, fun b => (rk_le hp b).2⟩⟩
theorem plan_all {p : List Txt} (hp : plainI p = true) : RmOk (gP p) p.length (w0 (readG p)) (rP p).length ∧ (∃ rk, Up (leftG (gP p) p.length (w0 (readG p)) (rP p).length) (rP p).length rk) ∧ ∃ rk, Up (aboveG (gP p) p.length (w0 (readG p)) (rP p).length) (rP p).length rk := by
  rw [plainI_plain] at hp
  have h := plan_up (plain_plan hp)
  rw [w0_read]
  exact ⟨gP_room, ⟨_, h.1⟩, ⟨_, h.2⟩⟩
end Fw
end Go.Proofs.YtcglmbijpjhbmaaGreat

/-! Plans in which no four rooms meet: two orders of rooms go on without end, and each two rooms are in one. -/
namespace Go.Proofs.YtcglmbijpjhbmaaGreat
namespace Fw
open Go

/-- Rooms are rectangles, and no four meet. -/
structure Pl (c : Nat → Nat → Nat) (H W : Nat) : Prop where
  rect : ∀ {i j i' j' : Nat} (k l : Nat), i < H → i' < H → j < W → j' < W → c i j = c i' j' → min i i' ≤ k → k ≤ max i i' → min j j' ≤ l → l ≤ max j j' → c k l = c i j
  plain : ∀ {i j : Nat}, i + 1 < H → j + 1 < W → c i j ≠ c i (j + 1) → c (i + 1) j ≠ c (i + 1) (j + 1) → c i j ≠ c (i + 1) j → c i (j + 1) = c (i + 1) (j + 1)
/-- Just left of: on both sides of one upright wall. -/
def DL (c : Nat → Nat → Nat) (H W a b : Nat) : Prop := ∃ j i1 i2, j + 1 < W ∧ i1 < H ∧ i2 < H ∧ (∀ r, min i1 i2 ≤ r → r ≤ max i1 i2 → c r j ≠ c r (j + 1)) ∧ a = c i1 j ∧ b = c i2 (j + 1)
/-- Just above. -/
def DU (c : Nat → Nat → Nat) (H W a b : Nat) : Prop := ∃ i j1 j2, i + 1 < H ∧ j1 < W ∧ j2 < W ∧ (∀ k, min j1 j2 ≤ k → k ≤ max j1 j2 → c i k ≠ c (i + 1) k) ∧ a = c i j1 ∧ b = c (i + 1) j2

theorem least_of {P : Nat → Prop} : ∀ {n : Nat}, P n → ∃ m, m ≤ n ∧ P m ∧ ∀ k, k < m → ¬ P k := by
  intro n
  induction n using Nat.strongRecOn with
  | _ n ih =>
    intro h
    by_cases c : ∃ k, k < n ∧ P k
    · obtain ⟨k, hk, hp⟩ := c
      obtain ⟨m, h1, h2, h3⟩ := ih k hk hp
      exact ⟨m, by omega, h2, h3⟩
    · exact ⟨n, Nat.le_refl _, h, fun k hk hp => c ⟨k, hk, hp⟩⟩
theorem flip_of {P : Nat → Prop} {i : Nat} : ∀ {n : Nat}, i ≤ n → P i → ¬ P n → ∃ e, i ≤ e ∧ e + 1 ≤ n ∧ P e ∧ ¬ P (e + 1)
  | 0, h, h1, h2 => by
        obtain rfl : i = 0 := by omega
        exact absurd h1 h2
  | n + 1, h, h1, h2 => by
    by_cases c : P n
    · by_cases e : i = n + 1
      · subst e; exact absurd h1 h2
      · exact ⟨n, by omega, Nat.le_refl _, c, h2⟩
    · by_cases e : i = n + 1
      · subst e; exact absurd h1 h2
      · obtain ⟨m, k1, k2, k3⟩ := flip_of (P := P) (i := i) (n := n) (by omega) h1 c
        exact ⟨m, k1, by omega, k3⟩

section
variable {c : Nat → Nat → Nat} {H W : Nat}

/-- Closed towards the upper left corner. -/
def Stair (c : Nat → Nat → Nat) (H W : Nat) (Z : Nat → Prop) : Prop := ∀ {i j : Nat} (i' j' : Nat), i < H → j < W → i' ≤ i → j' ≤ j → Z (c i j) → Z (c i' j')
/-- A room that may go next. -/
def Free (c : Nat → Nat → Nat) (H W : Nat) (Z : Nat → Prop) : Prop := ∃ i j, i < H ∧ j < W ∧ ¬ Z (c i j) ∧ (∀ a, DL c H W a (c i j) ∨ DU c H W a (c i j) → Z a) ∧ Stair c H W fun x => Z x ∨ x = c i j
theorem free_here (h : Pl c H W) {Z : Nat → Prop} (hZ : Stair c H W Z) {i j : Nat} (hi : i < H) (hj : j < W) (hn : ¬ Z (c i j)) (hu : ∀ i', i' + 1 = i → Z (c i' j)) (hl : ∀ j', j' + 1 = j → Z (c i j'))
    (hN : ∀ i', i' + 1 = i → ∀ k, j ≤ k → k < W → (∀ l, j ≤ l → l ≤ k → c i' l ≠ c i l) → Z (c i' k))
    (hA : ∀ j', j' + 1 = j → ∀ k, i ≤ k → k < H → (∀ r, i ≤ r → r ≤ k → c r j' ≠ c r j) → Z (c k j')) : Free c H W Z := by
  have up : ∀ {i2 j2 : Nat}, i2 < H → j2 < W → c i2 j2 = c i j → i ≤ i2 := by
    intro i2 j2 h1 h2 h3
    by_cases q : i ≤ i2
    · exact q
    · have h4 := hu (i - 1) (by omega)
      rw [h.rect (i - 1) j h1 hi h2 hj h3 (by omega) (by omega) (by omega) (by omega), h3] at h4
      exact absurd h4 hn
  have lf : ∀ {i2 j2 : Nat}, i2 < H → j2 < W → c i2 j2 = c i j → j ≤ j2 := by
    intro i2 j2 h1 h2 h3
    by_cases q : j ≤ j2
    · exact q
    · have h4 := hl (j - 1) (by omega)
      rw [h.rect i (j - 1) h1 hi h2 hj h3 (by omega) (by omega) (by omega) (by omega), h3] at h4
      exact absurd h4 hn
  have runL : ∀ {i2 j2 r j' : Nat}, i2 < H → j2 < W → c i2 j2 = c i j → j' + 1 = j → i ≤ r → r ≤ i2 → c r j' ≠ c r j := by
    intro i2 j2 r j' h1 h2 h3 h4 h5 h6 h7
    have h8 := lf h1 h2 h3
    have e1 : c r j = c i j := by
      rw [h.rect r j h1 hi h2 hj h3 (by omega) (by omega) (by omega) (by omega), h3]
    have h9 := lf (i2 := r) (j2 := j') (by omega) (by omega) (by rw [h7, e1])
    omega
  have runU : ∀ {i2 j2 l i' : Nat}, i2 < H → j2 < W → c i2 j2 = c i j → i' + 1 = i → j ≤ l → l ≤ j2 → c i' l ≠ c i l := by
    intro i2 j2 l i' h1 h2 h3 h4 h5 h6 h7
    have h8 := up h1 h2 h3
    have e1 : c i l = c i j := by
      rw [h.rect i l h1 hi h2 hj h3 (by omega) (by omega) (by omega) (by omega), h3]
    have h9 := up (i2 := i') (j2 := l) (by omega) (by omega) (by rw [h7, e1])
    omega
  refine ⟨i, j, hi, hj, hn, ?_, ?_⟩
  · rintro a (⟨j0, i1, i2, k1, k2, k3, run, rfl, k4⟩ | ⟨i0, j1, j2, k1, k2, k3, run, rfl, k4⟩)
    · have h1 := lf k3 k1 k4.symm
      have e : j0 + 1 = j := by
        by_cases q : j0 + 1 = j
        · exact q
        · have := h.rect i2 j0 k3 hi k1 hj k4.symm (by omega) (by omega) (by omega) (by omega)
          exact absurd this (run i2 (by omega) (by omega))
      subst e
      have h2 := up k3 k1 k4.symm
      by_cases q : i1 < i
      · exact hZ i1 j0 hi (by omega) (by omega) (Nat.le_refl _) (hl j0 rfl)
      · refine hA j0 rfl i1 (by omega) k2 fun r r1 r2 => ?_
        by_cases q2 : min i1 i2 ≤ r
        · exact run r q2 (by omega)
        · exact runL k3 k1 k4.symm rfl r1 (by omega)
    · have h1 := up k1 k3 k4.symm
      have e : i0 + 1 = i := by
        by_cases q : i0 + 1 = i
        · exact q
        · have := h.rect i0 j2 k1 hi k3 hj k4.symm (by omega) (by omega) (by omega) (by omega)
          exact absurd this (run j2 (by omega) (by omega))
      subst e
      have h2 := lf k1 k3 k4.symm
      by_cases q : j1 < j
      · exact hZ i0 j1 (by omega) hj (Nat.le_refl _) (by omega) (hu i0 rfl)
      · refine hN i0 rfl j1 (by omega) k2 fun r r1 r2 => ?_
        by_cases q2 : min j1 j2 ≤ r
        · exact run r q2 (by omega)
        · exact runU k1 k3 k4.symm rfl r1 (by omega)
  · intro i2 k2 i' j' h1 h2 h3 h4 h5
    rcases h5 with h5 | h5
    · exact .inl (hZ i' j' h1 h2 h3 h4 h5)
    · have q1 := up h1 h2 h5
      have q2 := lf h1 h2 h5
      by_cases q3 : i' < i
      · left
        refine hZ i' j' (show i - 1 < H by omega) h2 (by omega) h4 (hN (i - 1) (by omega) k2 q2 h2 fun l l1 l2 => runU h1 h2 h5 (by omega) l1 l2)
      · by_cases q4 : j' < j
        · left
          exact hZ i' j' h1 (show j - 1 < W by omega) h3 (by omega) (hA (j - 1) (by omega) i2 q1 h1 fun r r1 r2 => runL h1 h2 h5 (by omega) r1 r2)
        · right
          rw [h.rect i' j' h1 hi h2 hj h5 (by omega) (by omega) (by omega) (by omega), h5]
theorem free_from (h : Pl c H W) {Z : Nat → Prop} (hZ : Stair c H W Z) : ∀ (j i : Nat), i < H → j < W → ¬ Z (c i j) → (∀ i', i' + 1 = i → Z (c i' j)) → (∀ j', j' + 1 = j → Z (c i j')) →
    (∀ i', i' + 1 = i → ∀ k, j ≤ k → k < W → (∀ l, j ≤ l → l ≤ k → c i' l ≠ c i l) → Z (c i' k)) → Free c H W Z := by
  intro j
  induction j using Nat.strongRecOn with
  | _ j ih =>
    intro i hi hj hn hu hl hN
    by_cases hA : ∀ j', j' + 1 = j → ∀ k, i ≤ k → k < H → (∀ r, i ≤ r → r ≤ k → c r j' ≠ c r j) → Z (c k j')
    · exact free_here h hZ hi hj hn hu hl hN hA
    · simp only [Classical.not_forall] at hA
      obtain ⟨j', rfl, k, h1, h2, run, h3⟩ := hA
      obtain ⟨e, e1, e2, e3, e4⟩ := flip_of (P := fun r => Z (c r j')) h1 (hl j' rfl) h3
      obtain ⟨m, m1, m2, m3⟩ := least_of (P := fun l => ¬ Z (c (e + 1) l)) e4
      refine ih m (by omega) (e + 1) (by omega) (by omega) m2 ?_ ?_ ?_
      · intro i' hi'
        obtain rfl : i' = e := by omega
        exact hZ i' m (by omega) (by omega) (Nat.le_refl _) m1 e3
      · intro l hl'
        exact Classical.not_not.1 (m3 l (by omega))
      · intro i' hi' k2 k3 k4 k5
        obtain rfl : i' = e := by omega
        by_cases q : k2 ≤ j'
        · exact hZ i' k2 (by omega) (by omega) (Nat.le_refl _) q e3
        · have q1 := k5 (j' + 1) (by omega) (by omega)
          have q2 := h.plain (i := i') (j := j') (by omega) hj (run i' (by omega) (by omega)) (run (i' + 1) (by omega) (by omega)) (fun q3 => e4 (by rw [← q3]; exact e3))
          exact absurd q2 q1
theorem free_ex (h : Pl c H W) {Z : Nat → Prop} (hZ : Stair c H W Z) (hx : ∃ i j, i < H ∧ j < W ∧ ¬ Z (c i j)) : Free c H W Z := by
  obtain ⟨i, hx⟩ := hx
  obtain ⟨i, -, ⟨j, h1, h2, h3⟩, h4⟩ := least_of (P := fun i => ∃ j, i < H ∧ j < W ∧ ¬ Z (c i j)) hx
  obtain ⟨j, j1, j2, j3⟩ := least_of (P := fun j => ¬ Z (c i j)) h3
  have all : ∀ i', i' + 1 = i → ∀ k, k < W → Z (c i' k) := fun i' e k hk => Classical.byContradiction fun q => h4 i' (by omega) ⟨k, by omega, hk, q⟩
  exact free_from h hZ j i h1 (by omega) j2 (fun i' e => all i' e j (by omega)) (fun j' e => Classical.not_not.1 (j3 j' (by omega))) (fun i' e k _ hk _ => all i' e k hk)
/-- Rooms may be put in an order in which each one is behind those just left of it and just above it. -/
theorem order_from (h : Pl c H W) {n : Nat} (hc : ∀ i j, i < H → j < W → c i j < n) : ∀ (m : Nat) (Z : Nat → Bool), Stair c H W (fun x => Z x = true) → (List.range n).countP (fun x => !Z x) ≤ m → ∃ f : Nat → Nat, ∀ a b, Z a = false → Z b = false → DL c H W a b ∨ DU c H W a b → f a < f b := by
  have cell : ∀ {a b : Nat}, DL c H W a b ∨ DU c H W a b → ∃ i j, i < H ∧ j < W ∧ a = c i j := by
    rintro a b (⟨j0, i1, i2, k1, k2, k3, run, rfl, k4⟩ | ⟨i0, j1, j2, k1, k2, k3, run, rfl, k4⟩)
    · exact ⟨i1, j0, k2, by omega, rfl⟩
    · exact ⟨i0, j1, by omega, k2, rfl⟩
  intro m
  induction m with
  | zero =>
    intro Z hZ hm
    refine ⟨fun _ => 0, fun a b ha hb hd => ?_⟩
    obtain ⟨i, j, hi, hj, rfl⟩ := cell hd
    have h0 : (List.range n).countP (fun x => !Z x) = 0 := by omega
    rw [List.countP_eq_zero] at h0
    exact absurd (show (!Z (c i j)) = true by rw [ha]; rfl) (h0 _ (by simpa using hc i j hi hj))
  | succ m ih =>
    intro Z hZ hm
    by_cases hx : ∃ i j, i < H ∧ j < W ∧ ¬ (Z (c i j) = true)
    · obtain ⟨i, j, hi, hj, hn, hp, hs⟩ := free_ex h (Z := fun x => Z x = true) hZ hx
      have hZ' : Stair c H W (fun x => (Z x || x == c i j) = true) := by
        intro i1 j1 i' j' h1 h2 h3 h4 h5
        have h6 := hs i' j' h1 h2 h3 h4 (by simpa using h5)
        simpa using h6
      have hlt : (List.range n).countP (fun x => !(Z x || x == c i j)) < (List.range n).countP (fun x => !Z x) := by
        refine count_lt (fun x _ hx => ?_) ⟨c i j, by simpa using hc i j hi hj, by simpa using hn, by simp⟩
        cases hz : Z x with
        | false => rfl
        | true => rw [hz] at hx; simp at hx
      obtain ⟨f, hf⟩ := ih (fun x => Z x || x == c i j) hZ' (by omega)
      refine ⟨fun x => if x = c i j then 0 else f x + 1, fun a b ha hb hd => ?_⟩
      have hbA : b ≠ c i j := by
        rintro rfl
        have q : Z a = true := hp a hd
        rw [ha] at q; cases q
      simp only [if_neg hbA]
      by_cases haA : a = c i j
      · simp only [if_pos haA]; omega
      · simp only [if_neg haA]
        have := hf a b (by simp [ha, haA]) (by simp [hb, hbA]) hd
        omega
    · refine ⟨fun _ => 0, fun a b ha hb hd => ?_⟩
      obtain ⟨i, j, hi, hj, rfl⟩ := cell hd
      exact absurd ⟨i, j, hi, hj, by rw [ha]; exact Bool.false_ne_true⟩ hx
theorem order_ex (h : Pl c H W) {n : Nat} (hc : ∀ i j, i < H → j < W → c i j < n) : ∃ f : Nat → Nat, ∀ a b, DL c H W a b ∨ DU c H W a b → f a < f b := by
  obtain ⟨f, hf⟩ := order_from h hc _ (fun _ => false) (fun _ _ _ _ _ _ h => h) (Nat.le_refl _)
  exact ⟨f, fun a b hd => hf a b rfl rfl hd⟩

/-- The plan upside down, and with rows and columns exchanged. -/
def fl (c : Nat → Nat → Nat) (H i j : Nat) : Nat := c (H - 1 - i) j
def tr (c : Nat → Nat → Nat) (i j : Nat) : Nat := c j i
theorem Pl.dn (h : Pl c H W) : Pl (fl c H) H W := by
  refine ⟨fun k l h1 h2 h3 h4 h5 h6 h7 h8 h9 => ?_, fun {i j} h1 h2 h3 h4 h5 => ?_⟩
  · exact h.rect _ _ (by omega) (by omega) h3 h4 h5 (by omega) (by omega) h8 h9
  · unfold Fw.fl at *
    obtain ⟨k, rfl⟩ : ∃ k, H = i + 2 + k := ⟨H - (i + 2), by omega⟩
    rw [show i + 2 + k - 1 - i = k + 1 by omega, show i + 2 + k - 1 - (i + 1) = k by omega] at *
    exact (h.plain (i := k) (j := j) (by omega) h2 h4 h3 (Ne.symm h5)).symm
theorem Pl.ex (h : Pl c H W) : Pl (tr c) W H :=
  ⟨fun k l h1 h2 h3 h4 h5 h6 h7 h8 h9 => h.rect l k h3 h4 h1 h2 h5 h8 h9 h6 h7, fun {i j} h1 h2 h3 h4 h5 => by
    unfold Fw.tr at *
    by_cases q : c j i = c j (i + 1)
    · exact absurd q h5
    · by_cases q2 : c (j + 1) i = c (j + 1) (i + 1)
      · exact q2
      · exact absurd (h.plain (i := j) (j := i) h2 h1 h5 q2 h3) h4⟩
theorem DL.ex {a b : Nat} (h : DL (tr c) W H a b) : DU c H W a b := h
theorem DU.ex {a b : Nat} (h : DU (tr c) W H a b) : DL c H W a b := h
theorem DL.dn {a b : Nat} (h : DL (fl c H) H W a b) : DL c H W a b := by
  obtain ⟨j, i1, i2, h1, h2, h3, run, rfl, rfl⟩ := h
  refine ⟨j, H - 1 - i1, H - 1 - i2, h1, by omega, by omega, fun r r1 r2 => ?_, rfl, rfl⟩
  have := run (H - 1 - r) (by omega) (by omega)
  unfold Fw.fl at this
  rwa [show H - 1 - (H - 1 - r) = r by omega] at this
theorem DL.unfl {a b : Nat} (h : DL c H W a b) : DL (fl c H) H W a b := by
  obtain ⟨j, i1, i2, h1, h2, h3, run, rfl, rfl⟩ := h
  refine ⟨j, H - 1 - i1, H - 1 - i2, h1, by omega, by omega, fun r r1 r2 => ?_, ?_, ?_⟩
  · exact run (H - 1 - r) (by omega) (by omega)
  · unfold Fw.fl; rw [show H - 1 - (H - 1 - i1) = i1 by omega]
  · unfold Fw.fl; rw [show H - 1 - (H - 1 - i2) = i2 by omega]
theorem DU.dn {a b : Nat} (h : DU (fl c H) H W a b) : DU c H W b a := by
  obtain ⟨i, j1, j2, h1, h2, h3, run, rfl, rfl⟩ := h
  refine ⟨H - 1 - (i + 1), j2, j1, by omega, h3, h2, fun k k1 k2 => ?_, ?_, ?_⟩
  · have := run k (by omega) (by omega)
    unfold Fw.fl at this
    rw [show H - 1 - (i + 1) + 1 = H - 1 - i by omega]
    exact Ne.symm this
  · rfl
  · unfold Fw.fl; rw [show H - 1 - (i + 1) + 1 = H - 1 - i by omega]
theorem DU.unfl {a b : Nat} (h : DU c H W a b) : DU (fl c H) H W b a := by
  obtain ⟨i, j1, j2, h1, h2, h3, run, rfl, rfl⟩ := h
  refine ⟨H - 1 - (i + 1), j2, j1, by omega, h3, h2, fun k k1 k2 => ?_, ?_, ?_⟩
  · unfold Fw.fl
    rw [show H - 1 - (H - 1 - (i + 1)) = i + 1 by omega, show H - 1 - (H - 1 - (i + 1) + 1) = i by omega]
    exact Ne.symm (run k (by omega) (by omega))
  · unfold Fw.fl; rw [show H - 1 - (H - 1 - (i + 1)) = i + 1 by omega]
  · unfold Fw.fl; rw [show H - 1 - (H - 1 - (i + 1) + 1) = i by omega]
theorem order_ex2 (h : Pl c H W) {n : Nat} (hc : ∀ i j, i < H → j < W → c i j < n) : ∃ f : Nat → Nat, ∀ a b, DL c H W a b ∨ DU c H W b a → f a < f b := by
  obtain ⟨f, hf⟩ := order_ex h.dn (n := n) (fun i j hi hj => hc _ j (by omega) hj)
  refine ⟨f, fun a b hd => hf a b ?_⟩
  rcases hd with hd | hd
  · exact .inl hd.unfl
  · exact .inr hd.unfl

/-- Going on. -/
inductive TC (R : Nat → Nat → Prop) : Nat → Nat → Prop
  | one {a b : Nat} : R a b → TC R a b
  | tail {a b d : Nat} : TC R a b → R b d → TC R a d
theorem TC.mono {R S : Nat → Nat → Prop} (h : ∀ a b, R a b → S a b) {a b : Nat} (k : TC R a b) : TC S a b := by
  induction k with
  | one k => exact .one (h _ _ k)
  | tail _ k ih => exact .tail ih (h _ _ k)
theorem TC.trans {R : Nat → Nat → Prop} {a b d : Nat} (h : TC R a b) (k : TC R b d) : TC R a d := by
  induction k with
  | one k => exact .tail h k
  | tail _ k ih => exact .tail ih k
theorem TC.rev {R S : Nat → Nat → Prop} (h : ∀ a b, R a b → S b a) {a b : Nat} (k : TC R a b) : TC S b a := by
  induction k with
  | one k => exact .one (h _ _ k)
  | tail _ k ih => exact (TC.one (h _ _ k)).trans ih
theorem TC.last {R : Nat → Nat → Prop} {a b : Nat} (h : TC R a b) : ∃ x, (x = a ∨ TC R a x) ∧ R x b := by
  cases h with
  | one k => exact ⟨a, .inl rfl, k⟩
  | tail h k => exact ⟨_, .inr h, k⟩
theorem TC.rise {R : Nat → Nat → Prop} {f : Nat → Nat} (h : ∀ a b, R a b → f a < f b) {a b : Nat} (k : TC R a b) : f a < f b := by
  induction k with
  | one k => exact h _ _ k
  | tail _ k ih => exact Nat.lt_trans ih (h _ _ k)

theorem row_walk {i : Nat} (hi : i < H) {j1 : Nat} : ∀ {j2 : Nat}, j1 ≤ j2 → j2 < W → c i j1 ≠ c i j2 → TC (DL c H W) (c i j1) (c i j2)
  | 0, h1, _, h3 => by
        obtain rfl : j1 = 0 := by omega
        exact absurd rfl h3
  | j2 + 1, h1, h2, h3 => by
    by_cases e : j1 = j2 + 1
    · subst e; exact absurd rfl h3
    · by_cases q : c i j2 = c i (j2 + 1)
      · rw [← q] at h3 ⊢
        exact row_walk hi (by omega) (by omega) h3
      · have hd : DL c H W (c i j2) (c i (j2 + 1)) := ⟨j2, i, i, h2, hi, hi, fun r r1 r2 => by
        obtain rfl : r = i := by omega
        exact q, rfl, rfl⟩
        by_cases q2 : c i j1 = c i j2
        · rw [q2]; exact .one hd
        · exact .tail (row_walk hi (by omega) (by omega) q2) hd
theorem col_walk {j : Nat} (hj : j < W) {i1 i2 : Nat} (h1 : i1 ≤ i2) (h2 : i2 < H) (h3 : c i1 j ≠ c i2 j) : TC (DU c H W) (c i1 j) (c i2 j) :=
  (row_walk (c := tr c) (H := W) (W := H) hj h1 h2 h3).mono fun _ _ h => h.ex
/-- Where the upright wall passes. -/
theorem pass (h : Pl c H W) {r q A : Nat} (hr : r + 1 < H) (hq : q + 1 < W) (hNP : c r q = c (r + 1) q) (hP : c (r + 1) q ≠ c (r + 1) (q + 1)) (hQ : c r (q + 1) ≠ c (r + 1) (q + 1))
    (h1 : c (r + 1) q = A ∨ TC (DL c H W) A (c (r + 1) q) ∨ TC (DU c H W) A (c (r + 1) q)) (h2 : c r (q + 1) = A ∨ TC (DL c H W) A (c r (q + 1)) ∨ TC (DU c H W) A (c r (q + 1))) :
    TC (DL c H W) A (c (r + 1) (q + 1)) ∨ TC (DU c H W) A (c (r + 1) (q + 1)) := by
  have hNQ : c r q ≠ c r (q + 1) := by
    intro e
    have := h.rect (i := r + 1) (j := q) (i' := r) (j' := q + 1) (r + 1) (q + 1) hr (by omega) (by omega) hq (by rw [← hNP, e]) (by omega) (by omega) (by omega) (by omega)
    exact hP this.symm
  have dP : DL c H W (c (r + 1) q) (c (r + 1) (q + 1)) := ⟨q, r + 1, r + 1, hq, hr, hr, fun x x1 x2 => by
        obtain rfl : x = r + 1 := by omega
        exact hP, rfl, rfl⟩
  have dQ : DU c H W (c r (q + 1)) (c (r + 1) (q + 1)) := ⟨r, q + 1, q + 1, hr, hq, hq, fun x x1 x2 => by
        obtain rfl : x = q + 1 := by omega
        exact hQ, rfl, rfl⟩
  rcases h1 with rfl | h1 | h1
  · exact .inl (.one dP)
  · exact .inl (.tail h1 dP)
  · rcases h2 with rfl | h2 | h2
    · exact .inr (.one dQ)
    · left
      obtain ⟨x, hx, j0, i1, i2, k1, k2, k3, run, rfl, k4⟩ := h2.last
      have e : j0 = q := by
        by_cases q1 : j0 < q
        · have := h.rect r q k3 (show r < H by omega) k1 hq k4.symm (by omega) (by omega) (by omega) (by omega)
          rw [← k4] at this
          exact absurd this hNQ
        · by_cases q2 : q < j0
          · have := h.rect i2 j0 k3 (show r < H by omega) k1 hq k4.symm (by omega) (by omega) (by omega) (by omega)
            exact absurd this (run i2 (by omega) (by omega))
          · omega
      subst e
      have hd : DL c H W (c i1 j0) (c (r + 1) (j0 + 1)) := by
        refine ⟨j0, i1, r + 1, hq, k2, hr, fun x x1 x2 => ?_, rfl, rfl⟩
        by_cases q1 : min i1 i2 ≤ x ∧ x ≤ max i1 i2
        · exact run x q1.1 q1.2
        · by_cases q2 : x = r + 1
          · subst q2; exact hP
          · intro q3
            have e1 := h.rect x (j0 + 1) k3 (show r < H by omega) k1 hq k4.symm (by omega) (by omega) (by omega) (by omega)
            rw [← k4] at e1
            have e2 := h.rect (i := x) (j := j0) (i' := r) (j' := j0 + 1) r j0 (by omega) (by omega) (by omega) hq (by rw [q3, e1]) (by omega) (by omega) (by omega) (by omega)
            rw [q3, e1] at e2
            exact hNQ e2
      rcases hx with hx | hx
      · rw [hx] at hd; exact .one hd
      · exact .tail hx hd
    · exact .inr (.tail h2 dQ)
/-- A room that has a cell further right and down is right or below. -/
theorem ahead_ex (h : Pl c H W) {x y : Nat} : ∀ (s : Nat) {i j : Nat}, i + j ≤ s → x ≤ i → y ≤ j → i < H → j < W → c x y ≠ c i j → TC (DL c H W) (c x y) (c i j) ∨ TC (DU c H W) (c x y) (c i j) := by
  intro s
  induction s with
  | zero =>
    intro i j h1 h2 h3 h4 h5 h6
    obtain rfl : i = 0 := by omega
    obtain rfl : j = 0 := by omega
    obtain rfl : x = 0 := by omega
    obtain rfl : y = 0 := by omega
    exact absurd rfl h6
  | succ s ih =>
    intro i j h1 h2 h3 h4 h5 h6
    by_cases e1 : x = i
    · subst e1; exact .inl (row_walk h4 h3 h5 h6)
    · by_cases e2 : y = j
      · subst e2; exact .inr (col_walk h5 h2 h4 h6)
      · obtain ⟨r, rfl⟩ : ∃ r, i = r + 1 := ⟨i - 1, by omega⟩
        obtain ⟨q, rfl⟩ : ∃ q, j = q + 1 := ⟨j - 1, by omega⟩
        by_cases e3 : c r (q + 1) = c (r + 1) (q + 1)
        · rw [← e3] at h6 ⊢
          exact ih (by omega) (by omega) h3 (by omega) h5 h6
        · by_cases e4 : c (r + 1) q = c (r + 1) (q + 1)
          · rw [← e4] at h6 ⊢
            exact ih (by omega) h2 (by omega) h4 (by omega) h6
          · have iP : c (r + 1) q = c x y ∨ TC (DL c H W) (c x y) (c (r + 1) q) ∨ TC (DU c H W) (c x y) (c (r + 1) q) := by
              by_cases k : c x y = c (r + 1) q
              · exact .inl k.symm
              · exact .inr (ih (by omega) h2 (by omega) h4 (by omega) k)
            have iQ : c r (q + 1) = c x y ∨ TC (DL c H W) (c x y) (c r (q + 1)) ∨ TC (DU c H W) (c x y) (c r (q + 1)) := by
              by_cases k : c x y = c r (q + 1)
              · exact .inl k.symm
              · exact .inr (ih (by omega) (by omega) h3 (by omega) h5 k)
            by_cases hNP : c r q = c (r + 1) q
            · exact pass h h4 h5 hNP e4 e3 iP iQ
            · by_cases hNQ : c r q = c r (q + 1)
              · have := pass (c := tr c) (H := W) (W := H) h.ex (r := q) (q := r) (A := c x y) h5 h4 hNQ e3 e4 ?_ ?_
                · rcases this with k | k
                  · exact .inr (k.mono fun _ _ h => h.ex)
                  · exact .inl (k.mono fun _ _ h => h.ex)
                · rcases iQ with k | k | k
                  · exact .inl k
                  · exact .inr (.inr k)
                  · exact .inr (.inl k)
                · rcases iP with k | k | k
                  · exact .inl k
                  · exact .inr (.inr k)
                  · exact .inr (.inl k)
              · exact absurd (h.plain h4 h5 hNQ e4 hNP) e3
/-- Each two rooms are in some order. -/
theorem total_ex (h : Pl c H W) {x y i j : Nat} (hx : x < H) (hy : y < W) (hi : i < H) (hj : j < W) (hne : c x y ≠ c i j) :
    TC (DL c H W) (c x y) (c i j) ∨ TC (DL c H W) (c i j) (c x y) ∨ TC (DU c H W) (c x y) (c i j) ∨ TC (DU c H W) (c i j) (c x y) := by
  have key : ∀ {x y i j : Nat}, x < H → y < W → i < H → j < W → c x y ≠ c i j → x ≤ i → TC (DL c H W) (c x y) (c i j) ∨ TC (DL c H W) (c i j) (c x y) ∨ TC (DU c H W) (c x y) (c i j) ∨ TC (DU c H W) (c i j) (c x y) := by
    intro x y i j hx hy hi hj hne hle
    by_cases q : y ≤ j
    · rcases ahead_ex h _ (Nat.le_refl _) hle q hi hj hne with k | k
      · exact .inl k
      · exact .inr (.inr (.inl k))
    · have e1 : fl c H (H - 1 - i) j = c i j := by unfold fl; rw [show H - 1 - (H - 1 - i) = i by omega]
      have e2 : fl c H (H - 1 - x) y = c x y := by unfold fl; rw [show H - 1 - (H - 1 - x) = x by omega]
      have := ahead_ex h.dn (x := H - 1 - i) (y := j) _ (i := H - 1 - x) (j := y) (Nat.le_refl _) (by omega) (by omega) (by omega) hy (by rw [e1, e2]; exact Ne.symm hne)
      rw [e1, e2] at this
      rcases this with k | k
      · exact .inr (.inl (k.mono fun _ _ h => h.dn))
      · exact .inr (.inr (.inl (k.rev fun _ _ h => h.dn)))
  by_cases q : x ≤ i
  · exact key hx hy hi hj hne q
  · rcases key hi hj hx hy (Ne.symm hne) (by omega) with k | k | k | k
    · exact .inr (.inl k)
    · exact .inl k
    · exact .inr (.inr (.inr k))
    · exact .inr (.inr (.inl k))
end
end Fw
end Go.Proofs.YtcglmbijpjhbmaaGreat

/-! The program's closures and walls in words of cells: left of is going on from just left of, above is going on from just above. -/
namespace Go.Proofs.YtcglmbijpjhbmaaGreat
namespace Fw
open Go

section
variable {n : Nat} {M : List (List Bool)}

theorem absorb {p q : Bool} : (p || (q && p)) = p := by cases p <;> cases q <;> rfl
theorem clK_to (h : Sq n M) {k : Nat} (hk : k < n) : ∀ i, i ≤ n → Sq n ((List.range i).foldl (clA n k) M) ∧
    ∀ x y, x < n → y < n → getB ((List.range i).foldl (clA n k) M) x y = if x < i then getB M x y || (getB M x k && getB M k y) else getB M x y
  | 0, _ => ⟨h, fun x y _ _ => by simp⟩
  | i + 1, hi => by
    obtain ⟨h1, h2⟩ := clK_to h hk i (by omega)
    rw [foldl_rg]
    generalize (List.range i).foldl (clA n k) M = X at h1 h2 ⊢
    obtain ⟨h3, h4⟩ := clA_to h1 hk (show i < n by omega) n (Nat.le_refl _)
    refine ⟨h3, fun x y hx hy => ?_⟩
    unfold clA
    rw [h4 x y hx hy]
    by_cases e : x = i
    · subst e
      have e1 : getB X x y = getB M x y := by rw [h2 x y hx hy, if_neg (Nat.lt_irrefl _)]
      have e2 : getB X x k = getB M x k := by rw [h2 x k hx hk, if_neg (Nat.lt_irrefl _)]
      have e3 : getB X k y = getB M k y := by
        rw [h2 k y hk hy]
        split
        · exact absorb
        · rfl
      rw [if_pos ⟨rfl, hy⟩, if_pos (by omega), e1, e2, e3]
    · rw [if_neg (fun q => e q.1), h2 x y hx hy]
      by_cases e2 : x < i
      · rw [if_pos e2, if_pos (by omega)]
      · rw [if_neg e2, if_neg (by omega)]
theorem clK_get (h : Sq n M) {k : Nat} (hk : k < n) {x y : Nat} (hx : x < n) (hy : y < n) : getB (clK n M k) x y = (getB M x y || (getB M x k && getB M k y)) := by
  have := (clK_to h hk n (Nat.le_refl _)).2 x y hx hy
  rw [if_pos hx] at this
  exact this
theorem close_to (h : Sq n M) : ∀ i, i ≤ n → Sq n ((List.range i).foldl (clK n) M) ∧
    (∀ a b, a < n → b < n → getB M a b = true → getB ((List.range i).foldl (clK n) M) a b = true) ∧
    (∀ m a b, m < i → a < n → b < n → getB ((List.range i).foldl (clK n) M) a m = true → getB ((List.range i).foldl (clK n) M) m b = true → getB ((List.range i).foldl (clK n) M) a b = true) ∧
    (∀ T : Nat → Nat → Prop, (∀ a b d, T a b → T b d → T a d) → (∀ a b, a < n → b < n → getB M a b = true → T a b) → ∀ a b, a < n → b < n → getB ((List.range i).foldl (clK n) M) a b = true → T a b)
  | 0, _ => ⟨h, fun a b _ _ k => k, fun m a b k => by omega, fun T _ k => k⟩
  | i + 1, hi => by
    obtain ⟨h1, h2, h3, h4⟩ := close_to h i (by omega)
    rw [foldl_rg]
    generalize (List.range i).foldl (clK n) M = X at h1 h2 h3 h4 ⊢
    have hin : i < n := by omega
    have g : ∀ {x y : Nat}, x < n → y < n → (getB (clK n X i) x y = true ↔ getB X x y = true ∨ (getB X x i = true ∧ getB X i y = true)) := by
      intro x y hx hy
      rw [clK_get h1 hin hx hy]; simp
    refine ⟨(clK_to h1 hin n (Nat.le_refl _)).1, fun a b ha hb k => (g ha hb).2 (.inl (h2 a b ha hb k)), fun m a b hm ha hb k1 k2 => ?_, fun T tr hT a b ha hb k => ?_⟩
    · have hmn : m < n := by omega
      rw [g ha hmn] at k1
      rw [g hmn hb] at k2
      rw [g ha hb]
      by_cases e : m = i
      · subst e
        rcases k1 with k1 | k1 <;> rcases k2 with k2 | k2
        · exact .inr ⟨k1, k2⟩
        · exact .inr ⟨k1, k2.2⟩
        · exact .inr ⟨k1.1, k2⟩
        · exact .inr ⟨k1.1, k2.2⟩
      · have hmi : m < i := by omega
        rcases k1 with k1 | k1 <;> rcases k2 with k2 | k2
        · exact .inl (h3 m a b hmi ha hb k1 k2)
        · exact .inr ⟨h3 m a i hmi ha hin k1 k2.1, k2.2⟩
        · exact .inr ⟨k1.1, h3 m i b hmi hin hb k1.2 k2⟩
        · exact .inr ⟨k1.1, k2.2⟩
    · rw [g ha hb] at k
      rcases k with k | k
      · exact h4 T tr hT a b ha hb k
      · exact tr a i b (h4 T tr hT a i ha hin k.1) (h4 T tr hT i b hin hb k.2)
/-- A matrix as a relation. -/
def MR (n : Nat) (M : List (List Bool)) (a b : Nat) : Prop := a < n ∧ b < n ∧ getB M a b = true
theorem close_tc (h : Sq n M) {a b : Nat} (ha : a < n) (hb : b < n) : getB (closeM M) a b = true ↔ TC (MR n M) a b := by
  obtain ⟨h1, h2, h3, h4⟩ := close_to h n (Nat.le_refl _)
  have e : closeM M = (List.range n).foldl (clK n) M := by unfold closeM; rw [h.1]
  rw [e]
  constructor
  · exact h4 (TC (MR n M)) (fun _ _ _ p q => p.trans q) (fun a b ha hb k => .one ⟨ha, hb, k⟩) a b ha hb
  · intro k
    induction k with
    | one k => exact h2 _ _ k.1 k.2.1 k.2.2
    | tail _ k ih => exact h3 _ _ _ k.1 ha k.2.1 (ih k.1) (h2 _ _ k.1 k.2.1 k.2.2)
end

/-! ### Walls -/
/-- Some wall stands at all these places. -/
def Cov (ws : List Wall) (level : Bool) (line i1 i2 : Nat) : Prop := ∃ w ∈ ws, w.level = level ∧ w.line = line ∧ w.fr ≤ i1 ∧ (i2 : Int) < w.fr + w.long
theorem Cov.app {ws vs : List Wall} {level : Bool} {line i1 i2 : Nat} (h : Cov ws level line i1 i2) : Cov (ws ++ vs) level line i1 i2 := by
  obtain ⟨w, hw, k⟩ := h
  exact ⟨w, List.mem_append_left _ hw, k⟩
theorem Cov.long {ws : List Wall} {w : Wall} {level : Bool} {line i1 i2 : Nat} (h : Cov (ws ++ [w]) level line i1 i2) : Cov (ws ++ [{ w with long := w.long + 1 }]) level line i1 i2 := by
  obtain ⟨v, hv, k1, k2, k3, k4⟩ := h
  rcases List.mem_append.1 hv with hv | hv
  · exact ⟨v, List.mem_append_left _ hv, k1, k2, k3, k4⟩
  · rw [List.mem_singleton] at hv
    subst hv
    exact ⟨_, List.mem_append_right _ (List.mem_singleton.2 rfl), k1, k2, k3, by simp only; omega⟩
def Run (g : List (List Int)) (level : Bool) (line i1 i2 : Nat) : Prop := ∀ j, i1 ≤ j → j ≤ i2 → difG g level line j = true
theorem wlLine_cov {g : List (List Int)} {level : Bool} {line : Nat} {ws : List Wall} : ∀ n, (∀ lv ln i1 i2, Cov ws lv ln i1 i2 → Cov (wlLine g level line ws n).1 lv ln i1 i2) ∧
    (∀ i1 i2, i1 ≤ i2 → i2 < n → Run g level line i1 i2 → Cov (wlLine g level line ws n).1 level line i1 i2) ∧
    ((wlLine g level line ws n).2 = false → ∀ m, n = m + 1 → difG g level line m = false) ∧
    ((wlLine g level line ws n).2 = true → ∃ (ws0 : List Wall) (w : Wall), (wlLine g level line ws n).1 = ws0 ++ [w] ∧ w.level = level ∧ w.line = (line : Int) ∧ w.fr + w.long = (n : Int) ∧ 1 ≤ w.long ∧ ∀ i : Nat, i < n → Run g level line i (n - 1) → w.fr ≤ (i : Int))
  | 0 => by
    rw [wlLine_zero]
    exact ⟨fun _ _ _ _ h => h, fun i1 i2 _ h => by omega, fun _ m h => by omega, fun h => by cases h⟩
  | n + 1 => by
    obtain ⟨h1, h2, h3, h4⟩ := wlLine_cov (g := g) (level := level) (line := line) (ws := ws) n
    rw [wlLine_succ]
    generalize wlLine g level line ws n = s at h1 h2 h3 h4
    obtain ⟨l, op⟩ := s
    simp only at h1 h2 h3 h4
    cases hd : difG g level line n with
    | false =>
      have e : wlStep false level line n (l, op) = (l, false) := by simp [wlStep]
      rw [e]
      refine ⟨h1, fun i1 i2 k1 k2 k3 => ?_, fun _ m hm => (by have e0 : m = n := (by omega); rw [e0]; exact hd), fun h => by cases h⟩
      by_cases e2 : i2 = n
      · subst e2
        have := k3 i2 k1 (Nat.le_refl _)
        rw [hd] at this; cases this
      · exact h2 i1 i2 k1 (by omega) k3
    | true =>
      cases op with
      | false =>
        have e : wlStep true level line n (l, false) = (l ++ [⟨level, line, n, 1⟩], true) := by simp [wlStep]
        rw [e]
        have hno : ∀ m, n = m + 1 → difG g level line m = false := h3 rfl
        have first : ∀ i, i < n + 1 → Run g level line i n → i = n := by
          intro i hi hr
          by_cases e2 : i = n
          · exact e2
          · have := hr (n - 1) (by omega) (by omega)
            rw [hno (n - 1) (by omega)] at this; cases this
        refine ⟨fun lv ln i1 i2 k => (h1 lv ln i1 i2 k).app, fun i1 i2 k1 k2 k3 => ?_, fun h => (by cases h), fun _ => ⟨l, _, rfl, rfl, rfl, by simp, by simp, fun i hi hr => ?_⟩⟩
        · by_cases e2 : i2 = n
          · subst e2
            obtain rfl := first i1 (by omega) k3
            exact ⟨_, List.mem_append_right _ (List.mem_singleton.2 rfl), rfl, rfl, Int.le_refl _, by simp only; omega⟩
          · exact (h2 i1 i2 k1 (by omega) k3).app
        · have := first i hi hr
          simp only; omega
      | true =>
        obtain ⟨ws0, w, rfl, w1, w2, w3, w4, w5⟩ := h4 rfl
        have e : wlStep true level line n (ws0 ++ [w], true) = (ws0 ++ [{ w with long := w.long + 1 }], true) := by simp [wlStep]
        rw [e]
        have hfr : ∀ i : Nat, i < n + 1 → Run g level line i n → w.fr ≤ (i : Int) := by
          intro i hi hr
          by_cases e2 : i = n
          · omega
          · exact w5 i (by omega) fun j j1 j2 => hr j j1 (by omega)
        refine ⟨fun lv ln i1 i2 k => (h1 lv ln i1 i2 k).long, fun i1 i2 k1 k2 k3 => ?_, fun h => (by cases h), fun _ => ⟨ws0, _, rfl, w1, w2, by simp only; omega, by simp only; omega, fun i hi hr => hfr i hi hr⟩⟩
        by_cases e2 : i2 = n
        · subst e2
          have := hfr i1 (by omega) k3
          exact ⟨_, List.mem_append_right _ (List.mem_singleton.2 rfl), w1, w2, this, by simp only; omega⟩
        · exact (h2 i1 i2 k1 (by omega) k3).long
theorem wlLevel_cov {g : List (List Int)} {level : Bool} {places : Nat} {ws : List Wall} : ∀ lines, (∀ lv ln i1 i2, Cov ws lv ln i1 i2 → Cov (wlLevel g level places ws lines) lv ln i1 i2) ∧
    (∀ line i1 i2, 1 ≤ line → line < lines → i1 ≤ i2 → i2 < places → Run g level line i1 i2 → Cov (wlLevel g level places ws lines) level line i1 i2)
  | 0 => ⟨fun _ _ _ _ h => h, fun line _ _ _ h => by omega⟩
  | k + 1 => by
    obtain ⟨h1, h2⟩ := wlLevel_cov (g := g) (level := level) (places := places) (ws := ws) k
    by_cases hk : 1 ≤ k
    · rw [wlLevel_succ hk]
      obtain ⟨l1, l2, -, -⟩ := wlLine_cov (g := g) (level := level) (line := k) (ws := wlLevel g level places ws k) places
      refine ⟨fun lv ln i1 i2 q => l1 _ _ _ _ (h1 _ _ _ _ q), fun line i1 i2 q1 q2 q3 q4 q5 => ?_⟩
      by_cases e : line = k
      · subst e; exact l2 i1 i2 q3 q4 q5
      · exact l1 _ _ _ _ (h2 line i1 i2 q1 (by omega) q3 q4 q5)
    · obtain rfl : k = 0 := by omega
      rw [wlLevel_one]
      exact ⟨fun _ _ _ _ h => h, fun line _ _ q1 q2 => by omega⟩
theorem wallsG_cov {g : List (List Int)} {H W : Nat} {level : Bool} {line i1 i2 : Nat} (h1 : 1 ≤ line) (h2 : line < if level then H else W) (h3 : i1 ≤ i2) (h4 : i2 < if level then W else H) (hr : Run g level line i1 i2) : Cov (wallsG g H W) level line i1 i2 := by
  unfold wallsG
  obtain ⟨a1, a2⟩ := wlLevel_cov (g := g) (level := false) (places := H) (ws := []) W
  obtain ⟨b1, b2⟩ := wlLevel_cov (g := g) (level := true) (places := W) (ws := wlLevel g false H [] W) H
  cases level with
  | false => exact b1 _ _ _ _ (a2 line i1 i2 h1 h2 h3 h4 hr)
  | true => exact b2 line i1 i2 h1 h2 h3 h4 hr

/-! ### The direct orders -/
section
variable {n : Nat}
theorem relB_get {a : Int} (ha : 0 ≤ a ∧ a < n) : ∀ {bs : List Int} {M : List (List Bool)}, Rm n bs → Sq n M → Sq n (relB a bs M) ∧ ∀ x y, getB (relB a bs M) x y = true ↔ getB M x y = true ∨ (x = a.toNat ∧ ∃ b ∈ bs, y = b.toNat)
  | [], M, _, h => ⟨h, fun x y => by simp [relB]⟩
  | b :: bs, M, hb, h => by
    have hb0 := hb b (by simp)
    obtain ⟨k1, k2⟩ := relB_get ha (bs := bs) (M := setB M a.toNat b.toNat true) (fun x hx => hb x (by simp [hx])) (h.set (by omega))
    refine ⟨k1, fun x y => ?_⟩
    have e : relB a (b :: bs) M = relB a bs (setB M a.toNat b.toNat true) := rfl
    rw [e, k2, getB_setB h (by omega) (by omega)]
    by_cases q : x = a.toNat ∧ y = b.toNat
    · rw [if_pos q]; simp [q.1, q.2]
    · rw [if_neg q]
      constructor
      · rintro (k | ⟨k, c, hc, rfl⟩)
        · exact .inl k
        · exact .inr ⟨k, c, by simp [hc], rfl⟩
      · rintro (k | ⟨k, c, hc, rfl⟩)
        · exact .inl k
        · rcases List.mem_cons.1 hc with rfl | hc
          · exact absurd ⟨k, rfl⟩ q
          · exact .inr ⟨k, c, hc, rfl⟩
theorem relW_get {bs : List Int} (hb : Rm n bs) : ∀ {la : List Int} {M : List (List Bool)}, Rm n la → Sq n M → Sq n (relW M la bs) ∧ ∀ x y, getB (relW M la bs) x y = true ↔ getB M x y = true ∨ (∃ a ∈ la, x = a.toNat) ∧ ∃ b ∈ bs, y = b.toNat
  | [], M, _, h => ⟨h, fun x y => by simp [relW]⟩
  | a :: la, M, ha, h => by
    obtain ⟨j1, j2⟩ := relB_get (ha a (by simp)) hb h
    obtain ⟨k1, k2⟩ := relW_get hb (la := la) (M := relB a bs M) (fun x hx => ha x (by simp [hx])) j1
    refine ⟨k1, fun x y => ?_⟩
    have e : relW M (a :: la) bs = relW (relB a bs M) la bs := rfl
    rw [e, k2, j2]
    constructor
    · rintro ((k | ⟨k, q⟩) | ⟨⟨c, hc, k⟩, q⟩)
      · exact .inl k
      · exact .inr ⟨⟨a, by simp, k⟩, q⟩
      · exact .inr ⟨⟨c, by simp [hc], k⟩, q⟩
    · rintro (k | ⟨⟨c, hc, k⟩, q⟩)
      · exact .inl (.inl k)
      · rcases List.mem_cons.1 hc with rfl | hc
        · exact .inl (.inr ⟨k, q⟩)
        · exact .inr ⟨⟨c, hc, k⟩, q⟩
/-- On both sides of some wall. -/
def By (g : List (List Int)) (ws : List Wall) (lv : Bool) (x y : Nat) : Prop := ∃ w ∈ ws, w.level = lv ∧ (∃ a ∈ (sidesOf g w).1, x = a.toNat) ∧ ∃ b ∈ (sidesOf g w).2, y = b.toNat
theorem By.cons {g : List (List Int)} {w : Wall} {ws : List Wall} {lv : Bool} {x y : Nat} : By g (w :: ws) lv x y ↔ (w.level = lv ∧ (∃ a ∈ (sidesOf g w).1, x = a.toNat) ∧ ∃ b ∈ (sidesOf g w).2, y = b.toNat) ∨ By g ws lv x y := by
  unfold By; simp
theorem ord_get {g : List (List Int)} {nh nw : Nat} (hrm : RmOk g nh nw n) : ∀ (ws : List Wall), (∀ w ∈ ws, WlOk g nh nw w) → ∀ {M : List (List Bool) × List (List Bool)}, Sq n M.1 → Sq n M.2 →
    (Sq n (ws.foldl (ordW g) M).1 ∧ ∀ x y, getB (ws.foldl (ordW g) M).1 x y = true ↔ getB M.1 x y = true ∨ By g ws false x y) ∧
    (Sq n (ws.foldl (ordW g) M).2 ∧ ∀ x y, getB (ws.foldl (ordW g) M).2 x y = true ↔ getB M.2 x y = true ∨ By g ws true x y)
  | [], _, M, h0, h1 => ⟨⟨h0, fun x y => by simp [By]⟩, ⟨h1, fun x y => by simp [By]⟩⟩
  | w :: ws, hws, M, h0, h1 => by
    obtain ⟨r1, r2⟩ := sidesOf_rooms hrm (hws w (by simp))
    rw [List.foldl_cons]
    cases hlv : w.level with
    | false =>
      obtain ⟨k1, k2⟩ := relW_get r2 r1 h0
      have e : ordW g M w = (relW M.1 (sidesOf g w).1 (sidesOf g w).2, M.2) := by unfold ordW; rw [hlv]; rfl
      rw [e]
      obtain ⟨⟨a1, a2⟩, ⟨b1, b2⟩⟩ := ord_get hrm ws (fun w hw => hws w (by simp [hw])) (M := (relW M.1 (sidesOf g w).1 (sidesOf g w).2, M.2)) k1 h1
      refine ⟨⟨a1, fun x y => ?_⟩, ⟨b1, fun x y => ?_⟩⟩
      · rw [a2, k2, By.cons, hlv]; simp only [true_and, or_assoc]
      · rw [b2, By.cons, hlv]; simp
    | true =>
      obtain ⟨k1, k2⟩ := relW_get r2 r1 h1
      have e : ordW g M w = (M.1, relW M.2 (sidesOf g w).1 (sidesOf g w).2) := by unfold ordW; rw [hlv]; rfl
      rw [e]
      obtain ⟨⟨a1, a2⟩, ⟨b1, b2⟩⟩ := ord_get hrm ws (fun w hw => hws w (by simp [hw])) (M := (M.1, relW M.2 (sidesOf g w).1 (sidesOf g w).2)) h0 k1
      refine ⟨⟨a1, fun x y => ?_⟩, ⟨b1, fun x y => ?_⟩⟩
      · rw [a2, By.cons, hlv]; simp
      · rw [b2, k2, By.cons, hlv]; simp only [true_and, or_assoc]
theorem emptyM_no {x y : Nat} : getB (emptyM n) x y = false := by
  unfold getB emptyM
  rw [List.getElem?_replicate]
  split
  · rw [Option.getD_some, List.getElem?_replicate]; split <;> rfl
  · rfl
/-- The number of a cell's room. -/
def cn (g : List (List Int)) (i j : Nat) : Nat := (gz g i j).toNat
theorem RmOk.ne {g : List (List Int)} {nh nw : Nat} (h : RmOk g nh nw n) {i j i' j' : Nat} (h1 : i < nh) (h2 : j < nw) (h3 : i' < nh) (h4 : j' < nw) : gz g i j ≠ gz g i' j' ↔ cn g i j ≠ cn g i' j' := by
  have a := h i j h1 h2
  have b := h i' j' h3 h4
  unfold cn
  omega
theorem side_mem1 {g : List (List Int)} {level : Bool} {line fr long j : Nat} (h1 : fr ≤ j) (h2 : j < fr + long) : (sidesG g level line j).1 ∈ (sidesOf g ⟨level, line, fr, long⟩).1 := by
  simp only [sidesOf, Int.toNat_natCast]
  rw [mem_ddp]
  simp only [alongG, List.mem_map, List.mem_range]
  exact ⟨j - fr, by omega, by rw [show fr + (j - fr) = j by omega]⟩
theorem side_mem2 {g : List (List Int)} {level : Bool} {line fr long j : Nat} (h1 : fr ≤ j) (h2 : j < fr + long) : (sidesG g level line j).2 ∈ (sidesOf g ⟨level, line, fr, long⟩).2 := by
  simp only [sidesOf, Int.toNat_natCast]
  rw [mem_ddp]
  simp only [alongG, List.mem_map, List.mem_range]
  exact ⟨j - fr, by omega, by rw [show fr + (j - fr) = j by omega]⟩
theorem side_of1 {g : List (List Int)} {level : Bool} {line fr long : Nat} {x : Int} (h : x ∈ (sidesOf g ⟨level, line, fr, long⟩).1) : ∃ j, fr ≤ j ∧ j < fr + long ∧ x = (sidesG g level line j).1 := by
  simp only [sidesOf, Int.toNat_natCast] at h
  rw [mem_ddp] at h
  simp only [alongG, List.mem_map, List.mem_range] at h
  obtain ⟨j, hj, rfl⟩ := h
  exact ⟨fr + j, by omega, by omega, rfl⟩
theorem side_of2 {g : List (List Int)} {level : Bool} {line fr long : Nat} {x : Int} (h : x ∈ (sidesOf g ⟨level, line, fr, long⟩).2) : ∃ j, fr ≤ j ∧ j < fr + long ∧ x = (sidesG g level line j).2 := by
  simp only [sidesOf, Int.toNat_natCast] at h
  rw [mem_ddp] at h
  simp only [alongG, List.mem_map, List.mem_range] at h
  obtain ⟨j, hj, rfl⟩ := h
  exact ⟨fr + j, by omega, by omega, rfl⟩
theorem by_left {g : List (List Int)} {nh nw : Nat} (h : RmOk g nh nw n) {x y : Nat} : By g (wallsG g nh nw) false x y ↔ DL (cn g) nh nw x y := by
  constructor
  · rintro ⟨w, hw, hlv, ⟨a, ha, rfl⟩, b, hb, rfl⟩
    obtain ⟨line, fr, long, he, hl, hin⟩ := wallsG_ok w hw
    rw [hlv] at he hin
    subst he
    obtain ⟨j1, p1, p2, rfl⟩ := side_of1 ha
    obtain ⟨j2, q1, q2, rfl⟩ := side_of2 hb
    have i1 := (hin j1 p1 p2).1
    have i2 := (hin j2 q1 q2).1
    unfold InL at i1 i2
    simp only [Bool.false_eq_true, if_false] at i1 i2
    obtain ⟨L, rfl⟩ : ∃ L, line = L + 1 := ⟨line - 1, by omega⟩
    refine ⟨L, j1, j2, i1.2.1, i1.2.2, i2.2.2, fun r r1 r2 => ?_, ?_, ?_⟩
    · have hr := hin r (by omega) (by omega)
      have hr1 := hr.1
      unfold InL at hr1
      simp only [Bool.false_eq_true, if_false] at hr1
      have hr2 := hr.2
      unfold difG sidesG at hr2
      simp only [Bool.false_eq_true, if_false, decide_eq_true_eq, Nat.add_sub_cancel] at hr2
      exact (h.ne hr1.2.2 (by omega) hr1.2.2 hr1.2.1).1 hr2
    · simp [sidesG, cn]
    · simp [sidesG, cn]
  · rintro ⟨L, i1, i2, h1, h2, h3, run, rfl, rfl⟩
    have hrun : Run g false (L + 1) (min i1 i2) (max i1 i2) := by
      intro r r1 r2
      have := run r r1 r2
      rw [← h.ne (by omega) (by omega) (by omega) h1] at this
      unfold difG sidesG
      simpa using this
    obtain ⟨w, hw, w1, w2, w3, w4⟩ := wallsG_cov (g := g) (H := nh) (W := nw) (level := false) (line := L + 1) (by omega) (by simpa using h1) (by omega) (by simp only [Bool.false_eq_true, if_false]; omega) hrun
    obtain ⟨line, fr, long, he, hl, hin⟩ := wallsG_ok w hw
    rw [w1] at he
    subst he
    simp only at w2 w3 w4
    obtain rfl : line = L + 1 := by omega
    refine ⟨_, hw, rfl, ⟨_, side_mem1 (j := i1) (by omega) (by omega), ?_⟩, _, side_mem2 (j := i2) (by omega) (by omega), ?_⟩
    · simp [sidesG, cn]
    · simp [sidesG, cn]
theorem by_above {g : List (List Int)} {nh nw : Nat} (h : RmOk g nh nw n) {x y : Nat} : By g (wallsG g nh nw) true x y ↔ DU (cn g) nh nw x y := by
  constructor
  · rintro ⟨w, hw, hlv, ⟨a, ha, rfl⟩, b, hb, rfl⟩
    obtain ⟨line, fr, long, he, hl, hin⟩ := wallsG_ok w hw
    rw [hlv] at he hin
    subst he
    obtain ⟨j1, p1, p2, rfl⟩ := side_of1 ha
    obtain ⟨j2, q1, q2, rfl⟩ := side_of2 hb
    have i1 := (hin j1 p1 p2).1
    have i2 := (hin j2 q1 q2).1
    unfold InL at i1 i2
    simp only [if_true] at i1 i2
    obtain ⟨L, rfl⟩ : ∃ L, line = L + 1 := ⟨line - 1, by omega⟩
    refine ⟨L, j1, j2, i1.2.1, i1.2.2, i2.2.2, fun r r1 r2 => ?_, ?_, ?_⟩
    · have hr := hin r (by omega) (by omega)
      have hr1 := hr.1
      unfold InL at hr1
      simp only [if_true] at hr1
      have hr2 := hr.2
      unfold difG sidesG at hr2
      simp only [if_true, decide_eq_true_eq, Nat.add_sub_cancel] at hr2
      exact (h.ne (by omega) hr1.2.2 hr1.2.1 hr1.2.2).1 hr2
    · simp [sidesG, cn]
    · simp [sidesG, cn]
  · rintro ⟨L, i1, i2, h1, h2, h3, run, rfl, rfl⟩
    have hrun : Run g true (L + 1) (min i1 i2) (max i1 i2) := by
      intro r r1 r2
      have := run r r1 r2
      rw [← h.ne (by omega) (by omega) h1 (by omega)] at this
      unfold difG sidesG
      simpa using this
    obtain ⟨w, hw, w1, w2, w3, w4⟩ := wallsG_cov (g := g) (H := nh) (W := nw) (level := true) (line := L + 1) (by omega) (by simpa using h1) (by omega) (by simp only [if_true]; omega) hrun
    obtain ⟨line, fr, long, he, hl, hin⟩ := wallsG_ok w hw
    rw [w1] at he
    subst he
    simp only at w2 w3 w4
    obtain rfl : line = L + 1 := by omega
    refine ⟨_, hw, rfl, ⟨_, side_mem1 (j := i1) (by omega) (by omega), ?_⟩, _, side_mem2 (j := i2) (by omega) (by omega), ?_⟩
    · simp [sidesG, cn]
    · simp [sidesG, cn]
theorem cn_lt {g : List (List Int)} {nh nw : Nat} (h : RmOk g nh nw n) {i j : Nat} (hi : i < nh) (hj : j < nw) : cn g i j < n := by
  have := h i j hi hj
  unfold cn; omega
theorem left_tc {g : List (List Int)} {nh nw : Nat} (h : RmOk g nh nw n) {a b : Nat} (ha : a < n) (hb : b < n) : getB (leftG g nh nw n) a b = true ↔ TC (DL (cn g) nh nw) a b := by
  obtain ⟨⟨k1, k2⟩, -⟩ := ord_get h (wallsG g nh nw) wallsG_ok (M := (emptyM n, emptyM n)) (emptyM_sq n) (emptyM_sq n)
  have hd : ∀ x y, getB (ordM g nh nw n).1 x y = true ↔ DL (cn g) nh nw x y := fun x y => by
    unfold ordM; rw [k2, by_left h]; simp [emptyM_no]
  unfold leftG
  have k3 : Sq n (ordM g nh nw n).1 := k1
  rw [close_tc k3 ha hb]
  constructor
  · exact TC.mono fun x y q => (hd x y).1 q.2.2
  · refine TC.mono fun x y q => ⟨?_, ?_, (hd x y).2 q⟩
    · obtain ⟨j, i1, i2, q1, q2, q3, -, rfl, -⟩ := q
      exact cn_lt h q2 (by omega)
    · obtain ⟨j, i1, i2, q1, q2, q3, -, -, rfl⟩ := q
      exact cn_lt h q3 q1
theorem above_tc {g : List (List Int)} {nh nw : Nat} (h : RmOk g nh nw n) {a b : Nat} (ha : a < n) (hb : b < n) : getB (aboveG g nh nw n) a b = true ↔ TC (DU (cn g) nh nw) a b := by
  obtain ⟨-, ⟨k1, k2⟩⟩ := ord_get h (wallsG g nh nw) wallsG_ok (M := (emptyM n, emptyM n)) (emptyM_sq n) (emptyM_sq n)
  have hd : ∀ x y, getB (ordM g nh nw n).2 x y = true ↔ DU (cn g) nh nw x y := fun x y => by
    unfold ordM; rw [k2, by_above h]; simp [emptyM_no]
  unfold aboveG
  have k3 : Sq n (ordM g nh nw n).2 := k1
  rw [close_tc k3 ha hb]
  constructor
  · exact TC.mono fun x y q => (hd x y).1 q.2.2
  · refine TC.mono fun x y q => ⟨?_, ?_, (hd x y).2 q⟩
    · obtain ⟨j, i1, i2, q1, q2, q3, -, rfl, -⟩ := q
      exact cn_lt h (by omega) q2
    · obtain ⟨j, i1, i2, q1, q2, q3, -, -, rfl⟩ := q
      exact cn_lt h q1 q3
end
end Fw
end Go.Proofs.YtcglmbijpjhbmaaGreat

/-! Orders of a plain plan: each two rooms are in just one. -/
namespace Go.Proofs.YtcglmbijpjhbmaaGreat
namespace Fw
open Go

theorem ptsRow_no {p : List Txt} {i : Nat} : ∀ {w : Nat}, ptsRow p 4 i w = 0 → ∀ k, 1 ≤ k → k < w → meetsAt p i k ≠ 4
  | w + 1, h, k, h1, h2 => by
    have hb := (ptsRow_bound p 4 i w).1
    unfold ptsRow at h
    by_cases e : k = w
    · subst e
      intro q
      rw [if_pos ⟨h1, q⟩] at h
      omega
    · have h0 : ptsRow p 4 i w = 0 := by split at h <;> omega
      exact ptsRow_no h0 k h1 (by omega)
theorem ptsTo_no {p : List Txt} {w : Nat} : ∀ {n : Nat}, ptsTo p 4 w n = 0 → ∀ i, 1 ≤ i → i < n → ptsRow p 4 i w = 0
  | n + 1, h, i, h1, h2 => by
    have hb : 0 ≤ ptsTo p 4 w n := by
      clear h h1 h2
      induction n with
      | zero => simp [ptsTo]
      | succ n ih =>
        have := (ptsRow_bound p 4 n w).1
        unfold ptsTo; split <;> omega
    have hr := (ptsRow_bound p 4 n w).1
    unfold ptsTo at h
    by_cases e : i = n
    · subst e
      rw [if_pos h1] at h
      omega
    · have h0 : ptsTo p 4 w n = 0 := by split at h <;> omega
      exact ptsTo_no h0 i h1 (by omega)
theorem u8_ne {a b : UInt8} (h : (a.toNat : Int) - 97 ≠ (b.toNat : Int) - 97) : a ≠ b := by
  rintro rfl; exact h rfl
/-- Where four letters meet, four rooms do. -/
theorem meets_four {p : List Txt} (hg : gridB p = true) {i k : Nat} (hi : i + 1 < p.length) (hk : k + 1 < (hdRow p).length) (h1 : cellZ p i k ≠ cellZ p i (k + 1)) (h2 : cellZ p i k ≠ cellZ p (i + 1) k) (h3 : cellZ p i k ≠ cellZ p (i + 1) (k + 1))
    (h4 : cellZ p i (k + 1) ≠ cellZ p (i + 1) k) (h5 : cellZ p i (k + 1) ≠ cellZ p (i + 1) (k + 1)) (h6 : cellZ p (i + 1) k ≠ cellZ p (i + 1) (k + 1)) : meetsAt p (i + 1) (k + 1) = 4 := by
  obtain ⟨r1, hr1, -⟩ := get_of (show i < p.length by omega)
  obtain ⟨r2, hr2, -⟩ := get_of hi
  have e1 := grid_row hg hr1
  have e2 := grid_row hg hr2
  obtain ⟨a, ha, -⟩ := get_of (show k < r1.length by omega)
  obtain ⟨b, hb, -⟩ := get_of (show k + 1 < r1.length by omega)
  obtain ⟨c, hc, -⟩ := get_of (show k < r2.length by omega)
  obtain ⟨d, hd, -⟩ := get_of (show k + 1 < r2.length by omega)
  rw [cellZ_is hr1 ha] at h1 h2 h3
  rw [cellZ_is hr1 hb] at h1 h4 h5
  rw [cellZ_is hr2 hc] at h2 h4 h6
  rw [cellZ_is hr2 hd] at h3 h5 h6
  have n1 := u8_ne h1
  have n2 := u8_ne h2
  have n3 := u8_ne h3
  have n4 := u8_ne h4
  have n5 := u8_ne h5
  have n6 := u8_ne h6
  unfold meetsAt
  simp only [Nat.add_sub_cancel, hr1, hr2, ha, hb, hc, hd]
  simp [distTo, newAt, newTo, Ne.symm n1, Ne.symm n2, Ne.symm n3, Ne.symm n4, Ne.symm n5, Ne.symm n6]
theorem cn_cell {p : List Txt} (hp : planB p = true) {i j : Nat} (hi : i < p.length) (hj : j < (hdRow p).length) : (cn (gP p) i j : Int) = cellZ p i j := by
  have hN := plan_named hp
  have := hN.room hi hj
  unfold cn
  rw [hN.cell hi hj]; omega
theorem plan_pl {p : List Txt} (hp : plainB p = true) : Pl (cn (gP p)) p.length (hdRow p).length := by
  have hpl := plain_plan hp
  have hN := plan_named hpl
  have rect : ∀ {i j i' j' : Nat} (k l : Nat), i < p.length → i' < p.length → j < (hdRow p).length → j' < (hdRow p).length → cn (gP p) i j = cn (gP p) i' j' → min i i' ≤ k → k ≤ max i i' → min j j' ≤ l → l ≤ max j j' → cn (gP p) k l = cn (gP p) i j := by
    intro i j i' j' k l h1 h2 h3 h4 e h5 h6 h7 h8
    have e1 := cn_cell hpl h1 h3
    have e2 := cn_cell hpl h2 h4
    have e3 := cn_cell hpl (show k < p.length by omega) (show l < (hdRow p).length by omega)
    obtain ⟨b, hb, q1, -, c1⟩ := plan_rect hpl h1 h3
    obtain ⟨b', hb', q2, -, -⟩ := plan_rect hpl h2 h4
    have e4 : cellZ p i j = cellZ p i' j' := by omega
    rw [e4, hb'] at hb
    obtain rfl := Option.some.inj hb
    have q3 : inB b' k l = true := by
      unfold inB at q1 q2 ⊢
      simp only [Bool.and_eq_true, decide_eq_true_eq] at q1 q2 ⊢
      omega
    have := c1 k l (by omega) (by omega) q3
    omega
  refine ⟨rect, fun {i j} h1 h2 n1 n2 n3 => Classical.byContradiction fun n4 => ?_⟩
  have h0 : points p 4 = 0 := by
    unfold plainB at hp
    simp only [Bool.and_eq_true, decide_eq_true_eq] at hp
    exact hp.2
  have hno := ptsRow_no (ptsTo_no h0 (i + 1) (by omega) h1) (j + 1) (by omega) h2
  have n5 : cn (gP p) i j ≠ cn (gP p) (i + 1) (j + 1) := by
    intro e
    exact n1 (rect i (j + 1) (by omega) h1 (by omega) h2 e (by omega) (by omega) (by omega) (by omega)).symm
  have n6 : cn (gP p) i (j + 1) ≠ cn (gP p) (i + 1) j := by
    intro e
    exact n1 (rect i j (by omega) h1 h2 (by omega) e (by omega) (by omega) (by omega) (by omega))
  have c1 := cn_cell hpl (show i < p.length by omega) (show j < (hdRow p).length by omega)
  have c2 := cn_cell hpl (show i < p.length by omega) h2
  have c3 := cn_cell hpl h1 (show j < (hdRow p).length by omega)
  have c4 := cn_cell hpl h1 h2
  exact hno (meets_four hN.hg h1 h2 (by omega) (by omega) (by omega) (by omega) (by omega) (by omega))
theorem room_cell {p : List Txt} {a : Nat} (ha : a < (rP p).length) : ∃ i j, i < p.length ∧ j < (hdRow p).length ∧ cn (gP p) i j = a := by
  have hi := keys_inv p
  obtain ⟨b, hb, -⟩ := get_of ha
  obtain ⟨v, hv, -⟩ := get_of (show a < (keys p).length by rw [← hi.len]; exact ha)
  obtain ⟨i, j, ⟨hz, hj, hij⟩, -⟩ := (hi.hull a v b hv hb).at_
  have hi2 : i < p.length := by omega
  refine ⟨i, j, hi2, hj, ?_⟩
  unfold cn
  rw [gP_at hi2 hj, hz, Int.toNat_natCast]
  have hlt : ¬ (keys p).idxOf v = (keys p).length := by
    have := List.idxOf_lt_length_iff.2 (List.mem_of_getElem? hv)
    omega
  exact nodup_one hi.nd (idxOf_mem hlt) hv

/-- The orders of a plan. -/
def lfM (p : List Txt) : List (List Bool) := leftG (gP p) p.length (hdRow p).length (rP p).length
def abM (p : List Txt) : List (List Bool) := aboveG (gP p) p.length (hdRow p).length (rP p).length
def Lf (p : List Txt) (a b : Nat) : Prop := getB (lfM p) a b = true
def Ab (p : List Txt) (a b : Nat) : Prop := getB (abM p) a b = true
section
variable {p : List Txt} {a b d : Nat}
theorem Lf.iff (ha : a < (rP p).length) (hb : b < (rP p).length) : Lf p a b ↔ TC (DL (cn (gP p)) p.length (hdRow p).length) a b := left_tc gP_room ha hb
theorem Ab.iff (ha : a < (rP p).length) (hb : b < (rP p).length) : Ab p a b ↔ TC (DU (cn (gP p)) p.length (hdRow p).length) a b := above_tc gP_room ha hb
theorem Lf.trans (ha : a < (rP p).length) (hb : b < (rP p).length) (hd : d < (rP p).length) (h : Lf p a b) (k : Lf p b d) : Lf p a d := by
  rw [Lf.iff ha hd]; exact ((Lf.iff ha hb).1 h).trans ((Lf.iff hb hd).1 k)
theorem Ab.trans (ha : a < (rP p).length) (hb : b < (rP p).length) (hd : d < (rP p).length) (h : Ab p a b) (k : Ab p b d) : Ab p a d := by
  rw [Ab.iff ha hd]; exact ((Ab.iff ha hb).1 h).trans ((Ab.iff hb hd).1 k)
/-- Two ways to put all rooms in a row. -/
theorem plan_orders (hp : plainB p = true) : ∃ f g : Nat → Nat, ∀ a b, a < (rP p).length → b < (rP p).length → (Lf p a b → f a < f b ∧ g a < g b) ∧ (Ab p a b → f a < f b ∧ g b < g a) := by
  have hpl := plan_pl hp
  obtain ⟨f, hf⟩ := order_ex hpl (n := (rP p).length) (fun i j hi hj => cn_lt gP_room hi hj)
  obtain ⟨g, hg⟩ := order_ex2 hpl (n := (rP p).length) (fun i j hi hj => cn_lt gP_room hi hj)
  refine ⟨f, g, fun a b ha hb => ⟨fun h => ?_, fun h => ?_⟩⟩
  · rw [Lf.iff ha hb] at h
    exact ⟨h.rise fun a b k => hf a b (.inl k), h.rise fun a b k => hg a b (.inl k)⟩
  · rw [Ab.iff ha hb] at h
    exact ⟨h.rise fun a b k => hf a b (.inr k), (h.rev (S := fun x y => DU (cn (gP p)) p.length (hdRow p).length y x) fun _ _ k => k).rise fun a b k => hg a b (.inr k)⟩
theorem Lf.only (hp : plainB p = true) (ha : a < (rP p).length) (hb : b < (rP p).length) (h : Lf p a b) : ¬ Lf p b a ∧ ¬ Ab p a b ∧ ¬ Ab p b a := by
  obtain ⟨f, g, k⟩ := plan_orders hp
  have h1 := (k a b ha hb).1 h
  refine ⟨fun q => ?_, fun q => ?_, fun q => ?_⟩
  · have := (k b a hb ha).1 q; omega
  · have := (k a b ha hb).2 q; omega
  · have := (k b a hb ha).2 q; omega
theorem Ab.only (hp : plainB p = true) (ha : a < (rP p).length) (hb : b < (rP p).length) (h : Ab p a b) : ¬ Ab p b a ∧ ¬ Lf p a b ∧ ¬ Lf p b a := by
  obtain ⟨f, g, k⟩ := plan_orders hp
  have h1 := (k a b ha hb).2 h
  refine ⟨fun q => ?_, fun q => ?_, fun q => ?_⟩
  · have := (k b a hb ha).2 q; omega
  · have := (k a b ha hb).1 q; omega
  · have := (k b a hb ha).1 q; omega
theorem order_some (hp : plainB p = true) (ha : a < (rP p).length) (hb : b < (rP p).length) (hne : a ≠ b) : Lf p a b ∨ Lf p b a ∨ Ab p a b ∨ Ab p b a := by
  obtain ⟨i, j, h1, h2, e1⟩ := room_cell ha
  obtain ⟨k, l, h3, h4, e2⟩ := room_cell hb
  have := total_ex (plan_pl hp) h1 h2 h3 h4 (by rw [e1, e2]; exact hne)
  rw [e1, e2] at this
  rw [Lf.iff ha hb, Lf.iff hb ha, Ab.iff ha hb, Ab.iff hb ha]
  exact this
end
end Fw
end Go.Proofs.YtcglmbijpjhbmaaGreat

/-! Rooms put in a row by how many are ahead of them. -/
namespace Go.Proofs.YtcglmbijpjhbmaaGreat
namespace Fw
open Go

/-- One place for each room. -/
def putAll (ah : Nat → Nat) (n : Nat) : Nat → List Int
  | 0 => List.replicate n 0
  | a + 1 => (putAll ah n a).set (ah a) (a : Int)
theorem putAll_len {ah : Nat → Nat} {n : Nat} : ∀ k, (putAll ah n k).length = n
  | 0 => by simp [putAll]
  | k + 1 => by simp [putAll, putAll_len k]
theorem putAll_at {ah : Nat → Nat} {n : Nat} (hn : ∀ a, a < n → ah a < n) (hi : ∀ a b, a < n → b < n → ah a = ah b → a = b) : ∀ k, k ≤ n → ∀ a, a < k → (putAll ah n k)[ah a]? = some (a : Int)
  | 0, _, a, h => by omega
  | k + 1, hk, a, h => by
    unfold putAll
    rw [List.getElem?_set, putAll_len]
    by_cases e : a = k
    · subst e; rw [if_pos rfl, if_pos (hn a (by omega))]
    · rw [if_neg fun q => e (hi a k (by omega) (by omega) q.symm)]
      exact putAll_at hn hi k (by omega) a (by omega)
/-- The numbers of the rooms. -/
def rooms (n : Nat) : List Int := (List.range n).map fun i : Nat => (i : Int)
theorem rooms_len {n : Nat} : (rooms n).length = n := by simp [rooms]
theorem mem_rooms {n : Nat} {x : Int} : x ∈ rooms n ↔ 0 ≤ x ∧ x < n := by
  unfold rooms
  rw [List.mem_map]
  constructor
  · rintro ⟨i, hi, rfl⟩; simp at hi; omega
  · rintro ⟨h1, h2⟩; exact ⟨x.toNat, by simp; omega, by omega⟩
theorem rooms_at {n i : Nat} (h : i < n) : (rooms n)[i]? = some (i : Int) := by simp [rooms, h]
theorem rooms_succ {n : Nat} : rooms (n + 1) = rooms n ++ [(n : Int)] := by simp [rooms, List.range_succ]

/-- In a list that goes up, as many are less than a member as stand ahead of it. -/
theorem sorted_idx {z : List Int} {g : Int → Int} (hs : (z.map g).Pairwise (· ≤ ·)) (hd : ∀ (i j : Nat) x y, z[i]? = some x → z[j]? = some y → g x = g y → i = j) {i : Nat} {x : Int} (hx : z[i]? = some x) : z.countP (fun y => decide (g y < g x)) = i := by
  have hil := len_of hx
  have hp := List.pairwise_iff_getElem.1 hs
  have lt : ∀ (a b : Nat) u v, z[a]? = some u → z[b]? = some v → a < b → g u < g v := by
    intro a b u v hu hv hab
    have h1 := len_of hu
    have h2 := len_of hv
    have h3 := hp a b (by simpa using h1) (by simpa using h2) hab
    simp only [List.getElem_map] at h3
    rw [List.getElem?_eq_getElem h1] at hu
    rw [List.getElem?_eq_getElem h2] at hv
    cases hu; cases hv
    rcases Int.lt_or_le (g z[a]) (g z[b]) with q | q
    · exact q
    · have e := hd a b _ _ (List.getElem?_eq_getElem h1) (List.getElem?_eq_getElem h2) (by omega)
      omega
  have e : z = z.take i ++ z.drop i := (List.take_append_drop i z).symm
  have c1 : (z.take i).countP (fun y => decide (g y < g x)) = i := by
    rw [List.countP_eq_length.2]
    · rw [List.length_take]; omega
    · intro y hy
      obtain ⟨j, hj⟩ := List.mem_iff_getElem?.1 hy
      rw [List.getElem?_take] at hj
      split at hj
      · exact decide_eq_true (lt j i y x hj hx (by assumption))
      · cases hj
  have c2 : (z.drop i).countP (fun y => decide (g y < g x)) = 0 := by
    rw [List.countP_eq_zero]
    intro y hy
    obtain ⟨j, hj⟩ := List.mem_iff_getElem?.1 hy
    rw [List.getElem?_drop] at hj
    by_cases q : j = 0
    · subst q; rw [Nat.add_zero, hx] at hj; cases hj; simp
    · have := lt i (i + j) x y hx hj (by omega)
      simp; omega
  rw [e, List.countP_append, c1, c2, Nat.add_zero]
theorem countP_rooms {f : Int → Bool} : ∀ n, (rooms n).countP f = (List.range n).countP fun a : Nat => f (a : Int)
  | 0 => rfl
  | n + 1 => by rw [rooms_succ, List.range_succ, List.countP_append, List.countP_append, countP_rooms n]; rfl
theorem rooms_nodup {n : Nat} : ∀ (i j : Nat) x, (rooms n)[i]? = some x → (rooms n)[j]? = some x → i = j := by
  intro i j x hi hj
  have h1 := len_of hi
  have h2 := len_of hj
  rw [rooms_len] at h1 h2
  rw [rooms_at h1] at hi
  rw [rooms_at h2] at hj
  cases hi; cases hj; rfl
theorem nodup_get {z : List Int} (h : z.Nodup) {i j : Nat} (hi : i < z.length) (hj : j < z.length) (e : z[i] = z[j]) : i = j := by
  unfold List.Nodup at h
  rw [List.pairwise_iff_getElem] at h
  rcases Nat.lt_trichotomy i j with q | q | q
  · exact absurd e (h i j hi hj q)
  · exact q
  · exact absurd e.symm (h j i hj hi q)
theorem nodup_rooms (n : Nat) : (rooms n).Nodup := by
  unfold List.Nodup
  rw [List.pairwise_iff_getElem]
  intro i j hi hj hij e
  have := rooms_nodup i j _ (List.getElem?_eq_getElem hi) (e ▸ List.getElem?_eq_getElem hj)
  omega

section
variable {n : Nat} {f : Nat → Nat}
theorem ahead_inj (hf : ∀ a b, a < n → b < n → f a = f b → a = b) {a b : Nat} (ha : a < n) (hb : b < n) (h : ahead n f a = ahead n f b) : a = b := by
  rcases Nat.lt_trichotomy (f a) (f b) with q | q | q
  · have := ahead_lt (n := n) ha q; omega
  · exact hf a b ha hb q
  · have := ahead_lt (n := n) hb q; omega
/-- The rooms in order are put at their places. -/
theorem sorted_put (hf : ∀ a b, a < n → b < n → f a = f b → a = b) {z : List Int} (hp : z.Perm (rooms n)) (hs : (z.map fun x => ((f x.toNat : Nat) : Int)).Pairwise (· ≤ ·)) : z = putAll (ahead n f) n n := by
  have hl := hp.length_eq
  rw [rooms_len] at hl
  have hm : ∀ x ∈ z, 0 ≤ x ∧ x < n := fun x hx => mem_rooms.1 (hp.mem_iff.1 hx)
  have hd : ∀ (i j : Nat) x y, z[i]? = some x → z[j]? = some y → ((f x.toNat : Nat) : Int) = ((f y.toNat : Nat) : Int) → i = j := by
    intro i j x y hx hy e
    have h1 := hm x (List.mem_of_getElem? hx)
    have h2 := hm y (List.mem_of_getElem? hy)
    have e2 := hf x.toNat y.toNat (by omega) (by omega) (by omega)
    have e3 : x = y := by omega
    subst e3
    have hnd : z.Nodup := hp.nodup_iff.2 (nodup_rooms n)
    have hi := len_of hx
    have hj := len_of hy
    rw [List.getElem?_eq_getElem hi] at hx
    rw [List.getElem?_eq_getElem hj] at hy
    exact nodup_get hnd hi hj ((Option.some.inj hx).trans (Option.some.inj hy).symm)
  apply List.ext_getElem?
  intro i
  by_cases hi : i < n
  · obtain ⟨x, hx, hxm⟩ := get_of (show i < z.length by omega)
    have h1 := hm x hxm
    have e := sorted_idx hs hd hx
    rw [hp.countP_eq, countP_rooms] at e
    have e2 : ahead n f x.toNat = i := by
      unfold ahead
      rw [← e]
      apply List.countP_congr
      intro a ha
      simp
    have := putAll_at (fun a ha => ahead_n (rk := f) ha) (fun a b ha hb h => ahead_inj hf ha hb h) n (Nat.le_refl _) x.toNat (by omega)
    rw [e2] at this
    rw [hx, this, show ((x.toNat : Nat) : Int) = x by omega]
  · rw [List.getElem?_eq_none (by omega), List.getElem?_eq_none (by rw [putAll_len]; omega)]
end
/-- Which room is ahead of which in the first order, and in the second one. -/
def bf1 (p : List Txt) (a b : Nat) : Bool := getB (lfM p) a b || getB (abM p) a b
def bf2 (p : List Txt) (a b : Nat) : Bool := getB (lfM p) a b || getB (abM p) b a
def bfK (p : List Txt) (below : Bool) (a b : Nat) : Bool := if below then bf2 p a b else bf1 p a b
def ahK (p : List Txt) (below : Bool) (a : Nat) : Nat := (List.range (rP p).length).countP fun b => bfK p below b a
theorem bf_rank {p : List Txt} (hp : plainB p = true) (below : Bool) : ∃ f : Nat → Nat, (∀ a b, a < (rP p).length → b < (rP p).length → (bfK p below a b = true ↔ f a < f b)) ∧ ∀ a b, a < (rP p).length → b < (rP p).length → f a = f b → a = b := by
  obtain ⟨f, g, hfg⟩ := plan_orders hp
  have tot := fun a b ha hb hne => order_some (a := a) (b := b) hp ha hb hne
  cases below with
  | false =>
    have h1 : ∀ a b, a < (rP p).length → b < (rP p).length → bfK p false a b = true → f a < f b := by
      intro a b ha hb h
      simp only [bfK, bf1, Bool.false_eq_true, if_false, Bool.or_eq_true] at h
      rcases h with h | h
      · exact ((hfg a b ha hb).1 h).1
      · exact ((hfg a b ha hb).2 h).1
    have h2 : ∀ a b, a < (rP p).length → b < (rP p).length → a ≠ b → bfK p false a b = true ∨ bfK p false b a = true := by
      intro a b ha hb hne
      simp only [bfK, bf1, Bool.false_eq_true, if_false, Bool.or_eq_true]
      rcases tot a b ha hb hne with h | h | h | h
      · exact .inl (.inl h)
      · exact .inr (.inl h)
      · exact .inl (.inr h)
      · exact .inr (.inr h)
    have h3 : ∀ a b, a < (rP p).length → b < (rP p).length → f a = f b → a = b := by
      intro a b ha hb e
      refine Classical.byContradiction fun hne => ?_
      rcases h2 a b ha hb hne with h | h
      · have := h1 a b ha hb h; omega
      · have := h1 b a hb ha h; omega
    refine ⟨f, fun a b ha hb => ⟨h1 a b ha hb, fun h => ?_⟩, h3⟩
    rcases h2 a b ha hb (by rintro rfl; omega) with k | k
    · exact k
    · have := h1 b a hb ha k; omega
  | true =>
    have h1 : ∀ a b, a < (rP p).length → b < (rP p).length → bfK p true a b = true → g a < g b := by
      intro a b ha hb h
      simp only [bfK, bf2, if_true, Bool.or_eq_true] at h
      rcases h with h | h
      · exact ((hfg a b ha hb).1 h).2
      · exact ((hfg b a hb ha).2 h).2
    have h2 : ∀ a b, a < (rP p).length → b < (rP p).length → a ≠ b → bfK p true a b = true ∨ bfK p true b a = true := by
      intro a b ha hb hne
      simp only [bfK, bf2, if_true, Bool.or_eq_true]
      rcases tot a b ha hb hne with h | h | h | h
      · exact .inl (.inl h)
      · exact .inr (.inl h)
      · exact .inr (.inr h)
      · exact .inl (.inr h)
    have h3 : ∀ a b, a < (rP p).length → b < (rP p).length → g a = g b → a = b := by
      intro a b ha hb e
      refine Classical.byContradiction fun hne => ?_
      rcases h2 a b ha hb hne with h | h
      · have := h1 a b ha hb h; omega
      · have := h1 b a hb ha h; omega
    refine ⟨g, fun a b ha hb => ⟨h1 a b ha hb, fun h => ?_⟩, h3⟩
    rcases h2 a b ha hb (by rintro rfl; omega) with k | k
    · exact k
    · have := h1 b a hb ha k; omega
theorem ahK_is {p : List Txt} {below : Bool} {f : Nat → Nat} (hf : ∀ a b, a < (rP p).length → b < (rP p).length → (bfK p below a b = true ↔ f a < f b)) {a : Nat} (ha : a < (rP p).length) : ahK p below a = ahead (rP p).length f a := by
  unfold ahK ahead
  apply List.countP_congr
  intro b hb
  rw [hf b a (by simpa using hb) ha]; simp
theorem putAll_congr {f g : Nat → Nat} {n : Nat} : ∀ k, (∀ a, a < k → f a = g a) → putAll f n k = putAll g n k
  | 0, _ => rfl
  | k + 1, h => by unfold putAll; rw [putAll_congr k fun a ha => h a (by omega), h k (by omega)]
/-- The rooms of a plan in one of the two orders. -/
def srt (p : List Txt) (below : Bool) : List Int := putAll (ahK p below) (rP p).length (rP p).length
theorem srt_len {p : List Txt} {below : Bool} : (srt p below).length = (rP p).length := putAll_len _
theorem srt_is {p : List Txt} {below : Bool} {f : Nat → Nat} (hf : ∀ a b, a < (rP p).length → b < (rP p).length → (bfK p below a b = true ↔ f a < f b)) (hi : ∀ a b, a < (rP p).length → b < (rP p).length → f a = f b → a = b)
    {z : List Int} (hz : z.Perm (rooms (rP p).length)) (hs : (z.map fun x => ((f x.toNat : Nat) : Int)).Pairwise (· ≤ ·)) : z = srt p below := by
  rw [sorted_put hi hz hs]
  exact (putAll_congr _ fun a ha => ahK_is hf ha).symm
end Fw
end Go.Proofs.YtcglmbijpjhbmaaGreat

/-! Points of the program, gone through. -/
namespace Go.Proofs.YtcglmbijpjhbmaaGreat
namespace Fw
open Go

theorem compact4_ev {v t : Nat} {z : List Int} (hz : z.length = 4) : Ev Tryz.prog 129 [.loc 0 v 0 4] ⟨[.arr v 3 1 (z.map (.int .i64))], t⟩ fun r S => ∃ y : List Int, r = .loc 0 v 0 (ddp z).length ∧ S = ⟨[.arr v 3 1 ((ddp z ++ y).map (.int .i64))], t⟩ := by
  have h := compact_ev (F := []) (R := []) (ver := v) (t := t) (l := z) (by omega)
  rw [hz] at h
  exact h

theorem points_pc {g : List (List Int)} {nh nw : Nat} (hg : GW g nh nw) (rs : List Rect) (many : Int) : PC Tryz.prog 144 [eFloor g rs, .int .i64 many] (.int .i64 (ptsG g many nw nh)) true := by
  have hl := hg.1
  obtain ⟨hg1, hg2, hg3, hg4⟩ := hg.2.2
  obtain ⟨row0, hrow0, hrl0, -⟩ := hg.at_ (i := 0) (j := 0) (by omega) (by omega)
  refine PC.of ⟨Tryz.func144, by kernel_rfl, rfl, by kernel_rfl⟩ tabOk mixed (by show 2 ≤ Tryz.f144.ntmps; decide) ?_
  refine W.seq_region fun K hK => ?_
  simp (disch := omega) only [↓RU, RV, RH, ↓reduceIte, Nat.reduceEqDiff, reduceCtorEq, if_pos, ↓RS, RG, Nat.reduceAdd, Nat.reduceMul, Nat.reduceLeDiff]
  refine hK _ _ ?_
  clear hK K
  refine W.seq_region fun K hK => ?_
  simp (disch := omega) only [↓RU, RV, RH, ↓reduceIte, Nat.reduceEqDiff, reduceCtorEq, if_pos, ↓RS, RG, Nat.reduceAdd, Nat.reduceMul, Nat.reduceLeDiff]
  refine hK _ _ ?_
  clear hK K
  refine W.seq ?_
  refine W.seq_region fun K hK => ?_
  simp (disch := omega) only [↓RU, RV, RH, ↓reduceIte, Nat.reduceEqDiff, reduceCtorEq, if_pos, ↓RS, RG, Nat.reduceAdd, Nat.reduceMul, Nat.reduceLeDiff]
  refine hK _ _ ?_
  clear hK K
  refine W.block ?_
  refine W.loop [0, 1, 5, 6] (fun n vs S => ∃ i t : Nat, n = nh - i ∧ i ≤ nh ∧ (1 ≤ i) ∧ vs = [eFloor g rs, .int .i64 many, .int .i64 (ptsG g many nw i), .int .i64 (i : Nat)] ∧ S = ⟨[], t⟩) (nh - 1) ?_ ?_
  · refine ⟨0, 1, _, rfl, by omega, Nat.le_refl _, ?_, rfl⟩
    simp [Env.put, Env.of, argEnv, ptsG_one]
  rintro n vs S - ⟨i, t, rfl, h_i, h1i, rfl, rfl⟩
  refine W.seq ?_
  refine W.seq_region fun K hK => ?_
  simp (disch := omega) only [↓RU, RV, RH, ↓reduceIte, Nat.reduceEqDiff, reduceCtorEq, if_pos, List.append_nil, w64, ↓RS, RG, Nat.reduceAdd, Nat.reduceMul, Nat.reduceLeDiff, tyint, hl]
  refine CallR.pc (high_pc g rs) rfl (.inl rfl) ?_
  simp (disch := omega) only [↓RU, RV, RH, ↓reduceIte, Nat.reduceEqDiff, reduceCtorEq, if_pos, List.append_nil, w64, ↓RS, RG, Nat.reduceAdd, Nat.reduceMul, Nat.reduceLeDiff, tyint, hl]
  refine hK _ _ ?_
  clear hK K
  refine W.cond rfl (fun h => ?_) (fun h => ?_)
  · try simp only [RL] at h
    have hpb := ptsG_bound g many hg4 i
    refine W.skip ?_
    refine XThen.norm ?_
    refine W.seq ?_
    refine W.block ?_
    refine W.seq_region fun K hK => ?_
    simp (disch := omega) only [↓RU, RV, RH, ↓reduceIte, Nat.reduceEqDiff, reduceCtorEq, if_pos, ↓RS, RG, Nat.reduceAdd, Nat.reduceMul, Nat.reduceLeDiff]
    refine hK _ _ ?_
    clear hK K
    refine W.block ?_
    refine W.loop [0, 1, 5, 6, 7] (fun n vs S => ∃ k t : Nat, n = nw - k ∧ k ≤ nw ∧ (1 ≤ k) ∧ vs = [eFloor g rs, .int .i64 many, .int .i64 (ptsG g many nw i + ptsRowG g many i k), .int .i64 (i : Nat), .int .i64 (k : Nat)] ∧ S = ⟨[], t⟩) (nw - 1) ?_ ?_
    · refine ⟨0, 1, _, rfl, by omega, Nat.le_refl _, ?_, rfl⟩
      simp [Env.put, Env.of, ptsRowG_one]
    rintro n vs S - ⟨k, t, rfl, h_k, h1k, rfl, rfl⟩
    refine W.seq ?_
    refine W.seq_region fun K hK => ?_
    simp (disch := omega) only [↓RU, RV, RH, ↓reduceIte, Nat.reduceEqDiff, reduceCtorEq, if_pos, List.append_nil, w64, ↓RS, RG, Nat.reduceAdd, Nat.reduceMul, Nat.reduceLeDiff, tyint, hrl0]
    refine CallR.pc (wide_pc hrow0 rs) rfl (.inl rfl) ?_
    simp (disch := omega) only [↓RU, RV, RH, ↓reduceIte, Nat.reduceEqDiff, reduceCtorEq, if_pos, List.append_nil, w64, ↓RS, RG, Nat.reduceAdd, Nat.reduceMul, Nat.reduceLeDiff, tyint, hrl0]
    refine hK _ _ ?_
    clear hK K
    refine W.cond rfl (fun h1 => ?_) (fun h1 => ?_)
    · try simp only [RL] at h1
      have hrb := ptsRowG_bound g many i k
      obtain ⟨r1, hr1, hl1, hx1⟩ := hg.at_ (i := i - 1) (j := k - 1) (by omega) (by omega)
      obtain ⟨r1b, hr1b, -, hx2⟩ := hg.at_ (i := i - 1) (j := k) (by omega) (by omega)
      obtain ⟨r2, hr2, hl2, hx3⟩ := hg.at_ (i := i) (j := k - 1) (by omega) (by omega)
      obtain ⟨r2b, hr2b, -, hx4⟩ := hg.at_ (i := i) (j := k) (by omega) (by omega)
      obtain rfl : r1 = r1b := by rw [hr1] at hr1b; exact Option.some.inj hr1b
      obtain rfl : r2 = r2b := by rw [hr2] at hr2b; exact Option.some.inj hr2b
      refine W.skip ?_
      refine XThen.norm ?_
      refine W.seq ?_
      refine W.block ?_
      refine W.seq_draw (by kernel_rfl) fun K hK => ?_
      simp (disch := omega) only [↓RU, RV, RH, ↓reduceIte, Nat.reduceEqDiff, reduceCtorEq, if_pos, w64, ↓RS, RG, Nat.reduceAdd, Nat.reduceMul, Nat.reduceLeDiff, tyLLint, tyLimpl_rect, tyLint, tyimpl_floor, tyimpl_grid, tyimpl_rect, tyint, tystruct_cells_impl_grid_rooms_Limpl_rect_, tystruct_row_int_col_int_high_int_wide_int_, hr1, hx1, hx2, hr2, hx3, hx4, toNat_pred]
      refine hK _ _ ?_
      clear hK K
      refine W.seq_region fun K hK => ?_
      simp (disch := omega) only [↓RU, RV, RH, ↓reduceIte, Nat.reduceEqDiff, reduceCtorEq, if_pos, List.append_nil, ↓RS, RG, Nat.reduceAdd, Nat.reduceMul, Nat.reduceLeDiff]
      refine CallR.ev (sort_ev (F := []) (R := []) (l := four g i k) rfl) ?_
      rintro _ _ ⟨rfl, z, hz1, hz2, rfl⟩
      simp (disch := omega) only [↓RU, RV, RH, ↓reduceIte, Nat.reduceEqDiff, reduceCtorEq, if_pos, List.append_nil, ↓RS, RG, Nat.reduceAdd, Nat.reduceMul, Nat.reduceLeDiff]
      refine hK _ _ ?_
      clear hK K
      have hz4 : z.length = 4 := hz1.length_eq
      have hdn := ddp_dn hz1 hz2
      refine W.seq_region fun K hK => ?_
      simp (disch := omega) only [↓RU, RV, RH, ↓reduceIte, Nat.reduceEqDiff, reduceCtorEq, if_pos, List.append_nil, w64, ↓RS, RG, Nat.reduceAdd, Nat.reduceMul, Nat.reduceLeDiff, tyLint, tyint, hdn]
      refine CallR.ev (compact4_ev hz4) ?_
      rintro _ _ ⟨y, rfl, rfl⟩
      simp (disch := omega) only [↓RU, RV, RH, ↓reduceIte, Nat.reduceEqDiff, reduceCtorEq, if_pos, List.append_nil, w64, ↓RS, RG, Nat.reduceAdd, Nat.reduceMul, Nat.reduceLeDiff, tyLint, tyint, hdn]
      refine hK _ _ ?_
      clear hK K
      refine W.cond rfl (fun h2 => ?_) (fun h2 => ?_)
      · try simp only [RL] at h2
        refine W.region_k fun K hK => ?_
        simp (disch := omega) only [↓RU, RV, RH, ↓reduceIte, Nat.reduceEqDiff, reduceCtorEq, if_pos, w64, ↓RS, RG, Nat.reduceAdd, Nat.reduceMul, Nat.reduceLeDiff, tyint]
        refine hK _ _ ?_
        clear hK K
        refine XBlock.norm ?_
        refine XThen.norm ?_
        refine W.region_k fun K hK => ?_
        simp (disch := omega) only [↓RU, RV, RH, ↓reduceIte, Nat.reduceEqDiff, reduceCtorEq, if_pos, w64, ↓RS, RG, Nat.reduceAdd, Nat.reduceMul, Nat.reduceLeDiff, tyint]
        refine hK _ _ ?_
        clear hK K
        refine XThen.norm ?_
        refine ⟨nw - (k + 1), by omega, 0, k + 1, _, rfl, by omega, by omega, ?_, rfl⟩
        simp [Env.put, Env.of, ptsRowG_hit h1k h2, Int.add_assoc]
      · try simp only [RL] at h2
        refine W.skip ?_
        refine XBlock.norm ?_
        refine XThen.norm ?_
        refine W.region_k fun K hK => ?_
        simp (disch := omega) only [↓RU, RV, RH, ↓reduceIte, Nat.reduceEqDiff, reduceCtorEq, if_pos, w64, ↓RS, RG, Nat.reduceAdd, Nat.reduceMul, Nat.reduceLeDiff, tyint]
        refine hK _ _ ?_
        clear hK K
        refine XThen.norm ?_
        refine ⟨nw - (k + 1), by omega, 0, k + 1, _, rfl, by omega, by omega, ?_, rfl⟩
        simp [Env.put, Env.of, ptsRowG_miss h2, Int.add_assoc]
    · try simp only [RL] at h1
      obtain rfl : nw = k := by omega
      refine W.exit ?_
      refine XThen.exit ?_
      refine XThen.exit ?_
      refine XBlock.hit ?_
      refine XBlock.norm ?_
      refine XThen.norm ?_
      refine W.region_k fun K hK => ?_
      simp (disch := omega) only [↓RU, RV, RH, ↓reduceIte, Nat.reduceEqDiff, reduceCtorEq, if_pos, w64, ↓RS, RG, Nat.reduceAdd, Nat.reduceMul, Nat.reduceLeDiff, tyint]
      refine hK _ _ ?_
      clear hK K
      refine XThen.norm ?_
      refine ⟨nh - (i + 1), by omega, 0, i + 1, _, rfl, by omega, by omega, ?_, rfl⟩
      simp [Env.put, Env.of, ptsG_succ h1i]
  · try simp only [RL] at h
    obtain rfl : nh = i := by omega
    refine W.exit ?_
    refine XThen.exit ?_
    refine XThen.exit ?_
    refine XBlock.hit ?_
    refine XThen.norm ?_
    refine W.seq_region fun K hK => ?_
    simp (disch := omega) only [↓RU, RV, RH, ↓reduceIte, Nat.reduceEqDiff, reduceCtorEq, if_pos, ↓RS, RG, Nat.reduceAdd, Nat.reduceMul, Nat.reduceLeDiff]
    refine hK _ _ ?_
    clear hK K
    refine W.ret ?_
    refine BodyQ.ret rfl ?_
    rfl

theorem fplain_pc {g : List (List Int)} {nh nw : Nat} (hg : GW g nh nw) (rs : List Rect) : PC Tryz.prog 123 [eFloor g rs] (.bool (decide (ptsG g 4 nw nh = 0))) true := by
  refine PC.of ⟨Tryz.func123, by kernel_rfl, rfl, by kernel_rfl⟩ tabOk mixed (by show 1 ≤ Tryz.f123.ntmps; decide) ?_
  refine W.seq_region fun K hK => ?_
  simp (disch := omega) only [↓RU, RV, RH, ↓reduceIte, Nat.reduceEqDiff, reduceCtorEq, if_pos]
  refine hK _ _ ?_
  clear hK K
  refine W.seq_region fun K hK => ?_
  simp (disch := omega) only [↓RU, RV, RH, ↓reduceIte, Nat.reduceEqDiff, reduceCtorEq, if_pos, List.append_nil, w64, tyint]
  refine CallR.pc (points_pc hg rs 4) rfl (.inl rfl) ?_
  simp (disch := omega) only [↓RU, RV, RH, ↓reduceIte, Nat.reduceEqDiff, reduceCtorEq, if_pos, List.append_nil, w64, tyint]
  refine hK _ _ ?_
  clear hK K
  refine W.ret ?_
  refine BodyQ.ret rfl ?_
  rfl

end Fw
end Go.Proofs.YtcglmbijpjhbmaaGreat

/-! strings.Builder: copyCheck and String, in the model's own words. -/
namespace Go.Proofs.YtcglmbijpjhbmaaGreat
namespace Fw
open Go Go.RowKit

set_option maxHeartbeats 1000000 in
set_option maxRecDepth 100000 in
theorem copyCheck_used (b : Nat) (w : World) (h0 : w.cell? ⟨b, 0, none⟩ = some (.pointer (some ⟨b, 0, none⟩))) :
    Calls Tryz.prog 170 #[.pointer (some ⟨b, 0, none⟩)] w fun e w' => e = .returned (.tuple #[]) ∧ w' = w := by
  obtain ⟨j, d, z, hj, _⟩ := (tabOk 139 (by decide)).1
  go_enter Tryz.func170, Tryz.ntmps170
  go_wp2
  rw [Lib.run_neq_ptr_same w _ Tryz.underlying137 hj]
  go_wp2
  go_end0
  exact ⟨rfl, rfl⟩

theorem liesB (count : Nat) (hn : 1 ≤ count) : liesAt Tryz.prog Tryz.prog.depth 139 count 0 139 1 = true := by
  have hc : Tryz.prog.cellsOf 139 = 2 := by kernel_rfl
  have hd : Tryz.prog.depth = (2 * (Tryz.prog.types.size + Made.depth) + 1) + 1 := rfl
  rw [hd]
  simp only [liesAt, Bool.or_eq_true]
  left
  rw [hd]
  simp [rowAt, hc, hn, sameLayout]

set_option maxHeartbeats 1000000 in
set_option maxRecDepth 100000 in
theorem copyCheck_fresh (b n : Nat) (hn : 2 ≤ n) (w : World) (h0 : w.cell? ⟨b, 0, none⟩ = some (.pointer none)) (hsh : w.shape? b = some (139, n)) (hfz : w.frozen? ⟨b, 0, none⟩ = false) :
    Calls Tryz.prog 170 #[.pointer (some ⟨b, 0, none⟩)] w fun e w' => e = .returned (.tuple #[]) ∧ w' = w.setCell ⟨b, 0, none⟩ (.pointer (some ⟨b, 0, none⟩)) := by
  obtain ⟨j, d, z, hj, hd, hf, hsz, hby, hz, _⟩ := (tabOk 139 (by decide)).1
  have hjs : j.size ≠ 0 := by rw [hsz]; decide
  have hlies : liesAt Tryz.prog Tryz.prog.depth 139 (n / Tryz.prog.cellsOf 139) 0 139 1 = true := by
    rw [show Tryz.prog.cellsOf 139 = 2 by kernel_rfl]
    exact liesB _ (by omega)
  go_enter Tryz.func170, Tryz.ntmps170
  go_wp2
  rw [Lib.run_to_unsafe w ⟨b, 0, none⟩ Tryz.underlying137 Tryz.underlying174 hj hjs hsh (show 0 < n by omega)]
  simp only [Result.andThen]
  rw [Oper.upon_value]
  go_wp2
  rw [run_callFunc_extern Tryz.func180 (by kernel_rfl) (by kernel_rfl) (by kernel_rfl) (e := Extern.AbiNoEscape.same) (by kernel_rfl)]
  rw [Lib.run_noEscape]
  simp only [Result.andThen]
  rw [Oper.upon_value]
  go_wp2
  rw [Lib.run_from_unsafe w ⟨b, 0, none⟩ Tryz.underlying174 Tryz.underlying137 hj hsh hlies]
  simp only [Result.andThen]
  rw [Oper.upon_value]
  go_wp2
  go_end0
  exact ⟨rfl, rfl⟩

set_option maxHeartbeats 1000000 in
set_option maxRecDepth 100000 in
theorem builderString (b g cap : Nat) (cur : Array Value) (fz : Nat × Nat) (l : List UInt8) (w : World) (hbk : w.cell? ⟨b, 1, none⟩ = some (.slice (some ⟨g, 0, none⟩) l.length cap))
    (hg : w.heap[g]? = some (.cells cur 5 fz)) (hc : l.length ≤ cur.size) (hcap : cap ≠ 0) (h63 : l.length ≤ 9223372036854775807) (h0 : l ≠ [])
    (hl : ∀ (j : Nat) x, l[j]? = some x → cur[j]? = some (.int .u8 x.toNat)) :
    Calls Tryz.prog 142 #[.pointer (some ⟨b, 0, none⟩)] w fun e w' => e = .returned (.string ⟨l.toArray⟩) ∧ w' = w.drew.freeze ⟨g, 0, none⟩ l.length := by
  have c1 : w.drew.cell? ⟨b, 1, none⟩ = some (.slice (some ⟨g, 0, none⟩) l.length cap) := hbk
  have hSD : (Builtin.unsafeSliceData_ #[22] 163 #[.slice (some ⟨g, 0, none⟩) l.length cap]).run Tryz.prog w.drew = .ok (.pointer (some ⟨g, 0, none⟩)) w.drew :=
    Lib.run_unsafeSliceData_row _ _ _ _ _ _ hcap
  have hUS : (Builtin.unsafeString_ #[163, 3] 9 #[.pointer (some ⟨g, 0, none⟩), .int .i64 l.length]).run Tryz.prog w.drew = .ok (.string ⟨l.toArray⟩) (w.drew.freeze ⟨g, 0, none⟩ l.length) := by
    have hg' : w.drew.heap[g]? = some (.cells cur 5 fz) := hg
    refine Lib.run_unsafeString_row w.drew 163 3 9 5 Tryz.underlying163 (by kernel_rfl) g cur.size (by simp [World.shape?, hg']) l h0 hc h63 ?_
    intro j x hx
    by_cases hj : j = 0
    · subst hj; simp [World.cell?, Addr.add, hg', hl 0 x hx]
    · simp [World.cell?, Addr.add, hj, hg', hl j x hx]
  go_enter Tryz.func142, Tryz.ntmps142
  go_wp2
  go_region
  all_goals (go_wp2; go_ret; exact ⟨rfl, rfl⟩)

variable {F : Nat → Prop} {G : GSt} {w : World}

theorem copyCheck_ev {S : Store} {o ver : Nat} {c0 c1 : PV} (hS : S.obs[o]? = some (.arr ver 139 2 [c0, c1])) (h0 : c0 = .nilp ∨ c0 = .ref o ver 0) :
    Ev Tryz.prog 170 [.ref o ver 0] S fun v S' => v = .tup [] ∧ S' = ⟨S.obs.set o (.arr ver 139 2 [.ref o ver 0, c1]), S.tick⟩ := by
  refine ⟨Fn.ent ⟨Tryz.func170, by kernel_rfl, rfl, by kernel_rfl⟩, fun F G w cargs hE hi hl hv => ?_⟩
  subst hE
  obtain ⟨c, rfl⟩ : ∃ c, cargs = #[c] := by
    match cargs, hl with
    | ⟨[c]⟩, _ => exact ⟨c, rfl⟩
  have hco : G.er.cellsOf o ver = some [c0, c1] := by simp [Store.cellsOf, hS]
  obtain ⟨et, sz, l, hG, rfl, hver⟩ := (hv 0 _ c rfl rfl).ref_at hi hco
  obtain ⟨l2, hG2⟩ := er_get hS
  rw [hG] at hG2
  cases hG2
  obtain ⟨cs, ⟨fz, hb, hz⟩, hcs, hle, hcell⟩ := hi.arr o _ _ _ _ l hG
  obtain ⟨-, v0, hv0, hr0⟩ := hcell 0 c0 rfl
  obtain ⟨hc1, v1, hv1, hr1⟩ := hcell 1 c1 rfl
  have hle2 : 2 ≤ cs.size := by simp only [List.length_cons, List.length_nil] at hle; omega
  have hself : ∀ (G' : GSt), G.tick ≤ G'.tick → (∀ ob l', G'.obs[o]? = some (ob, l') → ob.ver = ver → ∃ et sz cells, ob = .arr ver et sz cells ∧ l' = l) → VR w.heap F G' (.ref o ver 0) (.pointer (some ⟨l.blk, 0, none⟩)) := by
    intro G' ht h
    refine .ref _ _ _ _ (Nat.lt_of_lt_of_le hver ht) fun ob l' h1 h2 => ?_
    obtain ⟨a, b, c, d, rfl⟩ := h ob l' h1 h2
    exact ⟨a, b, c, d, rfl⟩
  have hcell0 : w.cell? ⟨l.blk, 0, none⟩ = some v0 := by simp [World.cell?, hb, hv0]
  have put : ∀ w' : World, w'.os = w.os → w'.tape = w.tape → w'.output = w.output → w'.heap.size = w.heap.size → (∀ b, b ≠ l.blk → w'.heap[b]? = w.heap[b]?) →
      (∃ cs' : Array Value, w'.heap[l.blk]? = some (.cells cs' 139 fz) ∧ cs'.size = cs.size ∧ cs'[0]? = some (.pointer (some ⟨l.blk, 0, none⟩)) ∧ cs'[1]? = some v1) →
      Inv F ⟨G.obs.set o (.arr ver 139 2 [.ref o ver 0, c1], l), G.tick⟩ w' ∧ Next F G w F ⟨G.obs.set o (.arr ver 139 2 [.ref o ver 0, c1], l), G.tick⟩ w' := by
    rintro w' h1 h2 h3 h4 h5 ⟨cs', k1, k2, k3, k4⟩
    refine put_obj hi hG _ l G.tick w' h1 h2 h3 (by omega) (.inl rfl) (fun b _ hb => h5 b hb) (Nat.le_refl _) (show ver < G.tick from hver) (.inl ⟨rfl, by simp [Ob.like], rfl⟩) ?_
    refine ⟨cs', ⟨fz, k1, hz.of k2⟩, by omega, by simp; omega, ?_⟩
    rintro (_ | _ | i) p hp
    · simp at hp; subst hp
      exact ⟨rfl, _, k3, hself G (Nat.le_refl _) fun ob l' h1 h2 => by rw [hG] at h1; cases h1; exact ⟨_, _, _, rfl, rfl⟩⟩
    · simp at hp; subst hp
      exact ⟨hc1, v1, k4, hr1⟩
    · simp at hp
  have er : ∀ ob, (⟨G.obs.set o (ob, l), G.tick⟩ : GSt).er = ⟨G.er.obs.set o ob, G.er.tick⟩ := by intro ob; simp [GSt.er, List.map_set]
  rcases h0 with rfl | rfl
  · have hv0' : v0 = .pointer none := by cases hr0 with | imm _ _ h => cases h; rfl
    subst hv0'
    refine (copyCheck_fresh l.blk cs.size hle2 w hcell0 (by simp [World.shape?, hb]) (by obtain ⟨lo, hi'⟩ := fz; simp only [World.frozen?, hb, Bool.and_eq_false_iff, decide_eq_false_iff_not]; rcases hz with h | h <;> simp only at h <;> omega)).mono ?_
    rintro e w' ⟨rfl, rfl⟩
    obtain ⟨i1, n1⟩ := put (w.setCell ⟨l.blk, 0, none⟩ (.pointer (some ⟨l.blk, 0, none⟩))) rfl rfl rfl (by simp) (fun b hb => by simp [World.setCell, Array.getElem?_modify, Ne.symm hb])
      ⟨cs.setIfInBounds 0 (.pointer (some ⟨l.blk, 0, none⟩)), by simp [World.setCell, Array.getElem?_modify, hb], by simp, by rw [Array.getElem?_setIfInBounds, if_pos rfl, if_pos (by omega)], by simp [Array.getElem?_setIfInBounds, hv1]⟩
    exact ⟨_, _, F, _, rfl, ⟨rfl, er _⟩, i1, n1, .tup [] #[] rfl (by simp)⟩
  · have hv0' : v0 = .pointer (some ⟨l.blk, 0, none⟩) := by
      obtain ⟨_, _, l3, h1, h2, _⟩ := hr0.ref_at hi hco
      rw [hG] at h1; cases h1; exact h2
    subst hv0'
    refine (copyCheck_used l.blk w hcell0).mono ?_
    rintro e w' ⟨rfl, rfl⟩
    obtain ⟨i1, n1⟩ := put w' rfl rfl rfl rfl (fun _ _ => rfl) ⟨cs, hb, rfl, hv0, hv1⟩
    exact ⟨_, _, F, _, rfl, ⟨rfl, er _⟩, i1, n1, .tup [] #[] rfl (by simp)⟩

theorem builderString_ev {A : List Ob} {t ver vq : Nat} {c0 : PV} {l : Txt} (h0 : l ≠ []) :
    Ev Tryz.prog 142 [.ref A.length ver 0] ⟨A ++ [.arr ver 139 2 [c0, .loc (A.length + 1) vq 0 l.length], .arr vq 5 1 (l.map eB)], t⟩ fun v S' => v = .str l ∧ S' = ⟨A, t⟩ := by
  refine ⟨Fn.ent ⟨Tryz.func142, by kernel_rfl, rfl, by kernel_rfl⟩, fun F G w cargs hE hi hl hv => ?_⟩
  obtain ⟨c, rfl⟩ : ∃ c, cargs = #[c] := by
    match cargs, hl with
    | ⟨[c]⟩, _ => exact ⟨c, rfl⟩
  have hobs : G.er.obs = A ++ [.arr ver 139 2 [c0, .loc (A.length + 1) vq 0 l.length], .arr vq 5 1 (l.map eB)] := by rw [hE]
  have htk : G.tick = t := congrArg Store.tick hE
  have hSo : G.er.obs[A.length]? = some (.arr ver 139 2 [c0, .loc (A.length + 1) vq 0 l.length]) := by rw [hobs]; simp
  have hSq : G.er.obs[A.length + 1]? = some (.arr vq 5 1 (l.map eB)) := by rw [hobs]; simp
  obtain ⟨et, sz, lo, hGo, rfl, hver⟩ := (hv 0 _ c rfl rfl).ref_at hi (cells := [c0, .loc (A.length + 1) vq 0 l.length]) (by simp [Store.cellsOf, hSo])
  obtain ⟨lo2, hGo2⟩ := er_get hSo
  rw [hGo] at hGo2
  cases hGo2
  obtain ⟨lq, hGq⟩ := er_get hSq
  obtain ⟨cs, ⟨fo, hb, -⟩, hcs, hle, hcell⟩ := hi.arr _ _ _ _ _ lo hGo
  obtain ⟨cq, ⟨fq, hbq, -⟩, hcq, hleq, hcellq⟩ := hi.arr _ _ _ _ _ lq hGq
  obtain ⟨-, v0, hv0, hr0⟩ := hcell 0 c0 rfl
  obtain ⟨-, v1, hv1, hr1⟩ := hcell 1 _ rfl
  obtain ⟨_, _, lq2, cap, hGq2, rfl, _, hnc, hcm, hroom⟩ := hr1.loc_at hi (cells := l.map eB) (by simp [Store.cellsOf, hSq])
  rw [hGq] at hGq2
  cases hGq2
  have hl0 : l.length ≠ 0 := by simpa using h0
  have hc1 : w.cell? ⟨lo.blk, 1, none⟩ = some (.slice (some ⟨lq.blk, 0, none⟩) l.length cap) := by simp [World.cell?, hb, hv1]
  refine (builderString lo.blk lq.blk cap cq fq l w hc1 hbq (by simp at hleq; omega) (by omega) (by unfold maxLen at hcm; omega) h0 ?_).mono ?_
  · intro j x hx
    obtain ⟨-, v, k1, k2⟩ := hcellq j (eB x) (by simp [hx])
    rw [k1, k2.int]
  · rintro e w' ⟨rfl, rfl⟩
    have hoth : ∀ b, b ≠ lq.blk → (w.drew.freeze ⟨lq.blk, 0, none⟩ l.length).heap[b]? = w.heap[b]? := by
      intro b hb'
      show _ = w.drew.heap[b]?
      simp only [World.freeze, if_neg hl0, Array.getElem?_modify, Ne.symm hb', if_false]
    have hsz : (w.drew.freeze ⟨lq.blk, 0, none⟩ l.length).heap.size = w.heap.size := by
      show (w.drew.freeze ⟨lq.blk, 0, none⟩ l.length).heap.size = w.drew.heap.size
      simp only [World.freeze, if_neg hl0, Array.size_modify]
    have hos : ∀ w2 : World, (w2.freeze ⟨lq.blk, 0, none⟩ l.length).os = w2.os ∧ (w2.freeze ⟨lq.blk, 0, none⟩ l.length).tape = w2.tape ∧ (w2.freeze ⟨lq.blk, 0, none⟩ l.length).output = w2.output := by
      intro w2; simp [World.freeze, hl0]
    have nx : Next F G w F (G.take A.length) (w.drew.freeze ⟨lq.blk, 0, none⟩ l.length) :=
      ⟨(hos _).1, (hos _).2.1, (hos _).2.2, by omega, fun _ h => h, fun _ h => .inl h, fun o x h => .inr ⟨o, x, take_get h, rfl⟩, Nat.le_refl _,
        fun b _ hG => hoth b fun e => hG _ _ hGq e.symm, fun _ ob' _ h _ => ⟨ob', take_get h, rfl, Ob.like.refl _⟩⟩
    have tlt : ∀ (o : Nat) x, (G.take A.length).obs[o]? = some x → o < A.length := by
      intro o x hx
      have := (List.getElem?_eq_some_iff.1 hx).1
      simp only [GSt.take, List.length_take] at this; omega
    refine ⟨.str l, _, F, G.take A.length, rfl, ⟨rfl, ?_⟩, inv_of (fun b hb => by rw [hsz]; exact hi.fr b hb) (fun o ob l' h => hi.ver o ob l' (take_get h)) (fun o ob l' h => hi.nF o ob l' (take_get h))
      (fun o ob l' h => (hi.holds (take_get h)).next hi nx (hoth _ fun e => ?_)) (fun o o' x x' h h' => hi.inj o o' x x' (take_get h) (take_get h')), nx, .imm _ _ (.str _ _ rfl)⟩
    · rw [take_er, hE]; simp [Store.take]
    · have := hi.inj o _ _ _ (take_get h) hGq e
      have := tlt o _ h
      omega

end Fw
end Go.Proofs.YtcglmbijpjhbmaaGreat

/-! The text of a plan of the program, gone through. -/
namespace Go.Proofs.YtcglmbijpjhbmaaGreat
namespace Fw
open Go

theorem writeByte0_ev {o : List Txt} {vo vb t : Nat} (x : UInt8) : Ev Tryz.prog 141 [.ref 1 vb 0, eB x] ⟨[.arr vo 9 1 (o.map .str), .arr vb 139 2 [.nilp, .nils]], t⟩ fun v S => v = .undef ∧ ∃ vq t2 : Nat, S = ⟨[.arr vo 9 1 (o.map .str), .arr vb 139 2 [.ref 1 vb 0, .loc 2 vq 0 ([x]).length], .arr vq 5 1 (([x]).map eB)], t2⟩ := by
  refine Ev.of ⟨Tryz.func141, by kernel_rfl, rfl, by kernel_rfl⟩ tabOk mixed (by show 2 ≤ Tryz.f141.ntmps; decide) ?_
  refine W.seq_region fun K hK => ?_
  simp (disch := omega) only [↓RU, RV, RH, ↓reduceIte, Nat.reduceEqDiff, reduceCtorEq, if_pos, ↓RS, RG, Nat.reduceAdd, Nat.reduceMul, Nat.reduceLeDiff]
  refine hK _ _ ?_
  clear hK K
  refine W.seq_region fun K hK => ?_
  simp (disch := omega) only [↓RU, RV, RH, ↓reduceIte, Nat.reduceEqDiff, reduceCtorEq, if_pos, List.append_nil, ↓RS, RG, Nat.reduceAdd, Nat.reduceMul, Nat.reduceLeDiff, List.set_cons_succ, List.set_cons_zero]
  refine CallR.ev (copyCheck_ev (S := ⟨[.arr vo 9 1 (o.map .str), .arr vb 139 2 [.nilp, .nils]], t⟩) (o := 1) rfl (.inl rfl)) ?_
  rintro _ _ ⟨rfl, rfl⟩
  simp (disch := omega) only [↓RU, RV, RH, ↓reduceIte, Nat.reduceEqDiff, reduceCtorEq, if_pos, List.append_nil, ↓RS, RG, Nat.reduceAdd, Nat.reduceMul, Nat.reduceLeDiff, List.set_cons_succ, List.set_cons_zero]
  refine hK _ _ ?_
  clear hK K
  refine W.joinS [] (fun vs S => vs = [] ∧ ∃ vq t2 : Nat, S = ⟨[.arr vo 9 1 (o.map .str), .arr vb 139 2 [.ref 1 vb 0, .loc 2 vq 0 ([x]).length], .arr vq 5 1 (([x]).map eB)], t2⟩) ?_ ?_
  ·
    refine W.region_k fun K hK => ?_
    simp (disch := omega) only [↓RU, RV, RH, ↓reduceIte, Nat.reduceEqDiff, reduceCtorEq, if_pos, ↓RS, RG, Nat.reduceAdd, Nat.reduceMul, Nat.reduceLeDiff, tyLuint8, tyPstrings_Builder, tystrings_Builder, tystruct_addr_Pstrings_Builder_buf_Luint8_, tyuint8]
    refine hK _ _ ?_
    clear hK K
    refine XThen.norm ?_
    refine ⟨2, [3], [], ⟨[.arr vo 9 1 (o.map .str), .arr vb 139 2 [.ref 1 vb 0, .loc 2 (t + 2) 0 ([x]).length], .arr (t + 2) 5 1 (([x]).map eB)], (t + 3)⟩, ?_, ?_, rfl, t + 2, t + 3, rfl⟩
    · simp [-List.mapM_map, Env.put, Env.of, argEnv, Srn_eq, rnObs_cons, rnObs_nil, rnOb_arr, rnOb_map, rn_loc, rn_ref, rn_mp, rn_int, rn_bool, rn_str, rn_ip, rn_sl, rn_nils, rn_nilp, rn_undef, rn_agg, rn_tup, rn_fn, rfq_loc, rfq_int, rfq_bool, rfq_str, rfq_sl, frOf, List.range_succ, List.mapM_append, List.mapM_cons]
    · simp [-List.mapM_map, Env.put, Env.of, argEnv, Srn_eq, rnObs_cons, rnObs_nil, rnOb_arr, rnOb_map, rn_loc, rn_ref, rn_mp, rn_int, rn_bool, rn_str, rn_ip, rn_sl, rn_nils, rn_nilp, rn_undef, rn_agg, rn_tup, rn_fn, rfq_loc, rfq_int, rfq_bool, rfq_str, rfq_sl, frOf, List.range_succ, List.mapM_append, List.mapM_cons, rn_strs]
  rintro vs S - ⟨rfl, vq, t2, rfl⟩
  refine W.seq_region fun K hK => ?_
  simp (disch := omega) only [↓RU, RV, RH, ↓reduceIte, Nat.reduceEqDiff, reduceCtorEq, if_pos, ↓RS, RG, Nat.reduceAdd, Nat.reduceMul, Nat.reduceLeDiff]
  refine hK _ _ ?_
  clear hK K
  refine W.ret ?_
  refine BodyQ.ret rfl ?_
  exact ⟨_, rfl, vq, t2, take_all⟩

theorem writeByte1_ev {o : List Txt} {vo vb vq t : Nat} {l : Txt} (hl : l.length < 2147483647) (x : UInt8) : Ev Tryz.prog 141 [.ref 1 vb 0, eB x] ⟨[.arr vo 9 1 (o.map .str), .arr vb 139 2 [.ref 1 vb 0, .loc 2 vq 0 (l).length], .arr vq 5 1 ((l).map eB)], t⟩ fun v S => v = .undef ∧ ∃ vq t2 : Nat, S = ⟨[.arr vo 9 1 (o.map .str), .arr vb 139 2 [.ref 1 vb 0, .loc 2 vq 0 (l ++ [x]).length], .arr vq 5 1 ((l ++ [x]).map eB)], t2⟩ := by
  refine Ev.of ⟨Tryz.func141, by kernel_rfl, rfl, by kernel_rfl⟩ tabOk mixed (by show 2 ≤ Tryz.f141.ntmps; decide) ?_
  refine W.seq_region fun K hK => ?_
  simp (disch := omega) only [↓RU, RV, RH, ↓reduceIte, Nat.reduceEqDiff, reduceCtorEq, if_pos, ↓RS, RG, Nat.reduceAdd, Nat.reduceMul, Nat.reduceLeDiff]
  refine hK _ _ ?_
  clear hK K
  refine W.seq_region fun K hK => ?_
  simp (disch := omega) only [↓RU, RV, RH, ↓reduceIte, Nat.reduceEqDiff, reduceCtorEq, if_pos, List.append_nil, ↓RS, RG, Nat.reduceAdd, Nat.reduceMul, Nat.reduceLeDiff, List.set_cons_succ, List.set_cons_zero]
  refine CallR.ev (copyCheck_ev (S := ⟨[.arr vo 9 1 (o.map .str), .arr vb 139 2 [.ref 1 vb 0, .loc 2 vq 0 (l).length], .arr vq 5 1 ((l).map eB)], t⟩) (o := 1) rfl (.inr rfl)) ?_
  rintro _ _ ⟨rfl, rfl⟩
  simp (disch := omega) only [↓RU, RV, RH, ↓reduceIte, Nat.reduceEqDiff, reduceCtorEq, if_pos, List.append_nil, ↓RS, RG, Nat.reduceAdd, Nat.reduceMul, Nat.reduceLeDiff, List.set_cons_succ, List.set_cons_zero]
  refine hK _ _ ?_
  clear hK K
  refine W.seq_region fun K hK => ?_
  simp (disch := omega) only [↓RU, RV, RH, ↓reduceIte, Nat.reduceEqDiff, reduceCtorEq, if_pos, ↓RS, RG, Nat.reduceAdd, Nat.reduceMul, Nat.reduceLeDiff, tyLuint8, tyPstrings_Builder, tystrings_Builder, tystruct_addr_Pstrings_Builder_buf_Luint8_, tyuint8]
  refine hK _ _ ?_
  clear hK K
  refine W.seq_region fun K hK => ?_
  simp (disch := omega) only [↓RU, RV, RH, ↓reduceIte, Nat.reduceEqDiff, reduceCtorEq, if_pos, ↓RS, RG, Nat.reduceAdd, Nat.reduceMul, Nat.reduceLeDiff]
  refine hK _ _ ?_
  clear hK K
  refine W.ret ?_
  refine BodyQ.ret rfl ?_
  exact ⟨3, rfl, t + 1, t + 2, by simp [take_eq]⟩

theorem writeByte_ev {o : List Txt} {vo vb vq t : Nat} {l : Txt} (hl : l.length < 2147483647) (x : UInt8) : Ev Tryz.prog 141 [.ref 1 vb 0, eB x] (stB o vo vb l vq t) fun v S => v = .undef ∧ ∃ vq2 t2 : Nat, S = stB o vo vb (l ++ [x]) vq2 t2 := by
  cases l with
  | nil => exact writeByte0_ev x
  | cons a l => exact writeByte1_ev hl x
theorem bstring_ev {o : List Txt} {vo vb vq t : Nat} {l : Txt} (h0 : l ≠ []) : Ev Tryz.prog 142 [.ref 1 vb 0] (stB o vo vb l vq t) fun v S => v = .str l ∧ S = ⟨[.arr vo 9 1 (o.map .str)], t⟩ := by
  rw [stB_ne h0]
  exact builderString_ev (A := [.arr vo 9 1 (o.map .str)]) h0

theorem text_pc {g : List (List Int)} {nh nw : Nat} (hg : GW g nh nw) (rs : List Rect) (hz : ∀ r ∈ g, ∀ z ∈ r, 0 ≤ z ∧ z ≤ 100) : PC Tryz.prog 121 [eFloor g rs] (eStrs (textG g)) true := by
  have hl := hg.1
  obtain ⟨hg1, hg2, hg3, hg4⟩ := hg.2.2
  refine PC.of ⟨Tryz.func121, by kernel_rfl, rfl, by kernel_rfl⟩ tabOk mixed (by show 1 ≤ Tryz.f121.ntmps; decide) ?_
  refine W.seq_region fun K hK => ?_
  simp (disch := omega) only [↓RU, RV, RH, ↓reduceIte, Nat.reduceEqDiff, reduceCtorEq, if_pos, ↓RS, RG, Nat.reduceAdd, Nat.reduceMul, Nat.reduceLeDiff]
  refine hK _ _ ?_
  clear hK K
  refine W.seq_region fun K hK => ?_
  simp (disch := omega) only [↓RU, RV, RH, ↓reduceIte, Nat.reduceEqDiff, reduceCtorEq, if_pos, List.append_nil, ↓RS, RG, Nat.reduceAdd, Nat.reduceMul, Nat.reduceLeDiff, tyLstring, tystring, hl, repz_int, repz_str, ile_true]
  refine CallR.pc (high_pc g rs) rfl (.inl rfl) ?_
  simp (disch := omega) only [↓RU, RV, RH, ↓reduceIte, Nat.reduceEqDiff, reduceCtorEq, if_pos, List.append_nil, ↓RS, RG, Nat.reduceAdd, Nat.reduceMul, Nat.reduceLeDiff, tyLstring, tystring, hl, repz_int, repz_str, ile_true]
  refine hK _ _ ?_
  clear hK K
  refine W.seq ?_
  refine W.seq_region fun K hK => ?_
  simp (disch := omega) only [↓RU, RV, RH, ↓reduceIte, Nat.reduceEqDiff, reduceCtorEq, if_pos, ↓RS, RG, Nat.reduceAdd, Nat.reduceMul, Nat.reduceLeDiff, tyLLint, tyLimpl_rect, tyLint, tyimpl_floor, tyimpl_grid, tyimpl_rect, tyint, tystruct_cells_impl_grid_rooms_Limpl_rect_, tystruct_row_int_col_int_high_int_wide_int_, hl]
  refine hK _ _ ?_
  clear hK K
  refine W.block ?_
  refine W.loop [0, 3, 15, 16, 17] (fun n vs S => ∃ (i vo t : Nat) (o : List Txt), n = nh - i ∧ i ≤ nh ∧ o.length = nh ∧ (∀ j, j < i → o[j]? = (textG g)[j]?) ∧ vs = [eFloor g rs, .loc 0 vo 0 nh, eGrid g, .int .i64 nh, .int .i64 (i : Nat)] ∧ S = ⟨[.arr vo 9 1 (o.map .str)], t⟩) nh ?_ ?_
  · refine ⟨1, 0, 0, 1, List.replicate nh [], rfl, Nat.zero_le _, by simp, fun j h => absurd h (by omega), ?_, ?_⟩
    · simp [Env.put, Env.of, argEnv, hl]
    · simp [take_eq, repz_str]
  rintro n vs S - ⟨i, vo, t, o, rfl, h_i, hol, hdone, rfl, rfl⟩
  refine W.seq_region fun K hK => ?_
  simp (disch := omega) only [↓RU, RV, RH, ↓reduceIte, Nat.reduceEqDiff, reduceCtorEq, if_pos, w64, ↓RS, RG, Nat.reduceAdd, Nat.reduceMul, Nat.reduceLeDiff, tyint]
  refine hK _ _ ?_
  clear hK K
  refine W.seq ?_
  refine W.cond rfl (fun h => ?_) (fun h => ?_)
  · try simp only [RL] at h
    obtain ⟨row, hrow, hrm⟩ := get_of (show i < g.length by omega)
    have hrl := hg.2.1 row hrm
    have hrz := hz row hrm
    refine W.skip ?_
    refine XThen.norm ?_
    refine W.seq ?_
    refine W.block ?_
    refine W.seq_region fun K hK => ?_
    simp (disch := omega) only [↓RU, RV, RH, ↓reduceIte, Nat.reduceEqDiff, reduceCtorEq, if_pos, ↓RS, RG, Nat.reduceAdd, Nat.reduceMul, Nat.reduceLeDiff, tyLLint, tyLint, tyimpl_grid, tyint, hrow]
    refine hK _ _ ?_
    clear hK K
    refine W.seq_region fun K hK => ?_
    simp (disch := omega) only [↓RU, RV, RH, ↓reduceIte, Nat.reduceEqDiff, reduceCtorEq, if_pos, ↓RS, RG, Nat.reduceAdd, Nat.reduceMul, Nat.reduceLeDiff, tyLuint8, tyPstrings_Builder, tystrings_Builder, tystruct_addr_Pstrings_Builder_buf_Luint8_, tyuint8]
    refine hK _ _ ?_
    clear hK K
    refine W.seq ?_
    refine W.seq_region fun K hK => ?_
    simp (disch := omega) only [↓RU, RV, RH, ↓reduceIte, Nat.reduceEqDiff, reduceCtorEq, if_pos, ↓RS, RG, Nat.reduceAdd, Nat.reduceMul, Nat.reduceLeDiff, tyLint, tyint, hrl]
    refine hK _ _ ?_
    clear hK K
    refine W.block ?_
    refine W.loop [0, 3, 15, 16, 17, 4, 6, 22, 23, 24] (fun n vs S => ∃ (k vb vq t : Nat), n = nw - k ∧ k ≤ nw ∧ vs = [eFloor g rs, .loc 0 vo 0 nh, eGrid g, .int .i64 nh, .int .i64 (i : Nat), .int .i64 (i : Nat), .ref 1 vb 0, eInts row, .int .i64 nw, .int .i64 (k : Nat)] ∧ S = stB o vo vb (rowT (row.take k)) vq t) nw ?_ ?_
    · refine ⟨2, 0, _, 0, _, rfl, Nat.zero_le _, ?_, rfl⟩
      simp [Env.put, Env.of, hrl]
    rintro n vs S - ⟨k, vb, vq, t, rfl, h_k, rfl, rfl⟩
    refine W.seq_region fun K hK => ?_
    simp (disch := omega) only [↓RU, RV, RH, ↓reduceIte, Nat.reduceEqDiff, reduceCtorEq, if_pos, w64, ↓RS, RG, Nat.reduceAdd, Nat.reduceMul, Nat.reduceLeDiff, tyint]
    refine hK _ _ ?_
    clear hK K
    refine W.seq ?_
    refine W.cond rfl (fun h1 => ?_) (fun h1 => ?_)
    · try simp only [RL] at h1
      obtain ⟨z, hzk, hzm⟩ := get_of (show k < row.length by omega)
      have hzb := hrz z hzm
      have hul := u8_let hzb.1
      refine W.skip ?_
      refine XThen.norm ?_
      refine W.seq ?_
      refine W.block ?_
      refine W.seq_region fun K hK => ?_
      simp (disch := omega) only [↓RU, RV, RH, ↓reduceIte, Nat.reduceEqDiff, reduceCtorEq, if_pos, ↓RS, RG, Nat.reduceAdd, Nat.reduceMul, Nat.reduceLeDiff, tyLint, tyint, hzk]
      refine hK _ _ ?_
      clear hK K
      refine W.region_k fun K hK => ?_
      simp (disch := omega) only [↓RU, RV, RH, ↓reduceIte, Nat.reduceEqDiff, reduceCtorEq, if_pos, w64, w64, List.append_nil, ↓RS, RG, Nat.reduceAdd, Nat.reduceMul, Nat.reduceLeDiff, tyint, tyuint8, hul]
      refine CallR.ev (writeByte_ev (by rw [rowT_len, List.length_take]; omega) (letZ z)) ?_
      rintro _ _ ⟨rfl, vq2, t2, rfl⟩
      simp (disch := omega) only [↓RU, RV, RH, ↓reduceIte, Nat.reduceEqDiff, reduceCtorEq, if_pos, w64, w64, List.append_nil, ↓RS, RG, Nat.reduceAdd, Nat.reduceMul, Nat.reduceLeDiff, tyint, tyuint8, hul]
      refine hK _ _ ?_
      clear hK K
      refine XBlock.norm ?_
      refine XThen.norm ?_
      refine W.region_k fun K hK => ?_
      simp (disch := omega) only [↓RU, RV, RH, ↓reduceIte, Nat.reduceEqDiff, reduceCtorEq, if_pos, w64, ↓RS, RG, Nat.reduceAdd, Nat.reduceMul, Nat.reduceLeDiff, tyint]
      refine hK _ _ ?_
      clear hK K
      refine XThen.norm ?_
      refine ⟨nw - (k + 1), by omega, _, k + 1, vb, vq2, t2, rfl, by omega, ?_, by rw [rowT_succ hzk]; exact take_all⟩
      simp [Env.put, Env.of]
    · try simp only [RL] at h1
      obtain rfl : nw = k := by omega
      refine W.exit ?_
      refine XThen.exit ?_
      refine XThen.exit ?_
      refine XBlock.hit ?_
      refine XThen.norm ?_
      refine W.region_k fun K hK => ?_
      have htk : row.take nw = row := List.take_of_length_le (by omega)
      rw [htk]
      have hne := rowT_ne (row := row) (by omega)
      simp (disch := omega) only [↓RU, RV, RH, ↓reduceIte, Nat.reduceEqDiff, reduceCtorEq, if_pos, List.append_nil, ↓RS, RG, Nat.reduceAdd, Nat.reduceMul, Nat.reduceLeDiff, tyLstring, tystring, hol, set_spl, set_str]
      refine CallR.ev (bstring_ev hne) ?_
      rintro _ _ ⟨rfl, rfl⟩
      simp (disch := omega) only [↓RU, RV, RH, ↓reduceIte, Nat.reduceEqDiff, reduceCtorEq, if_pos, List.append_nil, ↓RS, RG, Nat.reduceAdd, Nat.reduceMul, Nat.reduceLeDiff, tyLstring, tystring, hol, set_spl, set_str]
      refine hK _ _ ?_
      clear hK K
      refine XBlock.norm ?_
      refine XThen.norm ?_
      refine W.region_k fun K hK => ?_
      simp (disch := omega) only [↓RU, RV, RH, ↓reduceIte, Nat.reduceEqDiff, reduceCtorEq, if_pos, w64, ↓RS, RG, Nat.reduceAdd, Nat.reduceMul, Nat.reduceLeDiff, tyint]
      refine hK _ _ ?_
      clear hK K
      refine XThen.norm ?_
      refine ⟨nh - (i + 1), by omega, 1, i + 1, vo, t, o.set i (rowT row), rfl, by omega, by simp [hol], ?_, ?_, ?_⟩
      · intro j hj
        by_cases e : j = i
        · subst e; rw [textG_at hrow, List.getElem?_set, if_pos rfl, if_pos (by omega)]
        · rw [List.getElem?_set, if_neg (Ne.symm e)]; exact hdone j (by omega)
      · simp [Env.put, Env.of]
      · simp [take_eq]
  · try simp only [RL] at h
    obtain rfl : nh = i := by omega
    refine W.exit ?_
    refine XThen.exit ?_
    refine XThen.exit ?_
    refine XBlock.hit ?_
    refine XThen.norm ?_
    refine W.seq_region fun K hK => ?_
    simp (disch := omega) only [↓RU, RV, RH, ↓reduceIte, Nat.reduceEqDiff, reduceCtorEq, if_pos, ↓RS, RG, Nat.reduceAdd, Nat.reduceMul, Nat.reduceLeDiff]
    refine hK _ _ ?_
    clear hK K
    refine W.ret ?_
    refine BodyQ.ret rfl ?_
    have hdo := text_done (by omega) (fun j hj => hdone j (by omega))
    subst hdo
    obtain rfl : nh = (textG g).length := hol.symm
    exact reify_loc (k := 9) rfl (by simp) (reify_txts _)

end Fw
end Go.Proofs.YtcglmbijpjhbmaaGreat

/-! The numbering of rooms by the program, gone through. -/
namespace Go.Proofs.YtcglmbijpjhbmaaGreat
namespace Fw
open Go

theorem keyed_int {z : Int} : TK.keyed tab 3 (.int .i64 z) = true := by simp only [TK.keyed, tyint]; rfl

theorem settled2_old_ev {g d : List (List Int)} {y : List Int} {row ks : List Int} {rs : List Rect} {z : Int} {r c w m xv yv vq t : Nat} (hr : r < 6) (hc : c < 6) (hrow : g[r]? = some row) (hz : row[c]? = some z) (hs : SeOk ks rs) (hk : ks.length ≤ 64) (hin : ¬ ks.idxOf z = ks.length) : Ev Tryz.prog 167 [.int .i64 (r : Nat), .int .i64 (c : Nat), .ref 5 5 0, .ref 0 0 0, .ref 3 3 0] ⟨[.arr 0 84 1 [eGrid g], .arr 1 3 1 [.int .i64 w], .arr 2 87 2 [.nils, .loc 8 vq 0 (rs).length], .arr 3 55 1 [.ref 2 2 0], .map 4 (mE ks), .arr 5 158 1 [.mp 4 4], .arr xv 24 1 (gcs d (.loc 7 yv 0 w) m), .arr yv 3 1 (y.map (.int .i64)), .arr vq 161 4 (rcs rs)], t⟩ fun v S => v = .int .i64 ((ks.idxOf z : Nat) : Int) ∧ ∃ vq t : Nat, S = ⟨[.arr 0 84 1 [eGrid g], .arr 1 3 1 [.int .i64 w], .arr 2 87 2 [.nils, .loc 8 vq 0 ((seRs ks rs z (oneR r c))).length], .arr 3 55 1 [.ref 2 2 0], .map 4 (mE (seKs ks z)), .arr 5 158 1 [.mp 4 4], .arr xv 24 1 (gcs d (.loc 7 yv 0 w) m), .arr yv 3 1 (y.map (.int .i64)), .arr vq 161 4 (rcs (seRs ks rs z (oneR r c)))], t⟩ := by
  have hrl := len_of hrow
  have hcl := len_of hz
  have hgl : g.length = g.length := rfl
  obtain ⟨hi1, hi2, b, hb, hbf⟩ := hs.in_ (z := z) (oneR_fit hr hc)
  have hil := idxOf_le (ks := ks) (z := z)
  have hsl := hs.1
  have hst := hs.step (z := z) (oneR_fit hr hc)
  have hfs := findKey_some hin
  have hki : seKs ks z = ks := by simp [seKs, hin]
  have hri : seIn ks rs z (oneR r c) = rs := by simp [seIn, hin]
  refine Ev.of ⟨Tryz.func167, by kernel_rfl, rfl, by kernel_rfl⟩ tabOk mixed (by show 5 ≤ Tryz.f167.ntmps; decide) ?_
  refine W.seq_region fun K hK => ?_
  simp (disch := omega) only [↓RU, RV, RH, ↓reduceIte, Nat.reduceEqDiff, reduceCtorEq, if_pos, ↓RS, RG, Nat.reduceAdd, Nat.reduceMul, Nat.reduceLeDiff]
  refine hK _ _ ?_
  clear hK K
  refine W.seq_draw (by kernel_rfl) fun K hK => ?_
  simp (disch := omega) only [↓RU, RV, RH, ↓reduceIte, Nat.reduceEqDiff, reduceCtorEq, if_pos, ↓RS, RG, Nat.reduceAdd, Nat.reduceMul, Nat.reduceLeDiff, tyLLint, tyLint, tyimpl_grid, tyint, tymapBint_int, hrow, hz, mE_len, hfs]
  refine hK _ _ ?_
  clear hK K
  refine W.joinS [0, 1, 2, 3, 4, 8] (fun vs S => ∃ vq t : Nat, vs = [.int .i64 (r : Nat), .int .i64 (c : Nat), .ref 5 5 0, .ref 0 0 0, .ref 3 3 0, .int .i64 ((ks.idxOf z : Nat) : Int)] ∧ S = ⟨[.arr 0 84 1 [eGrid g], .arr 1 3 1 [.int .i64 w], .arr 2 87 2 [.nils, .loc 8 vq 0 ((seIn ks rs z (oneR r c))).length], .arr 3 55 1 [.ref 2 2 0], .map 4 (mE (seKs ks z)), .arr 5 158 1 [.mp 4 4], .arr xv 24 1 (gcs d (.loc 7 yv 0 w) m), .arr yv 3 1 (y.map (.int .i64)), .arr vq 161 4 (rcs (seIn ks rs z (oneR r c)))], t⟩) ?_ ?_
  ·
    refine W.seq_region fun K hK => ?_
    simp (disch := omega) only [↓RU, RV, RH, ↓reduceIte, Nat.reduceEqDiff, reduceCtorEq, if_pos, ↓RS, RG, Nat.reduceAdd, Nat.reduceMul, Nat.reduceLeDiff]
    refine hK _ _ ?_
    clear hK K
    refine W.cond rfl (fun h => ?_) (fun h => ?_)
    · try simp only [RL] at h
      exact absurd h (by simp)
    · try simp only [RL] at h
      refine W.skip ?_
      refine XThen.norm ?_
      refine ⟨9, [], [.int .i64 (r : Nat), .int .i64 (c : Nat), .ref 5 5 0, .ref 0 0 0, .ref 3 3 0, .int .i64 ((ks.idxOf z : Nat) : Int)], ⟨[.arr 0 84 1 [eGrid g], .arr 1 3 1 [.int .i64 w], .arr 2 87 2 [.nils, .loc 8 vq 0 ((seIn ks rs z (oneR r c))).length], .arr 3 55 1 [.ref 2 2 0], .map 4 (mE (seKs ks z)), .arr 5 158 1 [.mp 4 4], .arr xv 24 1 (gcs d (.loc 7 yv 0 w) m), .arr yv 3 1 (y.map (.int .i64)), .arr vq 161 4 (rcs (seIn ks rs z (oneR r c)))], (t + 1)⟩, ?_, ?_, vq, t + 1, rfl, rfl⟩
      · simp [-List.mapM_map, Env.put, Env.of, argEnv, Srn_eq, rnObs_cons, rnObs_nil, rnOb_arr, rnOb_map, rn_loc, rn_ref, rn_mp, rn_int, rn_bool, rn_str, rn_ip, rn_sl, rn_nils, rn_nilp, rn_undef, rn_agg, rn_tup, rn_fn, rfq_loc, rfq_int, rfq_bool, rfq_str, rfq_sl, frOf, List.range_succ, List.mapM_append, List.mapM_cons]
      · rw [hki, hri]; simp [-List.mapM_map, Env.put, Env.of, argEnv, Srn_eq, rnObs_cons, rnObs_nil, rnOb_arr, rnOb_map, rn_loc, rn_ref, rn_mp, rn_int, rn_bool, rn_str, rn_ip, rn_sl, rn_nils, rn_nilp, rn_undef, rn_agg, rn_tup, rn_fn, rfq_loc, rfq_int, rfq_bool, rfq_str, rfq_sl, frOf, List.range_succ, List.mapM_append, List.mapM_cons, rn_mE, rn_rcs, rn_ints, rn_gcs]
  rintro vs S - ⟨vq, t, rfl, rfl⟩
  have hrs2 := seRs_is hb
  generalize hks1 : seKs ks z = ks1 at hi1 hst
  generalize hrs1 : seIn ks rs z (oneR r c) = rs1 at hb hi1 hi2 hrs2
  have hbl := len_of hb
  refine W.seq_draw (by kernel_rfl) fun K hK => ?_
  have hcell := (oneR_cells (r := r) (c := c)).symm
  have hba : PV.agg b.cells = eRect b := rfl
  simp (disch := omega) only [↓RU, RV, RH, ↓reduceIte, Nat.reduceEqDiff, reduceCtorEq, if_pos, List.append_nil, ↓RS, RG, Nat.reduceAdd, Nat.reduceMul, Nat.reduceLeDiff, tyLLint, tyLimpl_rect, tyLint, tyPimpl_floor, tyimpl_floor, tyimpl_grid, tyimpl_rect, tyint, tystruct_cells_impl_grid_rooms_Limpl_rect_, tystruct_row_int_col_int_high_int_wide_int_, rcs_at hb, rcs_len, ← oneR_cells, hcell, rcell_len, rcell_all, rcs_set4]
  refine CallR.pc (both_pc (b := b) (o := oneR r c) hbf.in_ (oneR_fit hr hc).in_) rfl (.inl rfl) ?_
  simp (disch := omega) only [↓RU, RV, RH, ↓reduceIte, Nat.reduceEqDiff, reduceCtorEq, if_pos, List.append_nil, ↓RS, RG, Nat.reduceAdd, Nat.reduceMul, Nat.reduceLeDiff, tyLLint, tyLimpl_rect, tyLint, tyPimpl_floor, tyimpl_floor, tyimpl_grid, tyimpl_rect, tyint, tystruct_cells_impl_grid_rooms_Limpl_rect_, tystruct_row_int_col_int_high_int_wide_int_, rcs_at hb, rcs_len, ← oneR_cells, hcell, rcell_len, rcell_all, rcs_set4]
  refine hK _ _ ?_
  clear hK K
  refine W.seq_region fun K hK => ?_
  simp (disch := omega) only [↓RU, RV, RH, ↓reduceIte, Nat.reduceEqDiff, reduceCtorEq, if_pos, ↓RS, RG, Nat.reduceAdd, Nat.reduceMul, Nat.reduceLeDiff]
  refine hK _ _ ?_
  clear hK K
  refine W.ret ?_
  refine BodyQ.ret rfl ?_
  refine ⟨9, rfl, vq, t, ?_⟩
  rw [hrs2]
  simp [take_eq]

theorem settled2_first_ev {g d : List (List Int)} {y : List Int} {row ks : List Int} {rs : List Rect} {z : Int} {r c w m xv yv vq t : Nat} (hr : r < 6) (hc : c < 6) (hrow : g[r]? = some row) (hz : row[c]? = some z) (hs : SeOk ks rs) (hk : ks.length ≤ 64) (hn : rs = []) (hn2 : ks = []) : Ev Tryz.prog 167 [.int .i64 (r : Nat), .int .i64 (c : Nat), .ref 5 5 0, .ref 0 0 0, .ref 3 3 0] ⟨[.arr 0 84 1 [eGrid g], .arr 1 3 1 [.int .i64 w], .arr 2 87 2 [.nils, .nils], .arr 3 55 1 [.ref 2 2 0], .map 4 (mE ks), .arr 5 158 1 [.mp 4 4], .arr xv 24 1 (gcs d (.loc 7 yv 0 w) m), .arr yv 3 1 (y.map (.int .i64))], t⟩ fun v S => v = .int .i64 ((ks.idxOf z : Nat) : Int) ∧ ∃ vq t : Nat, S = ⟨[.arr 0 84 1 [eGrid g], .arr 1 3 1 [.int .i64 w], .arr 2 87 2 [.nils, .loc 8 vq 0 ((seRs ks rs z (oneR r c))).length], .arr 3 55 1 [.ref 2 2 0], .map 4 (mE (seKs ks z)), .arr 5 158 1 [.mp 4 4], .arr xv 24 1 (gcs d (.loc 7 yv 0 w) m), .arr yv 3 1 (y.map (.int .i64)), .arr vq 161 4 (rcs (seRs ks rs z (oneR r c)))], t⟩ := by
  have hin : ks.idxOf z = ks.length := by rw [hn2]; rfl
  have hrl := len_of hrow
  have hcl := len_of hz
  have hgl : g.length = g.length := rfl
  obtain ⟨hi1, hi2, b, hb, hbf⟩ := hs.in_ (z := z) (oneR_fit hr hc)
  have hil := idxOf_le (ks := ks) (z := z)
  have hsl := hs.1
  have hst := hs.step (z := z) (oneR_fit hr hc)
  have hfn := findKey_none hin
  have hki : seKs ks z = ks ++ [z] := by simp [seKs, hin]
  have hri : seIn ks rs z (oneR r c) = rs ++ [oneR r c] := by simp [seIn, hin]
  refine Ev.of ⟨Tryz.func167, by kernel_rfl, rfl, by kernel_rfl⟩ tabOk mixed (by show 5 ≤ Tryz.f167.ntmps; decide) ?_
  refine W.seq_region fun K hK => ?_
  simp (disch := omega) only [↓RU, RV, RH, ↓reduceIte, Nat.reduceEqDiff, reduceCtorEq, if_pos, ↓RS, RG, Nat.reduceAdd, Nat.reduceMul, Nat.reduceLeDiff]
  refine hK _ _ ?_
  clear hK K
  refine W.seq_draw (by kernel_rfl) fun K hK => ?_
  simp (disch := omega) only [↓RU, RV, RH, ↓reduceIte, Nat.reduceEqDiff, reduceCtorEq, if_pos, ↓RS, RG, Nat.reduceAdd, Nat.reduceMul, Nat.reduceLeDiff, tyLLint, tyLint, tyimpl_grid, tyint, tymapBint_int, hrow, hz, mE_len, hfn]
  refine hK _ _ ?_
  clear hK K
  refine W.joinS [0, 1, 2, 3, 4, 8] (fun vs S => ∃ vq t : Nat, vs = [.int .i64 (r : Nat), .int .i64 (c : Nat), .ref 5 5 0, .ref 0 0 0, .ref 3 3 0, .int .i64 ((ks.idxOf z : Nat) : Int)] ∧ S = ⟨[.arr 0 84 1 [eGrid g], .arr 1 3 1 [.int .i64 w], .arr 2 87 2 [.nils, .loc 8 vq 0 ((seIn ks rs z (oneR r c))).length], .arr 3 55 1 [.ref 2 2 0], .map 4 (mE (seKs ks z)), .arr 5 158 1 [.mp 4 4], .arr xv 24 1 (gcs d (.loc 7 yv 0 w) m), .arr yv 3 1 (y.map (.int .i64)), .arr vq 161 4 (rcs (seIn ks rs z (oneR r c)))], t⟩) ?_ ?_
  ·
    refine W.seq_region fun K hK => ?_
    simp (disch := omega) only [↓RU, RV, RH, ↓reduceIte, Nat.reduceEqDiff, reduceCtorEq, if_pos, ↓RS, RG, Nat.reduceAdd, Nat.reduceMul, Nat.reduceLeDiff]
    refine hK _ _ ?_
    clear hK K
    refine W.cond rfl (fun h => ?_) (fun h => ?_)
    · try simp only [RL] at h
      refine W.seq_region fun K hK => ?_
      simp (disch := omega) only [↓RU, RV, RH, ↓reduceIte, Nat.reduceEqDiff, reduceCtorEq, if_pos, ↓RS, RG, Nat.reduceAdd, Nat.reduceMul, Nat.reduceLeDiff, tyint, tymapBint_int, mE_len]
      refine hK _ _ ?_
      clear hK K
      refine W.seq_draw (by kernel_rfl) fun K hK => ?_
      simp (disch := omega) only [↓RU, RV, RH, ↓reduceIte, Nat.reduceEqDiff, reduceCtorEq, if_pos, ↓RS, RG, Nat.reduceAdd, Nat.reduceMul, Nat.reduceLeDiff, tyLLint, tyLint, tyimpl_grid, tyint, tymapBint_int, hrow, hz, hfn, keyed_int]
      refine hK _ _ ?_
      clear hK K
      refine W.region_pk 10 [some 35, some 36, some 37, some 38, some 39] [2, 3] (by decide) (by kernel_rfl) fun K hK => ?_
      simp only [List.take_succ_cons, List.take_zero, List.drop_succ_cons, List.drop_zero]
      refine eRunK_pend (.ref 2 2 0) rfl rfl rfl (fun S' hS => ?_) ?_
      · skip
        have k2 := (hS 2 (by decide)).trans (show _ = some _ from rfl)
        have k3 := (hS 3 (by decide)).trans (show _ = some _ from rfl)
        simp (disch := omega) only [↓RU, RV, RH, ↓reduceIte, Nat.reduceEqDiff, reduceCtorEq, if_pos, ↓RS, RG, Nat.reduceAdd, Nat.reduceMul, Nat.reduceLeDiff, tyLLint, tyLimpl_rect, tyLint, tyPimpl_floor, tyimpl_floor, tyimpl_grid, tyimpl_rect, tyint, tystruct_cells_impl_grid_rooms_Limpl_rect_, tystruct_row_int_col_int_high_int_wide_int_, rcs_len, rcell_len, rcell_all, pp_load, pp_nil, pp_fa, pp_ia, k2, k3]
      refine eRunK_pend (.ref 2 2 0) rfl rfl rfl (fun S' hS => ?_) ?_
      · skip
        have k2 := (hS 2 (by decide)).trans (show _ = some _ from rfl)
        have k3 := (hS 3 (by decide)).trans (show _ = some _ from rfl)
        simp (disch := omega) only [↓RU, RV, RH, ↓reduceIte, Nat.reduceEqDiff, reduceCtorEq, if_pos, ↓RS, RG, Nat.reduceAdd, Nat.reduceMul, Nat.reduceLeDiff, tyLLint, tyLimpl_rect, tyLint, tyPimpl_floor, tyimpl_floor, tyimpl_grid, tyimpl_rect, tyint, tystruct_cells_impl_grid_rooms_Limpl_rect_, tystruct_row_int_col_int_high_int_wide_int_, rcs_len, rcell_len, rcell_all, pp_load, pp_nil, pp_fa, pp_ia, k2, k3]
      refine eRunK_pend (.ref 2 2 0) rfl rfl rfl (fun S' hS => ?_) ?_
      · skip
        have k2 := (hS 2 (by decide)).trans (show _ = some _ from rfl)
        have k3 := (hS 3 (by decide)).trans (show _ = some _ from rfl)
        simp (disch := omega) only [↓RU, RV, RH, ↓reduceIte, Nat.reduceEqDiff, reduceCtorEq, if_pos, ↓RS, RG, Nat.reduceAdd, Nat.reduceMul, Nat.reduceLeDiff, tyLLint, tyLimpl_rect, tyLint, tyPimpl_floor, tyimpl_floor, tyimpl_grid, tyimpl_rect, tyint, tystruct_cells_impl_grid_rooms_Limpl_rect_, tystruct_row_int_col_int_high_int_wide_int_, rcs_len, rcell_len, rcell_all, pp_load, pp_nil, pp_fa, pp_ia, k2, k3]
      refine eRunK_pend (.ref 2 2 1) rfl rfl rfl (fun S' hS => ?_) ?_
      · skip
        have k2 := (hS 2 (by decide)).trans (show _ = some _ from rfl)
        have k3 := (hS 3 (by decide)).trans (show _ = some _ from rfl)
        simp (disch := omega) only [↓RU, RV, RH, ↓reduceIte, Nat.reduceEqDiff, reduceCtorEq, if_pos, ↓RS, RG, Nat.reduceAdd, Nat.reduceMul, Nat.reduceLeDiff, tyLLint, tyLimpl_rect, tyLint, tyPimpl_floor, tyimpl_floor, tyimpl_grid, tyimpl_rect, tyint, tystruct_cells_impl_grid_rooms_Limpl_rect_, tystruct_row_int_col_int_high_int_wide_int_, rcs_len, rcell_len, rcell_all, pp_load, pp_nil, pp_fa, pp_ia, k2, k3]
      refine eRunK_pend (.nils) rfl rfl rfl (fun S' hS => ?_) ?_
      · skip
        have k2 := (hS 2 (by decide)).trans (show _ = some _ from rfl)
        have k3 := (hS 3 (by decide)).trans (show _ = some _ from rfl)
        simp (disch := omega) only [↓RU, RV, RH, ↓reduceIte, Nat.reduceEqDiff, reduceCtorEq, if_pos, ↓RS, RG, Nat.reduceAdd, Nat.reduceMul, Nat.reduceLeDiff, tyLLint, tyLimpl_rect, tyLint, tyPimpl_floor, tyimpl_floor, tyimpl_grid, tyimpl_rect, tyint, tystruct_cells_impl_grid_rooms_Limpl_rect_, tystruct_row_int_col_int_high_int_wide_int_, rcs_len, rcell_len, rcell_all, pp_load, pp_nil, pp_fa, pp_ia, k2, k3]
      refine eRunK_go rfl ?_
      simp (disch := omega) only [↓RU, RV, RH, ↓reduceIte, Nat.reduceEqDiff, reduceCtorEq, if_pos, ↓RS, RG, Nat.reduceAdd, Nat.reduceMul, Nat.reduceLeDiff, tyLLint, tyLimpl_rect, tyLint, tyPimpl_floor, tyimpl_floor, tyimpl_grid, tyimpl_rect, tyint, tystruct_cells_impl_grid_rooms_Limpl_rect_, tystruct_row_int_col_int_high_int_wide_int_, rcs_len, rcell_len, rcell_all, keeps_cons, keeps_nil]
      refine eRunK_go rfl ?_
      simp (disch := omega) only [↓RU, RV, RH, ↓reduceIte, Nat.reduceEqDiff, reduceCtorEq, if_pos, ↓RS, RG, Nat.reduceAdd, Nat.reduceMul, Nat.reduceLeDiff, tyLLint, tyLimpl_rect, tyLint, tyPimpl_floor, tyimpl_floor, tyimpl_grid, tyimpl_rect, tyint, tystruct_cells_impl_grid_rooms_Limpl_rect_, tystruct_row_int_col_int_high_int_wide_int_, rcs_len, rcell_len, rcell_all, keeps_cons, keeps_nil]
      refine eRunK_go rfl ?_
      simp (disch := omega) only [↓RU, RV, RH, ↓reduceIte, Nat.reduceEqDiff, reduceCtorEq, if_pos, ↓RS, RG, Nat.reduceAdd, Nat.reduceMul, Nat.reduceLeDiff, tyLLint, tyLimpl_rect, tyLint, tyPimpl_floor, tyimpl_floor, tyimpl_grid, tyimpl_rect, tyint, tystruct_cells_impl_grid_rooms_Limpl_rect_, tystruct_row_int_col_int_high_int_wide_int_, rcs_len, rcell_len, rcell_all, keeps_cons, keeps_nil]
      refine eRunK_go rfl ?_
      simp (disch := omega) only [↓RU, RV, RH, ↓reduceIte, Nat.reduceEqDiff, reduceCtorEq, if_pos, ↓RS, RG, Nat.reduceAdd, Nat.reduceMul, Nat.reduceLeDiff, tyLLint, tyLimpl_rect, tyLint, tyPimpl_floor, tyimpl_floor, tyimpl_grid, tyimpl_rect, tyint, tystruct_cells_impl_grid_rooms_Limpl_rect_, tystruct_row_int_col_int_high_int_wide_int_, rcs_len, rcell_len, rcell_all, keeps_cons, keeps_nil]
      refine eRunK_go rfl ?_
      simp (disch := omega) only [↓RU, RV, RH, ↓reduceIte, Nat.reduceEqDiff, reduceCtorEq, if_pos, ↓RS, RG, Nat.reduceAdd, Nat.reduceMul, Nat.reduceLeDiff, tyLLint, tyLimpl_rect, tyLint, tyPimpl_floor, tyimpl_floor, tyimpl_grid, tyimpl_rect, tyint, tystruct_cells_impl_grid_rooms_Limpl_rect_, tystruct_row_int_col_int_high_int_wide_int_, rcs_len, rcell_len, rcell_all, keeps_cons, keeps_nil]
      refine eRunK_end ?_
      simp (disch := omega) only [↓RU, RV, RH, ↓reduceIte, Nat.reduceEqDiff, reduceCtorEq, if_pos, ↓RS, RG, Nat.reduceAdd, Nat.reduceMul, Nat.reduceLeDiff, tyLLint, tyLimpl_rect, tyLint, tyPimpl_floor, tyimpl_floor, tyimpl_grid, tyimpl_rect, tyint, tystruct_cells_impl_grid_rooms_Limpl_rect_, tystruct_row_int_col_int_high_int_wide_int_, rcs_len, rcell_len, rcell_all]
      refine hK _ _ ?_
      clear hK K
      refine XThen.norm ?_
      refine ⟨8, [9], [.int .i64 (r : Nat), .int .i64 (c : Nat), .ref 5 5 0, .ref 0 0 0, .ref 3 3 0, .int .i64 ((ks.idxOf z : Nat) : Int)], ⟨[.arr 0 84 1 [eGrid g], .arr 1 3 1 [.int .i64 w], .arr 2 87 2 [.nils, .loc 8 (t + 2) 0 ((seIn ks rs z (oneR r c))).length], .arr 3 55 1 [.ref 2 2 0], .map 4 (mE (seKs ks z)), .arr 5 158 1 [.mp 4 4], .arr xv 24 1 (gcs d (.loc 7 yv 0 w) m), .arr yv 3 1 (y.map (.int .i64)), .arr (t + 2) 161 4 (rcs (seIn ks rs z (oneR r c)))], (t + 3)⟩, ?_, ?_, (t + 2), (t + 3), rfl, rfl⟩
      · rw [hin]; simp [-List.mapM_map, Env.put, Env.of, argEnv, Srn_eq, rnObs_cons, rnObs_nil, rnOb_arr, rnOb_map, rn_loc, rn_ref, rn_mp, rn_int, rn_bool, rn_str, rn_ip, rn_sl, rn_nils, rn_nilp, rn_undef, rn_agg, rn_tup, rn_fn, rfq_loc, rfq_int, rfq_bool, rfq_str, rfq_sl, frOf, List.range_succ, List.mapM_append, List.mapM_cons]
      · rw [hki, hri, hn]; simp [-List.mapM_map, Env.put, Env.of, argEnv, Srn_eq, rnObs_cons, rnObs_nil, rnOb_arr, rnOb_map, rn_loc, rn_ref, rn_mp, rn_int, rn_bool, rn_str, rn_ip, rn_sl, rn_nils, rn_nilp, rn_undef, rn_agg, rn_tup, rn_fn, rfq_loc, rfq_int, rfq_bool, rfq_str, rfq_sl, frOf, List.range_succ, List.mapM_append, List.mapM_cons, rn_mE, rn_rcs, rn_ints, rn_gcs, mE_app, rcs_app, rcs_one, oneR_cells, rcs_tk]
    · try simp only [RL] at h
      exact absurd h (by simp)
  rintro vs S - ⟨vq, t, rfl, rfl⟩
  have hrs2 := seRs_is hb
  generalize hks1 : seKs ks z = ks1 at hi1 hst
  generalize hrs1 : seIn ks rs z (oneR r c) = rs1 at hb hi1 hi2 hrs2
  have hbl := len_of hb
  refine W.seq_draw (by kernel_rfl) fun K hK => ?_
  have hcell := (oneR_cells (r := r) (c := c)).symm
  have hba : PV.agg b.cells = eRect b := rfl
  simp (disch := omega) only [↓RU, RV, RH, ↓reduceIte, Nat.reduceEqDiff, reduceCtorEq, if_pos, List.append_nil, ↓RS, RG, Nat.reduceAdd, Nat.reduceMul, Nat.reduceLeDiff, tyLLint, tyLimpl_rect, tyLint, tyPimpl_floor, tyimpl_floor, tyimpl_grid, tyimpl_rect, tyint, tystruct_cells_impl_grid_rooms_Limpl_rect_, tystruct_row_int_col_int_high_int_wide_int_, rcs_at hb, rcs_len, ← oneR_cells, hcell, rcell_len, rcell_all, rcs_set4]
  refine CallR.pc (both_pc (b := b) (o := oneR r c) hbf.in_ (oneR_fit hr hc).in_) rfl (.inl rfl) ?_
  simp (disch := omega) only [↓RU, RV, RH, ↓reduceIte, Nat.reduceEqDiff, reduceCtorEq, if_pos, List.append_nil, ↓RS, RG, Nat.reduceAdd, Nat.reduceMul, Nat.reduceLeDiff, tyLLint, tyLimpl_rect, tyLint, tyPimpl_floor, tyimpl_floor, tyimpl_grid, tyimpl_rect, tyint, tystruct_cells_impl_grid_rooms_Limpl_rect_, tystruct_row_int_col_int_high_int_wide_int_, rcs_at hb, rcs_len, ← oneR_cells, hcell, rcell_len, rcell_all, rcs_set4]
  refine hK _ _ ?_
  clear hK K
  refine W.seq_region fun K hK => ?_
  simp (disch := omega) only [↓RU, RV, RH, ↓reduceIte, Nat.reduceEqDiff, reduceCtorEq, if_pos, ↓RS, RG, Nat.reduceAdd, Nat.reduceMul, Nat.reduceLeDiff]
  refine hK _ _ ?_
  clear hK K
  refine W.ret ?_
  refine BodyQ.ret rfl ?_
  refine ⟨9, rfl, vq, t, ?_⟩
  rw [hrs2]
  simp [take_eq]

theorem settled2_new_ev {g d : List (List Int)} {y : List Int} {row ks : List Int} {rs : List Rect} {z : Int} {r c w m xv yv vq t : Nat} (hr : r < 6) (hc : c < 6) (hrow : g[r]? = some row) (hz : row[c]? = some z) (hs : SeOk ks rs) (hk : ks.length ≤ 64) (hin : ks.idxOf z = ks.length) : Ev Tryz.prog 167 [.int .i64 (r : Nat), .int .i64 (c : Nat), .ref 5 5 0, .ref 0 0 0, .ref 3 3 0] ⟨[.arr 0 84 1 [eGrid g], .arr 1 3 1 [.int .i64 w], .arr 2 87 2 [.nils, .loc 8 vq 0 (rs).length], .arr 3 55 1 [.ref 2 2 0], .map 4 (mE ks), .arr 5 158 1 [.mp 4 4], .arr xv 24 1 (gcs d (.loc 7 yv 0 w) m), .arr yv 3 1 (y.map (.int .i64)), .arr vq 161 4 (rcs rs)], t⟩ fun v S => v = .int .i64 ((ks.idxOf z : Nat) : Int) ∧ ∃ vq t : Nat, S = ⟨[.arr 0 84 1 [eGrid g], .arr 1 3 1 [.int .i64 w], .arr 2 87 2 [.nils, .loc 8 vq 0 ((seRs ks rs z (oneR r c))).length], .arr 3 55 1 [.ref 2 2 0], .map 4 (mE (seKs ks z)), .arr 5 158 1 [.mp 4 4], .arr xv 24 1 (gcs d (.loc 7 yv 0 w) m), .arr yv 3 1 (y.map (.int .i64)), .arr vq 161 4 (rcs (seRs ks rs z (oneR r c)))], t⟩ := by
  have hrl := len_of hrow
  have hcl := len_of hz
  have hgl : g.length = g.length := rfl
  obtain ⟨hi1, hi2, b, hb, hbf⟩ := hs.in_ (z := z) (oneR_fit hr hc)
  have hil := idxOf_le (ks := ks) (z := z)
  have hsl := hs.1
  have hst := hs.step (z := z) (oneR_fit hr hc)
  have hfn := findKey_none hin
  have hki : seKs ks z = ks ++ [z] := by simp [seKs, hin]
  have hri : seIn ks rs z (oneR r c) = rs ++ [oneR r c] := by simp [seIn, hin]
  refine Ev.of ⟨Tryz.func167, by kernel_rfl, rfl, by kernel_rfl⟩ tabOk mixed (by show 5 ≤ Tryz.f167.ntmps; decide) ?_
  refine W.seq_region fun K hK => ?_
  simp (disch := omega) only [↓RU, RV, RH, ↓reduceIte, Nat.reduceEqDiff, reduceCtorEq, if_pos, ↓RS, RG, Nat.reduceAdd, Nat.reduceMul, Nat.reduceLeDiff]
  refine hK _ _ ?_
  clear hK K
  refine W.seq_draw (by kernel_rfl) fun K hK => ?_
  simp (disch := omega) only [↓RU, RV, RH, ↓reduceIte, Nat.reduceEqDiff, reduceCtorEq, if_pos, ↓RS, RG, Nat.reduceAdd, Nat.reduceMul, Nat.reduceLeDiff, tyLLint, tyLint, tyimpl_grid, tyint, tymapBint_int, hrow, hz, mE_len, hfn]
  refine hK _ _ ?_
  clear hK K
  refine W.joinS [0, 1, 2, 3, 4, 8] (fun vs S => ∃ vq t : Nat, vs = [.int .i64 (r : Nat), .int .i64 (c : Nat), .ref 5 5 0, .ref 0 0 0, .ref 3 3 0, .int .i64 ((ks.idxOf z : Nat) : Int)] ∧ S = ⟨[.arr 0 84 1 [eGrid g], .arr 1 3 1 [.int .i64 w], .arr 2 87 2 [.nils, .loc 8 vq 0 ((seIn ks rs z (oneR r c))).length], .arr 3 55 1 [.ref 2 2 0], .map 4 (mE (seKs ks z)), .arr 5 158 1 [.mp 4 4], .arr xv 24 1 (gcs d (.loc 7 yv 0 w) m), .arr yv 3 1 (y.map (.int .i64)), .arr vq 161 4 (rcs (seIn ks rs z (oneR r c)))], t⟩) ?_ ?_
  ·
    refine W.seq_region fun K hK => ?_
    simp (disch := omega) only [↓RU, RV, RH, ↓reduceIte, Nat.reduceEqDiff, reduceCtorEq, if_pos, ↓RS, RG, Nat.reduceAdd, Nat.reduceMul, Nat.reduceLeDiff]
    refine hK _ _ ?_
    clear hK K
    refine W.cond rfl (fun h => ?_) (fun h => ?_)
    · try simp only [RL] at h
      refine W.seq_region fun K hK => ?_
      simp (disch := omega) only [↓RU, RV, RH, ↓reduceIte, Nat.reduceEqDiff, reduceCtorEq, if_pos, ↓RS, RG, Nat.reduceAdd, Nat.reduceMul, Nat.reduceLeDiff, tyint, tymapBint_int, mE_len]
      refine hK _ _ ?_
      clear hK K
      refine W.seq_draw (by kernel_rfl) fun K hK => ?_
      simp (disch := omega) only [↓RU, RV, RH, ↓reduceIte, Nat.reduceEqDiff, reduceCtorEq, if_pos, ↓RS, RG, Nat.reduceAdd, Nat.reduceMul, Nat.reduceLeDiff, tyLLint, tyLint, tyimpl_grid, tyint, tymapBint_int, hrow, hz, hfn, keyed_int]
      refine hK _ _ ?_
      clear hK K
      refine W.region_pk 10 [some 35, some 36, some 37, some 38, some 39] [2, 3] (by decide) (by kernel_rfl) fun K hK => ?_
      simp only [List.take_succ_cons, List.take_zero, List.drop_succ_cons, List.drop_zero]
      refine eRunK_pend (.ref 2 2 0) rfl rfl rfl (fun S' hS => ?_) ?_
      · skip
        have k2 := (hS 2 (by decide)).trans (show _ = some _ from rfl)
        have k3 := (hS 3 (by decide)).trans (show _ = some _ from rfl)
        simp (disch := omega) only [↓RU, RV, RH, ↓reduceIte, Nat.reduceEqDiff, reduceCtorEq, if_pos, ↓RS, RG, Nat.reduceAdd, Nat.reduceMul, Nat.reduceLeDiff, tyLLint, tyLimpl_rect, tyLint, tyPimpl_floor, tyimpl_floor, tyimpl_grid, tyimpl_rect, tyint, tystruct_cells_impl_grid_rooms_Limpl_rect_, tystruct_row_int_col_int_high_int_wide_int_, rcs_len, rcell_len, rcell_all, pp_load, pp_nil, pp_fa, pp_ia, k2, k3]
      refine eRunK_pend (.ref 2 2 0) rfl rfl rfl (fun S' hS => ?_) ?_
      · skip
        have k2 := (hS 2 (by decide)).trans (show _ = some _ from rfl)
        have k3 := (hS 3 (by decide)).trans (show _ = some _ from rfl)
        simp (disch := omega) only [↓RU, RV, RH, ↓reduceIte, Nat.reduceEqDiff, reduceCtorEq, if_pos, ↓RS, RG, Nat.reduceAdd, Nat.reduceMul, Nat.reduceLeDiff, tyLLint, tyLimpl_rect, tyLint, tyPimpl_floor, tyimpl_floor, tyimpl_grid, tyimpl_rect, tyint, tystruct_cells_impl_grid_rooms_Limpl_rect_, tystruct_row_int_col_int_high_int_wide_int_, rcs_len, rcell_len, rcell_all, pp_load, pp_nil, pp_fa, pp_ia, k2, k3]
      refine eRunK_pend (.ref 2 2 0) rfl rfl rfl (fun S' hS => ?_) ?_
      · skip
        have k2 := (hS 2 (by decide)).trans (show _ = some _ from rfl)
        have k3 := (hS 3 (by decide)).trans (show _ = some _ from rfl)
        simp (disch := omega) only [↓RU, RV, RH, ↓reduceIte, Nat.reduceEqDiff, reduceCtorEq, if_pos, ↓RS, RG, Nat.reduceAdd, Nat.reduceMul, Nat.reduceLeDiff, tyLLint, tyLimpl_rect, tyLint, tyPimpl_floor, tyimpl_floor, tyimpl_grid, tyimpl_rect, tyint, tystruct_cells_impl_grid_rooms_Limpl_rect_, tystruct_row_int_col_int_high_int_wide_int_, rcs_len, rcell_len, rcell_all, pp_load, pp_nil, pp_fa, pp_ia, k2, k3]
      refine eRunK_pend (.ref 2 2 1) rfl rfl rfl (fun S' hS => ?_) ?_
      · skip
        have k2 := (hS 2 (by decide)).trans (show _ = some _ from rfl)
        have k3 := (hS 3 (by decide)).trans (show _ = some _ from rfl)
        simp (disch := omega) only [↓RU, RV, RH, ↓reduceIte, Nat.reduceEqDiff, reduceCtorEq, if_pos, ↓RS, RG, Nat.reduceAdd, Nat.reduceMul, Nat.reduceLeDiff, tyLLint, tyLimpl_rect, tyLint, tyPimpl_floor, tyimpl_floor, tyimpl_grid, tyimpl_rect, tyint, tystruct_cells_impl_grid_rooms_Limpl_rect_, tystruct_row_int_col_int_high_int_wide_int_, rcs_len, rcell_len, rcell_all, pp_load, pp_nil, pp_fa, pp_ia, k2, k3]
      refine eRunK_pend (.loc 8 vq 0 rs.length) rfl rfl rfl (fun S' hS => ?_) ?_
      · skip
        have k2 := (hS 2 (by decide)).trans (show _ = some _ from rfl)
        have k3 := (hS 3 (by decide)).trans (show _ = some _ from rfl)
        simp (disch := omega) only [↓RU, RV, RH, ↓reduceIte, Nat.reduceEqDiff, reduceCtorEq, if_pos, ↓RS, RG, Nat.reduceAdd, Nat.reduceMul, Nat.reduceLeDiff, tyLLint, tyLimpl_rect, tyLint, tyPimpl_floor, tyimpl_floor, tyimpl_grid, tyimpl_rect, tyint, tystruct_cells_impl_grid_rooms_Limpl_rect_, tystruct_row_int_col_int_high_int_wide_int_, rcs_len, rcell_len, rcell_all, pp_load, pp_nil, pp_fa, pp_ia, k2, k3]
      refine eRunK_go rfl ?_
      simp (disch := omega) only [↓RU, RV, RH, ↓reduceIte, Nat.reduceEqDiff, reduceCtorEq, if_pos, ↓RS, RG, Nat.reduceAdd, Nat.reduceMul, Nat.reduceLeDiff, tyLLint, tyLimpl_rect, tyLint, tyPimpl_floor, tyimpl_floor, tyimpl_grid, tyimpl_rect, tyint, tystruct_cells_impl_grid_rooms_Limpl_rect_, tystruct_row_int_col_int_high_int_wide_int_, rcs_len, rcell_len, rcell_all, keeps_cons, keeps_nil]
      refine eRunK_go rfl ?_
      simp (disch := omega) only [↓RU, RV, RH, ↓reduceIte, Nat.reduceEqDiff, reduceCtorEq, if_pos, ↓RS, RG, Nat.reduceAdd, Nat.reduceMul, Nat.reduceLeDiff, tyLLint, tyLimpl_rect, tyLint, tyPimpl_floor, tyimpl_floor, tyimpl_grid, tyimpl_rect, tyint, tystruct_cells_impl_grid_rooms_Limpl_rect_, tystruct_row_int_col_int_high_int_wide_int_, rcs_len, rcell_len, rcell_all, keeps_cons, keeps_nil]
      refine eRunK_go rfl ?_
      simp (disch := omega) only [↓RU, RV, RH, ↓reduceIte, Nat.reduceEqDiff, reduceCtorEq, if_pos, ↓RS, RG, Nat.reduceAdd, Nat.reduceMul, Nat.reduceLeDiff, tyLLint, tyLimpl_rect, tyLint, tyPimpl_floor, tyimpl_floor, tyimpl_grid, tyimpl_rect, tyint, tystruct_cells_impl_grid_rooms_Limpl_rect_, tystruct_row_int_col_int_high_int_wide_int_, rcs_len, rcell_len, rcell_all, keeps_cons, keeps_nil]
      refine eRunK_go rfl ?_
      simp (disch := omega) only [↓RU, RV, RH, ↓reduceIte, Nat.reduceEqDiff, reduceCtorEq, if_pos, ↓RS, RG, Nat.reduceAdd, Nat.reduceMul, Nat.reduceLeDiff, tyLLint, tyLimpl_rect, tyLint, tyPimpl_floor, tyimpl_floor, tyimpl_grid, tyimpl_rect, tyint, tystruct_cells_impl_grid_rooms_Limpl_rect_, tystruct_row_int_col_int_high_int_wide_int_, rcs_len, rcell_len, rcell_all, keeps_cons, keeps_nil]
      refine eRunK_go rfl ?_
      simp (disch := omega) only [↓RU, RV, RH, ↓reduceIte, Nat.reduceEqDiff, reduceCtorEq, if_pos, ↓RS, RG, Nat.reduceAdd, Nat.reduceMul, Nat.reduceLeDiff, tyLLint, tyLimpl_rect, tyLint, tyPimpl_floor, tyimpl_floor, tyimpl_grid, tyimpl_rect, tyint, tystruct_cells_impl_grid_rooms_Limpl_rect_, tystruct_row_int_col_int_high_int_wide_int_, rcs_len, rcell_len, rcell_all, keeps_cons, keeps_nil]
      refine eRunK_end ?_
      simp (disch := omega) only [↓RU, RV, RH, ↓reduceIte, Nat.reduceEqDiff, reduceCtorEq, if_pos, ↓RS, RG, Nat.reduceAdd, Nat.reduceMul, Nat.reduceLeDiff, tyLLint, tyLimpl_rect, tyLint, tyPimpl_floor, tyimpl_floor, tyimpl_grid, tyimpl_rect, tyint, tystruct_cells_impl_grid_rooms_Limpl_rect_, tystruct_row_int_col_int_high_int_wide_int_, rcs_len, rcell_len, rcell_all]
      refine hK _ _ ?_
      clear hK K
      refine XThen.norm ?_
      refine ⟨9, [], [.int .i64 (r : Nat), .int .i64 (c : Nat), .ref 5 5 0, .ref 0 0 0, .ref 3 3 0, .int .i64 ((ks.idxOf z : Nat) : Int)], ⟨[.arr 0 84 1 [eGrid g], .arr 1 3 1 [.int .i64 w], .arr 2 87 2 [.nils, .loc 8 (t + 1) 0 ((seIn ks rs z (oneR r c))).length], .arr 3 55 1 [.ref 2 2 0], .map 4 (mE (seKs ks z)), .arr 5 158 1 [.mp 4 4], .arr xv 24 1 (gcs d (.loc 7 yv 0 w) m), .arr yv 3 1 (y.map (.int .i64)), .arr (t + 1) 161 4 (rcs (seIn ks rs z (oneR r c)))], (t + 3)⟩, ?_, ?_, (t + 1), (t + 3), rfl, rfl⟩
      · rw [hin]; simp [-List.mapM_map, Env.put, Env.of, argEnv, Srn_eq, rnObs_cons, rnObs_nil, rnOb_arr, rnOb_map, rn_loc, rn_ref, rn_mp, rn_int, rn_bool, rn_str, rn_ip, rn_sl, rn_nils, rn_nilp, rn_undef, rn_agg, rn_tup, rn_fn, rfq_loc, rfq_int, rfq_bool, rfq_str, rfq_sl, frOf, List.range_succ, List.mapM_append, List.mapM_cons]
      · rw [hki, hri]; simp [-List.mapM_map, Env.put, Env.of, argEnv, Srn_eq, rnObs_cons, rnObs_nil, rnOb_arr, rnOb_map, rn_loc, rn_ref, rn_mp, rn_int, rn_bool, rn_str, rn_ip, rn_sl, rn_nils, rn_nilp, rn_undef, rn_agg, rn_tup, rn_fn, rfq_loc, rfq_int, rfq_bool, rfq_str, rfq_sl, frOf, List.range_succ, List.mapM_append, List.mapM_cons, rn_mE, rn_rcs, rn_ints, rn_gcs, mE_app, rcs_app, rcs_one, oneR_cells, rcs_tk]
    · try simp only [RL] at h
      exact absurd h (by simp)
  rintro vs S - ⟨vq, t, rfl, rfl⟩
  have hrs2 := seRs_is hb
  generalize hks1 : seKs ks z = ks1 at hi1 hst
  generalize hrs1 : seIn ks rs z (oneR r c) = rs1 at hb hi1 hi2 hrs2
  have hbl := len_of hb
  refine W.seq_draw (by kernel_rfl) fun K hK => ?_
  have hcell := (oneR_cells (r := r) (c := c)).symm
  have hba : PV.agg b.cells = eRect b := rfl
  simp (disch := omega) only [↓RU, RV, RH, ↓reduceIte, Nat.reduceEqDiff, reduceCtorEq, if_pos, List.append_nil, ↓RS, RG, Nat.reduceAdd, Nat.reduceMul, Nat.reduceLeDiff, tyLLint, tyLimpl_rect, tyLint, tyPimpl_floor, tyimpl_floor, tyimpl_grid, tyimpl_rect, tyint, tystruct_cells_impl_grid_rooms_Limpl_rect_, tystruct_row_int_col_int_high_int_wide_int_, rcs_at hb, rcs_len, ← oneR_cells, hcell, rcell_len, rcell_all, rcs_set4]
  refine CallR.pc (both_pc (b := b) (o := oneR r c) hbf.in_ (oneR_fit hr hc).in_) rfl (.inl rfl) ?_
  simp (disch := omega) only [↓RU, RV, RH, ↓reduceIte, Nat.reduceEqDiff, reduceCtorEq, if_pos, List.append_nil, ↓RS, RG, Nat.reduceAdd, Nat.reduceMul, Nat.reduceLeDiff, tyLLint, tyLimpl_rect, tyLint, tyPimpl_floor, tyimpl_floor, tyimpl_grid, tyimpl_rect, tyint, tystruct_cells_impl_grid_rooms_Limpl_rect_, tystruct_row_int_col_int_high_int_wide_int_, rcs_at hb, rcs_len, ← oneR_cells, hcell, rcell_len, rcell_all, rcs_set4]
  refine hK _ _ ?_
  clear hK K
  refine W.seq_region fun K hK => ?_
  simp (disch := omega) only [↓RU, RV, RH, ↓reduceIte, Nat.reduceEqDiff, reduceCtorEq, if_pos, ↓RS, RG, Nat.reduceAdd, Nat.reduceMul, Nat.reduceLeDiff]
  refine hK _ _ ?_
  clear hK K
  refine W.ret ?_
  refine BodyQ.ret rfl ?_
  refine ⟨9, rfl, vq, t, ?_⟩
  rw [hrs2]
  simp [take_eq]

end Fw
end Go.Proofs.YtcglmbijpjhbmaaGreat

/-! Grids of the program, gone through. -/
namespace Go.Proofs.YtcglmbijpjhbmaaGreat
namespace Fw
open Go

theorem settled2_ev {g d : List (List Int)} {y : List Int} {row ks : List Int} {rs : List Rect} {z : Int} {r c w m xv yv vq t : Nat} (hr : r < 6) (hc : c < 6) (hrow : g[r]? = some row) (hz : row[c]? = some z) (hs : SeOk ks rs) (hk : ks.length ≤ 64) :
    Ev Tryz.prog 167 [.int .i64 (r : Nat), .int .i64 (c : Nat), .ref 5 5 0, .ref 0 0 0, .ref 3 3 0] (seS g w xv yv (gcs d (.loc 7 yv 0 w) m) (y.map (.int .i64)) ks rs vq t)
      fun v S => v = .int .i64 ((ks.idxOf z : Nat) : Int) ∧ ∃ vq t : Nat, S = seS g w xv yv (gcs d (.loc 7 yv 0 w) m) (y.map (.int .i64)) (seKs ks z) (seRs ks rs z (oneR r c)) vq t := by
  have hne : seRs ks rs z (oneR r c) ≠ [] := (hs.step (z := z) (oneR_fit hr hc)).ne seKs_len.2.2
  simp only [seS_ne hne]
  by_cases h0 : rs = []
  · subst h0
    rw [seS_nil]
    exact settled2_first_ev (vq := 0) hr hc hrow hz hs hk rfl hs.nl
  · rw [seS_ne h0]
    by_cases hin : ks.idxOf z = ks.length
    · exact settled2_new_ev hr hc hrow hz hs hk hin
    · exact settled2_old_ev hr hc hrow hz hs hk hin

theorem blank_ev {g : List (List Int)} {nh nw : Nat} (hg : GW g nh nw) : Ev Tryz.prog 166 [.int .i64 nh, .int .i64 nw, .fn 167 [.ref 5 5 0, .ref 0 0 0, .ref 3 3 0]] ⟨prS g nw .nils [], 6⟩ fun v S => ∃ xv vq t : Nat, v = .loc 6 xv 0 nh ∧ S = seO g nw xv ((zRows g nw nh).map eInts) (seRows g nw nh).1 (seRows g nw nh).2 vq t := by
  have hl := hg.1
  obtain ⟨hg1, hg2, hg3, hg4⟩ := hg.2.2
  refine Ev.of ⟨Tryz.func166, by kernel_rfl, rfl, by kernel_rfl⟩ tabOk mixed (by show 3 ≤ Tryz.f166.ntmps; decide) ?_
  refine W.seq_region fun K hK => ?_
  simp (disch := omega) only [↓RU, RV, RH, ↓reduceIte, Nat.reduceEqDiff, reduceCtorEq, if_pos, ↓RS, RG, Nat.reduceAdd, Nat.reduceMul, Nat.reduceLeDiff, prS]
  refine hK _ _ ?_
  clear hK K
  refine W.seq_region fun K hK => ?_
  simp (disch := omega) only [↓RU, RV, RH, ↓reduceIte, Nat.reduceEqDiff, reduceCtorEq, if_pos, ↓RS, RG, Nat.reduceAdd, Nat.reduceMul, Nat.reduceLeDiff, tyLLint, tyLint, tyimpl_grid, tyint, prS, repz_nils, repz_int, ile_true]
  refine hK _ _ ?_
  clear hK K
  refine W.seq ?_
  refine W.seq_region fun K hK => ?_
  simp (disch := omega) only [↓RU, RV, RH, ↓reduceIte, Nat.reduceEqDiff, reduceCtorEq, if_pos, ↓RS, RG, Nat.reduceAdd, Nat.reduceMul, Nat.reduceLeDiff, tyLLint, tyLint, tyimpl_grid, tyint, prS]
  refine hK _ _ ?_
  clear hK K
  refine W.block ?_
  refine W.loopS [1, 2, 7, 13, 14] (fun n vs S => ∃ (i xv vq t : Nat), n = nh - i ∧ i ≤ nh ∧ vs = [.int .i64 nw, .fn 167 [.ref 5 5 0, .ref 0 0 0, .ref 3 3 0], .loc 6 xv 0 nh, .int .i64 nh, .int .i64 (i : Nat)] ∧ S = seO g nw xv (gc0 (zRows g nw i) (nh - i)) (seRows g nw i).1 (seRows g nw i).2 vq t) nh ?_ ?_
  · refine ⟨7, [], [.int .i64 nw, .fn 167 [.ref 5 5 0, .ref 0 0 0, .ref 3 3 0], .loc 6 6 0 nh, .int .i64 nh, .int .i64 (0 : Nat)], seO g nw 6 (gc0 (zRows g nw 0) (nh - 0)) (seRows g nw 0).1 (seRows g nw 0).2 0 8, ?_, ?_, 0, 6, 0, 8, rfl, Nat.zero_le _, rfl, rfl⟩
    · simp [-List.mapM_map, Env.put, Env.of, argEnv, Srn_eq, rnObs_cons, rnObs_nil, rnOb_arr, rnOb_map, rn_loc, rn_ref, rn_mp, rn_int, rn_bool, rn_str, rn_ip, rn_sl, rn_nils, rn_nilp, rn_undef, rn_agg, rn_tup, rn_fn, rfq_loc, rfq_int, rfq_bool, rfq_str, rfq_sl, frOf, List.range_succ, List.mapM_append, List.mapM_cons]
    · simp [-List.mapM_map, Env.put, Env.of, argEnv, Srn_eq, rnObs_cons, rnObs_nil, rnOb_arr, rnOb_map, rn_loc, rn_ref, rn_mp, rn_int, rn_bool, rn_str, rn_ip, rn_sl, rn_nils, rn_nilp, rn_undef, rn_agg, rn_tup, rn_fn, rfq_loc, rfq_int, rfq_bool, rfq_str, rfq_sl, frOf, List.range_succ, List.mapM_append, List.mapM_cons, prS, seO_nil, seRows, zRows, gc0_nil, rn_nilsr, rn_mE]
  rintro n vs S - ⟨i, xv, vq, t, rfl, h_i, rfl, rfl⟩
  refine W.seq_region fun K hK => ?_
  simp (disch := omega) only [↓RU, RV, RH, ↓reduceIte, Nat.reduceEqDiff, reduceCtorEq, if_pos, w64, ↓RS, RG, Nat.reduceAdd, Nat.reduceMul, Nat.reduceLeDiff, tyint, prS]
  refine hK _ _ ?_
  clear hK K
  refine W.seq ?_
  refine W.cond rfl (fun h => ?_) (fun h => ?_)
  · try simp only [RL] at h
    have hzl := zRows_len (g := g) (nw := nw) i
    have hiw : i < nh := by omega
    obtain ⟨hso, hsl, hsp⟩ := seRows_ok (g := g) hg4 hg3 i (by omega)
    refine W.skip ?_
    refine XThen.norm ?_
    refine W.seq ?_
    refine W.block ?_
    refine W.seq_region fun K hK => ?_
    simp (disch := omega) only [↓RU, RV, RH, ↓reduceIte, Nat.reduceEqDiff, reduceCtorEq, if_pos, ↓RS, RG, Nat.reduceAdd, Nat.reduceMul, Nat.reduceLeDiff, prS]
    refine hK _ _ ?_
    clear hK K
    refine W.joinS [1, 2, 7, 8, 13, 14] (fun vs S => ∃ (yv vq t : Nat), vs = [.int .i64 nw, .fn 167 [.ref 5 5 0, .ref 0 0 0, .ref 3 3 0], .loc 6 xv 0 nh, .int .i64 (i : Nat), .int .i64 nh, .int .i64 (i : Nat)] ∧ S = seS g nw xv yv (gcs (zRows g nw i) (.loc 7 yv 0 nw) (nh - i - 1)) ((List.replicate nw 0).map (.int .i64)) (seRows g nw i).1 (seRows g nw i).2 vq t) ?_ ?_
    ·
      refine W.region_k fun K hK => ?_
      by_cases hi0 : seRows g nw i = ([], [])
      · skip
        rw [hi0, seO_nil]
        simp (disch := omega) only [↓RU, RV, RH, ↓reduceIte, Nat.reduceEqDiff, reduceCtorEq, if_pos, ↓RS, RG, Nat.reduceAdd, Nat.reduceMul, Nat.reduceLeDiff, tyLLint, tyLint, tyimpl_grid, tyint, prS, repz_int, ile_true, gc0_len, zRows_len, gc0_set]
        refine hK _ _ ?_
        clear hK K
        refine XThen.norm ?_
        refine ⟨8, [], [.int .i64 nw, .fn 167 [.ref 5 5 0, .ref 0 0 0, .ref 3 3 0], .loc 6 xv 0 nh, .int .i64 (i : Nat), .int .i64 nh, .int .i64 (i : Nat)], seS g nw xv t (gcs (zRows g nw i) (.loc 7 t 0 nw) (nh - i - 1)) ((List.replicate nw 0).map (.int .i64)) (seRows g nw i).1 (seRows g nw i).2 vq (t + 2), ?_, ?_, t, vq, t + 2, rfl, rfl⟩
        · simp [-List.mapM_map, Env.put, Env.of, argEnv, Srn_eq, rnObs_cons, rnObs_nil, rnOb_arr, rnOb_map, rn_loc, rn_ref, rn_mp, rn_int, rn_bool, rn_str, rn_ip, rn_sl, rn_nils, rn_nilp, rn_undef, rn_agg, rn_tup, rn_fn, rfq_loc, rfq_int, rfq_bool, rfq_str, rfq_sl, frOf, List.range_succ, List.mapM_append, List.mapM_cons]
        · rw [hi0, seS_nil]; simp [-List.mapM_map, Env.put, Env.of, argEnv, Srn_eq, rnObs_cons, rnObs_nil, rnOb_arr, rnOb_map, rn_loc, rn_ref, rn_mp, rn_int, rn_bool, rn_str, rn_ip, rn_sl, rn_nils, rn_nilp, rn_undef, rn_agg, rn_tup, rn_fn, rfq_loc, rfq_int, rfq_bool, rfq_str, rfq_sl, frOf, List.range_succ, List.mapM_append, List.mapM_cons, prS, rn_mE, rn_rcs, rn_ints, rn_gcs, rn_rep, show List.idxOf 7 [8, 7] = 1 from rfl]
      · skip
        have hne : (seRows g nw i).2 ≠ [] := fun e => hi0 (by have := hso; rw [e] at this; rw [← Prod.eta (seRows g nw i), e, this.nl])
        rw [seO_ne hne]
        simp (disch := omega) only [↓RU, RV, RH, ↓reduceIte, Nat.reduceEqDiff, reduceCtorEq, if_pos, ↓RS, RG, Nat.reduceAdd, Nat.reduceMul, Nat.reduceLeDiff, tyLLint, tyLint, tyimpl_grid, tyint, prS, repz_int, ile_true, gc0_len, zRows_len, gc0_set]
        refine hK _ _ ?_
        clear hK K
        refine XThen.norm ?_
        refine ⟨7, [8, 7], [.int .i64 nw, .fn 167 [.ref 5 5 0, .ref 0 0 0, .ref 3 3 0], .loc 6 xv 0 nh, .int .i64 (i : Nat), .int .i64 nh, .int .i64 (i : Nat)], seS g nw xv (t + 1) (gcs (zRows g nw i) (.loc 7 (t + 1) 0 nw) (nh - i - 1)) ((List.replicate nw 0).map (.int .i64)) (seRows g nw i).1 (seRows g nw i).2 (t + 1) (t + 2), ?_, ?_, t + 1, t + 1, t + 2, rfl, rfl⟩
        · simp [-List.mapM_map, Env.put, Env.of, argEnv, Srn_eq, rnObs_cons, rnObs_nil, rnOb_arr, rnOb_map, rn_loc, rn_ref, rn_mp, rn_int, rn_bool, rn_str, rn_ip, rn_sl, rn_nils, rn_nilp, rn_undef, rn_agg, rn_tup, rn_fn, rfq_loc, rfq_int, rfq_bool, rfq_str, rfq_sl, frOf, List.range_succ, List.mapM_append, List.mapM_cons]
        · rw [seS_ne hne]; simp [-List.mapM_map, Env.put, Env.of, argEnv, Srn_eq, rnObs_cons, rnObs_nil, rnOb_arr, rnOb_map, rn_loc, rn_ref, rn_mp, rn_int, rn_bool, rn_str, rn_ip, rn_sl, rn_nils, rn_nilp, rn_undef, rn_agg, rn_tup, rn_fn, rfq_loc, rfq_int, rfq_bool, rfq_str, rfq_sl, frOf, List.range_succ, List.mapM_append, List.mapM_cons, prS, rn_mE, rn_rcs, rn_ints, rn_gcs, rn_rep, show List.idxOf 7 [8, 7] = 1 from rfl]
    rintro vs S - ⟨yv, vq, t, rfl, rfl⟩
    refine W.seq_region fun K hK => ?_
    simp (disch := omega) only [↓RU, RV, RH, ↓reduceIte, Nat.reduceEqDiff, reduceCtorEq, if_pos, ↓RS, RG, Nat.reduceAdd, Nat.reduceMul, Nat.reduceLeDiff, tyLLint, tyLint, tyimpl_grid, tyint, prS, seS_get6, seS_get7, gcs_get, gcs_len, hzl]
    refine hK _ _ ?_
    clear hK K
    refine W.block ?_
    refine W.loop [1, 2, 7, 8, 13, 14, 26, 27] (fun n vs S => ∃ (j vq t : Nat), n = nw - j ∧ j ≤ nw ∧ vs = [.int .i64 nw, .fn 167 [.ref 5 5 0, .ref 0 0 0, .ref 3 3 0], .loc 6 xv 0 nh, .int .i64 (i : Nat), .int .i64 nh, .int .i64 (i : Nat), .int .i64 nw, .int .i64 (j : Nat)] ∧ S = seS g nw xv yv (gcs (zRows g nw i) (.loc 7 yv 0 nw) (nh - i - 1)) ((zRow g i (seRows g nw i) j ++ List.replicate (nw - j) 0).map (.int .i64)) (seRow g i (seRows g nw i) j).1 (seRow g i (seRows g nw i) j).2 vq t) nw ?_ ?_
    · refine ⟨_, 0, vq, t, rfl, Nat.zero_le _, ?_, take_all⟩
      simp [Env.put, Env.of]
    rintro n vs S - ⟨j, vq, t, rfl, h_j, rfl, rfl⟩
    refine W.seq_region fun K hK => ?_
    simp (disch := omega) only [↓RU, RV, RH, ↓reduceIte, Nat.reduceEqDiff, reduceCtorEq, if_pos, w64, ↓RS, RG, Nat.reduceAdd, Nat.reduceMul, Nat.reduceLeDiff, tyint, prS]
    refine hK _ _ ?_
    clear hK K
    refine W.seq ?_
    refine W.cond rfl (fun h1 => ?_) (fun h1 => ?_)
    · try simp only [RL] at h1
      have hjw : j < nw := by omega
      obtain ⟨row, hrow, hrl, hz⟩ := hg.at_ hiw hjw
      obtain ⟨hro, hrl2, -, -⟩ := seRow_ok (g := g) (i := i) (by omega) hso j (by omega)
      have hYl : (zRow g i (seRows g nw i) j ++ List.replicate (nw - j) 0).length = nw := by simp only [List.length_append, List.length_replicate, zRow_len]; omega
      generalize hY : zRow g i (seRows g nw i) j ++ List.replicate (nw - j) 0 = Y at hYl
      refine W.skip ?_
      refine XThen.norm ?_
      refine W.seq ?_
      refine W.block ?_
      refine W.seq_region fun K hK => ?_
      simp (disch := omega) only [↓RU, RV, RH, ↓reduceIte, Nat.reduceEqDiff, reduceCtorEq, if_pos, ↓RS, RG, Nat.reduceAdd, Nat.reduceMul, Nat.reduceLeDiff, prS]
      refine hK _ _ ?_
      clear hK K
      refine W.region_pk 9 [some 32, some 33] [6] (by decide) (by kernel_rfl) fun K hK => ?_
      simp only [List.take_succ_cons, List.take_zero, List.drop_succ_cons, List.drop_zero]
      refine eRunK_go rfl ?_
      simp (disch := omega) only [↓RU, RV, RH, ↓reduceIte, Nat.reduceEqDiff, reduceCtorEq, if_pos, List.append_nil, ↓RS, RG, Nat.reduceAdd, Nat.reduceMul, Nat.reduceLeDiff, tyLLint, tyLint, tyimpl_grid, tyint, prS, seS_get6, seS_get7, gcs_get, gcs_len, hzl, seS_upd, set_spl, set_int, hYl, keeps_cons, keeps_nil]
      refine eRunK_go rfl ?_
      simp (disch := omega) only [↓RU, RV, RH, ↓reduceIte, Nat.reduceEqDiff, reduceCtorEq, if_pos, List.append_nil, ↓RS, RG, Nat.reduceAdd, Nat.reduceMul, Nat.reduceLeDiff, tyLLint, tyLint, tyimpl_grid, tyint, prS, seS_get6, seS_get7, gcs_get, gcs_len, hzl, seS_upd, set_spl, set_int, hYl, keeps_cons, keeps_nil]
      refine eRunK_pend (.ref 6 xv i) rfl rfl rfl (fun S' hS => ?_) ?_
      · skip
        have k6 := (hS 6 (by decide)).trans seS_get6
        simp (disch := omega) only [↓RU, RV, RH, ↓reduceIte, Nat.reduceEqDiff, reduceCtorEq, if_pos, List.append_nil, ↓RS, RG, Nat.reduceAdd, Nat.reduceMul, Nat.reduceLeDiff, tyLLint, tyLint, tyimpl_grid, tyint, prS, seS_get6, seS_get7, gcs_get, gcs_len, hzl, seS_upd, set_spl, set_int, hYl, pp_load, pp_nil, pp_fa, pp_ia, k6]
      refine eRunK_pend (.loc 7 yv 0 nw) rfl rfl rfl (fun S' hS => ?_) ?_
      · skip
        have k6 := (hS 6 (by decide)).trans seS_get6
        simp (disch := omega) only [↓RU, RV, RH, ↓reduceIte, Nat.reduceEqDiff, reduceCtorEq, if_pos, List.append_nil, ↓RS, RG, Nat.reduceAdd, Nat.reduceMul, Nat.reduceLeDiff, tyLLint, tyLint, tyimpl_grid, tyint, prS, seS_get6, seS_get7, gcs_get, gcs_len, hzl, seS_upd, set_spl, set_int, hYl, pp_load, pp_nil, pp_fa, pp_ia, k6]
      refine eRunK_go rfl ?_
      simp (disch := omega) only [↓RU, RV, RH, ↓reduceIte, Nat.reduceEqDiff, reduceCtorEq, if_pos, List.append_nil, ↓RS, RG, Nat.reduceAdd, Nat.reduceMul, Nat.reduceLeDiff, tyLLint, tyLint, tyimpl_grid, tyint, prS, seS_get6, seS_get7, gcs_get, gcs_len, hzl, seS_upd, set_spl, set_int, hYl, keeps_cons, keeps_nil]
      refine eRunK_go rfl ?_
      simp (disch := omega) only [↓RU, RV, RH, ↓reduceIte, Nat.reduceEqDiff, reduceCtorEq, if_pos, List.append_nil, ↓RS, RG, Nat.reduceAdd, Nat.reduceMul, Nat.reduceLeDiff, tyLLint, tyLint, tyimpl_grid, tyint, prS, seS_get6, seS_get7, gcs_get, gcs_len, hzl, seS_upd, set_spl, set_int, hYl, keeps_cons, keeps_nil]
      refine eRunK_go rfl ?_
      simp (disch := omega) only [↓RU, RV, RH, ↓reduceIte, Nat.reduceEqDiff, reduceCtorEq, if_pos, List.append_nil, ↓RS, RG, Nat.reduceAdd, Nat.reduceMul, Nat.reduceLeDiff, tyLLint, tyLint, tyimpl_grid, tyint, prS, seS_get6, seS_get7, gcs_get, gcs_len, hzl, seS_upd, set_spl, set_int, hYl, keeps_cons, keeps_nil]
      refine eRunK_go rfl ?_
      simp (disch := omega) only [↓RU, RV, RH, ↓reduceIte, Nat.reduceEqDiff, reduceCtorEq, if_pos, List.append_nil, ↓RS, RG, Nat.reduceAdd, Nat.reduceMul, Nat.reduceLeDiff, tyLLint, tyLint, tyimpl_grid, tyint, prS, seS_get6, seS_get7, gcs_get, gcs_len, hzl, seS_upd, set_spl, set_int, hYl, keeps_cons, keeps_nil]
      refine eRunK_go rfl ?_
      simp (disch := omega) only [↓RU, RV, RH, ↓reduceIte, Nat.reduceEqDiff, reduceCtorEq, if_pos, List.append_nil, ↓RS, RG, Nat.reduceAdd, Nat.reduceMul, Nat.reduceLeDiff, tyLLint, tyLint, tyimpl_grid, tyint, prS, seS_get6, seS_get7, gcs_get, gcs_len, hzl, seS_upd, set_spl, set_int, hYl, keeps_cons, keeps_nil]
      refine CallR.ev (settled2_ev (y := Y) (by omega) (by omega) hrow hz hro (by omega)) ?_
      rintro _ _ ⟨rfl, vq2, t2, rfl⟩
      simp (disch := omega) only [↓RU, RV, RH, ↓reduceIte, Nat.reduceEqDiff, reduceCtorEq, if_pos, List.append_nil, ↓RS, RG, Nat.reduceAdd, Nat.reduceMul, Nat.reduceLeDiff, tyLLint, tyLint, tyimpl_grid, tyint, prS, seS_get6, seS_get7, gcs_get, gcs_len, hzl, seS_upd, set_spl, set_int, hYl, keeps_cons, keeps_nil]
      refine eRunK_end ?_
      simp (disch := omega) only [↓RU, RV, RH, ↓reduceIte, Nat.reduceEqDiff, reduceCtorEq, if_pos, List.append_nil, ↓RS, RG, Nat.reduceAdd, Nat.reduceMul, Nat.reduceLeDiff, tyLLint, tyLint, tyimpl_grid, tyint, prS, seS_get6, seS_get7, gcs_get, gcs_len, hzl, seS_upd, set_spl, set_int, hYl]
      refine hK _ _ ?_
      clear hK K
      refine XBlock.norm ?_
      refine XThen.norm ?_
      refine W.region_k fun K hK => ?_
      simp (disch := omega) only [↓RU, RV, RH, ↓reduceIte, Nat.reduceEqDiff, reduceCtorEq, if_pos, w64, ↓RS, RG, Nat.reduceAdd, Nat.reduceMul, Nat.reduceLeDiff, tyint, prS]
      refine hK _ _ ?_
      clear hK K
      refine XThen.norm ?_
      refine ⟨nw - (j + 1), by omega, _, j + 1, vq2, t2, rfl, by omega, ?_, take_all_of ?_⟩
      rotate_left
      · rw [show zRow g i (seRows g nw i) (j + 1) ++ List.replicate (nw - (j + 1)) 0 = (zRow g i (seRows g nw i) j ++ List.replicate (nw - j) 0).set j (((seRow g i (seRows g nw i) j).1.idxOf (gz g i j) : Nat) : Int) from zRow_set hjw, hY]; rfl
      · simp [Env.put, Env.of]
    · try simp only [RL] at h1
      obtain rfl : nw = j := by omega
      obtain ⟨hro, hrl2, -, hro4⟩ := seRow_ok (g := g) (i := i) (by omega) hso nw hg4
      have hne := hro.ne (hro4 hg3)
      have hY : zRow g i (seRows g nw i) nw ++ List.replicate (nw - nw) 0 = zRow g i (seRows g nw i) nw := by rw [Nat.sub_self]; exact List.append_nil _
      have hYl := zRow_len (g := g) (i := i) (s := seRows g nw i) nw
      rw [hY, seS_ne hne]
      generalize hYe : zRow g i (seRows g nw i) nw = Y at hYl
      have hYt : (Y.map (PV.int .i64)).take nw = Y.map (PV.int .i64) := List.take_of_length_le (by rw [List.length_map]; omega)
      have hYE : eInts Y = PV.sl (Y.map (PV.int .i64)) nw := by rw [← hYl]
      have hsr : seRow g i (seRows g nw i) nw = seRows g nw (i + 1) := rfl
      rw [hsr] at hne ⊢
      have hzs : zRows g nw (i + 1) = zRows g nw i ++ [Y] := by rw [← hYe]; rfl
      refine W.exit ?_
      refine XThen.exit ?_
      refine XThen.exit ?_
      refine XBlock.hit ?_
      refine XBlock.norm ?_
      refine XThen.norm ?_
      refine W.region_k fun K hK => ?_
      simp (disch := omega) only [↓RU, RV, RH, ↓reduceIte, Nat.reduceEqDiff, reduceCtorEq, if_pos, w64, ↓RS, RG, Nat.reduceAdd, Nat.reduceMul, Nat.reduceLeDiff, tyint, prS]
      refine hK _ _ ?_
      clear hK K
      refine XThen.norm ?_
      refine ⟨nh - (i + 1), by omega, 7, [8], [.int .i64 nw, .fn 167 [.ref 5 5 0, .ref 0 0 0, .ref 3 3 0], .loc 6 xv 0 nh, .int .i64 nh, .int .i64 ((i + 1 : Nat) : Int)], seO g nw xv (gc0 (zRows g nw (i + 1)) (nh - (i + 1))) (seRows g nw (i + 1)).1 (seRows g nw (i + 1)).2 t (t + 1), ?_, ?_, i + 1, xv, t + 0, t + 1, rfl, by omega, rfl, rfl⟩
      · simp [-List.mapM_map, Env.put, Env.of, argEnv, Srn_eq, rnObs_cons, rnObs_nil, rnOb_arr, rnOb_map, rn_loc, rn_ref, rn_mp, rn_int, rn_bool, rn_str, rn_ip, rn_sl, rn_nils, rn_nilp, rn_undef, rn_agg, rn_tup, rn_fn, rfq_loc, rfq_int, rfq_bool, rfq_str, rfq_sl, frOf, List.range_succ, List.mapM_append, List.mapM_cons]
      · rw [seO_ne hne, hzs, ← gcs_gc0]; simp [-List.mapM_map, Env.put, Env.of, argEnv, Srn_eq, rnObs_cons, rnObs_nil, rnOb_arr, rnOb_map, rn_loc, rn_ref, rn_mp, rn_int, rn_bool, rn_str, rn_ip, rn_sl, rn_nils, rn_nilp, rn_undef, rn_agg, rn_tup, rn_fn, rfq_loc, rfq_int, rfq_bool, rfq_str, rfq_sl, frOf, List.range_succ, List.mapM_append, List.mapM_cons, prS, rn_mE, rn_rcs, rn_ints, rn_gcs2, hYl, hYt, hYE, rfq_ints, show nh - i - 1 = nh - (i + 1) by omega, show List.idxOf 8 [8] = 0 from rfl]
  · try simp only [RL] at h
    obtain rfl : nh = i := by omega
    refine W.exit ?_
    refine XThen.exit ?_
    refine XThen.exit ?_
    refine XBlock.hit ?_
    refine XThen.norm ?_
    refine W.seq_region fun K hK => ?_
    simp (disch := omega) only [↓RU, RV, RH, ↓reduceIte, Nat.reduceEqDiff, reduceCtorEq, if_pos, ↓RS, RG, Nat.reduceAdd, Nat.reduceMul, Nat.reduceLeDiff, prS]
    refine hK _ _ ?_
    clear hK K
    refine W.ret ?_
    refine BodyQ.ret rfl ?_
    rw [Nat.sub_self, gc0_all]
    exact ⟨_, xv, vq, t, rfl, take_all⟩

end Fw
end Go.Proofs.YtcglmbijpjhbmaaGreat

/-! Plans of the program, gone through. -/
namespace Go.Proofs.YtcglmbijpjhbmaaGreat
namespace Fw
open Go

theorem settled_pc {g : List (List Int)} (hsm : g.length < 2147483648) (hsr : ∀ r ∈ g, r.length < 2147483648) : PC Tryz.prog 140 [eGrid g] (settledV g) false := by
  refine PC.of ⟨Tryz.func140, by kernel_rfl, rfl, by kernel_rfl⟩ tabOk mixed (by show 1 ≤ Tryz.f140.ntmps; decide) ?_
  refine W.seq_region fun K hK => ?_
  simp (disch := omega) only [↓RU, RV, RH, ↓reduceIte, Nat.reduceEqDiff, reduceCtorEq, if_pos, ↓RS, RG, Nat.reduceAdd, Nat.reduceMul, Nat.reduceLeDiff, tyLLint, tyLint, tyimpl_grid, tyint]
  refine hK _ _ ?_
  clear hK K
  refine W.seq ?_
  refine W.seq_region fun K hK => ?_
  have hcase : g.length < 1 ∨ 6 < g.length ∨ ∃ row : List Int, g[0]? = some row ∧ row ∈ g ∧ (1 ≤ g.length ∧ g.length ≤ 6) ∧ (row.length < 1 ∨ 6 < row.length ∨ (1 ≤ row.length ∧ row.length ≤ 6)) := by
    by_cases h1 : g.length < 1
    · exact .inl h1
    · obtain ⟨row, h2, h3⟩ := get_of (show 0 < g.length by omega)
      by_cases h4 : 6 < g.length
      · exact .inr (.inl h4)
      · exact .inr (.inr ⟨row, h2, h3, by omega, by omega⟩)
  rcases hcase with hb | hb | ⟨row, hrow, hrm, hgl, hb | hb | hb⟩
  · skip
    have hd : decide ((g.length : Int) < 1) = true := decide_eq_true (by omega)
    simp (disch := omega) only [↓RU, RV, RH, ↓reduceIte, Nat.reduceEqDiff, reduceCtorEq, if_pos, w64, ↓RS, RG, Nat.reduceAdd, Nat.reduceMul, Nat.reduceLeDiff, tyLLint, tyLint, tyimpl_grid, tyint, hd]
    refine hK _ _ ?_
    clear hK K
    refine W.cond rfl (fun h => ?_) (fun h => ?_)
    · try simp only [RL] at h
      refine W.seq_region fun K hK => ?_
      simp (disch := omega) only [↓RU, RV, RH, ↓reduceIte, Nat.reduceEqDiff, reduceCtorEq, if_pos, ↓RS, RG, Nat.reduceAdd, Nat.reduceMul, Nat.reduceLeDiff]
      refine hK _ _ ?_
      clear hK K
      refine W.ret ?_
      refine XThen.ret ?_
      refine BodyQ.ret rfl ?_
      have hok : okS g = false := by simp [okS, okG]; omega
      rw [settledV, hok]
      rfl
    · try simp only [RL] at h
      exact absurd h (by simp)
  · skip
    have hd : decide ((g.length : Int) < 1) = false := decide_eq_false (by omega)
    have hd2 : decide ((g.length : Int) > 6) = true := decide_eq_true (by omega)
    simp (disch := omega) only [↓RU, RV, RH, ↓reduceIte, Nat.reduceEqDiff, reduceCtorEq, if_pos, w64, ↓RS, RG, Nat.reduceAdd, Nat.reduceMul, Nat.reduceLeDiff, tyLLint, tyLint, tyimpl_grid, tyint, hd, hd2]
    refine hK _ _ ?_
    clear hK K
    refine W.cond rfl (fun h => ?_) (fun h => ?_)
    · try simp only [RL] at h
      refine W.seq_region fun K hK => ?_
      simp (disch := omega) only [↓RU, RV, RH, ↓reduceIte, Nat.reduceEqDiff, reduceCtorEq, if_pos, ↓RS, RG, Nat.reduceAdd, Nat.reduceMul, Nat.reduceLeDiff]
      refine hK _ _ ?_
      clear hK K
      refine W.ret ?_
      refine XThen.ret ?_
      refine BodyQ.ret rfl ?_
      have hok : okS g = false := by simp [okS, okG]; omega
      rw [settledV, hok]
      rfl
    · try simp only [RL] at h
      exact absurd h (by simp)
  · skip
    have hrl := hsr row hrm
    have hw0 := w0_is hrow
    have hd : decide ((g.length : Int) < 1) = false := decide_eq_false (by omega)
    have hd2 : decide ((g.length : Int) > 6) = false := decide_eq_false (by omega)
    have hd3 : decide ((row.length : Int) < 1) = true := decide_eq_true (by omega)
    simp (disch := omega) only [↓RU, RV, RH, ↓reduceIte, Nat.reduceEqDiff, reduceCtorEq, if_pos, w64, ↓RS, RG, Nat.reduceAdd, Nat.reduceMul, Nat.reduceLeDiff, tyLLint, tyLint, tyimpl_grid, tyint, hd, hd2, hd3, hrow, Int.toNat_zero, Nat.zero_mul, Int.reduceToNat]
    refine hK _ _ ?_
    clear hK K
    refine W.cond rfl (fun h => ?_) (fun h => ?_)
    · try simp only [RL] at h
      refine W.seq_region fun K hK => ?_
      simp (disch := omega) only [↓RU, RV, RH, ↓reduceIte, Nat.reduceEqDiff, reduceCtorEq, if_pos, ↓RS, RG, Nat.reduceAdd, Nat.reduceMul, Nat.reduceLeDiff]
      refine hK _ _ ?_
      clear hK K
      refine W.ret ?_
      refine XThen.ret ?_
      refine BodyQ.ret rfl ?_
      have hok : okS g = false := by simp [okS, okG]; omega
      rw [settledV, hok]
      rfl
    · try simp only [RL] at h
      exact absurd h (by simp)
  · skip
    have hrl := hsr row hrm
    have hw0 := w0_is hrow
    have hd : decide ((g.length : Int) < 1) = false := decide_eq_false (by omega)
    have hd2 : decide ((g.length : Int) > 6) = false := decide_eq_false (by omega)
    have hd3 : decide ((row.length : Int) < 1) = false := decide_eq_false (by omega)
    have hd4 : decide ((row.length : Int) > 6) = true := decide_eq_true (by omega)
    simp (disch := omega) only [↓RU, RV, RH, ↓reduceIte, Nat.reduceEqDiff, reduceCtorEq, if_pos, w64, ↓RS, RG, Nat.reduceAdd, Nat.reduceMul, Nat.reduceLeDiff, tyLLint, tyLint, tyimpl_grid, tyint, hd, hd2, hd3, hd4, hrow, Int.toNat_zero, Nat.zero_mul, Int.reduceToNat]
    refine hK _ _ ?_
    clear hK K
    refine W.cond rfl (fun h => ?_) (fun h => ?_)
    · try simp only [RL] at h
      refine W.seq_region fun K hK => ?_
      simp (disch := omega) only [↓RU, RV, RH, ↓reduceIte, Nat.reduceEqDiff, reduceCtorEq, if_pos, ↓RS, RG, Nat.reduceAdd, Nat.reduceMul, Nat.reduceLeDiff]
      refine hK _ _ ?_
      clear hK K
      refine W.ret ?_
      refine XThen.ret ?_
      refine BodyQ.ret rfl ?_
      have hok : okS g = false := by simp [okS, okG]; omega
      rw [settledV, hok]
      rfl
    · try simp only [RL] at h
      exact absurd h (by simp)
  · skip
    have hrl := hsr row hrm
    have hw0 := w0_is hrow
    have hd : decide ((g.length : Int) < 1) = false := decide_eq_false (by omega)
    have hd2 : decide ((g.length : Int) > 6) = false := decide_eq_false (by omega)
    have hd3 : decide ((row.length : Int) < 1) = false := decide_eq_false (by omega)
    have hd4 : decide ((row.length : Int) > 6) = false := decide_eq_false (by omega)
    simp (disch := omega) only [↓RU, RV, RH, ↓reduceIte, Nat.reduceEqDiff, reduceCtorEq, if_pos, w64, ↓RS, RG, Nat.reduceAdd, Nat.reduceMul, Nat.reduceLeDiff, tyLLint, tyLint, tyimpl_grid, tyint, hd, hd2, hd3, hd4, hrow, Int.toNat_zero, Nat.zero_mul, Int.reduceToNat]
    refine hK _ _ ?_
    clear hK K
    refine W.cond rfl (fun h => ?_) (fun h => ?_)
    · try simp only [RL] at h
      exact absurd h (by simp)
    · try simp only [RL] at h
      refine W.skip ?_
      refine XThen.norm ?_
      refine W.seq_region fun K hK => ?_
      simp (disch := omega) only [↓RU, RV, RH, ↓reduceIte, Nat.reduceEqDiff, reduceCtorEq, if_pos, ↓RS, RG, Nat.reduceAdd, Nat.reduceMul, Nat.reduceLeDiff, tyLLint, tyLint, tyimpl_grid, tyint, hrow, Int.toNat_zero, Nat.zero_mul, Int.reduceToNat]
      refine hK _ _ ?_
      clear hK K
      refine W.seq ?_
      refine W.seq_region fun K hK => ?_
      simp (disch := omega) only [↓RU, RV, RH, ↓reduceIte, Nat.reduceEqDiff, reduceCtorEq, if_pos, List.append_nil, ↓RS, RG, Nat.reduceAdd, Nat.reduceMul, Nat.reduceLeDiff, tyLLint, tyLint, tyimpl_grid, tyint, hrow]
      refine CallR.pc (containsRow_pc (l := g) hsm (g := 165) (cap := [.ip [.int .i64 row.length] 0]) rfl rfl (test := fun r => decide ((r.length : Int) ≠ (row.length : Nat))) (fun r hr => settled1_pc r _ (hsr r hr))) rfl (.inl rfl) ?_
      simp (disch := omega) only [↓RU, RV, RH, ↓reduceIte, Nat.reduceEqDiff, reduceCtorEq, if_pos, List.append_nil, ↓RS, RG, Nat.reduceAdd, Nat.reduceMul, Nat.reduceLeDiff, tyLLint, tyLint, tyimpl_grid, tyint, hrow]
      refine hK _ _ ?_
      clear hK K
      refine W.cond rfl (fun h1 => ?_) (fun h1 => ?_)
      · try simp only [RL] at h1
        refine W.seq_region fun K hK => ?_
        simp (disch := omega) only [↓RU, RV, RH, ↓reduceIte, Nat.reduceEqDiff, reduceCtorEq, if_pos, ↓RS, RG, Nat.reduceAdd, Nat.reduceMul, Nat.reduceLeDiff]
        refine hK _ _ ?_
        clear hK K
        refine W.ret ?_
        refine XThen.ret ?_
        refine BodyQ.ret rfl ?_
        have hok : okS g = false := by unfold okS okG; rw [hw0, h1]; simp
        rw [settledV, hok]
        rfl
      · try simp only [RL] at h1
        have hg : GW g g.length row.length := by have := okG_iff (g := g); rw [hw0] at this; refine this.1 ?_; unfold okG; rw [hw0, h1]; simp; omega
        obtain ⟨hso, hsl, hs1⟩ := seRows_ok (g := g) (nw := row.length) (by omega) (by omega) g.length (by omega)
        have hne := hso.ne (hs1 (by omega))
        refine W.skip ?_
        refine XThen.norm ?_
        refine W.seq_region fun K hK => ?_
        simp (disch := omega) only [↓RU, RV, RH, ↓reduceIte, Nat.reduceEqDiff, reduceCtorEq, if_pos, ↓RS, RG, Nat.reduceAdd, Nat.reduceMul, Nat.reduceLeDiff, tyLLint, tyLimpl_rect, tyLint, tyPimpl_floor, tyimpl_floor, tyimpl_grid, tyimpl_rect, tyint, tystruct_cells_impl_grid_rooms_Limpl_rect_, tystruct_row_int_col_int_high_int_wide_int_]
        refine hK _ _ ?_
        clear hK K
        refine W.seq_region fun K hK => ?_
        simp (disch := omega) only [↓RU, RV, RH, ↓reduceIte, Nat.reduceEqDiff, reduceCtorEq, if_pos, ↓RS, RG, Nat.reduceAdd, Nat.reduceMul, Nat.reduceLeDiff, tyint, tymapBint_int]
        refine hK _ _ ?_
        clear hK K
        refine W.seq_pk 6 [some 42] [3] (by decide) (by kernel_rfl) fun K hK => ?_
        simp only [List.take_succ_cons, List.take_zero, List.drop_succ_cons, List.drop_zero]
        refine eRunK_pend (.ref 2 2 0) rfl rfl rfl (fun S' hS => ?_) ?_
        · skip
          have k3 := (hS 3 (by decide)).trans (show _ = some _ from rfl)
          simp (disch := omega) only [↓RU, RV, RH, ↓reduceIte, Nat.reduceEqDiff, reduceCtorEq, if_pos, List.append_nil, ↓RS, RG, Nat.reduceAdd, Nat.reduceMul, Nat.reduceLeDiff, tyLLint, tyLimpl_rect, tyLint, tyPimpl_floor, tyimpl_floor, tyimpl_grid, tyimpl_rect, tyint, tystruct_cells_impl_grid_rooms_Limpl_rect_, tystruct_row_int_col_int_high_int_wide_int_, pp_load, pp_nil, pp_fa, pp_ia, k3]
        refine eRunK_go rfl ?_
        simp (disch := omega) only [↓RU, RV, RH, ↓reduceIte, Nat.reduceEqDiff, reduceCtorEq, if_pos, List.append_nil, ↓RS, RG, Nat.reduceAdd, Nat.reduceMul, Nat.reduceLeDiff, tyLLint, tyLimpl_rect, tyLint, tyPimpl_floor, tyimpl_floor, tyimpl_grid, tyimpl_rect, tyint, tystruct_cells_impl_grid_rooms_Limpl_rect_, tystruct_row_int_col_int_high_int_wide_int_, keeps_cons, keeps_nil]
        refine eRunK_go rfl ?_
        simp (disch := omega) only [↓RU, RV, RH, ↓reduceIte, Nat.reduceEqDiff, reduceCtorEq, if_pos, List.append_nil, ↓RS, RG, Nat.reduceAdd, Nat.reduceMul, Nat.reduceLeDiff, tyLLint, tyLimpl_rect, tyLint, tyPimpl_floor, tyimpl_floor, tyimpl_grid, tyimpl_rect, tyint, tystruct_cells_impl_grid_rooms_Limpl_rect_, tystruct_row_int_col_int_high_int_wide_int_, keeps_cons, keeps_nil]
        refine eRunK_go rfl ?_
        simp (disch := omega) only [↓RU, RV, RH, ↓reduceIte, Nat.reduceEqDiff, reduceCtorEq, if_pos, List.append_nil, ↓RS, RG, Nat.reduceAdd, Nat.reduceMul, Nat.reduceLeDiff, tyLLint, tyLimpl_rect, tyLint, tyPimpl_floor, tyimpl_floor, tyimpl_grid, tyimpl_rect, tyint, tystruct_cells_impl_grid_rooms_Limpl_rect_, tystruct_row_int_col_int_high_int_wide_int_, keeps_cons, keeps_nil]
        refine eRunK_go rfl ?_
        simp (disch := omega) only [↓RU, RV, RH, ↓reduceIte, Nat.reduceEqDiff, reduceCtorEq, if_pos, List.append_nil, ↓RS, RG, Nat.reduceAdd, Nat.reduceMul, Nat.reduceLeDiff, tyLLint, tyLimpl_rect, tyLint, tyPimpl_floor, tyimpl_floor, tyimpl_grid, tyimpl_rect, tyint, tystruct_cells_impl_grid_rooms_Limpl_rect_, tystruct_row_int_col_int_high_int_wide_int_, keeps_cons, keeps_nil]
        refine eRunK_go rfl ?_
        simp (disch := omega) only [↓RU, RV, RH, ↓reduceIte, Nat.reduceEqDiff, reduceCtorEq, if_pos, List.append_nil, ↓RS, RG, Nat.reduceAdd, Nat.reduceMul, Nat.reduceLeDiff, tyLLint, tyLimpl_rect, tyLint, tyPimpl_floor, tyimpl_floor, tyimpl_grid, tyimpl_rect, tyint, tystruct_cells_impl_grid_rooms_Limpl_rect_, tystruct_row_int_col_int_high_int_wide_int_, keeps_cons, keeps_nil]
        refine CallR.ev (blank_ev hg) ?_
        rintro _ _ ⟨xv, vq, t, rfl, rfl⟩
        rw [seO_ne hne]
        simp only [prS]
        simp (disch := omega) only [↓RU, RV, RH, ↓reduceIte, Nat.reduceEqDiff, reduceCtorEq, if_pos, List.append_nil, ↓RS, RG, Nat.reduceAdd, Nat.reduceMul, Nat.reduceLeDiff, tyLLint, tyLimpl_rect, tyLint, tyPimpl_floor, tyimpl_floor, tyimpl_grid, tyimpl_rect, tyint, tystruct_cells_impl_grid_rooms_Limpl_rect_, tystruct_row_int_col_int_high_int_wide_int_, keeps_cons, keeps_nil]
        refine eRunK_end ?_
        simp (disch := omega) only [↓RU, RV, RH, ↓reduceIte, Nat.reduceEqDiff, reduceCtorEq, if_pos, List.append_nil, ↓RS, RG, Nat.reduceAdd, Nat.reduceMul, Nat.reduceLeDiff, tyLLint, tyLimpl_rect, tyLint, tyPimpl_floor, tyimpl_floor, tyimpl_grid, tyimpl_rect, tyint, tystruct_cells_impl_grid_rooms_Limpl_rect_, tystruct_row_int_col_int_high_int_wide_int_]
        refine hK _ _ ?_
        clear hK K
        refine W.seq ?_
        refine W.seq_region fun K hK => ?_
        simp (disch := omega) only [↓RU, RV, RH, ↓reduceIte, Nat.reduceEqDiff, reduceCtorEq, if_pos, w64, ↓RS, RG, Nat.reduceAdd, Nat.reduceMul, Nat.reduceLeDiff, tyLLint, tyLimpl_rect, tyLint, tyPimpl_floor, tyimpl_floor, tyimpl_grid, tyimpl_rect, tyint, tystruct_cells_impl_grid_rooms_Limpl_rect_, tystruct_row_int_col_int_high_int_wide_int_]
        refine hK _ _ ?_
        clear hK K
        refine W.cond rfl (fun h2 => ?_) (fun h2 => ?_)
        · try simp only [RL] at h2
          refine W.seq_region fun K hK => ?_
          simp (disch := omega) only [↓RU, RV, RH, ↓reduceIte, Nat.reduceEqDiff, reduceCtorEq, if_pos, ↓RS, RG, Nat.reduceAdd, Nat.reduceMul, Nat.reduceLeDiff]
          refine hK _ _ ?_
          clear hK K
          refine W.ret ?_
          refine XThen.ret ?_
          refine BodyQ.ret rfl ?_
          have hok : okS g = false := by unfold okS stG; rw [hw0]; simp only [Bool.and_eq_false_iff]; right; exact decide_eq_false (by omega)
          rw [settledV, hok]
          rfl
        · try simp only [RL] at h2
          refine W.skip ?_
          refine XThen.norm ?_
          refine W.seq_region fun K hK => ?_
          simp (disch := omega) only [↓RU, RV, RH, ↓reduceIte, Nat.reduceEqDiff, reduceCtorEq, if_pos, ↓RS, RG, Nat.reduceAdd, Nat.reduceMul, Nat.reduceLeDiff]
          refine hK _ _ ?_
          clear hK K
          refine W.seq ?_
          refine W.seq_region fun K hK => ?_
          simp (disch := omega) only [↓RU, RV, RH, ↓reduceIte, Nat.reduceEqDiff, reduceCtorEq, if_pos, ↓RS, RG, Nat.reduceAdd, Nat.reduceMul, Nat.reduceLeDiff, tyLLint, tyLimpl_rect, tyLint, tyPimpl_floor, tyimpl_floor, tyimpl_grid, tyimpl_rect, tyint, tystruct_cells_impl_grid_rooms_Limpl_rect_, tystruct_row_int_col_int_high_int_wide_int_]
          refine hK _ _ ?_
          clear hK K
          refine W.block ?_
          refine W.loop [5, 7, 59, 60, 61] (fun n vs S => ∃ k t : Nat, n = (seRows g row.length g.length).2.length - k ∧ k ≤ (seRows g row.length g.length).2.length ∧ vs = [.ref 3 3 0, .int .i64 (sumA ((seRows g row.length g.length).2.take k)), .loc 7 vq 0 (seRows g row.length g.length).2.length, .int .i64 (seRows g row.length g.length).2.length, .int .i64 (k : Nat)] ∧ S = ⟨[.arr 0 84 1 [eGrid g], .arr 1 3 1 [.int .i64 row.length], .arr 2 87 2 [.loc 6 xv 0 g.length, .loc 7 vq 0 (seRows g row.length g.length).2.length], .arr 3 55 1 [.ref 2 2 0], .map 4 (mE (seRows g row.length g.length).1), .arr 5 158 1 [.mp 4 4], .arr xv 24 1 ((zRows g row.length g.length).map eInts), .arr vq 161 4 (rcs (seRows g row.length g.length).2)], t⟩) (seRows g row.length g.length).2.length ?_ ?_
          · refine ⟨8, 0, t, rfl, Nat.zero_le _, ?_, ?_⟩
            · simp [Env.put, Env.of, argEnv, sumA]
            · simp [take_eq]
          rintro n vs S - ⟨k, t, rfl, h_k, rfl, rfl⟩
          refine W.seq_region fun K hK => ?_
          simp (disch := omega) only [↓RU, RV, RH, ↓reduceIte, Nat.reduceEqDiff, reduceCtorEq, if_pos, w64, ↓RS, RG, Nat.reduceAdd, Nat.reduceMul, Nat.reduceLeDiff, tyint]
          refine hK _ _ ?_
          clear hK K
          refine W.seq ?_
          refine W.cond rfl (fun h3 => ?_) (fun h3 => ?_)
          · try simp only [RL] at h3
            obtain ⟨b, hb2, hbm⟩ := get_of (show k < (seRows g row.length g.length).2.length by omega)
            have hbf := hso.2 b hbm
            have hba := hbf.area
            have hsb := sumA_bound hso.2 k
            refine W.skip ?_
            refine XThen.norm ?_
            refine W.seq ?_
            refine W.block ?_
            refine W.seq_region fun K hK => ?_
            simp (disch := omega) only [↓RU, RV, RH, ↓reduceIte, Nat.reduceEqDiff, reduceCtorEq, if_pos, ↓RS, RG, Nat.reduceAdd, Nat.reduceMul, Nat.reduceLeDiff, tyLimpl_rect, tyimpl_rect, tyint, tystruct_row_int_col_int_high_int_wide_int_, rcs_at hb2, rcs_len, rcell_len, rcell_all]
            refine hK _ _ ?_
            clear hK K
            refine W.region_k fun K hK => ?_
            simp (disch := omega) only [↓RU, RV, RH, ↓reduceIte, Nat.reduceEqDiff, reduceCtorEq, if_pos, List.append_nil, w64, ↓RS, RG, Nat.reduceAdd, Nat.reduceMul, Nat.reduceLeDiff, tyimpl_rect, tyint, tystruct_row_int_col_int_high_int_wide_int_, rcs_at hb2, rcell_len, rcs_len]
            refine CallR.pc (area_pc (r := b) (by omega) (by omega)) rfl (.inl rfl) ?_
            simp (disch := omega) only [↓RU, RV, RH, ↓reduceIte, Nat.reduceEqDiff, reduceCtorEq, if_pos, List.append_nil, w64, ↓RS, RG, Nat.reduceAdd, Nat.reduceMul, Nat.reduceLeDiff, tyimpl_rect, tyint, tystruct_row_int_col_int_high_int_wide_int_, rcs_at hb2, rcell_len, rcs_len]
            refine hK _ _ ?_
            clear hK K
            refine XBlock.norm ?_
            refine XThen.norm ?_
            refine W.region_k fun K hK => ?_
            simp (disch := omega) only [↓RU, RV, RH, ↓reduceIte, Nat.reduceEqDiff, reduceCtorEq, if_pos, w64, ↓RS, RG, Nat.reduceAdd, Nat.reduceMul, Nat.reduceLeDiff, tyint]
            refine hK _ _ ?_
            clear hK K
            refine XThen.norm ?_
            refine ⟨(seRows g row.length g.length).2.length - (k + 1), by omega, 8, k + 1, _, rfl, by omega, ?_, rfl⟩
            simp [Env.put, Env.of, sumA_succ hb2]
          · try simp only [RL] at h3
            obtain rfl : k = (seRows g row.length g.length).2.length := by omega
            rw [List.take_length]
            refine W.exit ?_
            refine XThen.exit ?_
            refine XThen.exit ?_
            refine XBlock.hit ?_
            refine XThen.norm ?_
            refine W.seq_draw (by kernel_rfl) fun K hK => ?_
            obtain ⟨zr, hzr, hzl, -⟩ := (zG_ok hg).at_ (i := 0) (j := 0) (by omega) (by omega)
            have hZl := zRows_len (g := g) (nw := row.length) g.length
            have hpr := Nat.mul_le_mul hgl.2 hb.2
            simp (disch := omega) only [↓RU, RV, RH, ↓reduceIte, Nat.reduceEqDiff, reduceCtorEq, if_pos, List.append_nil, w64, ↓RS, RG, Nat.reduceAdd, Nat.reduceMul, Nat.reduceLeDiff, tyPimpl_floor, tyint, hZl, hzl]
            refine CallR.pc (high_pc (zRows g row.length g.length) (seRows g row.length g.length).2) (mapM_one (reify_floor (f := 6) rfl rfl (zRows_len _) rfl) rfl) (.inl rfl) ?_
            simp (disch := omega) only [↓RU, RV, RH, ↓reduceIte, Nat.reduceEqDiff, reduceCtorEq, if_pos, List.append_nil, w64, ↓RS, RG, Nat.reduceAdd, Nat.reduceMul, Nat.reduceLeDiff, tyPimpl_floor, tyint, hZl, hzl]
            refine CallR.pc (wide_pc (g := (zRows g row.length g.length)) hzr (seRows g row.length g.length).2) (mapM_one (reify_floor (f := 6) rfl rfl (zRows_len _) rfl) rfl) (.inl rfl) ?_
            simp (disch := omega) only [↓RU, RV, RH, ↓reduceIte, Nat.reduceEqDiff, reduceCtorEq, if_pos, List.append_nil, w64, ↓RS, RG, Nat.reduceAdd, Nat.reduceMul, Nat.reduceLeDiff, tyPimpl_floor, tyint, hZl, hzl]
            refine hK _ _ ?_
            clear hK K
            refine W.ret ?_
            refine BodyQ.ret rfl ?_
            have hok : okS g = true := by unfold okS stG; rw [hw0, okG_iff.2 (by rw [hw0]; exact hg)]; simp; omega
            rw [settledV, hok, if_pos rfl]
            unfold stG zG fullG stG
            rw [hw0]
            refine reify_tup2 (k := 9) (reify_floor (f := 5) rfl rfl (zRows_len _) rfl) ?_
            have he : (sumA (seRows g row.length g.length).2 == (g.length : Int) * row.length) = decide (sumA (seRows g row.length g.length).2 = ((g.length * row.length : Nat) : Int)) := by rw [Int.natCast_mul]; rfl
            rw [← he]
            rfl

end Fw
end Go.Proofs.YtcglmbijpjhbmaaGreat

/-! Reading plans, gone through. -/
namespace Go.Proofs.YtcglmbijpjhbmaaGreat
namespace Fw
open Go

theorem settled_no {g : List (List Int)} (hsm : g.length < 2147483648) (hsr : ∀ r ∈ g, r.length < 2147483648) (h : okS g = false) : PC Tryz.prog 140 [eGrid g] (.tup [.nilp, .bool false]) false := by
  rw [← settledV_no h]; exact settled_pc hsm hsr
theorem settled_yes {g : List (List Int)} (hsm : g.length < 2147483648) (hsr : ∀ r ∈ g, r.length < 2147483648) (h : okS g = true) : PC Tryz.prog 140 [eGrid g] (.tup [eFloor (zG g) (stG g).2, .bool (fullG g)]) false := by
  rw [← settledV_yes h]; exact settled_pc hsm hsr

theorem read_pc {p : List Txt} (hs : Sm p) : PC Tryz.prog 119 [eStrs p] (readV p) false := by
  have hp := hs.rows
  refine PC.of ⟨Tryz.func119, by kernel_rfl, rfl, by kernel_rfl⟩ tabOk mixed (by show 1 ≤ Tryz.f119.ntmps; decide) ?_
  refine W.seq_region fun K hK => ?_
  simp (disch := omega) only [↓RU, RV, RH, ↓reduceIte, Nat.reduceEqDiff, reduceCtorEq, if_pos, ↓RS, RG, Nat.reduceAdd, Nat.reduceMul, Nat.reduceLeDiff]
  refine hK _ _ ?_
  clear hK K
  refine W.seq_region fun K hK => ?_
  simp (disch := omega) only [↓RU, RV, RH, ↓reduceIte, Nat.reduceEqDiff, reduceCtorEq, if_pos, ↓RS, RG, Nat.reduceAdd, Nat.reduceMul, Nat.reduceLeDiff, tyLLint, tyLint, tyimpl_grid, tyint]
  refine hK _ _ ?_
  clear hK K
  refine W.joinZ [4] (fun vs S => ∃ tk : Nat, lettersB p = true ∧ vs = [eGrid (readG p)] ∧ S = ⟨[], tk⟩) ?_ ?_
  ·
    refine W.seq_region fun K hK => ?_
    simp (disch := omega) only [↓RU, RV, RH, ↓reduceIte, Nat.reduceEqDiff, reduceCtorEq, if_pos, ↓RS, RG, Nat.reduceAdd, Nat.reduceMul, Nat.reduceLeDiff, tyLstring, tystring]
    refine hK _ _ ?_
    clear hK K
    refine W.block ?_
    refine W.loopZ [4, 11, 12, 13] (fun n vs S => ∃ i v0 tk : Nat, n = p.length - i ∧ i ≤ p.length ∧ ((p.take i).all (fun r => r.all letterB) = true) ∧ vs = [.loc 0 v0 0 i, eStrs p, .int .i64 p.length, .int .i64 i] ∧ S = ⟨[.arr v0 24 1 ((readG (p.take i)).map eInts)], tk⟩) (p.length) ?_ ?_
    · refine ⟨1, [.loc 0 0 0 0, eStrs p, .int .i64 p.length, .int .i64 0], ⟨[.arr 0 24 1 ((readG (p.take 0)).map eInts)], 1⟩, ?_, ?_, 0, 0, 1, rfl, by omega, rfl, rfl, rfl⟩
      · rfl
      · rfl
    rintro n vs S - ⟨i, v0, tk, rfl, h_i, hall, rfl, rfl⟩
    refine W.seq_region fun K hK => ?_
    simp (disch := omega) only [↓RU, RV, RH, ↓reduceIte, Nat.reduceEqDiff, reduceCtorEq, if_pos, w64, ↓RS, RG, Nat.reduceAdd, Nat.reduceMul, Nat.reduceLeDiff, tyint]
    refine hK _ _ ?_
    clear hK K
    refine W.seq ?_
    refine W.cond rfl (fun h => ?_) (fun h => ?_)
    · try simp only [RL] at h
      obtain ⟨row, hrow, hrm⟩ := get_of (show i < p.length by omega)
      have hrl := hs.cols row hrm
      have hgk : (readG (p.take i)).length = i := by rw [readG_len, List.length_take]; omega
      have hgt : ((readG (p.take i)).map eInts).take i = (readG (p.take i)).map eInts := List.take_of_length_le (by rw [List.length_map]; omega)
      refine W.skip ?_
      refine XThen.norm ?_
      refine W.seq ?_
      refine W.block ?_
      refine W.seq_region fun K hK => ?_
      simp (disch := omega) only [↓RU, RV, RH, ↓reduceIte, Nat.reduceEqDiff, reduceCtorEq, if_pos, ↓RS, RG, Nat.reduceAdd, Nat.reduceMul, Nat.reduceLeDiff, tyLstring, tystring, hrow]
      refine hK _ _ ?_
      clear hK K
      refine W.seq_region fun K hK => ?_
      simp (disch := omega) only [↓RU, RV, RH, ↓reduceIte, Nat.reduceEqDiff, reduceCtorEq, if_pos, ↓RS, RG, Nat.reduceAdd, Nat.reduceMul, Nat.reduceLeDiff, tyLint, tyint]
      refine hK _ _ ?_
      clear hK K
      refine W.seq ?_
      refine W.seq_region fun K hK => ?_
      simp (disch := omega) only [↓RU, RV, RH, ↓reduceIte, Nat.reduceEqDiff, reduceCtorEq, if_pos, w64, ↓RS, RG, Nat.reduceAdd, Nat.reduceMul, Nat.reduceLeDiff, tyLuint8, tystring, tyuint8]
      refine hK _ _ ?_
      clear hK K
      refine W.block ?_
      refine W.loop [4, 11, 12, 13, 7, 19, 20, 21] (fun n vs S => ∃ k v1 t : Nat, n = row.length - k ∧ k ≤ row.length ∧ ((row.take k).all letterB = true) ∧ vs = [.loc 0 v0 0 i, eStrs p, .int .i64 p.length, .int .i64 i, .loc 1 v1 0 k, .sl (row.map eB) row.length, .int .i64 row.length, .int .i64 k] ∧ S = ⟨[.arr v0 24 1 ((readG (p.take i)).map eInts), .arr v1 3 1 ((rowZ (row.take k)).map (.int .i64))], t⟩) (row.length) ?_ ?_
      · refine ⟨2, 0, _, _, rfl, Nat.zero_le _, rfl, ?_, rfl⟩
        simp [Env.put, Env.of]
      rintro n vs S - ⟨k, v1, t, rfl, h_k, hrk, rfl, rfl⟩
      refine W.seq_region fun K hK => ?_
      simp (disch := omega) only [↓RU, RV, RH, ↓reduceIte, Nat.reduceEqDiff, reduceCtorEq, if_pos, w64, ↓RS, RG, Nat.reduceAdd, Nat.reduceMul, Nat.reduceLeDiff, tyint]
      refine hK _ _ ?_
      clear hK K
      refine W.seq ?_
      refine W.cond rfl (fun h1 => ?_) (fun h1 => ?_)
      · try simp only [RL] at h1
        obtain ⟨c, hc, hcm⟩ := get_of (show k < row.length by omega)
        have hcb := c.toNat_lt
        have hrowk : (rowZ (row.take k)).length = k := by rw [rowZ_len, List.length_take]; omega
        have hrowt : ((rowZ (row.take k)).map (PV.int .i64)).take k = (rowZ (row.take k)).map (PV.int .i64) := List.take_of_length_le (by rw [List.length_map]; omega)
        refine W.skip ?_
        refine XThen.norm ?_
        refine W.seq ?_
        refine W.block ?_
        refine W.seq_region fun K hK => ?_
        simp (disch := omega) only [↓RU, RV, RH, ↓reduceIte, Nat.reduceEqDiff, reduceCtorEq, if_pos, ↓RS, RG, Nat.reduceAdd, Nat.reduceMul, Nat.reduceLeDiff, tyLuint8, tyuint8, hc]
        refine hK _ _ ?_
        clear hK K
        refine W.seq ?_
        refine W.seq_region fun K hK => ?_
        rcases (show (c.toNat : Int) < 97 ∨ (c.toNat : Int) > 122 ∨ (97 ≤ c.toNat ∧ c.toNat ≤ 122) by omega) with hb | hb | hb
        · skip
          have hd : decide ((c.toNat : Int) < 97) = true := decide_eq_true hb
          have hlc : letterB c = false := by unfold letterB; rw [decide_eq_false (by omega)]; rfl
          simp (disch := omega) only [↓RU, RV, RH, ↓reduceIte, Nat.reduceEqDiff, reduceCtorEq, if_pos, w64, ↓RS, RG, Nat.reduceAdd, Nat.reduceMul, Nat.reduceLeDiff, tyuint8, hd]
          refine hK _ _ ?_
          clear hK K
          refine W.cond rfl (fun h2 => ?_) (fun h2 => ?_)
          · try simp only [RL] at h2
            refine W.seq_region fun K hK => ?_
            simp (disch := omega) only [↓RU, RV, RH, ↓reduceIte, Nat.reduceEqDiff, reduceCtorEq, if_pos, ↓RS, RG, Nat.reduceAdd, Nat.reduceMul, Nat.reduceLeDiff]
            refine hK _ _ ?_
            clear hK K
            refine W.ret ?_
            refine XThen.ret ?_
            refine XBlock.ret ?_
            refine XThen.ret ?_
            refine XThen.ret ?_
            refine XBlock.ret ?_
            refine XThen.ret ?_
            refine XBlock.ret ?_
            refine XThen.ret ?_
            refine XThen.ret ?_
            refine XBlock.ret ?_
            refine XThen.ret ?_
            refine BodyQ.ret rfl ?_
            rw [readV, letters_bad hrm hcm hlc]
            rfl
          · try simp only [RL] at h2
            exact absurd h2 (by simp)
        · skip
          have hd : decide ((c.toNat : Int) < 97) = false := decide_eq_false (by omega)
          have hd2 : decide ((c.toNat : Int) > 122) = true := decide_eq_true hb
          have hlc : letterB c = false := by unfold letterB; rw [decide_eq_false (p := c.toNat ≤ 122) (by omega), Bool.and_false]
          simp (disch := omega) only [↓RU, RV, RH, ↓reduceIte, Nat.reduceEqDiff, reduceCtorEq, if_pos, w64, ↓RS, RG, Nat.reduceAdd, Nat.reduceMul, Nat.reduceLeDiff, tyuint8, hd, hd2]
          refine hK _ _ ?_
          clear hK K
          refine W.cond rfl (fun h2 => ?_) (fun h2 => ?_)
          · try simp only [RL] at h2
            refine W.seq_region fun K hK => ?_
            simp (disch := omega) only [↓RU, RV, RH, ↓reduceIte, Nat.reduceEqDiff, reduceCtorEq, if_pos, ↓RS, RG, Nat.reduceAdd, Nat.reduceMul, Nat.reduceLeDiff]
            refine hK _ _ ?_
            clear hK K
            refine W.ret ?_
            refine XThen.ret ?_
            refine XBlock.ret ?_
            refine XThen.ret ?_
            refine XThen.ret ?_
            refine XBlock.ret ?_
            refine XThen.ret ?_
            refine XBlock.ret ?_
            refine XThen.ret ?_
            refine XThen.ret ?_
            refine XBlock.ret ?_
            refine XThen.ret ?_
            refine BodyQ.ret rfl ?_
            rw [readV, letters_bad hrm hcm hlc]
            rfl
          · try simp only [RL] at h2
            exact absurd h2 (by simp)
        · skip
          have hd : decide ((c.toNat : Int) < 97) = false := decide_eq_false (by omega)
          have hd2 : decide ((c.toNat : Int) > 122) = false := decide_eq_false (by omega)
          have hlc : letterB c = true := by unfold letterB; rw [decide_eq_true hb.1, decide_eq_true hb.2]; rfl
          simp (disch := omega) only [↓RU, RV, RH, ↓reduceIte, Nat.reduceEqDiff, reduceCtorEq, if_pos, w64, ↓RS, RG, Nat.reduceAdd, Nat.reduceMul, Nat.reduceLeDiff, tyuint8, hd, hd2]
          refine hK _ _ ?_
          clear hK K
          refine W.cond rfl (fun h2 => ?_) (fun h2 => ?_)
          · try simp only [RL] at h2
            exact absurd h2 (by simp)
          · try simp only [RL] at h2
            refine W.skip ?_
            refine XThen.norm ?_
            refine W.region_k fun K hK => ?_
            simp (disch := omega) only [↓RU, RV, RH, ↓reduceIte, Nat.reduceEqDiff, reduceCtorEq, if_pos, w64, ↓RS, RG, Nat.reduceAdd, Nat.reduceMul, Nat.reduceLeDiff, tyLint, tyint, tyuint8, hrowk, hrowt, Nat.le_refl]
            refine hK _ _ ?_
            clear hK K
            refine XBlock.norm ?_
            refine XThen.norm ?_
            refine W.region_k fun K hK => ?_
            simp (disch := omega) only [↓RU, RV, RH, ↓reduceIte, Nat.reduceEqDiff, reduceCtorEq, if_pos, w64, ↓RS, RG, Nat.reduceAdd, Nat.reduceMul, Nat.reduceLeDiff, tyint]
            refine hK _ _ ?_
            clear hK K
            refine XThen.norm ?_
            refine ⟨row.length - (k + 1), by omega, 2, k + 1, t + 1, t + 2, rfl, by omega, all_tk hc hrk hlc, ?_, ?_⟩
            · simp [Env.put, Env.of]
            · simp [take_eq, rowZ_succ hc]
      · try simp only [RL] at h1
        obtain rfl : k = row.length := by omega
        have hra : row.all letterB = true := by rw [List.take_length] at hrk; exact hrk
        have hrz := rowZ_len row
        rw [List.take_length]
        generalize hYe : rowZ row = Y at hrz
        have hYt : (Y.map (PV.int .i64)).take row.length = Y.map (PV.int .i64) := List.take_of_length_le (by rw [List.length_map]; omega)
        have hYE : eInts Y = PV.sl (Y.map (PV.int .i64)) row.length := by rw [← hrz]
        refine W.exit ?_
        refine XThen.exit ?_
        refine XThen.exit ?_
        refine XBlock.hit ?_
        refine XThen.norm ?_
        refine W.region_k fun K hK => ?_
        simp (disch := omega) only [↓RU, RV, RH, ↓reduceIte, Nat.reduceEqDiff, reduceCtorEq, if_pos, ↓RS, RG, Nat.reduceAdd, Nat.reduceMul, Nat.reduceLeDiff, tyLLint, tyLint, tyimpl_grid, tyint, hgk, hgt, Nat.le_refl]
        refine hK _ _ ?_
        clear hK K
        refine XBlock.norm ?_
        refine XThen.norm ?_
        refine W.region_k fun K hK => ?_
        simp (disch := omega) only [↓RU, RV, RH, ↓reduceIte, Nat.reduceEqDiff, reduceCtorEq, if_pos, w64, ↓RS, RG, Nat.reduceAdd, Nat.reduceMul, Nat.reduceLeDiff, tyint]
        refine hK _ _ ?_
        clear hK K
        refine XThen.norm ?_
        refine ⟨p.length - (i + 1), by omega, 1, [.loc 0 (t + 1) 0 (i + 1), eStrs p, .int .i64 p.length, .int .i64 (i + 1)], ⟨[.arr (t + 1) 24 1 ((readG (p.take (i + 1))).map eInts)], (t + 2)⟩, ?_, ?_, (i + 1), (t + 1), (t + 2), rfl, by omega, all_tk hrow hall hra, rfl, rfl⟩
        · simp [-List.mapM_map, Store.frz, frzObs, frzOb, frz_eInts, frz_loc, rfz_loc, frz_int, frz_sl, frz_ints, rfz_ints, frz_strs, frz_bytes, rfz_bytes, rfz_str, rfz_bool, frz_str, frz_bool, Env.put, Env.of, argEnv, rfz_int, List.mapM_append, List.mapM_cons]
        · simp [-List.mapM_map, Store.frz, frzObs, frzOb, frz_eInts, frz_loc, rfz_loc, frz_int, frz_sl, frz_ints, rfz_ints, frz_strs, frz_bytes, rfz_bytes, rfz_str, rfz_bool, frz_str, frz_bool, Env.put, Env.of, argEnv, rfz_int, List.mapM_append, List.mapM_cons, readG_succ hrow, hYe, hYt, hYE, hrz]
    · try simp only [RL] at h
      refine W.exit ?_
      refine XThen.exit ?_
      refine XThen.exit ?_
      refine XBlock.hit ?_
      refine XThen.norm ?_
      obtain rfl : i = p.length := by omega
      rw [List.take_length] at hall ⊢
      have hgt2 : ((readG p).map eInts).take p.length = (readG p).map eInts := List.take_of_length_le (by simp [readG])
      have hgE : eGrid (readG p) = PV.sl ((readG p).map eInts) p.length := by rw [← readG_len p]
      refine ⟨0, [eGrid (readG p)], ⟨[], tk⟩, ?_, ?_, tk, hall, rfl, rfl⟩
      · simp [-List.mapM_map, Store.frz, frzObs, frzOb, frz_eInts, frz_loc, rfz_loc, frz_int, frz_sl, frz_ints, rfz_ints, frz_strs, frz_bytes, rfz_bytes, rfz_str, rfz_bool, frz_str, frz_bool, Env.put, Env.of, argEnv, rfz_int, List.mapM_append, List.mapM_cons, hgt2, hgE, readG_len, rfz_eIntss]
      · simp [-List.mapM_map, Store.frz, frzObs, frzOb, frz_eInts, frz_loc, rfz_loc, frz_int, frz_sl, frz_ints, rfz_ints, frz_strs, frz_bytes, rfz_bytes, rfz_str, rfz_bool, frz_str, frz_bool, Env.put, Env.of, argEnv, rfz_int, List.mapM_append, List.mapM_cons]
  rintro vs S - ⟨tk, hlet, rfl, rfl⟩
  refine W.seq_region fun K hK => ?_
  cases hok : okS (readG p)
  · skip
    simp (disch := omega) only [↓RU, RV, RH, ↓reduceIte, Nat.reduceEqDiff, reduceCtorEq, if_pos, List.append_nil, ↓RS, RG, Nat.reduceAdd, Nat.reduceMul, Nat.reduceLeDiff]
    refine CallR.pc (settled_no (g := readG p) (by rw [readG_len]; omega) (fun r hr => by obtain ⟨t, ht, rfl⟩ := List.mem_map.1 hr; rw [rowZ_len]; exact hs.cols t ht) hok) rfl (.inr rfl) ?_
    simp (disch := omega) only [↓RU, RV, RH, ↓reduceIte, Nat.reduceEqDiff, reduceCtorEq, if_pos, List.append_nil, ↓RS, RG, Nat.reduceAdd, Nat.reduceMul, Nat.reduceLeDiff]
    refine hK _ _ ?_
    clear hK K
    refine W.ret ?_
    refine BodyQ.ret rfl ?_
    rw [readV, hlet, if_pos rfl, settledV_no hok]
    rfl
  · skip
    simp (disch := omega) only [↓RU, RV, RH, ↓reduceIte, Nat.reduceEqDiff, reduceCtorEq, if_pos, List.append_nil, ↓RS, RG, Nat.reduceAdd, Nat.reduceMul, Nat.reduceLeDiff]
    refine CallR.pc (settled_yes (g := readG p) (by rw [readG_len]; omega) (fun r hr => by obtain ⟨t, ht, rfl⟩ := List.mem_map.1 hr; rw [rowZ_len]; exact hs.cols t ht) hok) rfl (.inr rfl) ?_
    simp (disch := omega) only [↓RU, RV, RH, ↓reduceIte, Nat.reduceEqDiff, reduceCtorEq, if_pos, List.append_nil, ↓RS, RG, Nat.reduceAdd, Nat.reduceMul, Nat.reduceLeDiff]
    refine hK _ _ ?_
    clear hK K
    refine W.ret ?_
    refine BodyQ.ret rfl ?_
    rw [readV, hlet, if_pos rfl, settledV_yes hok]
    rfl

theorem read_no {p : List Txt} (hs : Sm p) (h : okB p = false) : PC Tryz.prog 119 [eStrs p] (.tup [.nilp, .bool false]) false := by
  rw [← readV_no h]; exact read_pc hs
theorem read_yes {p : List Txt} (hs : Sm p) (h : okB p = true) : PC Tryz.prog 119 [eStrs p] (.tup [eFloor (gP p) (rP p), .bool (fullG (readG p))]) false := by
  rw [← readV_yes h]; exact read_pc hs

theorem floorOf_no {p : List Txt} (hs : Sm p) (h : okB p = false) : PC Tryz.prog 94 [eStrs p] (.tup [.nilp, .bool false]) false := by
  refine PC.of ⟨Tryz.func94, by kernel_rfl, rfl, by kernel_rfl⟩ tabOk mixed (by show 1 ≤ Tryz.f94.ntmps; decide) ?_
  refine W.seq_region fun K hK => ?_
  simp (disch := omega) only [↓RU, RV, RH, ↓reduceIte, Nat.reduceEqDiff, reduceCtorEq, if_pos]
  refine hK _ _ ?_
  clear hK K
  refine W.seq_region fun K hK => ?_
  simp (disch := omega) only [↓RU, RV, RH, ↓reduceIte, Nat.reduceEqDiff, reduceCtorEq, if_pos, List.append_nil]
  refine CallR.pc (read_no hs h) rfl (.inr rfl) ?_
  simp (disch := omega) only [↓RU, RV, RH, ↓reduceIte, Nat.reduceEqDiff, reduceCtorEq, if_pos, List.append_nil]
  refine hK _ _ ?_
  clear hK K
  refine W.seq_region fun K hK => ?_
  simp (disch := omega) only [↓RU, RV, RH, ↓reduceIte, Nat.reduceEqDiff, reduceCtorEq, if_pos, List.append_nil]
  refine hK _ _ ?_
  clear hK K
  refine W.ret ?_
  refine BodyQ.ret rfl ?_
  rfl

theorem floorOf_yes {p : List Txt} (hs : Sm p) (h : okB p = true) : PC Tryz.prog 94 [eStrs p] (.tup [eFloor (gP p) (rP p), .bool (floorV p)]) false := by
  have hg := okB_gw h
  have hz := okB_bound h
  have hrows := hs.rows
  refine PC.of ⟨Tryz.func94, by kernel_rfl, rfl, by kernel_rfl⟩ tabOk mixed (by show 1 ≤ Tryz.f94.ntmps; decide) ?_
  refine W.seq_region fun K hK => ?_
  simp (disch := omega) only [↓RU, RV, RH, ↓reduceIte, Nat.reduceEqDiff, reduceCtorEq, if_pos]
  refine hK _ _ ?_
  clear hK K
  refine W.seq_region fun K hK => ?_
  simp (disch := omega) only [↓RU, RV, RH, ↓reduceIte, Nat.reduceEqDiff, reduceCtorEq, if_pos, List.append_nil]
  refine CallR.pc (read_yes hs h) rfl (.inr rfl) ?_
  simp (disch := omega) only [↓RU, RV, RH, ↓reduceIte, Nat.reduceEqDiff, reduceCtorEq, if_pos, List.append_nil]
  refine hK _ _ ?_
  clear hK K
  refine W.seq_region fun K hK => ?_
  cases hf : fullG (readG p)
  · skip
    simp (disch := omega) only [↓RU, RV, RH, ↓reduceIte, Nat.reduceEqDiff, reduceCtorEq, if_pos, List.append_nil]
    refine hK _ _ ?_
    clear hK K
    refine W.ret ?_
    refine BodyQ.ret rfl ?_
    rw [floorV, hf]
    rfl
  · skip
    simp (disch := omega) only [↓RU, RV, RH, ↓reduceIte, Nat.reduceEqDiff, reduceCtorEq, if_pos, List.append_nil, hf]
    refine CallR.pc (text_pc hg (rP p) hz) rfl (.inl rfl) ?_
    simp (disch := omega) only [↓RU, RV, RH, ↓reduceIte, Nat.reduceEqDiff, reduceCtorEq, if_pos, List.append_nil, hf]
    refine CallR.pc (equalStrs_pc (p := textG (gP p)) (q := p) (by rw [textG_len, hg.1]; omega) hs.rows) rfl (.inl rfl) ?_
    simp (disch := omega) only [↓RU, RV, RH, ↓reduceIte, Nat.reduceEqDiff, reduceCtorEq, if_pos, List.append_nil, hf]
    refine hK _ _ ?_
    clear hK K
    refine W.ret ?_
    refine BodyQ.ret rfl ?_
    rw [floorV, hf]
    rfl

theorem floorOf_ex {p : List Txt} (hs : Sm p) : ∃ x, PC Tryz.prog 94 [eStrs p] (.tup [x, .bool (floorI p)]) false ∧ (floorI p = true → x = eFloor (gP p) (rP p)) ∧ ∀ (S : Store) (k : Nat), reify S true (k + 1) x = some x := by
  unfold floorI
  cases h : okB p with
  | false => exact ⟨_, floorOf_no hs h, (fun h => by cases h), fun _ _ => rfl⟩
  | true => exact ⟨_, floorOf_yes hs h, fun _ => rfl, fun _ _ => rfl⟩

theorem plainOf_ex0 {p : List Txt} (hs : Sm p) {x : PV} (hx : PC Tryz.prog 94 [eStrs p] (.tup [x, .bool (floorI p)]) false) (hy : floorI p = true → x = eFloor (gP p) (rP p)) (hr : ∀ (S : Store) (k : Nat), reify S true (k + 1) x = some x) : PC Tryz.prog 101 [eStrs p] (.tup [x, .bool (plainI p)]) false := by
  refine PC.of ⟨Tryz.func101, by kernel_rfl, rfl, by kernel_rfl⟩ tabOk mixed (by show 1 ≤ Tryz.f101.ntmps; decide) ?_
  refine W.seq_region fun K hK => ?_
  simp (disch := omega) only [↓RU, RV, RH, ↓reduceIte, Nat.reduceEqDiff, reduceCtorEq, if_pos]
  refine hK _ _ ?_
  clear hK K
  refine W.seq_region fun K hK => ?_
  simp (disch := omega) only [↓RU, RV, RH, ↓reduceIte, Nat.reduceEqDiff, reduceCtorEq, if_pos, List.append_nil]
  refine CallR.pc (hx) rfl (.inr rfl) ?_
  simp (disch := omega) only [↓RU, RV, RH, ↓reduceIte, Nat.reduceEqDiff, reduceCtorEq, if_pos, List.append_nil]
  refine hK _ _ ?_
  clear hK K
  refine W.seq_region fun K hK => ?_
  cases hf : floorI p
  · skip
    simp (disch := omega) only [↓RU, RV, RH, ↓reduceIte, Nat.reduceEqDiff, reduceCtorEq, if_pos, List.append_nil]
    refine hK _ _ ?_
    clear hK K
    refine W.ret ?_
    refine BodyQ.ret rfl ?_
    rw [plainI, hf]
    exact reify_tup2 (k := 9) (hr _ 8) rfl
  · skip
    have hxe := hy hf
    subst hxe
    have hok : okB p = true := by unfold floorI at hf; rw [Bool.and_eq_true] at hf; exact hf.1
    have hg := okB_gw hok
    simp (disch := omega) only [↓RU, RV, RH, ↓reduceIte, Nat.reduceEqDiff, reduceCtorEq, if_pos, List.append_nil, hf]
    refine CallR.pc (fplain_pc hg (rP p)) rfl (.inl rfl) ?_
    simp (disch := omega) only [↓RU, RV, RH, ↓reduceIte, Nat.reduceEqDiff, reduceCtorEq, if_pos, List.append_nil, hf]
    refine hK _ _ ?_
    clear hK K
    refine W.ret ?_
    refine BodyQ.ret rfl ?_
    rw [plainI, hf]
    rfl

theorem plain_okB {p : List Txt} (h : plainI p = true) : okB p = true ∧ plainI p = true := by
  refine ⟨?_, h⟩
  unfold plainI floorI at h
  simp only [Bool.and_eq_true] at h
  exact h.1.1
theorem plainOf_ex {p : List Txt} (hs : Sm p) : ∃ x, PC Tryz.prog 101 [eStrs p] (.tup [x, .bool (plainI p)]) false ∧ (plainI p = true → x = eFloor (gP p) (rP p)) ∧ ∀ (S : Store) (k : Nat), reify S true (k + 1) x = some x := by
  obtain ⟨x, h1, h2, h3⟩ := floorOf_ex hs
  refine ⟨x, plainOf_ex0 hs h1 h2 h3, fun h => h2 ?_, h3⟩
  unfold plainI at h
  rw [Bool.and_eq_true] at h
  exact h.1

end Fw
end Go.Proofs.YtcglmbijpjhbmaaGreat

/-! Plans that are cut, in plain words. -/
namespace Go.Proofs.YtcglmbijpjhbmaaGreat
namespace Fw
open Go

section
variable {p : List Txt} {room : Int} {s : Txt} {t l h w k : Nat}
end
end Fw
end Go.Proofs.YtcglmbijpjhbmaaGreat

/-! Orders of two rooms, gone through. -/
namespace Go.Proofs.YtcglmbijpjhbmaaGreat
namespace Fw
open Go

theorem lf_is {p : List Txt} : leftG (gP p) p.length (w0 (readG p)) (rP p).length = lfM p := by rw [w0_read]; rfl
theorem ab_is {p : List Txt} : aboveG (gP p) p.length (w0 (readG p)) (rP p).length = abM p := by rw [w0_read]; rfl
theorem lfM_sq {p : List Txt} (h : plainI p = true) : Sq (rP p).length (lfM p) := by
  obtain ⟨-, ⟨_, hu⟩, -⟩ := plan_all h
  rw [lf_is] at hu; exact hu.sq
theorem abM_sq {p : List Txt} (h : plainI p = true) : Sq (rP p).length (abM p) := by
  obtain ⟨-, -, ⟨_, hu⟩⟩ := plan_all h
  rw [ab_is] at hu; exact hu.sq

theorem ordersOf_no {p : List Txt} (hs : Sm p) (hv : plainI p = false) : PC Tryz.prog 74 [eStrs p] (.tup [.agg [.sl [] 0, .sl [] 0], .bool false]) false := by
  obtain ⟨x, hx, hxy, hxr⟩ := plainOf_ex hs
  refine PC.of ⟨Tryz.func74, by kernel_rfl, rfl, by kernel_rfl⟩ tabOk mixed (by show 1 ≤ Tryz.f74.ntmps; decide) ?_
  refine W.seq_region fun K hK => ?_
  simp (disch := omega) only [↓RU, RV, RH, ↓reduceIte, Nat.reduceEqDiff, reduceCtorEq, if_pos, ↓RS, RG, Nat.reduceAdd, Nat.reduceMul, Nat.reduceLeDiff, tyLLbool, tyLbool, tybool, tyimpl_orders, tyimpl_relation, tystruct_left_impl_relation_above_impl_relation_]
  refine hK _ _ ?_
  clear hK K
  refine W.seq_region fun K hK => ?_
  simp (disch := omega) only [↓RU, RV, RH, ↓reduceIte, Nat.reduceEqDiff, reduceCtorEq, if_pos, List.append_nil, ↓RS, RG, Nat.reduceAdd, Nat.reduceMul, Nat.reduceLeDiff, hv]
  refine CallR.pc (hx) rfl (.inr rfl) ?_
  simp (disch := omega) only [↓RU, RV, RH, ↓reduceIte, Nat.reduceEqDiff, reduceCtorEq, if_pos, List.append_nil, ↓RS, RG, Nat.reduceAdd, Nat.reduceMul, Nat.reduceLeDiff, hv]
  refine hK _ _ ?_
  clear hK K
  refine W.seq ?_
  refine W.seq_region fun K hK => ?_
  simp (disch := omega) only [↓RU, RV, RH, ↓reduceIte, Nat.reduceEqDiff, reduceCtorEq, if_pos, ↓RS, RG, Nat.reduceAdd, Nat.reduceMul, Nat.reduceLeDiff]
  refine hK _ _ ?_
  clear hK K
  refine W.cond rfl (fun h => ?_) (fun h => ?_)
  · try simp only [RL] at h
    refine W.seq_region fun K hK => ?_
    simp (disch := omega) only [↓RU, RV, RH, ↓reduceIte, Nat.reduceEqDiff, reduceCtorEq, if_pos, ↓RS, RG, Nat.reduceAdd, Nat.reduceMul, Nat.reduceLeDiff, tyLLbool, tyLbool, tybool, tyimpl_orders, tyimpl_relation, tystruct_left_impl_relation_above_impl_relation_]
    refine hK _ _ ?_
    clear hK K
    refine W.ret ?_
    refine XThen.ret ?_
    refine BodyQ.ret rfl ?_
    rfl
  · try simp only [RL] at h
    exact absurd h (by simp)

theorem ordersOf_yes {p : List Txt} (hs : Sm p) (hv : plainI p = true) : PC Tryz.prog 74 [eStrs p] (.tup [(.agg [eRel (lfM p), eRel (abM p)]), .bool true]) false := by
  obtain ⟨x, hx, hxy, hxr⟩ := plainOf_ex hs
  obtain rfl := hxy hv
  obtain ⟨hrm, -, -⟩ := plan_all hv
  have hok := (plain_okB hv).1
  have hg := okB_gw hok
  have hn9 := okB_rooms hok
  have hn1 := okB_rooms1 hok
  refine PC.of ⟨Tryz.func74, by kernel_rfl, rfl, by kernel_rfl⟩ tabOk mixed (by show 1 ≤ Tryz.f74.ntmps; decide) ?_
  refine W.seq_region fun K hK => ?_
  simp (disch := omega) only [↓RU, RV, RH, ↓reduceIte, Nat.reduceEqDiff, reduceCtorEq, if_pos, ↓RS, RG, Nat.reduceAdd, Nat.reduceMul, Nat.reduceLeDiff, tyLLbool, tyLbool, tybool, tyimpl_orders, tyimpl_relation, tystruct_left_impl_relation_above_impl_relation_]
  refine hK _ _ ?_
  clear hK K
  refine W.seq_region fun K hK => ?_
  simp (disch := omega) only [↓RU, RV, RH, ↓reduceIte, Nat.reduceEqDiff, reduceCtorEq, if_pos, List.append_nil, ↓RS, RG, Nat.reduceAdd, Nat.reduceMul, Nat.reduceLeDiff, hv]
  refine CallR.pc (hx) rfl (.inr rfl) ?_
  simp (disch := omega) only [↓RU, RV, RH, ↓reduceIte, Nat.reduceEqDiff, reduceCtorEq, if_pos, List.append_nil, ↓RS, RG, Nat.reduceAdd, Nat.reduceMul, Nat.reduceLeDiff, hv]
  refine hK _ _ ?_
  clear hK K
  refine W.seq ?_
  refine W.seq_region fun K hK => ?_
  simp (disch := omega) only [↓RU, RV, RH, ↓reduceIte, Nat.reduceEqDiff, reduceCtorEq, if_pos, ↓RS, RG, Nat.reduceAdd, Nat.reduceMul, Nat.reduceLeDiff]
  refine hK _ _ ?_
  clear hK K
  refine W.cond rfl (fun h => ?_) (fun h => ?_)
  · try simp only [RL] at h
    exact absurd h (by simp)
  · try simp only [RL] at h
    refine W.skip ?_
    refine XThen.norm ?_
    refine W.seq_region fun K hK => ?_
    simp (disch := omega) only [↓RU, RV, RH, ↓reduceIte, Nat.reduceEqDiff, reduceCtorEq, if_pos, List.append_nil, ↓RS, RG, Nat.reduceAdd, Nat.reduceMul, Nat.reduceLeDiff, tyLLbool, tyLbool, tybool, tyimpl_orders, tyimpl_relation, tystruct_left_impl_relation_above_impl_relation_]
    refine CallR.pc (orders_pc hg rfl hn9 hrm) rfl (.inl rfl) ?_
    simp (disch := omega) only [↓RU, RV, RH, ↓reduceIte, Nat.reduceEqDiff, reduceCtorEq, if_pos, List.append_nil, ↓RS, RG, Nat.reduceAdd, Nat.reduceMul, Nat.reduceLeDiff, tyLLbool, tyLbool, tybool, tyimpl_orders, tyimpl_relation, tystruct_left_impl_relation_above_impl_relation_]
    refine hK _ _ ?_
    clear hK K
    refine W.ret ?_
    refine BodyQ.ret rfl ?_
    rw [lf_is, ab_is]
    rfl

end Fw
end Go.Proofs.YtcglmbijpjhbmaaGreat
