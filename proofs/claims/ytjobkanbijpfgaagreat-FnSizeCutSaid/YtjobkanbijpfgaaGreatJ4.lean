/- Parts of the framework and of the proof: Plans that are read are the specification's: numbers of rooms and rectangles; Plans that are read are the specification's: rooms fill their rectangles; Areas by the program are the specification's; Areas by the program are the specification's, joined; Arguments of laws as plain data; A slice of bytes as an argument: plain data; Cut trees: parts of plans, their first cuts, and the tree of all; Parts of plans as texts: the specification's cut and its parts; Plans in which no four rooms meet: two orders of rooms go on without end, and each two rooms are in one; The program's closures and walls in words of cells: left of is going on from just left of, above is going on from just above; Orders of a plain plan: each two rooms are in just one; Parts of plans in the program: the rooms of a part, its lines, its cut; Parts of plans in the program: rooms, lines, gone through; The framework, part ha: loops over functions: yield's contract out of the body's walk, and the statement; The framework, part hb: a region in which two variables are made, either of them ahead of the other; The cuts of a part, and the first one, gone through; Cuts in the specification, gone through. -/
import Derived.Test.YtjobkanbijpfgaaGreatJ3
import Derived.Test.YtjobkanbijpfgaaGreatRows
import Derived.ProofKit
import Derived.SliceStrings
import Derived.Test.YtjobkanbijpfgaaGreatJ2
import Derived.Test.YtjobkanbijpfgaaGreatJ1
set_option linter.all false
namespace Go.Proofs.YtjobkanbijpfgaaGreat
namespace Fw
open Go
open Nat (reduceEqDiff reduceLeDiff reduceAdd reduceMul)
theorem zRow_at {g : List (List Int)} {i : Nat} {s : List Int × List Rect} : ∀ {j k : Nat},k < j → (zRow g i s j)[k]? = some (((seRow g i s k).1.idxOf (gz g i k) : Nat) : Int)
 | 0,k,h => by omega
 | j + 1,k,h => by
  unfold zRow
  by_cases e : k = j
  ·subst e; rw [List.getElem?_append_right (by rw [zRow_len]; exact Nat.le_refl _),zRow_len]; simp
  ·rw [List.getElem?_append_left (by rw [zRow_len]; omega)]; exact zRow_at (by omega)
def keys (p : List Txt) : List Int := (seRows (readG p) (hdRow p).length p.length).1
theorem gP_eq {p : List Txt} : gP p = zRows (readG p) (hdRow p).length p.length := by unfold gP zG; rw [w0_read,readG_len]
theorem rP_eq {p : List Txt} : rP p = (seRows (readG p) (hdRow p).length p.length).2 := by unfold rP stG; rw [w0_read,readG_len]
theorem gP_at {p : List Txt} {i j : Nat} (hi : i < p.length) (hj : j < (hdRow p).length) : gz (gP p) i j = (((keys p).idxOf (gz (readG p) i j) : Nat) : Int) := by
 rw [gP_eq]
 unfold gz
 rw [zRows_at hi,Option.getD_some,zRow_at hj,Option.getD_some]
 congr 1
 exact zNum hi hj
theorem keys_inv (p : List Txt) : SeInv (gz (readG p)) (hdRow p).length p.length 0 (keys p) (rP p) := by
 rw [rP_eq]; exact SeInv.rows p.length
theorem gone_all {H W i j : Nat} (hi : i < H) (hj : j < W) : Gone W H 0 i j := ⟨hj,.inl hi⟩
theorem gP_room {p : List Txt} : RmOk (gP p) p.length (hdRow p).length (rP p).length := by
 intro i j hi hj
 rw [gP_at hi hj]
 have hm := (keys_inv p).mem i j (gone_all hi hj)
 have hl := (keys_inv p).len
 have := List.idxOf_lt_length_iff.2 hm
 omega
structure Named (p : List Txt) : Prop where
 hg : gridB p = true
 ht : textG (gP p) = p
theorem Named.cell {p : List Txt} (h : Named p) {i j : Nat} (hi : i < p.length) (hj : j < (hdRow p).length) : gz (gP p) i j = cellZ p i j := by
 have hgz := gP_at hi hj
 have hm := (keys_inv p).mem i j (gone_all hi hj)
 have hsm := grid_small h.hg
 obtain ⟨row0,hr0,hm0⟩ := get_of hsm.1
 have hh := hdRow_of hr0
 have hw6 := hsm.2.2 row0 hm0
 have hw1 := row_pos h.hg hr0
 rw [← hh] at hw6 hw1
 have hb := zRows_bound (g := readG p) hw6 hw1 p.length hsm.2.1
 rw [← gP_eq] at hb
 have hrl : (gP p).length = p.length := by rw [gP_eq]; exact zRows_len _
 obtain ⟨zr,hzr,hzm⟩ := get_of (show i < (gP p).length by omega)
 have hzl : zr.length = (hdRow p).length := by
  have e := hzr
  rw [gP_eq,zRows_at hi] at e
  cases e
  exact zRow_len _
 obtain ⟨z,hz,hzm2⟩ := get_of (show j < zr.length by omega)
 have hz1 := hb zr hzm z hzm2
 have e1 : gz (gP p) i j = z := by simp [gz,hzr,hz]
 have e2 : p[i]? = some (rowT zr) := by
  have := textG_at hzr
  rwa [h.ht] at this
 have e3 : (rowT zr)[j]? = some (letZ z) := by simp [rowT,hz]
 rw [e1,cellZ_is e2 e3]
 unfold letZ
 rw [UInt8.toNat_ofNat_of_lt' (by show 97 + z.toNat < 256; omega)]
 omega
theorem Named.room {p : List Txt} (h : Named p) {i j : Nat} (hi : i < p.length) (hj : j < (hdRow p).length) : 0 ≤ cellZ p i j ∧ cellZ p i j < (rP p).length := by
 rw [← h.cell hi hj]; exact gP_room i j hi hj
theorem Named.key {p : List Txt} (h : Named p) {m : Nat} {v : Int} (hm : (keys p)[m]? = some v) (a b : Nat) : Val (gz (readG p)) (hdRow p).length p.length 0 v a b ↔ Val (cellZ p) (hdRow p).length p.length 0 m a b := by
 unfold Val
 constructor
 ·rintro ⟨h1,h2⟩
  refine ⟨?_,h2⟩
  obtain ⟨hb,ha⟩ := h2
  have ha' : a < p.length := by omega
  rw [← h.cell ha' hb,gP_at ha' hb,h1]
  congr 1
  have hv := List.mem_of_getElem? hm
  have hlt := List.idxOf_lt_length_iff.2 hv
  have := idxOf_mem (ks := keys p) (z := v) (by omega)
  exact nodup_one (keys_inv p).nd this hm
 ·rintro ⟨h1,h2⟩
  refine ⟨?_,h2⟩
  obtain ⟨hb,ha⟩ := h2
  have ha' : a < p.length := by omega
  have hmem := (keys_inv p).mem a b (gone_all ha' hb)
  have hlt := List.idxOf_lt_length_iff.2 hmem
  rw [← h.cell ha' hb,gP_at ha' hb] at h1
  have := idxOf_mem (ks := keys p) (z := gz (readG p) a b) (by omega)
  rw [show (keys p).idxOf (gz (readG p) a b) = m by omega,hm] at this
  cases this; rfl
theorem Named.rect {p : List Txt} (h : Named p) {m : Nat} {b : Rect} (hb : (rP p)[m]? = some b) : HullR (Val (cellZ p) (hdRow p).length p.length 0 m) b := by
 have hi := keys_inv p
 have hml := len_of hb
 rw [hi.len] at hml
 obtain ⟨v,hv,-⟩ := get_of hml
 exact (hi.hull m v b hv hb).congr (h.key hv)
theorem Named.box {p : List Txt} (h : Named p) {m : Nat} {b : Rect} (hb : (rP p)[m]? = some b) : b.row = (boxOf p m).top ∧ b.col = (boxOf p m).left ∧ b.high = highOf p m ∧ b.wide = wideOf p m := by
 have h1 := h.rect hb
 have h2 := boxOf_inv (grid_rows h.hg) rfl (r := (m : Int))
 rcases h2 with ⟨h2,-⟩ | h2
 ·obtain ⟨a,c,q,-⟩ := h1.at_
  exact absurd q (h2 a c)
 ·have := Hull.uniq h1 h2
  unfold highOf wideOf
  omega
theorem foldl_max_le {f : UInt8 → Int} {B : Int} : ∀ (row : Txt) (n : Int),n ≤ B → (∀ c ∈ row,f c ≤ B) → row.foldl (fun n c => max n (f c)) n ≤ B
 | [],n,h,_ => h
 | c :: row,n,h,hc => foldl_max_le row _ (by have := hc c (by simp); show max n (f c) ≤ B; omega) fun d hd => hc d (by simp [hd])
theorem rooms_le {B : Int} : ∀ (p : List Txt) (n : Int),n ≤ B → (∀ row ∈ p,∀ c ∈ row,(c.toNat : Int) - 97 + 1 ≤ B) → p.foldl rowMax n ≤ B
 | [],n,h,_ => h
 | row :: p,n,h,hc => rooms_le p _ (foldl_max_le row n h (hc row (by simp))) fun r hr => hc r (by simp [hr])
theorem Named.rooms {p : List Txt} (h : Named p) : l1Rooms p = (rP p).length := by
 have hi := keys_inv p
 have hl := hi.len
 apply Int.le_antisymm
 ·refine rooms_le p 0 (by omega) fun row hr c hc => ?_
  obtain ⟨i,hrow⟩ := List.getElem?_of_mem hr
  obtain ⟨j,hcol⟩ := List.getElem?_of_mem hc
  have hil := len_of hrow
  have hjl := len_of hcol
  have := h.room hil (by rw [← grid_row h.hg hrow]; exact hjl)
  rw [cellZ_is hrow hcol] at this
  omega
 ·by_cases h0 : (rP p).length = 0
  ·have := (l1Rooms_bound p).1; omega
  ·obtain ⟨b,hb,-⟩ := get_of (show (rP p).length - 1 < (rP p).length by omega)
   obtain ⟨a,c,⟨q1,q2⟩,-⟩ := (h.rect hb).at_
   obtain ⟨hc,ha⟩ := q2
   have ha' : a < p.length := by omega
   obtain ⟨row,hrow,hrm⟩ := get_of ha'
   have hrl := grid_row h.hg hrow
   obtain ⟨d,hd,-⟩ := get_of (show c < row.length by omega)
   have := (rooms_fold p 0).2 a c row d hrow hd
   rw [cellZ_is hrow hd] at q1
   unfold l1Rooms
   omega
def inB (b : Rect) (i j : Nat) : Bool := (decide (b.row ≤ i) && decide ((i : Int) < b.row + b.high)) && (decide (b.col ≤ j) && decide ((j : Int) < b.col + b.wide))
theorem rect_cnt {z : Nat → Nat → Int} {H W : Nat} {v : Int} {b : Rect} (h : HullR (Val z W H 0 v) b) : ((cnt H W (inB b) : Nat) : Int) = b.high * b.wide ∧ ∀ i j,i < H → j < W → z i j = v → inB b i j = true := by
 obtain ⟨t,l,hh,w,e1,e2,e3,e4,h1,h2,h3,h4,h5⟩ := Hull.nat h
 have e5 : b.high = hh := by omega
 have e6 : b.wide = w := by omega
 have e : ∀ i j,inB b i j = inR t l hh w i j := by
  intro i j
  unfold inB inR
  rw [e1,e2,e5,e6,Bool.eq_iff_iff]
  simp only [Bool.and_eq_true,decide_eq_true_eq]
  omega
 have e7 : inB b = inR t l hh w := by funext i j; exact e i j
 rw [e7,cnt_rect h3 h4,e5,e6]
 exact ⟨by simp,h5⟩
def arN (p : List Txt) (m : Nat) : Nat :=
 match (rP p)[m]? with
 | some b => cnt p.length (hdRow p).length (inB b)
 | none => 0
theorem arN_is {p : List Txt} {m : Nat} {b : Rect} (h : (rP p)[m]? = some b) : arN p m = cnt p.length (hdRow p).length (inB b) := by simp [arN,h]
theorem sumA_is {p : List Txt} (h : Named p) : ∀ k,k ≤ (rP p).length → sumA ((rP p).take k) = ((sN k (arN p) : Nat) : Int)
 | 0,_ => by simp [sumA,sN]
 | k + 1,hk => by
  obtain ⟨b,hb,-⟩ := get_of (show k < (rP p).length by omega)
  rw [sumA_succ hb,sumA_is h k (by omega),sN,arN_is hb,← (rect_cnt (h.rect hb)).1]
  simp
theorem Named.cells_le {p : List Txt} (h : Named p) {m : Nat} (hm : m < (rP p).length) : cnt p.length (hdRow p).length (inZ p m) ≤ arN p m := by
 obtain ⟨b,hb,-⟩ := get_of hm
 rw [arN_is hb]
 exact cnt_le fun i j hi hj hz => (rect_cnt (h.rect hb)).2 i j hi hj (by unfold inZ at hz; simpa using hz)
theorem Named.all {p : List Txt} (h : Named p) : sN (rP p).length (fun m => cnt p.length (hdRow p).length (inZ p m)) = p.length * (hdRow p).length := by
 rw [← cnt_classes (H := p.length) (W := (hdRow p).length) (n := (rP p).length) (z := fun i j => (cellZ p i j).toNat) fun i j hi hj => by have := h.room hi hj; omega]
 refine sN_congr fun m hm => cnt_congr fun i j hi hj => ?_
 unfold inZ
 have := h.room hi hj
 apply decide_eq_decide.2
 omega
theorem fullG_is {p : List Txt} (h : Named p) : fullG (readG p) = decide (sN (rP p).length (arN p) = p.length * (hdRow p).length) := by
 have := sumA_is h (rP p).length (Nat.le_refl _)
 rw [List.take_length] at this
 unfold fullG
 rw [show (stG (readG p)).2 = rP p from rfl,this,readG_len,w0_read]
 apply decide_eq_decide.2
 omega
theorem Named.area {p : List Txt} (h : Named p) {m : Nat} (hm : m < (rP p).length) : (l1Cells p m = highOf p m * wideOf p m) ↔ cnt p.length (hdRow p).length (inZ p m) = arN p m := by
 obtain ⟨b,hb,-⟩ := get_of hm
 obtain ⟨-,-,e1,e2⟩ := h.box hb
 rw [l1Cells_is (grid_rows h.hg),← e1,← e2,← (rect_cnt (h.rect hb)).1,arN_is hb]
 omega
theorem Named.full {p : List Txt} (h : Named p) : fullG (readG p) = true ↔ ∀ m,m < (rP p).length → cnt p.length (hdRow p).length (inZ p m) = arN p m := by
 rw [fullG_is h,decide_eq_true_eq,← h.all]
 constructor
 ·intro e m hm
  exact sN_eq (fun m hm => h.cells_le hm) e.symm m hm
 ·intro e
  exact sN_congr fun m hm => (e m hm).symm
theorem Named.fill {p : List Txt} (h : Named p) (hf : fullG (readG p) = true) {m : Nat} {b : Rect} (hb : (rP p)[m]? = some b) {i j : Nat} (hi : i < p.length) (hj : j < (hdRow p).length) : inB b i j = decide (cellZ p i j = m) := by
 have e := h.full.1 hf m (len_of hb)
 rw [arN_is hb] at e
 exact (cnt_eq (fun i j hi hj hz => (rect_cnt (h.rect hb)).2 i j hi hj (by unfold inZ at hz; simpa using hz)) e i j hi hj).symm
theorem floorI_plan {p : List Txt} : floorI p = planB p := by
 unfold floorI floorV okB okS planB
 rw [Bool.eq_iff_iff]
 simp only [Bool.and_eq_true,decide_eq_true_eq,List.all_eq_true,List.mem_range]
 have hgi := grid_iff (p := p)
 constructor
 ·rintro ⟨⟨h1,h2,h3⟩,h4,h5⟩
  have hg : gridB p = true := by rw [hgi,h1,h2]; rfl
  have hN : Named p := ⟨hg,h5⟩
  have hr := hN.rooms
  have h3' : (rP p).length ≤ 9 := h3
  refine ⟨⟨⟨hg,by rw [names_text hg]; exact h5⟩,by omega⟩,fun m hm => ?_⟩
  have hm' : m < (rP p).length := by omega
  exact (hN.area hm').2 (hN.full.1 h4 m hm')
 ·rintro ⟨⟨⟨hg,h2⟩,h3⟩,h4⟩
  have h5 : textG (gP p) = p := by rw [← names_text hg]; exact h2
  have hN : Named p := ⟨hg,h5⟩
  have hr := hN.rooms
  rw [hgi,Bool.and_eq_true] at hg
  have h3' : (rP p).length ≤ 9 := by omega
  exact ⟨⟨hg.1,hg.2,h3'⟩,hN.full.2 fun m hm => (hN.area hm).1 (h4 m (by omega)),h5⟩
theorem plan_named {p : List Txt} (h : planB p = true) : Named p := by
 have h2 := h
 rw [← floorI_plan] at h2
 unfold floorI floorV at h2
 simp only [Bool.and_eq_true,decide_eq_true_eq] at h2
 exact ⟨planB_grid h,h2.2.2⟩
theorem plan_full {p : List Txt} (h : planB p = true) : fullG (readG p) = true := by
 rw [← floorI_plan] at h
 unfold floorI floorV at h
 simp only [Bool.and_eq_true,decide_eq_true_eq] at h
 exact h.2.1
def cz (c : UInt8) : Int := (c.toNat : Int) - 97
theorem cz_inj {a b : UInt8} : (cz a = cz b) = (a = b) := by
 rw [u8_eq]
 unfold cz
 apply propext; omega
theorem dn_dist (a b c d : UInt8) : ((dn [cz a,cz b,cz c,cz d] : Nat) : Int) = distTo [a,b,c,d] 4 := by
 simp only [dn,distTo,newAt,newTo,List.mem_cons,List.not_mem_nil,or_false,cz_inj]
 by_cases h1 : a = b <;> by_cases h2 : a = c <;> by_cases h3 : a = d <;> by_cases h4 : b = c <;> by_cases h5 : b = d <;> by_cases h6 : c = d <;> simp_all [eq_comm]
theorem four_meets {p : List Txt} (h : Named p) {i k : Nat} (hi : 1 ≤ i) (hi2 : i < p.length) (hk : 1 ≤ k) (hk2 : k < (hdRow p).length) : ((dn (four (gP p) i k) : Nat) : Int) = meetsAt p i k := by
 obtain ⟨r1,hr1,-⟩ := get_of (show i - 1 < p.length by omega)
 obtain ⟨r2,hr2,-⟩ := get_of hi2
 have l1 := grid_row h.hg hr1
 have l2 := grid_row h.hg hr2
 obtain ⟨a,ha,-⟩ := get_of (show k - 1 < r1.length by omega)
 obtain ⟨b,hb,-⟩ := get_of (show k < r1.length by omega)
 obtain ⟨c,hc,-⟩ := get_of (show k - 1 < r2.length by omega)
 obtain ⟨d,hd,-⟩ := get_of (show k < r2.length by omega)
 unfold four meetsAt
 rw [h.cell (by omega) (by omega),h.cell (by omega) (by omega),h.cell (by omega) (by omega),h.cell (by omega) (by omega),cellZ_is hr1 ha,cellZ_is hr1 hb,cellZ_is hr2 hc,cellZ_is hr2 hd]
 simp only [hr1,hr2,ha,hb,hc,hd]
 exact dn_dist a b c d
theorem ptsRow_eq {p : List Txt} (h : Named p) {many : Int} {i : Nat} (hi : 1 ≤ i) (hi2 : i < p.length) : ∀ k,k ≤ (hdRow p).length → ptsRowG (gP p) many i k = ptsRow p many i k
 | 0,_ => rfl
 | k + 1,hk => by
  unfold ptsRowG ptsRow
  rw [ptsRow_eq h hi hi2 k (by omega)]
  by_cases h1 : 1 ≤ k
  ·rw [four_meets h hi hi2 h1 (by omega)]
  ·rw [if_neg (fun e => h1 e.1),if_neg (fun e => h1 e.1)]
theorem pts_eq {p : List Txt} (h : Named p) {many : Int} : ∀ i,i ≤ p.length → ptsG (gP p) many (hdRow p).length i = ptsTo p many (hdRow p).length i
 | 0,_ => rfl
 | i + 1,hi => by
  unfold ptsG ptsTo
  rw [pts_eq h i (by omega)]
  by_cases h1 : 1 ≤ i
  ·rw [ptsRow_eq h h1 (by omega) _ (Nat.le_refl _)]
  ·rw [if_neg h1,if_neg h1]
theorem plainI_plain {p : List Txt} : plainI p = plainB p := by
 unfold plainI plainB
 rw [floorI_plan]
 cases hp : planB p with
 | false => rfl
 | true =>
  rw [w0_read,pts_eq (plan_named hp) p.length (Nat.le_refl _)]
  rfl
theorem plain_plan {p : List Txt} (h : plainB p = true) : planB p = true := by
 unfold plainB at h
 rw [Bool.and_eq_true] at h
 exact h.1
theorem needV_needs {p : List Txt} {ws : List Int} : needV p [ws] = needsB p ws := by
 unfold needV needsB needW
 rw [plainI_plain]
 cases hp : plainB p with
 | false => rfl
 | true =>
  have hr := (plan_named (plain_plan hp)).rooms
  simp only [List.all_cons,List.all_nil,Bool.and_true,Bool.true_and]
  congr 1
  rw [hr]
  apply decide_eq_decide.2
  omega
theorem mem_ddp {l : List Int} {x : Int} : x ∈ ddp l ↔ x ∈ l := by
 have : ∀ (l m : List Int),x ∈ l.foldl putL m ↔ x ∈ m ∨ x ∈ l := by
  intro l
  induction l with
  | nil => intro m; simp
  | cons a l ih => intro m; rw [List.foldl_cons,ih,mem_putL,List.mem_cons,or_assoc]
 unfold ddp
 rw [this]
 simp
def Rise (n : Nat) (rk : Nat → Nat) (M : List (List Bool)) : Prop := Sq n M ∧ ∀ a b,a < n → b < n → getB M a b = true → rk a < rk b
theorem Rise.clA {n : Nat} {rk : Nat → Nat} {M : List (List Bool)} (h : Rise n rk M) {k a : Nat} (hk : k < n) (ha : a < n) : Rise n rk (clA n k M a) := by
 obtain ⟨h1,h2⟩ := clA_to h.1 hk ha n (Nat.le_refl _)
 refine ⟨h1,fun x y hx hy hxy => ?_⟩
 unfold Fw.clA at hxy
 rw [h2 x y hx hy] at hxy
 split at hxy
 ·rename_i e
  obtain ⟨rfl,-⟩ := e
  rw [Bool.or_eq_true,Bool.and_eq_true] at hxy
  rcases hxy with hxy | ⟨h3,h4⟩
  ·exact h.2 x y hx hy hxy
  ·exact Nat.lt_trans (h.2 x k hx hk h3) (h.2 k y hk hy h4)
 ·exact h.2 x y hx hy hxy
theorem Rise.fold {n : Nat} {rk : Nat → Nat} {f : List (List Bool) → Nat → List (List Bool)} : ∀ (i : Nat) {M : List (List Bool)},i ≤ n → (∀ M j,j < n → Rise n rk M → Rise n rk (f M j)) → Rise n rk M → Rise n rk ((List.range i).foldl f M)
 | 0,_,_,_,h => h
 | i + 1,M,hi,hs,h => by
  rw [foldl_rg]
  exact hs _ i (by omega) (Rise.fold i (by omega) hs h)
theorem Rise.close {n : Nat} {rk : Nat → Nat} {M : List (List Bool)} (h : Rise n rk M) : Rise n rk (closeM M) := by
 unfold closeM
 rw [h.1.1]
 exact Rise.fold n (Nat.le_refl _) (fun _ k hk h => Rise.fold n (Nat.le_refl _) (fun _ a ha h => h.clA hk ha) h) h
theorem Rise.relB {n : Nat} {rk : Nat → Nat} {a : Int} (ha : 0 ≤ a ∧ a < n) : ∀ {bs : List Int} {M : List (List Bool)},Rm n bs → (∀ b ∈ bs,rk a.toNat < rk b.toNat) → Rise n rk M → Rise n rk (relB a bs M)
 | [],_,_,_,h => h
 | b :: bs,M,hb,hr,h => by
  have hb0 := hb b (by simp)
  refine Rise.relB ha (bs := bs) (fun x hx => hb x (by simp [hx])) (fun x hx => hr x (by simp [hx])) ⟨h.1.set (by omega),fun x y hx hy hxy => ?_⟩
  rw [getB_setB h.1 (by omega) (by omega)] at hxy
  split at hxy
  ·rename_i e
   rw [e.1,e.2]; exact hr b (by simp)
  ·exact h.2 x y hx hy hxy
theorem Rise.relW {n : Nat} {rk : Nat → Nat} {bs : List Int} (hb : Rm n bs) : ∀ {la : List Int} {M : List (List Bool)},Rm n la → (∀ a ∈ la,∀ b ∈ bs,rk a.toNat < rk b.toNat) → Rise n rk M → Rise n rk (relW M la bs)
 | [],_,_,_,h => h
 | a :: la,M,ha,hr,h => Rise.relW hb (la := la) (fun x hx => ha x (by simp [hx])) (fun x hx => hr x (by simp [hx])) (h.relB (ha a (by simp)) hb (hr a (by simp)))
theorem Rise.empty {n : Nat} {rk : Nat → Nat} : Rise n rk (emptyM n) := by
 refine ⟨emptyM_sq n,fun a b ha hb h => ?_⟩
 simp [getB,emptyM,ha,hb] at h
theorem Rise.ord {g : List (List Int)} {nh nw n : Nat} {r0 r1 : Nat → Nat} (hrm : RmOk g nh nw n) (h0 : ∀ w,WlOk g nh nw w → w.level = false → ∀ a ∈ (sidesOf g w).1,∀ b ∈ (sidesOf g w).2,r0 a.toNat < r0 b.toNat)
  (h1 : ∀ w,WlOk g nh nw w → w.level = true → ∀ a ∈ (sidesOf g w).1,∀ b ∈ (sidesOf g w).2,r1 a.toNat < r1 b.toNat) : ∀ (ws : List Wall),(∀ w ∈ ws,WlOk g nh nw w) → ∀ {M : List (List Bool) × List (List Bool)},Rise n r0 M.1 → Rise n r1 M.2 →
  Rise n r0 (ws.foldl (ordW g) M).1 ∧ Rise n r1 (ws.foldl (ordW g) M).2
 | [],_,_,k0,k1 => ⟨k0,k1⟩
 | w :: ws,hws,M,k0,k1 => by
  have hw := hws w (by simp)
  obtain ⟨hr1,hr2⟩ := sidesOf_rooms hrm hw
  rw [List.foldl_cons]
  refine Rise.ord hrm h0 h1 ws (fun w hw => hws w (by simp [hw])) ?_ ?_
  ·unfold ordW
   cases hlv : w.level with
   | false => simpa using k0.relW hr2 hr1 (h0 w hw hlv)
   | true => simpa using k0
  ·unfold ordW
   cases hlv : w.level with
   | false => simpa using k1
   | true => simpa using k1.relW hr2 hr1 (h1 w hw hlv)
theorem side1 {g : List (List Int)} {nh nw : Nat} {w : Wall} (hw : WlOk g nh nw w) {x : Int} (hx : x ∈ (sidesOf g w).1) : ∃ line j : Nat,w.line = line ∧ x = (sidesG g w.level line j).1 ∧ InL nh nw w.level line j ∧ difG g w.level line j = true := by
 obtain ⟨line,fr,long,e,h1,h2⟩ := hw
 have e1 : w.line.toNat = line := by rw [e]; simp
 have e2 : w.fr.toNat = fr := by rw [e]; simp
 have e3 : w.long.toNat = long := by rw [e]; simp
 simp only [sidesOf,e1,e2,e3] at hx
 have := mem_ddp.1 hx
 simp only [alongG,List.mem_map,List.mem_range] at this
 obtain ⟨j,hj,rfl⟩ := this
 have h3 := h2 (fr + j) (by omega) (by omega)
 exact ⟨line,fr + j,by rw [e],rfl,h3.1,h3.2⟩
theorem side2 {g : List (List Int)} {nh nw : Nat} {w : Wall} (hw : WlOk g nh nw w) {x : Int} (hx : x ∈ (sidesOf g w).2) : ∃ line j : Nat,w.line = line ∧ x = (sidesG g w.level line j).2 ∧ InL nh nw w.level line j ∧ difG g w.level line j = true := by
 obtain ⟨line,fr,long,e,h1,h2⟩ := hw
 have e1 : w.line.toNat = line := by rw [e]; simp
 have e2 : w.fr.toNat = fr := by rw [e]; simp
 have e3 : w.long.toNat = long := by rw [e]; simp
 simp only [sidesOf,e1,e2,e3] at hx
 have := mem_ddp.1 hx
 simp only [alongG,List.mem_map,List.mem_range] at this
 obtain ⟨j,hj,rfl⟩ := this
 have h3 := h2 (fr + j) (by omega) (by omega)
 exact ⟨line,fr + j,by rw [e],rfl,h3.1,h3.2⟩
def rkL (p : List Txt) (a : Nat) : Nat := match (rP p)[a]? with | some b => b.col.toNat | none => 0
def rkA (p : List Txt) (a : Nat) : Nat := match (rP p)[a]? with | some b => b.row.toNat | none => 0
theorem plan_rect {p : List Txt} (hp : planB p = true) {i j : Nat} (hi : i < p.length) (hj : j < (hdRow p).length) : ∃ b,(rP p)[(cellZ p i j).toNat]? = some b ∧ inB b i j = true ∧ b.Fit ∧ ∀ k l,k < p.length → l < (hdRow p).length → inB b k l = true → cellZ p k l = cellZ p i j := by
 have hN := plan_named hp
 have hr := hN.room hi hj
 obtain ⟨b,hb,hbm⟩ := get_of (show (cellZ p i j).toNat < (rP p).length by omega)
 have hf := plan_full hp
 have hsm := grid_small hN.hg
 obtain ⟨row0,hr0,hm0⟩ := get_of hsm.1
 have hh := hdRow_of hr0
 have hw6 := hsm.2.2 row0 hm0
 have hw1 := row_pos hN.hg hr0
 rw [← hh] at hw6 hw1
 have hok := (seRows_ok (g := readG p) hw6 hw1 p.length hsm.2.1).1
 rw [← rP_eq] at hok
 refine ⟨b,hb,?_,hok.2 b hbm,fun k l hk hl hkl => ?_⟩
 ·rw [hN.fill hf hb hi hj]; exact decide_eq_true (by omega)
 ·rw [hN.fill hf hb hk hl] at hkl
  have := of_decide_eq_true hkl
  omega
theorem plan_left {p : List Txt} (hp : planB p = true) {w : Wall} (hw : WlOk (gP p) p.length (hdRow p).length w) (hl : w.level = false) : ∀ a ∈ (sidesOf (gP p) w).1,∀ b ∈ (sidesOf (gP p) w).2,rkL p a.toNat < rkL p b.toNat := by
 intro a ha b hb
 have hN := plan_named hp
 obtain ⟨L,j,e1,rfl,⟨h1,h2⟩,h3⟩ := side1 hw ha
 obtain ⟨L',j',e2,rfl,⟨k1,k2⟩,k3⟩ := side2 hw hb
 obtain rfl : L = L' := by omega
 simp only [hl,Bool.false_eq_true,if_false] at h2 k2
 unfold difG at k3
 simp only [hl,sidesG,Bool.false_eq_true,if_false,decide_eq_true_eq] at k3 ⊢
 rw [hN.cell k2.2 (by omega),hN.cell k2.2 k2.1] at k3
 rw [hN.cell h2.2 (by omega),hN.cell k2.2 k2.1]
 obtain ⟨r1,hr1,q1,f1,-⟩ := plan_rect hp h2.2 (show L - 1 < (hdRow p).length by omega)
 obtain ⟨r2,hr2,q2,f2,c2⟩ := plan_rect hp k2.2 k2.1
 unfold rkL
 rw [hr1,hr2]
 simp only
 have c3 := c2 j' (L - 1) k2.2 (by omega)
 unfold inB at q1 q2 c3
 unfold Rect.Fit at f1 f2
 simp only [Bool.and_eq_true,decide_eq_true_eq] at q1 q2 c3
 by_cases hc : r2.col < (L : Int)
 ·exact absurd (c3 (by omega)) k3
 ·omega
theorem plan_above {p : List Txt} (hp : planB p = true) {w : Wall} (hw : WlOk (gP p) p.length (hdRow p).length w) (hl : w.level = true) : ∀ a ∈ (sidesOf (gP p) w).1,∀ b ∈ (sidesOf (gP p) w).2,rkA p a.toNat < rkA p b.toNat := by
 intro a ha b hb
 have hN := plan_named hp
 obtain ⟨L,j,e1,rfl,⟨h1,h2⟩,h3⟩ := side1 hw ha
 obtain ⟨L',j',e2,rfl,⟨k1,k2⟩,k3⟩ := side2 hw hb
 obtain rfl : L = L' := by omega
 simp only [hl,if_true] at h2 k2
 unfold difG at k3
 simp only [hl,sidesG,if_true,decide_eq_true_eq] at k3 ⊢
 rw [hN.cell (by omega) k2.2,hN.cell k2.1 k2.2] at k3
 rw [hN.cell (by omega) h2.2,hN.cell k2.1 k2.2]
 obtain ⟨r1,hr1,q1,f1,-⟩ := plan_rect hp (show L - 1 < p.length by omega) h2.2
 obtain ⟨r2,hr2,q2,f2,c2⟩ := plan_rect hp k2.1 k2.2
 unfold rkA
 rw [hr1,hr2]
 simp only
 have c3 := c2 (L - 1) j' (by omega) k2.2
 unfold inB at q1 q2 c3
 unfold Rect.Fit at f1 f2
 simp only [Bool.and_eq_true,decide_eq_true_eq] at q1 q2 c3
 by_cases hc : r2.row < (L : Int)
 ·exact absurd (c3 (by omega)) k3
 ·omega
theorem rk_le {p : List Txt} (hp : planB p = true) (b : Nat) : rkL p b ≤ 100 ∧ rkA p b ≤ 100 := by
 have hN := plan_named hp
 have hsm := grid_small hN.hg
 obtain ⟨row0,hr0,hm0⟩ := get_of hsm.1
 have hh := hdRow_of hr0
 have hw6 := hsm.2.2 row0 hm0
 have hw1 := row_pos hN.hg hr0
 rw [← hh] at hw6 hw1
 have hok := (seRows_ok (g := readG p) hw6 hw1 p.length hsm.2.1).1
 rw [← rP_eq] at hok
 unfold rkL rkA
 cases hb : (rP p)[b]? with
 | none => simp
 | some r =>
  have := hok.2 r (List.mem_of_getElem? hb)
  unfold Rect.Fit at this
  simp only
  omega
theorem plan_up {p : List Txt} (hp : planB p = true) : Up (leftG (gP p) p.length (hdRow p).length (rP p).length) (rP p).length (rkL p) ∧ Up (aboveG (gP p) p.length (hdRow p).length (rP p).length) (rP p).length (rkA p) := by
 have h := Rise.ord (r0 := rkL p) (r1 := rkA p) (gP_room (p := p)) (fun w hw hl => plan_left hp hw hl) (fun w hw hl => plan_above hp hw hl) (wallsG (gP p) p.length (hdRow p).length) wallsG_ok (M := (emptyM (rP p).length,emptyM (rP p).length)) Rise.empty Rise.empty
 have h0 := h.1.close
 have h1 := h.2.close
 exact ⟨⟨h0.1,h0.2,fun b => (rk_le hp b).1⟩,⟨h1.1,h1.2,fun b => (rk_le hp b).2⟩⟩
theorem plan_all {p : List Txt} (hp : plainI p = true) : RmOk (gP p) p.length (w0 (readG p)) (rP p).length ∧ (∃ rk,Up (leftG (gP p) p.length (w0 (readG p)) (rP p).length) (rP p).length rk) ∧ ∃ rk,Up (aboveG (gP p) p.length (w0 (readG p)) (rP p).length) (rP p).length rk := by
 rw [plainI_plain] at hp
 have h := plan_up (plain_plan hp)
 rw [w0_read]
 exact ⟨gP_room,⟨_,h.1⟩,⟨_,h.2⟩⟩
section
open Go Go.ChangeShapes Go.WideShapes Go.ChangeAt Go.RowKit
set_option maxRecDepth 100000 in
theorem slice_at {W : World} {base : Nat} {t e : TypeId} {a : Addr} {len cap : Nat} (ht : Tryz.prog.underlying t = some (.slice e)) (hval : Value.okWide Tryz.prog W .any base t (.slice (some a) len cap)) : a.spot = none ∧ a.block < W.heap.size := by
 simp only [Value.okWide,ht,Cell.okWide,Cell.ok] at hval
 obtain ⟨-,-,-,hsp,row,cells,hsh,-⟩ := hval
 refine ⟨hsp,?_⟩
 unfold World.shape? at hsh
 rcases Nat.lt_or_ge a.block W.heap.size with h | h
 ·exact h
 ·rw [Array.getElem?_eq_none h] at hsh; cases hsh
end
section
open Go Go.ChangeShapes Go.WideShapes Go.ChangeAt Go.RowKit
set_option maxRecDepth 100000 in
theorem vi_bytes {H : Type} {enc : TypeId × Value → H} {W : World} {base : Nat} {v : Value} {d : DataW H} {ps : List MemPlace} (hval : Value.okWide Tryz.prog W .any base 22 v) (h : DataW.Trod enc Tryz.prog W 0 (fun _ => true) true 22 v d ps) :
  ∃ p : Txt,VI W.heap (fun b => b < W.heap.size) (.sl (p.map eB) p.length) v ∧ p.length ≤ 9223372036854775807 := by
 obtain ⟨a0,len,cap,rfl⟩ := okWide_slice Tryz.underlying22 hval
 obtain ⟨fuel,hf⟩ := h
 rcases open_ints Tryz.underlying22 Tryz.underlying5 (by kernel_rfl) hf with ⟨hcs,hx⟩ | ⟨a,len',cap',zs,hcs,-,hl,hm,hz,hx,hcell,hwf⟩
 ·simp [Value.cells] at hcs
  obtain ⟨rfl,rfl,rfl⟩ := hcs
  exact ⟨[],.sl0,by simp⟩
 ·simp [Value.cells] at hcs
  obtain ⟨rfl,rfl,rfl⟩ := hcs
  obtain ⟨hsp,hlt⟩ := slice_at Tryz.underlying22 hval
  obtain ⟨b,off,spot⟩ := a
  simp only at hsp hlt
  subst hsp
  simp only [if_true] at hz
  have hml : maxLen ≤ 9223372036854775807 := by decide
  have hlen : ((zs.take len).map fun n : Int => UInt8.ofNat n.toNat).length = len := by simp; omega
  have hget : ∀ (i : Nat) c,((zs.take len).map fun n : Int => UInt8.ofNat n.toNat)[i]? = some c → i < len ∧ (c.toNat : Int) = zs.getD i 0 := by
   intro i c hc
   rw [List.getElem?_map,Option.map_eq_some_iff] at hc
   obtain ⟨z,hz1,rfl⟩ := hc
   have hi := len_of hz1
   simp only [List.length_take] at hi
   rw [List.getElem?_take_of_lt (by omega)] at hz1
   refine ⟨by omega,?_⟩
   rw [List.getD_eq_getElem?_getD,hz1,Option.getD_some]
   have hw := hwf z (List.mem_of_getElem? hz1)
   have hz8 : 0 ≤ z ∧ z < 256 := by
    have e : IntKind.u8.min ≤ z ∧ z ≤ IntKind.u8.max := by simpa [Lit.wf] using hw
    have e1 : IntKind.u8.min = 0 := by decide
    have e2 : IntKind.u8.max = 255 := by decide
    omega
   have e3 : (UInt8.ofNat z.toNat).toNat = z.toNat % 256 := rfl
   rw [e3]
   omega
  refine ⟨(zs.take len).map fun n : Int => UInt8.ofNat n.toNat,?_,by rw [hlen]; omega⟩
  rw [hlen]
  refine .sl _ _ b off cap (fun i => .int .u8 (zs.getD i 0)) (fun _ => hlt) hl (fun i q hq => ?_) (fun i q hq => ?_)
  ·rw [List.getElem?_map,Option.map_eq_some_iff] at hq
   obtain ⟨c,hc,rfl⟩ := hq
   obtain ⟨hi,-⟩ := hget i c hc
   refine ⟨rfl,?_⟩
   rw [← cellH_eq]
   have := hcell i (by omega)
   rwa [add_lit] at this
  ·rw [List.getElem?_map,Option.map_eq_some_iff] at hq
   obtain ⟨c,hc,rfl⟩ := hq
   obtain ⟨-,e⟩ := hget i c hc
   show VI _ _ (.int .u8 (c.toNat : Int)) _
   rw [e]
   exact .int _ _
end
structure Pt where
 r : Nat
 c : Nat
 h : Nat
 w : Nat
 deriving DecidableEq
def Pt.In (t : Pt) (H W : Nat) : Prop := 1 ≤ t.h ∧ 1 ≤ t.w ∧ t.r + t.h ≤ H ∧ t.c + t.w ≤ W
def fstK (f : Nat → Bool) : Nat → Option Nat
 | 0 => none
 | k + 1 => (fstK f k).or (if decide (1 ≤ k) && f k then some k else none)
theorem fstK_none {f : Nat → Bool} : ∀ {n : Nat},fstK f n = none ↔ ∀ k,1 ≤ k → k < n → f k = false
 | 0 => by simp [fstK]
 | n + 1 => by
  simp only [fstK,Option.or_eq_none_iff,fstK_none (n := n)]
  constructor
  ·rintro ⟨h1,h2⟩ k hk hn
   by_cases e : k = n
   ·subst e; cases hf : f k with
    | false => rfl
    | true => rw [hf] at h2; simp at h2; omega
   ·exact h1 k hk (by omega)
  ·intro h
   refine ⟨fun k hk hn => h k hk (by omega),?_⟩
   by_cases hn : 1 ≤ n
   ·simp [h n hn (by omega)]
   ·simp [hn]
theorem fstK_some {f : Nat → Bool} {k : Nat} : ∀ {n : Nat},fstK f n = some k ↔ 1 ≤ k ∧ k < n ∧ f k = true ∧ ∀ j,1 ≤ j → j < k → f j = false
 | 0 => by simp [fstK]
 | n + 1 => by
  simp only [fstK]
  cases h : fstK f n with
  | some m =>
   have hm := (fstK_some (n := n)).1 h
   simp only [Option.some_or,Option.some.injEq]
   constructor
   ·rintro rfl; exact ⟨hm.1,by omega,hm.2.2.1,hm.2.2.2⟩
   ·rintro ⟨h1,h2,h3,h4⟩
    rcases Nat.lt_trichotomy m k with e | e | e
    ·have := h4 m hm.1 e; rw [hm.2.2.1] at this; cases this
    ·exact e
    ·have := hm.2.2.2 k h1 e; rw [h3] at this; cases this
  | none =>
   have hn := fstK_none.1 h
   simp only [Option.none_or]
   constructor
   ·intro e
    split at e
    ·rename_i hc
     cases e
     simp only [Bool.and_eq_true,decide_eq_true_eq] at hc
     exact ⟨hc.1,by omega,hc.2,hn⟩
    ·cases e
   ·rintro ⟨h1,h2,h3,h4⟩
    by_cases e : k = n
    ·subst e; simp [h1,h3]
    ·have := hn k h1 (by omega); rw [h3] at this; cases this
def thU (z : Nat → Nat → Int) (t : Pt) (k : Nat) : Bool := (List.range t.h).all fun i => decide (z (t.r + i) (t.c + k - 1) ≠ z (t.r + i) (t.c + k))
def thL (z : Nat → Nat → Int) (t : Pt) (k : Nat) : Bool := (List.range t.w).all fun j => decide (z (t.r + k - 1) (t.c + j) ≠ z (t.r + k) (t.c + j))
theorem thU_iff {z : Nat → Nat → Int} {t : Pt} {k : Nat} : thU z t k = true ↔ ∀ i,i < t.h → z (t.r + i) (t.c + k - 1) ≠ z (t.r + i) (t.c + k) := by simp [thU]
theorem thL_iff {z : Nat → Nat → Int} {t : Pt} {k : Nat} : thL z t k = true ↔ ∀ j,j < t.w → z (t.r + k - 1) (t.c + j) ≠ z (t.r + k) (t.c + j) := by simp [thL]
def cutOf (z : Nat → Nat → Int) (t : Pt) : Option (Bool × Nat) :=
 match fstK (thU z t) t.w with
 | some k => some (false,k)
 | none => match fstK (thL z t) t.h with
  | some k => some (true,k)
  | none => none
def Pt.one (t : Pt) (q : Bool × Nat) : Pt := if q.1 then ⟨t.r,t.c,q.2,t.w⟩ else ⟨t.r,t.c,t.h,q.2⟩
def Pt.two (t : Pt) (q : Bool × Nat) : Pt := if q.1 then ⟨t.r + q.2,t.c,t.h - q.2,t.w⟩ else ⟨t.r,t.c + q.2,t.h,t.w - q.2⟩
theorem cutOf_some {z : Nat → Nat → Int} {t : Pt} {q : Bool × Nat} (h : cutOf z t = some q) : 1 ≤ q.2 ∧ if q.1 then q.2 < t.h ∧ thL z t q.2 = true else q.2 < t.w ∧ thU z t q.2 = true := by
 unfold cutOf at h
 split at h
 ·rename_i k hk; cases h; have := fstK_some.1 hk; exact ⟨this.1,by simp [this.2.1,this.2.2.1]⟩
 ·split at h
  ·rename_i k hk; cases h; have := fstK_some.1 hk; exact ⟨this.1,by simp [this.2.1,this.2.2.1]⟩
  ·cases h
theorem cutOf_none {z : Nat → Nat → Int} {t : Pt} : cutOf z t = none ↔ (∀ k,1 ≤ k → k < t.w → thU z t k = false) ∧ ∀ k,1 ≤ k → k < t.h → thL z t k = false := by
 unfold cutOf
 split
 ·rename_i k hk
  have := fstK_some.1 hk
  constructor
  ·intro h; cases h
  ·rintro ⟨h,_⟩; rw [h k this.1 this.2.1] at this; simp at this
 ·rename_i hn
  split
  ·rename_i k hk
   have := fstK_some.1 hk
   constructor
   ·intro h; cases h
   ·rintro ⟨_,h⟩; rw [h k this.1 this.2.1] at this; simp at this
  ·rename_i hn2
   exact ⟨fun _ => ⟨fstK_none.1 hn,fstK_none.1 hn2⟩,fun _ => rfl⟩
theorem Pt.In.cut {t : Pt} {H W : Nat} (h : t.In H W) {z : Nat → Nat → Int} {q : Bool × Nat} (hq : cutOf z t = some q) : (t.one q).In H W ∧ (t.two q).In H W ∧
  (t.one q).h * (t.one q).w < t.h * t.w ∧ (t.two q).h * (t.two q).w < t.h * t.w := by
 obtain ⟨h1,h2⟩ := cutOf_some hq
 obtain ⟨a,b,c,d⟩ := h
 obtain ⟨lv,k⟩ := q
 simp only at h1 h2
 cases lv with
 | true =>
  simp only [if_true] at h2
  simp only [Pt.one,Pt.two,if_true,Pt.In]
  refine ⟨⟨h1,b,by omega,d⟩,⟨by omega,b,by omega,d⟩,Nat.mul_lt_mul_of_pos_right h2.1 b,Nat.mul_lt_mul_of_pos_right (by omega) b⟩
 | false =>
  simp only [Bool.false_eq_true,if_false] at h2
  simp only [Pt.one,Pt.two,Bool.false_eq_true,if_false,Pt.In]
  refine ⟨⟨a,h1,c,by omega⟩,⟨a,by omega,c,by omega⟩,Nat.mul_lt_mul_of_pos_left h2.1 a,Nat.mul_lt_mul_of_pos_left (by omega) a⟩
def oneZ (z : Nat → Nat → Int) (t : Pt) : Bool := (List.range t.h).all fun i => (List.range t.w).all fun j => decide (z (t.r + i) (t.c + j) = z t.r t.c)
theorem oneZ_iff {z : Nat → Nat → Int} {t : Pt} : oneZ z t = true ↔ ∀ i j,i < t.h → j < t.w → z (t.r + i) (t.c + j) = z t.r t.c := by
 simp only [oneZ,List.all_eq_true,List.mem_range,decide_eq_true_eq]
 exact ⟨fun h i j hi hj => h i hi j hj,fun h i hi j hj => h i j hi hj⟩
inductive CT where
 | leaf (a : Int)
 | node (lv : Bool) (x y : CT)
def tree (z : Nat → Nat → Int) : Nat → Pt → Option CT
 | 0,_ => none
 | f + 1,t => if oneZ z t then some (.leaf (z t.r t.c)) else
  match cutOf z t with
  | none => none
  | some q => match tree z f (t.one q),tree z f (t.two q) with
   | some x,some y => some (.node q.1 x y)
   | _,_ => none
theorem tree_fuel {z : Nat → Nat → Int} {H W : Nat} : ∀ (n : Nat) {t : Pt} {f g : Nat},t.In H W → t.h * t.w ≤ n → t.h * t.w ≤ f → t.h * t.w ≤ g → tree z f t = tree z g t
 | 0,t,f,g,hi,hn,_,_ => by have := Nat.mul_pos hi.1 hi.2.1; omega
 | n + 1,t,f,g,hi,hn,hf,hg => by
  have := Nat.mul_pos hi.1 hi.2.1
  obtain ⟨f,rfl⟩ : ∃ f',f = f' + 1 := ⟨f - 1,by omega⟩
  obtain ⟨g,rfl⟩ : ∃ g',g = g' + 1 := ⟨g - 1,by omega⟩
  simp only [tree]
  split
  ·rfl
  ·cases hc : cutOf z t with
   | none => rfl
   | some q =>
    obtain ⟨i1,i2,a1,a2⟩ := hi.cut hc
    simp only
    rw [tree_fuel n i1 (f := f) (g := g) (by omega) (by omega) (by omega),tree_fuel n i2 (f := f) (g := g) (by omega) (by omega) (by omega)]
def CT.fold {α : Type} (room : Int → α) (cut : Bool → α → α → α) : CT → α
 | .leaf a => room a
 | .node lv x y => cut lv (x.fold room cut) (y.fold room cut)
structure Whole (z : Nat → Nat → Int) (H W : Nat) (t : Pt) : Prop where
 inn : t.In H W
 all : ∀ i j i' j',i < H → j < W → i' < H → j' < W → z i j = z i' j' → t.r ≤ i → i < t.r + t.h → t.c ≤ j → j < t.c + t.w → t.r ≤ i' ∧ i' < t.r + t.h ∧ t.c ≤ j' ∧ j' < t.c + t.w
def RectZ (z : Nat → Nat → Int) (H W : Nat) : Prop := ∀ {i j i' j' : Nat} (k l : Nat),i < H → i' < H → j < W → j' < W → z i j = z i' j' → min i i' ≤ k → k ≤ max i i' → min j j' ≤ l → l ≤ max j j' → z k l = z i j
theorem Whole.cut {z : Nat → Nat → Int} {H W : Nat} (hz : RectZ z H W) {t : Pt} (h : Whole z H W t) {q : Bool × Nat} (hq : cutOf z t = some q) : Whole z H W (t.one q) ∧ Whole z H W (t.two q) := by
 obtain ⟨i1,i2,_,_⟩ := h.inn.cut hq
 obtain ⟨c1,c2⟩ := cutOf_some hq
 obtain ⟨lv,k⟩ := q
 have hin := h.inn
 unfold Pt.In at hin
 cases lv with
 | true =>
  simp only [if_true] at c2
  have hth := thL_iff.1 c2.2
  have key : ∀ i j i' j',i < H → j < W → i' < H → j' < W → z i j = z i' j' → t.r ≤ i → i < t.r + k → t.c ≤ j → j < t.c + t.w → t.r + k ≤ i' → i' < t.r + t.h → t.c ≤ j' → j' < t.c + t.w → False := by
   intro i j i' j' a b c d e f1 f2 f3 f4 g1 g2 g3 g4
   have e1 := hz (t.r + k - 1) j a c b d e (by omega) (by omega) (by omega) (by omega)
   have e2 := hz (t.r + k) j a c b d e (by omega) (by omega) (by omega) (by omega)
   have := hth (j - t.c) (by omega)
   rw [show t.c + (j - t.c) = j by omega] at this
   exact this (e1.trans e2.symm)
  refine ⟨⟨i1,?_⟩,⟨i2,?_⟩⟩
  ·simp only [Pt.one,if_true]
   intro i j i' j' a b c d e f1 f2 f3 f4
   obtain ⟨g1,g2,g3,g4⟩ := h.all i j i' j' a b c d e f1 (by omega) f3 f4
   refine ⟨g1,?_,g3,g4⟩
   rcases Nat.lt_or_ge i' (t.r + k) with h1 | h1
   ·exact h1
   ·exact (key i j i' j' a b c d e f1 f2 f3 f4 h1 g2 g3 g4).elim
  ·simp only [Pt.two,if_true]
   intro i j i' j' a b c d e f1 f2 f3 f4
   obtain ⟨g1,g2,g3,g4⟩ := h.all i j i' j' a b c d e (by omega) (by omega) f3 f4
   refine ⟨?_,by omega,g3,g4⟩
   rcases Nat.lt_or_ge i' (t.r + k) with h1 | h1
   ·exact (key i' j' i j c d a b e.symm g1 h1 g3 g4 f1 (by omega) f3 f4).elim
   ·exact h1
 | false =>
  simp only [Bool.false_eq_true,if_false] at c2
  have hth := thU_iff.1 c2.2
  have key : ∀ i j i' j',i < H → j < W → i' < H → j' < W → z i j = z i' j' → t.r ≤ i → i < t.r + t.h → t.c ≤ j → j < t.c + k → t.r ≤ i' → i' < t.r + t.h → t.c + k ≤ j' → j' < t.c + t.w → False := by
   intro i j i' j' a b c d e f1 f2 f3 f4 g1 g2 g3 g4
   have e1 := hz i (t.c + k - 1) a c b d e (by omega) (by omega) (by omega) (by omega)
   have e2 := hz i (t.c + k) a c b d e (by omega) (by omega) (by omega) (by omega)
   have := hth (i - t.r) (by omega)
   rw [show t.r + (i - t.r) = i by omega] at this
   exact this (e1.trans e2.symm)
  refine ⟨⟨i1,?_⟩,⟨i2,?_⟩⟩
  ·simp only [Pt.one,Bool.false_eq_true,if_false]
   intro i j i' j' a b c d e f1 f2 f3 f4
   obtain ⟨g1,g2,g3,g4⟩ := h.all i j i' j' a b c d e f1 f2 f3 (by omega)
   refine ⟨g1,g2,g3,?_⟩
   rcases Nat.lt_or_ge j' (t.c + k) with h1 | h1
   ·exact h1
   ·exact (key i j i' j' a b c d e f1 f2 f3 f4 g1 g2 h1 g4).elim
  ·simp only [Pt.two,Bool.false_eq_true,if_false]
   intro i j i' j' a b c d e f1 f2 f3 f4
   obtain ⟨g1,g2,g3,g4⟩ := h.all i j i' j' a b c d e f1 f2 (by omega) (by omega)
   refine ⟨g1,g2,?_,by omega⟩
   rcases Nat.lt_or_ge j' (t.c + k) with h1 | h1
   ·exact (key i' j' i j c d a b e.symm g1 g2 g3 h1 f1 f2 f3 (by omega)).elim
   ·exact h1
section
def thW (p : List Txt) (k : Nat) : Bool := (List.range p.length).all fun i => decide (cellZ p i (k - 1) ≠ cellZ p i k)
theorem thW_iff {p : List Txt} {k : Nat} : thW p k = true ↔ ∀ i,i < p.length → cellZ p i (k - 1) ≠ cellZ p i k := by simp [thW]
def isLong (n : Nat) (w : List Int) : Bool := decide (getI w 2 = n)
theorem upTo_long {p : List Txt} {k : Nat} {s0 : List (List Int)} : ∀ i,i ≤ p.length →
  ((∀ r,r < i → wallB p k r = true) ∧ upTo p k s0 i = (if i = 0 then -1 else 0,s0)) ∨
  ((¬ ∀ r,r < i → wallB p k r = true) ∧ ((upTo p k s0 i).1 < 0 ∨ 0 < (upTo p k s0 i).1) ∧ -1 ≤ (upTo p k s0 i).1 ∧ ∃ L,(upTo p k s0 i).2 = s0 ++ L ∧ ∀ w ∈ L,isLong p.length w = false)
 | 0,_ => .inl ⟨fun r hr => by omega,rfl⟩
 | i + 1,hi => by
  rcases upTo_long (p := p) (k := k) (s0 := s0) i (by omega) with ⟨h1,h2⟩ | ⟨h1,h2,h3,L,h4,h5⟩
  ·cases hw : wallB p k i with
   | true =>
    refine .inl ⟨fun r hr => ?_,?_⟩
    ·by_cases e : r = i
     ·rw [e]; exact hw
     ·exact h1 r (by omega)
    ·simp only [upTo,h2,hw,upStep]
     by_cases e : i = 0
     ·subst e; simp
     ·simp [e]
   | false =>
    refine .inr ⟨fun h => ?_,?_⟩
    ·have := h i (by omega); rw [hw] at this; cases this
    ·simp only [upTo,h2,hw,upStep]
     by_cases e : i = 0
     ·subst e; exact ⟨.inl (by simp),by simp,[],by simp,by simp⟩
     ·simp only [e,if_false,Bool.false_and,Bool.false_eq_true,Bool.not_false,Bool.true_and,Int.le_refl,decide_true,if_true]
      refine ⟨.inl (by simp),by simp,[[(k : Int),0,(i : Int) - 0]],rfl,?_⟩
      intro w hw'
      simp only [List.mem_singleton] at hw'
      subst hw'
      show decide (((i : Int) - 0) = p.length) = false
      exact decide_eq_false (by omega)
  ·refine .inr ⟨fun h => h1 fun r hr => h r (by omega),?_⟩
   simp only [upTo,upStep]
   generalize (upTo p k s0 i).1 = f at h2 h3
   cases hw : wallB p k i with
   | true =>
    simp only [Bool.true_and,Bool.not_true,Bool.false_and,Bool.false_eq_true,if_false]
    have hi0 : i ≠ 0 := by rintro rfl; exact h1 fun r hr => by omega
    refine ⟨?_,?_,L,h4,h5⟩
    ·by_cases hf : f < 0
     ·simp only [hf,decide_true,if_true]; exact .inr (by omega)
     ·simp only [hf,decide_false,Bool.false_eq_true,if_false]; omega
    ·by_cases hf : f < 0
     ·simp only [hf,decide_true,if_true]; omega
     ·simp only [hf,decide_false,Bool.false_eq_true,if_false]; omega
   | false =>
    simp only [Bool.false_and,Bool.false_eq_true,if_false,Bool.not_false,Bool.true_and,decide_eq_true_eq]
    by_cases hf : 0 ≤ f
    ·rw [if_pos hf]
     refine ⟨.inl (by simp),by simp,L ++ [[(k : Int),f,(i : Int) - f]],by simp only [h4,List.append_assoc],?_⟩
     intro w hw'
     simp only [List.mem_append,List.mem_singleton] at hw'
     rcases hw' with hw' | rfl
     ·exact h5 w hw'
     ·simp [isLong,getI]; omega
    ·rw [if_neg hf]
     exact ⟨.inl (by simp only; omega),by simp only; omega,L,h4,h5⟩
theorem wallB_is {p : List Txt} {k : Nat} : (∀ r,r < p.length → wallB p k r = true) ↔ thW p k = true := by
 rw [thW_iff]
 constructor
 ·intro h r hr; have := h r hr; simpa [wallB,hr] using this
 ·intro h r hr; simpa [wallB,hr] using h r hr
theorem up_line {p : List Txt} (hp : 1 ≤ p.length) {k : Nat} {s0 : List (List Int)} : ∃ L,(upTo p k s0 (p.length + 1)).2 = s0 ++ L ∧ L.find? (isLong p.length) = if thW p k then some [(k : Int),0,(p.length : Int)] else none := by
 rcases upTo_long (p := p) (k := k) (s0 := s0) p.length (Nat.le_refl _) with ⟨h1,h2⟩ | ⟨h1,h2,h3,L,h4,h5⟩
 ·rw [wallB_is] at h1
  refine ⟨[[(k : Int),0,(p.length : Int)]],?_,?_⟩
  ·simp only [upTo,h2,upStep,wallB_end]
   have : p.length ≠ 0 := by omega
   simp [this]
  ·rw [h1]; simp [isLong,getI]
 ·rw [wallB_is] at h1
  simp only [h1,if_false,Bool.false_eq_true]
  simp only [upTo,upStep,wallB_end]
  generalize (upTo p k s0 p.length).1 = f at h2 h3
  simp only [Bool.false_and,Bool.false_eq_true,if_false,Bool.not_false,Bool.true_and,decide_eq_true_eq]
  by_cases hf : 0 ≤ f
  ·rw [if_pos hf]
   refine ⟨L ++ [[(k : Int),f,(p.length : Int) - f]],by simp only [h4,List.append_assoc],List.find?_eq_none.2 ?_⟩
   intro w hw'
   simp only [List.mem_append,List.mem_singleton] at hw'
   rcases hw' with hw' | rfl
   ·simp [h5 w hw']
   ·simp [isLong,getI]; omega
  ·rw [if_neg hf]
   exact ⟨L,h4,List.find?_eq_none.2 fun w hw => by simp [h5 w hw]⟩
theorem ups_find {p : List Txt} (hp : 1 ≤ p.length) : ∀ K,(upsTo p K).find? (isLong p.length) = (fstK (thW p) K).map fun k => [(k : Int),0,(p.length : Int)]
 | 0 => rfl
 | K + 1 => by
  simp only [upsTo,fstK]
  split
  ·rename_i hk
   obtain ⟨L,h1,h2⟩ := up_line hp (k := K) (s0 := upsTo p K)
   rw [h1,List.find?_append,ups_find hp K,h2]
   cases fstK (thW p) K with
   | some k => rfl
   | none => simp only [Option.map_none,Option.none_or,hk,decide_true,Bool.true_and]; split <;> rfl
  ·rename_i hk
   rw [ups_find hp K]
   simp [hk]
def cutQ (p : List Txt) : Int × Int :=
 match (uprights p).find? (isLong p.length) with
 | some w => (0,getI w 0)
 | none => match (uprights (transP p)).find? (isLong (hdRow p).length) with
  | some w => (1,getI w 0)
  | none => (0,0)
theorem find_take {α : Type} {f : α → Bool} {l : List α} {i : Nat} {a : α} (h : l[i]? = some a) (h1 : (l.take i).find? f = none) (h2 : f a = true) : l.find? f = some a := by
 have hl := (List.getElem?_eq_some_iff.1 h).1
 have : l = l.take i ++ (a :: l.drop (i + 1)) := by
  obtain ⟨_,e⟩ := List.getElem?_eq_some_iff.1 h
  rw [← e,List.getElem_cons_drop,List.take_append_drop]
 rw [this,List.find?_append,h1]
 simp [h2]
theorem find_take_no {α : Type} {f : α → Bool} {l : List α} {i : Nat} {a : α} (h : l[i]? = some a) (h1 : (l.take i).find? f = none) (h2 : f a = false) : (l.take (i + 1)).find? f = none := by
 rw [tk h,List.find?_append,h1]; simp [h2]
def subRow (t : Pt) (row : Txt) : Txt := (row.drop t.c).take t.w
def sub (p : List Txt) (t : Pt) : List Txt := ((p.drop t.r).take t.h).map (subRow t)
section
variable {p : List Txt} {t : Pt}
theorem sub_len {W : Nat} (hi : t.In p.length W) : (sub p t).length = t.h := by
 simp [sub]; have := hi.2.2.1; omega
theorem sub_get {W : Nat} (hi : t.In p.length W) {i : Nat} {row : Txt} (h : i < t.h) (hr : p[t.r + i]? = some row) : (sub p t)[i]? = some (subRow t row) := by
 simp [sub,h,hr]
theorem sub_row (hg : gridB p = true) (hi : t.In p.length (hdRow p).length) {i : Nat} (h : i < t.h) : ∃ row,p[t.r + i]? = some row ∧ (sub p t)[i]? = some (subRow t row) ∧ (subRow t row).length = t.w ∧ row.length = (hdRow p).length := by
 obtain ⟨row,hr,_⟩ := get_row (p := p) (i := t.r + i) (by have := hi.2.2.1; omega)
 have hl := grid_row hg hr
 exact ⟨row,hr,sub_get hi h hr,by simp [subRow]; have := hi.2.2.2; omega,hl⟩
theorem sub_hd (hg : gridB p = true) (hi : t.In p.length (hdRow p).length) : (hdRow (sub p t)).length = t.w := by
 obtain ⟨row,_,h2,h3,_⟩ := sub_row hg hi (i := 0) hi.1
 rw [hdRow_of h2,h3]
theorem subRow_at {row : Txt} {j : Nat} (h : j < t.w) : (subRow t row)[j]? = row[t.c + j]? := by
 simp [subRow,List.getElem?_take,h]
theorem sub_cell (hg : gridB p = true) (hi : t.In p.length (hdRow p).length) {i j : Nat} (h : i < t.h) (hj : j < t.w) : cellZ (sub p t) i j = cellZ p (t.r + i) (t.c + j) := by
 obtain ⟨row,h1,h2,_,_⟩ := sub_row hg hi h
 simp only [cellZ,h1,h2,Option.getD_some,subRow_at hj]
theorem sub_grid (hg : gridB p = true) (hi : t.In p.length (hdRow p).length) : gridB (sub p t) = true := by
 have hsm := grid_small hg
 have hl := sub_len hi
 have hh := sub_hd hg hi
 obtain ⟨i1,i2,i3,i4⟩ := hi
 obtain ⟨row0,hr0,hm0⟩ := get_row (p := p) (i := 0) (by omega)
 have hw6 := hsm.2.2 row0 hm0
 have hhd := hdRow_of hr0
 rw [hhd] at i4
 unfold gridB
 simp only [Bool.and_eq_true,decide_eq_true_eq,List.all_eq_true]
 refine ⟨⟨fun r hr => ?_,by omega⟩,by omega⟩
 obtain ⟨i,hi'⟩ := List.getElem?_of_mem hr
 have hil := (List.getElem?_eq_some_iff.1 hi').1
 obtain ⟨row,h1,h2,h3,h4⟩ := sub_row hg ⟨i1,i2,i3,by rw [hhd]; exact i4⟩ (t := t) (i := i) (by omega)
 rw [h2] at hi'; cases hi'
 simp only [rowB,Bool.and_eq_true,decide_eq_true_eq,List.all_eq_true]
 refine ⟨⟨⟨by omega,by omega⟩,by omega⟩,fun c hc => ?_⟩
 obtain ⟨j,hj⟩ := List.getElem?_of_mem hc
 have hjl := (List.getElem?_eq_some_iff.1 hj).1
 rw [subRow_at (by omega)] at hj
 obtain ⟨c',hc',hl'⟩ := grid_mem hg h1 (k := t.c + j) (by rw [hhd]; omega)
 rw [hc'] at hj; cases hj; exact hl'
theorem sub_thU (hg : gridB p = true) (hi : t.In p.length (hdRow p).length) {k : Nat} (h1 : 1 ≤ k) (h2 : k < t.w) : thW (sub p t) k = thU (cellZ p) t k := by
 apply Bool.eq_iff_iff.2
 rw [thW_iff,thU_iff,sub_len hi]
 constructor
 ·intro h i hi'; have := h i hi'; rw [sub_cell hg hi hi' h2,sub_cell hg hi hi' (by omega)] at this; rw [show t.c + k - 1 = t.c + (k - 1) by omega]; exact this
 ·intro h i hi'; have := h i hi'; rw [sub_cell hg hi hi' h2,sub_cell hg hi hi' (by omega)]; rw [show t.c + k - 1 = t.c + (k - 1) by omega] at this; exact this
theorem sub_thL (hg : gridB p = true) (hi : t.In p.length (hdRow p).length) {k : Nat} (h1 : 1 ≤ k) (h2 : k < t.h) : thW (transP (sub p t)) k = thL (cellZ p) t k := by
 apply Bool.eq_iff_iff.2
 rw [thW_iff,thL_iff,trans_len,sub_hd hg hi]
 have key : ∀ i j,i < t.h → j < t.w → cellZ (transP (sub p t)) j i = cellZ p (t.r + i) (t.c + j) := fun i j a b => by
  rw [cellZ_trans (by rw [sub_len hi]; exact a) (by rw [sub_hd hg hi]; exact b),sub_cell hg hi a b]
 constructor
 ·intro h j hj; have := h j hj; rw [key _ _ h2 hj,key _ _ (by omega) hj] at this; rw [show t.r + k - 1 = t.r + (k - 1) by omega]; exact this
 ·intro h j hj; have := h j hj; rw [key _ _ h2 hj,key _ _ (by omega) hj]; rw [show t.r + k - 1 = t.r + (k - 1) by omega] at this; exact this
theorem fstK_congr {f g : Nat → Bool} : ∀ {n : Nat},(∀ k,1 ≤ k → k < n → f k = g k) → fstK f n = fstK g n
 | 0,_ => rfl
 | n + 1,h => by
  simp only [fstK]
  rw [fstK_congr fun k a b => h k a (by omega)]
  by_cases hn : 1 ≤ n
  ·rw [h n hn (by omega)]
  ·simp [hn]
theorem cutQ_sub (hg : gridB p = true) (hi : t.In p.length (hdRow p).length) : cutQ (sub p t) = match cutOf (cellZ p) t with | some q => (if q.1 then 1 else 0,(q.2 : Int)) | none => (0,0) := by
 have hl := sub_len hi
 have hh := sub_hd hg hi
 unfold cutQ cutOf
 rw [show uprights (sub p t) = upsTo (sub p t) (hdRow (sub p t)).length from rfl,ups_find (by rw [hl]; exact hi.1),hh,fstK_congr fun k a b => sub_thU hg hi a b]
 cases fstK (thU (cellZ p) t) t.w with
 | some k => simp [getI]
 | none =>
  have h2 := ups_find (p := transP (sub p t)) (by rw [trans_len,hh]; exact hi.2.1) (hdRow (transP (sub p t))).length
  rw [trans_len,hh,trans_hd (by rw [hh]; exact hi.2.1),hl,fstK_congr fun k a b => sub_thL hg hi a b] at h2
  simp only [Option.map_none]
  rw [show uprights (transP (sub p t)) = upsTo (transP (sub p t)) t.h by unfold uprights; rw [trans_hd (by rw [hh]; exact hi.2.1),hl],h2]
  cases fstK (thL (cellZ p) t) t.h with
  | some k => simp [getI]
  | none => rfl
def partA (p : List Txt) (q : Bool × Nat) : List Txt := if q.1 then p.take q.2 else p.map (·.take q.2)
def partB (p : List Txt) (q : Bool × Nat) : List Txt := if q.1 then p.drop q.2 else p.map (·.drop q.2)
theorem sub_one {q : Bool × Nat} (h : if q.1 then q.2 < t.h else q.2 < t.w) : partA (sub p t) q = sub p (t.one q) := by
 obtain ⟨lv,k⟩ := q
 cases lv with
 | true =>
  simp only [if_true] at h
  simp only [partA,Pt.one,if_true,sub,← List.map_take,List.take_take]
  rw [Nat.min_eq_left (by omega)]
  rfl
 | false =>
  simp only [Bool.false_eq_true,if_false] at h
  simp only [partA,Pt.one,Bool.false_eq_true,if_false,sub,List.map_map]
  refine List.map_congr_left fun row _ => ?_
  simp only [Function.comp,subRow,List.take_take]
  rw [Nat.min_eq_left (by omega)]
theorem sub_two {q : Bool × Nat} (h : if q.1 then q.2 < t.h else q.2 < t.w) : partB (sub p t) q = sub p (t.two q) := by
 obtain ⟨lv,k⟩ := q
 cases lv with
 | true =>
  simp only [if_true] at h
  simp only [partB,Pt.two,if_true,sub,← List.map_drop,List.drop_take,List.drop_drop]
  rfl
 | false =>
  simp only [Bool.false_eq_true,if_false] at h
  simp only [partB,Pt.two,Bool.false_eq_true,if_false,sub,List.map_map]
  refine List.map_congr_left fun row _ => ?_
  simp only [Function.comp,subRow,List.drop_take,List.drop_drop]
def oneB (p : List Txt) : Bool := p.all fun row => row.all fun c => decide (some c = (hdRow p)[0]?)
theorem oneB_sub (hg : gridB p = true) (hi : t.In p.length (hdRow p).length) : oneB (sub p t) = oneZ (cellZ p) t := by
 apply Bool.eq_iff_iff.2
 rw [oneZ_iff]
 obtain ⟨row0,h1,h2,h3,h4⟩ := sub_row hg hi (i := 0) hi.1
 have hc0 : (subRow t row0)[0]? = row0[t.c + 0]? := subRow_at hi.2.1
 obtain ⟨c0,e0,_⟩ := grid_mem hg h1 (k := t.c + 0) (by have := hi.2.2.2; have := hi.2.1; omega)
 rw [e0] at hc0
 have hz0 : cellZ p t.r t.c = (c0.toNat : Int) - 97 := cellZ_is (by simpa using h1) (by simpa using e0)
 simp only [oneB,List.all_eq_true,decide_eq_true_eq,hdRow_of h2,hc0,Option.some.injEq]
 constructor
 ·intro h i j hi' hj'
  obtain ⟨row,g1,g2,g3,g4⟩ := sub_row hg hi hi'
  obtain ⟨c,e1,_⟩ := grid_mem hg g1 (k := t.c + j) (by have := hi.2.2.2; omega)
  have := h _ (List.mem_of_getElem? g2) c (List.mem_of_getElem? ((subRow_at hj').trans e1))
  rw [cellZ_is g1 e1,hz0,this]
 ·intro h r hr c hc
  obtain ⟨i,hi'⟩ := List.getElem?_of_mem hr
  have hil := (List.getElem?_eq_some_iff.1 hi').1
  rw [sub_len hi] at hil
  obtain ⟨row,g1,g2,g3,g4⟩ := sub_row hg hi hil
  rw [g2] at hi'; cases hi'
  obtain ⟨j,hj⟩ := List.getElem?_of_mem hc
  have hjl := (List.getElem?_eq_some_iff.1 hj).1
  rw [subRow_at (by omega)] at hj
  have := h i j hil (by omega)
  rw [cellZ_is g1 hj,hz0] at this
  exact UInt8.toNat_inj.1 (by omega)
end
end
section
structure Pl (c : Nat → Nat → Nat) (H W : Nat) : Prop where
 rect : ∀ {i j i' j' : Nat} (k l : Nat),i < H → i' < H → j < W → j' < W → c i j = c i' j' → min i i' ≤ k → k ≤ max i i' → min j j' ≤ l → l ≤ max j j' → c k l = c i j
 plain : ∀ {i j : Nat},i + 1 < H → j + 1 < W → c i j ≠ c i (j + 1) → c (i + 1) j ≠ c (i + 1) (j + 1) → c i j ≠ c (i + 1) j → c i (j + 1) = c (i + 1) (j + 1)
def DL (c : Nat → Nat → Nat) (H W a b : Nat) : Prop := ∃ j i1 i2,j + 1 < W ∧ i1 < H ∧ i2 < H ∧ (∀ r,min i1 i2 ≤ r → r ≤ max i1 i2 → c r j ≠ c r (j + 1)) ∧ a = c i1 j ∧ b = c i2 (j + 1)
def DU (c : Nat → Nat → Nat) (H W a b : Nat) : Prop := ∃ i j1 j2,i + 1 < H ∧ j1 < W ∧ j2 < W ∧ (∀ k,min j1 j2 ≤ k → k ≤ max j1 j2 → c i k ≠ c (i + 1) k) ∧ a = c i j1 ∧ b = c (i + 1) j2
theorem least_of {P : Nat → Prop} : ∀ {n : Nat},P n → ∃ m,m ≤ n ∧ P m ∧ ∀ k,k < m → ¬ P k := by
 intro n
 induction n using Nat.strongRecOn with
 | _ n ih =>
  intro h
  by_cases c : ∃ k,k < n ∧ P k
  ·obtain ⟨k,hk,hp⟩ := c
   obtain ⟨m,h1,h2,h3⟩ := ih k hk hp
   exact ⟨m,by omega,h2,h3⟩
  ·exact ⟨n,Nat.le_refl _,h,fun k hk hp => c ⟨k,hk,hp⟩⟩
theorem flip_of {P : Nat → Prop} {i : Nat} : ∀ {n : Nat},i ≤ n → P i → ¬ P n → ∃ e,i ≤ e ∧ e + 1 ≤ n ∧ P e ∧ ¬ P (e + 1)
 | 0,h,h1,h2 => by
    obtain rfl : i = 0 := by omega
    exact absurd h1 h2
 | n + 1,h,h1,h2 => by
  by_cases c : P n
  ·by_cases e : i = n + 1
   ·subst e; exact absurd h1 h2
   ·exact ⟨n,by omega,Nat.le_refl _,c,h2⟩
  ·by_cases e : i = n + 1
   ·subst e; exact absurd h1 h2
   ·obtain ⟨m,k1,k2,k3⟩ := flip_of (P := P) (i := i) (n := n) (by omega) h1 c
    exact ⟨m,k1,by omega,k3⟩
section
variable {c : Nat → Nat → Nat} {H W : Nat}
def Stair (c : Nat → Nat → Nat) (H W : Nat) (Z : Nat → Prop) : Prop := ∀ {i j : Nat} (i' j' : Nat),i < H → j < W → i' ≤ i → j' ≤ j → Z (c i j) → Z (c i' j')
def Free (c : Nat → Nat → Nat) (H W : Nat) (Z : Nat → Prop) : Prop := ∃ i j,i < H ∧ j < W ∧ ¬ Z (c i j) ∧ (∀ a,DL c H W a (c i j) ∨ DU c H W a (c i j) → Z a) ∧ Stair c H W fun x => Z x ∨ x = c i j
theorem free_here (h : Pl c H W) {Z : Nat → Prop} (hZ : Stair c H W Z) {i j : Nat} (hi : i < H) (hj : j < W) (hn : ¬ Z (c i j)) (hu : ∀ i',i' + 1 = i → Z (c i' j)) (hl : ∀ j',j' + 1 = j → Z (c i j'))
  (hN : ∀ i',i' + 1 = i → ∀ k,j ≤ k → k < W → (∀ l,j ≤ l → l ≤ k → c i' l ≠ c i l) → Z (c i' k))
  (hA : ∀ j',j' + 1 = j → ∀ k,i ≤ k → k < H → (∀ r,i ≤ r → r ≤ k → c r j' ≠ c r j) → Z (c k j')) : Free c H W Z := by
 have up : ∀ {i2 j2 : Nat},i2 < H → j2 < W → c i2 j2 = c i j → i ≤ i2 := by
  intro i2 j2 h1 h2 h3
  by_cases q : i ≤ i2
  ·exact q
  ·have h4 := hu (i - 1) (by omega)
   rw [h.rect (i - 1) j h1 hi h2 hj h3 (by omega) (by omega) (by omega) (by omega),h3] at h4
   exact absurd h4 hn
 have lf : ∀ {i2 j2 : Nat},i2 < H → j2 < W → c i2 j2 = c i j → j ≤ j2 := by
  intro i2 j2 h1 h2 h3
  by_cases q : j ≤ j2
  ·exact q
  ·have h4 := hl (j - 1) (by omega)
   rw [h.rect i (j - 1) h1 hi h2 hj h3 (by omega) (by omega) (by omega) (by omega),h3] at h4
   exact absurd h4 hn
 have runL : ∀ {i2 j2 r j' : Nat},i2 < H → j2 < W → c i2 j2 = c i j → j' + 1 = j → i ≤ r → r ≤ i2 → c r j' ≠ c r j := by
  intro i2 j2 r j' h1 h2 h3 h4 h5 h6 h7
  have h8 := lf h1 h2 h3
  have e1 : c r j = c i j := by
   rw [h.rect r j h1 hi h2 hj h3 (by omega) (by omega) (by omega) (by omega),h3]
  have h9 := lf (i2 := r) (j2 := j') (by omega) (by omega) (by rw [h7,e1])
  omega
 have runU : ∀ {i2 j2 l i' : Nat},i2 < H → j2 < W → c i2 j2 = c i j → i' + 1 = i → j ≤ l → l ≤ j2 → c i' l ≠ c i l := by
  intro i2 j2 l i' h1 h2 h3 h4 h5 h6 h7
  have h8 := up h1 h2 h3
  have e1 : c i l = c i j := by
   rw [h.rect i l h1 hi h2 hj h3 (by omega) (by omega) (by omega) (by omega),h3]
  have h9 := up (i2 := i') (j2 := l) (by omega) (by omega) (by rw [h7,e1])
  omega
 refine ⟨i,j,hi,hj,hn,?_,?_⟩
 ·rintro a (⟨j0,i1,i2,k1,k2,k3,run,rfl,k4⟩ | ⟨i0,j1,j2,k1,k2,k3,run,rfl,k4⟩)
  ·have h1 := lf k3 k1 k4.symm
   have e : j0 + 1 = j := by
    by_cases q : j0 + 1 = j
    ·exact q
    ·have := h.rect i2 j0 k3 hi k1 hj k4.symm (by omega) (by omega) (by omega) (by omega)
     exact absurd this (run i2 (by omega) (by omega))
   subst e
   have h2 := up k3 k1 k4.symm
   by_cases q : i1 < i
   ·exact hZ i1 j0 hi (by omega) (by omega) (Nat.le_refl _) (hl j0 rfl)
   ·refine hA j0 rfl i1 (by omega) k2 fun r r1 r2 => ?_
    by_cases q2 : min i1 i2 ≤ r
    ·exact run r q2 (by omega)
    ·exact runL k3 k1 k4.symm rfl r1 (by omega)
  ·have h1 := up k1 k3 k4.symm
   have e : i0 + 1 = i := by
    by_cases q : i0 + 1 = i
    ·exact q
    ·have := h.rect i0 j2 k1 hi k3 hj k4.symm (by omega) (by omega) (by omega) (by omega)
     exact absurd this (run j2 (by omega) (by omega))
   subst e
   have h2 := lf k1 k3 k4.symm
   by_cases q : j1 < j
   ·exact hZ i0 j1 (by omega) hj (Nat.le_refl _) (by omega) (hu i0 rfl)
   ·refine hN i0 rfl j1 (by omega) k2 fun r r1 r2 => ?_
    by_cases q2 : min j1 j2 ≤ r
    ·exact run r q2 (by omega)
    ·exact runU k1 k3 k4.symm rfl r1 (by omega)
 ·intro i2 k2 i' j' h1 h2 h3 h4 h5
  rcases h5 with h5 | h5
  ·exact .inl (hZ i' j' h1 h2 h3 h4 h5)
  ·have q1 := up h1 h2 h5
   have q2 := lf h1 h2 h5
   by_cases q3 : i' < i
   ·left
    refine hZ i' j' (show i - 1 < H by omega) h2 (by omega) h4 (hN (i - 1) (by omega) k2 q2 h2 fun l l1 l2 => runU h1 h2 h5 (by omega) l1 l2)
   ·by_cases q4 : j' < j
    ·left
     exact hZ i' j' h1 (show j - 1 < W by omega) h3 (by omega) (hA (j - 1) (by omega) i2 q1 h1 fun r r1 r2 => runL h1 h2 h5 (by omega) r1 r2)
    ·right
     rw [h.rect i' j' h1 hi h2 hj h5 (by omega) (by omega) (by omega) (by omega),h5]
theorem free_from (h : Pl c H W) {Z : Nat → Prop} (hZ : Stair c H W Z) : ∀ (j i : Nat),i < H → j < W → ¬ Z (c i j) → (∀ i',i' + 1 = i → Z (c i' j)) → (∀ j',j' + 1 = j → Z (c i j')) →
  (∀ i',i' + 1 = i → ∀ k,j ≤ k → k < W → (∀ l,j ≤ l → l ≤ k → c i' l ≠ c i l) → Z (c i' k)) → Free c H W Z := by
 intro j
 induction j using Nat.strongRecOn with
 | _ j ih =>
  intro i hi hj hn hu hl hN
  by_cases hA : ∀ j',j' + 1 = j → ∀ k,i ≤ k → k < H → (∀ r,i ≤ r → r ≤ k → c r j' ≠ c r j) → Z (c k j')
  ·exact free_here h hZ hi hj hn hu hl hN hA
  ·simp only [Classical.not_forall] at hA
   obtain ⟨j',rfl,k,h1,h2,run,h3⟩ := hA
   obtain ⟨e,e1,e2,e3,e4⟩ := flip_of (P := fun r => Z (c r j')) h1 (hl j' rfl) h3
   obtain ⟨m,m1,m2,m3⟩ := least_of (P := fun l => ¬ Z (c (e + 1) l)) e4
   refine ih m (by omega) (e + 1) (by omega) (by omega) m2 ?_ ?_ ?_
   ·intro i' hi'
    obtain rfl : i' = e := by omega
    exact hZ i' m (by omega) (by omega) (Nat.le_refl _) m1 e3
   ·intro l hl'
    exact Classical.not_not.1 (m3 l (by omega))
   ·intro i' hi' k2 k3 k4 k5
    obtain rfl : i' = e := by omega
    by_cases q : k2 ≤ j'
    ·exact hZ i' k2 (by omega) (by omega) (Nat.le_refl _) q e3
    ·have q1 := k5 (j' + 1) (by omega) (by omega)
     have q2 := h.plain (i := i') (j := j') (by omega) hj (run i' (by omega) (by omega)) (run (i' + 1) (by omega) (by omega)) (fun q3 => e4 (by rw [← q3]; exact e3))
     exact absurd q2 q1
theorem free_ex (h : Pl c H W) {Z : Nat → Prop} (hZ : Stair c H W Z) (hx : ∃ i j,i < H ∧ j < W ∧ ¬ Z (c i j)) : Free c H W Z := by
 obtain ⟨i,hx⟩ := hx
 obtain ⟨i,-,⟨j,h1,h2,h3⟩,h4⟩ := least_of (P := fun i => ∃ j,i < H ∧ j < W ∧ ¬ Z (c i j)) hx
 obtain ⟨j,j1,j2,j3⟩ := least_of (P := fun j => ¬ Z (c i j)) h3
 have all : ∀ i',i' + 1 = i → ∀ k,k < W → Z (c i' k) := fun i' e k hk => Classical.byContradiction fun q => h4 i' (by omega) ⟨k,by omega,hk,q⟩
 exact free_from h hZ j i h1 (by omega) j2 (fun i' e => all i' e j (by omega)) (fun j' e => Classical.not_not.1 (j3 j' (by omega))) (fun i' e k _ hk _ => all i' e k hk)
theorem order_from (h : Pl c H W) {n : Nat} (hc : ∀ i j,i < H → j < W → c i j < n) : ∀ (m : Nat) (Z : Nat → Bool),Stair c H W (fun x => Z x = true) → (List.range n).countP (fun x => !Z x) ≤ m → ∃ f : Nat → Nat,∀ a b,Z a = false → Z b = false → DL c H W a b ∨ DU c H W a b → f a < f b := by
 have cell : ∀ {a b : Nat},DL c H W a b ∨ DU c H W a b → ∃ i j,i < H ∧ j < W ∧ a = c i j := by
  rintro a b (⟨j0,i1,i2,k1,k2,k3,run,rfl,k4⟩ | ⟨i0,j1,j2,k1,k2,k3,run,rfl,k4⟩)
  ·exact ⟨i1,j0,k2,by omega,rfl⟩
  ·exact ⟨i0,j1,by omega,k2,rfl⟩
 intro m
 induction m with
 | zero =>
  intro Z hZ hm
  refine ⟨fun _ => 0,fun a b ha hb hd => ?_⟩
  obtain ⟨i,j,hi,hj,rfl⟩ := cell hd
  have h0 : (List.range n).countP (fun x => !Z x) = 0 := by omega
  rw [List.countP_eq_zero] at h0
  exact absurd (show (!Z (c i j)) = true by rw [ha]; rfl) (h0 _ (by simpa using hc i j hi hj))
 | succ m ih =>
  intro Z hZ hm
  by_cases hx : ∃ i j,i < H ∧ j < W ∧ ¬ (Z (c i j) = true)
  ·obtain ⟨i,j,hi,hj,hn,hp,hs⟩ := free_ex h (Z := fun x => Z x = true) hZ hx
   have hZ' : Stair c H W (fun x => (Z x || x == c i j) = true) := by
    intro i1 j1 i' j' h1 h2 h3 h4 h5
    have h6 := hs i' j' h1 h2 h3 h4 (by simpa using h5)
    simpa using h6
   have hlt : (List.range n).countP (fun x => !(Z x || x == c i j)) < (List.range n).countP (fun x => !Z x) := by
    refine count_lt (fun x _ hx => ?_) ⟨c i j,by simpa using hc i j hi hj,by simpa using hn,by simp⟩
    cases hz : Z x with
    | false => rfl
    | true => rw [hz] at hx; simp at hx
   obtain ⟨f,hf⟩ := ih (fun x => Z x || x == c i j) hZ' (by omega)
   refine ⟨fun x => if x = c i j then 0 else f x + 1,fun a b ha hb hd => ?_⟩
   have hbA : b ≠ c i j := by
    rintro rfl
    have q : Z a = true := hp a hd
    rw [ha] at q; cases q
   simp only [if_neg hbA]
   by_cases haA : a = c i j
   ·simp only [if_pos haA]; omega
   ·simp only [if_neg haA]
    have := hf a b (by simp [ha,haA]) (by simp [hb,hbA]) hd
    omega
  ·refine ⟨fun _ => 0,fun a b ha hb hd => ?_⟩
   obtain ⟨i,j,hi,hj,rfl⟩ := cell hd
   exact absurd ⟨i,j,hi,hj,by rw [ha]; exact Bool.false_ne_true⟩ hx
theorem order_ex (h : Pl c H W) {n : Nat} (hc : ∀ i j,i < H → j < W → c i j < n) : ∃ f : Nat → Nat,∀ a b,DL c H W a b ∨ DU c H W a b → f a < f b := by
 obtain ⟨f,hf⟩ := order_from h hc _ (fun _ => false) (fun _ _ _ _ _ _ h => h) (Nat.le_refl _)
 exact ⟨f,fun a b hd => hf a b rfl rfl hd⟩
def fl (c : Nat → Nat → Nat) (H i j : Nat) : Nat := c (H - 1 - i) j
def tr (c : Nat → Nat → Nat) (i j : Nat) : Nat := c j i
theorem Pl.dn (h : Pl c H W) : Pl (fl c H) H W := by
 refine ⟨fun k l h1 h2 h3 h4 h5 h6 h7 h8 h9 => ?_,fun {i j} h1 h2 h3 h4 h5 => ?_⟩
 ·exact h.rect _ _ (by omega) (by omega) h3 h4 h5 (by omega) (by omega) h8 h9
 ·unfold Fw.fl at *
  obtain ⟨k,rfl⟩ : ∃ k,H = i + 2 + k := ⟨H - (i + 2),by omega⟩
  rw [show i + 2 + k - 1 - i = k + 1 by omega,show i + 2 + k - 1 - (i + 1) = k by omega] at *
  exact (h.plain (i := k) (j := j) (by omega) h2 h4 h3 (Ne.symm h5)).symm
theorem Pl.ex (h : Pl c H W) : Pl (tr c) W H :=
 ⟨fun k l h1 h2 h3 h4 h5 h6 h7 h8 h9 => h.rect l k h3 h4 h1 h2 h5 h8 h9 h6 h7,fun {i j} h1 h2 h3 h4 h5 => by
  unfold Fw.tr at *
  by_cases q : c j i = c j (i + 1)
  ·exact absurd q h5
  ·by_cases q2 : c (j + 1) i = c (j + 1) (i + 1)
   ·exact q2
   ·exact absurd (h.plain (i := j) (j := i) h2 h1 h5 q2 h3) h4⟩
theorem DL.ex {a b : Nat} (h : DL (tr c) W H a b) : DU c H W a b := h
theorem DU.ex {a b : Nat} (h : DU (tr c) W H a b) : DL c H W a b := h
theorem DL.dn {a b : Nat} (h : DL (fl c H) H W a b) : DL c H W a b := by
 obtain ⟨j,i1,i2,h1,h2,h3,run,rfl,rfl⟩ := h
 refine ⟨j,H - 1 - i1,H - 1 - i2,h1,by omega,by omega,fun r r1 r2 => ?_,rfl,rfl⟩
 have := run (H - 1 - r) (by omega) (by omega)
 unfold Fw.fl at this
 rwa [show H - 1 - (H - 1 - r) = r by omega] at this
theorem DL.unfl {a b : Nat} (h : DL c H W a b) : DL (fl c H) H W a b := by
 obtain ⟨j,i1,i2,h1,h2,h3,run,rfl,rfl⟩ := h
 refine ⟨j,H - 1 - i1,H - 1 - i2,h1,by omega,by omega,fun r r1 r2 => ?_,?_,?_⟩
 ·exact run (H - 1 - r) (by omega) (by omega)
 ·unfold Fw.fl; rw [show H - 1 - (H - 1 - i1) = i1 by omega]
 ·unfold Fw.fl; rw [show H - 1 - (H - 1 - i2) = i2 by omega]
theorem DU.dn {a b : Nat} (h : DU (fl c H) H W a b) : DU c H W b a := by
 obtain ⟨i,j1,j2,h1,h2,h3,run,rfl,rfl⟩ := h
 refine ⟨H - 1 - (i + 1),j2,j1,by omega,h3,h2,fun k k1 k2 => ?_,?_,?_⟩
 ·have := run k (by omega) (by omega)
  unfold Fw.fl at this
  rw [show H - 1 - (i + 1) + 1 = H - 1 - i by omega]
  exact Ne.symm this
 ·rfl
 ·unfold Fw.fl; rw [show H - 1 - (i + 1) + 1 = H - 1 - i by omega]
theorem DU.unfl {a b : Nat} (h : DU c H W a b) : DU (fl c H) H W b a := by
 obtain ⟨i,j1,j2,h1,h2,h3,run,rfl,rfl⟩ := h
 refine ⟨H - 1 - (i + 1),j2,j1,by omega,h3,h2,fun k k1 k2 => ?_,?_,?_⟩
 ·unfold Fw.fl
  rw [show H - 1 - (H - 1 - (i + 1)) = i + 1 by omega,show H - 1 - (H - 1 - (i + 1) + 1) = i by omega]
  exact Ne.symm (run k (by omega) (by omega))
 ·unfold Fw.fl; rw [show H - 1 - (H - 1 - (i + 1)) = i + 1 by omega]
 ·unfold Fw.fl; rw [show H - 1 - (H - 1 - (i + 1) + 1) = i by omega]
theorem order_ex2 (h : Pl c H W) {n : Nat} (hc : ∀ i j,i < H → j < W → c i j < n) : ∃ f : Nat → Nat,∀ a b,DL c H W a b ∨ DU c H W b a → f a < f b := by
 obtain ⟨f,hf⟩ := order_ex h.dn (n := n) (fun i j hi hj => hc _ j (by omega) hj)
 refine ⟨f,fun a b hd => hf a b ?_⟩
 rcases hd with hd | hd
 ·exact .inl hd.unfl
 ·exact .inr hd.unfl
inductive TC (R : Nat → Nat → Prop) : Nat → Nat → Prop
 | one {a b : Nat} : R a b → TC R a b
 | tail {a b d : Nat} : TC R a b → R b d → TC R a d
theorem TC.mono {R S : Nat → Nat → Prop} (h : ∀ a b,R a b → S a b) {a b : Nat} (k : TC R a b) : TC S a b := by
 induction k with
 | one k => exact .one (h _ _ k)
 | tail _ k ih => exact .tail ih (h _ _ k)
theorem TC.trans {R : Nat → Nat → Prop} {a b d : Nat} (h : TC R a b) (k : TC R b d) : TC R a d := by
 induction k with
 | one k => exact .tail h k
 | tail _ k ih => exact .tail ih k
theorem TC.rev {R S : Nat → Nat → Prop} (h : ∀ a b,R a b → S b a) {a b : Nat} (k : TC R a b) : TC S b a := by
 induction k with
 | one k => exact .one (h _ _ k)
 | tail _ k ih => exact (TC.one (h _ _ k)).trans ih
theorem TC.last {R : Nat → Nat → Prop} {a b : Nat} (h : TC R a b) : ∃ x,(x = a ∨ TC R a x) ∧ R x b := by
 cases h with
 | one k => exact ⟨a,.inl rfl,k⟩
 | tail h k => exact ⟨_,.inr h,k⟩
theorem TC.rise {R : Nat → Nat → Prop} {f : Nat → Nat} (h : ∀ a b,R a b → f a < f b) {a b : Nat} (k : TC R a b) : f a < f b := by
 induction k with
 | one k => exact h _ _ k
 | tail _ k ih => exact Nat.lt_trans ih (h _ _ k)
theorem row_walk {i : Nat} (hi : i < H) {j1 : Nat} : ∀ {j2 : Nat},j1 ≤ j2 → j2 < W → c i j1 ≠ c i j2 → TC (DL c H W) (c i j1) (c i j2)
 | 0,h1,_,h3 => by
    obtain rfl : j1 = 0 := by omega
    exact absurd rfl h3
 | j2 + 1,h1,h2,h3 => by
  by_cases e : j1 = j2 + 1
  ·subst e; exact absurd rfl h3
  ·by_cases q : c i j2 = c i (j2 + 1)
   ·rw [← q] at h3 ⊢
    exact row_walk hi (by omega) (by omega) h3
   ·have hd : DL c H W (c i j2) (c i (j2 + 1)) := ⟨j2,i,i,h2,hi,hi,fun r r1 r2 => by
    obtain rfl : r = i := by omega
    exact q,rfl,rfl⟩
    by_cases q2 : c i j1 = c i j2
    ·rw [q2]; exact .one hd
    ·exact .tail (row_walk hi (by omega) (by omega) q2) hd
end
end
section
section
variable {n : Nat} {M : List (List Bool)}
theorem absorb {p q : Bool} : (p || (q && p)) = p := by cases p <;> cases q <;> rfl
theorem clK_to (h : Sq n M) {k : Nat} (hk : k < n) : ∀ i,i ≤ n → Sq n ((List.range i).foldl (clA n k) M) ∧
  ∀ x y,x < n → y < n → getB ((List.range i).foldl (clA n k) M) x y = if x < i then getB M x y || (getB M x k && getB M k y) else getB M x y
 | 0,_ => ⟨h,fun x y _ _ => by simp⟩
 | i + 1,hi => by
  obtain ⟨h1,h2⟩ := clK_to h hk i (by omega)
  rw [foldl_rg]
  generalize (List.range i).foldl (clA n k) M = X at h1 h2 ⊢
  obtain ⟨h3,h4⟩ := clA_to h1 hk (show i < n by omega) n (Nat.le_refl _)
  refine ⟨h3,fun x y hx hy => ?_⟩
  unfold clA
  rw [h4 x y hx hy]
  by_cases e : x = i
  ·subst e
   have e1 : getB X x y = getB M x y := by rw [h2 x y hx hy,if_neg (Nat.lt_irrefl _)]
   have e2 : getB X x k = getB M x k := by rw [h2 x k hx hk,if_neg (Nat.lt_irrefl _)]
   have e3 : getB X k y = getB M k y := by
    rw [h2 k y hk hy]
    split
    ·exact absorb
    ·rfl
   rw [if_pos ⟨rfl,hy⟩,if_pos (by omega),e1,e2,e3]
  ·rw [if_neg (fun q => e q.1),h2 x y hx hy]
   by_cases e2 : x < i
   ·rw [if_pos e2,if_pos (by omega)]
   ·rw [if_neg e2,if_neg (by omega)]
theorem clK_get (h : Sq n M) {k : Nat} (hk : k < n) {x y : Nat} (hx : x < n) (hy : y < n) : getB (clK n M k) x y = (getB M x y || (getB M x k && getB M k y)) := by
 have := (clK_to h hk n (Nat.le_refl _)).2 x y hx hy
 rw [if_pos hx] at this
 exact this
theorem close_to (h : Sq n M) : ∀ i,i ≤ n → Sq n ((List.range i).foldl (clK n) M) ∧
  (∀ a b,a < n → b < n → getB M a b = true → getB ((List.range i).foldl (clK n) M) a b = true) ∧
  (∀ m a b,m < i → a < n → b < n → getB ((List.range i).foldl (clK n) M) a m = true → getB ((List.range i).foldl (clK n) M) m b = true → getB ((List.range i).foldl (clK n) M) a b = true) ∧
  (∀ T : Nat → Nat → Prop,(∀ a b d,T a b → T b d → T a d) → (∀ a b,a < n → b < n → getB M a b = true → T a b) → ∀ a b,a < n → b < n → getB ((List.range i).foldl (clK n) M) a b = true → T a b)
 | 0,_ => ⟨h,fun a b _ _ k => k,fun m a b k => by omega,fun T _ k => k⟩
 | i + 1,hi => by
  obtain ⟨h1,h2,h3,h4⟩ := close_to h i (by omega)
  rw [foldl_rg]
  generalize (List.range i).foldl (clK n) M = X at h1 h2 h3 h4 ⊢
  have hin : i < n := by omega
  have g : ∀ {x y : Nat},x < n → y < n → (getB (clK n X i) x y = true ↔ getB X x y = true ∨ (getB X x i = true ∧ getB X i y = true)) := by
   intro x y hx hy
   rw [clK_get h1 hin hx hy]; simp
  refine ⟨(clK_to h1 hin n (Nat.le_refl _)).1,fun a b ha hb k => (g ha hb).2 (.inl (h2 a b ha hb k)),fun m a b hm ha hb k1 k2 => ?_,fun T tr hT a b ha hb k => ?_⟩
  ·have hmn : m < n := by omega
   rw [g ha hmn] at k1
   rw [g hmn hb] at k2
   rw [g ha hb]
   by_cases e : m = i
   ·subst e
    rcases k1 with k1 | k1 <;> rcases k2 with k2 | k2
    ·exact .inr ⟨k1,k2⟩
    ·exact .inr ⟨k1,k2.2⟩
    ·exact .inr ⟨k1.1,k2⟩
    ·exact .inr ⟨k1.1,k2.2⟩
   ·have hmi : m < i := by omega
    rcases k1 with k1 | k1 <;> rcases k2 with k2 | k2
    ·exact .inl (h3 m a b hmi ha hb k1 k2)
    ·exact .inr ⟨h3 m a i hmi ha hin k1 k2.1,k2.2⟩
    ·exact .inr ⟨k1.1,h3 m i b hmi hin hb k1.2 k2⟩
    ·exact .inr ⟨k1.1,k2.2⟩
  ·rw [g ha hb] at k
   rcases k with k | k
   ·exact h4 T tr hT a b ha hb k
   ·exact tr a i b (h4 T tr hT a i ha hin k.1) (h4 T tr hT i b hin hb k.2)
def MR (n : Nat) (M : List (List Bool)) (a b : Nat) : Prop := a < n ∧ b < n ∧ getB M a b = true
theorem close_tc (h : Sq n M) {a b : Nat} (ha : a < n) (hb : b < n) : getB (closeM M) a b = true ↔ TC (MR n M) a b := by
 obtain ⟨h1,h2,h3,h4⟩ := close_to h n (Nat.le_refl _)
 have e : closeM M = (List.range n).foldl (clK n) M := by unfold closeM; rw [h.1]
 rw [e]
 constructor
 ·exact h4 (TC (MR n M)) (fun _ _ _ p q => p.trans q) (fun a b ha hb k => .one ⟨ha,hb,k⟩) a b ha hb
 ·intro k
  induction k with
  | one k => exact h2 _ _ k.1 k.2.1 k.2.2
  | tail _ k ih => exact h3 _ _ _ k.1 ha k.2.1 (ih k.1) (h2 _ _ k.1 k.2.1 k.2.2)
end
def Cov (ws : List Wall) (level : Bool) (line i1 i2 : Nat) : Prop := ∃ w ∈ ws,w.level = level ∧ w.line = line ∧ w.fr ≤ i1 ∧ (i2 : Int) < w.fr + w.long
theorem Cov.app {ws vs : List Wall} {level : Bool} {line i1 i2 : Nat} (h : Cov ws level line i1 i2) : Cov (ws ++ vs) level line i1 i2 := by
 obtain ⟨w,hw,k⟩ := h
 exact ⟨w,List.mem_append_left _ hw,k⟩
theorem Cov.long {ws : List Wall} {w : Wall} {level : Bool} {line i1 i2 : Nat} (h : Cov (ws ++ [w]) level line i1 i2) : Cov (ws ++ [{ w with long := w.long + 1 }]) level line i1 i2 := by
 obtain ⟨v,hv,k1,k2,k3,k4⟩ := h
 rcases List.mem_append.1 hv with hv | hv
 ·exact ⟨v,List.mem_append_left _ hv,k1,k2,k3,k4⟩
 ·rw [List.mem_singleton] at hv
  subst hv
  exact ⟨_,List.mem_append_right _ (List.mem_singleton.2 rfl),k1,k2,k3,by simp only; omega⟩
def Run (g : List (List Int)) (level : Bool) (line i1 i2 : Nat) : Prop := ∀ j,i1 ≤ j → j ≤ i2 → difG g level line j = true
theorem wlLine_cov {g : List (List Int)} {level : Bool} {line : Nat} {ws : List Wall} : ∀ n,(∀ lv ln i1 i2,Cov ws lv ln i1 i2 → Cov (wlLine g level line ws n).1 lv ln i1 i2) ∧
  (∀ i1 i2,i1 ≤ i2 → i2 < n → Run g level line i1 i2 → Cov (wlLine g level line ws n).1 level line i1 i2) ∧
  ((wlLine g level line ws n).2 = false → ∀ m,n = m + 1 → difG g level line m = false) ∧
  ((wlLine g level line ws n).2 = true → ∃ (ws0 : List Wall) (w : Wall),(wlLine g level line ws n).1 = ws0 ++ [w] ∧ w.level = level ∧ w.line = (line : Int) ∧ w.fr + w.long = (n : Int) ∧ 1 ≤ w.long ∧ ∀ i : Nat,i < n → Run g level line i (n - 1) → w.fr ≤ (i : Int))
 | 0 => by
  rw [wlLine_zero]
  exact ⟨fun _ _ _ _ h => h,fun i1 i2 _ h => by omega,fun _ m h => by omega,fun h => by cases h⟩
 | n + 1 => by
  obtain ⟨h1,h2,h3,h4⟩ := wlLine_cov (g := g) (level := level) (line := line) (ws := ws) n
  rw [wlLine_succ]
  generalize wlLine g level line ws n = s at h1 h2 h3 h4
  obtain ⟨l,op⟩ := s
  simp only at h1 h2 h3 h4
  cases hd : difG g level line n with
  | false =>
   have e : wlStep false level line n (l,op) = (l,false) := by simp [wlStep]
   rw [e]
   refine ⟨h1,fun i1 i2 k1 k2 k3 => ?_,fun _ m hm => (by have e0 : m = n := (by omega); rw [e0]; exact hd),fun h => by cases h⟩
   by_cases e2 : i2 = n
   ·subst e2
    have := k3 i2 k1 (Nat.le_refl _)
    rw [hd] at this; cases this
   ·exact h2 i1 i2 k1 (by omega) k3
  | true =>
   cases op with
   | false =>
    have e : wlStep true level line n (l,false) = (l ++ [⟨level,line,n,1⟩],true) := by simp [wlStep]
    rw [e]
    have hno : ∀ m,n = m + 1 → difG g level line m = false := h3 rfl
    have first : ∀ i,i < n + 1 → Run g level line i n → i = n := by
     intro i hi hr
     by_cases e2 : i = n
     ·exact e2
     ·have := hr (n - 1) (by omega) (by omega)
      rw [hno (n - 1) (by omega)] at this; cases this
    refine ⟨fun lv ln i1 i2 k => (h1 lv ln i1 i2 k).app,fun i1 i2 k1 k2 k3 => ?_,fun h => (by cases h),fun _ => ⟨l,_,rfl,rfl,rfl,by simp,by simp,fun i hi hr => ?_⟩⟩
    ·by_cases e2 : i2 = n
     ·subst e2
      obtain rfl := first i1 (by omega) k3
      exact ⟨_,List.mem_append_right _ (List.mem_singleton.2 rfl),rfl,rfl,Int.le_refl _,by simp only; omega⟩
     ·exact (h2 i1 i2 k1 (by omega) k3).app
    ·have := first i hi hr
     simp only; omega
   | true =>
    obtain ⟨ws0,w,rfl,w1,w2,w3,w4,w5⟩ := h4 rfl
    have e : wlStep true level line n (ws0 ++ [w],true) = (ws0 ++ [{ w with long := w.long + 1 }],true) := by simp [wlStep]
    rw [e]
    have hfr : ∀ i : Nat,i < n + 1 → Run g level line i n → w.fr ≤ (i : Int) := by
     intro i hi hr
     by_cases e2 : i = n
     ·omega
     ·exact w5 i (by omega) fun j j1 j2 => hr j j1 (by omega)
    refine ⟨fun lv ln i1 i2 k => (h1 lv ln i1 i2 k).long,fun i1 i2 k1 k2 k3 => ?_,fun h => (by cases h),fun _ => ⟨ws0,_,rfl,w1,w2,by simp only; omega,by simp only; omega,fun i hi hr => hfr i hi hr⟩⟩
    by_cases e2 : i2 = n
    ·subst e2
     have := hfr i1 (by omega) k3
     exact ⟨_,List.mem_append_right _ (List.mem_singleton.2 rfl),w1,w2,this,by simp only; omega⟩
    ·exact (h2 i1 i2 k1 (by omega) k3).long
theorem wlLevel_cov {g : List (List Int)} {level : Bool} {places : Nat} {ws : List Wall} : ∀ lines,(∀ lv ln i1 i2,Cov ws lv ln i1 i2 → Cov (wlLevel g level places ws lines) lv ln i1 i2) ∧
  (∀ line i1 i2,1 ≤ line → line < lines → i1 ≤ i2 → i2 < places → Run g level line i1 i2 → Cov (wlLevel g level places ws lines) level line i1 i2)
 | 0 => ⟨fun _ _ _ _ h => h,fun line _ _ _ h => by omega⟩
 | k + 1 => by
  obtain ⟨h1,h2⟩ := wlLevel_cov (g := g) (level := level) (places := places) (ws := ws) k
  by_cases hk : 1 ≤ k
  ·rw [wlLevel_succ hk]
   obtain ⟨l1,l2,-,-⟩ := wlLine_cov (g := g) (level := level) (line := k) (ws := wlLevel g level places ws k) places
   refine ⟨fun lv ln i1 i2 q => l1 _ _ _ _ (h1 _ _ _ _ q),fun line i1 i2 q1 q2 q3 q4 q5 => ?_⟩
   by_cases e : line = k
   ·subst e; exact l2 i1 i2 q3 q4 q5
   ·exact l1 _ _ _ _ (h2 line i1 i2 q1 (by omega) q3 q4 q5)
  ·obtain rfl : k = 0 := by omega
   rw [wlLevel_one]
   exact ⟨fun _ _ _ _ h => h,fun line _ _ q1 q2 => by omega⟩
theorem wallsG_cov {g : List (List Int)} {H W : Nat} {level : Bool} {line i1 i2 : Nat} (h1 : 1 ≤ line) (h2 : line < if level then H else W) (h3 : i1 ≤ i2) (h4 : i2 < if level then W else H) (hr : Run g level line i1 i2) : Cov (wallsG g H W) level line i1 i2 := by
 unfold wallsG
 obtain ⟨a1,a2⟩ := wlLevel_cov (g := g) (level := false) (places := H) (ws := []) W
 obtain ⟨b1,b2⟩ := wlLevel_cov (g := g) (level := true) (places := W) (ws := wlLevel g false H [] W) H
 cases level with
 | false => exact b1 _ _ _ _ (a2 line i1 i2 h1 h2 h3 h4 hr)
 | true => exact b2 line i1 i2 h1 h2 h3 h4 hr
section
variable {n : Nat}
theorem relB_get {a : Int} (ha : 0 ≤ a ∧ a < n) : ∀ {bs : List Int} {M : List (List Bool)},Rm n bs → Sq n M → Sq n (relB a bs M) ∧ ∀ x y,getB (relB a bs M) x y = true ↔ getB M x y = true ∨ (x = a.toNat ∧ ∃ b ∈ bs,y = b.toNat)
 | [],M,_,h => ⟨h,fun x y => by simp [relB]⟩
 | b :: bs,M,hb,h => by
  have hb0 := hb b (by simp)
  obtain ⟨k1,k2⟩ := relB_get ha (bs := bs) (M := setB M a.toNat b.toNat true) (fun x hx => hb x (by simp [hx])) (h.set (by omega))
  refine ⟨k1,fun x y => ?_⟩
  have e : relB a (b :: bs) M = relB a bs (setB M a.toNat b.toNat true) := rfl
  rw [e,k2,getB_setB h (by omega) (by omega)]
  by_cases q : x = a.toNat ∧ y = b.toNat
  ·rw [if_pos q]; simp [q.1,q.2]
  ·rw [if_neg q]
   constructor
   ·rintro (k | ⟨k,c,hc,rfl⟩)
    ·exact .inl k
    ·exact .inr ⟨k,c,by simp [hc],rfl⟩
   ·rintro (k | ⟨k,c,hc,rfl⟩)
    ·exact .inl k
    ·rcases List.mem_cons.1 hc with rfl | hc
     ·exact absurd ⟨k,rfl⟩ q
     ·exact .inr ⟨k,c,hc,rfl⟩
theorem relW_get {bs : List Int} (hb : Rm n bs) : ∀ {la : List Int} {M : List (List Bool)},Rm n la → Sq n M → Sq n (relW M la bs) ∧ ∀ x y,getB (relW M la bs) x y = true ↔ getB M x y = true ∨ (∃ a ∈ la,x = a.toNat) ∧ ∃ b ∈ bs,y = b.toNat
 | [],M,_,h => ⟨h,fun x y => by simp [relW]⟩
 | a :: la,M,ha,h => by
  obtain ⟨j1,j2⟩ := relB_get (ha a (by simp)) hb h
  obtain ⟨k1,k2⟩ := relW_get hb (la := la) (M := relB a bs M) (fun x hx => ha x (by simp [hx])) j1
  refine ⟨k1,fun x y => ?_⟩
  have e : relW M (a :: la) bs = relW (relB a bs M) la bs := rfl
  rw [e,k2,j2]
  constructor
  ·rintro ((k | ⟨k,q⟩) | ⟨⟨c,hc,k⟩,q⟩)
   ·exact .inl k
   ·exact .inr ⟨⟨a,by simp,k⟩,q⟩
   ·exact .inr ⟨⟨c,by simp [hc],k⟩,q⟩
  ·rintro (k | ⟨⟨c,hc,k⟩,q⟩)
   ·exact .inl (.inl k)
   ·rcases List.mem_cons.1 hc with rfl | hc
    ·exact .inl (.inr ⟨k,q⟩)
    ·exact .inr ⟨⟨c,hc,k⟩,q⟩
def By (g : List (List Int)) (ws : List Wall) (lv : Bool) (x y : Nat) : Prop := ∃ w ∈ ws,w.level = lv ∧ (∃ a ∈ (sidesOf g w).1,x = a.toNat) ∧ ∃ b ∈ (sidesOf g w).2,y = b.toNat
theorem By.cons {g : List (List Int)} {w : Wall} {ws : List Wall} {lv : Bool} {x y : Nat} : By g (w :: ws) lv x y ↔ (w.level = lv ∧ (∃ a ∈ (sidesOf g w).1,x = a.toNat) ∧ ∃ b ∈ (sidesOf g w).2,y = b.toNat) ∨ By g ws lv x y := by
 unfold By; simp
theorem ord_get {g : List (List Int)} {nh nw : Nat} (hrm : RmOk g nh nw n) : ∀ (ws : List Wall),(∀ w ∈ ws,WlOk g nh nw w) → ∀ {M : List (List Bool) × List (List Bool)},Sq n M.1 → Sq n M.2 →
  (Sq n (ws.foldl (ordW g) M).1 ∧ ∀ x y,getB (ws.foldl (ordW g) M).1 x y = true ↔ getB M.1 x y = true ∨ By g ws false x y) ∧
  (Sq n (ws.foldl (ordW g) M).2 ∧ ∀ x y,getB (ws.foldl (ordW g) M).2 x y = true ↔ getB M.2 x y = true ∨ By g ws true x y)
 | [],_,M,h0,h1 => ⟨⟨h0,fun x y => by simp [By]⟩,⟨h1,fun x y => by simp [By]⟩⟩
 | w :: ws,hws,M,h0,h1 => by
  obtain ⟨r1,r2⟩ := sidesOf_rooms hrm (hws w (by simp))
  rw [List.foldl_cons]
  cases hlv : w.level with
  | false =>
   obtain ⟨k1,k2⟩ := relW_get r2 r1 h0
   have e : ordW g M w = (relW M.1 (sidesOf g w).1 (sidesOf g w).2,M.2) := by unfold ordW; rw [hlv]; rfl
   rw [e]
   obtain ⟨⟨a1,a2⟩,⟨b1,b2⟩⟩ := ord_get hrm ws (fun w hw => hws w (by simp [hw])) (M := (relW M.1 (sidesOf g w).1 (sidesOf g w).2,M.2)) k1 h1
   refine ⟨⟨a1,fun x y => ?_⟩,⟨b1,fun x y => ?_⟩⟩
   ·rw [a2,k2,By.cons,hlv]; simp only [true_and,or_assoc]
   ·rw [b2,By.cons,hlv]; simp
  | true =>
   obtain ⟨k1,k2⟩ := relW_get r2 r1 h1
   have e : ordW g M w = (M.1,relW M.2 (sidesOf g w).1 (sidesOf g w).2) := by unfold ordW; rw [hlv]; rfl
   rw [e]
   obtain ⟨⟨a1,a2⟩,⟨b1,b2⟩⟩ := ord_get hrm ws (fun w hw => hws w (by simp [hw])) (M := (M.1,relW M.2 (sidesOf g w).1 (sidesOf g w).2)) h0 k1
   refine ⟨⟨a1,fun x y => ?_⟩,⟨b1,fun x y => ?_⟩⟩
   ·rw [a2,By.cons,hlv]; simp
   ·rw [b2,k2,By.cons,hlv]; simp only [true_and,or_assoc]
theorem emptyM_no {x y : Nat} : getB (emptyM n) x y = false := by
 unfold getB emptyM
 rw [List.getElem?_replicate]
 split
 ·rw [Option.getD_some,List.getElem?_replicate]; split <;> rfl
 ·rfl
def cn (g : List (List Int)) (i j : Nat) : Nat := (gz g i j).toNat
theorem RmOk.ne {g : List (List Int)} {nh nw : Nat} (h : RmOk g nh nw n) {i j i' j' : Nat} (h1 : i < nh) (h2 : j < nw) (h3 : i' < nh) (h4 : j' < nw) : gz g i j ≠ gz g i' j' ↔ cn g i j ≠ cn g i' j' := by
 have a := h i j h1 h2
 have b := h i' j' h3 h4
 unfold cn
 omega
theorem side_mem1 {g : List (List Int)} {level : Bool} {line fr long j : Nat} (h1 : fr ≤ j) (h2 : j < fr + long) : (sidesG g level line j).1 ∈ (sidesOf g ⟨level,line,fr,long⟩).1 := by
 simp only [sidesOf,Int.toNat_natCast]
 rw [mem_ddp]
 simp only [alongG,List.mem_map,List.mem_range]
 exact ⟨j - fr,by omega,by rw [show fr + (j - fr) = j by omega]⟩
theorem side_mem2 {g : List (List Int)} {level : Bool} {line fr long j : Nat} (h1 : fr ≤ j) (h2 : j < fr + long) : (sidesG g level line j).2 ∈ (sidesOf g ⟨level,line,fr,long⟩).2 := by
 simp only [sidesOf,Int.toNat_natCast]
 rw [mem_ddp]
 simp only [alongG,List.mem_map,List.mem_range]
 exact ⟨j - fr,by omega,by rw [show fr + (j - fr) = j by omega]⟩
theorem side_of1 {g : List (List Int)} {level : Bool} {line fr long : Nat} {x : Int} (h : x ∈ (sidesOf g ⟨level,line,fr,long⟩).1) : ∃ j,fr ≤ j ∧ j < fr + long ∧ x = (sidesG g level line j).1 := by
 simp only [sidesOf,Int.toNat_natCast] at h
 rw [mem_ddp] at h
 simp only [alongG,List.mem_map,List.mem_range] at h
 obtain ⟨j,hj,rfl⟩ := h
 exact ⟨fr + j,by omega,by omega,rfl⟩
theorem side_of2 {g : List (List Int)} {level : Bool} {line fr long : Nat} {x : Int} (h : x ∈ (sidesOf g ⟨level,line,fr,long⟩).2) : ∃ j,fr ≤ j ∧ j < fr + long ∧ x = (sidesG g level line j).2 := by
 simp only [sidesOf,Int.toNat_natCast] at h
 rw [mem_ddp] at h
 simp only [alongG,List.mem_map,List.mem_range] at h
 obtain ⟨j,hj,rfl⟩ := h
 exact ⟨fr + j,by omega,by omega,rfl⟩
theorem by_left {g : List (List Int)} {nh nw : Nat} (h : RmOk g nh nw n) {x y : Nat} : By g (wallsG g nh nw) false x y ↔ DL (cn g) nh nw x y := by
 constructor
 ·rintro ⟨w,hw,hlv,⟨a,ha,rfl⟩,b,hb,rfl⟩
  obtain ⟨line,fr,long,he,hl,hin⟩ := wallsG_ok w hw
  rw [hlv] at he hin
  subst he
  obtain ⟨j1,p1,p2,rfl⟩ := side_of1 ha
  obtain ⟨j2,q1,q2,rfl⟩ := side_of2 hb
  have i1 := (hin j1 p1 p2).1
  have i2 := (hin j2 q1 q2).1
  unfold InL at i1 i2
  simp only [Bool.false_eq_true,if_false] at i1 i2
  obtain ⟨L,rfl⟩ : ∃ L,line = L + 1 := ⟨line - 1,by omega⟩
  refine ⟨L,j1,j2,i1.2.1,i1.2.2,i2.2.2,fun r r1 r2 => ?_,?_,?_⟩
  ·have hr := hin r (by omega) (by omega)
   have hr1 := hr.1
   unfold InL at hr1
   simp only [Bool.false_eq_true,if_false] at hr1
   have hr2 := hr.2
   unfold difG sidesG at hr2
   simp only [Bool.false_eq_true,if_false,decide_eq_true_eq,Nat.add_sub_cancel] at hr2
   exact (h.ne hr1.2.2 (by omega) hr1.2.2 hr1.2.1).1 hr2
  ·simp [sidesG,cn]
  ·simp [sidesG,cn]
 ·rintro ⟨L,i1,i2,h1,h2,h3,run,rfl,rfl⟩
  have hrun : Run g false (L + 1) (min i1 i2) (max i1 i2) := by
   intro r r1 r2
   have := run r r1 r2
   rw [← h.ne (by omega) (by omega) (by omega) h1] at this
   unfold difG sidesG
   simpa using this
  obtain ⟨w,hw,w1,w2,w3,w4⟩ := wallsG_cov (g := g) (H := nh) (W := nw) (level := false) (line := L + 1) (by omega) (by simpa using h1) (by omega) (by simp only [Bool.false_eq_true,if_false]; omega) hrun
  obtain ⟨line,fr,long,he,hl,hin⟩ := wallsG_ok w hw
  rw [w1] at he
  subst he
  simp only at w2 w3 w4
  obtain rfl : line = L + 1 := by omega
  refine ⟨_,hw,rfl,⟨_,side_mem1 (j := i1) (by omega) (by omega),?_⟩,_,side_mem2 (j := i2) (by omega) (by omega),?_⟩
  ·simp [sidesG,cn]
  ·simp [sidesG,cn]
theorem by_above {g : List (List Int)} {nh nw : Nat} (h : RmOk g nh nw n) {x y : Nat} : By g (wallsG g nh nw) true x y ↔ DU (cn g) nh nw x y := by
 constructor
 ·rintro ⟨w,hw,hlv,⟨a,ha,rfl⟩,b,hb,rfl⟩
  obtain ⟨line,fr,long,he,hl,hin⟩ := wallsG_ok w hw
  rw [hlv] at he hin
  subst he
  obtain ⟨j1,p1,p2,rfl⟩ := side_of1 ha
  obtain ⟨j2,q1,q2,rfl⟩ := side_of2 hb
  have i1 := (hin j1 p1 p2).1
  have i2 := (hin j2 q1 q2).1
  unfold InL at i1 i2
  simp only [if_true] at i1 i2
  obtain ⟨L,rfl⟩ : ∃ L,line = L + 1 := ⟨line - 1,by omega⟩
  refine ⟨L,j1,j2,i1.2.1,i1.2.2,i2.2.2,fun r r1 r2 => ?_,?_,?_⟩
  ·have hr := hin r (by omega) (by omega)
   have hr1 := hr.1
   unfold InL at hr1
   simp only [if_true] at hr1
   have hr2 := hr.2
   unfold difG sidesG at hr2
   simp only [if_true,decide_eq_true_eq,Nat.add_sub_cancel] at hr2
   exact (h.ne (by omega) hr1.2.2 hr1.2.1 hr1.2.2).1 hr2
  ·simp [sidesG,cn]
  ·simp [sidesG,cn]
 ·rintro ⟨L,i1,i2,h1,h2,h3,run,rfl,rfl⟩
  have hrun : Run g true (L + 1) (min i1 i2) (max i1 i2) := by
   intro r r1 r2
   have := run r r1 r2
   rw [← h.ne (by omega) (by omega) h1 (by omega)] at this
   unfold difG sidesG
   simpa using this
  obtain ⟨w,hw,w1,w2,w3,w4⟩ := wallsG_cov (g := g) (H := nh) (W := nw) (level := true) (line := L + 1) (by omega) (by simpa using h1) (by omega) (by simp only [if_true]; omega) hrun
  obtain ⟨line,fr,long,he,hl,hin⟩ := wallsG_ok w hw
  rw [w1] at he
  subst he
  simp only at w2 w3 w4
  obtain rfl : line = L + 1 := by omega
  refine ⟨_,hw,rfl,⟨_,side_mem1 (j := i1) (by omega) (by omega),?_⟩,_,side_mem2 (j := i2) (by omega) (by omega),?_⟩
  ·simp [sidesG,cn]
  ·simp [sidesG,cn]
theorem cn_lt {g : List (List Int)} {nh nw : Nat} (h : RmOk g nh nw n) {i j : Nat} (hi : i < nh) (hj : j < nw) : cn g i j < n := by
 have := h i j hi hj
 unfold cn; omega
theorem left_tc {g : List (List Int)} {nh nw : Nat} (h : RmOk g nh nw n) {a b : Nat} (ha : a < n) (hb : b < n) : getB (leftG g nh nw n) a b = true ↔ TC (DL (cn g) nh nw) a b := by
 obtain ⟨⟨k1,k2⟩,-⟩ := ord_get h (wallsG g nh nw) wallsG_ok (M := (emptyM n,emptyM n)) (emptyM_sq n) (emptyM_sq n)
 have hd : ∀ x y,getB (ordM g nh nw n).1 x y = true ↔ DL (cn g) nh nw x y := fun x y => by
  unfold ordM; rw [k2,by_left h]; simp [emptyM_no]
 unfold leftG
 have k3 : Sq n (ordM g nh nw n).1 := k1
 rw [close_tc k3 ha hb]
 constructor
 ·exact TC.mono fun x y q => (hd x y).1 q.2.2
 ·refine TC.mono fun x y q => ⟨?_,?_,(hd x y).2 q⟩
  ·obtain ⟨j,i1,i2,q1,q2,q3,-,rfl,-⟩ := q
   exact cn_lt h q2 (by omega)
  ·obtain ⟨j,i1,i2,q1,q2,q3,-,-,rfl⟩ := q
   exact cn_lt h q3 q1
theorem above_tc {g : List (List Int)} {nh nw : Nat} (h : RmOk g nh nw n) {a b : Nat} (ha : a < n) (hb : b < n) : getB (aboveG g nh nw n) a b = true ↔ TC (DU (cn g) nh nw) a b := by
 obtain ⟨-,⟨k1,k2⟩⟩ := ord_get h (wallsG g nh nw) wallsG_ok (M := (emptyM n,emptyM n)) (emptyM_sq n) (emptyM_sq n)
 have hd : ∀ x y,getB (ordM g nh nw n).2 x y = true ↔ DU (cn g) nh nw x y := fun x y => by
  unfold ordM; rw [k2,by_above h]; simp [emptyM_no]
 unfold aboveG
 have k3 : Sq n (ordM g nh nw n).2 := k1
 rw [close_tc k3 ha hb]
 constructor
 ·exact TC.mono fun x y q => (hd x y).1 q.2.2
 ·refine TC.mono fun x y q => ⟨?_,?_,(hd x y).2 q⟩
  ·obtain ⟨j,i1,i2,q1,q2,q3,-,rfl,-⟩ := q
   exact cn_lt h (by omega) q2
  ·obtain ⟨j,i1,i2,q1,q2,q3,-,-,rfl⟩ := q
   exact cn_lt h q1 q3
end
end
section
theorem ptsRow_no {p : List Txt} {i : Nat} : ∀ {w : Nat},ptsRow p 4 i w = 0 → ∀ k,1 ≤ k → k < w → meetsAt p i k ≠ 4
 | w + 1,h,k,h1,h2 => by
  have hb := (ptsRow_bound p 4 i w).1
  unfold ptsRow at h
  by_cases e : k = w
  ·subst e
   intro q
   rw [if_pos ⟨h1,q⟩] at h
   omega
  ·have h0 : ptsRow p 4 i w = 0 := by split at h <;> omega
   exact ptsRow_no h0 k h1 (by omega)
theorem ptsTo_no {p : List Txt} {w : Nat} : ∀ {n : Nat},ptsTo p 4 w n = 0 → ∀ i,1 ≤ i → i < n → ptsRow p 4 i w = 0
 | n + 1,h,i,h1,h2 => by
  have hb : 0 ≤ ptsTo p 4 w n := by
   clear h h1 h2
   induction n with
   | zero => simp [ptsTo]
   | succ n ih =>
    have := (ptsRow_bound p 4 n w).1
    unfold ptsTo; split <;> omega
  have hr := (ptsRow_bound p 4 n w).1
  unfold ptsTo at h
  by_cases e : i = n
  ·subst e
   rw [if_pos h1] at h
   omega
  ·have h0 : ptsTo p 4 w n = 0 := by split at h <;> omega
   exact ptsTo_no h0 i h1 (by omega)
theorem u8_ne {a b : UInt8} (h : (a.toNat : Int) - 97 ≠ (b.toNat : Int) - 97) : a ≠ b := by
 rintro rfl; exact h rfl
theorem meets_four {p : List Txt} (hg : gridB p = true) {i k : Nat} (hi : i + 1 < p.length) (hk : k + 1 < (hdRow p).length) (h1 : cellZ p i k ≠ cellZ p i (k + 1)) (h2 : cellZ p i k ≠ cellZ p (i + 1) k) (h3 : cellZ p i k ≠ cellZ p (i + 1) (k + 1))
  (h4 : cellZ p i (k + 1) ≠ cellZ p (i + 1) k) (h5 : cellZ p i (k + 1) ≠ cellZ p (i + 1) (k + 1)) (h6 : cellZ p (i + 1) k ≠ cellZ p (i + 1) (k + 1)) : meetsAt p (i + 1) (k + 1) = 4 := by
 obtain ⟨r1,hr1,-⟩ := get_of (show i < p.length by omega)
 obtain ⟨r2,hr2,-⟩ := get_of hi
 have e1 := grid_row hg hr1
 have e2 := grid_row hg hr2
 obtain ⟨a,ha,-⟩ := get_of (show k < r1.length by omega)
 obtain ⟨b,hb,-⟩ := get_of (show k + 1 < r1.length by omega)
 obtain ⟨c,hc,-⟩ := get_of (show k < r2.length by omega)
 obtain ⟨d,hd,-⟩ := get_of (show k + 1 < r2.length by omega)
 rw [cellZ_is hr1 ha] at h1 h2 h3
 rw [cellZ_is hr1 hb] at h1 h4 h5
 rw [cellZ_is hr2 hc] at h2 h4 h6
 rw [cellZ_is hr2 hd] at h3 h5 h6
 have n1 := u8_ne h1
 have n2 := u8_ne h2
 have n3 := u8_ne h3
 have n4 := u8_ne h4
 have n5 := u8_ne h5
 have n6 := u8_ne h6
 unfold meetsAt
 simp only [Nat.add_sub_cancel,hr1,hr2,ha,hb,hc,hd]
 simp [distTo,newAt,newTo,Ne.symm n1,Ne.symm n2,Ne.symm n3,Ne.symm n4,Ne.symm n5,Ne.symm n6]
theorem cn_cell {p : List Txt} (hp : planB p = true) {i j : Nat} (hi : i < p.length) (hj : j < (hdRow p).length) : (cn (gP p) i j : Int) = cellZ p i j := by
 have hN := plan_named hp
 have := hN.room hi hj
 unfold cn
 rw [hN.cell hi hj]; omega
theorem plan_pl {p : List Txt} (hp : plainB p = true) : Pl (cn (gP p)) p.length (hdRow p).length := by
 have hpl := plain_plan hp
 have hN := plan_named hpl
 have rect : ∀ {i j i' j' : Nat} (k l : Nat),i < p.length → i' < p.length → j < (hdRow p).length → j' < (hdRow p).length → cn (gP p) i j = cn (gP p) i' j' → min i i' ≤ k → k ≤ max i i' → min j j' ≤ l → l ≤ max j j' → cn (gP p) k l = cn (gP p) i j := by
  intro i j i' j' k l h1 h2 h3 h4 e h5 h6 h7 h8
  have e1 := cn_cell hpl h1 h3
  have e2 := cn_cell hpl h2 h4
  have e3 := cn_cell hpl (show k < p.length by omega) (show l < (hdRow p).length by omega)
  obtain ⟨b,hb,q1,-,c1⟩ := plan_rect hpl h1 h3
  obtain ⟨b',hb',q2,-,-⟩ := plan_rect hpl h2 h4
  have e4 : cellZ p i j = cellZ p i' j' := by omega
  rw [e4,hb'] at hb
  obtain rfl := Option.some.inj hb
  have q3 : inB b' k l = true := by
   unfold inB at q1 q2 ⊢
   simp only [Bool.and_eq_true,decide_eq_true_eq] at q1 q2 ⊢
   omega
  have := c1 k l (by omega) (by omega) q3
  omega
 refine ⟨rect,fun {i j} h1 h2 n1 n2 n3 => Classical.byContradiction fun n4 => ?_⟩
 have h0 : points p 4 = 0 := by
  unfold plainB at hp
  simp only [Bool.and_eq_true,decide_eq_true_eq] at hp
  exact hp.2
 have hno := ptsRow_no (ptsTo_no h0 (i + 1) (by omega) h1) (j + 1) (by omega) h2
 have n5 : cn (gP p) i j ≠ cn (gP p) (i + 1) (j + 1) := by
  intro e
  exact n1 (rect i (j + 1) (by omega) h1 (by omega) h2 e (by omega) (by omega) (by omega) (by omega)).symm
 have n6 : cn (gP p) i (j + 1) ≠ cn (gP p) (i + 1) j := by
  intro e
  exact n1 (rect i j (by omega) h1 h2 (by omega) e (by omega) (by omega) (by omega) (by omega))
 have c1 := cn_cell hpl (show i < p.length by omega) (show j < (hdRow p).length by omega)
 have c2 := cn_cell hpl (show i < p.length by omega) h2
 have c3 := cn_cell hpl h1 (show j < (hdRow p).length by omega)
 have c4 := cn_cell hpl h1 h2
 exact hno (meets_four hN.hg h1 h2 (by omega) (by omega) (by omega) (by omega) (by omega) (by omega))
theorem room_cell {p : List Txt} {a : Nat} (ha : a < (rP p).length) : ∃ i j,i < p.length ∧ j < (hdRow p).length ∧ cn (gP p) i j = a := by
 have hi := keys_inv p
 obtain ⟨b,hb,-⟩ := get_of ha
 obtain ⟨v,hv,-⟩ := get_of (show a < (keys p).length by rw [← hi.len]; exact ha)
 obtain ⟨i,j,⟨hz,hj,hij⟩,-⟩ := (hi.hull a v b hv hb).at_
 have hi2 : i < p.length := by omega
 refine ⟨i,j,hi2,hj,?_⟩
 unfold cn
 rw [gP_at hi2 hj,hz,Int.toNat_natCast]
 have hlt : ¬ (keys p).idxOf v = (keys p).length := by
  have := List.idxOf_lt_length_iff.2 (List.mem_of_getElem? hv)
  omega
 exact nodup_one hi.nd (idxOf_mem hlt) hv
def lfM (p : List Txt) : List (List Bool) := leftG (gP p) p.length (hdRow p).length (rP p).length
def abM (p : List Txt) : List (List Bool) := aboveG (gP p) p.length (hdRow p).length (rP p).length
def Lf (p : List Txt) (a b : Nat) : Prop := getB (lfM p) a b = true
def Ab (p : List Txt) (a b : Nat) : Prop := getB (abM p) a b = true
section
variable {p : List Txt} {a b d : Nat}
theorem Lf.iff (ha : a < (rP p).length) (hb : b < (rP p).length) : Lf p a b ↔ TC (DL (cn (gP p)) p.length (hdRow p).length) a b := left_tc gP_room ha hb
theorem Ab.iff (ha : a < (rP p).length) (hb : b < (rP p).length) : Ab p a b ↔ TC (DU (cn (gP p)) p.length (hdRow p).length) a b := above_tc gP_room ha hb
theorem Lf.trans (ha : a < (rP p).length) (hb : b < (rP p).length) (hd : d < (rP p).length) (h : Lf p a b) (k : Lf p b d) : Lf p a d := by
 rw [Lf.iff ha hd]; exact ((Lf.iff ha hb).1 h).trans ((Lf.iff hb hd).1 k)
theorem Ab.trans (ha : a < (rP p).length) (hb : b < (rP p).length) (hd : d < (rP p).length) (h : Ab p a b) (k : Ab p b d) : Ab p a d := by
 rw [Ab.iff ha hd]; exact ((Ab.iff ha hb).1 h).trans ((Ab.iff hb hd).1 k)
theorem plan_orders (hp : plainB p = true) : ∃ f g : Nat → Nat,∀ a b,a < (rP p).length → b < (rP p).length → (Lf p a b → f a < f b ∧ g a < g b) ∧ (Ab p a b → f a < f b ∧ g b < g a) := by
 have hpl := plan_pl hp
 obtain ⟨f,hf⟩ := order_ex hpl (n := (rP p).length) (fun i j hi hj => cn_lt gP_room hi hj)
 obtain ⟨g,hg⟩ := order_ex2 hpl (n := (rP p).length) (fun i j hi hj => cn_lt gP_room hi hj)
 refine ⟨f,g,fun a b ha hb => ⟨fun h => ?_,fun h => ?_⟩⟩
 ·rw [Lf.iff ha hb] at h
  exact ⟨h.rise fun a b k => hf a b (.inl k),h.rise fun a b k => hg a b (.inl k)⟩
 ·rw [Ab.iff ha hb] at h
  exact ⟨h.rise fun a b k => hf a b (.inr k),(h.rev (S := fun x y => DU (cn (gP p)) p.length (hdRow p).length y x) fun _ _ k => k).rise fun a b k => hg a b (.inr k)⟩
theorem Lf.only (hp : plainB p = true) (ha : a < (rP p).length) (hb : b < (rP p).length) (h : Lf p a b) : ¬ Lf p b a ∧ ¬ Ab p a b ∧ ¬ Ab p b a := by
 obtain ⟨f,g,k⟩ := plan_orders hp
 have h1 := (k a b ha hb).1 h
 refine ⟨fun q => ?_,fun q => ?_,fun q => ?_⟩
 ·have := (k b a hb ha).1 q; omega
 ·have := (k a b ha hb).2 q; omega
 ·have := (k b a hb ha).2 q; omega
theorem Ab.only (hp : plainB p = true) (ha : a < (rP p).length) (hb : b < (rP p).length) (h : Ab p a b) : ¬ Ab p b a ∧ ¬ Lf p a b ∧ ¬ Lf p b a := by
 obtain ⟨f,g,k⟩ := plan_orders hp
 have h1 := (k a b ha hb).2 h
 refine ⟨fun q => ?_,fun q => ?_,fun q => ?_⟩
 ·have := (k b a hb ha).2 q; omega
 ·have := (k a b ha hb).1 q; omega
 ·have := (k b a hb ha).1 q; omega
end
end
section
def Pt.rect (t : Pt) : Rect := ⟨t.r,t.c,t.h,t.w⟩
abbrev ePart (g : List (List Int)) (rs : List Rect) (t : Rect) : PV := .agg (eFloor g rs :: t.cells)
def insB (rs : List Rect) (t : Rect) (i : Nat) : Bool := match rs[i]? with | some b => decide (t.both b = t) | none => false
def rmsTo (rs : List Rect) (t : Rect) (k : Nat) : List Int := ((List.range k).filter (insB rs t)).map fun i : Nat => (i : Int)
theorem rmsTo_succ {rs : List Rect} {t : Rect} {k : Nat} {b : Rect} (h : rs[k]? = some b) : rmsTo rs t (k + 1) = if t.both b = t then rmsTo rs t k ++ [(k : Int)] else rmsTo rs t k := by
 unfold rmsTo
 rw [List.range_succ,List.filter_append,List.map_append]
 simp only [List.filter_cons,List.filter_nil,insB,h,decide_eq_true_eq]
 split <;> simp
theorem rmsTo_len {rs : List Rect} {t : Rect} {k : Nat} : (rmsTo rs t k).length ≤ k := by
 unfold rmsTo
 rw [List.length_map]
 exact Nat.le_trans (List.length_filter_le _ _) (by simp)
def rms (rs : List Rect) (t : Rect) : List Int := rmsTo rs t rs.length
section
variable {p : List Txt} {t : Pt}
theorem plan_rz (hp : planB p = true) : RectZ (cellZ p) p.length (hdRow p).length := by
 intro i j i' j' k l hi hi' hj hj' he h1 h2 h3 h4
 obtain ⟨b,hb,hin,_,hall⟩ := plan_rect hp hi hj
 obtain ⟨b',hb',hin',_,_⟩ := plan_rect hp hi' hj'
 rw [← he,hb] at hb'
 cases hb'
 refine hall k l (by omega) (by omega) ?_
 simp only [inB,Bool.and_eq_true,decide_eq_true_eq] at hin hin' ⊢
 omega
theorem whole_all (hp : planB p = true) : Whole (cellZ p) p.length (hdRow p).length ⟨0,0,p.length,(hdRow p).length⟩ := by
 have hsm := grid_small (planB_grid hp)
 obtain ⟨row0,h0,hm0⟩ := get_of hsm.1
 have hw := row_pos (planB_grid hp) h0
 rw [← hdRow_of h0] at hw
 exact ⟨⟨hsm.1,hw,by simp,by simp⟩,fun i j i' j' a b c d _ _ _ _ _ => by simp only; omega⟩
theorem inside_iff (hp : planB p = true) (ht : Whole (cellZ p) p.length (hdRow p).length t) {i : Nat} {b : Rect} (hb : (rP p)[i]? = some b) :
  t.rect.both b = t.rect ↔ ∃ a c,t.r ≤ a ∧ a < t.r + t.h ∧ t.c ≤ c ∧ c < t.c + t.w ∧ cellZ p a c = i := by
 have hh := (plan_named hp).rect hb
 obtain ⟨a1,c1,p1,e1⟩ := hh.at_
 obtain ⟨a2,c2,p2,e2⟩ := hh.al
 obtain ⟨a3,c3,p3,e3⟩ := hh.ao
 obtain ⟨a4,c4,p4,e4⟩ := hh.ar
 have q1 := hh.inn _ _ p1
 obtain ⟨v1,g1⟩ := p1
 obtain ⟨v2,g2⟩ := p2
 obtain ⟨v3,g3⟩ := p3
 obtain ⟨v4,g4⟩ := p4
 unfold Gone at g1 g2 g3 g4
 constructor
 ·intro h
  refine ⟨a1,c1,?_⟩
  simp only [Rect.both,Pt.rect,Rect.mk.injEq] at h
  refine ⟨by omega,by omega,by omega,by omega,v1⟩
 ·rintro ⟨a,c,h1,h2,h3,h4,hv⟩
  have hin := ht.inn
  unfold Pt.In at hin
  have k1 := ht.all a c a1 c1 (by omega) (by omega) (by omega) (by omega) (hv.trans v1.symm) h1 h2 h3 h4
  have k2 := ht.all a c a2 c2 (by omega) (by omega) (by omega) (by omega) (hv.trans v2.symm) h1 h2 h3 h4
  have k3 := ht.all a c a3 c3 (by omega) (by omega) (by omega) (by omega) (hv.trans v3.symm) h1 h2 h3 h4
  have k4 := ht.all a c a4 c4 (by omega) (by omega) (by omega) (by omega) (hv.trans v4.symm) h1 h2 h3 h4
  simp only [Rect.both,Pt.rect,Rect.mk.injEq]
  omega
theorem cell_room (hp : planB p = true) {i j : Nat} (hi : i < p.length) (hj : j < (hdRow p).length) : 0 ≤ cellZ p i j ∧ cellZ p i j < (rP p).length := (plan_named hp).room hi hj
theorem mem_rms (hp : planB p = true) (ht : Whole (cellZ p) p.length (hdRow p).length t) {x : Int} :
  x ∈ rms (rP p) t.rect ↔ ∃ a c,t.r ≤ a ∧ a < t.r + t.h ∧ t.c ≤ c ∧ c < t.c + t.w ∧ cellZ p a c = x := by
 have hin := ht.inn
 unfold Pt.In at hin
 simp only [rms,rmsTo,List.mem_map,List.mem_filter,List.mem_range]
 constructor
 ·rintro ⟨i,⟨hi,hb⟩,rfl⟩
  obtain ⟨b,hb',_⟩ := get_of hi
  simp only [insB,hb',decide_eq_true_eq] at hb
  exact (inside_iff hp ht hb').1 hb
 ·rintro ⟨a,c,h1,h2,h3,h4,hv⟩
  have hr := cell_room hp (i := a) (j := c) (by omega) (by omega)
  rw [hv] at hr
  obtain ⟨b,hb',_⟩ := get_of (show x.toNat < (rP p).length by omega)
  refine ⟨x.toNat,⟨by omega,?_⟩,by omega⟩
  simp only [insB,hb',decide_eq_true_eq]
  exact (inside_iff hp ht hb').2 ⟨a,c,h1,h2,h3,h4,by omega⟩
theorem rms_nodup {rs : List Rect} {t : Rect} : (rms rs t).Nodup := by
 unfold rms rmsTo
 rw [List.nodup_iff_pairwise_ne,List.pairwise_map]
 exact ((List.nodup_iff_pairwise_ne.1 List.nodup_range).filter _).imp fun h e => h (Int.ofNat.inj e)
theorem rms_one (hp : planB p = true) (ht : Whole (cellZ p) p.length (hdRow p).length t) (h : oneZ (cellZ p) t = true) : rms (rP p) t.rect = [cellZ p t.r t.c] := by
 have hall := oneZ_iff.1 h
 have hin := ht.inn
 unfold Pt.In at hin
 have hm : ∀ x,x ∈ rms (rP p) t.rect ↔ x = cellZ p t.r t.c := by
  intro x
  rw [mem_rms hp ht]
  constructor
  ·rintro ⟨a,c,h1,h2,h3,h4,rfl⟩
   have := hall (a - t.r) (c - t.c) (by omega) (by omega)
   rwa [show t.r + (a - t.r) = a by omega,show t.c + (c - t.c) = c by omega] at this
  ·rintro rfl
   exact ⟨t.r,t.c,by omega,by omega,by omega,by omega,rfl⟩
 have hn := rms_nodup (rs := rP p) (t := t.rect)
 match hl : rms (rP p) t.rect,hm,hn with
 | [],hm,_ => exact absurd ((hm _).2 rfl) (by simp)
 | [x],hm,_ => rw [(hm x).1 (by simp)]
 | x :: y :: l,hm,hn =>
  have h1 := (hm x).1 (by simp)
  have h2 := (hm y).1 (by simp)
  rw [h1,h2] at hn
  simp at hn
theorem rms_more (hp : planB p = true) (ht : Whole (cellZ p) p.length (hdRow p).length t) (h : oneZ (cellZ p) t = false) : 2 ≤ (rms (rP p) t.rect).length := by
 have hin := ht.inn
 unfold Pt.In at hin
 have hno : ¬ ∀ i j,i < t.h → j < t.w → cellZ p (t.r + i) (t.c + j) = cellZ p t.r t.c := by
  intro hc; rw [oneZ_iff.2 hc] at h; cases h
 match hl : rms (rP p) t.rect with
 | [] =>
  have : cellZ p t.r t.c ∈ rms (rP p) t.rect := (mem_rms hp ht).2 ⟨t.r,t.c,by omega,by omega,by omega,by omega,rfl⟩
  rw [hl] at this; simp at this
 | [x] =>
  exfalso
  apply hno
  intro i j hi hj
  have h1 : cellZ p (t.r + i) (t.c + j) ∈ rms (rP p) t.rect := (mem_rms hp ht).2 ⟨t.r + i,t.c + j,by omega,by omega,by omega,by omega,rfl⟩
  have h2 : cellZ p t.r t.c ∈ rms (rP p) t.rect := (mem_rms hp ht).2 ⟨t.r,t.c,by omega,by omega,by omega,by omega,rfl⟩
  rw [hl] at h1 h2
  simp at h1 h2
  omega
 | x :: y :: l => simp
end
def thG (g : List (List Int)) (t : Pt) (level : Bool) (line : Nat) : Bool := if level then (List.range t.w).all fun j => difG g true line (t.c + j) else (List.range t.h).all fun i => difG g false line (t.r + i)
theorem thG_u {p : List Txt} (hp : planB p = true) {t : Pt} (ht : t.In p.length (hdRow p).length) {k : Nat} (h1 : 1 ≤ k) (h2 : k < t.w) : thG (gP p) t false (t.c + k) = thU (cellZ p) t k := by
 have hN := plan_named hp
 obtain ⟨i1,i2,i3,i4⟩ := ht
 apply Bool.eq_iff_iff.2
 rw [thU_iff]
 simp only [thG,Bool.false_eq_true,if_false,List.all_eq_true,List.mem_range,difG,sidesG,decide_eq_true_eq]
 constructor
 ·intro h i hi
  have := h i hi
  rwa [hN.cell (by omega) (by omega),hN.cell (by omega) (by omega)] at this
 ·intro h i hi
  have := h i hi
  rwa [hN.cell (by omega) (by omega),hN.cell (by omega) (by omega)]
theorem thG_l {p : List Txt} (hp : planB p = true) {t : Pt} (ht : t.In p.length (hdRow p).length) {k : Nat} (h1 : 1 ≤ k) (h2 : k < t.h) : thG (gP p) t true (t.r + k) = thL (cellZ p) t k := by
 have hN := plan_named hp
 obtain ⟨i1,i2,i3,i4⟩ := ht
 apply Bool.eq_iff_iff.2
 rw [thL_iff]
 simp only [thG,if_true,List.all_eq_true,List.mem_range,difG,sidesG,decide_eq_true_eq]
 constructor
 ·intro h i hi
  have := h i hi
  rwa [hN.cell (by omega) (by omega),hN.cell (by omega) (by omega)] at this
 ·intro h i hi
  have := h i hi
  rwa [hN.cell (by omega) (by omega),hN.cell (by omega) (by omega)]
def pcCells (g : List (List Int)) (rs : List Rect) (lv : Bool) (x y : Rect) : List PV := .bool lv :: (eFloor g rs :: x.cells) ++ (eFloor g rs :: y.cells)
abbrev ePiece (g : List (List Int)) (rs : List Rect) (t : Pt) (q : Bool × Nat) : PV := .agg (pcCells g rs q.1 (t.one q).rect (t.two q).rect)
end
theorem pEq_rect {S : Store} {x t : Rect} : pEq tab S 55 (eRect x) (.agg [.int .i64 t.row,.int .i64 t.col,.int .i64 t.high,.int .i64 t.wide]) = some (decide (x = t)) := by
 have h : (tab 55).kd = .struct [(0,3),(1,3),(2,3),(3,3)] := by kernel_rfl
 have h2 : intFields tab [(0,3),(1,3),(2,3),(3,3)] 0 = true := by kernel_rfl
 obtain ⟨b1,b2,b3,b4⟩ := x
 obtain ⟨o1,o2,o3,o4⟩ := t
 unfold pEq
 rw [h]
 simp [h2,Rect.cells,intsOf]
def slO (l : List Int) (v : Nat) : PV := match l with | [] => .nils | _ => .loc 1 v 0 l.length
def stO (b : Ob) (l : List Int) (v t : Nat) : Store := match l with | [] => ⟨[b],t⟩ | _ => ⟨[b,.arr v 3 1 (l.map (.int .i64))],t⟩
theorem slO_nil {v : Nat} : slO [] v = .nils := rfl
theorem stO_nil {b : Ob} {v t : Nat} : stO b [] v t = ⟨[b],t⟩ := rfl
theorem slO_ne {l : List Int} {v : Nat} (h : l ≠ []) : slO l v = .loc 1 v 0 l.length := by cases l with | nil => exact absurd rfl h | cons a l => rfl
theorem stO_ne {b : Ob} {l : List Int} {v t : Nat} (h : l ≠ []) : stO b l v t = ⟨[b,.arr v 3 1 (l.map (.int .i64))],t⟩ := by cases l with | nil => exact absurd rfl h | cons a l => rfl
theorem reify_slO {b : Ob} {l : List Int} {v t : Nat} {im : Bool} {k : Nat} : reify (stO b l v t) im (k + 2) (slO l v) = some (eInts l) := by
 cases l with
 | nil => rfl
 | cons a l => exact reify_loc (k := k + 1) (S := ⟨[b,.arr v 3 1 ((a :: l).map (.int .i64))],t⟩) (o := 1) rfl (by simp) (mapM_int _)
theorem eFloor_def {g : List (List Int)} {rs : List Rect} : (eFloor g rs).isDef = true := rfl
theorem ins_cases (b : Rect) (t : Rect) (l : List Int) : (t.both b ≠ t ∧ l = []) ∨ (t.both b ≠ t ∧ l ≠ []) ∨ (t.both b = t ∧ l = []) ∨ (t.both b = t ∧ l ≠ []) := by
 by_cases h : t.both b = t <;> by_cases e : l = [] <;> simp [h,e]
theorem list_pc (g : List (List Int)) {rs : List Rect} (hrs : rs.length ≤ 1000) (hfit : ∀ b ∈ rs,b.Fit) {t : Rect} (ht : t.Fit) : PC Tryz.prog 72 [ePart g rs t] (eInts (rms rs t)) true := by
 simp only [ePart,Rect.cells]
 refine PC.of ⟨Tryz.func72,by kernel_rfl,rfl,by kernel_rfl⟩ tabOk mixed (by show 1 ≤ Tryz.f72.ntmps; decide) ?_
 refine W.r fun K hK => ?_
 simp (disch := omega) only [↓RU,RV,RH,↓reduceIte,reduceEqDiff,reduceCtorEq,if_pos,↓RS,RG,reduceAdd,reduceMul,reduceLeDiff,ty7,ty13,ty15,tyint,ty21,ty28]
 refine hK _ _ ?_;clear hK K
 refine W.r fun K hK => ?_
 simp (disch := omega) only [↓RU,RV,RH,↓reduceIte,reduceEqDiff,reduceCtorEq,if_pos,↓RS,RG,reduceAdd,reduceMul,reduceLeDiff]
 refine hK _ _ ?_;clear hK K
 refine W.seq ?_
 refine W.r fun K hK => ?_
 simp (disch := omega) only [↓RU,RV,RH,↓reduceIte,reduceEqDiff,reduceCtorEq,if_pos,↓RS,RG,reduceAdd,reduceMul,reduceLeDiff,ty1,ty3,tyLint,ty7,ty10,ty11,ty13,ty15,tyint,ty21,ty24,ty28]
 refine hK _ _ ?_;clear hK K
 refine W.block ?_
 refine W.loopS [1,10,11,12,3] (fun n vs S => ∃ i v tk : Nat,n = rs.length - i ∧ i ≤ rs.length ∧ vs = [.ref 0 0 0,eRects rs,.int .i64 rs.length,.int .i64 i,slO (rmsTo rs t i) v] ∧ S = stO (.arr 0 57 5 [eFloor g rs,.int .i64 t.row,.int .i64 t.col,.int .i64 t.high,.int .i64 t.wide]) (rmsTo rs t i) v tk) rs.length ?_ ?_
 ·refine ⟨1,[],[.ref 0 0 0,eRects rs,.int .i64 rs.length,.int .i64 (0 : Nat),slO [] 0],stO (.arr 0 57 5 [eFloor g rs,.int .i64 t.row,.int .i64 t.col,.int .i64 t.high,.int .i64 t.wide]) [] 0 2,?_,?_,0,0,2,rfl,by omega,rfl,rfl⟩
  ·simp [-List.mapM_map,Env.put,Env.of,argEnv,Srn_eq,rnObs_cons,rnObs_nil,rnOb_arr,rnOb_map,rn_loc,rn_ref,rn_mp,rn_int,rn_bool,rn_str,rn_ip,rn_sl,rn_nils,rn_nilp,rn_undef,rn_agg,rn_tup,rn_fn,rfq_loc,rfq_int,rfq_bool,rfq_str,rfq_sl,frOf,List.range_succ,List.mapM_append,List.mapM_cons,slO_nil]
  ·simp [-List.mapM_map,Env.put,Env.of,argEnv,Srn_eq,rnObs_cons,rnObs_nil,rnOb_arr,rnOb_map,rn_loc,rn_ref,rn_mp,rn_int,rn_bool,rn_str,rn_ip,rn_sl,rn_nils,rn_nilp,rn_undef,rn_agg,rn_tup,rn_fn,rfq_loc,rfq_int,rfq_bool,rfq_str,rfq_sl,frOf,List.range_succ,List.mapM_append,List.mapM_cons,stO_nil,rn_rcs,Rect.cells]
 rintro n vs S - ⟨i,v,tk,rfl,h_i,rfl,rfl⟩
 refine W.r fun K hK => ?_
 simp (disch := omega) only [↓RU,RV,RH,↓reduceIte,reduceEqDiff,reduceCtorEq,if_pos,w64,↓RS,RG,reduceAdd,reduceMul,reduceLeDiff,tyint]
 refine hK _ _ ?_;clear hK K
 refine W.seq ?_
 refine W.cond rfl (fun h => ?_) (fun h => ?_)
 ·try simp only [RL] at h
  obtain ⟨b,hb,hbm⟩ := get_of (show i < rs.length by omega)
  have hbr := rcs_at hb
  have hlen := rmsTo_len (rs := rs) (t := t) (k := i)
  generalize hl : rmsTo rs t i = l at hlen
  refine W.skip ?_
  refine xn ?_
  refine W.seq ?_
  refine W.block ?_
  refine W.r fun K hK => ?_
  obtain ⟨hd,rfl⟩ | ⟨hd,hw⟩ | ⟨hd,rfl⟩ | ⟨hd,hw⟩ := ins_cases b t l
  ·skip
   rw [slO_nil,stO_nil]
   simp (disch := omega) only [↓RU,RV,RH,↓reduceIte,reduceEqDiff,reduceCtorEq,if_pos,↓RS,RG,reduceAdd,reduceMul,reduceLeDiff,ty3,ty15,tyint,ty28,hbr,rcs_len,Rect.cells]
   refine hK _ _ ?_;clear hK K
   refine W.seq_draw (by kernel_rfl) fun K hK => ?_
   simp (disch := omega) only [↓RU,RV,RH,↓reduceIte,reduceEqDiff,reduceCtorEq,if_pos,List.append_nil,w64,↓RS,RG,reduceAdd,reduceMul,reduceLeDiff,ty7,ty13,ty15,tyint,ty21,ty28]
   refine CallR.pc (both_pc ht.in_ (hfit b hbm).in_) rfl (.inl rfl) ?_
   simp (disch := omega) only [↓RU,RV,RH,↓reduceIte,reduceEqDiff,reduceCtorEq,if_pos,List.append_nil,w64,↓RS,RG,reduceAdd,reduceMul,reduceLeDiff,ty7,ty13,ty15,tyint,ty21,ty28,pEq_rect,Option.map_some]
   refine hK _ _ ?_;clear hK K
   refine W.cond rfl (fun h1 => ?_) (fun h1 => ?_)
   ·try simp only [RL] at h1
    exact absurd h1 (by simp [hd])
   ·try simp only [RL] at h1
    refine W.skip ?_
    refine XbN ?_
    refine xn ?_
    refine W.k fun K hK => ?_
    simp (disch := omega) only [↓RU,RV,RH,↓reduceIte,reduceEqDiff,reduceCtorEq,if_pos,w64,↓RS,RG,reduceAdd,reduceMul,reduceLeDiff,tyint]
    refine hK _ _ ?_;clear hK K
    refine xn ?_
    have hnx : rmsTo rs t (i + 1) = [] := by rw [rmsTo_succ hb,hl,if_neg hd] <;> rfl
    refine ⟨rs.length - (i + 1),by omega,1,[],[.ref 0 0 0,eRects rs,.int .i64 rs.length,.int .i64 ((i + 1 : Nat) : Int),slO (rmsTo rs t (i + 1)) v],stO (.arr 0 57 5 [eFloor g rs,.int .i64 t.row,.int .i64 t.col,.int .i64 t.high,.int .i64 t.wide]) (rmsTo rs t (i + 1)) v (tk + 2),?_,?_,i + 1,v,(tk + 2),rfl,by omega,rfl,rfl⟩
    ·rw [hnx]; simp [-List.mapM_map,Env.put,Env.of,argEnv,Srn_eq,rnObs_cons,rnObs_nil,rnOb_arr,rnOb_map,rn_loc,rn_ref,rn_mp,rn_int,rn_bool,rn_str,rn_ip,rn_sl,rn_nils,rn_nilp,rn_undef,rn_agg,rn_tup,rn_fn,rfq_loc,rfq_int,rfq_bool,rfq_str,rfq_sl,frOf,List.range_succ,List.mapM_append,List.mapM_cons,slO_nil]
    ·rw [hnx]; simp [-List.mapM_map,Env.put,Env.of,argEnv,Srn_eq,rnObs_cons,rnObs_nil,rnOb_arr,rnOb_map,rn_loc,rn_ref,rn_mp,rn_int,rn_bool,rn_str,rn_ip,rn_sl,rn_nils,rn_nilp,rn_undef,rn_agg,rn_tup,rn_fn,rfq_loc,rfq_int,rfq_bool,rfq_str,rfq_sl,frOf,List.range_succ,List.mapM_append,List.mapM_cons,stO_nil,Rect.cells]
  ·skip
   rw [slO_ne hw,stO_ne hw]
   simp (disch := omega) only [↓RU,RV,RH,↓reduceIte,reduceEqDiff,reduceCtorEq,if_pos,↓RS,RG,reduceAdd,reduceMul,reduceLeDiff,ty3,ty15,tyint,ty28,hbr,rcs_len,Rect.cells]
   refine hK _ _ ?_;clear hK K
   refine W.seq_draw (by kernel_rfl) fun K hK => ?_
   simp (disch := omega) only [↓RU,RV,RH,↓reduceIte,reduceEqDiff,reduceCtorEq,if_pos,List.append_nil,w64,↓RS,RG,reduceAdd,reduceMul,reduceLeDiff,ty7,ty13,ty15,tyint,ty21,ty28]
   refine CallR.pc (both_pc ht.in_ (hfit b hbm).in_) rfl (.inl rfl) ?_
   simp (disch := omega) only [↓RU,RV,RH,↓reduceIte,reduceEqDiff,reduceCtorEq,if_pos,List.append_nil,w64,↓RS,RG,reduceAdd,reduceMul,reduceLeDiff,ty7,ty13,ty15,tyint,ty21,ty28,pEq_rect,Option.map_some]
   refine hK _ _ ?_;clear hK K
   refine W.cond rfl (fun h1 => ?_) (fun h1 => ?_)
   ·try simp only [RL] at h1
    exact absurd h1 (by simp [hd])
   ·try simp only [RL] at h1
    refine W.skip ?_
    refine XbN ?_
    refine xn ?_
    refine W.k fun K hK => ?_
    simp (disch := omega) only [↓RU,RV,RH,↓reduceIte,reduceEqDiff,reduceCtorEq,if_pos,w64,↓RS,RG,reduceAdd,reduceMul,reduceLeDiff,tyint]
    refine hK _ _ ?_;clear hK K
    refine xn ?_
    have hnx : rmsTo rs t (i + 1) = l := by rw [rmsTo_succ hb,hl,if_neg hd] <;> rfl
    refine ⟨rs.length - (i + 1),by omega,2,[],[.ref 0 0 0,eRects rs,.int .i64 rs.length,.int .i64 ((i + 1 : Nat) : Int),slO (rmsTo rs t (i + 1)) v],stO (.arr 0 57 5 [eFloor g rs,.int .i64 t.row,.int .i64 t.col,.int .i64 t.high,.int .i64 t.wide]) (rmsTo rs t (i + 1)) v (tk + 2),?_,?_,i + 1,v,(tk + 2),rfl,by omega,rfl,rfl⟩
    ·rw [hnx]; simp [-List.mapM_map,Env.put,Env.of,argEnv,Srn_eq,rnObs_cons,rnObs_nil,rnOb_arr,rnOb_map,rn_loc,rn_ref,rn_mp,rn_int,rn_bool,rn_str,rn_ip,rn_sl,rn_nils,rn_nilp,rn_undef,rn_agg,rn_tup,rn_fn,rfq_loc,rfq_int,rfq_bool,rfq_str,rfq_sl,frOf,List.range_succ,List.mapM_append,List.mapM_cons,slO_ne hw]
    ·rw [hnx]; simp [-List.mapM_map,Env.put,Env.of,argEnv,Srn_eq,rnObs_cons,rnObs_nil,rnOb_arr,rnOb_map,rn_loc,rn_ref,rn_mp,rn_int,rn_bool,rn_str,rn_ip,rn_sl,rn_nils,rn_nilp,rn_undef,rn_agg,rn_tup,rn_fn,rfq_loc,rfq_int,rfq_bool,rfq_str,rfq_sl,frOf,List.range_succ,List.mapM_append,List.mapM_cons,stO_ne hw,rn_ints,Rect.cells]
  ·skip
   rw [slO_nil,stO_nil]
   simp (disch := omega) only [↓RU,RV,RH,↓reduceIte,reduceEqDiff,reduceCtorEq,if_pos,↓RS,RG,reduceAdd,reduceMul,reduceLeDiff,ty3,ty15,tyint,ty28,hbr,rcs_len,Rect.cells]
   refine hK _ _ ?_;clear hK K
   refine W.seq_draw (by kernel_rfl) fun K hK => ?_
   simp (disch := omega) only [↓RU,RV,RH,↓reduceIte,reduceEqDiff,reduceCtorEq,if_pos,List.append_nil,w64,↓RS,RG,reduceAdd,reduceMul,reduceLeDiff,ty7,ty13,ty15,tyint,ty21,ty28]
   refine CallR.pc (both_pc ht.in_ (hfit b hbm).in_) rfl (.inl rfl) ?_
   simp (disch := omega) only [↓RU,RV,RH,↓reduceIte,reduceEqDiff,reduceCtorEq,if_pos,List.append_nil,w64,↓RS,RG,reduceAdd,reduceMul,reduceLeDiff,ty7,ty13,ty15,tyint,ty21,ty28,pEq_rect,Option.map_some]
   refine hK _ _ ?_;clear hK K
   refine W.cond rfl (fun h1 => ?_) (fun h1 => ?_)
   ·try simp only [RL] at h1
    refine W.k fun K hK => ?_
    simp (disch := omega) only [↓RU,RV,RH,↓reduceIte,reduceEqDiff,reduceCtorEq,if_pos,↓RS,RG,reduceAdd,reduceMul,reduceLeDiff,tyLint,tyint]
    refine hK _ _ ?_;clear hK K
    refine XbN ?_
    refine xn ?_
    refine W.k fun K hK => ?_
    simp (disch := omega) only [↓RU,RV,RH,↓reduceIte,reduceEqDiff,reduceCtorEq,if_pos,w64,↓RS,RG,reduceAdd,reduceMul,reduceLeDiff,tyint]
    refine hK _ _ ?_;clear hK K
    refine xn ?_
    have hnx : rmsTo rs t (i + 1) = [(i : Int)] := by rw [rmsTo_succ hb,hl,if_pos hd] <;> rfl
    refine ⟨rs.length - (i + 1),by omega,1,[3],[.ref 0 0 0,eRects rs,.int .i64 rs.length,.int .i64 ((i + 1 : Nat) : Int),slO (rmsTo rs t (i + 1)) (tk + 3)],stO (.arr 0 57 5 [eFloor g rs,.int .i64 t.row,.int .i64 t.col,.int .i64 t.high,.int .i64 t.wide]) (rmsTo rs t (i + 1)) (tk + 3) (tk + 4),?_,?_,i + 1,(tk + 3),(tk + 4),rfl,by omega,rfl,rfl⟩
    ·rw [hnx]; simp [-List.mapM_map,Env.put,Env.of,argEnv,Srn_eq,rnObs_cons,rnObs_nil,rnOb_arr,rnOb_map,rn_loc,rn_ref,rn_mp,rn_int,rn_bool,rn_str,rn_ip,rn_sl,rn_nils,rn_nilp,rn_undef,rn_agg,rn_tup,rn_fn,rfq_loc,rfq_int,rfq_bool,rfq_str,rfq_sl,frOf,List.range_succ,List.mapM_append,List.mapM_cons,slO_ne]
    ·rw [hnx]; simp [-List.mapM_map,Env.put,Env.of,argEnv,Srn_eq,rnObs_cons,rnObs_nil,rnOb_arr,rnOb_map,rn_loc,rn_ref,rn_mp,rn_int,rn_bool,rn_str,rn_ip,rn_sl,rn_nils,rn_nilp,rn_undef,rn_agg,rn_tup,rn_fn,rfq_loc,rfq_int,rfq_bool,rfq_str,rfq_sl,frOf,List.range_succ,List.mapM_append,List.mapM_cons,stO_ne,rn_rcs,Rect.cells]
   ·try simp only [RL] at h1
    exact absurd h1 (by simp [hd])
  ·skip
   rw [slO_ne hw,stO_ne hw]
   simp (disch := omega) only [↓RU,RV,RH,↓reduceIte,reduceEqDiff,reduceCtorEq,if_pos,↓RS,RG,reduceAdd,reduceMul,reduceLeDiff,ty3,ty15,tyint,ty28,hbr,rcs_len,Rect.cells]
   refine hK _ _ ?_;clear hK K
   refine W.seq_draw (by kernel_rfl) fun K hK => ?_
   simp (disch := omega) only [↓RU,RV,RH,↓reduceIte,reduceEqDiff,reduceCtorEq,if_pos,List.append_nil,w64,↓RS,RG,reduceAdd,reduceMul,reduceLeDiff,ty7,ty13,ty15,tyint,ty21,ty28]
   refine CallR.pc (both_pc ht.in_ (hfit b hbm).in_) rfl (.inl rfl) ?_
   simp (disch := omega) only [↓RU,RV,RH,↓reduceIte,reduceEqDiff,reduceCtorEq,if_pos,List.append_nil,w64,↓RS,RG,reduceAdd,reduceMul,reduceLeDiff,ty7,ty13,ty15,tyint,ty21,ty28,pEq_rect,Option.map_some]
   refine hK _ _ ?_;clear hK K
   refine W.cond rfl (fun h1 => ?_) (fun h1 => ?_)
   ·try simp only [RL] at h1
    refine W.k fun K hK => ?_
    simp (disch := omega) only [↓RU,RV,RH,↓reduceIte,reduceEqDiff,reduceCtorEq,if_pos,↓RS,RG,reduceAdd,reduceMul,reduceLeDiff,tyLint,tyint]
    refine hK _ _ ?_;clear hK K
    refine XbN ?_
    refine xn ?_
    refine W.k fun K hK => ?_
    simp (disch := omega) only [↓RU,RV,RH,↓reduceIte,reduceEqDiff,reduceCtorEq,if_pos,w64,↓RS,RG,reduceAdd,reduceMul,reduceLeDiff,tyint]
    refine hK _ _ ?_;clear hK K
    refine xn ?_
    have hnx : rmsTo rs t (i + 1) = l ++ [(i : Int)] := by rw [rmsTo_succ hb,hl,if_pos hd] <;> rfl
    refine ⟨rs.length - (i + 1),by omega,2,[],[.ref 0 0 0,eRects rs,.int .i64 rs.length,.int .i64 ((i + 1 : Nat) : Int),slO (rmsTo rs t (i + 1)) (tk + 2)],stO (.arr 0 57 5 [eFloor g rs,.int .i64 t.row,.int .i64 t.col,.int .i64 t.high,.int .i64 t.wide]) (rmsTo rs t (i + 1)) (tk + 2) (tk + 4),?_,?_,i + 1,(tk + 2),(tk + 4),rfl,by omega,rfl,rfl⟩
    ·rw [hnx]; simp [-List.mapM_map,Env.put,Env.of,argEnv,Srn_eq,rnObs_cons,rnObs_nil,rnOb_arr,rnOb_map,rn_loc,rn_ref,rn_mp,rn_int,rn_bool,rn_str,rn_ip,rn_sl,rn_nils,rn_nilp,rn_undef,rn_agg,rn_tup,rn_fn,rfq_loc,rfq_int,rfq_bool,rfq_str,rfq_sl,frOf,List.range_succ,List.mapM_append,List.mapM_cons,slO_ne (l := l ++ [(i : Int)]) (by simp)]
    ·rw [hnx]; simp [-List.mapM_map,Env.put,Env.of,argEnv,Srn_eq,rnObs_cons,rnObs_nil,rnOb_arr,rnOb_map,rn_loc,rn_ref,rn_mp,rn_int,rn_bool,rn_str,rn_ip,rn_sl,rn_nils,rn_nilp,rn_undef,rn_agg,rn_tup,rn_fn,rfq_loc,rfq_int,rfq_bool,rfq_str,rfq_sl,frOf,List.range_succ,List.mapM_append,List.mapM_cons,stO_ne (l := l ++ [(i : Int)]) (by simp),rn_ints,Rect.cells]
   ·try simp only [RL] at h1
    exact absurd h1 (by simp [hd])
 ·try simp only [RL] at h
  obtain rfl : rs.length = i := by omega
  refine W.exit ?_
  refine xe ?_
  refine xe ?_
  refine XBlock.hit ?_
  refine xn ?_
  refine W.r fun K hK => ?_
  simp (disch := omega) only [↓RU,RV,RH,↓reduceIte,reduceEqDiff,reduceCtorEq,if_pos,↓RS,RG,reduceAdd,reduceMul,reduceLeDiff]
  refine hK _ _ ?_;clear hK K
  refine W.ret ?_
  refine Br rfl ?_
  exact reify_slO
theorem through_pc {g : List (List Int)} {nh nw : Nat} (hg : GW g nh nw) (rs : List Rect) {t : Pt} (ht : t.In nh nw) {level : Bool} {line : Nat} (hl1 : 1 ≤ line) (hl2 : if level then line < nh else line < nw) : PC Tryz.prog 141 [ePart g rs t.rect,.bool level,.int .i64 line] (.bool (thG g t level line)) true := by
 obtain ⟨t1,t2,t3,t4⟩ := ht
 have hgg := hg
 obtain ⟨g1,g2,g3,g4⟩ := hg.2.2
 obtain ⟨fr,hfr⟩ : ∃ fr : Nat,(if level then t.c else t.r) = fr := ⟨_,rfl⟩
 obtain ⟨lg,hlg⟩ : ∃ lg : Nat,(if level then t.w else t.h) = lg := ⟨_,rfl⟩
 have hth : thG g t level line = (List.range lg).all fun j => difG g level line (fr + j) := by subst hfr hlg; cases level <;> rfl
 have hin : ∀ j,j < lg → InL nh nw level line (fr + j) := by subst hfr hlg; intro j hj; refine ⟨hl1,?_⟩; cases level <;> simp at hj hl2 ⊢ <;> omega
 have hb : fr ≤ 6 ∧ lg ≤ 6 := by subst hfr hlg; cases level <;> simp <;> omega
 have hln : line ≤ 6 := by cases level <;> simp at hl2 <;> omega
 simp only [Pt.rect,ePart,Rect.cells]
 refine PC.of ⟨Tryz.func141,by kernel_rfl,rfl,by kernel_rfl⟩ tabOk mixed (by show 3 ≤ Tryz.f141.ntmps; decide) ?_
 refine W.r fun K hK => ?_
 simp (disch := omega) only [↓RU,RV,RH,↓reduceIte,reduceEqDiff,reduceCtorEq,if_pos,↓RS,RG,reduceAdd,reduceMul,reduceLeDiff,ty7,ty13,ty15,tyint,ty21,ty28]
 refine hK _ _ ?_;clear hK K
 refine W.seq_draw (by kernel_rfl) fun K hK => ?_
 simp (disch := omega) only [↓RU,RV,RH,↓reduceIte,reduceEqDiff,reduceCtorEq,if_pos,↓RS,RG,reduceAdd,reduceMul,reduceLeDiff,ty7,ty13,ty15,tyint,ty21,ty28]
 refine hK _ _ ?_;clear hK K
 refine W.join [3,1,2,7,8] (fun vs S => vs = [.ref 0 0 0,.bool level,.int .i64 line,.int .i64 fr,.int .i64 lg] ∧ S = ⟨[.arr 0 57 5 [eFloor g rs,.int .i64 t.r,.int .i64 t.c,.int .i64 t.h,.int .i64 t.w]],1⟩) ?_ ?_
 ·
  refine W.r fun K hK => ?_
  simp (disch := omega) only [↓RU,RV,RH,↓reduceIte,reduceEqDiff,reduceCtorEq,if_pos,↓RS,RG,reduceAdd,reduceMul,reduceLeDiff]
  refine hK _ _ ?_;clear hK K
  refine W.cond rfl (fun h0 => ?_) (fun h0 => ?_)
  ·try simp only [RL] at h0
   refine W.draw_k (by kernel_rfl) fun K hK => ?_
   simp (disch := omega) only [↓RU,RV,RH,↓reduceIte,reduceEqDiff,reduceCtorEq,if_pos,↓RS,RG,reduceAdd,reduceMul,reduceLeDiff,ty7,ty13,ty15,tyint,ty21,ty28]
   refine hK _ _ ?_;clear hK K
   refine xn ?_
   refine ⟨1,?_,rfl⟩
   simp only [h0,if_true,Bool.false_eq_true,if_false] at hfr hlg
   subst hfr hlg h0
   simp [Env.put,Env.of,argEnv]
  ·try simp only [RL] at h0
   refine W.skip ?_
   refine xn ?_
   refine ⟨1,?_,rfl⟩
   simp only [h0,if_true,Bool.false_eq_true,if_false] at hfr hlg
   subst hfr hlg h0
   simp [Env.put,Env.of,argEnv]
 rintro vs S - ⟨rfl,rfl⟩
 refine W.seq ?_
 refine W.r fun K hK => ?_
 simp (disch := omega) only [↓RU,RV,RH,↓reduceIte,reduceEqDiff,reduceCtorEq,if_pos,↓RS,RG,reduceAdd,reduceMul,reduceLeDiff]
 refine hK _ _ ?_;clear hK K
 refine W.block ?_
 refine W.loop [3,1,2,7,8,9] (fun n vs S => ∃ i : Nat,n = lg - i ∧ i ≤ lg ∧ (∀ j,j < i → difG g level line (fr + j) = true) ∧ vs = [.ref 0 0 0,.bool level,.int .i64 line,.int .i64 fr,.int .i64 lg,.int .i64 ((fr + i : Nat) : Int)] ∧ S = ⟨[.arr 0 57 5 [eFloor g rs,.int .i64 t.r,.int .i64 t.c,.int .i64 t.h,.int .i64 t.w]],1⟩) (lg) ?_ ?_
 ·refine ⟨1,0,rfl,Nat.zero_le _,(fun j hj => by omega),?_,rfl⟩
  simp [Env.put,Env.of,argEnv]
 rintro n vs S - ⟨i,rfl,h_i,hall,rfl,rfl⟩
 refine W.seq ?_
 refine W.r fun K hK => ?_
 simp (disch := omega) only [↓RU,RV,RH,↓reduceIte,reduceEqDiff,reduceCtorEq,if_pos,w64,↓RS,RG,reduceAdd,reduceMul,reduceLeDiff,tyint]
 refine hK _ _ ?_;clear hK K
 refine W.cond rfl (fun h1 => ?_) (fun h1 => ?_)
 ·try simp only [RL] at h1
  refine W.skip ?_
  refine xn ?_
  refine W.seq ?_
  refine W.block ?_
  refine W.r fun K hK => ?_
  have hin2 := hin i (by omega)
  simp (disch := omega) only [↓RU,RV,RH,↓reduceIte,reduceEqDiff,reduceCtorEq,if_pos,List.append_nil,↓RS,RG,reduceAdd,reduceMul,reduceLeDiff,ty7,ty13,ty15,tyint,ty21,ty28]
  refine CallR.pc (differ_pc hgg rs hin2) rfl (.inl rfl) ?_
  simp (disch := omega) only [↓RU,RV,RH,↓reduceIte,reduceEqDiff,reduceCtorEq,if_pos,List.append_nil,↓RS,RG,reduceAdd,reduceMul,reduceLeDiff,ty7,ty13,ty15,tyint,ty21,ty28]
  refine hK _ _ ?_;clear hK K
  refine W.cond rfl (fun h2 => ?_) (fun h2 => ?_)
  ·try simp only [RL] at h2
   refine W.r fun K hK => ?_
   simp (disch := omega) only [↓RU,RV,RH,↓reduceIte,reduceEqDiff,reduceCtorEq,if_pos,↓RS,RG,reduceAdd,reduceMul,reduceLeDiff]
   refine hK _ _ ?_;clear hK K
   refine W.ret ?_
   refine XBlock.ret ?_
   refine XThen.ret ?_
   refine XThen.ret ?_
   refine XBlock.ret ?_
   refine XThen.ret ?_
   refine Br rfl ?_
   rw [hth,show ((List.range lg).all fun j => difG g level line (fr + j)) = false from by rw [List.all_eq_false]; exact ⟨i,List.mem_range.2 (by omega),by simpa using h2⟩]
   rfl
  ·try simp only [RL] at h2
   refine W.skip ?_
   refine XbN ?_
   refine xn ?_
   refine W.k fun K hK => ?_
   simp (disch := omega) only [↓RU,RV,RH,↓reduceIte,reduceEqDiff,reduceCtorEq,if_pos,w64,↓RS,RG,reduceAdd,reduceMul,reduceLeDiff,tyint]
   refine hK _ _ ?_;clear hK K
   refine xn ?_
   refine ⟨lg - (i + 1),by omega,1,i + 1,rfl,by omega,(fun j hj => by rcases Nat.lt_succ_iff_lt_or_eq.1 hj with h | rfl; exact hall j h; simpa using h2),?_,rfl⟩
   simp [Env.put,Env.of]; omega
 ·try simp only [RL] at h1
  refine W.exit ?_
  refine xe ?_
  refine xe ?_
  refine XBlock.hit ?_
  refine xn ?_
  refine W.r fun K hK => ?_
  simp (disch := omega) only [↓RU,RV,RH,↓reduceIte,reduceEqDiff,reduceCtorEq,if_pos,↓RS,RG,reduceAdd,reduceMul,reduceLeDiff]
  refine hK _ _ ?_;clear hK K
  refine W.ret ?_
  refine Br rfl ?_
  rw [hth,show ((List.range lg).all fun j => difG g level line (fr + j)) = true from by rw [List.all_eq_true]; intro j hj; exact hall j (by have := List.mem_range.1 hj; omega)]
  rfl
theorem whole_pc {g : List (List Int)} {row : List Int} (h : g[0]? = some row) (rs : List Rect) : PC Tryz.prog 35 [eFloor g rs] (ePart g rs ⟨0,0,g.length,row.length⟩) false := by
 refine PC.of ⟨Tryz.func35,by kernel_rfl,rfl,by kernel_rfl⟩ tabOk mixed (by show 1 ≤ Tryz.f35.ntmps; decide) ?_
 refine W.r fun K hK => ?_
 simp (disch := omega) only [↓RU,RV,RH,↓reduceIte,reduceEqDiff,reduceCtorEq,if_pos,↓RS,RG,reduceAdd,reduceMul,reduceLeDiff,ty7,ty13,ty15,tyint,ty21,ty28]
 refine hK _ _ ?_;clear hK K
 refine W.r fun K hK => ?_
 simp (disch := omega) only [↓RU,RV,RH,↓reduceIte,reduceEqDiff,reduceCtorEq,if_pos,List.append_nil,↓RS,RG,reduceAdd,reduceMul,reduceLeDiff,ty7,ty13,ty15,tyint,ty21,ty28,eFloor_def]
 refine CallR.pc (high_pc g rs) rfl (.inl rfl) ?_
 simp (disch := omega) only [↓RU,RV,RH,↓reduceIte,reduceEqDiff,reduceCtorEq,if_pos,List.append_nil,↓RS,RG,reduceAdd,reduceMul,reduceLeDiff,ty7,ty13,ty15,tyint,ty21,ty28,eFloor_def]
 refine CallR.pc (wide_pc h rs) rfl (.inl rfl) ?_
 simp (disch := omega) only [↓RU,RV,RH,↓reduceIte,reduceEqDiff,reduceCtorEq,if_pos,List.append_nil,↓RS,RG,reduceAdd,reduceMul,reduceLeDiff,ty7,ty13,ty15,tyint,ty21,ty28,eFloor_def]
 refine hK _ _ ?_;clear hK K
 refine W.ret ?_
 refine Br rfl ?_
 rw [show (tab 57).size = 5 by kernel_rfl]
 rfl
theorem cuts_pc (g : List (List Int)) (rs : List Rect) (t : Rect) : PC Tryz.prog 111 [ePart g rs t] (.fn 140 [.ip (eFloor g rs :: t.cells) 0]) false := by
 simp only [ePart,Rect.cells]
 refine PC.of ⟨Tryz.func111,by kernel_rfl,rfl,by kernel_rfl⟩ tabOk mixed (by show 1 ≤ Tryz.f111.ntmps; decide) ?_
 refine W.r fun K hK => ?_
 simp (disch := omega) only [↓RU,RV,RH,↓reduceIte,reduceEqDiff,reduceCtorEq,if_pos,↓RS,RG,reduceAdd,reduceMul,reduceLeDiff,ty7,ty13,ty15,tyint,ty21,ty28]
 refine hK _ _ ?_;clear hK K
 refine W.r fun K hK => ?_
 simp (disch := omega) only [↓RU,RV,RH,↓reduceIte,reduceEqDiff,reduceCtorEq,if_pos,↓RS,RG,reduceAdd,reduceMul,reduceLeDiff]
 refine hK _ _ ?_;clear hK K
 refine W.ret ?_
 refine Br rfl ?_
 rfl
section
structure LoopR (ps : Array Tmp) (asg body : Code) (r : Loop) : Prop where
 hps : r.params = ps
 hasg : r.assign = asg
 hbody : r.body = body
 dps : ∀ t ∈ ps.toList,t < r.tmps.size
 dasg : dstOk r.tmps.size asg = true
 dbody : dstOk r.tmps.size body = true
def Env.puts : List (Nat × PV) → Env → Env
 | [],e => e
 | (t,v) :: r,e => Env.puts r (e.put (some t) v)
section
variable {P : Program} {T : Tab} {Q Q' : Exit → Env → Store → Prop} {e : Env} {S : Store} {a b c : Code} {F : Nat → Prop} {G : GSt} {w : World}
theorem envR_puts {ds : List Deferred} : ∀ (ps : List Nat) (xs : List PV) (cs : List Value) (e : Env) (t : Array Value),EnvR w.heap F G e ⟨t,ds⟩ → (∀ p ∈ ps,p < t.size) → xs.length = cs.length →
  (∀ (i : Nat) p c,xs[i]? = some p → cs[i]? = some c → VR w.heap F G p c) →
  EnvR w.heap F G (Env.puts (ps.zip xs) e) ⟨(ps.zip cs).foldl (fun t (q : Nat × Value) => t.setIfInBounds q.1 q.2) t,ds⟩
 | [],xs,cs,e,t,he,_,_,_ => by simpa [Env.puts] using he
 | p :: ps,[],[],e,t,he,_,_,_ => by simpa [Env.puts] using he
 | p :: ps,x :: xs,c :: cs,e,t,he,hp,hl,hv => by
  simp only [List.zip_cons_cons,Env.puts,List.foldl_cons]
  refine envR_puts ps xs cs _ _ ?_ ?_ (by simpa using hl) fun i p c q1 q2 => hv (i + 1) p c (by simpa using q1) (by simpa using q2)
  ·have := he.put (a := ⟨t,ds⟩) (some p) (v := x) (cv := c) (fun t' ht => by cases ht; exact hp p (by simp)) (hv 0 x c rfl rfl)
   exact this
  ·intro q hq
   have := hp q (by simp [hq])
   simpa using this
 | p :: ps,[],c :: cs,_,_,_,_,hl,_ => by simp at hl
 | p :: ps,x :: xs,[],_,_,_,_,hl,_ => by simp at hl
theorem foldl_size (l : List (Nat × Value)) (t : Array Value) : (l.foldl (fun t (q : Nat × Value) => t.setIfInBounds q.1 q.2) t).size = t.size := by
 induction l generalizing t with
 | nil => rfl
 | cons q l ih => simp [ih]
theorem put_lp (hi : Inv F G w) {o ver l : Nat} {r : Loop × List Nat} {tm : List PV} {lc : Lc} (ho : G.obs[o]? = some (.lp ver l r tm,lc)) (s : LoopState) (pe : Option Code) :
  ∃ t : Array Value,w.heap[l]? = some (.loop { r.1 with tmps := t }) ∧
   Inv F ⟨G.obs.set o (.lp ver l ({ r.1 with state := s,pending := pe },r.2) tm,lc),G.tick⟩ (w.putObj l (.loop { r.1 with tmps := t,state := s,pending := pe })) ∧
   Next F G w F ⟨G.obs.set o (.lp ver l ({ r.1 with state := s,pending := pe },r.2) tm,lc),G.tick⟩ (w.putObj l (.loop { r.1 with tmps := t,state := s,pending := pe })) := by
 obtain ⟨h0,t,h1,h2,h3⟩ := hi.lp o ver l r tm lc ho
 have hlt := (Array.getElem?_eq_some_iff.1 h1).1
 refine ⟨t,h1,put_obj hi ho _ lc G.tick _ rfl rfl rfl (Nat.le_refl _) (by simp) (.inl rfl) (fun b hb hne => World.putObj_heap_other (by rw [← h0]; exact hne)) (Nat.le_refl _) (show Ob.ver (.lp ver l r tm) < G.tick from hi.ver o _ lc ho)
  (.inl ⟨rfl,trivial,rfl⟩) ⟨h0,t,World.putObj_heap_same hlt,h2,h3⟩⟩
def RoundQ (o l : Nat) (J : PV → Store → Prop) : Exit → Env → Store → Prop
 | .normal,_,S => ∃ ver r L tm k,S.obs[o]? = some (.lp ver l (r,L) tm) ∧ J (.bool true) (Store.take ⟨S.obs.set o (.lp ver l ({ r with state := .ready,pending := none },L) tm),S.tick⟩ k)
 | .ret,_,S => ∃ ver r L tm k,S.obs[o]? = some (.lp ver l (r,L) tm) ∧ J (.bool false) (Store.take ⟨S.obs.set o (.lp ver l ({ r with state := .done,pending := some .ret },L) tm),S.tick⟩ k)
 | .exit id,_,S => ∃ ver r L tm k,S.obs[o]? = some (.lp ver l (r,L) tm) ∧ J (.bool false) (Store.take ⟨S.obs.set o (.lp ver l ({ r with state := .done,pending := some (.exit id) },L) tm),S.tick⟩ k)
 | _,_,_ => False
theorem VR.bool_of {H : Array Obj} {b : Bool} : VR H F G (.bool b) (.bool b) := .imm _ _ (.bool b)
theorem Ey.of (hT : TabOk P T) (hm : P.follows .mixedOrders = true) {l o ver : Nat} {r : Loop} {L : List Nat} {tm xs : List PV} {ps : Array Tmp} {asg body : Code} {J : PV → Store → Prop}
  (ho : S.obs[o]? = some (.lp ver l (r,L) tm)) (hr : LoopR ps asg body r) (hst : r.state = .ready) (hps : ps.size = xs.length)
  (hw : W P T asg (XThen (fun e1 S1 => ∃ ver1 r1 L1 tm1,S1.obs[o]? = some (.lp ver1 l (r1,L1) tm1) ∧ r1.state = .ready ∧
   W P T body (RoundQ o l J) e1 ⟨S1.obs.set o (.lp ver1 l ({ r1 with state := .busy,pending := r1.pending },L1) tm1),S1.tick⟩) (fun _ _ _ => False)) (Env.puts (ps.toList.zip xs) (Env.of L tm)) S) :
  Ey P l xs S J := by
 refine ⟨fun F G w cargs hS hi hl hv => ?_⟩
 subst hS
 obtain ⟨lc,hG⟩ := er_get ho
 obtain ⟨h0,t,h1,⟨h2,h2'⟩,h3⟩ := hi.lp o ver l (r,L) tm lc hG
 simp only at h1 h2 h2' h3
 refine ⟨_,_,_,_,run_yield h1 (by simp only; rw [hr.hps]; omega),fun R nn => ?_⟩
 refine roundIn_of_wpIn trivial ?_
 simp only
 have hE : EnvR w.heap F G (Env.puts (ps.toList.zip xs) (Env.of L tm)) ⟨(ps.toList.zip cargs.toList).foldl (fun t (q : Nat × Value) => t.setIfInBounds q.1 q.2) t,[]⟩ :=
  envR_puts _ _ _ _ _ (of_envZ L tm h2'.symm fun i j v q1 q2 => h3 i v j q2 q1) (fun p hp => Nat.lt_of_lt_of_eq (hr.dps p hp) h2.symm) (by simpa using hl) (fun i p c q1 q2 => hv i p c q1 (by simpa using q2))
 have hsz : ((ps.toList.zip cargs.toList).foldl (fun t (q : Nat × Value) => t.setIfInBounds q.1 q.2) t).size = r.tmps.size := by rw [foldl_size]; exact h2
 have hfold : (r.params.zip cargs).foldl (fun tmps (x : Nat × Value) => tmps.setIfInBounds x.1 x.2) t = (ps.toList.zip cargs.toList).foldl (fun t (q : Nat × Value) => t.setIfInBounds q.1 q.2) t := by
  rw [hr.hps,← Array.foldl_toList,Array.toList_zip]
 show (r.assign).wpIn (fnc (some l)) _ P _ { tmps := (r.params.zip cargs).foldl (fun tmps (x : Nat × Value) => tmps.setIfInBounds x.1 x.2) t,defers := [] } w
 rw [hfold,hr.hasg,hr.hbody]
 refine wpIn_mono (hw.run hT hm F G w r.tmps.size F G _ w rfl hi hE (Next.refl w) hsz Marks.nil hr.dasg) ?_
 rintro x a1 w1 ⟨e1,F1,G1,k1,k2,k3,k4,k5,k6⟩
 cases x with
 | normal =>
  obtain ⟨ver1,r1,L1,tm1,g1,g2,g3⟩ := k1
  obtain ⟨lc1,hG1⟩ := er_get g1
  obtain ⟨t1,q1,q2,q3⟩ := put_lp k2 hG1 .busy r1.pending
  refine ⟨_,run_beginRound q1 g2,?_⟩
  refine wpIn_mono (g3.run hT hm F G w r.tmps.size F1 _ a1 _ (er_set G1 o _ lc1 G1.tick) q2 (k3.next k2 q3) (k4.trans q3) k5 (k6.next k2 q3) hr.dbody) ?_
  have fin : ∀ {F2 : Nat → Prop} {G2 : GSt} {w2 : World} {v : Bool} {s : LoopState} {pe : Option Code} {ver2 : Nat} {r2 : Loop} {L2 : List Nat} {tm2 : List PV} {k : Nat},Inv F2 G2 w2 → Next F G w F2 G2 w2 →
    s = (if pe.isNone then .ready else .done) → v = pe.isNone → G2.er.obs[o]? = some (.lp ver2 l (r2,L2) tm2) →
    J (.bool v) (Store.take ⟨G2.er.obs.set o (.lp ver2 l ({ r2 with state := s,pending := pe },L2) tm2),G2.er.tick⟩ k) →
    ∃ cv w3,(Instr.endRound l pe).run P w2 = .ok cv w3 ∧ ∃ v cv' F' G',Ending.returned cv = .returned cv' ∧ J v G'.er ∧ Inv F' G' w3 ∧ Next F G w F' G' w3 ∧ VR w3.heap F' G' v cv' := by
   intro F2 G2 w2 v s pe ver2 r2 L2 tm2 k i2 n2 hs hv2 hg hJ
   obtain ⟨lc2,hG2⟩ := er_get hg
   obtain ⟨t2,p1,p2,p3⟩ := put_lp i2 hG2 s pe
   obtain ⟨i3,n3⟩ := take_next p2 k
   have hrun := run_endRound (P := P) pe p1
   rw [← hs] at hrun
   refine ⟨_,_,hrun,.bool v,_,F2,GSt.take ⟨G2.obs.set o (.lp ver2 l ({ r2 with state := s,pending := pe },L2) tm2,lc2),G2.tick⟩ k,rfl,?_,i3,(n2.trans p3).trans n3,by rw [← hv2]; exact VR.bool_of⟩
   rw [take_er,er_set]; exact hJ
  rintro x a2 w2 ⟨e2,F2,G2,j1,j2,j3,j4,j5,j6⟩
  cases x with
  | normal => obtain ⟨ver2,r2,L2,tm2,k,f1,f2⟩ := j1; exact fin j2 j4 rfl rfl f1 f2
  | ret => obtain ⟨ver2,r2,L2,tm2,k,f1,f2⟩ := j1; exact fin j2 j4 rfl rfl f1 f2
  | exit id => obtain ⟨ver2,r2,L2,tm2,k,f1,f2⟩ := j1; exact fin j2 j4 rfl rfl f1 f2
  | _ => exact j1.elim
 | _ => exact k1.elim
structure V (P : Program) (T : Tab) (c : Code) (Q : Exit → Env → Store → Prop) (e : Env) (S : Store) : Prop where
 run : TabOk P T → P.follows .mixedOrders = true → ∀ (F0 : Nat → Prop) (G0 : GSt) (w0 : World) (N : Nat) (F : Nat → Prop) (G : GSt) (a : Act) (w : World),G.er = S → Inv F G w → EnvR w.heap F G e a →
  Next F0 G0 w0 F G w → a.tmps.size = N → Marks w0 a.defers w → dstOk N c = true → c.wpIn (fnc none) 0 P (Sto F0 G0 w0 N Q) a w
theorem W.v (h : W P T c Q e S) : V P T c Q e S := ⟨fun h1 h2 F0 G0 w0 N F G a w h3 h4 h5 h6 h7 h8 h9 => h.run h1 h2 F0 G0 w0 N F G a w h3 h4 h5 h6 h7 h8 h9⟩
theorem V.mono (h : V P T c Q e S) (k : ∀ x e S,Q x e S → Q' x e S) : V P T c Q' e S :=
 ⟨fun h1 h2 F0 G0 w0 N F G a w h3 h4 h5 h6 h7 h8 h9 => wpIn_mono (h.run h1 h2 F0 G0 w0 N F G a w h3 h4 h5 h6 h7 h8 h9) fun _ _ _ => Sto.mono k⟩
theorem V.seq (h : V P T a (XThen (V P T b Q) Q) e S) : V P T (.seq a b) Q e S := by
 refine ⟨?_⟩
 intro hT hm F0 G0 w0 N F G a w h3 h4 h5 h6 h7 h8 h9
 simp only [dstOk,Bool.and_eq_true] at h9
 refine wpIn_seq (wpIn_mono (h.run hT hm F0 G0 w0 N F G a w h3 h4 h5 h6 h7 h8 h9.1) ?_)
 rintro x a' w' ⟨e',F',G',k1,k2,k3,k4,k5,k6⟩
 cases x with
 | normal => exact k1.run hT hm F0 G0 w0 N F' G' a' w' rfl k2 k3 k4 k5 k6 h9.2
 | _ => exact ⟨e',F',G',k1,k2,k3,k4,k5,k6⟩
theorem V.seq_region {id : Nat} {l : List Oper} (h : ∀ K : Env → Store → Prop,(∀ e S,V P T b Q e S → K e S) → eRun false P T (dsts l) l e S K) : V P T (.seq (.region id l.toArray false) b) Q e S :=
 V.seq (W.v (W.k fun K hK => h K hK))
theorem V.seq_draw {id : Nat} {l : List Oper} (hc : canonOk l.toArray (List.range' 0 l.length) (effIdx l 0) [] = true) (h : ∀ K : Env → Store → Prop,(∀ e S,V P T b Q e S → K e S) → eRun true P T (dsts l) l e S K) :
  V P T (.seq (.region id l.toArray true) b) Q e S :=
 V.seq (W.v (W.draw_k hc fun K hK => h K hK))
theorem V.cond {x : Operand} {t : Bool} (hc : e.ev x = .bool t) (h1 : t = true → V P T a Q e S) (h2 : t = false → V P T b Q e S) : V P T (.cond x a b) Q e S := by
 refine ⟨?_⟩
 intro hT hm F0 G0 w0 N F G a w h3 h4 h5 h6 h7 h8 h9
 simp only [dstOk,Bool.and_eq_true] at h9
 have := h5.ev x
 rw [hc] at this
 exact wpIn_cond_split this.bool (fun ht => (h1 ht).run hT hm F0 G0 w0 N F G a w h3 h4 h5 h6 h7 h8 h9.1) (fun ht => (h2 ht).run hT hm F0 G0 w0 N F G a w h3 h4 h5 h6 h7 h8 h9.2)
theorem V.block {id : Nat} (h : V P T c (XBlock id Q) e S) : V P T (.block id c) Q e S := by
 refine ⟨?_⟩
 intro hT hm F0 G0 w0 N F G a w h3 h4 h5 h6 h7 h8 h9
 refine wpIn_block (wpIn_mono (h.run hT hm F0 G0 w0 N F G a w h3 h4 h5 h6 h7 h8 h9) ?_)
 rintro x a' w' ⟨e',F',G',k1,k2⟩
 cases x with
 | exit i =>
  simp only [Exit.inBlock]
  simp only [XBlock] at k1
  split
  ·rename_i hi; rw [if_pos hi] at k1; exact ⟨e',F',G',k1,k2⟩
  ·rename_i hi; rw [if_neg hi] at k1; exact ⟨e',F',G',k1,k2⟩
 | _ => exact ⟨e',F',G',k1,k2⟩
def jumpX : Option Code → Option Exit
 | none => some .normal
 | some .ret => some .ret
 | some (.exit id) => some (.exit id)
 | _ => none
theorem alloc_other (hi : Inv F G w) (ob : Obj) : Inv F G (w.alloc ob) ∧ Next F G w F G (w.alloc ob) := by
 have hkeep : ∀ b,b < w.heap.size → (w.alloc ob).heap[b]? = w.heap[b]? := fun b hb => Go.RowKit.Below.heap_alloc w ob b hb
 have hn : Next F G w F G (w.alloc ob) :=
  ⟨rfl,rfl,rfl,by simp,fun _ h => h,fun _ h => .inl h,fun o x h => .inr ⟨o,x,h,rfl⟩,Nat.le_refl _,fun b hb _ => hkeep b hb,fun _ ob' _ h _ => ⟨ob',h,rfl,Ob.like.refl _⟩,Nat.le_refl _⟩
 exact ⟨inv_of (fun b hb => Nat.lt_of_lt_of_le (hi.fr b hb) hn.size) hi.ver hi.nF (fun o ob' l h => (hi.holds h).next hi hn (hkeep _ (hi.blk_lt h))) hi.inj,hn⟩
theorem VR.fn_at {f : FuncId} {cap : List PV} {v : Value} (h : VR w.heap F G (.fn f cap) v) : ∃ vs : Array Value,v = .func (.func f) #[] vs ∧ cap.length = vs.size ∧ ∀ (i : Nat) p c,cap[i]? = some p → vs[i]? = some c → VR w.heap F G p c := by
 cases h with
 | imm _ _ h => cases h with | fn _ _ vs h1 h2 => exact ⟨vs,rfl,h1,fun i p c q1 q2 => .imm _ _ (h2 i p c q1 q2)⟩
 | fn _ _ vs h1 h2 => exact ⟨vs,rfl,h1,h2⟩
theorem V.rangeFunc {g : Operand} {ps : Array Tmp} {asg body : Code} (L : List Nat) {f : FuncId} {cap : List PV} (hg : e.ev g = .fn f cap)
  (h : ∀ (l : Nat) (r : Loop),LoopR ps asg body r → r.state = .ready → r.pending = none → ∃ J,Ev P f (.yl l :: cap) ⟨S.obs ++ [.lp S.tick l (r,L) (L.map e)],S.tick + 1⟩ J ∧
   ∀ v S',J v S' → ∃ ver r' L' tm x,S'.obs[S.obs.length]? = some (.lp ver l (r',L') tm) ∧ r'.state ≠ .busy ∧ jumpX r'.pending = some x ∧ Q x e (S'.take S.obs.length)) :
  V P T (.rangeFunc g ps asg body) Q e S := by
 refine ⟨?_⟩
 intro hT hm F0 G0 w0 N F G a w h3 h4 h5 h6 h7 h8 h9
 subst h3
 simp only [dstOk,Bool.and_eq_true,List.all_eq_true,decide_eq_true_eq] at h9
 obtain ⟨⟨d1,d2⟩,d3⟩ := h9
 refine wpIn_rangeFunc ?_
 intro fn _
 obtain ⟨rec,hrec⟩ : ∃ rec : Loop,rec = { state := .ready,pending := none,fn,tmps := a.tmps,params := ps,assign := asg,body,defers := w.heap.size } := ⟨_,rfl⟩
 obtain ⟨i1,n1⟩ := alloc_other h4 (.deferred (some []))
 obtain ⟨W0,hW0⟩ : ∃ W0,w.alloc (.deferred (some [])) = W0 := ⟨_,rfl⟩
 have hsz : W0.heap.size = w.heap.size + 1 := by rw [← hW0]; simp
 rw [hW0] at i1 n1
 have hdef : W0.heap[w.heap.size]? = some (.deferred (some [])) := by rw [← hW0]; exact World.alloc_heap_new w _
 obtain ⟨W1,hW1⟩ : ∃ W1,W0.alloc (.loop rec) = W1 := ⟨_,rfl⟩
 have hL1 : W1.heap[W0.heap.size]? = some (.loop rec) := by rw [← hW1]; exact World.alloc_heap_new W0 _
 have hhold : Holds W0.heap F G W1.heap (.lp G.tick W0.heap.size (rec,L) (L.map e)) ⟨W0.heap.size,0⟩ := by
  refine ⟨rfl,a.tmps,by rw [hL1,hrec],⟨by rw [hrec],by simp⟩,fun i p j q1 q2 => ?_⟩
  simp only at q2
  rw [List.getElem?_map,q2] at q1
  cases q1
  exact (h5 j).next h4 n1
 obtain ⟨i2,n2⟩ := push_obj i1 (.lp G.tick W0.heap.size (rec,L) (L.map e)) 0 W1 W1.drawn (by rw [← hW1]; rfl) (by rw [← hW1]; exact Nat.le_refl _) ⟨_,by rw [← hW1]; rfl⟩ rfl hhold
 have n12 := n1.trans n2
 have hgv := h5.ev g
 rw [hg] at hgv
 obtain ⟨vs,hge,hvl,hvr⟩ := hgv.fn_at
 obtain ⟨J,hev,hJ⟩ := h W0.heap.size rec (by rw [hrec]; exact ⟨rfl,rfl,rfl,fun t ht => by rw [h7]; exact d1 t ht,by rw [h7]; exact d2,by rw [h7]; exact d3⟩) (by rw [hrec]) (by rw [hrec])
 refine ⟨w.heap.size + 1,[{ target := .collected w.heap.size,args := #[] }],W1,{ target := .fn (.func f) vs,args := #[.func (.yield (w.heap.size + 1)) #[] #[]] },W1,f,
  #[.func (.yield (w.heap.size + 1)) #[] #[]] ++ vs,W1,?_,?_,fun _ _ => trivial,?_,fun q => (by simp [Fence.wide] at q),?_⟩
 ·rw [← hW1,← hW0,hrec]; exact run_enterLoop_outer _ _ _ _ _
 ·simp only [resolve,hge]
  simp [go_sem]
 ·simp only [invoke]; exact hev.ent _ _
 ·refine callsIn_wide.2 ((hev.run F _ W1 _ (er_push G _ _) i2 (by simp; omega) ?_).mono ?_)
  ·intro i p c q1 q2
   cases i with
   | zero => rw [Array.getElem?_append_left (by simp)] at q2; simp at q1 q2; subst q1; subst q2; rw [hsz]; exact .imm _ _ (.yl _)
   | succ i =>
    simp only [List.getElem?_cons_succ] at q1
    rw [Array.getElem?_append_right (by simp)] at q2
    simp at q2
    exact (hvr i p c q1 q2).next h4 n12
  ·rintro en w2 ⟨v,cv,F2,G2,rfl,j1,j2,j3,j4⟩
   obtain ⟨ver,r',L',tm,x,g1,g2,g3,g4⟩ := hJ v _ j1
   obtain ⟨lc,hG2⟩ := er_get g1
   rw [show (GSt.er G).obs.length = G.obs.length by simp [GSt.er]] at hG2 g4
   obtain ⟨t,p1,p2,p3⟩ := put_lp j2 hG2 .exhausted r'.pending
   obtain ⟨i3,n3⟩ := take_next p2 G.obs.length
   rw [hsz] at p1
   refine ⟨_,_,run_endLoop p1 g2,?_⟩
   have hnx := ((h6.trans n12).trans (j3.trans p3)).trans n3
   have hmk : Marks w0 ([{ target := .collected w.heap.size,args := #[] }] ++ a.defers) (w2.putObj W0.heap.size (.loop { r' with tmps := t,state := .exhausted,pending := r'.pending })) := by
    have m1 := h8.next h4 n12
    have hd1 : W1.heap[w.heap.size]? = some (.deferred (some [])) := (by rw [← hW1]; exact (Go.RowKit.Below.heap_alloc W0 _ _ (by omega)).trans hdef)
    have m2 : Marks w0 ([{ target := .collected w.heap.size,args := #[] }] ++ a.defers) W1 := by
     obtain ⟨bs,b1,b2,b3⟩ := h8
     obtain ⟨bs',c1,c2,c3⟩ := m1
     have hb : bs' = bs := by
      rw [b1] at c1
      have := congrArg (List.map fun d : Deferred => (match d.target with | .collected b => b | _ => 0)) c1
      simpa [List.map_map,Function.comp_def] using this.symm
     subst hb
     refine ⟨w.heap.size :: bs',by rw [b1]; simp,?_,?_⟩
     ·refine List.nodup_cons.2 ⟨fun hm => ?_,b2⟩
      have := (Array.getElem?_eq_some_iff.1 (b3 _ hm).2).1
      omega
     ·intro b hb
      rcases List.mem_cons.1 hb with rfl | hb
      ·exact ⟨h6.size,hd1⟩
      ·exact c3 b hb
    exact (m2.next i2 j3).next j2 p3
   have henv : EnvR (w2.putObj W0.heap.size (.loop { r' with tmps := t,state := .exhausted,pending := r'.pending })).heap F2 (GSt.take ⟨G2.obs.set G.obs.length (.lp ver W0.heap.size ({ r' with state := .exhausted,pending := r'.pending },L') tm,lc),G2.tick⟩ G.obs.length) e { a with defers := [{ target := .collected w.heap.size,args := #[] }] ++ a.defers } :=
    fun k => ((((h5 k).next h4 n12).next i2 j3).next j2 p3).next p2 n3
   have hst : Sto F0 G0 w0 N Q x { a with defers := [{ target := .collected w.heap.size,args := #[] }] ++ a.defers } (w2.putObj W0.heap.size (.loop { r' with tmps := t,state := .exhausted,pending := r'.pending })) := by
    refine ⟨e,F2,_,?_,i3,henv,hnx,h7,hmk⟩
    have : (GSt.take ⟨G2.obs.set G.obs.length (.lp ver W0.heap.size ({ r' with state := .exhausted,pending := r'.pending },L') tm,lc),G2.tick⟩ G.obs.length).er = G2.er.take G.obs.length := by
     simp [GSt.take,GSt.er,Store.take,List.take_set_of_le]
    rw [this]; exact g4
   rw [hsz] at hst
   cases hpe : r'.pending with
   | none => rw [hpe] at g3 hst ; simp only [jumpX] at g3; cases g3; exact hst
   | some c =>
    rw [hpe] at g3 hst
    cases c <;> simp only [jumpX] at g3 <;> cases g3
    ·exact wpIn_exit hst
    ·exact wpIn_ret hst
theorem Fn.callsV {f : FuncId} {fn : Func} (h : Fn P f fn c) (hT : TabOk P T) (hm : P.follows .mixedOrders = true) {args : List PV} {K : PV → Store → Prop} (hn : args.length ≤ fn.ntmps)
  (hw : V P T c (BodyQ T fn.results.toList K) (argEnv args) S) {F : Nat → Prop} {G : GSt} {w : World} {cargs : Array Value} (hS : G.er = S) (hi : Inv F G w) (hl : args.length = cargs.size)
  (hv : ∀ (i : Nat) p c,args[i]? = some p → cargs[i]? = some c → VR w.heap F G p c) :
  Calls P f cargs w fun e w' => ∃ v cv F' G',e = .returned cv ∧ K v G'.er ∧ Inv F' G' w' ∧ Next F G w F' G' w' ∧ VR w'.heap F' G' v cv :=
 h.calls_of hT hn hi hl (hw.run hT hm F G w fn.ntmps F G _ w hS hi (arg_env hl hv _ _) (Next.refl w) (by simp; omega) Marks.nil h.dst)
theorem Ev.ofV {f : FuncId} {fn : Func} (h : Fn P f fn c) (hT : TabOk P T) (hm : P.follows .mixedOrders = true) {args : List PV} {J : PV → Store → Prop} (hn : args.length ≤ fn.ntmps)
  (hw : V P T c (BodyQ T fn.results.toList fun v S1 => ∃ k,J v (S1.take k)) (argEnv args) S) : Ev P f args S J := by
 refine ⟨h.ent,fun F G w cargs hS hi hl hv => (h.callsV hT hm hn hw hS hi hl hv).mono ?_⟩
 rintro en w' ⟨v',cv,F',G',k1,⟨k,k2⟩,k3,k4,k5⟩
 obtain ⟨i1,i2⟩ := take_next k3 k
 exact ⟨v',cv,F',G'.take k,k1,(take_er G' k).symm ▸ k2,i1,k4.trans i2,k5.next k3 i2⟩
theorem PC.ofV {f : FuncId} {fn : Func} (h : Fn P f fn c) (hT : TabOk P T) (hm : P.follows .mixedOrders = true) {args : List PV} {r : PV} {fr : Bool} (hn : args.length ≤ fn.ntmps)
  (hw : V P T c (BodyQ T fn.results.toList fun v S => reify S (!fr) 10 v = some r) (argEnv args) ⟨[],0⟩) : PC P f args r fr := by
 refine ⟨h.ent,fun F w cargs hF hl hv => ?_⟩
 have hi : Inv F ⟨[],0⟩ w := ⟨hF,by simp,by simp,by simp,by simp,by simp,by simp⟩
 refine (h.callsV hT hm hn hw rfl hi hl fun i p c q1 q2 => .imm _ _ (hv i p c q1 q2)).mono ?_
 rintro en w' ⟨v',cv,F',G',rfl,k2,k3,k4,k5⟩
 refine ⟨cv,rfl,⟨⟨k4.os,k4.tape,k4.output,k4.size,fun b hb => k4.keep b hb (by simp)⟩,k4.drawn⟩,(reify_sound k3 k5 k2).mono ?_ (fun _ _ => rfl)⟩
 rintro b (⟨h1,h2⟩ | ⟨o,x,hx,rfl⟩)
 ·rcases k4.fnew b h2 with h3 | h3 | ⟨o,x,hx,_⟩
  ·exact .inr ⟨by simpa using h1,h3⟩
  ·exact .inl ⟨h3,k3.fr b h2⟩
  ·simp at hx
 ·rcases k4.gnew o x hx with h3 | ⟨o',y,hy,_⟩
  ·exact .inl ⟨h3,k3.blk_lt hx⟩
  ·simp at hy
end
end
section
section
variable {P : Program} {T : Tab} {F0 : Nat → Prop} {G0 : GSt} {w0 : World} {N : Nat}
theorem pOp_and {e : Env} {S : Store} {o : Op} (hc : ∀ c,o ≠ .call c) {K1 K2 : PV → Store → Prop} (h1 : pOp P T e S o K1) (h2 : pOp P T e S o K2) : pOp P T e S o fun v S' => K1 v S' ∧ K2 v S' := by
 cases o with
 | call c => exact absurd rfl (hc c)
 | alloc t => exact ⟨h1.1,h1.2,h2.2⟩
 | box t x => exact ⟨h1.1,h1.2.1,h1.2.2.1,h1.2.2.2,h2.2.2.2⟩
 | buildSlice t n ps =>
  simp only [pOp] at h1 h2 ⊢
  split at h1
  ·rename_i et hk
   rw [hk] at h2
   simp only at h2 ⊢
   refine ⟨h1.1,h1.2.1,?_⟩
   have h1 := h1.2.2
   have h2 := h2.2.2
   split at h1
   ·rename_i cells hf
    rw [hf] at h2
    simp only at h2 ⊢
    exact ⟨h1.1,h1.2,h2.2⟩
   ·exact h1.elim
  ·exact h1.elim
 | makeSlice t l c =>
  simp only [pOp] at h1 h2 ⊢
  split at h1
  ·rename_i et q l' q' c' hk e1 e2
   rw [hk,e1,e2] at h2
   simp only at h2 ⊢
   exact ⟨h1.1,h1.2.1,h1.2.2.1,h1.2.2.2.1,h1.2.2.2.2,h2.2.2.2.2⟩
  ·exact h1.elim
 | makeMap t r => exact ⟨h1.1,h1.2,h2.2⟩
 | store t a x =>
  simp only [pOp] at h1 h2 ⊢
  split at h1
  ·rename_i o ver off ha
   rw [ha] at h2
   simp only at h2 ⊢
   split at h1
   ·rename_i v et sz cells ho
    rw [ho] at h2
    simp only at h2 ⊢
    exact ⟨h1.1,h1.2.1,h1.2.2.1,h1.2.2.2.1,h1.2.2.2.2.1,h1.2.2.2.2.2,h2.2.2.2.2.2⟩
   ·exact h1.elim
  ·exact h1.elim
 | mapUpdate t m k x =>
  simp only [pOp] at h1 h2 ⊢
  split at h1
  ·rename_i kt vt o ver hk hm
   rw [hk,hm] at h2
   simp only at h2 ⊢
   split at h1
   ·rename_i v es ho
    rw [ho] at h2
    simp only at h2 ⊢
    refine ⟨h1.1,h1.2.1,?_⟩
    have h1 := h1.2.2
    have h2 := h2.2.2
    split at h1
    ·rename_i hf; rw [hf] at h2; exact ⟨h1,h2⟩
    ·rename_i hf; rw [hf] at h2; exact ⟨h1,h2⟩
    ·exact h1.elim
   ·exact h1.elim
  ·exact h1.elim
 | _ =>
  simp only [pOp] at h1 h2 ⊢
  rw [pGive_iff] at h1 h2 ⊢
  obtain ⟨v,e1,k1⟩ := h1
  obtain ⟨v',e2,k2⟩ := h2
  rw [e1] at e2
  cases e2
  exact ⟨v,e1,k1,k2⟩
theorem pGuard_and {ops : Array Oper} {o : Oper} {e : Env} {y1 n1 y2 n2 : Prop} (h1 : pGuard ops o e y1 n1) (h2 : pGuard ops o e y2 n2) : pGuard ops o e (y1 ∧ y2) (n1 ∧ n2) := by
 unfold pGuard at *
 split at h1
 ·rename_i h; rw [h] at h2; exact ⟨h1,h2⟩
 ·rename_i h; rw [h] at h2; exact ⟨h1,h2⟩
 ·exact h1.elim
theorem two_sound {R : Option Nat} {nn : Nat} (hT : TabOk P T) {ops : Array Oper} {effs pend keep : List Nat} {Q : Env → Store → Prop} {i : Nat} {r1 r2 : List Nat} {e : Env} {F : Nat → Prop} {G : GSt} {a : Act} {w : World}
  (hnc : ∀ o : Oper,ops[i]? = some o → ∀ c,o.op ≠ .call c)
  (h1 : pOpsD P T ops effs pend keep Q (i :: r1) e G.er) (h2 : pOpsD P T ops effs pend keep Q (i :: r2) e G.er) (hi : Inv F G w) (he : EnvR w.heap F G e a) (hn : Next F0 G0 w0 F G w) (hs : a.tmps.size = N) (hd : Marks w0 a.defers w)
  (hdst : ∀ o ∈ ops.toList,∀ d,o.dst = some d → d < N) {Qx : Exit → Act → World → Prop} {K : Act → World → Prop}
  (hK : ∀ e' F' G' a' w',pOpsD P T ops effs pend keep Q r1 e' G'.er → pOpsD P T ops effs pend keep Q r2 e' G'.er → Inv F' G' w' → EnvR w'.heap F' G' e' a' → Next F0 G0 w0 F' G' w' → a'.tmps.size = N → Marks w0 a'.defers w' → K a' w') :
  wpOpIn (fnc R) nn P ops Qx i K a w := by
 simp only [pOpsD] at h1 h2
 unfold wpOpIn
 cases ho : ops[i]? with
 | none => rw [ho] at h1; exact h1.elim
 | some o =>
  rw [ho] at h1 h2
  have hnc := hnc o ho
  have hd1 : ∀ t,o.dst = some t → t < a.tmps.size := fun t ht => by
   rw [hs]; exact hdst o (List.mem_of_getElem? (i := i) (by simpa using ho)) t ht
  simp only at h1 h2 ⊢
  rcases guard_sound he (pGuard_and h1 h2) with ⟨hw,h1,h2⟩ | ⟨hw,h1,h2⟩
  ·rw [if_pos hw]
   split at h1
   ·rename_i hc
    rw [if_pos hc] at h2
    refine op_sound hT hi he (pOp_and hnc h1 h2) ?_
    intro v cv F' G' w' hk i1 i2 i3
    exact hK _ _ _ _ _ hk.1.2 hk.2.2 i1 ((he.next hi i2).put _ hd1 i3) (hn.trans i2) (by rw [put_size]; exact hs) (by rw [put_defers']; exact hd.next hi i2)
   ·rename_i hc
    rw [if_neg hc] at h2
    rw [pFlK_iff] at h1 h2
    obtain ⟨v,f1,_,f3⟩ := h1
    obtain ⟨v',g1,_,g3⟩ := h2
    have hv : v = v' := by
     have hop := pOp_and hnc (pFl_pOp f1) (pFl_pOp g1)
     have key : ∀ {op : Op},(∀ c,op ≠ .call c) → pFl P T G.er e op v → pFl P T G.er e op v' → v = v' := by
      intro op hc a1 a2
      cases op with
      | call c => exact absurd rfl (hc c)
      | _ => exact Option.some.inj (a1.symm.trans a2)
     exact key hnc f1 g1
    subst hv
    refine op_sound hT hi he (pFl_pOp f1) ?_
    rintro v' cv F' G' w' ⟨rfl,hS⟩ i1 i2 i3
    exact hK _ _ _ _ _ (by rw [hS]; exact f3) (by rw [hS]; exact g3) i1 ((he.next hi i2).put _ hd1 i3) (hn.trans i2) (by rw [put_size]; exact hs) (by rw [put_defers']; exact hd.next hi i2)
  ·rw [if_neg (by simp [hw])]
   exact ⟨fun _ _ => trivial,hK _ _ _ _ _ h1 h2 hi (undef_put hi he _ hd1) hn (by rw [put_size]; exact hs) (by rw [put_defers']; exact hd)⟩
theorem draws_two {R : Option Nat} {nn : Nat} (hT : TabOk P T) {ops : Array Oper} {effs pend keep : List Nat} {Q : Env → Store → Prop} (hdst : ∀ o ∈ ops.toList,∀ d,o.dst = some d → d < N)
  (hdep : ∀ (i : Nat) o,ops[i]? = some o → ∀ e ∈ o.after.toList,Region.binds .any e = true → e.on < ops.size) {x0 y0 : Nat} (hxy : x0 ≠ y0) (hno1 : ((prs ops).getD x0 0).testBit y0 = false) (hno2 : ((prs ops).getD y0 0).testBit x0 = false)
  (hnc : ∀ (i : Nat) (o : Oper),ops[i]? = some o → ∀ c,o.op ≠ .call c) :
  ∀ (fuel : Nat) (listed : Array Bool) (l l' : List Nat) {e : Env} {F : Nat → Prop} {G : GSt} {a : Act} {w : World},l.length = fuel → l'.length = fuel → x0 ∈ l → y0 ∈ l →
   l.Pairwise (fun x i => pairOk ops (prs ops) effs pend x i = true ∨ (x = x0 ∧ i = y0)) → l'.Pairwise (fun x i => pairOk ops (prs ops) effs pend x i = true ∨ (x = y0 ∧ i = x0)) → l.Nodup → l'.Nodup → (∀ x ∈ l,((prs ops).getD x 0).testBit x = false) →
   listed.size = ops.size → (∀ i,i ∈ l ↔ i < ops.size ∧ listed.getD i true = false) → (∀ i,i ∈ l' ↔ i < ops.size ∧ listed.getD i true = false) →
   (∀ i x,listed.getD i false = true → ((prs ops).getD i 0).testBit x = true → x < ops.size → listed.getD x true = true) →
   pOpsD P T ops effs pend keep Q l e G.er → pOpsD P T ops effs pend keep Q l' e G.er → Inv F G w → EnvR w.heap F G e a → Next F0 G0 w0 F G w → a.tmps.size = N → Marks w0 a.defers w →
   wpAnyIn (fnc R) nn P .any ops (Sto F0 G0 w0 N (Nrm Q)) fuel listed a w := by
 intro fuel
 induction fuel with
 | zero =>
  intro listed l l' e F G a w hl hl' hx0 hy0 hp hp' hnd hnd' hself hsz hmem hmem' hcl h h' hi he hn hs hd
  have hl0 : l = [] := List.eq_nil_of_length_eq_zero hl
  subst hl0
  simp at hx0
 | succ fuel ih =>
  intro listed l l' e F G a w hl hl' hx0 hy0 hp hp' hnd hnd' hself hsz hmem hmem' hcl h h' hi he hn hs hd
  have hmm : ∀ i,i ∈ l ↔ i ∈ l' := fun i => (hmem i).trans (hmem' i).symm
  have bound : ∀ i x,((prs ops).getD i 0).testBit x = true → x < ops.size := by
   have key : ∀ n i x,i < n → ((prs ops).getD i 0).testBit x = true → x < ops.size := by
    intro n
    induction n with
    | zero => intro i x h; omega
    | succ n ihn =>
     intro i x hin hx
     obtain ⟨o,ho,ed,h1,h2,h3⟩ := prs_spec hx
     rcases h3 with rfl | ⟨h3,h4⟩
     ·exact hdep i o ho ed h1 h2
     ·exact ihn ed.on x (by omega) h4
   exact fun i x => key (i + 1) i x (Nat.lt_succ_self _)
  have facts : ∀ i,i ∈ Region.ready .any ops listed → i ∈ l ∧ ∃ q,ops[i]? = some q ∧ ∀ e ∈ q.after.toList,Region.binds .any e = true → listed.getD e.on false = true := by
   intro i hr
   unfold Region.ready at hr
   rw [List.mem_filter] at hr
   obtain ⟨h1,h2⟩ := hr
   have hlt : i < ops.size := by simpa using h1
   rw [Array.getElem?_eq_getElem hlt] at h2
   simp only [Option.map_some,Option.getD_some,Bool.and_eq_true,Bool.not_eq_true'] at h2
   refine ⟨(hmem i).2 ⟨hlt,h2.1⟩,ops[i],Array.getElem?_eq_getElem hlt,fun e he hb => ?_⟩
   have := h2.2
   rw [Array.all_eq_true_iff_forall_mem] at this
   have := this e (by simpa using he)
   simpa [hb] using this
  have preds : ∀ i,i ∈ Region.ready .any ops listed → ∀ x,((prs ops).getD i 0).testBit x = true → listed.getD x true = true := by
   intro i hr x hx
   obtain ⟨_,q,hq,hdeps⟩ := facts i hr
   have hxl := bound i x hx
   obtain ⟨o,ho,ed,h1,h2,h3⟩ := prs_spec hx
   rw [hq] at ho
   cases ho
   have hl1 := hdeps ed h1 h2
   rcases h3 with rfl | ⟨_,h3⟩
   ·have hlt : ed.on < listed.size := by rw [hsz]; exact hxl
    rw [Array.getD_eq_getD_getElem?,Array.getElem?_eq_getElem hlt] at hl1 ⊢
    exact hl1
   ·exact hcl _ _ hl1 h3 hxl
  refine ⟨fun hr0 => ?_,fun i hr => ?_⟩
  ·exfalso
   cases l with
   | nil => simp at hl
   | cons x l =>
    have hx := (hmem x).1 (by simp)
    have hready : x ∈ Region.ready .any ops listed := by
     unfold Region.ready
     rw [List.mem_filter]
     refine ⟨by simpa using hx.1,?_⟩
     rw [Array.getElem?_eq_getElem hx.1]
     simp only [Option.map_some,Option.getD_some,Bool.and_eq_true,Bool.not_eq_true']
     refine ⟨hx.2,?_⟩
     rw [Array.all_eq_true_iff_forall_mem]
     intro ed hed
     cases hb : Region.binds .any ed with
     | false => simp
     | true =>
      have hon := hdep x _ (Array.getElem?_eq_getElem hx.1) ed (by simpa using hed) hb
      have hbit := prs_direct (Array.getElem?_eq_getElem hx.1) (by simpa using hed) hb
      cases hq : listed.getD ed.on true with
      | true =>
       have hlt : ed.on < listed.size := by rw [hsz]; exact hon
       rw [Array.getD_eq_getD_getElem?,Array.getElem?_eq_getElem hlt] at hq ⊢
       simpa using hq
      | false =>
       exfalso
       have hm := (hmem ed.on).2 ⟨hon,hq⟩
       rcases List.mem_cons.1 hm with he1 | hm
       ·have := hself x (by simp)
        rw [he1] at hbit
        rw [hbit] at this
        cases this
       ·rcases List.rel_of_pairwise_cons hp hm with this | ⟨e1,e2⟩
        ·unfold pairOk at this
         rw [hbit] at this
         simp at this
        ·rw [e1,e2,hno1] at hbit; cases hbit
    rw [hr0] at hready
    simp at hready
  ·obtain ⟨hil,q,hq,_⟩ := facts i hr
   have hil' := (hmm i).1 hil
   obtain ⟨l1,l2,rfl⟩ := List.append_of_mem hil
   obtain ⟨l3,l4,rfl⟩ := List.append_of_mem hil'
   have good : ∀ x,x ∈ l1 ++ i :: l2 → pairOk ops (prs ops) effs pend x i = true → ∃ p,ops[x]? = some p ∧ effs.contains x = false ∧ Oper.apart ops p q = true ∧ (effs.contains i = true → (pend.contains x = true ∧ pend.contains i = false) ∨ sFree p.op = true) := by
    intro x hx hpair
    have hxm := (hmem x).1 hx
    have hnb : ((prs ops).getD i 0).testBit x = false := by
     cases hb : ((prs ops).getD i 0).testBit x with
     | false => rfl
     | true => have := preds i hr x hb; rw [hxm.2] at this; cases this
    unfold pairOk at hpair
    rw [hnb,hq,Array.getElem?_eq_getElem hxm.1] at hpair
    simp only [Bool.false_or,Bool.and_eq_true,Bool.not_eq_true',Bool.or_eq_true] at hpair
    refine ⟨ops[x],Array.getElem?_eq_getElem hxm.1,hpair.2.1.1,hpair.2.1.2,fun hc => ?_⟩
    rcases hpair.2.2 with (h1 | h1) | h1
    ·rw [hc] at h1; cases h1
    ·exact .inl h1
    ·exact .inr h1
   have hlt : i < ops.size := ((hmem i).1 hil).1
   have hgetD : ∀ j d,(listed.setIfInBounds i true).getD j d = if j = i then true else listed.getD j d := by
    intro j d
    rw [Array.getD_eq_getD_getElem?,Array.getD_eq_getD_getElem?]
    by_cases hj : j = i
    ·subst hj; simp [hsz,hlt]
    ·rw [Array.getElem?_setIfInBounds_ne (Ne.symm hj),if_neg hj]
   have nmem : ∀ {m1 m2 : List Nat},(m1 ++ i :: m2).Nodup → i ∉ m1 ++ m2 := by
    intro m1 m2 hnd hm
    have := List.nodup_append.1 hnd
    rcases List.mem_append.1 hm with h1 | h1
    ·exact this.2.2 i h1 i (by simp) rfl
    ·exact (List.nodup_cons.1 this.2.1).1 h1
   have nlist : ∀ {m1 m2 : List Nat},(m1 ++ i :: m2).Nodup → (∀ j,j ∈ m1 ++ i :: m2 ↔ j < ops.size ∧ listed.getD j true = false) → ∀ j,j ∈ m1 ++ m2 ↔ j < ops.size ∧ (listed.setIfInBounds i true).getD j true = false := by
    intro m1 m2 hnd hm j
    rw [hgetD]
    by_cases hj : j = i
    ·subst hj
     rw [if_pos rfl]
     exact ⟨fun h => (nmem hnd h).elim,fun h => (by cases h.2)⟩
    ·rw [if_neg hj,← hm j]
     simp [hj]
   have ncl : ∀ (j x : Nat),(listed.setIfInBounds i true).getD j false = true → ((prs ops).getD j 0).testBit x = true → x < ops.size → (listed.setIfInBounds i true).getD x true = true := by
    intro j x h1 h2 h3
    rw [hgetD] at h1 ⊢
    by_cases hx : x = i
    ·rw [if_pos hx]
    ·rw [if_neg hx]
     by_cases hj : j = i
     ·subst hj; exact preds j hr x h2
     ·rw [if_neg hj] at h1; exact hcl j x h1 h2 h3
   by_cases ix : i = x0
   ·subst ix
    have hfront := pOpsD_front hq l1 (fun x hx => good x (by simp [hx]) (by
     rcases (List.pairwise_append.1 hp).2.2 x hx i (by simp) with h1 | ⟨e1,e2⟩
     ·exact h1
     ·exact absurd e2 hxy)) h
    refine one_sound hT hfront hi he hn hs hd hdst ?_
    intro e' F' G' a' w' k1 k2 k3 k4 k5 k6
    refine draws_any hT hdst hdep _ _ (l1 ++ l2) (by simp at hl ⊢; omega) ?_ (hnd.sublist (by simp)) (fun x hx => hself x (by rcases List.mem_append.1 hx with h9 | h9 <;> simp [h9])) (by simp [hsz]) (nlist hnd hmem) ncl k1 k2 k3 k4 k5 k6
    refine (hp.sublist (by simp)).imp_of_mem (S := fun x i => pairOk ops (prs ops) effs pend x i = true) fun {x y} hx hy hh => ?_
    rcases hh with h1 | ⟨e1,e2⟩
    ·exact h1
    ·exact absurd (e1 ▸ hx) (nmem hnd)
   ·by_cases iy : i = y0
    ·subst iy
     have hfront := pOpsD_front hq l3 (fun x hx => good x ((hmm x).2 (by simp [hx])) (by
      rcases (List.pairwise_append.1 hp').2.2 x hx i (by simp) with h1 | ⟨e1,e2⟩
      ·exact h1
      ·exact absurd e2 ix)) h'
     refine one_sound hT hfront hi he hn hs hd hdst ?_
     intro e' F' G' a' w' k1 k2 k3 k4 k5 k6
     refine draws_any hT hdst hdep _ _ (l3 ++ l4) (by simp at hl' ⊢; omega) ?_ (hnd'.sublist (by simp)) (fun x hx => hself x ((hmm x).2 (by rcases List.mem_append.1 hx with h9 | h9 <;> simp [h9]))) (by simp [hsz]) (nlist hnd' hmem') ncl k1 k2 k3 k4 k5 k6
     refine (hp'.sublist (by simp)).imp_of_mem (S := fun x i => pairOk ops (prs ops) effs pend x i = true) fun {x y} hx hy hh => ?_
     rcases hh with h1 | ⟨e1,e2⟩
     ·exact h1
     ·exact absurd (e1 ▸ hx) (nmem hnd')
    ·have hf1 := pOpsD_front hq l1 (fun x hx => good x (by simp [hx]) (by
      rcases (List.pairwise_append.1 hp).2.2 x hx i (by simp) with h1 | ⟨e1,e2⟩
      ·exact h1
      ·exact absurd e2 iy)) h
     have hf2 := pOpsD_front hq l3 (fun x hx => good x ((hmm x).2 (by simp [hx])) (by
      rcases (List.pairwise_append.1 hp').2.2 x hx i (by simp) with h1 | ⟨e1,e2⟩
      ·exact h1
      ·exact absurd e2 ix)) h'
     refine two_sound hT (hnc i) hf1 hf2 hi he hn hs hd hdst ?_
     intro e' F' G' a' w' k1 k1' k2 k3 k4 k5 k6
     have hx1 : x0 ∈ l1 ++ l2 := by have := hx0; simp only [List.mem_append,List.mem_cons] at this ⊢; rcases this with h9 | h9 | h9 <;> first | exact .inl h9 | exact .inr h9 | exact absurd h9.symm ix
     have hy1 : y0 ∈ l1 ++ l2 := by have := hy0; simp only [List.mem_append,List.mem_cons] at this ⊢; rcases this with h9 | h9 | h9 <;> first | exact .inl h9 | exact .inr h9 | exact absurd h9.symm iy
     exact ih _ (l1 ++ l2) (l3 ++ l4) (by simp at hl ⊢; omega) (by simp at hl' ⊢; omega) hx1 hy1 (hp.sublist (by simp)) (hp'.sublist (by simp)) (hnd.sublist (by simp)) (hnd'.sublist (by simp)) (fun x hx => hself x (by rcases List.mem_append.1 hx with h9 | h9 <;> simp [h9])) (by simp [hsz])
      (nlist hnd hmem) (nlist hnd' hmem') ncl k1 k1' k2 k3 k4 k5 k6
def canon2 (ops : Array Oper) (l l' effs pend : List Nat) (a b : Nat) : Bool :=
 let B := prs ops
 pairsOk (fun x i => pairOk ops B effs pend x i || (x == a && i == b)) l && pairsOk (fun x i => pairOk ops B effs pend x i || (x == b && i == a)) l' && l.length == ops.size && l'.length == ops.size && l.all (fun x => decide (x < ops.size) && !(B.getD x 0).testBit x) && l'.all (fun x => decide (x < ops.size)) &&
 ((List.range ops.size).all l.contains) && ((List.range ops.size).all l'.contains) && (ops.toList.all fun o => o.after.toList.all fun e => !Region.binds .any e || decide (e.on < ops.size)) &&
 !(a == b) && l.contains a && l.contains b && !(B.getD a 0).testBit b && !(B.getD b 0).testBit a && ops.toList.all fun o => match o.op with | .call _ => false | _ => true
theorem W.region_two {Q : Exit → Env → Store → Prop} {e : Env} {S : Store} {id : Nat} {ops : Array Oper} (l l' effs pend keep : List Nat) (a b : Nat) (hc : canon2 ops l l' effs pend a b = true) (h : pOpsD P T ops effs pend keep (Q .normal) l e S) (h' : pOpsD P T ops effs pend keep (Q .normal) l' e S) :
  W P T (.region id ops true) Q e S := by
 refine ⟨?_⟩
 intro hT hm F0 G0 w0 N F G act w h3 h4 h5 h6 h7 h8 h9 R nn
 subst h3
 unfold canon2 at hc
 simp only [Bool.and_eq_true,beq_iff_eq,List.all_eq_true,decide_eq_true_eq,Bool.not_eq_true',List.contains_eq_mem,List.mem_range,Bool.or_eq_true,beq_eq_false_iff_ne] at hc
 obtain ⟨⟨⟨⟨⟨⟨⟨⟨⟨⟨⟨⟨⟨⟨c1,c1'⟩,c2⟩,c2'⟩,c3⟩,c3'⟩,c4⟩,c4'⟩,c5⟩,c6⟩,c7⟩,c8⟩,c9⟩,c10⟩,c11⟩ := hc
 obtain ⟨p1,p2⟩ := pairsOk_spec c1
 obtain ⟨p1',p2'⟩ := pairsOk_spec c1'
 have hin : ∀ i,i < ops.size ↔ i < ops.size ∧ (Array.replicate ops.size false).getD i true = false := by
  intro i
  constructor
  ·intro hi; refine ⟨hi,?_⟩; rw [Array.getD_eq_getD_getElem?]; simp [hi]
  ·exact fun h => h.1
 refine wpIn_mono (wpIn_region_any hm (draws_two (Q := Q .normal) hT (dst_all h9) ?_ c6 c9 c10 ?_ ops.size (Array.replicate ops.size false) l l' c2 c2' (by simpa using c7) (by simpa using c8) (p1.imp fun h => by simpa using h) (p1'.imp fun h => by simpa using h) p2 p2' (fun x hx => (c3 x hx).2) (by simp) ?_ ?_ ?_ h h' (h4.drew) h5 (h6.drew) h7 h8)) nrm_le
 ·intro i o ho ed hed hb
  have hmem : o ∈ ops.toList := by
   have := Array.mem_of_getElem? ho
   simpa using this
  have := c5 o hmem ed hed
  rw [hb] at this
  simpa using this
 ·intro i o ho c hcc
  have hmem : o ∈ ops.toList := by
   have := Array.mem_of_getElem? ho
   simpa using this
  have := c11 o hmem
  rw [hcc] at this
  simp at this
 ·exact fun i => ⟨fun hi => (hin i).1 (c3 i hi).1,fun hi => c4 i hi.1⟩
 ·exact fun i => ⟨fun hi => (hin i).1 (c3' i hi),fun hi => c4' i hi.1⟩
 ·intro i x hx
  rw [Array.getD_eq_getD_getElem?] at hx
  simp only [Array.getElem?_replicate] at hx
  split at hx <;> cases hx
theorem eRun_Dp {all : List Oper} {effs pend : List Nat} {K : Env → Store → Prop} (heff : ∀ (i : Nat) (o : Oper),all[i]? = some o → effs.contains i = false → isFlatE o.op = true) {x : Nat} {cs : List PV} {off : Nat}
  (hx : ∀ (i : Nat) (o : Oper),all[i]? = some o → o.dst ≠ some x) (hpe : ∀ (i : Nat) (o : Oper),all[i]? = some o → pend.contains i = true → ∃ t,o.op = .load t (.tmp x)) : ∀ (r : List Nat) (l : List Oper) {e : Env} {S : Store},e x = .ip cs off → r.map (all[·]?) = l.map some →
  eRun false P T (dsts all) l e S K → pOpsD P T all.toArray effs pend [] K r e S
 | [],l,e,S,_,hl,h => by
  cases l with
  | nil => exact h
  | cons o l => simp at hl
 | i :: r,l,e,S,hex,hl,h => by
  cases l with
  | nil => simp at hl
  | cons o l =>
   simp only [List.map_cons,List.cons.injEq] at hl
   obtain ⟨ho,hl⟩ := hl
   have hput : ∀ v,(e.put o.dst v) x = .ip cs off := fun v => by
    have := hx i o ho
    cases hd : o.dst with
    | none => exact hex
    | some d => rw [put_some,if_neg (fun e1 => this (by rw [hd,e1]))]; exact hex
   unfold eRun at h
   simp only [pOpsD,List.getElem?_toArray,ho]
   rw [gd_gdec] at h
   unfold pGuard
   split at h
   ·rename_i hg
    rw [hg]
    simp only
    split
    ·exact pOp_mono (fun v S' hv => ⟨.inr (by intro o ho; cases ho),eRun_Dp heff hx hpe r l (hput v) hl hv⟩) (sOp_pOp h)
    ·rename_i hc
     have := flatE_fl (heff i o ho (by simpa using hc)) h
     rw [pFlK_iff] at this ⊢
     obtain ⟨v,h1,h2⟩ := this
     refine ⟨v,h1,?_,eRun_Dp heff hx hpe r l (hput v) hl h2⟩
     split
     ·rename_i hp
      obtain ⟨t,ht⟩ := hpe i o ho hp
      intro S' _
      rw [ht] at h1 ⊢
      simp only [pFl,pPure,ev_tmp,hex,pLoad] at h1 ⊢
      exact h1
     ·trivial
   ·rename_i hg; rw [hg]; exact eRun_Dp heff hx hpe r l (hput _) hl h
   ·exact h.elim
def okTwo (l : List Oper) (effs pend : List Nat) (x : Nat) : Bool :=
 l.all (fun o => o.dst != some x) && (l.zipIdx.all fun q => !pend.contains q.2 || (match q.1.op with | .load _ (.tmp y) => y == x | _ => false))
theorem W.draw_two {Q : Exit → Env → Store → Prop} {e : Env} {S : Store} {id : Nat} {l r1 r2 : List Oper} (l1 l2 pend : List Nat) (a b x : Nat) {cs : List PV} {off : Nat} (hex : e x = .ip cs off) (hc : canon2 l.toArray l1 l2 (effIdxE l 0) pend a b = true) (ho : okTwo l (effIdxE l 0) pend x = true)
  (hr : l1.map (l[·]?) = r1.map some) (hr2 : l2.map (l[·]?) = r2.map some)
  (h1 : ∀ K : Env → Store → Prop,(∀ e S,Q .normal e S → K e S) → eRun false P T (dsts l) r1 e S K) (h2 : ∀ K : Env → Store → Prop,(∀ e S,Q .normal e S → K e S) → eRun false P T (dsts l) r2 e S K) : W P T (.region id l.toArray true) Q e S := by
 unfold okTwo at ho
 simp only [Bool.and_eq_true,List.all_eq_true,bne_iff_ne,Bool.or_eq_true,Bool.not_eq_true'] at ho
 have heff : ∀ (i : Nat) (o : Oper),l[i]? = some o → (effIdxE l 0).contains i = false → isFlatE o.op = true := by
  intro i o hio hc
  have := effIdxE_iff l 0 i o hio
  rw [Nat.zero_add] at this
  cases hf : isFlatE o.op with
  | true => rfl
  | false => have := this.2 hf; simp at hc; exact absurd this hc
 have hx : ∀ (i : Nat) (o : Oper),l[i]? = some o → o.dst ≠ some x := fun i o hio => ho.1 o (List.mem_of_getElem? hio)
 have hpe : ∀ (i : Nat) (o : Oper),l[i]? = some o → pend.contains i = true → ∃ t,o.op = .load t (.tmp x) := by
  intro i o hio hp
  rcases ho.2 (o,i) (List.mem_of_getElem? (i := i) (by simp [List.getElem?_zipIdx,hio])) with h | h
  ·rw [hp] at h; cases h
  ·simp only at h
   split at h
   ·rename_i t y hop; exact ⟨t,by rw [hop,beq_iff_eq.1 h]⟩
   ·cases h
 exact W.region_two l1 l2 (effIdxE l 0) pend [] a b hc (eRun_Dp heff hx hpe _ _ hex hr (h1 _ fun _ _ h => h)) (eRun_Dp heff hx hpe _ _ hex hr2 (h2 _ fun _ _ h => h))
end
end
theorem toNat_gap {a b : Nat} : ((a + b : Nat) : Int) - (a : Int) = (b : Int) := by omega
theorem plan_gw {p : List Txt} (hp : planB p = true) : GW (gP p) p.length (hdRow p).length := by
 rw [← floorI_plan] at hp
 simp only [floorI,Bool.and_eq_true] at hp
 have := okB_gw hp.1
 rwa [w0_read] at this
theorem cuts1_ev {p : List Txt} (hp : planB p = true) {t : Pt} (ht : t.In p.length (hdRow p).length) (l : Nat) (a b c d : Ob) (tk : Nat) (B C D : Bool × Nat → Ob)
  (hy : ∀ q,cutOf (cellZ p) t = some q → ∀ (x y : Ob) (tk2 : Nat),tk ≤ tk2 → Ey Tryz.prog l [ePiece (gP p) (rP p) t q] ⟨[a,b,c,d,x,y],tk2⟩ fun v S => v = .bool false ∧ ∃ tk3,S = ⟨[a,B q,C q,D q,x,y],tk3⟩) : Ev Tryz.prog 140 [.yl l,.ip (eFloor (gP p) (rP p) :: t.rect.cells) 0] ⟨[a,b,c,d],tk⟩ fun v S => (∃ tk2,cutOf (cellZ p) t = none ∧ S = ⟨[a,b,c,d],tk2⟩) ∨ ∃ q tk2,cutOf (cellZ p) t = some q ∧ S = ⟨[a,B q,C q,D q],tk2⟩ := by
 have hsm := grid_small (planB_grid hp)
 obtain ⟨t1,t2,t3,t4⟩ := id ht
 have hgw := plan_gw hp
 obtain ⟨g1,g2,g3,g4⟩ := hgw.2.2
 simp only [Pt.rect,Rect.cells]
 refine Ev.of ⟨Tryz.func140,by kernel_rfl,rfl,by kernel_rfl⟩ tabOk mixed (by show 2 ≤ Tryz.f140.ntmps; decide) ?_
 refine W.seq ?_
 refine W.r fun K hK => ?_
 simp (disch := omega) only [↓RU,RV,RH,↓reduceIte,reduceEqDiff,reduceCtorEq,if_pos,w64,↓RS,RG,reduceAdd,reduceMul,reduceLeDiff,ty7,ty13,ty15,tyint,ty21,ty28,toNat_gap]
 refine hK _ _ ?_;clear hK K
 refine W.block ?_
 refine W.loop [0,1,3] (fun n vs S => ∃ k tk2 : Nat,n = t.w - k ∧ 1 ≤ k ∧ k ≤ t.w ∧ (∀ j,1 ≤ j → j < k → thU (cellZ p) t j = false) ∧ tk ≤ tk2 ∧ vs = [.yl l,.ip [eFloor (gP p) (rP p),.int .i64 t.r,.int .i64 t.c,.int .i64 t.h,.int .i64 t.w] 0,.int .i64 ((t.c + k : Nat) : Int)] ∧ S = ⟨[a,b,c,d],tk2⟩) (t.w - 1) ?_ ?_
 ·refine ⟨4,1,_,rfl,by omega,by omega,fun j _ _ => by omega,Nat.le_refl _,?_,rfl⟩
  simp [Env.put,Env.of,argEnv]
 rintro n vs S - ⟨k,tk2,rfl,hk1,h_k,hall,htk,rfl,rfl⟩
 refine W.seq ?_
 refine W.r fun K hK => ?_
 simp (disch := omega) only [↓RU,RV,RH,↓reduceIte,reduceEqDiff,reduceCtorEq,if_pos,w64,↓RS,RG,reduceAdd,reduceMul,reduceLeDiff,ty7,ty13,ty15,tyint,ty21,ty28,toNat_gap]
 refine hK _ _ ?_;clear hK K
 refine W.cond rfl (fun h => ?_) (fun h => ?_)
 ·try simp only [RL] at h
  have hgu := thG_u hp ht hk1 (show k < t.w by omega)
  have e1 : ((t.w : Nat) : Int) - ((k : Nat) : Int) = ((t.w - k : Nat) : Int) := by omega
  refine W.skip ?_
  refine xn ?_
  refine W.seq ?_
  refine W.block ?_
  refine W.seq (W.draw_two (r1 := [_,_,_,_,_,_]) (r2 := [_,_,_,_,_,_]) [0,1,2,3,4,5] [0,1,3,2,4,5] [0,1] 2 3 1 rfl (by kernel_rfl) (by kernel_rfl) rfl rfl (fun K hK => ?_) (fun K hK => ?_))
  ·simp (disch := omega) only [↓RU,RV,RH,↓reduceIte,reduceEqDiff,reduceCtorEq,if_pos,↓RS,RG,reduceAdd,reduceMul,reduceLeDiff,ty7,ty13,ty15,tyint,ty21,ty28,toNat_gap]
   refine hK _ _ ?_;clear hK K
   refine xn ?_
   refine W.r fun K hK => ?_
   simp (disch := omega) only [↓RU,RV,RH,↓reduceIte,reduceEqDiff,reduceCtorEq,if_pos,w64,↓RS,RG,reduceAdd,reduceMul,reduceLeDiff,ty7,ty13,ty15,tyint,ty21,ty28,toNat_gap]
   refine hK _ _ ?_;clear hK K
   refine W.seq_pk 11 [some 34,some 35,some 36,some 37,some 38,some 39] [4] (by decide) (by kernel_rfl) fun K hK => ?_
   simp only [List.take_succ_cons,List.take_zero,List.drop_succ_cons,List.drop_zero]
   refine eRunK_go rfl ?_
   simp (disch := omega) only [↓RU,RV,RH,↓reduceIte,reduceEqDiff,reduceCtorEq,if_pos,w64,↓RS,RG,reduceAdd,reduceMul,reduceLeDiff,ty7,ty13,ty15,tyint,ty21,ty28,toNat_gap,e1,keeps_cons,keeps_nil]
   refine eRunK_pend (.ip [eFloor (gP p) (rP p),.int .i64 t.r,.int .i64 t.c,.int .i64 t.h,.int .i64 t.w] 1) rfl rfl rfl (fun S' hS => ?_) ?_
   ·skip
    have k4 := (hS 4 (by decide)).trans (show _ = some _ from rfl)
    simp (disch := omega) only [↓RU,RV,RH,↓reduceIte,reduceEqDiff,reduceCtorEq,if_pos,w64,↓RS,RG,reduceAdd,reduceMul,reduceLeDiff,ty7,ty13,ty15,tyint,ty21,ty28,toNat_gap,e1,pp_load,pp_nil,pp_fa,pp_ia,k4]
   refine eRunK_pend (.ip [eFloor (gP p) (rP p),.int .i64 t.r,.int .i64 t.c,.int .i64 t.h,.int .i64 t.w] 4) rfl rfl rfl (fun S' hS => ?_) ?_
   ·skip
    have k4 := (hS 4 (by decide)).trans (show _ = some _ from rfl)
    simp (disch := omega) only [↓RU,RV,RH,↓reduceIte,reduceEqDiff,reduceCtorEq,if_pos,w64,↓RS,RG,reduceAdd,reduceMul,reduceLeDiff,ty7,ty13,ty15,tyint,ty21,ty28,toNat_gap,e1,pp_load,pp_nil,pp_fa,pp_ia,k4]
   refine eRunK_pend (.int .i64 t.w) rfl rfl rfl (fun S' hS => ?_) ?_
   ·skip
    have k4 := (hS 4 (by decide)).trans (show _ = some _ from rfl)
    simp (disch := omega) only [↓RU,RV,RH,↓reduceIte,reduceEqDiff,reduceCtorEq,if_pos,w64,↓RS,RG,reduceAdd,reduceMul,reduceLeDiff,ty7,ty13,ty15,tyint,ty21,ty28,toNat_gap,e1,pp_load,pp_nil,pp_fa,pp_ia,k4]
   refine eRunK_pend (.ref 4 tk2 1) rfl rfl rfl (fun S' hS => ?_) ?_
   ·skip
    have k4 := (hS 4 (by decide)).trans (show _ = some _ from rfl)
    simp (disch := omega) only [↓RU,RV,RH,↓reduceIte,reduceEqDiff,reduceCtorEq,if_pos,w64,↓RS,RG,reduceAdd,reduceMul,reduceLeDiff,ty7,ty13,ty15,tyint,ty21,ty28,toNat_gap,e1,pp_load,pp_nil,pp_fa,pp_ia,k4]
   refine eRunK_pend (.ref 4 tk2 4) rfl rfl rfl (fun S' hS => ?_) ?_
   ·skip
    have k4 := (hS 4 (by decide)).trans (show _ = some _ from rfl)
    simp (disch := omega) only [↓RU,RV,RH,↓reduceIte,reduceEqDiff,reduceCtorEq,if_pos,w64,↓RS,RG,reduceAdd,reduceMul,reduceLeDiff,ty7,ty13,ty15,tyint,ty21,ty28,toNat_gap,e1,pp_load,pp_nil,pp_fa,pp_ia,k4]
   refine eRunK_pend (.int .i64 k) rfl rfl rfl (fun S' hS => ?_) ?_
   ·skip
    have k4 := (hS 4 (by decide)).trans (show _ = some _ from rfl)
    simp (disch := omega) only [↓RU,RV,RH,↓reduceIte,reduceEqDiff,reduceCtorEq,if_pos,w64,↓RS,RG,reduceAdd,reduceMul,reduceLeDiff,ty7,ty13,ty15,tyint,ty21,ty28,toNat_gap,e1,pp_load,pp_nil,pp_fa,pp_ia,k4]
   refine eRunK_go rfl ?_
   simp (disch := omega) only [↓RU,RV,RH,↓reduceIte,reduceEqDiff,reduceCtorEq,if_pos,w64,↓RS,RG,reduceAdd,reduceMul,reduceLeDiff,ty7,ty13,ty15,tyint,ty21,ty28,toNat_gap,e1,keeps_cons,keeps_nil]
   refine eRunK_go rfl ?_
   simp (disch := omega) only [↓RU,RV,RH,↓reduceIte,reduceEqDiff,reduceCtorEq,if_pos,w64,↓RS,RG,reduceAdd,reduceMul,reduceLeDiff,ty7,ty13,ty15,tyint,ty21,ty28,toNat_gap,e1,keeps_cons,keeps_nil]
   refine eRunK_go rfl ?_
   simp (disch := omega) only [↓RU,RV,RH,↓reduceIte,reduceEqDiff,reduceCtorEq,if_pos,w64,↓RS,RG,reduceAdd,reduceMul,reduceLeDiff,ty7,ty13,ty15,tyint,ty21,ty28,toNat_gap,e1,keeps_cons,keeps_nil]
   refine eRunK_go rfl ?_
   simp (disch := omega) only [↓RU,RV,RH,↓reduceIte,reduceEqDiff,reduceCtorEq,if_pos,w64,↓RS,RG,reduceAdd,reduceMul,reduceLeDiff,ty7,ty13,ty15,tyint,ty21,ty28,toNat_gap,e1,keeps_cons,keeps_nil]
   refine eRunK_end ?_
   simp (disch := omega) only [↓RU,RV,RH,↓reduceIte,reduceEqDiff,reduceCtorEq,if_pos,w64,↓RS,RG,reduceAdd,reduceMul,reduceLeDiff,ty7,ty13,ty15,tyint,ty21,ty28,toNat_gap,e1]
   refine hK _ _ ?_;clear hK K
   refine W.r fun K hK => ?_
   cases hth : thU (cellZ p) t k
   ·skip
    simp (disch := omega) only [↓RU,RV,RH,↓reduceIte,reduceEqDiff,reduceCtorEq,if_pos,List.append_nil,↓RS,RG,reduceAdd,reduceMul,reduceLeDiff,ty7,tybool,ty13,ty14,ty15,tyint,ty21,ty27,ty28,toNat_gap,hgu,hth]
    refine CallR.pc (through_pc hgw (rP p) ht (level := false) (line := t.c + k) (by omega) (by simp; omega)) rfl (.inl rfl) ?_
    simp (disch := omega) only [↓RU,RV,RH,↓reduceIte,reduceEqDiff,reduceCtorEq,if_pos,List.append_nil,↓RS,RG,reduceAdd,reduceMul,reduceLeDiff,ty7,tybool,ty13,ty14,ty15,tyint,ty21,ty27,ty28,toNat_gap,hgu,hth]
    refine hK _ _ ?_;clear hK K
    refine W.cond rfl (fun h1 => ?_) (fun h1 => ?_)
    ·try simp only [RL] at h1
     exact absurd h1 (by simp)
    ·try simp only [RL] at h1
     refine W.skip ?_
     refine XbN ?_
     refine xn ?_
     refine W.k fun K hK => ?_
     simp (disch := omega) only [↓RU,RV,RH,↓reduceIte,reduceEqDiff,reduceCtorEq,if_pos,w64,↓RS,RG,reduceAdd,reduceMul,reduceLeDiff,tyint,toNat_gap]
     refine hK _ _ ?_;clear hK K
     refine xn ?_
     refine ⟨t.w - (k + 1),by omega,4,k + 1,_,rfl,by omega,by omega,fun j j1 j2 => ?_,?_,?_,rfl⟩
     ·rcases Nat.lt_succ_iff_lt_or_eq.1 j2 with h | rfl
      ·exact hall j j1 h
      ·exact hth
     ·exact Nat.le_trans htk (Nat.le_add_right _ 2)
     ·simp [Env.put,Env.of]; omega
   ·skip
    have hq : cutOf (cellZ p) t = some (false,k) := by unfold cutOf; rw [fstK_some.2 ⟨hk1,by omega,hth,hall⟩]
    simp (disch := omega) only [↓RU,RV,RH,↓reduceIte,reduceEqDiff,reduceCtorEq,if_pos,List.append_nil,↓RS,RG,reduceAdd,reduceMul,reduceLeDiff,ty7,tybool,ty13,ty14,ty15,tyint,ty21,ty27,ty28,toNat_gap,hgu,hth]
    refine CallR.pc (through_pc hgw (rP p) ht (level := false) (line := t.c + k) (by omega) (by simp; omega)) rfl (.inl rfl) ?_
    simp (disch := omega) only [↓RU,RV,RH,↓reduceIte,reduceEqDiff,reduceCtorEq,if_pos,List.append_nil,↓RS,RG,reduceAdd,reduceMul,reduceLeDiff,ty7,tybool,ty13,ty14,ty15,tyint,ty21,ty27,ty28,toNat_gap,hgu,hth]
    refine CallY.ey (hy _ hq _ _ _ (Nat.le_trans htk (Nat.le_add_right _ 2))) ?_
    rintro _ _ ⟨rfl,tk3,rfl⟩
    simp (disch := omega) only [↓RU,RV,RH,↓reduceIte,reduceEqDiff,reduceCtorEq,if_pos,List.append_nil,↓RS,RG,reduceAdd,reduceMul,reduceLeDiff,ty7,tybool,ty13,ty14,ty15,tyint,ty21,ty27,ty28,toNat_gap,hgu,hth]
    refine hK _ _ ?_;clear hK K
    refine W.cond rfl (fun h1 => ?_) (fun h1 => ?_)
    ·try simp only [RL] at h1
     refine W.ret ?_
     refine XBlock.ret ?_
     refine XThen.ret ?_
     refine XThen.ret ?_
     refine XBlock.ret ?_
     refine XThen.ret ?_
     refine Br rfl ?_
     exact ⟨4,.inr ⟨_,_,hq,rfl⟩⟩
    ·try simp only [RL] at h1
     exact absurd h1 (by simp)
  ·simp (disch := omega) only [↓RU,RV,RH,↓reduceIte,reduceEqDiff,reduceCtorEq,if_pos,↓RS,RG,reduceAdd,reduceMul,reduceLeDiff,ty7,ty13,ty15,tyint,ty21,ty28,toNat_gap]
   refine hK _ _ ?_;clear hK K
   refine xn ?_
   refine W.r fun K hK => ?_
   simp (disch := omega) only [↓RU,RV,RH,↓reduceIte,reduceEqDiff,reduceCtorEq,if_pos,w64,↓RS,RG,reduceAdd,reduceMul,reduceLeDiff,ty7,ty13,ty15,tyint,ty21,ty28,toNat_gap]
   refine hK _ _ ?_;clear hK K
   refine W.seq_pk 11 [some 34,some 35,some 36,some 37,some 38,some 39] [5] (by decide) (by kernel_rfl) fun K hK => ?_
   simp only [List.take_succ_cons,List.take_zero,List.drop_succ_cons,List.drop_zero]
   refine eRunK_go rfl ?_
   simp (disch := omega) only [↓RU,RV,RH,↓reduceIte,reduceEqDiff,reduceCtorEq,if_pos,w64,↓RS,RG,reduceAdd,reduceMul,reduceLeDiff,ty7,ty13,ty15,tyint,ty21,ty28,toNat_gap,e1,keeps_cons,keeps_nil]
   refine eRunK_pend (.ip [eFloor (gP p) (rP p),.int .i64 t.r,.int .i64 t.c,.int .i64 t.h,.int .i64 t.w] 1) rfl rfl rfl (fun S' hS => ?_) ?_
   ·skip
    have k5 := (hS 5 (by decide)).trans (show _ = some _ from rfl)
    simp (disch := omega) only [↓RU,RV,RH,↓reduceIte,reduceEqDiff,reduceCtorEq,if_pos,w64,↓RS,RG,reduceAdd,reduceMul,reduceLeDiff,ty7,ty13,ty15,tyint,ty21,ty28,toNat_gap,e1,pp_load,pp_nil,pp_fa,pp_ia,k5]
   refine eRunK_pend (.ip [eFloor (gP p) (rP p),.int .i64 t.r,.int .i64 t.c,.int .i64 t.h,.int .i64 t.w] 4) rfl rfl rfl (fun S' hS => ?_) ?_
   ·skip
    have k5 := (hS 5 (by decide)).trans (show _ = some _ from rfl)
    simp (disch := omega) only [↓RU,RV,RH,↓reduceIte,reduceEqDiff,reduceCtorEq,if_pos,w64,↓RS,RG,reduceAdd,reduceMul,reduceLeDiff,ty7,ty13,ty15,tyint,ty21,ty28,toNat_gap,e1,pp_load,pp_nil,pp_fa,pp_ia,k5]
   refine eRunK_pend (.int .i64 t.w) rfl rfl rfl (fun S' hS => ?_) ?_
   ·skip
    have k5 := (hS 5 (by decide)).trans (show _ = some _ from rfl)
    simp (disch := omega) only [↓RU,RV,RH,↓reduceIte,reduceEqDiff,reduceCtorEq,if_pos,w64,↓RS,RG,reduceAdd,reduceMul,reduceLeDiff,ty7,ty13,ty15,tyint,ty21,ty28,toNat_gap,e1,pp_load,pp_nil,pp_fa,pp_ia,k5]
   refine eRunK_pend (.ref 5 (tk2 + 1) 1) rfl rfl rfl (fun S' hS => ?_) ?_
   ·skip
    have k5 := (hS 5 (by decide)).trans (show _ = some _ from rfl)
    simp (disch := omega) only [↓RU,RV,RH,↓reduceIte,reduceEqDiff,reduceCtorEq,if_pos,w64,↓RS,RG,reduceAdd,reduceMul,reduceLeDiff,ty7,ty13,ty15,tyint,ty21,ty28,toNat_gap,e1,pp_load,pp_nil,pp_fa,pp_ia,k5]
   refine eRunK_pend (.ref 5 (tk2 + 1) 4) rfl rfl rfl (fun S' hS => ?_) ?_
   ·skip
    have k5 := (hS 5 (by decide)).trans (show _ = some _ from rfl)
    simp (disch := omega) only [↓RU,RV,RH,↓reduceIte,reduceEqDiff,reduceCtorEq,if_pos,w64,↓RS,RG,reduceAdd,reduceMul,reduceLeDiff,ty7,ty13,ty15,tyint,ty21,ty28,toNat_gap,e1,pp_load,pp_nil,pp_fa,pp_ia,k5]
   refine eRunK_pend (.int .i64 k) rfl rfl rfl (fun S' hS => ?_) ?_
   ·skip
    have k5 := (hS 5 (by decide)).trans (show _ = some _ from rfl)
    simp (disch := omega) only [↓RU,RV,RH,↓reduceIte,reduceEqDiff,reduceCtorEq,if_pos,w64,↓RS,RG,reduceAdd,reduceMul,reduceLeDiff,ty7,ty13,ty15,tyint,ty21,ty28,toNat_gap,e1,pp_load,pp_nil,pp_fa,pp_ia,k5]
   refine eRunK_go rfl ?_
   simp (disch := omega) only [↓RU,RV,RH,↓reduceIte,reduceEqDiff,reduceCtorEq,if_pos,w64,↓RS,RG,reduceAdd,reduceMul,reduceLeDiff,ty7,ty13,ty15,tyint,ty21,ty28,toNat_gap,e1,keeps_cons,keeps_nil]
   refine eRunK_go rfl ?_
   simp (disch := omega) only [↓RU,RV,RH,↓reduceIte,reduceEqDiff,reduceCtorEq,if_pos,w64,↓RS,RG,reduceAdd,reduceMul,reduceLeDiff,ty7,ty13,ty15,tyint,ty21,ty28,toNat_gap,e1,keeps_cons,keeps_nil]
   refine eRunK_go rfl ?_
   simp (disch := omega) only [↓RU,RV,RH,↓reduceIte,reduceEqDiff,reduceCtorEq,if_pos,w64,↓RS,RG,reduceAdd,reduceMul,reduceLeDiff,ty7,ty13,ty15,tyint,ty21,ty28,toNat_gap,e1,keeps_cons,keeps_nil]
   refine eRunK_go rfl ?_
   simp (disch := omega) only [↓RU,RV,RH,↓reduceIte,reduceEqDiff,reduceCtorEq,if_pos,w64,↓RS,RG,reduceAdd,reduceMul,reduceLeDiff,ty7,ty13,ty15,tyint,ty21,ty28,toNat_gap,e1,keeps_cons,keeps_nil]
   refine eRunK_end ?_
   simp (disch := omega) only [↓RU,RV,RH,↓reduceIte,reduceEqDiff,reduceCtorEq,if_pos,w64,↓RS,RG,reduceAdd,reduceMul,reduceLeDiff,ty7,ty13,ty15,tyint,ty21,ty28,toNat_gap,e1]
   refine hK _ _ ?_;clear hK K
   refine W.r fun K hK => ?_
   cases hth : thU (cellZ p) t k
   ·skip
    simp (disch := omega) only [↓RU,RV,RH,↓reduceIte,reduceEqDiff,reduceCtorEq,if_pos,List.append_nil,↓RS,RG,reduceAdd,reduceMul,reduceLeDiff,ty7,tybool,ty13,ty14,ty15,tyint,ty21,ty27,ty28,toNat_gap,hgu,hth]
    refine CallR.pc (through_pc hgw (rP p) ht (level := false) (line := t.c + k) (by omega) (by simp; omega)) rfl (.inl rfl) ?_
    simp (disch := omega) only [↓RU,RV,RH,↓reduceIte,reduceEqDiff,reduceCtorEq,if_pos,List.append_nil,↓RS,RG,reduceAdd,reduceMul,reduceLeDiff,ty7,tybool,ty13,ty14,ty15,tyint,ty21,ty27,ty28,toNat_gap,hgu,hth]
    refine hK _ _ ?_;clear hK K
    refine W.cond rfl (fun h1 => ?_) (fun h1 => ?_)
    ·try simp only [RL] at h1
     exact absurd h1 (by simp)
    ·try simp only [RL] at h1
     refine W.skip ?_
     refine XbN ?_
     refine xn ?_
     refine W.k fun K hK => ?_
     simp (disch := omega) only [↓RU,RV,RH,↓reduceIte,reduceEqDiff,reduceCtorEq,if_pos,w64,↓RS,RG,reduceAdd,reduceMul,reduceLeDiff,tyint,toNat_gap]
     refine hK _ _ ?_;clear hK K
     refine xn ?_
     refine ⟨t.w - (k + 1),by omega,4,k + 1,_,rfl,by omega,by omega,fun j j1 j2 => ?_,?_,?_,rfl⟩
     ·rcases Nat.lt_succ_iff_lt_or_eq.1 j2 with h | rfl
      ·exact hall j j1 h
      ·exact hth
     ·exact Nat.le_trans htk (Nat.le_add_right _ 2)
     ·simp [Env.put,Env.of]; omega
   ·skip
    have hq : cutOf (cellZ p) t = some (false,k) := by unfold cutOf; rw [fstK_some.2 ⟨hk1,by omega,hth,hall⟩]
    simp (disch := omega) only [↓RU,RV,RH,↓reduceIte,reduceEqDiff,reduceCtorEq,if_pos,List.append_nil,↓RS,RG,reduceAdd,reduceMul,reduceLeDiff,ty7,tybool,ty13,ty14,ty15,tyint,ty21,ty27,ty28,toNat_gap,hgu,hth]
    refine CallR.pc (through_pc hgw (rP p) ht (level := false) (line := t.c + k) (by omega) (by simp; omega)) rfl (.inl rfl) ?_
    simp (disch := omega) only [↓RU,RV,RH,↓reduceIte,reduceEqDiff,reduceCtorEq,if_pos,List.append_nil,↓RS,RG,reduceAdd,reduceMul,reduceLeDiff,ty7,tybool,ty13,ty14,ty15,tyint,ty21,ty27,ty28,toNat_gap,hgu,hth]
    refine CallY.ey (hy _ hq _ _ _ (Nat.le_trans htk (Nat.le_add_right _ 2))) ?_
    rintro _ _ ⟨rfl,tk3,rfl⟩
    simp (disch := omega) only [↓RU,RV,RH,↓reduceIte,reduceEqDiff,reduceCtorEq,if_pos,List.append_nil,↓RS,RG,reduceAdd,reduceMul,reduceLeDiff,ty7,tybool,ty13,ty14,ty15,tyint,ty21,ty27,ty28,toNat_gap,hgu,hth]
    refine hK _ _ ?_;clear hK K
    refine W.cond rfl (fun h1 => ?_) (fun h1 => ?_)
    ·try simp only [RL] at h1
     refine W.ret ?_
     refine XBlock.ret ?_
     refine XThen.ret ?_
     refine XThen.ret ?_
     refine XBlock.ret ?_
     refine XThen.ret ?_
     refine Br rfl ?_
     exact ⟨4,.inr ⟨_,_,hq,rfl⟩⟩
    ·try simp only [RL] at h1
     exact absurd h1 (by simp)
 ·try simp only [RL] at h
  obtain rfl : k = t.w := by omega
  refine W.exit ?_
  refine xe ?_
  refine xe ?_
  refine XBlock.hit ?_
  refine xn ?_
  refine W.r fun K hK => ?_
  simp (disch := omega) only [↓RU,RV,RH,↓reduceIte,reduceEqDiff,reduceCtorEq,if_pos,w64,↓RS,RG,reduceAdd,reduceMul,reduceLeDiff,ty7,ty13,ty15,tyint,ty21,ty28,toNat_gap]
  refine hK _ _ ?_;clear hK K
  refine W.block ?_
  refine W.loop [0,1,6] (fun n vs S => ∃ k tk2 : Nat,n = t.h - k ∧ 1 ≤ k ∧ k ≤ t.h ∧ (∀ j,1 ≤ j → j < k → thL (cellZ p) t j = false) ∧ tk ≤ tk2 ∧ vs = [.yl l,.ip [eFloor (gP p) (rP p),.int .i64 t.r,.int .i64 t.c,.int .i64 t.h,.int .i64 t.w] 0,.int .i64 ((t.r + k : Nat) : Int)] ∧ S = ⟨[a,b,c,d],tk2⟩) (t.h - 1) ?_ ?_
  ·refine ⟨4,1,_,rfl,by omega,by omega,fun j _ _ => by omega,htk,?_,rfl⟩
   simp [Env.put,Env.of,argEnv]
  rintro n vs S - ⟨k,tk2,rfl,hk1,h_k,hall2,htk,rfl,rfl⟩
  refine W.seq ?_
  refine W.r fun K hK => ?_
  simp (disch := omega) only [↓RU,RV,RH,↓reduceIte,reduceEqDiff,reduceCtorEq,if_pos,w64,↓RS,RG,reduceAdd,reduceMul,reduceLeDiff,ty7,ty13,ty15,tyint,ty21,ty28,toNat_gap]
  refine hK _ _ ?_;clear hK K
  refine W.cond rfl (fun h => ?_) (fun h => ?_)
  ·try simp only [RL] at h
   have hgu := thG_l hp ht hk1 (show k < t.h by omega)
   have e1 : ((t.h : Nat) : Int) - ((k : Nat) : Int) = ((t.h - k : Nat) : Int) := by omega
   refine W.skip ?_
   refine xn ?_
   refine W.seq ?_
   refine W.block ?_
   refine W.seq (W.draw_two (r1 := [_,_,_,_,_,_]) (r2 := [_,_,_,_,_,_]) [0,1,2,3,4,5] [0,1,3,2,4,5] [0,1] 2 3 1 rfl (by kernel_rfl) (by kernel_rfl) rfl rfl (fun K hK => ?_) (fun K hK => ?_))
   ·simp (disch := omega) only [↓RU,RV,RH,↓reduceIte,reduceEqDiff,reduceCtorEq,if_pos,↓RS,RG,reduceAdd,reduceMul,reduceLeDiff,ty7,ty13,ty15,tyint,ty21,ty28,toNat_gap]
    refine hK _ _ ?_;clear hK K
    refine xn ?_
    refine W.r fun K hK => ?_
    simp (disch := omega) only [↓RU,RV,RH,↓reduceIte,reduceEqDiff,reduceCtorEq,if_pos,w64,↓RS,RG,reduceAdd,reduceMul,reduceLeDiff,ty7,ty13,ty15,tyint,ty21,ty28,toNat_gap]
    refine hK _ _ ?_;clear hK K
    refine W.seq_pk 11 [some 81,some 82,some 83,some 84,some 85,some 86] [4] (by decide) (by kernel_rfl) fun K hK => ?_
    simp only [List.take_succ_cons,List.take_zero,List.drop_succ_cons,List.drop_zero]
    refine eRunK_go rfl ?_
    simp (disch := omega) only [↓RU,RV,RH,↓reduceIte,reduceEqDiff,reduceCtorEq,if_pos,w64,↓RS,RG,reduceAdd,reduceMul,reduceLeDiff,ty7,ty13,ty15,tyint,ty21,ty28,toNat_gap,e1,keeps_cons,keeps_nil]
    refine eRunK_pend (.ip [eFloor (gP p) (rP p),.int .i64 t.r,.int .i64 t.c,.int .i64 t.h,.int .i64 t.w] 1) rfl rfl rfl (fun S' hS => ?_) ?_
    ·skip
     have k4 := (hS 4 (by decide)).trans (show _ = some _ from rfl)
     simp (disch := omega) only [↓RU,RV,RH,↓reduceIte,reduceEqDiff,reduceCtorEq,if_pos,w64,↓RS,RG,reduceAdd,reduceMul,reduceLeDiff,ty7,ty13,ty15,tyint,ty21,ty28,toNat_gap,e1,pp_load,pp_nil,pp_fa,pp_ia,k4]
    refine eRunK_pend (.ip [eFloor (gP p) (rP p),.int .i64 t.r,.int .i64 t.c,.int .i64 t.h,.int .i64 t.w] 3) rfl rfl rfl (fun S' hS => ?_) ?_
    ·skip
     have k4 := (hS 4 (by decide)).trans (show _ = some _ from rfl)
     simp (disch := omega) only [↓RU,RV,RH,↓reduceIte,reduceEqDiff,reduceCtorEq,if_pos,w64,↓RS,RG,reduceAdd,reduceMul,reduceLeDiff,ty7,ty13,ty15,tyint,ty21,ty28,toNat_gap,e1,pp_load,pp_nil,pp_fa,pp_ia,k4]
    refine eRunK_pend (.int .i64 t.h) rfl rfl rfl (fun S' hS => ?_) ?_
    ·skip
     have k4 := (hS 4 (by decide)).trans (show _ = some _ from rfl)
     simp (disch := omega) only [↓RU,RV,RH,↓reduceIte,reduceEqDiff,reduceCtorEq,if_pos,w64,↓RS,RG,reduceAdd,reduceMul,reduceLeDiff,ty7,ty13,ty15,tyint,ty21,ty28,toNat_gap,e1,pp_load,pp_nil,pp_fa,pp_ia,k4]
    refine eRunK_pend (.ref 4 tk2 1) rfl rfl rfl (fun S' hS => ?_) ?_
    ·skip
     have k4 := (hS 4 (by decide)).trans (show _ = some _ from rfl)
     simp (disch := omega) only [↓RU,RV,RH,↓reduceIte,reduceEqDiff,reduceCtorEq,if_pos,w64,↓RS,RG,reduceAdd,reduceMul,reduceLeDiff,ty7,ty13,ty15,tyint,ty21,ty28,toNat_gap,e1,pp_load,pp_nil,pp_fa,pp_ia,k4]
    refine eRunK_pend (.ref 4 tk2 3) rfl rfl rfl (fun S' hS => ?_) ?_
    ·skip
     have k4 := (hS 4 (by decide)).trans (show _ = some _ from rfl)
     simp (disch := omega) only [↓RU,RV,RH,↓reduceIte,reduceEqDiff,reduceCtorEq,if_pos,w64,↓RS,RG,reduceAdd,reduceMul,reduceLeDiff,ty7,ty13,ty15,tyint,ty21,ty28,toNat_gap,e1,pp_load,pp_nil,pp_fa,pp_ia,k4]
    refine eRunK_pend (.int .i64 k) rfl rfl rfl (fun S' hS => ?_) ?_
    ·skip
     have k4 := (hS 4 (by decide)).trans (show _ = some _ from rfl)
     simp (disch := omega) only [↓RU,RV,RH,↓reduceIte,reduceEqDiff,reduceCtorEq,if_pos,w64,↓RS,RG,reduceAdd,reduceMul,reduceLeDiff,ty7,ty13,ty15,tyint,ty21,ty28,toNat_gap,e1,pp_load,pp_nil,pp_fa,pp_ia,k4]
    refine eRunK_go rfl ?_
    simp (disch := omega) only [↓RU,RV,RH,↓reduceIte,reduceEqDiff,reduceCtorEq,if_pos,w64,↓RS,RG,reduceAdd,reduceMul,reduceLeDiff,ty7,ty13,ty15,tyint,ty21,ty28,toNat_gap,e1,keeps_cons,keeps_nil]
    refine eRunK_go rfl ?_
    simp (disch := omega) only [↓RU,RV,RH,↓reduceIte,reduceEqDiff,reduceCtorEq,if_pos,w64,↓RS,RG,reduceAdd,reduceMul,reduceLeDiff,ty7,ty13,ty15,tyint,ty21,ty28,toNat_gap,e1,keeps_cons,keeps_nil]
    refine eRunK_go rfl ?_
    simp (disch := omega) only [↓RU,RV,RH,↓reduceIte,reduceEqDiff,reduceCtorEq,if_pos,w64,↓RS,RG,reduceAdd,reduceMul,reduceLeDiff,ty7,ty13,ty15,tyint,ty21,ty28,toNat_gap,e1,keeps_cons,keeps_nil]
    refine eRunK_go rfl ?_
    simp (disch := omega) only [↓RU,RV,RH,↓reduceIte,reduceEqDiff,reduceCtorEq,if_pos,w64,↓RS,RG,reduceAdd,reduceMul,reduceLeDiff,ty7,ty13,ty15,tyint,ty21,ty28,toNat_gap,e1,keeps_cons,keeps_nil]
    refine eRunK_end ?_
    simp (disch := omega) only [↓RU,RV,RH,↓reduceIte,reduceEqDiff,reduceCtorEq,if_pos,w64,↓RS,RG,reduceAdd,reduceMul,reduceLeDiff,ty7,ty13,ty15,tyint,ty21,ty28,toNat_gap,e1]
    refine hK _ _ ?_;clear hK K
    refine W.r fun K hK => ?_
    cases hth : thL (cellZ p) t k
    ·skip
     simp (disch := omega) only [↓RU,RV,RH,↓reduceIte,reduceEqDiff,reduceCtorEq,if_pos,List.append_nil,↓RS,RG,reduceAdd,reduceMul,reduceLeDiff,ty7,tybool,ty13,ty14,ty15,tyint,ty21,ty27,ty28,toNat_gap,hgu,hth]
     refine CallR.pc (through_pc hgw (rP p) ht (level := true) (line := t.r + k) (by omega) (by simp; omega)) rfl (.inl rfl) ?_
     simp (disch := omega) only [↓RU,RV,RH,↓reduceIte,reduceEqDiff,reduceCtorEq,if_pos,List.append_nil,↓RS,RG,reduceAdd,reduceMul,reduceLeDiff,ty7,tybool,ty13,ty14,ty15,tyint,ty21,ty27,ty28,toNat_gap,hgu,hth]
     refine hK _ _ ?_;clear hK K
     refine W.cond rfl (fun h1 => ?_) (fun h1 => ?_)
     ·try simp only [RL] at h1
      exact absurd h1 (by simp)
     ·try simp only [RL] at h1
      refine W.skip ?_
      refine XbN ?_
      refine xn ?_
      refine W.k fun K hK => ?_
      simp (disch := omega) only [↓RU,RV,RH,↓reduceIte,reduceEqDiff,reduceCtorEq,if_pos,w64,↓RS,RG,reduceAdd,reduceMul,reduceLeDiff,tyint,toNat_gap]
      refine hK _ _ ?_;clear hK K
      refine xn ?_
      refine ⟨t.h - (k + 1),by omega,4,k + 1,_,rfl,by omega,by omega,fun j j1 j2 => ?_,?_,?_,rfl⟩
      ·rcases Nat.lt_succ_iff_lt_or_eq.1 j2 with h | rfl
       ·exact hall2 j j1 h
       ·exact hth
      ·exact Nat.le_trans htk (Nat.le_add_right _ 2)
      ·simp [Env.put,Env.of]; omega
    ·skip
     have hq : cutOf (cellZ p) t = some (true,k) := by unfold cutOf; rw [fstK_none.2 hall,fstK_some.2 ⟨hk1,by omega,hth,hall2⟩]
     simp (disch := omega) only [↓RU,RV,RH,↓reduceIte,reduceEqDiff,reduceCtorEq,if_pos,List.append_nil,↓RS,RG,reduceAdd,reduceMul,reduceLeDiff,ty7,tybool,ty13,ty14,ty15,tyint,ty21,ty27,ty28,toNat_gap,hgu,hth]
     refine CallR.pc (through_pc hgw (rP p) ht (level := true) (line := t.r + k) (by omega) (by simp; omega)) rfl (.inl rfl) ?_
     simp (disch := omega) only [↓RU,RV,RH,↓reduceIte,reduceEqDiff,reduceCtorEq,if_pos,List.append_nil,↓RS,RG,reduceAdd,reduceMul,reduceLeDiff,ty7,tybool,ty13,ty14,ty15,tyint,ty21,ty27,ty28,toNat_gap,hgu,hth]
     refine CallY.ey (hy _ hq _ _ _ (Nat.le_trans htk (Nat.le_add_right _ 2))) ?_
     rintro _ _ ⟨rfl,tk3,rfl⟩
     simp (disch := omega) only [↓RU,RV,RH,↓reduceIte,reduceEqDiff,reduceCtorEq,if_pos,List.append_nil,↓RS,RG,reduceAdd,reduceMul,reduceLeDiff,ty7,tybool,ty13,ty14,ty15,tyint,ty21,ty27,ty28,toNat_gap,hgu,hth]
     refine hK _ _ ?_;clear hK K
     refine W.cond rfl (fun h1 => ?_) (fun h1 => ?_)
     ·try simp only [RL] at h1
      refine W.ret ?_
      refine XBlock.ret ?_
      refine XThen.ret ?_
      refine XThen.ret ?_
      refine XBlock.ret ?_
      refine Br rfl ?_
      exact ⟨4,.inr ⟨_,_,hq,rfl⟩⟩
     ·try simp only [RL] at h1
      exact absurd h1 (by simp)
   ·simp (disch := omega) only [↓RU,RV,RH,↓reduceIte,reduceEqDiff,reduceCtorEq,if_pos,↓RS,RG,reduceAdd,reduceMul,reduceLeDiff,ty7,ty13,ty15,tyint,ty21,ty28,toNat_gap]
    refine hK _ _ ?_;clear hK K
    refine xn ?_
    refine W.r fun K hK => ?_
    simp (disch := omega) only [↓RU,RV,RH,↓reduceIte,reduceEqDiff,reduceCtorEq,if_pos,w64,↓RS,RG,reduceAdd,reduceMul,reduceLeDiff,ty7,ty13,ty15,tyint,ty21,ty28,toNat_gap]
    refine hK _ _ ?_;clear hK K
    refine W.seq_pk 11 [some 81,some 82,some 83,some 84,some 85,some 86] [5] (by decide) (by kernel_rfl) fun K hK => ?_
    simp only [List.take_succ_cons,List.take_zero,List.drop_succ_cons,List.drop_zero]
    refine eRunK_go rfl ?_
    simp (disch := omega) only [↓RU,RV,RH,↓reduceIte,reduceEqDiff,reduceCtorEq,if_pos,w64,↓RS,RG,reduceAdd,reduceMul,reduceLeDiff,ty7,ty13,ty15,tyint,ty21,ty28,toNat_gap,e1,keeps_cons,keeps_nil]
    refine eRunK_pend (.ip [eFloor (gP p) (rP p),.int .i64 t.r,.int .i64 t.c,.int .i64 t.h,.int .i64 t.w] 1) rfl rfl rfl (fun S' hS => ?_) ?_
    ·skip
     have k5 := (hS 5 (by decide)).trans (show _ = some _ from rfl)
     simp (disch := omega) only [↓RU,RV,RH,↓reduceIte,reduceEqDiff,reduceCtorEq,if_pos,w64,↓RS,RG,reduceAdd,reduceMul,reduceLeDiff,ty7,ty13,ty15,tyint,ty21,ty28,toNat_gap,e1,pp_load,pp_nil,pp_fa,pp_ia,k5]
    refine eRunK_pend (.ip [eFloor (gP p) (rP p),.int .i64 t.r,.int .i64 t.c,.int .i64 t.h,.int .i64 t.w] 3) rfl rfl rfl (fun S' hS => ?_) ?_
    ·skip
     have k5 := (hS 5 (by decide)).trans (show _ = some _ from rfl)
     simp (disch := omega) only [↓RU,RV,RH,↓reduceIte,reduceEqDiff,reduceCtorEq,if_pos,w64,↓RS,RG,reduceAdd,reduceMul,reduceLeDiff,ty7,ty13,ty15,tyint,ty21,ty28,toNat_gap,e1,pp_load,pp_nil,pp_fa,pp_ia,k5]
    refine eRunK_pend (.int .i64 t.h) rfl rfl rfl (fun S' hS => ?_) ?_
    ·skip
     have k5 := (hS 5 (by decide)).trans (show _ = some _ from rfl)
     simp (disch := omega) only [↓RU,RV,RH,↓reduceIte,reduceEqDiff,reduceCtorEq,if_pos,w64,↓RS,RG,reduceAdd,reduceMul,reduceLeDiff,ty7,ty13,ty15,tyint,ty21,ty28,toNat_gap,e1,pp_load,pp_nil,pp_fa,pp_ia,k5]
    refine eRunK_pend (.ref 5 (tk2 + 1) 1) rfl rfl rfl (fun S' hS => ?_) ?_
    ·skip
     have k5 := (hS 5 (by decide)).trans (show _ = some _ from rfl)
     simp (disch := omega) only [↓RU,RV,RH,↓reduceIte,reduceEqDiff,reduceCtorEq,if_pos,w64,↓RS,RG,reduceAdd,reduceMul,reduceLeDiff,ty7,ty13,ty15,tyint,ty21,ty28,toNat_gap,e1,pp_load,pp_nil,pp_fa,pp_ia,k5]
    refine eRunK_pend (.ref 5 (tk2 + 1) 3) rfl rfl rfl (fun S' hS => ?_) ?_
    ·skip
     have k5 := (hS 5 (by decide)).trans (show _ = some _ from rfl)
     simp (disch := omega) only [↓RU,RV,RH,↓reduceIte,reduceEqDiff,reduceCtorEq,if_pos,w64,↓RS,RG,reduceAdd,reduceMul,reduceLeDiff,ty7,ty13,ty15,tyint,ty21,ty28,toNat_gap,e1,pp_load,pp_nil,pp_fa,pp_ia,k5]
    refine eRunK_pend (.int .i64 k) rfl rfl rfl (fun S' hS => ?_) ?_
    ·skip
     have k5 := (hS 5 (by decide)).trans (show _ = some _ from rfl)
     simp (disch := omega) only [↓RU,RV,RH,↓reduceIte,reduceEqDiff,reduceCtorEq,if_pos,w64,↓RS,RG,reduceAdd,reduceMul,reduceLeDiff,ty7,ty13,ty15,tyint,ty21,ty28,toNat_gap,e1,pp_load,pp_nil,pp_fa,pp_ia,k5]
    refine eRunK_go rfl ?_
    simp (disch := omega) only [↓RU,RV,RH,↓reduceIte,reduceEqDiff,reduceCtorEq,if_pos,w64,↓RS,RG,reduceAdd,reduceMul,reduceLeDiff,ty7,ty13,ty15,tyint,ty21,ty28,toNat_gap,e1,keeps_cons,keeps_nil]
    refine eRunK_go rfl ?_
    simp (disch := omega) only [↓RU,RV,RH,↓reduceIte,reduceEqDiff,reduceCtorEq,if_pos,w64,↓RS,RG,reduceAdd,reduceMul,reduceLeDiff,ty7,ty13,ty15,tyint,ty21,ty28,toNat_gap,e1,keeps_cons,keeps_nil]
    refine eRunK_go rfl ?_
    simp (disch := omega) only [↓RU,RV,RH,↓reduceIte,reduceEqDiff,reduceCtorEq,if_pos,w64,↓RS,RG,reduceAdd,reduceMul,reduceLeDiff,ty7,ty13,ty15,tyint,ty21,ty28,toNat_gap,e1,keeps_cons,keeps_nil]
    refine eRunK_go rfl ?_
    simp (disch := omega) only [↓RU,RV,RH,↓reduceIte,reduceEqDiff,reduceCtorEq,if_pos,w64,↓RS,RG,reduceAdd,reduceMul,reduceLeDiff,ty7,ty13,ty15,tyint,ty21,ty28,toNat_gap,e1,keeps_cons,keeps_nil]
    refine eRunK_end ?_
    simp (disch := omega) only [↓RU,RV,RH,↓reduceIte,reduceEqDiff,reduceCtorEq,if_pos,w64,↓RS,RG,reduceAdd,reduceMul,reduceLeDiff,ty7,ty13,ty15,tyint,ty21,ty28,toNat_gap,e1]
    refine hK _ _ ?_;clear hK K
    refine W.r fun K hK => ?_
    cases hth : thL (cellZ p) t k
    ·skip
     simp (disch := omega) only [↓RU,RV,RH,↓reduceIte,reduceEqDiff,reduceCtorEq,if_pos,List.append_nil,↓RS,RG,reduceAdd,reduceMul,reduceLeDiff,ty7,tybool,ty13,ty14,ty15,tyint,ty21,ty27,ty28,toNat_gap,hgu,hth]
     refine CallR.pc (through_pc hgw (rP p) ht (level := true) (line := t.r + k) (by omega) (by simp; omega)) rfl (.inl rfl) ?_
     simp (disch := omega) only [↓RU,RV,RH,↓reduceIte,reduceEqDiff,reduceCtorEq,if_pos,List.append_nil,↓RS,RG,reduceAdd,reduceMul,reduceLeDiff,ty7,tybool,ty13,ty14,ty15,tyint,ty21,ty27,ty28,toNat_gap,hgu,hth]
     refine hK _ _ ?_;clear hK K
     refine W.cond rfl (fun h1 => ?_) (fun h1 => ?_)
     ·try simp only [RL] at h1
      exact absurd h1 (by simp)
     ·try simp only [RL] at h1
      refine W.skip ?_
      refine XbN ?_
      refine xn ?_
      refine W.k fun K hK => ?_
      simp (disch := omega) only [↓RU,RV,RH,↓reduceIte,reduceEqDiff,reduceCtorEq,if_pos,w64,↓RS,RG,reduceAdd,reduceMul,reduceLeDiff,tyint,toNat_gap]
      refine hK _ _ ?_;clear hK K
      refine xn ?_
      refine ⟨t.h - (k + 1),by omega,4,k + 1,_,rfl,by omega,by omega,fun j j1 j2 => ?_,?_,?_,rfl⟩
      ·rcases Nat.lt_succ_iff_lt_or_eq.1 j2 with h | rfl
       ·exact hall2 j j1 h
       ·exact hth
      ·exact Nat.le_trans htk (Nat.le_add_right _ 2)
      ·simp [Env.put,Env.of]; omega
    ·skip
     have hq : cutOf (cellZ p) t = some (true,k) := by unfold cutOf; rw [fstK_none.2 hall,fstK_some.2 ⟨hk1,by omega,hth,hall2⟩]
     simp (disch := omega) only [↓RU,RV,RH,↓reduceIte,reduceEqDiff,reduceCtorEq,if_pos,List.append_nil,↓RS,RG,reduceAdd,reduceMul,reduceLeDiff,ty7,tybool,ty13,ty14,ty15,tyint,ty21,ty27,ty28,toNat_gap,hgu,hth]
     refine CallR.pc (through_pc hgw (rP p) ht (level := true) (line := t.r + k) (by omega) (by simp; omega)) rfl (.inl rfl) ?_
     simp (disch := omega) only [↓RU,RV,RH,↓reduceIte,reduceEqDiff,reduceCtorEq,if_pos,List.append_nil,↓RS,RG,reduceAdd,reduceMul,reduceLeDiff,ty7,tybool,ty13,ty14,ty15,tyint,ty21,ty27,ty28,toNat_gap,hgu,hth]
     refine CallY.ey (hy _ hq _ _ _ (Nat.le_trans htk (Nat.le_add_right _ 2))) ?_
     rintro _ _ ⟨rfl,tk3,rfl⟩
     simp (disch := omega) only [↓RU,RV,RH,↓reduceIte,reduceEqDiff,reduceCtorEq,if_pos,List.append_nil,↓RS,RG,reduceAdd,reduceMul,reduceLeDiff,ty7,tybool,ty13,ty14,ty15,tyint,ty21,ty27,ty28,toNat_gap,hgu,hth]
     refine hK _ _ ?_;clear hK K
     refine W.cond rfl (fun h1 => ?_) (fun h1 => ?_)
     ·try simp only [RL] at h1
      refine W.ret ?_
      refine XBlock.ret ?_
      refine XThen.ret ?_
      refine XThen.ret ?_
      refine XBlock.ret ?_
      refine Br rfl ?_
      exact ⟨4,.inr ⟨_,_,hq,rfl⟩⟩
     ·try simp only [RL] at h1
      exact absurd h1 (by simp)
  ·try simp only [RL] at h
   obtain rfl : k = t.h := by omega
   refine W.exit ?_
   refine xe ?_
   refine xe ?_
   refine XBlock.hit ?_
   refine BodyQ.norm rfl ?_
   exact ⟨4,.inl ⟨_,cutOf_none.2 ⟨hall,hall2⟩,rfl⟩⟩
def noPiece : PV := .agg [.bool false,.nilp,.int .i64 0,.int .i64 0,.int .i64 0,.int .i64 0,.nilp,.int .i64 0,.int .i64 0,.int .i64 0,.int .i64 0]
def firstV (p : List Txt) (t : Pt) : PV := match cutOf (cellZ p) t with | some q => .tup [ePiece (gP p) (rP p) t q,.bool true] | none => .tup [noPiece,.bool false]
theorem first_pc {p : List Txt} (hp : planB p = true) {t : Pt} (ht : t.In p.length (hdRow p).length) : PC Tryz.prog 73 [ePart (gP p) (rP p) t.rect] (firstV p t) false := by
 simp only [ePart,Pt.rect,Rect.cells]
 refine PC.ofV ⟨Tryz.func73,by kernel_rfl,rfl,by kernel_rfl⟩ tabOk mixed (by show 1 ≤ Tryz.f73.ntmps; decide) ?_
 refine V.seq_region fun K hK => ?_
 simp (disch := omega) only [↓RU,RV,RH,↓reduceIte,reduceEqDiff,reduceCtorEq,if_pos,↓RS,RG,reduceAdd,reduceMul,reduceLeDiff,ty7,tybool,ty13,ty14,ty15,tyint,ty21,ty27,ty28]
 refine hK _ _ ?_;clear hK K
 refine V.seq ?_
 refine V.seq_region fun K hK => ?_
 simp (disch := omega) only [↓RU,RV,RH,↓reduceIte,reduceEqDiff,reduceCtorEq,if_pos,List.append_nil,↓RS,RG,reduceAdd,reduceMul,reduceLeDiff,ty7,ty13,ty15,tyint,ty21,ty28]
 refine CallR.pc (cuts_pc (gP p) (rP p) t.rect) rfl (.inr rfl) ?_
 simp (disch := omega) only [↓RU,RV,RH,↓reduceIte,reduceEqDiff,reduceCtorEq,if_pos,List.append_nil,↓RS,RG,reduceAdd,reduceMul,reduceLeDiff,ty7,ty13,ty15,tyint,ty21,ty28]
 refine hK _ _ ?_;clear hK K
 refine V.block ?_
 refine V.rangeFunc [2,3] rfl fun l r hr hst hpd => ?_
 refine ⟨_,cuts1_ev hp ht l _ _ _ _ _ (fun q => .arr 1 60 11 [.bool q.1,eFloor (gP p) (rP p),.int .i64 (t.one q).r,.int .i64 (t.one q).c,.int .i64 (t.one q).h,.int .i64 (t.one q).w,eFloor (gP p) (rP p),.int .i64 (t.two q).r,.int .i64 (t.two q).c,.int .i64 (t.two q).h,.int .i64 (t.two q).w]) (fun _ => .arr 2 4 1 [.bool true]) (fun _ => .lp 3 l ({ r with state := .done,pending := some .ret },[2,3]) [.ref 1 1 0,.ref 2 2 0]) (fun q hq x y tk2 htk => ?_),?_⟩
 ·refine Ey.of (o := 3) tabOk mixed rfl hr hst rfl ?_
  change W _ _ _ _ (Env.put (Env.of [2,3] [.ref 1 1 0,.ref 2 2 0]) (some 7) (.agg [.bool q.1,eFloor (gP p) (rP p),.int .i64 (t.one q).r,.int .i64 (t.one q).c,.int .i64 (t.one q).h,.int .i64 (t.one q).w,eFloor (gP p) (rP p),.int .i64 (t.two q).r,.int .i64 (t.two q).c,.int .i64 (t.two q).h,.int .i64 (t.two q).w])) _
  refine W.k fun K hK => ?_
  simp (disch := omega) only [↓RU,RV,RH,↓reduceIte,reduceEqDiff,reduceCtorEq,if_pos,↓RS,RG,reduceAdd,reduceMul,reduceLeDiff,ty7,tybool,ty13,ty14,ty15,tyint,ty21,ty27,ty28]
  refine hK _ _ ?_;clear hK K
  refine xn ⟨_,_,_,_,rfl,hst,?_⟩
  simp only [List.set_cons_succ,List.set_cons_zero]
  refine W.block ?_
  refine W.r fun K hK => ?_
  simp (disch := omega) only [↓RU,RV,RH,↓reduceIte,reduceEqDiff,reduceCtorEq,if_pos,↓RS,RG,reduceAdd,reduceMul,reduceLeDiff,ty7,tybool,ty13,ty14,ty15,tyint,ty21,ty27,ty28]
  refine hK _ _ ?_;clear hK K
  refine W.ret ?_
  refine XBlock.ret ?_
  exact ⟨_,_,_,_,6,rfl,rfl,_,rfl⟩
 ·rintro v S2 (⟨tk2,hq,rfl⟩ | ⟨q,tk2,hq,rfl⟩)
  ·skip
   refine ⟨_,_,_,_,.normal,rfl,by rw [hst]; simp,by rw [hpd]; rfl,?_⟩
   change XBlock _ _ _ _ ⟨[_,_,_],_⟩
   refine XbN ?_
   refine xn ?_
   refine W.v ?_
   refine W.r fun K hK => ?_
   simp (disch := omega) only [↓RU,RV,RH,↓reduceIte,reduceEqDiff,reduceCtorEq,if_pos,↓RS,RG,reduceAdd,reduceMul,reduceLeDiff,ty7,tybool,ty13,ty14,ty15,tyint,ty21,ty27,ty28]
   refine hK _ _ ?_;clear hK K
   refine W.ret ?_
   refine Br rfl ?_
   simp only [firstV,hq]
   rfl
  ·skip
   refine ⟨_,_,_,_,.ret,rfl,by simp,rfl,?_⟩
   change XBlock _ _ _ _ ⟨[_,_,_],_⟩
   refine XBlock.ret ?_
   refine XThen.ret ?_
   refine Br rfl ?_
   simp only [firstV,hq]
   rfl
theorem l3One_pc {p : List Txt} (hs : Sm p) (hg : gridB p = true) : PC Tryz.prog 80 [eStrs p] (.bool (oneB p)) true := by
 have hp := hs.rows
 have hsm := grid_small hg
 obtain ⟨row0,hrow0,hrm0⟩ := get_of hsm.1
 have hhd := hdRow_of hrow0
 have hw6 := hsm.2.2 row0 hrm0
 have hw1 := row_pos hg hrow0
 obtain ⟨c0,hc0,-⟩ := get_of (show 0 < row0.length by omega)
 have hone : oneB p = p.all (fun row => row.all fun c => decide (c = c0)) := by simp [oneB,hhd,hc0]
 refine PC.of ⟨Tryz.func80,by kernel_rfl,rfl,by kernel_rfl⟩ tabOk mixed (by show 1 ≤ Tryz.f80.ntmps; decide) ?_
 refine W.r fun K hK => ?_
 simp (disch := omega) only [↓RU,RV,RH,↓reduceIte,reduceEqDiff,reduceCtorEq,if_pos]
 refine hK _ _ ?_;clear hK K
 refine W.seq ?_
 refine W.r fun K hK => ?_
 simp (disch := omega) only [↓RU,RV,RH,↓reduceIte,reduceEqDiff,reduceCtorEq,if_pos]
 refine hK _ _ ?_;clear hK K
 refine W.block ?_
 refine W.loop [0,3] (fun n vs S => ∃ i : Nat,n = p.length - i ∧ i ≤ p.length ∧ ((p.take i).all (fun row => row.all fun c => decide (c = c0)) = true) ∧ vs = [eStrs p,.int .i64 i] ∧ S = ⟨[],0⟩) (p.length) ?_ ?_
 ·refine ⟨0,0,rfl,Nat.zero_le _,rfl,?_,rfl⟩
  simp [Env.put,Env.of,argEnv]
 rintro n vs S - ⟨i,rfl,h_i,hall,rfl,rfl⟩
 refine W.seq ?_
 refine W.r fun K hK => ?_
 simp (disch := omega) only [↓RU,RV,RH,↓reduceIte,reduceEqDiff,reduceCtorEq,if_pos,w64,ty5,tyint,tystring]
 refine hK _ _ ?_;clear hK K
 refine W.cond rfl (fun h => ?_) (fun h => ?_)
 ·try simp only [RL] at h
  obtain ⟨row,hrow,hrm⟩ := get_of (show i < p.length by omega)
  have hrl := hsm.2.2 row hrm
  refine W.skip ?_
  refine xn ?_
  refine W.seq ?_
  refine W.block ?_
  refine W.r fun K hK => ?_
  simp (disch := omega) only [↓RU,RV,RH,↓reduceIte,reduceEqDiff,reduceCtorEq,if_pos]
  refine hK _ _ ?_;clear hK K
  refine W.block ?_
  refine W.loop [0,3,4] (fun n vs S => ∃ k : Nat,n = row.length - k ∧ k ≤ row.length ∧ ((row.take k).all (fun c => decide (c = c0)) = true) ∧ vs = [eStrs p,.int .i64 i,.int .i64 k] ∧ S = ⟨[],0⟩) (row.length) ?_ ?_
  ·refine ⟨0,0,rfl,Nat.zero_le _,rfl,?_,rfl⟩
   simp [Env.put,Env.of]
  rintro n vs S - ⟨k,rfl,h_k,hr2,rfl,rfl⟩
  refine W.seq ?_
  refine W.r fun K hK => ?_
  simp (disch := omega) only [↓RU,RV,RH,↓reduceIte,reduceEqDiff,reduceCtorEq,if_pos,w64,ty5,tyint,tystring,hrow]
  refine hK _ _ ?_;clear hK K
  refine W.cond rfl (fun h1 => ?_) (fun h1 => ?_)
  ·try simp only [RL] at h1
   obtain ⟨c,hc,hcm⟩ := get_of (show k < row.length by omega)
   refine W.skip ?_
   refine xn ?_
   refine W.seq ?_
   refine W.block ?_
   refine W.seq_draw (by kernel_rfl) fun K hK => ?_
   simp (disch := omega) only [↓RU,RV,RH,↓reduceIte,reduceEqDiff,reduceCtorEq,if_pos,w64,ty5,tystring,ty30,hrow,hc,hrow0,hc0,Int.toNat_zero,Nat.zero_mul,Int.reduceToNat]
   refine hK _ _ ?_;clear hK K
   refine W.cond rfl (fun h2 => ?_) (fun h2 => ?_)
   ·try simp only [RL] at h2
    have hne : ¬ c = c0 := by rintro rfl; simp at h2
    refine W.r fun K hK => ?_
    simp (disch := omega) only [↓RU,RV,RH,↓reduceIte,reduceEqDiff,reduceCtorEq,if_pos]
    refine hK _ _ ?_;clear hK K
    refine W.ret ?_
    refine XBlock.ret ?_
    refine XThen.ret ?_
    refine XThen.ret ?_
    refine XBlock.ret ?_
    refine XBlock.ret ?_
    refine XThen.ret ?_
    refine XThen.ret ?_
    refine XBlock.ret ?_
    refine XThen.ret ?_
    refine Br rfl ?_
    have : oneB p = false := by rw [hone,List.all_eq_false]; exact ⟨row,hrm,by simp only [Bool.not_eq_true,List.all_eq_false]; exact ⟨c,hcm,by simpa using hne⟩⟩
    rw [this]
    rfl
   ·try simp only [RL] at h2
    have heq : c = c0 := by simpa [u8_eq] using h2
    refine W.skip ?_
    refine XbN ?_
    refine xn ?_
    refine W.k fun K hK => ?_
    simp (disch := omega) only [↓RU,RV,RH,↓reduceIte,reduceEqDiff,reduceCtorEq,if_pos,w64,tyint]
    refine hK _ _ ?_;clear hK K
    refine xn ?_
    refine ⟨row.length - (k + 1),by omega,0,k + 1,rfl,by omega,all_tk hc hr2 (decide_eq_true heq),?_,rfl⟩
    simp [Env.put,Env.of]
  ·try simp only [RL] at h1
   have hrk : k = row.length := by omega
   rw [hrk,List.take_length] at hr2
   refine W.exit ?_
   refine xe ?_
   refine xe ?_
   refine XBlock.hit ?_
   refine XbN ?_
   refine xn ?_
   refine W.k fun K hK => ?_
   simp (disch := omega) only [↓RU,RV,RH,↓reduceIte,reduceEqDiff,reduceCtorEq,if_pos,w64,tyint]
   refine hK _ _ ?_;clear hK K
   refine xn ?_
   refine ⟨p.length - (i + 1),by omega,0,i + 1,rfl,by omega,all_tk hrow hall hr2,?_,rfl⟩
   simp [Env.put,Env.of]
 ·try simp only [RL] at h
  refine W.exit ?_
  refine xe ?_
  refine xe ?_
  refine XBlock.hit ?_
  refine xn ?_
  refine W.r fun K hK => ?_
  simp (disch := omega) only [↓RU,RV,RH,↓reduceIte,reduceEqDiff,reduceCtorEq,if_pos]
  refine hK _ _ ?_;clear hK K
  refine W.ret ?_
  refine Br rfl ?_
  have hip : i = p.length := by omega
  rw [hip,List.take_length] at hall
  rw [hone,hall]
  rfl
theorem l3Cut_pc {p : List Txt} (hs : Sm p) (hg : gridB p = true) : PC Tryz.prog 81 [eStrs p] (.tup [.int .i64 (cutQ p).1,.int .i64 (cutQ p).2]) true := by
 have hp := hs.rows
 have hsm := grid_small hg
 obtain ⟨row0,hrow0,hrm0⟩ := get_of hsm.1
 have hhd := hdRow_of hrow0
 have hw6 := hsm.2.2 row0 hrm0
 have hw1 := row_pos hg hrow0
 obtain ⟨c0,hc0,-⟩ := get_of (show 0 < row0.length by omega)
 have hgt := trans_grid hg
 have hst := Sm.grid hgt
 have hsmt := grid_small hgt
 have htl := trans_len (p := p)
 have hth := trans_hd (p := p) (by rw [hhd]; omega)
 have hul : (uprights p).length ≤ 100 := by have h1 := upsTo_len p (hdRow p).length; have h2 : (p.length + 1) * (hdRow p).length ≤ 7 * 6 := Nat.mul_le_mul (by omega) (by rw [hhd]; omega); unfold uprights; omega
 have hvl : (uprights (transP p)).length ≤ 100 := by have h1 := upsTo_len (transP p) (hdRow (transP p)).length; have h2 : ((transP p).length + 1) * (hdRow (transP p)).length ≤ 7 * 6 := Nat.mul_le_mul (by omega) (by omega); unfold uprights; omega
 refine PC.of ⟨Tryz.func81,by kernel_rfl,rfl,by kernel_rfl⟩ tabOk mixed (by show 1 ≤ Tryz.f81.ntmps; decide) ?_
 refine W.r fun K hK => ?_
 simp (disch := omega) only [↓RU,RV,RH,↓reduceIte,reduceEqDiff,reduceCtorEq,if_pos]
 refine hK _ _ ?_;clear hK K
 refine W.r fun K hK => ?_
 simp (disch := omega) only [↓RU,RV,RH,↓reduceIte,reduceEqDiff,reduceCtorEq,if_pos,List.append_nil]
 refine CallR.pc (l2Upright_pc hs hg) rfl (.inr rfl) ?_
 simp (disch := omega) only [↓RU,RV,RH,↓reduceIte,reduceEqDiff,reduceCtorEq,if_pos,List.append_nil]
 refine hK _ _ ?_;clear hK K
 refine W.seq ?_
 refine W.r fun K hK => ?_
 simp (disch := omega) only [↓RU,RV,RH,↓reduceIte,reduceEqDiff,reduceCtorEq,if_pos]
 refine hK _ _ ?_;clear hK K
 refine W.block ?_
 refine W.loop [0,4,5] (fun n vs S => ∃ i : Nat,n = (uprights p).length - i ∧ i ≤ (uprights p).length ∧ (((uprights p).take i).find? (isLong p.length) = none) ∧ vs = [eStrs p,.sl ((uprights p).map eInts) (uprights p).length,.int .i64 i] ∧ S = ⟨[],0⟩) ((uprights p).length) ?_ ?_
 ·refine ⟨0,0,rfl,Nat.zero_le _,rfl,?_,rfl⟩
  simp [Env.put,Env.of,argEnv]
 rintro n vs S - ⟨i,rfl,h_i,hno,rfl,rfl⟩
 refine W.seq ?_
 refine W.r fun K hK => ?_
 simp (disch := omega) only [↓RU,RV,RH,↓reduceIte,reduceEqDiff,reduceCtorEq,if_pos,w64,ty1,tyLint,tyint]
 refine hK _ _ ?_;clear hK K
 refine W.cond rfl (fun h => ?_) (fun h => ?_)
 ·try simp only [RL] at h
  obtain ⟨u,hu,hum⟩ := get_of (show i < (uprights p).length by omega)
  obtain ⟨k,f,l,rfl,hk⟩ := ups_ok hum
  refine W.skip ?_
  refine xn ?_
  refine W.seq ?_
  refine W.block ?_
  refine W.r fun K hK => ?_
  simp (disch := omega) only [↓RU,RV,RH,↓reduceIte,reduceEqDiff,reduceCtorEq,if_pos,w64,ty1,tyLint,ty5,tyint,tystring,hu]
  refine hK _ _ ?_;clear hK K
  refine W.cond rfl (fun h1 => ?_) (fun h1 => ?_)
  ·try simp only [RL] at h1
   have hlong : isLong p.length [(k : Int),(f : Int),(l : Int)] = true := by simp [isLong,getI]; omega
   refine W.seq_draw (by kernel_rfl) fun K hK => ?_
   simp (disch := omega) only [↓RU,RV,RH,↓reduceIte,reduceEqDiff,reduceCtorEq,if_pos,ty1,tyLint,tyint,hu]
   refine hK _ _ ?_;clear hK K
   refine W.ret ?_
   refine XBlock.ret ?_
   refine XThen.ret ?_
   refine XThen.ret ?_
   refine XBlock.ret ?_
   refine XThen.ret ?_
   refine Br rfl ?_
   rw [show cutQ p = (0,(k : Int)) by unfold cutQ; rw [find_take hu hno hlong]; rfl]
   rfl
  ·try simp only [RL] at h1
   have hlong : isLong p.length [(k : Int),(f : Int),(l : Int)] = false := by simp [isLong,getI]; omega
   refine W.skip ?_
   refine XbN ?_
   refine xn ?_
   refine W.k fun K hK => ?_
   simp (disch := omega) only [↓RU,RV,RH,↓reduceIte,reduceEqDiff,reduceCtorEq,if_pos,w64,tyint]
   refine hK _ _ ?_;clear hK K
   refine xn ?_
   refine ⟨(uprights p).length - (i + 1),by omega,0,i + 1,rfl,by omega,find_take_no hu hno hlong,?_,rfl⟩
   simp [Env.put,Env.of]
 ·try simp only [RL] at h
  have hip : i = (uprights p).length := by omega
  rw [hip,List.take_length] at hno
  refine W.exit ?_
  refine xe ?_
  refine xe ?_
  refine XBlock.hit ?_
  refine xn ?_
  refine W.r fun K hK => ?_
  simp (disch := omega) only [↓RU,RV,RH,↓reduceIte,reduceEqDiff,reduceCtorEq,if_pos,List.append_nil]
  refine CallR.pc (l1Trans_pc hs hg) rfl (.inl rfl) ?_
  simp (disch := omega) only [↓RU,RV,RH,↓reduceIte,reduceEqDiff,reduceCtorEq,if_pos,List.append_nil]
  refine CallR.pc (l2Upright_pc hst hgt) rfl (.inr rfl) ?_
  simp (disch := omega) only [↓RU,RV,RH,↓reduceIte,reduceEqDiff,reduceCtorEq,if_pos,List.append_nil]
  refine hK _ _ ?_;clear hK K
  refine W.seq ?_
  refine W.r fun K hK => ?_
  simp (disch := omega) only [↓RU,RV,RH,↓reduceIte,reduceEqDiff,reduceCtorEq,if_pos]
  refine hK _ _ ?_;clear hK K
  refine W.block ?_
  refine W.loop [0,6,7] (fun n vs S => ∃ i : Nat,n = (uprights (transP p)).length - i ∧ i ≤ (uprights (transP p)).length ∧ (((uprights (transP p)).take i).find? (isLong (hdRow p).length) = none) ∧ vs = [eStrs p,.sl ((uprights (transP p)).map eInts) (uprights (transP p)).length,.int .i64 i] ∧ S = ⟨[],0⟩) ((uprights (transP p)).length) ?_ ?_
  ·refine ⟨0,0,rfl,Nat.zero_le _,rfl,?_,rfl⟩
   simp [Env.put,Env.of,argEnv]
  rintro n vs S - ⟨i,rfl,h_i,hno2,rfl,rfl⟩
  refine W.seq ?_
  refine W.r fun K hK => ?_
  simp (disch := omega) only [↓RU,RV,RH,↓reduceIte,reduceEqDiff,reduceCtorEq,if_pos,w64,ty1,tyLint,tyint]
  refine hK _ _ ?_;clear hK K
  refine W.cond rfl (fun h => ?_) (fun h => ?_)
  ·try simp only [RL] at h
   obtain ⟨u,hu,hum⟩ := get_of (show i < (uprights (transP p)).length by omega)
   obtain ⟨k,f,l,rfl,hk⟩ := ups_ok hum
   refine W.skip ?_
   refine xn ?_
   refine W.seq ?_
   refine W.block ?_
   refine W.seq_draw (by kernel_rfl) fun K hK => ?_
   simp (disch := omega) only [↓RU,RV,RH,↓reduceIte,reduceEqDiff,reduceCtorEq,if_pos,w64,ty1,tyLint,ty5,tyint,tystring,hu,hrow0,Int.toNat_zero,Nat.zero_mul,Int.reduceToNat]
   refine hK _ _ ?_;clear hK K
   refine W.cond rfl (fun h1 => ?_) (fun h1 => ?_)
   ·try simp only [RL] at h1
    have hlong : isLong (hdRow p).length [(k : Int),(f : Int),(l : Int)] = true := by simp [isLong,getI,hhd]; omega
    refine W.seq_draw (by kernel_rfl) fun K hK => ?_
    simp (disch := omega) only [↓RU,RV,RH,↓reduceIte,reduceEqDiff,reduceCtorEq,if_pos,ty1,tyLint,tyint,hu]
    refine hK _ _ ?_;clear hK K
    refine W.ret ?_
    refine XBlock.ret ?_
    refine XThen.ret ?_
    refine XThen.ret ?_
    refine XBlock.ret ?_
    refine XThen.ret ?_
    refine Br rfl ?_
    rw [show cutQ p = (1,(k : Int)) by unfold cutQ; rw [hno,find_take hu hno2 hlong]; rfl]
    rfl
   ·try simp only [RL] at h1
    have hlong : isLong (hdRow p).length [(k : Int),(f : Int),(l : Int)] = false := by simp [isLong,getI,hhd]; omega
    refine W.skip ?_
    refine XbN ?_
    refine xn ?_
    refine W.k fun K hK => ?_
    simp (disch := omega) only [↓RU,RV,RH,↓reduceIte,reduceEqDiff,reduceCtorEq,if_pos,w64,tyint]
    refine hK _ _ ?_;clear hK K
    refine xn ?_
    refine ⟨(uprights (transP p)).length - (i + 1),by omega,0,i + 1,rfl,by omega,find_take_no hu hno2 hlong,?_,rfl⟩
    simp [Env.put,Env.of]
  ·try simp only [RL] at h
   have hip : i = (uprights (transP p)).length := by omega
   rw [hip,List.take_length] at hno2
   refine W.exit ?_
   refine xe ?_
   refine xe ?_
   refine XBlock.hit ?_
   refine xn ?_
   refine W.r fun K hK => ?_
   simp (disch := omega) only [↓RU,RV,RH,↓reduceIte,reduceEqDiff,reduceCtorEq,if_pos]
   refine hK _ _ ?_;clear hK K
   refine W.ret ?_
   refine Br rfl ?_
   rw [show cutQ p = (0,0) by unfold cutQ; rw [hno,hno2]]
   rfl
theorem partA_u {p : List Txt} {i k : Nat} {row : Txt} (h : p[i]? = some row) : partA (p.take (i + 1)) (false,k) = partA (p.take i) (false,k) ++ [row.take k] := by simp [partA,tk h]
theorem partB_u {p : List Txt} {i k : Nat} {row : Txt} (h : p[i]? = some row) : partB (p.take (i + 1)) (false,k) = partB (p.take i) (false,k) ++ [row.drop k] := by simp [partB,tk h]
theorem partA_l {p : List Txt} {i k : Nat} {row : Txt} (h : p[i]? = some row) : partA (p.take (i + 1)) (true,k) = if i < k then partA (p.take i) (true,k) ++ [row] else partA (p.take i) (true,k) := by
 have hl := (List.getElem?_eq_some_iff.1 h).1
 simp only [partA,if_true,List.take_take]
 split
 ·rw [Nat.min_eq_right (by omega),Nat.min_eq_right (by omega),tk h]
 ·rw [Nat.min_eq_left (by omega),Nat.min_eq_left (by omega)]
theorem partB_l {p : List Txt} {i k : Nat} {row : Txt} (h : p[i]? = some row) : partB (p.take (i + 1)) (true,k) = if i < k then partB (p.take i) (true,k) else partB (p.take i) (true,k) ++ [row] := by
 have hl := (List.getElem?_eq_some_iff.1 h).1
 simp only [partB,if_true]
 split
 ·rw [List.drop_of_length_le (by simp; omega),List.drop_of_length_le (by simp; omega)]
 ·rw [tk h,List.drop_append_of_le_length (by simp; omega)]
theorem part_len {p : List Txt} {q : Bool × Nat} (i : Nat) : (partA (p.take i) q).length ≤ i ∧ (partB (p.take i) q).length ≤ i := by
 obtain ⟨lv,k⟩ := q
 cases lv <;> simp [partA,partB] <;> omega
theorem l3PartsU_pc {p : List Txt} (hs : Sm p) (hg : gridB p = true) {k : Nat} (hk : k ≤ (hdRow p).length) : PC Tryz.prog 82 [eStrs p,.int .i64 0,.int .i64 k] (.tup [eStrs (partA p (false,k)),eStrs (partB p (false,k))]) true := by
 have hp := hs.rows
 have hsm := grid_small hg
 obtain ⟨row0,hrow0,hrm0⟩ := get_of hsm.1
 have hhd := hdRow_of hrow0
 have hw6 := hsm.2.2 row0 hrm0
 have hw1 := row_pos hg hrow0
 rw [hhd] at hk
 refine PC.of ⟨Tryz.func82,by kernel_rfl,rfl,by kernel_rfl⟩ tabOk mixed (by show 3 ≤ Tryz.f82.ntmps; decide) ?_
 refine W.r fun K hK => ?_
 simp (disch := omega) only [↓RU,RV,RH,↓reduceIte,reduceEqDiff,reduceCtorEq,if_pos,↓RS,RG,reduceAdd,reduceMul,reduceLeDiff]
 refine hK _ _ ?_;clear hK K
 refine W.r fun K hK => ?_
 simp (disch := omega) only [↓RU,RV,RH,↓reduceIte,reduceEqDiff,reduceCtorEq,if_pos,↓RS,RG,reduceAdd,reduceMul,reduceLeDiff,ty5,tystring]
 refine hK _ _ ?_;clear hK K
 refine W.r fun K hK => ?_
 simp (disch := omega) only [↓RU,RV,RH,↓reduceIte,reduceEqDiff,reduceCtorEq,if_pos,↓RS,RG,reduceAdd,reduceMul,reduceLeDiff,ty5,tystring]
 refine hK _ _ ?_;clear hK K
 refine W.seq ?_
 refine W.r fun K hK => ?_
 simp (disch := omega) only [↓RU,RV,RH,↓reduceIte,reduceEqDiff,reduceCtorEq,if_pos,↓RS,RG,reduceAdd,reduceMul,reduceLeDiff]
 refine hK _ _ ?_;clear hK K
 refine W.block ?_
 refine W.loop [0,1,2,8,9,10] (fun n vs S => ∃ i v0 v1 tk : Nat,n = p.length - i ∧ i ≤ p.length ∧ vs = [eStrs p,.int .i64 0,.int .i64 k,.loc 0 v0 0 (partA (p.take i) (false,k)).length,.loc 1 v1 0 (partB (p.take i) (false,k)).length,.int .i64 i] ∧ S = ⟨[.arr v0 9 1 ((partA (p.take i) (false,k)).map .str),.arr v1 9 1 ((partB (p.take i) (false,k)).map .str)],tk⟩) p.length ?_ ?_
 ·refine ⟨2,0,0,1,2,rfl,Nat.zero_le _,?_,?_⟩
  ·simp [Env.put,Env.of,argEnv,partA,partB]
  ·simp [partA,partB,Store.take]
 rintro n vs S - ⟨i,v0,v1,tk,rfl,h_i,rfl,rfl⟩
 refine W.seq ?_
 refine W.r fun K hK => ?_
 simp (disch := omega) only [↓RU,RV,RH,↓reduceIte,reduceEqDiff,reduceCtorEq,if_pos,w64,↓RS,RG,reduceAdd,reduceMul,reduceLeDiff,ty5,tyint,tystring]
 refine hK _ _ ?_;clear hK K
 refine W.cond rfl (fun h => ?_) (fun h => ?_)
 ·try simp only [RL] at h
  obtain ⟨row,hrow,hrm⟩ := get_of (show i < p.length by omega)
  have hrl := hsm.2.2 row hrm
  have hrw := grid_row hg hrow
  rw [hhd] at hrw
  have hpl := part_len (p := p) (q := (false,k)) i
  generalize hA : partA (p.take i) (false,k) = A at hpl
  generalize hB : partB (p.take i) (false,k) = B at hpl
  refine W.skip ?_
  refine xn ?_
  refine W.seq ?_
  refine W.block ?_
  refine W.block ?_
  refine W.r fun K hK => ?_
  simp (disch := omega) only [↓RU,RV,RH,↓reduceIte,reduceEqDiff,reduceCtorEq,if_pos,w64,↓RS,RG,reduceAdd,reduceMul,reduceLeDiff,tyint]
  refine hK _ _ ?_;clear hK K
  refine W.cond rfl (fun h1 => ?_) (fun h1 => ?_)
  ·try simp only [RL] at h1
   refine W.r fun K hK => ?_
   simp (disch := omega) only [↓RU,RV,RH,↓reduceIte,reduceEqDiff,reduceCtorEq,if_pos,Option.map_none,↓RS,RG,reduceAdd,reduceMul,reduceLeDiff,ty5,tystring,hrow,List.drop_zero]
   refine hK _ _ ?_;clear hK K
   refine W.k fun K hK => ?_
   simp (disch := omega) only [↓RU,RV,RH,↓reduceIte,reduceEqDiff,reduceCtorEq,if_pos,Option.map_none,↓RS,RG,reduceAdd,reduceMul,reduceLeDiff,ty5,tystring,hrow,List.take_length]
   refine hK _ _ ?_;clear hK K
   refine XbN ?_
   refine XbN ?_
   refine xn ?_
   refine W.k fun K hK => ?_
   simp (disch := omega) only [↓RU,RV,RH,↓reduceIte,reduceEqDiff,reduceCtorEq,if_pos,w64,↓RS,RG,reduceAdd,reduceMul,reduceLeDiff,tyint]
   refine hK _ _ ?_;clear hK K
   refine xn ?_
   refine ⟨p.length - (i + 1),by omega,2,i + 1,(tk + 1),(tk + 3),(tk + 4),rfl,by omega,?_,?_⟩
   all_goals rw [partA_u hrow,partB_u hrow,hA,hB]
   all_goals simp [Env.put,Env.of,take_eq,hA,hB,Store.take]
  ·try simp only [RL] at h1
   exact absurd h1 (by simp)
 ·try simp only [RL] at h
  obtain rfl : i = p.length := by omega
  rw [List.take_length]
  refine W.exit ?_
  refine xe ?_
  refine xe ?_
  refine XBlock.hit ?_
  refine xn ?_
  refine W.r fun K hK => ?_
  simp (disch := omega) only [↓RU,RV,RH,↓reduceIte,reduceEqDiff,reduceCtorEq,if_pos,↓RS,RG,reduceAdd,reduceMul,reduceLeDiff]
  refine hK _ _ ?_;clear hK K
  refine W.ret ?_
  refine Br rfl ?_
  exact congrArg (Option.map PV.tup) (mapM_one (reify_loc (k := 8) rfl (by simp) (mapM_str _)) (mapM_one (reify_loc (k := 8) rfl (by simp) (mapM_str _)) rfl))
theorem l3PartsL_pc {p : List Txt} (hs : Sm p) (hg : gridB p = true) {k : Nat} (hk : k ≤ p.length) : PC Tryz.prog 82 [eStrs p,.int .i64 1,.int .i64 k] (.tup [eStrs (partA p (true,k)),eStrs (partB p (true,k))]) true := by
 have hp := hs.rows
 have hsm := grid_small hg
 obtain ⟨row0,hrow0,hrm0⟩ := get_of hsm.1
 have hhd := hdRow_of hrow0
 have hw6 := hsm.2.2 row0 hrm0
 have hw1 := row_pos hg hrow0
 skip
 refine PC.of ⟨Tryz.func82,by kernel_rfl,rfl,by kernel_rfl⟩ tabOk mixed (by show 3 ≤ Tryz.f82.ntmps; decide) ?_
 refine W.r fun K hK => ?_
 simp (disch := omega) only [↓RU,RV,RH,↓reduceIte,reduceEqDiff,reduceCtorEq,if_pos,↓RS,RG,reduceAdd,reduceMul,reduceLeDiff]
 refine hK _ _ ?_;clear hK K
 refine W.r fun K hK => ?_
 simp (disch := omega) only [↓RU,RV,RH,↓reduceIte,reduceEqDiff,reduceCtorEq,if_pos,↓RS,RG,reduceAdd,reduceMul,reduceLeDiff,ty5,tystring]
 refine hK _ _ ?_;clear hK K
 refine W.r fun K hK => ?_
 simp (disch := omega) only [↓RU,RV,RH,↓reduceIte,reduceEqDiff,reduceCtorEq,if_pos,↓RS,RG,reduceAdd,reduceMul,reduceLeDiff,ty5,tystring]
 refine hK _ _ ?_;clear hK K
 refine W.seq ?_
 refine W.r fun K hK => ?_
 simp (disch := omega) only [↓RU,RV,RH,↓reduceIte,reduceEqDiff,reduceCtorEq,if_pos,↓RS,RG,reduceAdd,reduceMul,reduceLeDiff]
 refine hK _ _ ?_;clear hK K
 refine W.block ?_
 refine W.loop [0,1,2,8,9,10] (fun n vs S => ∃ i v0 v1 tk : Nat,n = p.length - i ∧ i ≤ p.length ∧ vs = [eStrs p,.int .i64 1,.int .i64 k,.loc 0 v0 0 (partA (p.take i) (true,k)).length,.loc 1 v1 0 (partB (p.take i) (true,k)).length,.int .i64 i] ∧ S = ⟨[.arr v0 9 1 ((partA (p.take i) (true,k)).map .str),.arr v1 9 1 ((partB (p.take i) (true,k)).map .str)],tk⟩) p.length ?_ ?_
 ·refine ⟨2,0,0,1,2,rfl,Nat.zero_le _,?_,?_⟩
  ·simp [Env.put,Env.of,argEnv,partA,partB]
  ·simp [partA,partB,Store.take]
 rintro n vs S - ⟨i,v0,v1,tk,rfl,h_i,rfl,rfl⟩
 refine W.seq ?_
 refine W.r fun K hK => ?_
 simp (disch := omega) only [↓RU,RV,RH,↓reduceIte,reduceEqDiff,reduceCtorEq,if_pos,w64,↓RS,RG,reduceAdd,reduceMul,reduceLeDiff,ty5,tyint,tystring]
 refine hK _ _ ?_;clear hK K
 refine W.cond rfl (fun h => ?_) (fun h => ?_)
 ·try simp only [RL] at h
  obtain ⟨row,hrow,hrm⟩ := get_of (show i < p.length by omega)
  have hrl := hsm.2.2 row hrm
  have hrw := grid_row hg hrow
  rw [hhd] at hrw
  have hpl := part_len (p := p) (q := (true,k)) i
  generalize hA : partA (p.take i) (true,k) = A at hpl
  generalize hB : partB (p.take i) (true,k) = B at hpl
  refine W.skip ?_
  refine xn ?_
  refine W.seq ?_
  refine W.block ?_
  refine W.block ?_
  refine W.r fun K hK => ?_
  simp (disch := omega) only [↓RU,RV,RH,↓reduceIte,reduceEqDiff,reduceCtorEq,if_pos,w64,↓RS,RG,reduceAdd,reduceMul,reduceLeDiff,tyint]
  refine hK _ _ ?_;clear hK K
  refine W.cond rfl (fun h1 => ?_) (fun h1 => ?_)
  ·try simp only [RL] at h1
   exact absurd h1 (by simp)
  ·try simp only [RL] at h1
   refine W.r fun K hK => ?_
   simp (disch := omega) only [↓RU,RV,RH,↓reduceIte,reduceEqDiff,reduceCtorEq,if_pos,w64,↓RS,RG,reduceAdd,reduceMul,reduceLeDiff,tyint]
   refine hK _ _ ?_;clear hK K
   refine W.cond rfl (fun h2 => ?_) (fun h2 => ?_)
   ·try simp only [RL] at h2
    refine W.k fun K hK => ?_
    simp (disch := omega) only [↓RU,RV,RH,↓reduceIte,reduceEqDiff,reduceCtorEq,if_pos,↓RS,RG,reduceAdd,reduceMul,reduceLeDiff,ty5,tystring,hrow]
    refine hK _ _ ?_;clear hK K
    refine XbN ?_
    refine XbN ?_
    refine xn ?_
    refine W.k fun K hK => ?_
    simp (disch := omega) only [↓RU,RV,RH,↓reduceIte,reduceEqDiff,reduceCtorEq,if_pos,w64,↓RS,RG,reduceAdd,reduceMul,reduceLeDiff,tyint]
    refine hK _ _ ?_;clear hK K
    refine xn ?_
    refine ⟨p.length - (i + 1),by omega,2,i + 1,(tk + 1),v1,(tk + 2),rfl,by omega,?_,?_⟩
    all_goals rw [partA_l hrow,partB_l hrow,if_pos (show i < k by omega),if_pos (show i < k by omega),hA,hB]
    all_goals simp [Env.put,Env.of,take_eq,hA,hB,Store.take]
   ·try simp only [RL] at h2
    refine W.k fun K hK => ?_
    simp (disch := omega) only [↓RU,RV,RH,↓reduceIte,reduceEqDiff,reduceCtorEq,if_pos,↓RS,RG,reduceAdd,reduceMul,reduceLeDiff,ty5,tystring,hrow]
    refine hK _ _ ?_;clear hK K
    refine XbN ?_
    refine XbN ?_
    refine xn ?_
    refine W.k fun K hK => ?_
    simp (disch := omega) only [↓RU,RV,RH,↓reduceIte,reduceEqDiff,reduceCtorEq,if_pos,w64,↓RS,RG,reduceAdd,reduceMul,reduceLeDiff,tyint]
    refine hK _ _ ?_;clear hK K
    refine xn ?_
    refine ⟨p.length - (i + 1),by omega,2,i + 1,v0,(tk + 1),(tk + 2),rfl,by omega,?_,?_⟩
    all_goals rw [partA_l hrow,partB_l hrow,if_neg (show ¬ i < k by omega),if_neg (show ¬ i < k by omega),hA,hB]
    all_goals simp [Env.put,Env.of,take_eq,hA,hB,Store.take]
 ·try simp only [RL] at h
  obtain rfl : i = p.length := by omega
  rw [List.take_length]
  refine W.exit ?_
  refine xe ?_
  refine xe ?_
  refine XBlock.hit ?_
  refine xn ?_
  refine W.r fun K hK => ?_
  simp (disch := omega) only [↓RU,RV,RH,↓reduceIte,reduceEqDiff,reduceCtorEq,if_pos,↓RS,RG,reduceAdd,reduceMul,reduceLeDiff]
  refine hK _ _ ?_;clear hK K
  refine W.ret ?_
  refine Br rfl ?_
  exact congrArg (Option.map PV.tup) (mapM_one (reify_loc (k := 8) rfl (by simp) (mapM_str _)) (mapM_one (reify_loc (k := 8) rfl (by simp) (mapM_str _)) rfl))
end Fw
end Go.Proofs.YtjobkanbijpfgaaGreat
