/- Widths along cuts are least widths: the law FnSizeCut answers true for all codes. No condition. -/
import Derived.Test.YtjobkanbijpfgaaGreatJ4
import Derived.Test.YtjobkanbijpfgaaGreatJ5
set_option linter.all false
namespace Go.Proofs.YtjobkanbijpfgaaGreat
namespace Fw
open Go
open Nat (reduceEqDiff reduceLeDiff reduceAdd reduceMul)
def Pat (g1 g2 : List (List Int)) (H W : Nat) : Prop := ∀ i j i' j',i < H → j < W → i' < H → j' < W → (gz g1 i j = gz g1 i' j' ↔ gz g2 i j = gz g2 i' j')
theorem Pat.symm {g1 g2 : List (List Int)} {H W : Nat} (h : Pat g1 g2 H W) : Pat g2 g1 H W := fun i j i' j' a b c d => (h i j i' j' a b c d).symm
theorem Pat.trans {g1 g2 g3 : List (List Int)} {H W : Nat} (h : Pat g1 g2 H W) (k : Pat g2 g3 H W) : Pat g1 g3 H W := fun i j i' j' a b c d => (h i j i' j' a b c d).trans (k i j i' j' a b c d)
structure KC (g1 g2 : List (List Int)) (H W : Nat) (k1 k2 : List Int) : Prop where
 len : k1.length = k2.length
 at_ : ∀ i j,i < H → j < W → k1.idxOf (gz g1 i j) = k2.idxOf (gz g2 i j)
theorem idxOf_snoc {l : List Int} {z x : Int} (h : l.idxOf x = l.length) : (l ++ [z]).idxOf x = if x = z then l.length else l.length + 1 := by
 have hn := idxOf_not h
 rw [List.idxOf_append,if_neg hn]
 by_cases e : x = z
 ·subst e; simp
 ·rw [if_neg e]
  have e2 : (z == x) = false := by simpa using fun h => e h.symm
  simp [List.idxOf_cons,e2]
  omega
theorem KC.step {g1 g2 : List (List Int)} {H W : Nat} (hp : Pat g1 g2 H W) {k1 k2 : List Int} (h : KC g1 g2 H W k1 k2) {a b : Nat} (ha : a < H) (hb : b < W) : KC g1 g2 H W (seKs k1 (gz g1 a b)) (seKs k2 (gz g2 a b)) := by
 have h1 := h.at_ a b ha hb
 unfold seKs
 by_cases e : k1.idxOf (gz g1 a b) = k1.length
 ·have e2 : k2.idxOf (gz g2 a b) = k2.length := by rw [← h1,e,h.len]
  rw [if_pos e,if_pos e2]
  refine ⟨by simp [h.len],fun i j hi hj => ?_⟩
  have h2 := h.at_ i j hi hj
  have hpt := hp i j a b hi hj ha hb
  by_cases q : k1.idxOf (gz g1 i j) = k1.length
  ·have q2 : k2.idxOf (gz g2 i j) = k2.length := by rw [← h2,q,h.len]
   rw [idxOf_snoc q,idxOf_snoc q2,h.len]
   by_cases r : gz g1 i j = gz g1 a b
   ·rw [if_pos r,if_pos (hpt.1 r)]
   ·rw [if_neg r,if_neg fun x => r (hpt.2 x)]
  ·have q2 : ¬ k2.idxOf (gz g2 i j) = k2.length := by rw [← h2,← h.len]; exact q
   rw [idxOf_app q,idxOf_app q2,h2]
 ·have e2 : ¬ k2.idxOf (gz g2 a b) = k2.length := by rw [← h1,← h.len]; exact e
  rw [if_neg e,if_neg e2]
  exact h
theorem seRs_same {k1 k2 rs : List Int} {R : List Rect} {z1 z2 : Int} {q : Rect} (hl : k1.length = k2.length) (hi : k1.idxOf z1 = k2.idxOf z2) : seRs k1 R z1 q = seRs k2 R z2 q := by
 unfold seRs seIn
 rw [hl,hi]
theorem seRow_same {g1 g2 : List (List Int)} {H W : Nat} (hp : Pat g1 g2 H W) {i : Nat} (hi : i < H) {s1 s2 : List Int × List Rect} (h : KC g1 g2 H W s1.1 s2.1) (hr : s1.2 = s2.2) : ∀ j,j ≤ W →
  KC g1 g2 H W (seRow g1 i s1 j).1 (seRow g2 i s2 j).1 ∧ (seRow g1 i s1 j).2 = (seRow g2 i s2 j).2
 | 0,_ => ⟨h,hr⟩
 | j + 1,hj => by
  obtain ⟨h1,h2⟩ := seRow_same hp hi h hr j (by omega)
  unfold seRow
  refine ⟨h1.step hp hi (by omega),?_⟩
  show seRs _ _ _ _ = seRs _ _ _ _
  rw [h2]
  exact seRs_same (rs := []) h1.len (h1.at_ i j hi (by omega))
theorem seRows_same {g1 g2 : List (List Int)} {H W : Nat} (hp : Pat g1 g2 H W) : ∀ i,i ≤ H → KC g1 g2 H W (seRows g1 W i).1 (seRows g2 W i).1 ∧ (seRows g1 W i).2 = (seRows g2 W i).2
 | 0,_ => ⟨⟨rfl,fun _ _ _ _ => rfl⟩,rfl⟩
 | i + 1,hi => by
  obtain ⟨h1,h2⟩ := seRows_same hp i (by omega)
  exact seRow_same hp (by omega) h1 h2 W (Nat.le_refl _)
theorem zRow_same {g1 g2 : List (List Int)} {H W : Nat} (hp : Pat g1 g2 H W) {i : Nat} (hi : i < H) {s1 s2 : List Int × List Rect} (h : KC g1 g2 H W s1.1 s2.1) (hr : s1.2 = s2.2) : ∀ j,j ≤ W → zRow g1 i s1 j = zRow g2 i s2 j
 | 0,_ => rfl
 | j + 1,hj => by
  unfold zRow
  rw [zRow_same hp hi h hr j (by omega),(seRow_same hp hi h hr j (by omega)).1.at_ i j hi (by omega)]
theorem zRows_same {g1 g2 : List (List Int)} {H W : Nat} (hp : Pat g1 g2 H W) : ∀ i,i ≤ H → zRows g1 W i = zRows g2 W i
 | 0,_ => rfl
 | i + 1,hi => by
  obtain ⟨h1,h2⟩ := seRows_same hp i (by omega)
  unfold zRows
  rw [zRows_same hp i (by omega),zRow_same hp (by omega) h1 h2 W (Nat.le_refl _)]
theorem GW.w0 {g : List (List Int)} {H W : Nat} (h : GW g H W) : w0 g = W := by
 obtain ⟨row,hrow,hl,-⟩ := h.at_ (show 0 < H by have := h.2.2.1; omega) (show 0 < W by have := h.2.2.2.2.1; omega)
 rw [w0_is hrow,hl]
theorem GW.zG {g : List (List Int)} {H W : Nat} (h : GW g H W) : zG g = zRows g W H ∧ stG g = seRows g W H := by
 unfold Fw.zG stG; rw [h.w0,h.1]; exact ⟨rfl,rfl⟩
theorem zG_at {g : List (List Int)} {H W i j : Nat} (h : GW g H W) (hi : i < H) (hj : j < W) : gz (zG g) i j = (((seRows g W H).1.idxOf (gz g i j) : Nat) : Int) := by
 rw [h.zG.1]
 unfold gz
 rw [zRows_at hi,Option.getD_some,zRow_at hj,Option.getD_some]
 congr 1
 exact zNum hi hj
theorem zG_gw2 {g : List (List Int)} {H W : Nat} (h : GW g H W) : GW (zG g) H W := by
 rw [h.zG.1]
 refine ⟨zRows_len _,fun r hr => ?_,h.2.2⟩
 obtain ⟨k,hk⟩ := List.getElem?_of_mem hr
 have := len_of hk
 rw [zRows_len] at this
 rw [zRows_at this] at hk
 cases hk
 exact zRow_len _
theorem zG_mem {g : List (List Int)} {H W i j : Nat} (hi : i < H) (hj : j < W) : gz g i j ∈ (seRows g W H).1 := (SeInv.rows (g := g) (W := W) H).mem i j (gone_all hi hj)
theorem zG_pat {g : List (List Int)} {H W : Nat} (h : GW g H W) : Pat (zG g) g H W := by
 intro i j i' j' hi hj hi' hj'
 rw [zG_at h hi hj,zG_at h hi' hj']
 constructor
 ·intro e
  have h1 := idxOf_mem (ks := (seRows g W H).1) (z := gz g i j) (by have := List.idxOf_lt_length_iff.2 (zG_mem (g := g) hi hj); omega)
  have h2 := idxOf_mem (ks := (seRows g W H).1) (z := gz g i' j') (by have := List.idxOf_lt_length_iff.2 (zG_mem (g := g) hi' hj'); omega)
  rw [show (seRows g W H).1.idxOf (gz g i j) = (seRows g W H).1.idxOf (gz g i' j') by omega,h2] at h1
  exact (Option.some.inj h1).symm
 ·intro e; rw [e]
theorem zG_lt {g : List (List Int)} {H W i j : Nat} (h : GW g H W) (hi : i < H) (hj : j < W) : 0 ≤ gz (zG g) i j ∧ gz (zG g) i j < (seRows g W H).2.length := by
 rw [zG_at h hi hj]
 have h1 := List.idxOf_lt_length_iff.2 (zG_mem (g := g) hi hj)
 have h2 := (SeInv.rows (g := g) (W := W) H).len
 omega
theorem readG_text {g : List (List Int)} {H W i j : Nat} (h : GW g H W) (hi : i < H) (hj : j < W) (h0 : 0 ≤ gz g i j) (h1 : gz g i j ≤ 100) : gz (readG (textG g)) i j = gz g i j + 97 := by
 obtain ⟨row,hrow,hl,hx⟩ := h.at_ hi hj
 have e1 : (readG (textG g))[i]? = some (rowZ (rowT row)) := by simp [readG,textG_at hrow]
 have e2 : (rowZ (rowT row))[j]? = some ((letZ (gz g i j)).toNat : Int) := by simp [rowZ,rowT,hx]
 have e3 : gz (readG (textG g)) i j = ((letZ (gz g i j)).toNat : Int) := by
  conv => lhs; unfold gz
  rw [e1,Option.getD_some,e2,Option.getD_some]
 rw [e3]
 unfold letZ
 rw [UInt8.toNat_ofNat_of_lt' (by show 97 + (gz g i j).toNat < 256; omega)]
 omega
theorem text_hd {g : List (List Int)} {H W : Nat} (h : GW g H W) : (textG g).length = H ∧ (hdRow (textG g)).length = W := by
 refine ⟨by rw [textG_len,h.1],?_⟩
 obtain ⟨row,hrow,hl,-⟩ := h.at_ (show 0 < H by have := h.2.2.1; omega) (show 0 < W by have := h.2.2.2.2.1; omega)
 rw [hdRow_of (textG_at hrow)]
 simp [rowT,hl]
theorem text_grid {g : List (List Int)} {H W : Nat} (h : GW g H W) (hz : ∀ i j,i < H → j < W → 0 ≤ gz g i j ∧ gz g i j < 26) : gridB (textG g) = true := by
 obtain ⟨t1,t2⟩ := text_hd h
 unfold gridB
 rw [t1,t2]
 have h2 := h.2.2
 have : (textG g).all (rowB W) = true := by
  rw [List.all_eq_true]
  intro r hr
  obtain ⟨i,hi⟩ := List.getElem?_of_mem hr
  have hil := len_of hi
  rw [t1] at hil
  obtain ⟨row,hrow,hrm⟩ := get_of (show i < g.length by rw [h.1]; exact hil)
  have hrl := h.2.1 row hrm
  rw [textG_at hrow] at hi
  cases hi
  unfold rowB
  simp only [Bool.and_eq_true,decide_eq_true_eq,List.all_eq_true]
  refine ⟨⟨⟨by simp [rowT,hrl],by simp [rowT]; omega⟩,by simp [rowT]; omega⟩,fun c hc => ?_⟩
  obtain ⟨z,hzm,rfl⟩ := List.mem_map.1 hc
  obtain ⟨j,hj⟩ := List.getElem?_of_mem hzm
  have hjl := len_of hj
  have e : gz g i j = z := by simp [gz,hrow,hj]
  have := hz i j hil (by omega)
  rw [e] at this
  unfold letterB letZ
  rw [UInt8.toNat_ofNat_of_lt' (by show 97 + z.toNat < 256; omega)]
  simp only [Bool.and_eq_true,decide_eq_true_eq]
  omega
 rw [this]
 simp only [Bool.true_and,Bool.and_eq_true,decide_eq_true_eq]
 omega
def nm (g : List (List Int)) : List Txt := textG (zG g)
structure NmOk (g : List (List Int)) (H W : Nat) : Prop where
 gw : GW g H W
 le : (seRows g W H).2.length ≤ 9
theorem NmOk.bound {g : List (List Int)} {H W : Nat} (h : NmOk g H W) {i j : Nat} (hi : i < H) (hj : j < W) : 0 ≤ gz (zG g) i j ∧ gz (zG g) i j ≤ 8 := by
 have h1 := zG_lt h.gw hi hj
 have h2 := h.le
 omega
theorem NmOk.hd {g : List (List Int)} {H W : Nat} (h : NmOk g H W) : (nm g).length = H ∧ (hdRow (nm g)).length = W := text_hd (zG_gw2 h.gw)
theorem NmOk.pat {g : List (List Int)} {H W : Nat} (h : NmOk g H W) : Pat (readG (nm g)) g H W := by
 refine Pat.trans (fun i j i' j' hi hj hi' hj' => ?_) (zG_pat h.gw)
 have b1 := h.bound hi hj
 have b2 := h.bound hi' hj'
 unfold nm
 rw [readG_text (zG_gw2 h.gw) hi hj b1.1 (by omega),readG_text (zG_gw2 h.gw) hi' hj' b2.1 (by omega)]
 constructor <;> intro e <;> omega
theorem NmOk.gP {g : List (List Int)} {H W : Nat} (h : NmOk g H W) : gP (nm g) = zG g ∧ rP (nm g) = (seRows g W H).2 := by
 rw [gP_eq,rP_eq,h.hd.1,h.hd.2,h.gw.zG.1]
 exact ⟨zRows_same h.pat H (Nat.le_refl _),(seRows_same h.pat H (Nat.le_refl _)).2⟩
theorem NmOk.named {g : List (List Int)} {H W : Nat} (h : NmOk g H W) : Named (nm g) := by
 refine ⟨text_grid (zG_gw2 h.gw) fun i j hi hj => by have := h.bound hi hj; omega,?_⟩
 rw [h.gP.1]; rfl
theorem NmOk.cell {g : List (List Int)} {H W : Nat} (h : NmOk g H W) {i j : Nat} (hi : i < H) (hj : j < W) : cellZ (nm g) i j = gz (zG g) i j := by
 rw [← h.named.cell (by rw [h.hd.1]; exact hi) (by rw [h.hd.2]; exact hj),h.gP.1]
structure Cells (c : Nat → Nat → Nat) (g : List (List Int)) (H W : Nat) : Prop where
 gw : GW g H W
 at_ : ∀ i j,i < H → j < W → gz g i j = ((c i j : Nat) : Int)
section
variable {c c' : Nat → Nat → Nat} {H W : Nat}
theorem TC.map {R S : Nat → Nat → Prop} {f : Nat → Nat} (h : ∀ a b,R a b → S (f a) (f b)) {a b : Nat} (k : TC R a b) : TC S (f a) (f b) := by
 induction k with
 | one k => exact .one (h _ _ k)
 | tail _ k ih => exact .tail ih (h _ _ k)
structure Iso (p t : List Txt) (L U : Nat → Nat → Prop) (σ : Nat → Nat) : Prop where
 pl : plainB t = true
 n : (rP t).length = (rP p).length
 lt : ∀ a,a < (rP p).length → σ a < (rP p).length
 inj : ∀ a b,a < (rP p).length → b < (rP p).length → σ a = σ b → a = b
 lf : ∀ a b,a < (rP p).length → b < (rP p).length → (Lf t (σ a) (σ b) ↔ L a b)
 ab : ∀ a b,a < (rP p).length → b < (rP p).length → (Ab t (σ a) (σ b) ↔ U a b)
theorem Iso.imp {p t : List Txt} {L U L' U' : Nat → Nat → Prop} {σ : Nat → Nat} (h : Iso p t L U σ) (hL : ∀ a b,a < (rP p).length → b < (rP p).length → (L a b ↔ L' a b)) (hU : ∀ a b,a < (rP p).length → b < (rP p).length → (U a b ↔ U' a b)) : Iso p t L' U' σ :=
 ⟨h.pl,h.n,h.lt,h.inj,fun a b ha hb => (h.lf a b ha hb).trans (hL a b ha hb),fun a b ha hb => (h.ab a b ha hb).trans (hU a b ha hb)⟩
structure Fold1 (f : Nat → Nat) (m n : Nat) : Prop where
 pos : 1 ≤ m
 z : f 0 = 0
 s : ∀ i,i + 1 < m → f (i + 1) = f i ∨ f (i + 1) = f i + 1
 e : f (m - 1) + 1 = n
theorem Fold1.mono {f : Nat → Nat} {m n : Nat} (h : Fold1 f m n) : ∀ {i j : Nat},i ≤ j → j < m → f i ≤ f j := by
 intro i j hij
 induction j with
 | zero => intro _; rw [show i = 0 by omega]; exact Nat.le_refl _
 | succ j ih =>
  intro hj
  by_cases e : i = j + 1
  ·subst e; exact Nat.le_refl _
  ·have h1 := ih (by omega) (by omega)
   have := h.s j hj
   omega
theorem Fold1.lt {f : Nat → Nat} {m n i : Nat} (h : Fold1 f m n) (hi : i < m) : f i < n := by
 have := h.mono (i := i) (j := m - 1) (by omega) (by have := h.pos; omega)
 have := h.e
 omega
theorem Fold1.mid {f : Nat → Nat} {m n i : Nat} (h : Fold1 f m n) {v : Nat} : ∀ {j : Nat},i ≤ j → j < m → f i ≤ v → v ≤ f j → ∃ r,i ≤ r ∧ r ≤ j ∧ f r = v := by
 intro j
 induction j with
 | zero => intro h1 h2 h3 h4; exact ⟨0,by omega,Nat.le_refl _,by rw [show i = 0 by omega] at h3; omega⟩
 | succ j ih =>
  intro h1 h2 h3 h4
  by_cases e : f (j + 1) = v
  ·exact ⟨j + 1,h1,Nat.le_refl _,e⟩
  ·by_cases e2 : i = j + 1
   ·subst e2; omega
   ·have := h.s j h2
    obtain ⟨r,r1,r2,r3⟩ := ih (by omega) (by omega) h3 (by omega)
    exact ⟨r,r1,by omega,r3⟩
theorem Fold1.last {f : Nat → Nat} {m n v : Nat} (h : Fold1 f m n) (hv : v + 1 < n) : ∃ r,r + 1 < m ∧ f r = v ∧ f (r + 1) = v + 1 := by
 have hp := h.pos
 have he := h.e
 obtain ⟨e,h1,h2,h3,h4⟩ := flip_of (P := fun r => f r ≤ v) (i := 0) (n := m - 1) (by omega) (by rw [h.z]; omega) (by omega)
 have := h.s e (by omega)
 exact ⟨e,by omega,by omega,by omega⟩
theorem DL.fold {f g : Nat → Nat} {H' W' : Nat} (hf : Fold1 f H H') (hg : Fold1 g W W') (hc : ∀ i j,i < H → j < W → c i j = c' (f i) (g j)) {a b : Nat} : DL c H W a b ↔ DL c' H' W' a b := by
 constructor
 ·rintro ⟨j,i1,i2,h1,h2,h3,run,rfl,rfl⟩
  have hgj : g (j + 1) = g j + 1 := by
   rcases hg.s j h1 with e | e
   ·have := run i1 (by omega) (by omega)
    rw [hc i1 j h2 (by omega),hc i1 (j + 1) h2 h1,e] at this
    exact absurd rfl this
   ·exact e
  have hlt := hg.lt h1
  refine ⟨g j,f i1,f i2,by omega,hf.lt h2,hf.lt h3,fun r r1 r2 => ?_,hc _ _ h2 (by omega),by rw [hc _ _ h3 h1,hgj]⟩
  have : ∃ r0,min i1 i2 ≤ r0 ∧ r0 ≤ max i1 i2 ∧ f r0 = r := by
   rcases Nat.le_total i1 i2 with q | q
   ·have := hf.mono q h3
    obtain ⟨r0,q1,q2,q3⟩ := hf.mid (v := r) q h3 (by omega) (by omega)
    exact ⟨r0,by omega,by omega,q3⟩
   ·have := hf.mono q h2
    obtain ⟨r0,q1,q2,q3⟩ := hf.mid (v := r) q h2 (by omega) (by omega)
    exact ⟨r0,by omega,by omega,q3⟩
  obtain ⟨r0,q1,q2,rfl⟩ := this
  have := run r0 q1 q2
  rw [hc r0 j (by omega) (by omega),hc r0 (j + 1) (by omega) h1,hgj] at this
  exact this
 ·rintro ⟨j,i1,i2,h1,h2,h3,run,rfl,rfl⟩
  obtain ⟨j0,k1,k2,k3⟩ := hg.last h1
  have hfe := hf.e
  have hfp := hf.pos
  obtain ⟨r1,-,q2,q3⟩ := hf.mid (i := 0) (j := H - 1) (v := i1) (by omega) (by omega) (by rw [hf.z]; omega) (by omega)
  obtain ⟨r2,-,q5,q6⟩ := hf.mid (i := 0) (j := H - 1) (v := i2) (by omega) (by omega) (by rw [hf.z]; omega) (by omega)
  refine ⟨j0,r1,r2,k1,by omega,by omega,fun r s1 s2 => ?_,by rw [hc _ _ (by omega) (by omega),q3,k2],by rw [hc _ _ (by omega) (by omega),q6,k3]⟩
  rw [hc r j0 (by omega) (by omega),hc r (j0 + 1) (by omega) k1,k2,k3]
  refine run (f r) ?_ ?_
  ·rcases Nat.le_total r1 r2 with q | q
   ·have := hf.mono (show r1 ≤ r by omega) (show r < H by omega); omega
   ·have := hf.mono (show r2 ≤ r by omega) (show r < H by omega); omega
  ·rcases Nat.le_total r1 r2 with q | q
   ·have := hf.mono (show r ≤ r2 by omega) (show r2 < H by omega); omega
   ·have := hf.mono (show r ≤ r1 by omega) (show r1 < H by omega); omega
theorem DU.fold {f g : Nat → Nat} {H' W' : Nat} (hf : Fold1 f H H') (hg : Fold1 g W W') (hc : ∀ i j,i < H → j < W → c i j = c' (f i) (g j)) {a b : Nat} : DU c H W a b ↔ DU c' H' W' a b :=
 DL.fold (c := tr c) (c' := tr c') hg hf fun i j hi hj => hc j i hj hi
theorem TC.iff {R S : Nat → Nat → Prop} (h : ∀ a b,R a b ↔ S a b) {a b : Nat} : TC R a b ↔ TC S a b := ⟨TC.mono fun a b => (h a b).1,TC.mono fun a b => (h a b).2⟩
end
section
variable {p : List Txt}
end
section
variable {p t : List Txt} {L U : Nat → Nat → Prop} {σ : Nat → Nat}
end
section
variable {c : Nat → Nat → Nat} {H W : Nat}
theorem DL.cols (h : Pl c H W) {i j i' j' : Nat} (hi : i < H) (hj : j < W) (hi' : i' < H) (hj' : j' < W) (hd : DL c H W (c i j) (c i' j')) : j < j' := by
 obtain ⟨k,i1,i2,h1,h2,h3,run,e1,e2⟩ := hd
 have a1 : j ≤ k := by
  refine Classical.byContradiction fun hn => ?_
  have := h.rect (i := i1) (j := k) (i' := i) (j' := j) i1 (k + 1) h2 hi (by omega) hj e1.symm (by omega) (by omega) (by omega) (by omega)
  exact run i1 (by omega) (by omega) this.symm
 have a2 : k + 1 ≤ j' := by
  refine Classical.byContradiction fun hn => ?_
  have := h.rect (i := i2) (j := k + 1) (i' := i') (j' := j') i2 k h3 hi' h1 hj' e2.symm (by omega) (by omega) (by omega) (by omega)
  exact run i2 (by omega) (by omega) this
 omega
theorem DL.cells {a b : Nat} (hd : DL c H W a b) : (∃ i j,i < H ∧ j < W ∧ c i j = a) ∧ ∃ i j,i < H ∧ j < W ∧ c i j = b := by
 obtain ⟨k,i1,i2,h1,h2,h3,run,e1,e2⟩ := hd
 exact ⟨⟨i1,k,h2,by omega,e1.symm⟩,i2,k + 1,h3,h1,e2.symm⟩
theorem TC.cols (h : Pl c H W) {a b : Nat} (hd : TC (DL c H W) a b) : ∀ {i j i' j' : Nat},i < H → j < W → i' < H → j' < W → c i j = a → c i' j' = b → j < j' := by
 induction hd with
 | one hd => intro i j i' j' h1 h2 h3 h4 e1 e2; subst e1; subst e2; exact hd.cols h h1 h2 h3 h4
 | tail _ hd ih =>
  intro i j i' j' h1 h2 h3 h4 e1 e2
  obtain ⟨⟨x,y,hx,hy,e3⟩,-⟩ := hd.cells
  have q1 := ih h1 h2 hx hy e1 e3
  subst e2; rw [← e3] at hd
  have q2 := hd.cols h hx hy h3 h4
  omega
def Thru (c : Nat → Nat → Nat) (H k : Nat) : Prop := ∀ r,r < H → c r (k - 1) ≠ c r k
theorem thru_left (h : Pl c H W) {k : Nat} (h1 : 1 ≤ k) (h2 : k < W) (ht : Thru c H k) {i j i' j' : Nat} (hi : i < H) (hj : j < k) (hi' : i' < H) (hj' : k ≤ j') (hw : j' < W) : TC (DL c H W) (c i j) (c i' j') := by
 have q : TC (DL c H W) (c i (k - 1)) (c i' k) := .one ⟨k - 1,i,i',by omega,hi,hi',fun r r1 r2 => by
  have := ht r (by omega)
  rw [show k - 1 + 1 = k by omega]; exact this,rfl,by rw [show k - 1 + 1 = k by omega]⟩
 have q1 : c i j = c i (k - 1) ∨ TC (DL c H W) (c i j) (c i (k - 1)) := by
  by_cases e : c i j = c i (k - 1)
  ·exact .inl e
  ·exact .inr (row_walk hi (by omega) (by omega) e)
 have q2 : c i' k = c i' j' ∨ TC (DL c H W) (c i' k) (c i' j') := by
  by_cases e : c i' k = c i' j'
  ·exact .inl e
  ·exact .inr (row_walk hi' hj' hw e)
 have q3 : TC (DL c H W) (c i j) (c i' k) := by
  rcases q1 with e | e
  ·rw [e]; exact q
  ·exact e.trans q
 rcases q2 with e | e
 ·rw [← e]; exact q3
 ·exact q3.trans e
variable {p : List Txt}
end
section
section
variable {c : Nat → Nat → Nat} {H W : Nat}
def subC (c : Nat → Nat → Nat) (t : Pt) (i j : Nat) : Nat := c (t.r + i) (t.c + j)
theorem Pl.sub (h : Pl c H W) {t : Pt} (ht : t.In H W) : Pl (subC c t) t.h t.w := by
 obtain ⟨t1,t2,t3,t4⟩ := ht
 constructor
 ·intro i j i' j' k l a b c' d e f1 f2 f3 f4
  exact h.rect (t.r + k) (t.c + l) (by omega) (by omega) (by omega) (by omega) e (by omega) (by omega) (by omega) (by omega)
 ·intro i j a b e1 e2 e3
  exact h.plain (i := t.r + i) (j := t.c + j) (by omega) (by omega) e1 e2 e3
theorem DL.sub {t : Pt} (ht : t.In H W) {a b : Nat} (h : DL (subC c t) t.h t.w a b) : DL c H W a b := by
 obtain ⟨t1,t2,t3,t4⟩ := ht
 obtain ⟨j,i1,i2,a1,a2,a3,a4,a5,a6⟩ := h
 refine ⟨t.c + j,t.r + i1,t.r + i2,by omega,by omega,by omega,fun r h1 h2 => ?_,a5,a6⟩
 have := a4 (r - t.r) (by omega) (by omega)
 simp only [subC] at this
 rwa [show t.r + (r - t.r) = r by omega] at this
theorem DU.sub {t : Pt} (ht : t.In H W) {a b : Nat} (h : DU (subC c t) t.h t.w a b) : DU c H W a b := by
 obtain ⟨t1,t2,t3,t4⟩ := ht
 obtain ⟨i,j1,j2,a1,a2,a3,a4,a5,a6⟩ := h
 refine ⟨t.r + i,t.c + j1,t.c + j2,by omega,by omega,by omega,fun r h1 h2 => ?_,a5,a6⟩
 have := a4 (r - t.c) (by omega) (by omega)
 simp only [subC] at this
 rwa [show t.c + (r - t.c) = r by omega] at this
end
section
variable {p : List Txt}
theorem cut_sides (hp : plainB p = true) {t : Pt} (hw : Whole (cellZ p) p.length (hdRow p).length t) {q : Bool × Nat} (hq : cutOf (cellZ p) t = some q) {x y : CT} (hx : treeP (cellZ p) (t.one q) = some x) (hy : treeP (cellZ p) (t.two q) = some y) :
  ∀ a b,a ∈ x.leaves → b ∈ y.leaves → (q.1 = false → Lf p a.toNat b.toNat) ∧ (q.1 = true → Ab p a.toNat b.toNat) := by
 intro a b ha hb
 have hpl := plain_plan hp
 have hi := hw.inn
 obtain ⟨i1,i2,_,_⟩ := hi.cut hq
 obtain ⟨w1,w2⟩ := hw.cut (plan_rz hpl) hq
 obtain ⟨_,m1,_⟩ := tree_leaves (plan_rz hpl) _ w1 (Nat.le_refl _) hx
 obtain ⟨_,m2,_⟩ := tree_leaves (plan_rz hpl) _ w2 (Nat.le_refl _) hy
 obtain ⟨r1,c1,e1,e2,e3,e4,e5⟩ := (m1 a).1 ha
 obtain ⟨r2,c2,f1,f2,f3,f4,f5⟩ := (m2 b).1 hb
 have hin := hi
 unfold Pt.In at hin i1 i2
 have hP := (plan_pl hp).sub hi
 obtain ⟨k1,k2⟩ := cutOf_some hq
 obtain ⟨lv,k⟩ := q
 have hra := cell_room hpl (i := r1) (j := c1) (by omega) (by omega)
 have hrb := cell_room hpl (i := r2) (j := c2) (by omega) (by omega)
 have ca := cn_cell hpl (i := r1) (j := c1) (by omega) (by omega)
 have cb := cn_cell hpl (i := r2) (j := c2) (by omega) (by omega)
 have ha' : a.toNat < (rP p).length := by omega
 have hb' : b.toNat < (rP p).length := by omega
 have ea : cn (gP p) r1 c1 = a.toNat := by omega
 have eb : cn (gP p) r2 c2 = b.toNat := by omega
 have cz : ∀ i j,i < p.length → j < (hdRow p).length → (cn (gP p) i j : Int) = cellZ p i j := fun i j h1 h2 => cn_cell hpl h1 h2
 constructor
 ·rintro rfl
  simp only [Bool.false_eq_true,if_false] at k2
  simp only [Pt.one,Pt.two,Bool.false_eq_true,if_false] at *
  have hth := thU_iff.1 k2.2
  have hT : Thru (subC (cn (gP p)) t) t.h k := by
   intro r hr e
   have := hth r hr
   have g1 := cz (t.r + r) (t.c + k - 1) (by omega) (by omega)
   have g2 := cz (t.r + r) (t.c + k) (by omega) (by omega)
   simp only [subC] at e
   rw [show t.c + (k - 1) = t.c + k - 1 by omega] at e
   omega
  have h := thru_left hP k1 k2.1 hT (i := r1 - t.r) (j := c1 - t.c) (i' := r2 - t.r) (j' := c2 - t.c) (by omega) (by omega) (by omega) (by omega) (by omega)
  have h2 : TC (DL (cn (gP p)) p.length (hdRow p).length) (subC (cn (gP p)) t (r1 - t.r) (c1 - t.c)) (subC (cn (gP p)) t (r2 - t.r) (c2 - t.c)) := h.mono fun a b hd => DL.sub hi hd
  simp only [subC] at h2
  rw [show t.r + (r1 - t.r) = r1 by omega,show t.c + (c1 - t.c) = c1 by omega,show t.r + (r2 - t.r) = r2 by omega,show t.c + (c2 - t.c) = c2 by omega,ea,eb] at h2
  exact (Lf.iff ha' hb').2 h2
 ·rintro rfl
  simp only [if_true] at k2
  simp only [Pt.one,Pt.two,if_true] at *
  have hth := thL_iff.1 k2.2
  have hT : Thru (tr (subC (cn (gP p)) t)) t.w k := by
   intro r hr e
   have := hth r hr
   have g1 := cz (t.r + k - 1) (t.c + r) (by omega) (by omega)
   have g2 := cz (t.r + k) (t.c + r) (by omega) (by omega)
   simp only [tr,subC] at e
   rw [show t.r + (k - 1) = t.r + k - 1 by omega] at e
   omega
  have h := thru_left hP.ex k1 k2.1 hT (i := c1 - t.c) (j := r1 - t.r) (i' := c2 - t.c) (j' := r2 - t.r) (by omega) (by omega) (by omega) (by omega) (by omega)
  have h2 : TC (DU (cn (gP p)) p.length (hdRow p).length) (subC (cn (gP p)) t (r1 - t.r) (c1 - t.c)) (subC (cn (gP p)) t (r2 - t.r) (c2 - t.c)) := h.mono fun a b hd => DU.sub hi hd.ex
  simp only [subC] at h2
  rw [show t.r + (r1 - t.r) = r1 by omega,show t.c + (c1 - t.c) = c1 by omega,show t.r + (r2 - t.r) = r2 by omega,show t.c + (c2 - t.c) = c2 by omega,ea,eb] at h2
  exact (Ab.iff ha' hb').2 h2
end
inductive Ch (M : List (List Bool)) (ws : List Int) (a : Nat) : Nat → Int → Prop
 | one : Ch M ws a a (getI ws a)
 | snoc {b d : Nat} {s : Int} : Ch M ws a b s → getB M b d = true → Ch M ws a d (s + getI ws d)
theorem Ch.cat {M : List (List Bool)} {ws : List Int} {a b d e : Nat} {s u : Int} (h : Ch M ws a b s) (hbd : getB M b d = true) (k : Ch M ws d e u) : Ch M ws a e (s + u) := by
 induction k with
 | one => exact .snoc h hbd
 | snoc k hk ih => rw [← Int.add_assoc]; exact .snoc ih hk
section
variable {M : List (List Bool)} {ws : List Int} {n : Nat} {rk : Nat → Nat}
theorem Ch.le (hu : Up M n rk) (hsq : ∀ a b,getB M a b = true → a < n) {a b : Nat} {s : Int} (h : Ch M ws a b s) : b < n → s ≤ HB M ws n b := by
 induction h with
 | one => intro hb; rw [HB_beg hu hb]; have := beg_nn (M := M) (ws := ws) (n := n) a; omega
 | snoc k hk ih =>
  intro hb
  have h1 := ih (hsq _ _ hk)
  have h2 := beg_ge (ws := ws) (hsq _ _ hk) hk
  rw [HB_beg hu hb]; omega
theorem HB_le (hu : Up M n rk) {pos : Nat → Int} (h0 : ∀ b,b < n → 0 ≤ pos b) (hp : ∀ a b,a < n → b < n → getB M a b = true → pos a + getI ws a ≤ pos b) : ∀ k b,b < n → rk b < k → HB M ws n b ≤ pos b + getI ws b := by
 intro k
 induction k with
 | zero => intro b _ h; omega
 | succ k ih =>
  intro b hb hk
  rw [HB_beg hu hb]
  rcases beg_at (M := M) (ws := ws) (n := n) b with e | ⟨a,ha,hab,e⟩
  ·have := h0 b hb; omega
  ·have h1 := hu.up a b ha hb hab
   have h2 := ih a ha (by omega)
   have h3 := hp a b ha hb hab
   omega
end
section
variable {p : List Txt}
theorem cut_fit (hp : plainB p = true) {ws : List Int} (hn : NeedOk ws) (hl : ws.length = (rP p).length) : ∀ (n : Nat) {t : Pt} {x : CT},Whole (cellZ p) p.length (hdRow p).length t → t.h * t.w ≤ n → treeP (cellZ p) t = some x →
  (∃ pos : Int → Int,(∀ a ∈ x.leaves,0 ≤ pos a ∧ pos a + getI ws a.toNat ≤ cutV ws x) ∧ ∀ a ∈ x.leaves,∀ b ∈ x.leaves,Lf p a.toNat b.toNat → pos a + getI ws a.toNat ≤ pos b) ∧
  ∃ a ∈ x.leaves,∃ b ∈ x.leaves,Ch (lfM p) ws a.toNat b.toNat (cutV ws x)
 | 0,t,x,hw,hn',_ => by have := Nat.mul_pos hw.inn.1 hw.inn.2.1; omega
 | n + 1,t,x,hw,hn',hx => by
  have hpl := plain_plan hp
  have hi := hw.inn
  have hlv : ∀ {t : Pt} {x : CT},Whole (cellZ p) p.length (hdRow p).length t → treeP (cellZ p) t = some x → ∀ a ∈ x.leaves,0 ≤ a ∧ a.toNat < (rP p).length := by
   intro t x hw hx a ha
   obtain ⟨i,j,e1,e2,e3,e4,e5⟩ := ((tree_leaves (plan_rz hpl) _ hw (Nat.le_refl _) hx).2.1 a).1 ha
   have hin := hw.inn
   unfold Pt.In at hin
   have := cell_room hpl (i := i) (j := j) (by omega) (by omega)
   omega
  cases h1 : oneZ (cellZ p) t with
  | true =>
   rw [treeP_one hi h1] at hx
   cases hx
   have hb := hlv hw (treeP_one hi h1) (cellZ p t.r t.c) (by simp [CT.leaves])
   refine ⟨⟨fun _ => 0,fun a ha => ?_,fun a ha b hb' hab => ?_⟩,_,by simp [CT.leaves],_,by simp [CT.leaves],.one⟩
   ·simp only [CT.leaves,List.mem_singleton] at ha; subst ha; simp [cutV,CT.fold]
   ·simp only [CT.leaves,List.mem_singleton] at ha hb'
    subst ha; subst hb'
    exact absurd hab (Lf.only hp hb.2 hb.2 hab).1
  | false =>
   cases hq : cutOf (cellZ p) t with
   | none => rw [treeP_none hi h1 hq] at hx; cases hx
   | some q =>
    obtain ⟨i1,i2,a1,a2⟩ := hi.cut hq
    obtain ⟨w1,w2⟩ := hw.cut (plan_rz hpl) hq
    rw [treeP_cut hi h1 hq] at hx
    cases hx1 : treeP (cellZ p) (t.one q) with
    | none => rw [hx1] at hx; cases hx
    | some x1 =>
     cases hx2 : treeP (cellZ p) (t.two q) with
     | none => rw [hx1,hx2] at hx; cases hx
     | some x2 =>
      rw [hx1,hx2] at hx
      cases hx
      have hs := cut_sides hp hw hq hx1 hx2
      have l1 := hlv w1 hx1
      have l2 := hlv w2 hx2
      obtain ⟨⟨p1,b1,b2⟩,c1,c2,c3,c4,c5⟩ := cut_fit hp hn hl n w1 (by omega) hx1
      obtain ⟨⟨p2,d1,d2⟩,e1,e2,e3,e4,e5⟩ := cut_fit hp hn hl n w2 (by omega) hx2
      have v1 : 0 ≤ cutV ws x1 := by have := b1 c1 c2; have := need_at hn (b := c1.toNat) (by rw [hl]; exact (l1 c1 c2).2); omega
      have hdis : ∀ a,a ∈ x1.leaves → a ∈ x2.leaves → False := by
       intro a ha hb
       have := hs a a ha hb
       have hr := (l1 a ha).2
       obtain ⟨lv,k⟩ := q
       cases lv with
       | false => exact (Lf.only hp hr hr (this.1 rfl)).1 (this.1 rfl)
       | true => exact (Ab.only hp hr hr (this.2 rfl)).1 (this.2 rfl)
      obtain ⟨lv,k⟩ := q
      cases lv with
      | false =>
       have hv : cutV ws (.node false x1 x2) = cutV ws x1 + cutV ws x2 := rfl
       simp only at hv ⊢
       rw [hv]
       refine ⟨⟨fun a => if a ∈ x1.leaves then p1 a else cutV ws x1 + p2 a,fun a ha => ?_,fun a ha b hb hab => ?_⟩,c1,by simp [CT.leaves,c2],e3,by simp [CT.leaves,e4],c5.cat ((hs c3 e1 c4 e2).1 rfl) e5⟩
       ·simp only [CT.leaves,List.mem_append] at ha
        by_cases hm : a ∈ x1.leaves
        ·simp only [hm,if_true]; have := b1 a hm; have := d1 e1 e2; have := need_at hn (b := e1.toNat) (by rw [hl]; exact (l2 e1 e2).2); omega
        ·simp only [hm,if_false]; have := d1 a (ha.resolve_left hm); omega
       ·simp only [CT.leaves,List.mem_append] at ha hb
        by_cases hm : a ∈ x1.leaves <;> by_cases hm' : b ∈ x1.leaves
        ·simp only [hm,hm',if_true]; exact b2 a hm b hm' hab
        ·simp only [hm,hm',if_true,if_false]; have := b1 a hm; have := d1 b (hb.resolve_left hm'); omega
        ·exact absurd hab (Lf.only hp (l1 b hm').2 (l2 a (ha.resolve_left hm)).2 ((hs b a hm' (ha.resolve_left hm)).1 rfl)).1
        ·simp only [hm,hm',if_false]; have := d2 a (ha.resolve_left hm) b (hb.resolve_left hm') hab; omega
      | true =>
       have hv : cutV ws (.node true x1 x2) = max (cutV ws x1) (cutV ws x2) := rfl
       simp only at hv ⊢
       rw [hv]
       refine ⟨⟨fun a => if a ∈ x1.leaves then p1 a else p2 a,fun a ha => ?_,fun a ha b hb hab => ?_⟩,?_⟩
       ·simp only [CT.leaves,List.mem_append] at ha
        by_cases hm : a ∈ x1.leaves
        ·simp only [hm,if_true]; have := b1 a hm; omega
        ·simp only [hm,if_false]; have := d1 a (ha.resolve_left hm); omega
       ·simp only [CT.leaves,List.mem_append] at ha hb
        by_cases hm : a ∈ x1.leaves <;> by_cases hm' : b ∈ x1.leaves
        ·simp only [hm,hm',if_true]; exact b2 a hm b hm' hab
        ·exact absurd hab (Ab.only hp (l1 a hm).2 (l2 b (hb.resolve_left hm')).2 ((hs a b hm (hb.resolve_left hm')).2 rfl)).2.1
        ·exact absurd hab (Ab.only hp (l1 b hm').2 (l2 a (ha.resolve_left hm)).2 ((hs b a hm' (ha.resolve_left hm)).2 rfl)).2.2
        ·simp only [hm,hm',if_false]; exact d2 a (ha.resolve_left hm) b (hb.resolve_left hm') hab
       ·rcases Int.le_total (cutV ws x1) (cutV ws x2) with h | h
        ·rw [Int.max_eq_right h]; exact ⟨e1,by simp [CT.leaves,e2],e3,by simp [CT.leaves,e4],e5⟩
        ·rw [Int.max_eq_left h]; exact ⟨c1,by simp [CT.leaves,c2],c3,by simp [CT.leaves,c4],c5⟩
theorem cut_wide {ws : List Int} (hv : needV p [ws] = true) {x : CT} (hx : treeP (cellZ p) ⟨0,0,p.length,(hdRow p).length⟩ = some x) : cutV ws x = maxL (heaviest (lfM p) ws (rP p).length) := by
 obtain ⟨u1,u2,q1,q2,q3,q4,hp⟩ := needV_all hv
 have hpl := plain_plan hp
 have hw := whole_all hpl
 obtain ⟨_,hm,_⟩ := tree_leaves (plan_rz hpl) _ hw (Nat.le_refl _) hx
 obtain ⟨⟨pos,h1,h2⟩,a,ha,b,hb,hch⟩ := cut_fit hp q4 q1 _ hw (Nat.le_refl _) hx
 have hall : ∀ b,b < (rP p).length → (b : Int) ∈ x.leaves := by
  intro b hb
  obtain ⟨i,j,hi,hj,e⟩ := room_cell hb
  have := cn_cell hpl hi hj
  exact (hm b).2 ⟨i,j,by simp,by simpa using hi,by simp,by simpa using hj,by omega⟩
 have hbl : b.toNat < (rP p).length := by
  obtain ⟨i,j,e1,e2,e3,e4,e5⟩ := (hm b).1 hb
  simp only [Nat.zero_add] at e2 e4
  have := cell_room hpl e2 e4
  omega
 apply Int.le_antisymm
 ·refine Int.le_trans (hch.le u1 (fun a b h => ?_) hbl) (hb_le hbl)
  by_cases hlt : a < (rP p).length
  ·exact hlt
  ·exfalso
   have hsq := u1.sq.1
   unfold getB at h
   have hge : (lfM p).length ≤ a := by omega
   rw [List.getElem?_eq_none hge] at h
   simp at h
 ·obtain ⟨c,hc,e⟩ := hb_is (M := lfM p) (ws := ws) q2
  rw [← e]
  have h3 := HB_le (ws := ws) u1 (pos := fun b => pos (b : Int)) (fun b hb => (h1 b (hall b hb)).1) (fun a b ha hb hab => by have := h2 a (hall a ha) b (hall b hb) (show Lf p a b from hab); simpa using this) _ c hc (Nat.lt_succ_self _)
  have h4 := (h1 c (hall c hc)).2
  simp only [Int.toNat_natCast] at h4
  omega
end
end
theorem scV_yes {p : List Txt} {ws : List Int} (h : (scV p ws).2 = true) : needV p [ws] = true ∧ wideV p ws = (scV p ws).1 := by
 cases hv : needV p [ws] with
 | false => unfold scV at h; rw [hv] at h; cases h
 | true =>
  refine ⟨rfl,?_⟩
  rw [wideV_yes hv]
  cases hx : treeP (cellZ p) (allPt p) with
  | none => unfold scV at h; rw [hv,hx] at h; cases h
  | some x => rw [show scV p ws = (cutV ws x,true) by unfold scV; rw [hv,hx]; rfl]; exact (cut_wide hv hx).symm
theorem drawSizeCut_ev {code : Txt} (hc : code.length ≤ 1048576) : Ev Tryz.prog 7 [eBy code] ⟨[],0⟩ fun v S => ∃ (p : List Txt) (ws : List Int) (t : Nat),Sm p ∧ ws.length ≤ 400 ∧ v = .tup [eStrs p,eInts ws] ∧ S = ⟨[],t⟩ := by
 refine Ev.of ⟨Tryz.func7,by kernel_rfl,rfl,by kernel_rfl⟩ tabOk mixed (by show 1 ≤ Tryz.f7.ntmps; decide) ?_
 refine W.r fun K hK => ?_
 simp (disch := omega) only [↓RU,RV,RH,↓reduceIte,reduceEqDiff,reduceCtorEq,if_pos,↓RS,RG,reduceAdd,reduceMul,reduceLeDiff]
 refine hK _ _ ?_;clear hK K
 refine W.r fun K hK => ?_
 simp (disch := omega) only [↓RU,RV,RH,↓reduceIte,reduceEqDiff,reduceCtorEq,if_pos,List.append_nil,↓RS,RG,reduceAdd,reduceMul,reduceLeDiff]
 refine CallR.ev (l92Sized_ev hc) ?_
 rintro _ _ ⟨p,ws,t,hs,hwsl,rfl,rfl⟩
 simp (disch := omega) only [↓RU,RV,RH,↓reduceIte,reduceEqDiff,reduceCtorEq,if_pos,List.append_nil,↓RS,RG,reduceAdd,reduceMul,reduceLeDiff]
 refine hK _ _ ?_;clear hK K
 refine W.ret ?_
 refine Br rfl ?_
 exact ⟨0,p,ws,_,hs,hwsl,rfl,rfl⟩
theorem sizeCut_law {code : Txt} (hcode : code.length ≤ 9223372036854775807) : PC Tryz.prog 3 [eBy code] (.bool true) true := by
 refine PC.of ⟨Tryz.func3,by kernel_rfl,rfl,by kernel_rfl⟩ tabOk mixed (by show 1 ≤ Tryz.f3.ntmps; decide) ?_
 refine W.r fun K hK => ?_
 simp (disch := omega) only [↓RU,RV,RH,↓reduceIte,reduceEqDiff,reduceCtorEq,if_pos,↓RS,RG,reduceAdd,reduceMul,reduceLeDiff]
 refine hK _ _ ?_;clear hK K
 refine W.seq ?_
 refine W.r fun K hK => ?_
 simp (disch := omega) only [↓RU,RV,RH,↓reduceIte,reduceEqDiff,reduceCtorEq,if_pos,w64,↓RS,RG,reduceAdd,reduceMul,reduceLeDiff,ty6,tyint,ty30]
 refine hK _ _ ?_;clear hK K
 refine W.cond rfl (fun h0 => ?_) (fun h0 => ?_)
 ·try simp only [RL] at h0
  refine W.r fun K hK => ?_
  simp (disch := omega) only [↓RU,RV,RH,↓reduceIte,reduceEqDiff,reduceCtorEq,if_pos,↓RS,RG,reduceAdd,reduceMul,reduceLeDiff]
  refine hK _ _ ?_;clear hK K
  refine W.ret ?_
  refine XThen.ret ?_
  refine Br rfl ?_
  rfl
 ·try simp only [RL] at h0
  have hcl : code.length ≤ 1048576 := by omega
  refine W.skip ?_
  refine xn ?_
  refine W.r fun K hK => ?_
  simp (disch := omega) only [↓RU,RV,RH,↓reduceIte,reduceEqDiff,reduceCtorEq,if_pos,List.append_nil,↓RS,RG,reduceAdd,reduceMul,reduceLeDiff]
  refine CallR.ev (drawSizeCut_ev hcl) ?_
  rintro _ _ ⟨p,ws,t,hs,hwl,rfl,rfl⟩
  simp (disch := omega) only [↓RU,RV,RH,↓reduceIte,reduceEqDiff,reduceCtorEq,if_pos,List.append_nil,↓RS,RG,reduceAdd,reduceMul,reduceLeDiff]
  refine hK _ _ ?_;clear hK K
  refine W.r fun K hK => ?_
  simp (disch := omega) only [↓RU,RV,RH,↓reduceIte,reduceEqDiff,reduceCtorEq,if_pos,List.append_nil,↓RS,RG,reduceAdd,reduceMul,reduceLeDiff]
  refine CallR.pc (sizeCut_pc hs (by omega)) rfl (.inl rfl) ?_
  simp (disch := omega) only [↓RU,RV,RH,↓reduceIte,reduceEqDiff,reduceCtorEq,if_pos,List.append_nil,↓RS,RG,reduceAdd,reduceMul,reduceLeDiff]
  refine hK _ _ ?_;clear hK K
  refine W.r fun K hK => ?_
  simp (disch := omega) only [↓RU,RV,RH,↓reduceIte,reduceEqDiff,reduceCtorEq,if_pos,List.append_nil,↓RS,RG,reduceAdd,reduceMul,reduceLeDiff]
  refine CallR.pc (sSizeCut_pc hs (by omega)) rfl (.inl rfl) ?_
  simp (disch := omega) only [↓RU,RV,RH,↓reduceIte,reduceEqDiff,reduceCtorEq,if_pos,List.append_nil,↓RS,RG,reduceAdd,reduceMul,reduceLeDiff]
  refine hK _ _ ?_;clear hK K
  refine W.seq ?_
  refine W.r fun K hK => ?_
  cases hv : (scV p ws).2
  ·skip
   simp (disch := omega) only [↓RU,RV,RH,↓reduceIte,reduceEqDiff,reduceCtorEq,if_pos,w64,↓RS,RG,reduceAdd,reduceMul,reduceLeDiff,tybool,tyint,pEq_bb,Option.map_some,bne_self_eq_false,beq_self_eq_true,Bool.not_true,Bool.not_false,decide_true,hv]
   refine hK _ _ ?_;clear hK K
   refine W.cond rfl (fun h1 => ?_) (fun h1 => ?_)
   ·try simp only [RL] at h1
    refine W.r fun K hK => ?_
    simp (disch := omega) only [↓RU,RV,RH,↓reduceIte,reduceEqDiff,reduceCtorEq,if_pos,w64,↓RS,RG,reduceAdd,reduceMul,reduceLeDiff,tybool,tyint,pEq_bb,Option.map_some,bne_self_eq_false,beq_self_eq_true,Bool.not_true,Bool.not_false,decide_true]
    refine hK _ _ ?_;clear hK K
    refine W.ret ?_
    refine XThen.ret ?_
    refine Br rfl ?_
    rfl
   ·try simp only [RL] at h1
    exact absurd h1 (by simp)
  ·skip
   simp (disch := omega) only [↓RU,RV,RH,↓reduceIte,reduceEqDiff,reduceCtorEq,if_pos,w64,↓RS,RG,reduceAdd,reduceMul,reduceLeDiff,tybool,tyint,pEq_bb,Option.map_some,bne_self_eq_false,beq_self_eq_true,Bool.not_true,Bool.not_false,decide_true,hv]
   refine hK _ _ ?_;clear hK K
   refine W.cond rfl (fun h1 => ?_) (fun h1 => ?_)
   ·try simp only [RL] at h1
    exact absurd h1 (by simp)
   ·try simp only [RL] at h1
    obtain ⟨hn,hwv⟩ := scV_yes hv
    refine W.skip ?_
    refine xn ?_
    refine W.r fun K hK => ?_
    simp (disch := omega) only [↓RU,RV,RH,↓reduceIte,reduceEqDiff,reduceCtorEq,if_pos,List.append_nil,↓RS,RG,reduceAdd,reduceMul,reduceLeDiff,hn,hwv]
    refine CallR.pc (sizeWide_v hs (by omega)) rfl (.inl rfl) ?_
    simp (disch := omega) only [↓RU,RV,RH,↓reduceIte,reduceEqDiff,reduceCtorEq,if_pos,List.append_nil,↓RS,RG,reduceAdd,reduceMul,reduceLeDiff,hn,hwv]
    refine hK _ _ ?_;clear hK K
    refine W.r fun K hK => ?_
    simp (disch := omega) only [↓RU,RV,RH,↓reduceIte,reduceEqDiff,reduceCtorEq,if_pos,w64,↓RS,RG,reduceAdd,reduceMul,reduceLeDiff,tyint,pEq_bb,Option.map_some,bne_self_eq_false,beq_self_eq_true,Bool.not_true,Bool.not_false,decide_true,hn,hwv,beq_self_eq_true]
    refine hK _ _ ?_;clear hK K
    refine W.ret ?_
    refine Br rfl ?_
    rfl
end Fw
end Go.Proofs.YtjobkanbijpfgaaGreat
namespace Go.Proofs.YtjobkanbijpfgaaGreat
open Go Go.ChangeShapes Go.WideShapes Go.ChangeAt Go.RowKit Fw
theorem Tryz.ownRna : ownKnob Tryz.prog.godebug = none := by kernel_rfl
theorem Tryz.laidOutRna : laidOutB Tryz.prog = true := by kernel_rfl
set_option maxRecDepth 100000 in
theorem rna_lifted (os : Os) (started : os.Started) (H : Type) (enc : TypeId × Value → H) :
  ReturnsInHanded {} Tryz.checked os 3 .any (Rows.fnSizeCutSpec.pre6 enc Tryz.prog Tryz.f3 Rows.fnSizeCutRow.domain false) (Rows.fnSizeCutSpec.post enc Tryz.prog Tryz.f3 false true false false) := by
 refine returnsInHanded_of_change (C := Tryz.checked) Tryz.ownRna started (by kernel_rfl) Tryz.func3
  (ChangeSpec.witness6 (enc := enc) (C := Tryz.checked) false ⟨#[],#[.slice none 0 0],[]⟩ 8 (by kernel_rfl) (by kernel_rfl) (by kernel_rfl) (by kernel_rfl)) ?_
 intro W base args ds gs before hval0 hW hcnd _
 have hval : ∀ (j : Nat) t v,Tryz.f3.params[j]? = some t → args[j]? = some v → Value.okWide Tryz.prog W .any base t v := hval0
 have hW' := hW
 obtain ⟨p,q,hA0,hV,rfl,hfz,hnd⟩ := hW
 have hA : DataW.TrodAll enc Tryz.prog W 0 (fun _ => true) true Tryz.f3.params.toList args.toList ds p := hA0
 rw [Tryz.params3] at hA hval
 obtain ⟨v0,d0,rfl,rfl,h0⟩ := trodAll_one hA
 obtain ⟨rfl,rfl⟩ := trodVars_none hV
 obtain ⟨l0,i0,b0⟩ := vi_bytes (hval 0 _ v0 rfl rfl) h0
 have hlt : ∀ x ∈ p,x.block < W.heap.size := fun x hx => hW'.lt x (by simp [hx])
 refine ((sizeCut_law b0).run (fun b => b < W.heap.size) W #[v0] (fun _ h => h) rfl ?_).mono ?_
 ·rintro (_ | i) p c hp hc
  ·cases hp; cases hc; exact i0
  ·simp at hp
 ·rintro e W' ⟨cv,rfl,⟨hB,_⟩,hr⟩
  have hcv : cv = .bool true := by cases hr; rfl
  subst hcv
  have t0 := Below.trod Tryz.laidOutRna (by kernel_rfl) (of_decide_eq_true (by kernel_rfl)) h0 hB fun x hx => hlt x (by simp [hx])
  refine ⟨_,rfl,_,_,_,[],p,[],hW',?_,?_,?_,hB.frame _,fun h => by cases h⟩
  ·exact trodAll_mk1 (shut_bool Tryz.underlying4 true)
  ·rw [Tryz.params3]; exact trodAll_mk1 t0
  ·trivial
theorem rna_holds : Rows.FnSizeCutSaid :=
 OpenClaim.holds_of_wide 3 Tryz.f3 rfl rfl rfl rfl rfl rfl rfl ⟨rfl,rfl,rfl,rfl,rfl⟩ rfl rfl rfl rfl rfl (by kernel_rfl) Tryz.func3 (by kernel_rfl)
  (of_decide_eq_true (by kernel_rfl)) (by unfold Func.isWrapper; first | (rw [if_pos (by decide +kernel)]; kernel_rfl) | (rw [if_neg (by decide +kernel)]; exact ⟨rfl,rfl⟩))
  (fun os started H enc _ => rna_lifted os started H enc)
end Go.Proofs.YtjobkanbijpfgaaGreat
