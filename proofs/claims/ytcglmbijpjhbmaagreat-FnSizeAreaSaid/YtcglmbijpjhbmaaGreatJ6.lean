/- Areas are at least those of all rooms: the law FnSizeArea answers true for all codes. No condition. -/
import Derived.Test.YtcglmbijpjhbmaaGreatJ4
import Derived.Test.YtcglmbijpjhbmaaGreatJ5
set_option linter.all false
/-! Where rooms begin and how far they may be moved: the program's lists are the specification's. -/
namespace Go.Proofs.YtcglmbijpjhbmaaGreat
namespace Fw
open Go

theorem hv_at {M : List (List Bool)} {ws : List Int} {n b : Nat} (hb : b < n) : (heaviest M ws n)[b]? = some (HB M ws n b) := by simp [heaviest, hb]

section
variable {M : List (List Bool)} {ms : List Nat} {ws : List Int} {n : Nat} {rk : Nat → Nat}

def bhB (sets : List Nat) (needs : List Int) (a : Nat) (out : List Int) (b : Nat) : List Int :=
  if bitOf sets a b then out.set a (max (getI out a) (getI out b + getI needs b)) else out
def bhA (sets : List Nat) (needs : List Int) (out : List Int) (a : Nat) : List Int := (List.range needs.length).foldl (bhB sets needs a) out
def bhN (sets : List Nat) (needs : List Int) (out : List Int) (_ : Nat) : List Int := (List.range needs.length).foldl (bhA sets needs) out
def behind (sets : List Nat) (needs : List Int) : List Int := (List.range needs.length).foldl (bhN sets needs) (List.replicate needs.length 0)
end
/-- A plan's relation of rooms to the left: all that the sizes want. -/
theorem plan_same {p : List Txt} {ws : List Int} (h : needV p [ws] = true) : Same (rP p).length (leftG (gP p) p.length (w0 (readG p)) (rP p).length) (allS p 0) ∧ Same (rP p).length (aboveG (gP p) p.length (w0 (readG p)) (rP p).length) (allS p 1) ∧
    Up (leftG (gP p) p.length (w0 (readG p)) (rP p).length) (rP p).length (rkL p) ∧ Up (aboveG (gP p) p.length (w0 (readG p)) (rP p).length) (rP p).length (rkA p) ∧ ws.length = (rP p).length ∧ 1 ≤ (rP p).length ∧ NeedOk ws := by
  obtain ⟨h1, h2, h3⟩ := needV_one h
  have hok : okB p = true := by
    have h9 := h1
    unfold plainI floorI at h9
    simp only [Bool.and_eq_true] at h9
    exact h9.1.1
  have hn1 := okB_rooms1 hok
  rw [plainI_plain] at h1
  have hp := plain_plan h1
  have hN := plan_named hp
  obtain ⟨u0, u1⟩ := plan_up hp
  have hr := hN.rooms
  obtain ⟨s0, s1⟩ := same_all hN.hg (n := (rP p).length) (by omega) (fun i j hi hj => hN.cell hi hj) gP_room
  rw [w0_read]
  exact ⟨s0, s1, u0, u1, h2, hn1, h3⟩
end Fw
end Go.Proofs.YtcglmbijpjhbmaaGreat

/-! Shapes in plain words: the program's least shapes are the specification's. -/
namespace Go.Proofs.YtcglmbijpjhbmaaGreat
namespace Fw
open Go

/-- A shape put to best ones. -/
def domB (x : Int × Int) (w h : Int) : Bool := decide (x.1 ≤ w) && decide (x.2 ≤ h)
def putStep (w h : Int) (s : List (Int × Int) × Bool) (x : Int × Int) : List (Int × Int) × Bool :=
  if w ≤ x.1 ∧ h ≤ x.2 then s else if s.2 = false ∧ w < x.1 then (s.1 ++ [(w, h), x], true) else (s.1 ++ [x], s.2)
def putF (l : List (Int × Int)) (w h : Int) : List (Int × Int) × Bool := l.foldl (putStep w h) ([], false)
def put (l : List (Int × Int)) (w h : Int) : List (Int × Int) := if l.any (fun x => domB x w h) then l else if (putF l w h).2 then (putF l w h).1 else (putF l w h).1 ++ [(w, h)]
end Fw
end Go.Proofs.YtcglmbijpjhbmaaGreat

/-! Sizes in plain words: areas, places, slacks, longest rows. -/
namespace Go.Proofs.YtcglmbijpjhbmaaGreat
namespace Fw
open Go

theorem foldl_max_ge {l : List Int} : ∀ {m : Int}, m ≤ l.foldl max m ∧ ∀ x ∈ l, x ≤ l.foldl max m := by
  induction l with
  | nil => intro m; simp
  | cons a l ih =>
    intro m
    obtain ⟨h1, h2⟩ := ih (m := max m a)
    refine ⟨by simp only [List.foldl_cons]; omega, fun x hx => ?_⟩
    simp only [List.foldl_cons]
    rcases List.mem_cons.1 hx with rfl | hx
    · omega
    · exact h2 x hx
theorem foldl_max_mem {l : List Int} : ∀ {m : Int}, l.foldl max m = m ∨ l.foldl max m ∈ l := by
  induction l with
  | nil => intro m; simp
  | cons a l ih =>
    intro m
    simp only [List.foldl_cons]
    rcases ih (m := max m a) with h | h
    · rw [h]
      by_cases q : a ≤ m
      · left; omega
      · right; rw [show max m a = a by omega]; simp
    · right; exact List.mem_cons_of_mem _ h
theorem maxL_ge {l : List Int} {x : Int} (h : x ∈ l) : x ≤ maxL l := by
  cases l with
  | nil => simp at h
  | cons a l =>
    obtain ⟨h1, h2⟩ := foldl_max_ge (l := l) (m := a)
    unfold maxL
    rcases List.mem_cons.1 h with rfl | h
    · exact h1
    · exact h2 x h
theorem maxL_mem {l : List Int} (h : l ≠ []) : maxL l ∈ l := by
  cases l with
  | nil => exact absurd rfl h
  | cons a l =>
    show l.foldl max a ∈ a :: l
    rcases foldl_max_mem (l := l) (m := a) with h | h
    · rw [h]; simp
    · exact List.mem_cons_of_mem _ h
theorem sN_one_le {f : Nat → Bool} : ∀ {n : Nat}, (∀ r s, r < n → s < n → f r = true → f s = true → r = s) → sN n (fun r => b1 (f r)) ≤ 1 := by
  intro n
  induction n with
  | zero => intro _; simp [sN]
  | succ n ih =>
    intro h
    show sN n (fun r => b1 (f r)) + b1 (f n) ≤ 1
    have := ih fun r s hr hs => h r s (by omega) (by omega)
    cases hf : f n with
    | false => simp [b1]; exact this
    | true =>
      have e : sN n (fun r => b1 (f r)) = sN n (fun _ => 0) := sN_congr fun i hi => by
        cases hi2 : f i with
        | false => rfl
        | true => have := h i n (by omega) (by omega) hi2 hf; omega
      rw [e, sN_zero]; simp [b1]

section
variable {M : List (List Bool)} {ws : List Int} {n : Nat} {rk : Nat → Nat}
theorem hb_le {b : Nat} (hb : b < n) : HB M ws n b ≤ maxL (heaviest M ws n) := maxL_ge (List.mem_of_getElem? (hv_at hb))
theorem hb_is (hn : 1 ≤ n) : ∃ b, b < n ∧ HB M ws n b = maxL (heaviest M ws n) := by
  have h := maxL_mem (l := heaviest M ws n) (by intro h; have := congrArg List.length h; rw [heaviest_len] at this; simp at this; omega)
  unfold heaviest at h
  obtain ⟨b, hb, e⟩ := List.mem_map.1 h
  exact ⟨b, by simpa using hb, e⟩
theorem beg_nn (b : Nat) : 0 ≤ beg M ws n b := hvF_pos n
theorem beg_ge {a b : Nat} (ha : a < n) (h : getB M a b = true) : HB M ws n a ≤ beg M ws n b := hvF_ge ha h
theorem need_at (hw : NeedOk ws) {b : Nat} (hb : b < ws.length) : 1 ≤ getI ws b ∧ getI ws b ≤ 9 := by
  obtain ⟨x, hx, hm⟩ := get_of hb
  rw [getI_is hx]; exact hw x hm
end
/-- Rooms that are left of or above each other fill no more than the whole. -/
theorem area_ge {L A : List (List Bool)} {n : Nat} {rl ra : Nat → Nat} {ws hs : List Int} (hL : Up L n rl) (hA : Up A n ra) (ht : ∀ a b, a < n → b < n → a ≠ b → getB L a b = true ∨ getB L b a = true ∨ getB A a b = true ∨ getB A b a = true)
    (lw : ws.length = n) (lh : hs.length = n) (hw : NeedOk ws) (hh : NeedOk hs) : ∀ z : Int, z = ((sN n fun r => (getI ws r).toNat * (getI hs r).toNat : Nat) : Int) → z ≤ maxL (heaviest L ws n) * maxL (heaviest A hs n) := by
  rintro z rfl
  have key : ∀ {M : List (List Bool)} {rk : Nat → Nat} {vs : List Int}, Up M n rk → vs.length = n → NeedOk vs → ∀ r, r < n → (beg M vs n r).toNat + (getI vs r).toNat = (HB M vs n r).toNat ∧ (HB M vs n r).toNat ≤ (maxL (heaviest M vs n)).toNat := by
    intro M rk vs hu hl hv r hr
    have h1 := HB_beg (ws := vs) hu hr
    have h2 := beg_nn (M := M) (ws := vs) (n := n) r
    have h3 := (need_at hv (by omega : r < vs.length)).1
    have h4 := hb_le (M := M) (ws := vs) hr
    omega
  have e1 : (sN n fun r => (getI ws r).toNat * (getI hs r).toNat) = sN n fun r => cnt (maxL (heaviest A hs n)).toNat (maxL (heaviest L ws n)).toNat (inR (beg A hs n r).toNat (beg L ws n r).toNat (getI hs r).toNat (getI ws r).toNat) := sN_congr fun r hr => by
    have k1 := key hL lw hw r hr
    have k2 := key hA lh hh r hr
    rw [cnt_rect (by omega) (by omega), Nat.mul_comm]
  rw [e1]
  unfold cnt
  rw [sN_swap]
  have e2 : sN (maxL (heaviest A hs n)).toNat (fun i => sN n fun r => sN (maxL (heaviest L ws n)).toNat fun j => b1 (inR (beg A hs n r).toNat (beg L ws n r).toNat (getI hs r).toNat (getI ws r).toNat i j)) ≤ sN (maxL (heaviest A hs n)).toNat (fun _ => (maxL (heaviest L ws n)).toNat) := by
    refine sN_le fun i hi => ?_
    rw [sN_swap]
    have : sN (maxL (heaviest L ws n)).toNat (fun j => sN n fun r => b1 (inR (beg A hs n r).toNat (beg L ws n r).toNat (getI hs r).toNat (getI ws r).toNat i j)) ≤ sN (maxL (heaviest L ws n)).toNat (fun _ => 1) := by
      refine sN_le fun j hj => sN_one_le fun r s hr hq h1 h2 => ?_
      simp only [inR, Bool.and_eq_true, decide_eq_true_eq] at h1 h2
      refine Classical.byContradiction fun hne => ?_
      have k1 := key hL lw hw r hr
      have k2 := key hA lh hh r hr
      have k3 := key hL lw hw s hq
      have k4 := key hA lh hh s hq
      rcases ht r s hr hq hne with h | h | h | h
      · have := beg_ge (M := L) (ws := ws) (n := n) hr h; omega
      · have := beg_ge (M := L) (ws := ws) (n := n) hq h; omega
      · have := beg_ge (M := A) (ws := hs) (n := n) hr h; omega
      · have := beg_ge (M := A) (ws := hs) (n := n) hq h; omega
    rw [sN_one] at this; exact this
  rw [sN_const] at e2
  have e3 := Int.ofNat_le.2 e2
  have p1 : 0 ≤ maxL (heaviest L ws n) ∧ 0 ≤ maxL (heaviest A hs n) := by
    by_cases hn : 1 ≤ n
    · obtain ⟨b, hb, e⟩ := hb_is (M := L) (ws := ws) hn
      obtain ⟨c, hc, e'⟩ := hb_is (M := A) (ws := hs) hn
      rw [← e, ← e']
      exact ⟨(HB_bound hw b).1, (HB_bound hh c).1⟩
    · have : n = 0 := by omega
      subst this
      exact ⟨Int.le_refl _, Int.le_refl _⟩
  have e4 : (((maxL (heaviest A hs n)).toNat * (maxL (heaviest L ws n)).toNat : Nat) : Int) = maxL (heaviest L ws n) * maxL (heaviest A hs n) := by
    rw [Int.natCast_mul, Int.toNat_of_nonneg p1.1, Int.toNat_of_nonneg p1.2, Int.mul_comm]
  rw [← e4]; exact e3
end Fw
end Go.Proofs.YtcglmbijpjhbmaaGreat

/-! What the laws of sizes ask, of plans in plain words. -/
namespace Go.Proofs.YtcglmbijpjhbmaaGreat
namespace Fw
open Go

theorem lf_eq {p : List Txt} : leftG (gP p) p.length (w0 (readG p)) (rP p).length = lfM p := by rw [w0_read]; rfl
theorem ab_eq {p : List Txt} : aboveG (gP p) p.length (w0 (readG p)) (rP p).length = abM p := by rw [w0_read]; rfl
theorem needV_all {p : List Txt} {ws : List Int} (h : needV p [ws] = true) : Up (lfM p) (rP p).length (rkL p) ∧ Up (abM p) (rP p).length (rkA p) ∧ ws.length = (rP p).length ∧ 1 ≤ (rP p).length ∧ (rP p).length ≤ 9 ∧ NeedOk ws ∧ plainB p = true := by
  obtain ⟨-, -, h1, h2, h3, h4, h5⟩ := plan_same h
  rw [lf_eq] at h1; rw [ab_eq] at h2
  obtain ⟨k1, -, -⟩ := needV_one h
  have hok : okB p = true := by
    have h9 := k1
    unfold plainI floorI at h9
    simp only [Bool.and_eq_true] at h9
    exact h9.1.1
  have h9 := okB_rooms hok
  rw [plainI_plain] at k1
  exact ⟨h1, h2, h3, h4, h9, h5, k1⟩
theorem tot_lf {p : List Txt} (hp : plainB p = true) (a b : Nat) (ha : a < (rP p).length) (hb : b < (rP p).length) (hne : a ≠ b) : getB (lfM p) a b = true ∨ getB (lfM p) b a = true ∨ getB (abM p) a b = true ∨ getB (abM p) b a = true := order_some hp ha hb hne

/-- The sum of the rooms' areas. -/
def asum (ws hs : List Int) (i : Nat) : Int := (List.range i).foldl (fun s k => s + getI ws k * getI hs k) 0
theorem asum_succ {ws hs : List Int} {i : Nat} : asum ws hs (i + 1) = asum ws hs i + getI ws i * getI hs i := by unfold asum; rw [foldl_rg]
theorem asum_is {ws hs : List Int} (hw : NeedOk ws) (hh : NeedOk hs) (hl : ws.length = hs.length) : ∀ i, i ≤ ws.length → asum ws hs i = ((sN i fun r => (getI ws r).toNat * (getI hs r).toNat : Nat) : Int) ∧ 0 ≤ asum ws hs i ∧ asum ws hs i ≤ 81 * i := by
  intro i
  induction i with
  | zero => intro _; exact ⟨rfl, Int.le_refl _, Int.le_refl _⟩
  | succ i ih =>
    intro hi
    obtain ⟨h1, h2, h3⟩ := ih (by omega)
    have k1 := need_at hw (show i < ws.length by omega)
    have k2 := need_at hh (show i < hs.length by omega)
    rw [asum_succ]
    have e : (((getI ws i).toNat * (getI hs i).toNat : Nat) : Int) = getI ws i * getI hs i := by
      rw [Int.natCast_mul, Int.toNat_of_nonneg (by omega), Int.toNat_of_nonneg (by omega)]
    have m1 : 0 ≤ getI ws i * getI hs i := Int.mul_nonneg (by omega) (by omega)
    have m2 : getI ws i * getI hs i ≤ 9 * 9 := Int.mul_le_mul k1.2 k2.2 (by omega) (by omega)
    refine ⟨?_, by omega, by omega⟩
    show _ = (((sN i fun r => (getI ws r).toNat * (getI hs r).toNat) + (getI ws i).toNat * (getI hs i).toNat : Nat) : Int)
    rw [Int.natCast_add, e, ← h1]
theorem area_facts {p : List Txt} {ws ht : List Int} (h1 : needV p [ws] = true) (h2 : needV p [ht] = true) : asum ws ht ws.length ≤ maxL (heaviest (lfM p) ws (rP p).length) * maxL (heaviest (abM p) ht (rP p).length) := by
  obtain ⟨u1, u2, l1, l2, l3, n1, hp⟩ := needV_all h1
  obtain ⟨-, -, l4, -, -, n2, -⟩ := needV_all h2
  obtain ⟨e, -, -⟩ := asum_is n1 n2 (by omega) ws.length (Nat.le_refl _)
  refine area_ge u1 u2 (tot_lf hp) l1 l4 n1 n2 _ ?_
  rw [e, l1]
theorem size_bound {p : List Txt} {ws : List Int} (h : needV p [ws] = true) : 1 ≤ maxL (heaviest (lfM p) ws (rP p).length) ∧ maxL (heaviest (lfM p) ws (rP p).length) ≤ 909 ∧ 1 ≤ maxL (heaviest (abM p) ws (rP p).length) ∧ maxL (heaviest (abM p) ws (rP p).length) ≤ 909 := by
  obtain ⟨u1, u2, l1, l2, l3, n1, hp⟩ := needV_all h
  obtain ⟨b, hb, e⟩ := hb_is (M := lfM p) (ws := ws) l2
  obtain ⟨c, hc, e2⟩ := hb_is (M := abM p) (ws := ws) l2
  have h1 := HB_bound (M := lfM p) (n := (rP p).length) n1 b
  have h2 := HB_bound (M := abM p) (n := (rP p).length) n1 c
  have h3 := HB_pos (M := lfM p) (n := (rP p).length) n1 (b := b) (by omega)
  have h4 := HB_pos (M := abM p) (n := (rP p).length) n1 (b := c) (by omega)
  omega
end Fw
end Go.Proofs.YtcglmbijpjhbmaaGreat

/-! The law of areas, gone through. -/
namespace Go.Proofs.YtcglmbijpjhbmaaGreat
namespace Fw
open Go

theorem pEq_bb {S : Store} {a b : Bool} : pEq tab S 4 (.bool a) (.bool b) = some (a == b) := rfl
theorem area_same {p : List Txt} {ws ht : List Int} : areaI p ws ht = areaOf p ws ht ∧ (needV p [ws] && needV p [ht]) = (needsB p ws && needsB p ht) := by
  have e : ∀ {ws : List Int}, needsB p ws = needV p [ws] := fun {ws} => (needV_needs).symm
  refine ⟨?_, by rw [e, e]⟩
  unfold areaI areaOf
  rw [e, e]
  by_cases h : (needV p [ws] && needV p [ht]) = true
  · rw [if_pos h, if_pos h]
    simp only [Bool.and_eq_true] at h
    rw [(plan_least h.1).1, (plan_least h.2).2]
  · rw [if_neg h, if_neg h]
theorem all_rm {p : List Txt} (h : plainI p = true) : RmOk (gP p) p.length (w0 (readG p)) (rP p).length := (plan_all h).1
theorem all_up0 {p : List Txt} (h : plainI p = true) : ∃ rk, Up (leftG (gP p) p.length (w0 (readG p)) (rP p).length) (rP p).length rk := (plan_all h).2.1
theorem all_up1 {p : List Txt} (h : plainI p = true) : ∃ rk, Up (aboveG (gP p) p.length (w0 (readG p)) (rP p).length) (rP p).length rk := (plan_all h).2.2
theorem area_yes {p : List Txt} {ws ht : List Int} (h1 : needV p [ws] = true) (h2 : needV p [ht] = true) : areaI p ws ht = maxL (heaviest (lfM p) ws (rP p).length) * maxL (heaviest (abM p) ht (rP p).length) := by
  unfold areaI
  rw [h1, h2, lf_eq, ab_eq]; rfl
theorem sizeV_yes {p : List Txt} {ws : List Int} {M : List (List Bool)} {n : Nat} (h : needV p [ws] = true) : sizeV (needV p [ws]) M ws n = .tup [.int .i64 (maxL (heaviest M ws n)), .bool true] := by rw [h]; rfl

theorem area_law {code : Txt} (hcode : code.length ≤ 9223372036854775807) : PC Tryz.prog 3 [eBy code] (.bool true) true := by
  refine PC.of ⟨Tryz.func3, by kernel_rfl, rfl, by kernel_rfl⟩ tabOk mixed (by show 1 ≤ Tryz.f3.ntmps; decide) ?_
  refine W.seq_region fun K hK => ?_
  simp (disch := omega) only [↓RU, RV, RH, ↓reduceIte, Nat.reduceEqDiff, reduceCtorEq, if_pos, ↓RS, RG, Nat.reduceAdd, Nat.reduceMul, Nat.reduceLeDiff]
  refine hK _ _ ?_
  clear hK K
  refine W.seq ?_
  refine W.seq_region fun K hK => ?_
  simp (disch := omega) only [↓RU, RV, RH, ↓reduceIte, Nat.reduceEqDiff, reduceCtorEq, if_pos, w64, ↓RS, RG, Nat.reduceAdd, Nat.reduceMul, Nat.reduceLeDiff, tyLuint8, tyint, tyuint8]
  refine hK _ _ ?_
  clear hK K
  refine W.cond rfl (fun h0 => ?_) (fun h0 => ?_)
  · try simp only [RL] at h0
    refine W.seq_region fun K hK => ?_
    simp (disch := omega) only [↓RU, RV, RH, ↓reduceIte, Nat.reduceEqDiff, reduceCtorEq, if_pos, ↓RS, RG, Nat.reduceAdd, Nat.reduceMul, Nat.reduceLeDiff]
    refine hK _ _ ?_
    clear hK K
    refine W.ret ?_
    refine XThen.ret ?_
    refine BodyQ.ret rfl ?_
    rfl
  · try simp only [RL] at h0
    have hcl : code.length ≤ 1048576 := by omega
    refine W.skip ?_
    refine XThen.norm ?_
    refine W.seq_region fun K hK => ?_
    simp (disch := omega) only [↓RU, RV, RH, ↓reduceIte, Nat.reduceEqDiff, reduceCtorEq, if_pos, List.append_nil, ↓RS, RG, Nat.reduceAdd, Nat.reduceMul, Nat.reduceLeDiff]
    refine CallR.ev (drawSizeArea_ev hcl) ?_
    rintro _ _ ⟨p, ws, ht, t, hs, hwl, htl, rfl, rfl⟩
    simp (disch := omega) only [↓RU, RV, RH, ↓reduceIte, Nat.reduceEqDiff, reduceCtorEq, if_pos, List.append_nil, ↓RS, RG, Nat.reduceAdd, Nat.reduceMul, Nat.reduceLeDiff]
    refine hK _ _ ?_
    clear hK K
    refine W.seq_region fun K hK => ?_
    simp (disch := omega) only [↓RU, RV, RH, ↓reduceIte, Nat.reduceEqDiff, reduceCtorEq, if_pos, List.append_nil, ↓RS, RG, Nat.reduceAdd, Nat.reduceMul, Nat.reduceLeDiff]
    refine CallR.pc (sizeArea_pc hs (by omega) (by omega) all_rm all_up0 all_up1) rfl (.inl rfl) ?_
    simp (disch := omega) only [↓RU, RV, RH, ↓reduceIte, Nat.reduceEqDiff, reduceCtorEq, if_pos, List.append_nil, ↓RS, RG, Nat.reduceAdd, Nat.reduceMul, Nat.reduceLeDiff]
    refine hK _ _ ?_
    clear hK K
    refine W.seq_region fun K hK => ?_
    simp (disch := omega) only [↓RU, RV, RH, ↓reduceIte, Nat.reduceEqDiff, reduceCtorEq, if_pos, List.append_nil, ↓RS, RG, Nat.reduceAdd, Nat.reduceMul, Nat.reduceLeDiff]
    refine CallR.pc (sSizeArea_pc hs (by omega) (by omega)) rfl (.inl rfl) ?_
    simp (disch := omega) only [↓RU, RV, RH, ↓reduceIte, Nat.reduceEqDiff, reduceCtorEq, if_pos, List.append_nil, ↓RS, RG, Nat.reduceAdd, Nat.reduceMul, Nat.reduceLeDiff]
    refine hK _ _ ?_
    clear hK K
    rw [← area_same.1, ← area_same.2]
    refine W.seq ?_
    refine W.seq_region fun K hK => ?_
    cases hv : (needV p [ws] && needV p [ht])
    · skip
      simp (disch := omega) only [↓RU, RV, RH, ↓reduceIte, Nat.reduceEqDiff, reduceCtorEq, if_pos, w64, ↓RS, RG, Nat.reduceAdd, Nat.reduceMul, Nat.reduceLeDiff, tybool, tyint, pEq_bb, Option.map_some, bne_self_eq_false, beq_self_eq_true, Bool.not_true, Bool.not_false, hv]
      refine hK _ _ ?_
      clear hK K
      refine W.cond rfl (fun h1 => ?_) (fun h1 => ?_)
      · try simp only [RL] at h1
        refine W.seq_region fun K hK => ?_
        simp (disch := omega) only [↓RU, RV, RH, ↓reduceIte, Nat.reduceEqDiff, reduceCtorEq, if_pos, w64, ↓RS, RG, Nat.reduceAdd, Nat.reduceMul, Nat.reduceLeDiff, tybool, tyint, pEq_bb, Option.map_some, bne_self_eq_false, beq_self_eq_true, Bool.not_true, Bool.not_false]
        refine hK _ _ ?_
        clear hK K
        refine W.ret ?_
        refine XThen.ret ?_
        refine BodyQ.ret rfl ?_
        rfl
      · try simp only [RL] at h1
        exact absurd h1 (by simp)
    · skip
      simp (disch := omega) only [↓RU, RV, RH, ↓reduceIte, Nat.reduceEqDiff, reduceCtorEq, if_pos, w64, ↓RS, RG, Nat.reduceAdd, Nat.reduceMul, Nat.reduceLeDiff, tybool, tyint, pEq_bb, Option.map_some, bne_self_eq_false, beq_self_eq_true, Bool.not_true, Bool.not_false, hv]
      refine hK _ _ ?_
      clear hK K
      refine W.cond rfl (fun h1 => ?_) (fun h1 => ?_)
      · try simp only [RL] at h1
        exact absurd h1 (by simp)
      · try simp only [RL] at h1
        simp only [Bool.and_eq_true] at hv
        obtain ⟨hv1, hv2⟩ := hv
        have haf := area_facts hv1 hv2
        have hay := area_yes hv1 hv2
        obtain ⟨-, -, q1, q2, q3, q4, -⟩ := needV_all hv1
        obtain ⟨-, -, q5, -, -, q6, -⟩ := needV_all hv2
        have hb1 := size_bound hv1
        have hb2 := size_bound hv2
        refine W.skip ?_
        refine XThen.norm ?_
        refine W.seq_region fun K hK => ?_
        simp (disch := omega) only [↓RU, RV, RH, ↓reduceIte, Nat.reduceEqDiff, reduceCtorEq, if_pos, List.append_nil, ↓RS, RG, Nat.reduceAdd, Nat.reduceMul, Nat.reduceLeDiff, lf_eq, sizeV_yes hv1]
        refine CallR.pc (sizeWide_pc hs (by omega) all_rm all_up0) rfl (.inl rfl) ?_
        simp (disch := omega) only [↓RU, RV, RH, ↓reduceIte, Nat.reduceEqDiff, reduceCtorEq, if_pos, List.append_nil, ↓RS, RG, Nat.reduceAdd, Nat.reduceMul, Nat.reduceLeDiff, lf_eq, sizeV_yes hv1]
        refine hK _ _ ?_
        clear hK K
        refine W.seq_region fun K hK => ?_
        simp (disch := omega) only [↓RU, RV, RH, ↓reduceIte, Nat.reduceEqDiff, reduceCtorEq, if_pos, List.append_nil, ↓RS, RG, Nat.reduceAdd, Nat.reduceMul, Nat.reduceLeDiff, ab_eq, sizeV_yes hv2]
        refine CallR.pc (sizeHigh_pc hs (by omega) all_rm all_up1) rfl (.inl rfl) ?_
        simp (disch := omega) only [↓RU, RV, RH, ↓reduceIte, Nat.reduceEqDiff, reduceCtorEq, if_pos, List.append_nil, ↓RS, RG, Nat.reduceAdd, Nat.reduceMul, Nat.reduceLeDiff, ab_eq, sizeV_yes hv2]
        refine hK _ _ ?_
        clear hK K
        refine W.seq_region fun K hK => ?_
        simp (disch := omega) only [↓RU, RV, RH, ↓reduceIte, Nat.reduceEqDiff, reduceCtorEq, if_pos, ↓RS, RG, Nat.reduceAdd, Nat.reduceMul, Nat.reduceLeDiff]
        refine hK _ _ ?_
        clear hK K
        refine W.seq ?_
        refine W.seq_region fun K hK => ?_
        simp (disch := omega) only [↓RU, RV, RH, ↓reduceIte, Nat.reduceEqDiff, reduceCtorEq, if_pos, ↓RS, RG, Nat.reduceAdd, Nat.reduceMul, Nat.reduceLeDiff]
        refine hK _ _ ?_
        clear hK K
        refine W.block ?_
        refine W.loop [4, 5, 6, 10, 11, 12, 13, 14, 15] (fun n vs S => ∃ i tk : Nat, n = ws.length - i ∧ i ≤ ws.length ∧ vs = [eInts ws, eInts ht, .int .i64 (areaI p ws ht), .int .i64 (maxL (heaviest (lfM p) ws (rP p).length)), .bool true, .int .i64 (maxL (heaviest (abM p) ht (rP p).length)), .bool true, .int .i64 (asum ws ht i), .int .i64 i] ∧ S = ⟨[], tk⟩) ws.length ?_ ?_
        · refine ⟨0, 0, t, rfl, by omega, ?_, rfl⟩
          simp [Env.put, Env.of, argEnv, asum]
        rintro n vs S - ⟨i, tk, rfl, h_i, rfl, rfl⟩
        refine W.seq ?_
        refine W.seq_region fun K hK => ?_
        simp (disch := omega) only [↓RU, RV, RH, ↓reduceIte, Nat.reduceEqDiff, reduceCtorEq, if_pos, w64, ↓RS, RG, Nat.reduceAdd, Nat.reduceMul, Nat.reduceLeDiff, tyLint, tyint]
        refine hK _ _ ?_
        clear hK K
        refine W.cond rfl (fun h2 => ?_) (fun h2 => ?_)
        · try simp only [RL] at h2
          obtain ⟨x, hx, hxm⟩ := get_of (show i < ws.length by omega)
          obtain ⟨y, hy, hym⟩ := get_of (show i < ht.length by omega)
          have hx9 := q4 x hxm
          have hy9 := q6 y hym
          have hsb := (asum_is q4 q6 (by omega) i (by omega)).2
          have m1 := Int.mul_nonneg (show 0 ≤ x by omega) (show 0 ≤ y by omega)
          have m2 := Int.mul_le_mul hx9.2 hy9.2 (show 0 ≤ y by omega) (show (0 : Int) ≤ 9 by omega)
          refine W.skip ?_
          refine XThen.norm ?_
          refine W.seq ?_
          refine W.block ?_
          refine W.draw_k (by kernel_rfl) fun K hK => ?_
          simp (disch := omega) only [↓RU, RV, RH, ↓reduceIte, Nat.reduceEqDiff, reduceCtorEq, if_pos, w64, ↓RS, RG, Nat.reduceAdd, Nat.reduceMul, Nat.reduceLeDiff, tyLint, tyint, hx, hy]
          refine hK _ _ ?_
          clear hK K
          refine XBlock.norm ?_
          refine XThen.norm ?_
          refine W.region_k fun K hK => ?_
          simp (disch := omega) only [↓RU, RV, RH, ↓reduceIte, Nat.reduceEqDiff, reduceCtorEq, if_pos, w64, ↓RS, RG, Nat.reduceAdd, Nat.reduceMul, Nat.reduceLeDiff, tyint]
          refine hK _ _ ?_
          clear hK K
          refine XThen.norm ?_
          refine ⟨ws.length - (i + 1), by omega, 0, i + 1, tk, rfl, by omega, ?_, rfl⟩
          simp [Env.put, Env.of, asum_succ, getI_is hx, getI_is hy]
        · try simp only [RL] at h2
          obtain rfl : i = ws.length := by omega
          have m1 := Int.mul_nonneg (show 0 ≤ maxL (heaviest (lfM p) ws (rP p).length) by omega) (show 0 ≤ maxL (heaviest (abM p) ht (rP p).length) by omega)
          have m2 := Int.mul_le_mul (show maxL (heaviest (lfM p) ws (rP p).length) ≤ 909 by omega) (show maxL (heaviest (abM p) ht (rP p).length) ≤ 909 by omega) (show 0 ≤ maxL (heaviest (abM p) ht (rP p).length) by omega) (show (0 : Int) ≤ 909 by omega)
          have hge : decide (areaI p ws ht ≥ asum ws ht ws.length) = true := decide_eq_true (by omega)
          refine W.exit ?_
          refine XThen.exit ?_
          refine XThen.exit ?_
          refine XBlock.hit ?_
          refine XThen.norm ?_
          refine W.seq_region fun K hK => ?_
          rw [hay] at hge ⊢
          simp (disch := omega) only [↓RU, RV, RH, ↓reduceIte, Nat.reduceEqDiff, reduceCtorEq, if_pos, w64, ↓RS, RG, Nat.reduceAdd, Nat.reduceMul, Nat.reduceLeDiff, tyint, beq_self_eq_true, hge]
          refine hK _ _ ?_
          clear hK K
          refine W.ret ?_
          refine BodyQ.ret rfl ?_
          rfl

end Fw
end Go.Proofs.YtcglmbijpjhbmaaGreat

/-! Areas are at least those of all rooms: the law FnSizeArea answers true for all codes. No condition. -/
namespace Go.Proofs.YtcglmbijpjhbmaaGreat
open Go Go.ChangeShapes Go.WideShapes Go.ChangeAt Go.RowKit Fw

theorem Tryz.ownRl : ownKnob Tryz.prog.godebug = none := by kernel_rfl
theorem Tryz.laidOutRl : laidOutB Tryz.prog = true := by kernel_rfl

set_option maxRecDepth 100000 in
theorem rl_lifted (os : Os) (started : os.Started) (H : Type) (enc : TypeId × Value → H) :
    ReturnsInHanded {} Tryz.checked os 3 .any (Rows.fnSizeAreaSpec.pre6 enc Tryz.prog Tryz.f3 Rows.fnSizeAreaRow.domain false) (Rows.fnSizeAreaSpec.post enc Tryz.prog Tryz.f3 false true false false) := by
  refine returnsInHanded_of_change (C := Tryz.checked) Tryz.ownRl started (by kernel_rfl) Tryz.func3
    (ChangeSpec.witness6 (enc := enc) (C := Tryz.checked) false ⟨#[], #[.slice none 0 0], []⟩ 8 (by kernel_rfl) (by kernel_rfl) (by kernel_rfl) (by kernel_rfl)) ?_
  intro W base args ds gs before hval0 hW hcnd _
  have hval : ∀ (j : Nat) t v, Tryz.f3.params[j]? = some t → args[j]? = some v → Value.okWide Tryz.prog W .any base t v := hval0
  have hW' := hW
  obtain ⟨p, q, hA0, hV, rfl, hfz, hnd⟩ := hW
  have hA : DataW.TrodAll enc Tryz.prog W 0 (fun _ => true) true Tryz.f3.params.toList args.toList ds p := hA0
  rw [Tryz.params3] at hA hval
  obtain ⟨v0, d0, rfl, rfl, h0⟩ := trodAll_one hA
  obtain ⟨rfl, rfl⟩ := trodVars_none hV
  obtain ⟨l0, i0, b0⟩ := vi_bytes (hval 0 _ v0 rfl rfl) h0
  have hlt : ∀ x ∈ p, x.block < W.heap.size := fun x hx => hW'.lt x (by simp [hx])
  refine ((area_law b0).run (fun b => b < W.heap.size) W #[v0] (fun _ h => h) rfl ?_).mono ?_
  · rintro (_ | i) p c hp hc
    · cases hp; cases hc; exact i0
    · simp at hp
  · rintro e W' ⟨cv, rfl, hB, hr⟩
    have hcv : cv = .bool true := by cases hr; rfl
    subst hcv
    have t0 := Below.trod Tryz.laidOutRl (by kernel_rfl) (of_decide_eq_true (by kernel_rfl)) h0 hB fun x hx => hlt x (by simp [hx])
    refine ⟨_, rfl, _, _, _, [], p, [], hW', ?_, ?_, ?_, hB.frame _, fun h => by cases h⟩
    · exact trodAll_mk1 (shut_bool Tryz.underlying4 true)
    · rw [Tryz.params3]; exact trodAll_mk1 t0
    · trivial
theorem rl_holds : Rows.FnSizeAreaSaid :=
  OpenClaim.holds_of_wide 3 Tryz.f3 rfl rfl rfl rfl rfl rfl rfl ⟨rfl, rfl, rfl, rfl, rfl⟩ rfl rfl rfl rfl rfl (by kernel_rfl) Tryz.func3 (by kernel_rfl)
    (of_decide_eq_true (by kernel_rfl)) (by unfold Func.isWrapper; first | (rw [if_pos (by decide +kernel)]; kernel_rfl) | (rw [if_neg (by decide +kernel)]; exact ⟨rfl, rfl⟩))
    (fun os started H enc _ => rl_lifted os started H enc)
end Go.Proofs.YtcglmbijpjhbmaaGreat
