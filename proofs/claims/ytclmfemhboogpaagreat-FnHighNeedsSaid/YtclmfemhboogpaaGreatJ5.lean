/- Least heights are least widths with rows and columns exchanged: the law FnHighNeeds answers true for all codes. No condition. -/
import Derived.Test.YtclmfemhboogpaaGreatJ2
import Derived.Test.YtclmfemhboogpaaGreatJ4
import Derived.Test.YtclmfemhboogpaaGreatJ3
set_option linter.all false
namespace Go.Proofs.YtclmfemhboogpaaGreat
namespace Fw
open Go
open Nat (reduceEqDiff reduceLeDiff reduceAdd reduceMul)
abbrev eBy (l : Txt) : PV := .sl (l.map eB) l.length
theorem tmod_nn {a b : Nat} : ((a : Nat) : Int).tmod ((b : Nat) : Int) = ((a % b : Nat) : Int) := (Int.ofNat_tmod a b).symm
theorem tdiv_nn {a b : Nat} : ((a : Nat) : Int).tdiv ((b : Nat) : Int) = ((a / b : Nat) : Int) := (Int.ofNat_tdiv a b).symm
theorem w_xor {a b : Nat} (ha : a < 1099511627776) (hb : b < 1099511627776) : IntKind.i64.wrap ((BitVec.ofInt IntKind.i64.bits (a : Int) ^^^ BitVec.ofInt IntKind.i64.bits (b : Int)).toNat : Int) = ((a ^^^ b : Nat) : Int) := by
 have h1 : (BitVec.ofInt 64 (a : Int)).toNat = a := by simp [BitVec.toNat_ofInt]; omega
 have h2 : (BitVec.ofInt 64 (b : Int)).toNat = b := by simp [BitVec.toNat_ofInt]; omega
 have h3 : (BitVec.ofInt IntKind.i64.bits (a : Int) ^^^ BitVec.ofInt IntKind.i64.bits (b : Int)).toNat = a ^^^ b := by
  show (BitVec.ofInt 64 (a : Int) ^^^ BitVec.ofInt 64 (b : Int)).toNat = _
  rw [BitVec.toNat_xor, h1, h2]
 have h4 : a ^^^ b < 1099511627776 := Nat.xor_lt_two_pow (n := 40) ha hb
 rw [h3]
 exact w64 (by omega) (by omega)
theorem tdiv64 {k : Nat} : ((k : Nat) : Int).tdiv 64 = ((k / 64 : Nat) : Int) := (Int.ofNat_tdiv k 64).symm
theorem sf0 : ((64 : Int) = 0) = False := by simp
def rdO (vr : Nat) (code : Txt) (q : Nat) : Ob := .arr vr 147 2 [eBy code, .int .i64 (q : Int)]
theorem l6Open_pn {code : Txt} (hc : code.length ≤ 1048576) : PN Tryz.prog 95 [eBy code] (.ref 0 0 0) [rdO 0 (code.take 2000) 0] true := by
 refine PN.of ⟨Tryz.func95, by kernel_rfl, rfl, by kernel_rfl⟩ tabOk mixed (by show 1 ≤ Tryz.f95.ntmps; decide) ?_
 refine W.seq_region fun K hK => ?_
 simp (disch := omega) only [↓RU, RV, RH, ↓reduceIte, reduceEqDiff, reduceCtorEq, if_pos, ↓RS, RG, reduceAdd, reduceMul, reduceLeDiff]
 refine hK _ _ ?_;clear hK K
 refine W.seq ?_
 refine W.seq_region fun K hK => ?_
 simp (disch := omega) only [↓RU, RV, RH, ↓reduceIte, reduceEqDiff, reduceCtorEq, if_pos, w64, ↓RS, RG, reduceAdd, reduceMul, reduceLeDiff, ty6, tyint, ty26]
 refine hK _ _ ?_;clear hK K
 refine W.cond rfl (fun h => ?_) (fun h => ?_)
 ·try simp only [RL] at h
  refine W.region_k fun K hK => ?_
  simp (disch := omega) only [↓RU, RV, RH, ↓reduceIte, reduceEqDiff, reduceCtorEq, if_pos, Option.map_none, ↓RS, RG, reduceAdd, reduceMul, reduceLeDiff, ty6, ty26]
  refine hK _ _ ?_;clear hK K
  refine XThen.norm ?_
  refine W.seq_region fun K hK => ?_
  simp (disch := omega) only [↓RU, RV, RH, ↓reduceIte, reduceEqDiff, reduceCtorEq, if_pos, ↓RS, RG, reduceAdd, reduceMul, reduceLeDiff, ty6, tyint, ty17, ty20, ty26]
  refine hK _ _ ?_;clear hK K
  refine W.ret ?_
  refine BodyQ.ret rfl ?_
  have e : (code.take 2000).length = 2000 := by rw [List.length_take]; omega
  refine ⟨1, rfl, ?_⟩
  simp [Store.take, shObs, shOb, sh, rdO, eBy, e, List.map_take]
 ·try simp only [RL] at h
  refine W.skip ?_
  refine XThen.norm ?_
  refine W.seq_region fun K hK => ?_
  simp (disch := omega) only [↓RU, RV, RH, ↓reduceIte, reduceEqDiff, reduceCtorEq, if_pos, ↓RS, RG, reduceAdd, reduceMul, reduceLeDiff, ty6, tyint, ty17, ty20, ty26]
  refine hK _ _ ?_;clear hK K
  refine W.ret ?_
  refine BodyQ.ret rfl ?_
  have e : code.take 2000 = code := List.take_of_length_le (by omega)
  refine ⟨1, rfl, ?_⟩
  simp [Store.take, shObs, shOb, sh, rdO, eBy, e]
theorem pick_ev0 {code : Txt} {q vr t : Nat} {R : List Ob} (hc : code.length ≤ 1048576) (hq : q ≤ 1000000) (n : Int) (hn : n ≤ 1000000) (hn0 : -1000000 ≤ n) : Ev Tryz.prog 98 [.ref 0 vr 0, .int .i64 n] ⟨.arr vr 147 2 [eBy code, .int .i64 (q : Int)] :: R, t⟩ fun v S => ∃ k : Nat, v = .int .i64 (k : Int) ∧ (n < 1 → k = 0) ∧ (1 ≤ n → (k : Int) < n) ∧ S = ⟨.arr vr 147 2 [eBy code, .int .i64 ((q : Int) + 1)] :: R, t⟩ := by
 refine Ev.of ⟨Tryz.func98, by kernel_rfl, rfl, by kernel_rfl⟩ tabOk mixed (by show 2 ≤ Tryz.f98.ntmps; decide) ?_
 refine W.seq_region fun K hK => ?_
 simp (disch := omega) only [↓RU, RV, RH, ↓reduceIte, reduceEqDiff, reduceCtorEq, if_pos, ↓RS, RG, reduceAdd, reduceMul, reduceLeDiff]
 refine hK _ _ ?_;clear hK K
 refine W.seq_region fun K hK => ?_
 simp (disch := omega) only [↓RU, RV, RH, ↓reduceIte, reduceEqDiff, reduceCtorEq, if_pos, w64, ↓RS, RG, reduceAdd, reduceMul, reduceLeDiff, ty6, tyint, ty17, ty20, ty26]
 refine hK _ _ ?_;clear hK K
 refine W.seq ?_
 refine W.seq_region fun K hK => ?_
 by_cases hn1 : n < 1
 ·skip
  have hd : decide (n < 1) = true := decide_eq_true hn1
  simp (disch := omega) only [↓RU, RV, RH, ↓reduceIte, reduceEqDiff, reduceCtorEq, if_pos, w64, ↓RS, RG, reduceAdd, reduceMul, reduceLeDiff, ty6, tyint, ty17, ty20, ty26, hd]
  refine hK _ _ ?_;clear hK K
  refine W.cond rfl (fun h0 => ?_) (fun h0 => ?_)
  ·try simp only [RL] at h0
   refine W.seq_region fun K hK => ?_
   simp (disch := omega) only [↓RU, RV, RH, ↓reduceIte, reduceEqDiff, reduceCtorEq, if_pos, ↓RS, RG, reduceAdd, reduceMul, reduceLeDiff]
   refine hK _ _ ?_;clear hK K
   refine W.ret ?_
   refine XThen.ret ?_
   refine BodyQ.ret rfl ?_
   exact ⟨_, 0, rfl, fun _ => rfl, fun h9 => by omega, take_all⟩
  ·try simp only [RL] at h0
   exact absurd h0 (by simp)
 ·skip
  have hd : decide (n < 1) = false := decide_eq_false hn1
  obtain ⟨m, rfl⟩ : ∃ m : Nat, n = m := ⟨n.toNat, by omega⟩
  simp (disch := omega) only [↓RU, RV, RH, ↓reduceIte, reduceEqDiff, reduceCtorEq, if_pos, w64, ↓RS, RG, reduceAdd, reduceMul, reduceLeDiff, ty6, tyint, ty17, ty20, ty26, hd]
  refine hK _ _ ?_;clear hK K
  refine W.cond rfl (fun h0 => ?_) (fun h0 => ?_)
  ·try simp only [RL] at h0
   have hl0 : code.length = 0 := by simpa using h0
   refine W.seq_region fun K hK => ?_
   simp (disch := omega) only [↓RU, RV, RH, ↓reduceIte, reduceEqDiff, reduceCtorEq, if_pos, ↓RS, RG, reduceAdd, reduceMul, reduceLeDiff]
   refine hK _ _ ?_;clear hK K
   refine W.ret ?_
   refine XThen.ret ?_
   refine BodyQ.ret rfl ?_
   exact ⟨_, 0, rfl, fun _ => rfl, fun h9 => by omega, take_all⟩
  ·try simp only [RL] at h0
   have hl0 : code.length ≠ 0 := by intro h9; rw [h9] at h0; simp at h0
   obtain ⟨L, hL⟩ : ∃ L : Nat, code.length = L := ⟨_, rfl⟩
   have hLi : ((L : Int) = 0) = False := by simp; omega
   have hmi : ((m : Int) = 0) = False := by simp; omega
   rw [hL] at hl0 hc
   refine W.skip ?_
   refine XThen.norm ?_
   refine W.seq_region fun K hK => ?_
   simp (disch := omega) only [↓RU, RV, RH, ↓reduceIte, reduceEqDiff, reduceCtorEq, if_pos, w64, ↓RS, RG, reduceAdd, reduceMul, reduceLeDiff, ty6, tyint, ty17, ty20, ty26]
   refine hK _ _ ?_;clear hK K
   simp only [show ((q : Int) + 1 - 1) = (q : Int) from by omega]
   refine W.seq ?_
   refine W.seq_region fun K hK => ?_
   simp (disch := omega) only [↓RU, RV, RH, ↓reduceIte, reduceEqDiff, reduceCtorEq, if_pos, w64, ↓RS, RG, reduceAdd, reduceMul, reduceLeDiff, ty6, tyint, ty17, ty20, ty26, hL]
   refine hK _ _ ?_;clear hK K
   refine W.cond rfl (fun h1 => ?_) (fun h1 => ?_)
   ·try simp only [RL] at h1
    obtain ⟨c, hcq, -⟩ := get_of (show q < code.length by omega)
    have hc8 := c.toNat_lt
    refine W.seq_region fun K hK => ?_
    simp (disch := omega) only [↓RU, RV, RH, ↓reduceIte, reduceEqDiff, reduceCtorEq, if_pos, w64, w64, ↓RS, RG, reduceAdd, reduceMul, reduceLeDiff, ty6, tyint, ty17, ty20, ty26, hcq, hmi, tmod_nn]
    refine hK _ _ ?_;clear hK K
    refine W.ret ?_
    refine XThen.ret ?_
    refine BodyQ.ret rfl ?_
    exact ⟨_, _, rfl, fun h9 => by omega, fun _ => by have := Nat.mod_lt c.toNat (show 0 < m by omega); omega, take_all⟩
   ·try simp only [RL] at h1
    obtain ⟨c1, hc1, -⟩ := get_of (show q % L < code.length by rw [hL]; exact Nat.mod_lt _ (by omega))
    obtain ⟨c2, hc2, -⟩ := get_of (show (q * 7 + 3) % L < code.length by rw [hL]; exact Nat.mod_lt _ (by omega))
    have hb1 := c1.toNat_lt
    have hb2 := c2.toNat_lt
    have hq7 : (q : Int) * 7 + 3 = ((q * 7 + 3 : Nat) : Int) := by omega
    obtain ⟨d, hd⟩ : ∃ d, q / L = d := ⟨_, rfl⟩
    have hqL : d ≤ q := hd ▸ Nat.div_le_self _ _
    have hml1 := Nat.mod_lt q (show 0 < L by omega)
    have hml2 := Nat.mod_lt (q * 7 + 3) (show 0 < L by omega)
    refine W.skip ?_
    refine XThen.norm ?_
    refine W.seq_draw (by kernel_rfl) fun K hK => ?_
    simp (disch := omega) only [↓RU, RV, RH, ↓reduceIte, reduceEqDiff, reduceCtorEq, if_pos, w64, w64, ↓RS, RG, reduceAdd, reduceMul, reduceLeDiff, ty6, tyint, ty17, ty20, ty26, hL, hLi, tmod_nn, tdiv_nn, hc1, hc2, hq7, hd]
    refine hK _ _ ?_;clear hK K
    obtain ⟨Y, hY⟩ : ∃ Y : Nat, (c1.toNat : Int) * 131 + (c2.toNat : Int) * 1117 + (q : Int) * 29 + (d : Int) * 53 = Y := ⟨c1.toNat * 131 + c2.toNat * 1117 + q * 29 + d * 53, by omega⟩
    have hYb : Y < 1099511627776 := by omega
    have hYd : Y / 64 < 1099511627776 := by omega
    simp only [hY]
    refine W.seq_region fun K hK => ?_
    simp (disch := omega) only [↓RU, RV, RH, ↓reduceIte, reduceEqDiff, reduceCtorEq, if_pos, w64, ↓RS, RG, reduceAdd, reduceMul, reduceLeDiff, tyint, sf0, tdiv64, w_xor hYb hYd]
    refine hK _ _ ?_;clear hK K
    refine W.seq_region fun K hK => ?_
    simp (disch := omega) only [↓RU, RV, RH, ↓reduceIte, reduceEqDiff, reduceCtorEq, if_pos, w64, ↓RS, RG, reduceAdd, reduceMul, reduceLeDiff, tyint, hmi, tmod_nn]
    refine hK _ _ ?_;clear hK K
    refine W.ret ?_
    refine BodyQ.ret rfl ?_
    exact ⟨_, _, rfl, fun h9 => by omega, fun _ => by have := Nat.mod_lt (Y ^^^ Y / 64) (show 0 < m by omega); omega, take_all⟩
section
def rowPut (row : Txt) (l : Nat) (c : UInt8) (k : Nat) : Txt := (List.range row.length).map fun x => if l ≤ x ∧ x < k then c else row.getD x 0
theorem rowPut_len {row : Txt} {l k : Nat} {c : UInt8} : (rowPut row l c k).length = row.length := by simp [rowPut]
theorem rowPut_zero {row : Txt} {l : Nat} {c : UInt8} : rowPut row l c l = row := by
 apply List.ext_getElem?
 intro j
 unfold rowPut
 rw [List.getElem?_map]
 by_cases hj : j < row.length
 ·rw [List.getElem?_range hj, Option.map_some, if_neg (by omega), List.getD_eq_getElem?_getD, List.getElem?_eq_getElem hj]; rfl
 ·rw [List.getElem?_eq_none (by simpa using hj), List.getElem?_eq_none (by omega)]; rfl
theorem rowPut_succ {row : Txt} {l k : Nat} {c : UInt8} (h1 : l ≤ k) (h2 : k < row.length) : (rowPut row l c k).set k c = rowPut row l c (k + 1) := by
 apply List.ext_getElem?
 intro j
 rw [List.getElem?_set, rowPut_len]
 unfold rowPut
 rw [List.getElem?_map, List.getElem?_map]
 by_cases hj : j < row.length
 ·rw [List.getElem?_range hj, Option.map_some, Option.map_some]
  by_cases e : k = j
  ·subst e; rw [if_pos rfl, if_pos h2, if_pos (by omega)]
  ·rw [if_neg e]
   by_cases q : l ≤ j ∧ j < k
   ·rw [if_pos q, if_pos (by omega)]
   ·rw [if_neg q, if_neg (by omega)]
 ·rw [if_neg (by omega), List.getElem?_eq_none (by simpa using hj)]; rfl
def putTo (p : List Txt) (t l w : Nat) (c : UInt8) (i : Nat) : List Txt := (List.range p.length).map fun j => if t ≤ j ∧ j < i then rowPut (p.getD j []) l c (l + w) else p.getD j []
theorem putTo_len {p : List Txt} {t l w i : Nat} {c : UInt8} : (putTo p t l w c i).length = p.length := by simp [putTo]
theorem putTo_at {p : List Txt} {t l w i : Nat} {c : UInt8} {row : Txt} (h : p[i]? = some row) : (putTo p t l w c i)[i]? = some row := by
 have hi := len_of h
 unfold putTo
 rw [List.getElem?_map, List.getElem?_range hi, Option.map_some, if_neg (by omega), List.getD_eq_getElem?_getD, h]; rfl
theorem putTo_zero {p : List Txt} {t l w : Nat} {c : UInt8} : putTo p t l w c t = p := by
 apply List.ext_getElem?
 intro j
 unfold putTo
 rw [List.getElem?_map]
 by_cases hj : j < p.length
 ·rw [List.getElem?_range hj, Option.map_some, if_neg (by omega), List.getD_eq_getElem?_getD, List.getElem?_eq_getElem hj]; rfl
 ·rw [List.getElem?_eq_none (by simpa using hj), List.getElem?_eq_none (by omega)]; rfl
theorem putTo_succ {p : List Txt} {t l w i : Nat} {c : UInt8} {row : Txt} (h1 : t ≤ i) (h : p[i]? = some row) : (putTo p t l w c i).set i (rowPut row l c (l + w)) = putTo p t l w c (i + 1) := by
 have hi := len_of h
 apply List.ext_getElem?
 intro j
 rw [List.getElem?_set, putTo_len]
 unfold putTo
 rw [List.getElem?_map, List.getElem?_map]
 by_cases hj : j < p.length
 ·rw [List.getElem?_range hj, Option.map_some, Option.map_some]
  by_cases e : i = j
  ·subst e; rw [if_pos rfl, if_pos hi, if_pos (by omega), List.getD_eq_getElem?_getD, h]; rfl
  ·rw [if_neg e]
   by_cases q : t ≤ j ∧ j < i
   ·rw [if_pos q, if_pos (by omega)]
   ·rw [if_neg q, if_neg (by omega)]
 ·rw [if_neg (by omega), List.getElem?_eq_none (by simpa using hj)]; rfl
theorem putTo_sm {p : List Txt} (hs : Sm p) {t l w i : Nat} {c : UInt8} : Sm (putTo p t l w c i) := by
 refine ⟨by rw [putTo_len]; exact hs.1, fun r hr => ?_⟩
 obtain ⟨j, hj, rfl⟩ := List.mem_map.1 hr
 have hjl : j < p.length := by simpa using hj
 have hm : p.getD j [] ∈ p := by
  rw [List.getD_eq_getElem?_getD, List.getElem?_eq_getElem hjl]; exact List.getElem_mem hjl
 have := hs.2 _ hm
 split
 ·rw [rowPut_len]; exact this
 ·exact this
def doneP (p : List Txt) : List Txt × Bool := if gridB p && planB (names p) then (names p, true) else ([], false)
theorem names_len {p : List Txt} (hg : gridB p = true) : (names p).length = p.length := by
 rw [names_text hg]
 have hr : (gP p).length = p.length := by rw [gP_eq]; exact zRows_len _
 unfold textG
 rw [List.length_map, hr]
theorem doneP_ok {p : List Txt} (h : (doneP p).2 = true) : planB (doneP p).1 = true ∧ (doneP p).1.length = p.length := by
 unfold doneP at h ⊢
 split at h
 ·rename_i hq
  rw [if_pos hq]
  simp only [Bool.and_eq_true] at hq
  exact ⟨hq.2, names_len hq.1⟩
 ·cases h
def splitP (p : List Txt) (room : Int) (s : Txt) (k : Int) : List Txt × Bool :=
 if planB p && (decide (0 ≤ room) && decide (room ≤ l1Rooms p - 1)) then
  if (s == [104]) && (decide (1 ≤ k) && decide (k ≤ highOf p room - 1)) then doneP (putTo p ((boxOf p room).top + k).toNat (boxOf p room).left.toNat (wideOf p room).toNat 122 ((boxOf p room).top + k + (highOf p room - k)).toNat)
  else if (s == [118]) && (decide (1 ≤ k) && decide (k ≤ wideOf p room - 1)) then doneP (putTo p (boxOf p room).top.toNat ((boxOf p room).left + k).toNat (wideOf p room - k).toNat 122 ((boxOf p room).top + highOf p room).toNat)
  else ([], false)
 else ([], false)
theorem splitP_ok {p : List Txt} {room k : Int} {s : Txt} (h : (splitP p room s k).2 = true) : planB (splitP p room s k).1 = true ∧ (splitP p room s k).1.length = p.length := by
 unfold splitP at h ⊢
 by_cases h1 : (planB p && (decide (0 ≤ room) && decide (room ≤ l1Rooms p - 1))) = true
 ·rw [if_pos h1] at h ⊢
  by_cases h2 : ((s == [104]) && (decide (1 ≤ k) && decide (k ≤ highOf p room - 1))) = true
  ·rw [if_pos h2] at h ⊢
   have := doneP_ok h
   rw [putTo_len] at this
   exact this
  ·rw [if_neg h2] at h ⊢
   by_cases h3 : ((s == [118]) && (decide (1 ≤ k) && decide (k ≤ wideOf p room - 1))) = true
   ·rw [if_pos h3] at h ⊢
    have := doneP_ok h
    rw [putTo_len] at this
    exact this
   ·rw [if_neg h3] at h; cases h
 ·rw [if_neg h1] at h; cases h
section
variable {p : List Txt} {room : Int} {s : Txt} {t l h w k : Nat}
theorem splitP_g {k : Int} (hgv : (planB p && (decide (0 ≤ room) && decide (room ≤ l1Rooms p - 1))) = false) : splitP p room s k = ([], false) := by
 unfold splitP; rw [hgv]; rfl
theorem splitP_no {k : Int} (h1 : ((s == [104]) && (decide (1 ≤ k) && decide (k ≤ highOf p room - 1))) = false) (h2 : ((s == [118]) && (decide (1 ≤ k) && decide (k ≤ wideOf p room - 1))) = false) : splitP p room s k = ([], false) := by
 unfold splitP; rw [h1, h2]; split <;> rfl
theorem splitP_h (hgv : (planB p && (decide (0 ≤ room) && decide (room ≤ l1Rooms p - 1))) = true) (e1 : (boxOf p room).top = t) (e2 : (boxOf p room).left = l) (e3 : highOf p room = h) (e4 : wideOf p room = w)
  (hb : ((s == [104]) && (decide (1 ≤ (k : Int)) && decide ((k : Int) ≤ highOf p room - 1))) = true) : splitP p room s k = doneP (putTo p (t + k) l w 122 (t + k + (h - k))) := by
 have hk : (k : Int) ≤ h - 1 := by simp only [Bool.and_eq_true, decide_eq_true_eq, e3] at hb; exact hb.2.2
 unfold splitP
 rw [if_pos hgv, if_pos hb, e1, e2, e3, e4]
 have a1 : ((t : Int) + (k : Int)).toNat = t + k := by omega
 have a2 : ((t : Int) + (k : Int) + ((h : Int) - (k : Int))).toNat = t + k + (h - k) := by omega
 rw [a1, a2, Int.toNat_natCast, Int.toNat_natCast]
theorem splitP_v (hgv : (planB p && (decide (0 ≤ room) && decide (room ≤ l1Rooms p - 1))) = true) (e1 : (boxOf p room).top = t) (e2 : (boxOf p room).left = l) (e3 : highOf p room = h) (e4 : wideOf p room = w)
  (ha : ((s == [104]) && (decide (1 ≤ (k : Int)) && decide ((k : Int) ≤ highOf p room - 1))) = false) (hb : ((s == [118]) && (decide (1 ≤ (k : Int)) && decide ((k : Int) ≤ wideOf p room - 1))) = true) : splitP p room s k = doneP (putTo p t (l + k) (w - k) 122 (t + h)) := by
 have hk : (k : Int) ≤ w - 1 := by simp only [Bool.and_eq_true, decide_eq_true_eq, e4] at hb; exact hb.2.2
 unfold splitP
 rw [if_pos hgv, ha, if_neg Bool.false_ne_true, if_pos hb, e1, e2, e3, e4]
 have a1 : ((l : Int) + (k : Int)).toNat = l + k := by omega
 have a2 : ((t : Int) + (h : Int)).toNat = t + h := by omega
 have a3 : ((w : Int) - (k : Int)).toNat = w - k := by omega
 rw [a1, a2, a3, Int.toNat_natCast]
end
theorem plan_box {p : List Txt} (hp : planB p = true) {room : Int} (h0 : 0 ≤ room) (h1 : room ≤ l1Rooms p - 1) : ∃ t l h w : Nat, (boxOf p room).top = t ∧ (boxOf p room).left = l ∧ highOf p room = h ∧ wideOf p room = w ∧ 1 ≤ h ∧ 1 ≤ w ∧ t + h ≤ p.length ∧ l + w ≤ (hdRow p).length := by
 have hN := plan_named hp
 have hr := hN.rooms
 obtain ⟨m, rfl⟩ : ∃ m : Nat, room = m := ⟨room.toNat, by omega⟩
 have hm : m < (rP p).length := by omega
 obtain ⟨b, hb, -⟩ := get_of hm
 have hi := keys_inv p
 obtain ⟨v, hv, -⟩ := get_of (show m < (keys p).length by rw [← hi.len]; exact hm)
 obtain ⟨e1, e2, e3, e4⟩ := hN.box hb
 obtain ⟨t, l, h, w, q1, q2, q3, q4, q5, q6, q7, q8, -⟩ := Hull.nat (hi.hull m v b hv hb)
 exact ⟨t, l, h, w, by omega, by omega, by omega, by omega, q5, q6, q7, q8⟩
theorem rows_wide {p : List Txt} (hp : planB p = true) {i : Nat} {row : Txt} (h : p[i]? = some row) : row.length = (hdRow p).length := grid_row (planB_grid hp) h
theorem plan_small {p : List Txt} (hp : planB p = true) : p.length ≤ 6 ∧ 1 ≤ p.length ∧ ∀ row ∈ p, 1 ≤ row.length ∧ row.length ≤ 6 := by
 have hg := planB_grid hp
 have h := grid_small hg
 refine ⟨h.2.1, h.1, fun row hr => ⟨?_, h.2.2 row hr⟩⟩
 obtain ⟨i, hi, rfl⟩ := List.getElem_of_mem hr
 exact row_pos hg (List.getElem?_eq_getElem hi)
end
theorem set_eB {l : Txt} {a : Nat} {c : UInt8} : (l.map eB).set a (.int .u8 (c.toNat : Int)) = (l.set a c).map eB := by rw [List.map_set]
theorem bytesOf_eB (l : Txt) : bytesOf (l.map eB) = some l := bytesOf_map l
theorem l1None_pc  : PC Tryz.prog 147 [] (.tup [eStrs [], .bool false]) true := by
 refine PC.of ⟨Tryz.func147, by kernel_rfl, rfl, by kernel_rfl⟩ tabOk mixed (by show 0 ≤ Tryz.f147.ntmps; decide) ?_
 refine W.seq_region fun K hK => ?_
 simp (disch := omega) only [↓RU, RV, RH, ↓reduceIte, reduceEqDiff, reduceCtorEq, if_pos, ↓RS, RG, reduceAdd, reduceMul, reduceLeDiff]
 refine hK _ _ ?_;clear hK K
 refine W.seq_region fun K hK => ?_
 simp (disch := omega) only [↓RU, RV, RH, ↓reduceIte, reduceEqDiff, reduceCtorEq, if_pos, ↓RS, RG, reduceAdd, reduceMul, reduceLeDiff, ty5, tystring]
 refine hK _ _ ?_;clear hK K
 refine W.ret ?_
 refine BodyQ.ret rfl ?_
 exact reify_tup2 (k := 9) (reify_loc (k := 8) (n := 0) rfl rfl rfl) rfl
theorem l1Put_pc {p : List Txt} (hs : Sm p) {tp lf hg wd : Nat} {c : UInt8} (h1 : tp + hg ≤ p.length) (h2 : ∀ row ∈ p, lf + wd ≤ row.length) : PC Tryz.prog 228 [eStrs p, .int .i64 tp, .int .i64 lf, .int .i64 hg, .int .i64 wd, eB c] (eStrs (putTo p tp lf wd c (tp + hg))) true := by
 obtain ⟨hs1, hs2⟩ := hs
 refine PC.of ⟨Tryz.func228, by kernel_rfl, rfl, by kernel_rfl⟩ tabOk mixed (by show 6 ≤ Tryz.f228.ntmps; decide) ?_
 refine W.seq_region fun K hK => ?_
 simp (disch := omega) only [↓RU, RV, RH, ↓reduceIte, reduceEqDiff, reduceCtorEq, if_pos, ↓RS, RG, reduceAdd, reduceMul, reduceLeDiff]
 refine hK _ _ ?_;clear hK K
 refine W.seq_region fun K hK => ?_
 simp (disch := omega) only [↓RU, RV, RH, ↓reduceIte, reduceEqDiff, reduceCtorEq, if_pos, ↓RS, RG, reduceAdd, reduceMul, reduceLeDiff, ty5, tystring]
 refine hK _ _ ?_;clear hK K
 refine W.seq ?_
 refine W.seq_region fun K hK => ?_
 simp (disch := omega) only [↓RU, RV, RH, ↓reduceIte, reduceEqDiff, reduceCtorEq, if_pos, ↓RS, RG, reduceAdd, reduceMul, reduceLeDiff]
 refine hK _ _ ?_;clear hK K
 refine W.block ?_
 refine W.loop [0, 1, 2, 3, 4, 5, 13, 14] (fun n vs S => ∃ j t v : Nat, n = hg - j ∧ j ≤ hg ∧ vs = [eStrs p, .int .i64 tp, .int .i64 lf, .int .i64 hg, .int .i64 wd, eB c, .loc 0 v 0 p.length, .int .i64 ((tp + j : Nat) : Int)] ∧ S = ⟨[.arr v 9 1 ((putTo p tp lf wd c (tp + j)).map .str)], t⟩) hg ?_ ?_
 ·refine ⟨1, 0, 2, 1, rfl, by omega, ?_, ?_⟩
  ·simp [Env.put, Env.of, argEnv]
  ·simp [take_eq, putTo_zero]
 rintro n vs S - ⟨j, t, v, rfl, h_j, rfl, rfl⟩
 refine W.seq ?_
 refine W.seq_region fun K hK => ?_
 simp (disch := omega) only [↓RU, RV, RH, ↓reduceIte, reduceEqDiff, reduceCtorEq, if_pos, w64, ↓RS, RG, reduceAdd, reduceMul, reduceLeDiff, tyint]
 refine hK _ _ ?_;clear hK K
 refine W.cond rfl (fun h => ?_) (fun h => ?_)
 ·try simp only [RL] at h
  obtain ⟨i, hi⟩ : ∃ i, tp + j = i := ⟨_, rfl⟩
  simp only [hi]
  obtain ⟨row, hrow0, hrm⟩ := get_of (show i < p.length by omega)
  have hrow := putTo_at (t := tp) (l := lf) (w := wd) (c := c) hrow0
  have hlen := putTo_len (p := p) (t := tp) (l := lf) (w := wd) (c := c) (i := i)
  have hr1 := hs2 row hrm
  have hr2 := h2 row hrm
  refine W.skip ?_
  refine XThen.norm ?_
  refine W.seq ?_
  refine W.block ?_
  refine W.seq_thaw (l1 := [_, _, _, _]) (o := _) (l2 := [_]) rfl fun K hK => ?_
  simp (disch := omega) only [↓RU, RV, RH, ↓reduceIte, reduceEqDiff, reduceCtorEq, if_pos, w64, ↓RS, RG, reduceAdd, reduceMul, reduceLeDiff, ty5, ty6, tystring, ty26, hrow, hlen]
  refine ⟨_, _, _, _, _, rfl, rfl, rfl, rfl, rfl, rfl, by omega, ?_⟩
  simp (disch := omega) only [↓RU, RV, RH, ↓reduceIte, reduceEqDiff, reduceCtorEq, if_pos, w64, ↓RS, RG, reduceAdd, reduceMul, reduceLeDiff, ty5, ty6, tystring, ty26, hrow, hlen]
  refine hK _ _ ?_;clear hK K
  refine W.seq ?_
  refine W.seq_region fun K hK => ?_
  simp (disch := omega) only [↓RU, RV, RH, ↓reduceIte, reduceEqDiff, reduceCtorEq, if_pos, ↓RS, RG, reduceAdd, reduceMul, reduceLeDiff]
  refine hK _ _ ?_;clear hK K
  refine W.block ?_
  refine W.loop [0, 1, 2, 3, 4, 5, 13, 14, 15, 16] (fun n vs S => ∃ k t2 : Nat, n = wd - k ∧ k ≤ wd ∧ vs = [eStrs p, .int .i64 tp, .int .i64 lf, .int .i64 hg, .int .i64 wd, eB c, .loc 0 v 0 p.length, .int .i64 (i : Int), .loc 1 t 0 row.length, .int .i64 ((lf + k : Nat) : Int)] ∧ S = ⟨[.arr v 9 1 ((putTo p tp lf wd c i).map .str), .arr t 5 1 ((rowPut row lf c (lf + k)).map eB)], t2⟩) wd ?_ ?_
  ·refine ⟨2, 0, t + 1, rfl, by omega, ?_, ?_⟩
   ·simp [Env.put, Env.of]
   ·simp [take_eq, rowPut_zero]
  rintro n vs S - ⟨k, t2, rfl, h_k, rfl, rfl⟩
  refine W.seq ?_
  refine W.seq_region fun K hK => ?_
  simp (disch := omega) only [↓RU, RV, RH, ↓reduceIte, reduceEqDiff, reduceCtorEq, if_pos, w64, ↓RS, RG, reduceAdd, reduceMul, reduceLeDiff, tyint]
  refine hK _ _ ?_;clear hK K
  refine W.cond rfl (fun h3 => ?_) (fun h3 => ?_)
  ·try simp only [RL] at h3
   have hrl := rowPut_len (row := row) (l := lf) (k := lf + k) (c := c)
   refine W.skip ?_
   refine XThen.norm ?_
   refine W.seq ?_
   refine W.block ?_
   refine W.region_k fun K hK => ?_
   simp (disch := omega) only [↓RU, RV, RH, ↓reduceIte, reduceEqDiff, reduceCtorEq, if_pos, ↓RS, RG, reduceAdd, reduceMul, reduceLeDiff, ty6, ty26, hrl, set_spl, set_eB]
   refine hK _ _ ?_;clear hK K
   refine XBlock.norm ?_
   refine XThen.norm ?_
   refine W.region_k fun K hK => ?_
   simp (disch := omega) only [↓RU, RV, RH, ↓reduceIte, reduceEqDiff, reduceCtorEq, if_pos, w64, ↓RS, RG, reduceAdd, reduceMul, reduceLeDiff, tyint]
   refine hK _ _ ?_;clear hK K
   refine XThen.norm ?_
   refine ⟨wd - (k + 1), by omega, 2, k + 1, t2, rfl, by omega, ?_, ?_⟩
   ·simp [Env.put, Env.of]; omega
   ·simp only [take_eq]; rw [rowPut_succ (by omega) (by omega)]; rfl
  ·try simp only [RL] at h3
   obtain rfl : k = wd := by omega
   have hrl := rowPut_len (row := row) (l := lf) (k := lf + k) (c := c)
   have htk : ((rowPut row lf c (lf + k)).map eB).take row.length = (rowPut row lf c (lf + k)).map eB := List.take_of_length_le (by simp [hrl])
   refine W.exit ?_
   refine XThen.exit ?_
   refine XThen.exit ?_
   refine XBlock.hit ?_
   refine XThen.norm ?_
   refine W.region_k fun K hK => ?_
   simp (disch := omega) only [↓RU, RV, RH, ↓reduceIte, reduceEqDiff, reduceCtorEq, if_pos, w64, ↓RS, RG, reduceAdd, reduceMul, reduceLeDiff, ty5, ty6, tystring, ty26, hrl, htk, bytesOf_eB, hlen, set_spl, set_str, cells_str, List.length_cons, List.length_nil, Option.map_some]
   refine hK _ _ ?_;clear hK K
   refine XBlock.norm ?_
   refine XThen.norm ?_
   refine W.region_k fun K hK => ?_
   simp (disch := omega) only [↓RU, RV, RH, ↓reduceIte, reduceEqDiff, reduceCtorEq, if_pos, w64, ↓RS, RG, reduceAdd, reduceMul, reduceLeDiff, tyint]
   refine hK _ _ ?_;clear hK K
   refine XThen.norm ?_
   refine ⟨hg - (j + 1), by omega, 1, j + 1, t2, v, rfl, by omega, ?_, ?_⟩
   ·subst hi; simp [Env.put, Env.of]; omega
   ·subst hi; simp only [take_eq, List.take_succ_cons, List.take_zero]; rw [putTo_succ (by omega) hrow0]; rfl
 ·try simp only [RL] at h
  refine W.exit ?_
  refine XThen.exit ?_
  refine XThen.exit ?_
  refine XBlock.hit ?_
  refine XThen.norm ?_
  refine W.seq_region fun K hK => ?_
  simp (disch := omega) only [↓RU, RV, RH, ↓reduceIte, reduceEqDiff, reduceCtorEq, if_pos, ↓RS, RG, reduceAdd, reduceMul, reduceLeDiff]
  refine hK _ _ ?_;clear hK K
  refine W.ret ?_
  refine BodyQ.ret rfl ?_
  obtain rfl : j = hg := by omega
  exact (reify_loc (k := 9) rfl (by simp [putTo_len]) (mapM_str _)).trans (by simp [putTo_len])
theorem l1Done_pc {p : List Txt} (hs : Sm p) : PC Tryz.prog 148 [eStrs p] (.tup [eStrs (doneP p).1, .bool (doneP p).2]) false := by
 refine PC.of ⟨Tryz.func148, by kernel_rfl, rfl, by kernel_rfl⟩ tabOk mixed (by show 1 ≤ Tryz.f148.ntmps; decide) ?_
 refine W.seq_region fun K hK => ?_
 simp (disch := omega) only [↓RU, RV, RH, ↓reduceIte, reduceEqDiff, reduceCtorEq, if_pos, ↓RS, RG, reduceAdd, reduceMul, reduceLeDiff]
 refine hK _ _ ?_;clear hK K
 refine W.seq ?_
 refine W.seq_region fun K hK => ?_
 rcases hgg : (gridB p, planB (names p)) with ⟨_ | _, _ | _⟩
 ·skip
  simp only [Prod.mk.injEq] at hgg
  obtain ⟨hg1, hg2⟩ := hgg
  simp (disch := omega) only [↓RU, RV, RH, ↓reduceIte, reduceEqDiff, reduceCtorEq, if_pos, List.append_nil, ↓RS, RG, reduceAdd, reduceMul, reduceLeDiff, hg1, hg2]
  refine CallR.pc (l1Grid_pc hs) rfl (.inl rfl) ?_
  simp (disch := omega) only [↓RU, RV, RH, ↓reduceIte, reduceEqDiff, reduceCtorEq, if_pos, List.append_nil, ↓RS, RG, reduceAdd, reduceMul, reduceLeDiff, hg1, hg2]
  refine hK _ _ ?_;clear hK K
  refine W.cond rfl (fun h => ?_) (fun h => ?_)
  ·try simp only [RL] at h
   refine W.seq_region fun K hK => ?_
   simp (disch := omega) only [↓RU, RV, RH, ↓reduceIte, reduceEqDiff, reduceCtorEq, if_pos, List.append_nil, ↓RS, RG, reduceAdd, reduceMul, reduceLeDiff]
   refine CallR.pc (l1None_pc) rfl (.inl rfl) ?_
   simp (disch := omega) only [↓RU, RV, RH, ↓reduceIte, reduceEqDiff, reduceCtorEq, if_pos, List.append_nil, ↓RS, RG, reduceAdd, reduceMul, reduceLeDiff]
   refine hK _ _ ?_;clear hK K
   refine W.ret ?_
   refine XThen.ret ?_
   refine BodyQ.ret rfl ?_
   rw [show doneP p = ([], false) by unfold doneP; rw [hg1]; rfl]
   rfl
  ·try simp only [RL] at h
   exact absurd h (by simp)
 ·skip
  simp only [Prod.mk.injEq] at hgg
  obtain ⟨hg1, hg2⟩ := hgg
  simp (disch := omega) only [↓RU, RV, RH, ↓reduceIte, reduceEqDiff, reduceCtorEq, if_pos, List.append_nil, ↓RS, RG, reduceAdd, reduceMul, reduceLeDiff, hg1, hg2]
  refine CallR.pc (l1Grid_pc hs) rfl (.inl rfl) ?_
  simp (disch := omega) only [↓RU, RV, RH, ↓reduceIte, reduceEqDiff, reduceCtorEq, if_pos, List.append_nil, ↓RS, RG, reduceAdd, reduceMul, reduceLeDiff, hg1, hg2]
  refine hK _ _ ?_;clear hK K
  refine W.cond rfl (fun h => ?_) (fun h => ?_)
  ·try simp only [RL] at h
   refine W.seq_region fun K hK => ?_
   simp (disch := omega) only [↓RU, RV, RH, ↓reduceIte, reduceEqDiff, reduceCtorEq, if_pos, List.append_nil, ↓RS, RG, reduceAdd, reduceMul, reduceLeDiff]
   refine CallR.pc (l1None_pc) rfl (.inl rfl) ?_
   simp (disch := omega) only [↓RU, RV, RH, ↓reduceIte, reduceEqDiff, reduceCtorEq, if_pos, List.append_nil, ↓RS, RG, reduceAdd, reduceMul, reduceLeDiff]
   refine hK _ _ ?_;clear hK K
   refine W.ret ?_
   refine XThen.ret ?_
   refine BodyQ.ret rfl ?_
   rw [show doneP p = ([], false) by unfold doneP; rw [hg1]; rfl]
   rfl
  ·try simp only [RL] at h
   exact absurd h (by simp)
 ·skip
  simp only [Prod.mk.injEq] at hgg
  obtain ⟨hg1, hg2⟩ := hgg
  simp (disch := omega) only [↓RU, RV, RH, ↓reduceIte, reduceEqDiff, reduceCtorEq, if_pos, List.append_nil, ↓RS, RG, reduceAdd, reduceMul, reduceLeDiff, hg1, hg2]
  refine CallR.pc (l1Grid_pc hs) rfl (.inl rfl) ?_
  simp (disch := omega) only [↓RU, RV, RH, ↓reduceIte, reduceEqDiff, reduceCtorEq, if_pos, List.append_nil, ↓RS, RG, reduceAdd, reduceMul, reduceLeDiff, hg1, hg2]
  refine CallR.pc (l1Names_pc hs) rfl (.inl rfl) ?_
  simp (disch := omega) only [↓RU, RV, RH, ↓reduceIte, reduceEqDiff, reduceCtorEq, if_pos, List.append_nil, ↓RS, RG, reduceAdd, reduceMul, reduceLeDiff, hg1, hg2]
  refine CallR.pc (sPlanIn_pc hs.names) rfl (.inl rfl) ?_
  simp (disch := omega) only [↓RU, RV, RH, ↓reduceIte, reduceEqDiff, reduceCtorEq, if_pos, List.append_nil, ↓RS, RG, reduceAdd, reduceMul, reduceLeDiff, hg1, hg2]
  refine hK _ _ ?_;clear hK K
  refine W.cond rfl (fun h => ?_) (fun h => ?_)
  ·try simp only [RL] at h
   refine W.seq_region fun K hK => ?_
   simp (disch := omega) only [↓RU, RV, RH, ↓reduceIte, reduceEqDiff, reduceCtorEq, if_pos, List.append_nil, ↓RS, RG, reduceAdd, reduceMul, reduceLeDiff]
   refine CallR.pc (l1None_pc) rfl (.inl rfl) ?_
   simp (disch := omega) only [↓RU, RV, RH, ↓reduceIte, reduceEqDiff, reduceCtorEq, if_pos, List.append_nil, ↓RS, RG, reduceAdd, reduceMul, reduceLeDiff]
   refine hK _ _ ?_;clear hK K
   refine W.ret ?_
   refine XThen.ret ?_
   refine BodyQ.ret rfl ?_
   rw [show doneP p = ([], false) by unfold doneP; rw [hg1, hg2]; rfl]
   rfl
  ·try simp only [RL] at h
   exact absurd h (by simp)
 ·skip
  simp only [Prod.mk.injEq] at hgg
  obtain ⟨hg1, hg2⟩ := hgg
  simp (disch := omega) only [↓RU, RV, RH, ↓reduceIte, reduceEqDiff, reduceCtorEq, if_pos, List.append_nil, ↓RS, RG, reduceAdd, reduceMul, reduceLeDiff, hg1, hg2]
  refine CallR.pc (l1Grid_pc hs) rfl (.inl rfl) ?_
  simp (disch := omega) only [↓RU, RV, RH, ↓reduceIte, reduceEqDiff, reduceCtorEq, if_pos, List.append_nil, ↓RS, RG, reduceAdd, reduceMul, reduceLeDiff, hg1, hg2]
  refine CallR.pc (l1Names_pc hs) rfl (.inl rfl) ?_
  simp (disch := omega) only [↓RU, RV, RH, ↓reduceIte, reduceEqDiff, reduceCtorEq, if_pos, List.append_nil, ↓RS, RG, reduceAdd, reduceMul, reduceLeDiff, hg1, hg2]
  refine CallR.pc (sPlanIn_pc hs.names) rfl (.inl rfl) ?_
  simp (disch := omega) only [↓RU, RV, RH, ↓reduceIte, reduceEqDiff, reduceCtorEq, if_pos, List.append_nil, ↓RS, RG, reduceAdd, reduceMul, reduceLeDiff, hg1, hg2]
  refine hK _ _ ?_;clear hK K
  refine W.cond rfl (fun h => ?_) (fun h => ?_)
  ·try simp only [RL] at h
   exact absurd h (by simp)
  ·try simp only [RL] at h
   refine W.skip ?_
   refine XThen.norm ?_
   refine W.seq_region fun K hK => ?_
   simp (disch := omega) only [↓RU, RV, RH, ↓reduceIte, reduceEqDiff, reduceCtorEq, if_pos, List.append_nil, ↓RS, RG, reduceAdd, reduceMul, reduceLeDiff]
   refine CallR.pc (l1Names_pc hs) rfl (.inl rfl) ?_
   simp (disch := omega) only [↓RU, RV, RH, ↓reduceIte, reduceEqDiff, reduceCtorEq, if_pos, List.append_nil, ↓RS, RG, reduceAdd, reduceMul, reduceLeDiff]
   refine hK _ _ ?_;clear hK K
   refine W.ret ?_
   refine BodyQ.ret rfl ?_
   rw [show doneP p = (names p, true) by unfold doneP; rw [hg1, hg2]; rfl]
   rfl
theorem planSplit_pc {p : List Txt} (hs : Sm p) (room : Int) {s : Txt} (hsl : s.length ≤ 1048576) (k : Int) : PC Tryz.prog 219 [eStrs p, .int .i64 room, .str s, .int .i64 k] (.tup [eStrs (splitP p room s k).1, .bool (splitP p room s k).2]) false := by
 have hrb := l1Rooms_bound p
 refine PC.of ⟨Tryz.func219, by kernel_rfl, rfl, by kernel_rfl⟩ tabOk mixed (by show 4 ≤ Tryz.f219.ntmps; decide) ?_
 refine W.seq_region fun K hK => ?_
 simp (disch := omega) only [↓RU, RV, RH, ↓reduceIte, reduceEqDiff, reduceCtorEq, if_pos, ↓RS, RG, reduceAdd, reduceMul, reduceLeDiff]
 refine hK _ _ ?_;clear hK K
 refine W.seq ?_
 refine W.seq_region fun K hK => ?_
 simp (disch := omega) only [↓RU, RV, RH, ↓reduceIte, reduceEqDiff, reduceCtorEq, if_pos, List.append_nil, ↓RS, RG, reduceAdd, reduceMul, reduceLeDiff]
 refine CallR.pc (l1Given_pc hs room) rfl (.inl rfl) ?_
 simp (disch := omega) only [↓RU, RV, RH, ↓reduceIte, reduceEqDiff, reduceCtorEq, if_pos, List.append_nil, ↓RS, RG, reduceAdd, reduceMul, reduceLeDiff]
 refine hK _ _ ?_;clear hK K
 refine W.cond rfl (fun h0 => ?_) (fun h0 => ?_)
 ·try simp only [RL] at h0
  have hgv : (planB p && (decide (0 ≤ room) && decide (room ≤ l1Rooms p - 1))) = false := by simpa using h0
  refine W.seq_region fun K hK => ?_
  simp (disch := omega) only [↓RU, RV, RH, ↓reduceIte, reduceEqDiff, reduceCtorEq, if_pos, List.append_nil, ↓RS, RG, reduceAdd, reduceMul, reduceLeDiff]
  refine CallR.pc (l1None_pc) rfl (.inl rfl) ?_
  simp (disch := omega) only [↓RU, RV, RH, ↓reduceIte, reduceEqDiff, reduceCtorEq, if_pos, List.append_nil, ↓RS, RG, reduceAdd, reduceMul, reduceLeDiff]
  refine hK _ _ ?_;clear hK K
  refine W.ret ?_
  refine XThen.ret ?_
  refine BodyQ.ret rfl ?_
  first | (rw [splitP_g hgv]; rfl) | (rw [splitP_h hgv e1 e2 e3 e4 hB1]; rfl) | (rw [splitP_v hgv e1 e2 e3 e4 hB1 hB2]; rfl) | (rw [splitP_no hB1 hB2]; rfl)
 ·try simp only [RL] at h0
  have hgv : (planB p && (decide (0 ≤ room) && decide (room ≤ l1Rooms p - 1))) = true := by simpa using h0
  have hgv2 := hgv
  simp only [Bool.and_eq_true, decide_eq_true_eq] at hgv2
  obtain ⟨hp, hr0, hr1⟩ := hgv2
  obtain ⟨t, l, h, w, e1, e2, e3, e4, q1, q2, q3, q4⟩ := plan_box hp hr0 hr1
  obtain ⟨ps1, ps2, ps3⟩ := plan_small hp
  have hrw : ∀ row ∈ p, row.length = (hdRow p).length := fun row hr => by obtain ⟨i, hi, rfl⟩ := List.getElem_of_mem hr; exact rows_wide hp (List.getElem?_eq_getElem hi)
  have hw6 : (hdRow p).length ≤ 6 := by obtain ⟨row, hrow, hrm⟩ := get_of ps2; rw [← hrw row hrm]; exact (ps3 row hrm).2
  refine W.skip ?_
  refine XThen.norm ?_
  refine W.seq_region fun K hK => ?_
  simp (disch := omega) only [↓RU, RV, RH, ↓reduceIte, reduceEqDiff, reduceCtorEq, if_pos, List.append_nil, ↓RS, RG, reduceAdd, reduceMul, reduceLeDiff, e1, e2, e3, e4]
  refine CallR.pc (l1Room_pc hs (by omega) room) rfl (.inl rfl) ?_
  simp (disch := omega) only [↓RU, RV, RH, ↓reduceIte, reduceEqDiff, reduceCtorEq, if_pos, List.append_nil, ↓RS, RG, reduceAdd, reduceMul, reduceLeDiff, e1, e2, e3, e4]
  refine hK _ _ ?_;clear hK K
  refine W.seq ?_
  refine W.block ?_
  refine W.seq_region fun K hK => ?_
  cases hb1 : (s == ([104] : Txt))
  ·skip
   have hB1 : ((s == [104]) && (decide (1 ≤ k) && decide (k ≤ highOf p room - 1))) = false := by rw [hb1]; rfl
   simp (disch := omega) only [↓RU, RV, RH, ↓reduceIte, reduceEqDiff, reduceCtorEq, if_pos, w64, List.append_nil, ↓RS, RG, reduceAdd, reduceMul, reduceLeDiff, tyint, tystring, hb1, pStr]
   refine hK _ _ ?_;clear hK K
   refine W.cond rfl (fun h1 => ?_) (fun h1 => ?_)
   ·try simp only [RL] at h1
    exact absurd h1 (by simp)
   ·try simp only [RL] at h1
    refine W.seq_region fun K hK => ?_
    cases hb2 : (s == ([118] : Txt))
    ·skip
     have hB2 : ((s == [118]) && (decide (1 ≤ k) && decide (k ≤ wideOf p room - 1))) = false := by rw [hb2]; rfl
     simp (disch := omega) only [↓RU, RV, RH, ↓reduceIte, reduceEqDiff, reduceCtorEq, if_pos, w64, List.append_nil, ↓RS, RG, reduceAdd, reduceMul, reduceLeDiff, tyint, tystring, hb2, pStr]
     refine hK _ _ ?_;clear hK K
     refine W.cond rfl (fun h2 => ?_) (fun h2 => ?_)
     ·try simp only [RL] at h2
      exact absurd h2 (by simp)
     ·try simp only [RL] at h2
      refine W.skip ?_
      refine XBlock.norm ?_
      refine XThen.norm ?_
      refine W.seq_region fun K hK => ?_
      simp (disch := omega) only [↓RU, RV, RH, ↓reduceIte, reduceEqDiff, reduceCtorEq, if_pos, List.append_nil, ↓RS, RG, reduceAdd, reduceMul, reduceLeDiff]
      refine CallR.pc (l1None_pc) rfl (.inl rfl) ?_
      simp (disch := omega) only [↓RU, RV, RH, ↓reduceIte, reduceEqDiff, reduceCtorEq, if_pos, List.append_nil, ↓RS, RG, reduceAdd, reduceMul, reduceLeDiff]
      refine hK _ _ ?_;clear hK K
      refine W.ret ?_
      refine BodyQ.ret rfl ?_
      first | (rw [splitP_g hgv]; rfl) | (rw [splitP_h hgv e1 e2 e3 e4 hB1]; rfl) | (rw [splitP_v hgv e1 e2 e3 e4 hB1 hB2]; rfl) | (rw [splitP_no hB1 hB2]; rfl)
    ·skip
     simp (disch := omega) only [↓RU, RV, RH, ↓reduceIte, reduceEqDiff, reduceCtorEq, if_pos, w64, List.append_nil, ↓RS, RG, reduceAdd, reduceMul, reduceLeDiff, tyint, tystring, hb2, pStr]
     refine CallR.pc (l6In_pc _ _ _) rfl (.inl rfl) ?_
     simp (disch := omega) only [↓RU, RV, RH, ↓reduceIte, reduceEqDiff, reduceCtorEq, if_pos, w64, List.append_nil, ↓RS, RG, reduceAdd, reduceMul, reduceLeDiff, tyint, tystring, hb2, pStr]
     refine hK _ _ ?_;clear hK K
     refine W.cond rfl (fun h2 => ?_) (fun h2 => ?_)
     ·try simp only [RL] at h2
      have hB2 : ((s == [118]) && (decide (1 ≤ k) && decide (k ≤ wideOf p room - 1))) = true := by rw [hb2, e4]; exact h2
      have hk := h2
      simp only [Bool.and_eq_true, decide_eq_true_eq] at hk
      obtain ⟨kn, rfl⟩ : ∃ kn : Nat, k = kn := ⟨k.toNat, by omega⟩
      refine W.seq_region fun K hK => ?_
      simp (disch := omega) only [↓RU, RV, RH, ↓reduceIte, reduceEqDiff, reduceCtorEq, if_pos, w64, List.append_nil, ↓RS, RG, reduceAdd, reduceMul, reduceLeDiff, tyint, show ((l : Int) + (kn : Int)) = ((l + kn : Nat) : Int) from by omega, show ((w : Int) - (kn : Int)) = ((w - kn : Nat) : Int) from by omega]
      refine CallR.pc (l1Put_pc hs (tp := t) (lf := l + kn) (hg := h) (wd := w - kn) (c := 122) (by omega) (fun row hr => by rw [hrw row hr]; omega)) rfl (.inl rfl) ?_
      simp (disch := omega) only [↓RU, RV, RH, ↓reduceIte, reduceEqDiff, reduceCtorEq, if_pos, w64, List.append_nil, ↓RS, RG, reduceAdd, reduceMul, reduceLeDiff, tyint, show ((l : Int) + (kn : Int)) = ((l + kn : Nat) : Int) from by omega, show ((w : Int) - (kn : Int)) = ((w - kn : Nat) : Int) from by omega]
      refine CallR.pc (l1Done_pc (putTo_sm hs)) rfl (.inr rfl) ?_
      simp (disch := omega) only [↓RU, RV, RH, ↓reduceIte, reduceEqDiff, reduceCtorEq, if_pos, w64, List.append_nil, ↓RS, RG, reduceAdd, reduceMul, reduceLeDiff, tyint, show ((l : Int) + (kn : Int)) = ((l + kn : Nat) : Int) from by omega, show ((w : Int) - (kn : Int)) = ((w - kn : Nat) : Int) from by omega]
      refine hK _ _ ?_;clear hK K
      refine W.ret ?_
      refine XBlock.ret ?_
      refine XThen.ret ?_
      refine BodyQ.ret rfl ?_
      first | (rw [splitP_g hgv]; rfl) | (rw [splitP_h hgv e1 e2 e3 e4 hB1]; rfl) | (rw [splitP_v hgv e1 e2 e3 e4 hB1 hB2]; rfl) | (rw [splitP_no hB1 hB2]; rfl)
     ·try simp only [RL] at h2
      have hB2 : ((s == [118]) && (decide (1 ≤ k) && decide (k ≤ wideOf p room - 1))) = false := by rw [hb2, e4]; exact h2
      refine W.skip ?_
      refine XBlock.norm ?_
      refine XThen.norm ?_
      refine W.seq_region fun K hK => ?_
      simp (disch := omega) only [↓RU, RV, RH, ↓reduceIte, reduceEqDiff, reduceCtorEq, if_pos, List.append_nil, ↓RS, RG, reduceAdd, reduceMul, reduceLeDiff]
      refine CallR.pc (l1None_pc) rfl (.inl rfl) ?_
      simp (disch := omega) only [↓RU, RV, RH, ↓reduceIte, reduceEqDiff, reduceCtorEq, if_pos, List.append_nil, ↓RS, RG, reduceAdd, reduceMul, reduceLeDiff]
      refine hK _ _ ?_;clear hK K
      refine W.ret ?_
      refine BodyQ.ret rfl ?_
      first | (rw [splitP_g hgv]; rfl) | (rw [splitP_h hgv e1 e2 e3 e4 hB1]; rfl) | (rw [splitP_v hgv e1 e2 e3 e4 hB1 hB2]; rfl) | (rw [splitP_no hB1 hB2]; rfl)
  ·skip
   simp (disch := omega) only [↓RU, RV, RH, ↓reduceIte, reduceEqDiff, reduceCtorEq, if_pos, w64, List.append_nil, ↓RS, RG, reduceAdd, reduceMul, reduceLeDiff, tyint, tystring, hb1, pStr]
   refine CallR.pc (l6In_pc _ _ _) rfl (.inl rfl) ?_
   simp (disch := omega) only [↓RU, RV, RH, ↓reduceIte, reduceEqDiff, reduceCtorEq, if_pos, w64, List.append_nil, ↓RS, RG, reduceAdd, reduceMul, reduceLeDiff, tyint, tystring, hb1, pStr]
   refine hK _ _ ?_;clear hK K
   refine W.cond rfl (fun h1 => ?_) (fun h1 => ?_)
   ·try simp only [RL] at h1
    have hB1 : ((s == [104]) && (decide (1 ≤ k) && decide (k ≤ highOf p room - 1))) = true := by rw [hb1, e3]; exact h1
    have hk := h1
    simp only [Bool.and_eq_true, decide_eq_true_eq] at hk
    obtain ⟨kn, rfl⟩ : ∃ kn : Nat, k = kn := ⟨k.toNat, by omega⟩
    refine W.seq_region fun K hK => ?_
    simp (disch := omega) only [↓RU, RV, RH, ↓reduceIte, reduceEqDiff, reduceCtorEq, if_pos, w64, List.append_nil, ↓RS, RG, reduceAdd, reduceMul, reduceLeDiff, tyint, show ((t : Int) + (kn : Int)) = ((t + kn : Nat) : Int) from by omega, show ((h : Int) - (kn : Int)) = ((h - kn : Nat) : Int) from by omega]
    refine CallR.pc (l1Put_pc hs (tp := t + kn) (lf := l) (hg := h - kn) (wd := w) (c := 122) (by omega) (fun row hr => by rw [hrw row hr]; omega)) rfl (.inl rfl) ?_
    simp (disch := omega) only [↓RU, RV, RH, ↓reduceIte, reduceEqDiff, reduceCtorEq, if_pos, w64, List.append_nil, ↓RS, RG, reduceAdd, reduceMul, reduceLeDiff, tyint, show ((t : Int) + (kn : Int)) = ((t + kn : Nat) : Int) from by omega, show ((h : Int) - (kn : Int)) = ((h - kn : Nat) : Int) from by omega]
    refine CallR.pc (l1Done_pc (putTo_sm hs)) rfl (.inr rfl) ?_
    simp (disch := omega) only [↓RU, RV, RH, ↓reduceIte, reduceEqDiff, reduceCtorEq, if_pos, w64, List.append_nil, ↓RS, RG, reduceAdd, reduceMul, reduceLeDiff, tyint, show ((t : Int) + (kn : Int)) = ((t + kn : Nat) : Int) from by omega, show ((h : Int) - (kn : Int)) = ((h - kn : Nat) : Int) from by omega]
    refine hK _ _ ?_;clear hK K
    refine W.ret ?_
    refine XBlock.ret ?_
    refine XThen.ret ?_
    refine BodyQ.ret rfl ?_
    first | (rw [splitP_g hgv]; rfl) | (rw [splitP_h hgv e1 e2 e3 e4 hB1]; rfl) | (rw [splitP_v hgv e1 e2 e3 e4 hB1 hB2]; rfl) | (rw [splitP_no hB1 hB2]; rfl)
   ·try simp only [RL] at h1
    have hB1 : ((s == [104]) && (decide (1 ≤ k) && decide (k ≤ highOf p room - 1))) = false := by rw [hb1, e3]; exact h1
    refine W.seq_region fun K hK => ?_
    cases hb2 : (s == ([118] : Txt))
    ·skip
     have hB2 : ((s == [118]) && (decide (1 ≤ k) && decide (k ≤ wideOf p room - 1))) = false := by rw [hb2]; rfl
     simp (disch := omega) only [↓RU, RV, RH, ↓reduceIte, reduceEqDiff, reduceCtorEq, if_pos, w64, List.append_nil, ↓RS, RG, reduceAdd, reduceMul, reduceLeDiff, tyint, tystring, hb2, pStr]
     refine hK _ _ ?_;clear hK K
     refine W.cond rfl (fun h2 => ?_) (fun h2 => ?_)
     ·try simp only [RL] at h2
      exact absurd h2 (by simp)
     ·try simp only [RL] at h2
      refine W.skip ?_
      refine XBlock.norm ?_
      refine XThen.norm ?_
      refine W.seq_region fun K hK => ?_
      simp (disch := omega) only [↓RU, RV, RH, ↓reduceIte, reduceEqDiff, reduceCtorEq, if_pos, List.append_nil, ↓RS, RG, reduceAdd, reduceMul, reduceLeDiff]
      refine CallR.pc (l1None_pc) rfl (.inl rfl) ?_
      simp (disch := omega) only [↓RU, RV, RH, ↓reduceIte, reduceEqDiff, reduceCtorEq, if_pos, List.append_nil, ↓RS, RG, reduceAdd, reduceMul, reduceLeDiff]
      refine hK _ _ ?_;clear hK K
      refine W.ret ?_
      refine BodyQ.ret rfl ?_
      first | (rw [splitP_g hgv]; rfl) | (rw [splitP_h hgv e1 e2 e3 e4 hB1]; rfl) | (rw [splitP_v hgv e1 e2 e3 e4 hB1 hB2]; rfl) | (rw [splitP_no hB1 hB2]; rfl)
    ·skip
     simp (disch := omega) only [↓RU, RV, RH, ↓reduceIte, reduceEqDiff, reduceCtorEq, if_pos, w64, List.append_nil, ↓RS, RG, reduceAdd, reduceMul, reduceLeDiff, tyint, tystring, hb2, pStr]
     refine CallR.pc (l6In_pc _ _ _) rfl (.inl rfl) ?_
     simp (disch := omega) only [↓RU, RV, RH, ↓reduceIte, reduceEqDiff, reduceCtorEq, if_pos, w64, List.append_nil, ↓RS, RG, reduceAdd, reduceMul, reduceLeDiff, tyint, tystring, hb2, pStr]
     refine hK _ _ ?_;clear hK K
     refine W.cond rfl (fun h2 => ?_) (fun h2 => ?_)
     ·try simp only [RL] at h2
      have hB2 : ((s == [118]) && (decide (1 ≤ k) && decide (k ≤ wideOf p room - 1))) = true := by rw [hb2, e4]; exact h2
      have hk := h2
      simp only [Bool.and_eq_true, decide_eq_true_eq] at hk
      obtain ⟨kn, rfl⟩ : ∃ kn : Nat, k = kn := ⟨k.toNat, by omega⟩
      refine W.seq_region fun K hK => ?_
      simp (disch := omega) only [↓RU, RV, RH, ↓reduceIte, reduceEqDiff, reduceCtorEq, if_pos, w64, List.append_nil, ↓RS, RG, reduceAdd, reduceMul, reduceLeDiff, tyint, show ((l : Int) + (kn : Int)) = ((l + kn : Nat) : Int) from by omega, show ((w : Int) - (kn : Int)) = ((w - kn : Nat) : Int) from by omega]
      refine CallR.pc (l1Put_pc hs (tp := t) (lf := l + kn) (hg := h) (wd := w - kn) (c := 122) (by omega) (fun row hr => by rw [hrw row hr]; omega)) rfl (.inl rfl) ?_
      simp (disch := omega) only [↓RU, RV, RH, ↓reduceIte, reduceEqDiff, reduceCtorEq, if_pos, w64, List.append_nil, ↓RS, RG, reduceAdd, reduceMul, reduceLeDiff, tyint, show ((l : Int) + (kn : Int)) = ((l + kn : Nat) : Int) from by omega, show ((w : Int) - (kn : Int)) = ((w - kn : Nat) : Int) from by omega]
      refine CallR.pc (l1Done_pc (putTo_sm hs)) rfl (.inr rfl) ?_
      simp (disch := omega) only [↓RU, RV, RH, ↓reduceIte, reduceEqDiff, reduceCtorEq, if_pos, w64, List.append_nil, ↓RS, RG, reduceAdd, reduceMul, reduceLeDiff, tyint, show ((l : Int) + (kn : Int)) = ((l + kn : Nat) : Int) from by omega, show ((w : Int) - (kn : Int)) = ((w - kn : Nat) : Int) from by omega]
      refine hK _ _ ?_;clear hK K
      refine W.ret ?_
      refine XBlock.ret ?_
      refine XThen.ret ?_
      refine BodyQ.ret rfl ?_
      first | (rw [splitP_g hgv]; rfl) | (rw [splitP_h hgv e1 e2 e3 e4 hB1]; rfl) | (rw [splitP_v hgv e1 e2 e3 e4 hB1 hB2]; rfl) | (rw [splitP_no hB1 hB2]; rfl)
     ·try simp only [RL] at h2
      have hB2 : ((s == [118]) && (decide (1 ≤ k) && decide (k ≤ wideOf p room - 1))) = false := by rw [hb2, e4]; exact h2
      refine W.skip ?_
      refine XBlock.norm ?_
      refine XThen.norm ?_
      refine W.seq_region fun K hK => ?_
      simp (disch := omega) only [↓RU, RV, RH, ↓reduceIte, reduceEqDiff, reduceCtorEq, if_pos, List.append_nil, ↓RS, RG, reduceAdd, reduceMul, reduceLeDiff]
      refine CallR.pc (l1None_pc) rfl (.inl rfl) ?_
      simp (disch := omega) only [↓RU, RV, RH, ↓reduceIte, reduceEqDiff, reduceCtorEq, if_pos, List.append_nil, ↓RS, RG, reduceAdd, reduceMul, reduceLeDiff]
      refine hK _ _ ?_;clear hK K
      refine W.ret ?_
      refine BodyQ.ret rfl ?_
      first | (rw [splitP_g hgv]; rfl) | (rw [splitP_h hgv e1 e2 e3 e4 hB1]; rfl) | (rw [splitP_v hgv e1 e2 e3 e4 hB1 hB2]; rfl) | (rw [splitP_no hB1 hB2]; rfl)
theorem pick_ev {code : Txt} {q vr t : Nat} {R : List Ob} (hc : code.length ≤ 1048576) (hq : q ≤ 1000000) (n : Int) (hn : n ≤ 1000000) (hn0 : -1000000 ≤ n) :
  Ev Tryz.prog 98 [.ref 0 vr 0, .int .i64 n] ⟨.arr vr 147 2 [eBy code, .int .i64 (q : Int)] :: R, t⟩ fun v S => ∃ k : Nat, v = .int .i64 (k : Int) ∧ (n < 1 → k = 0) ∧ (1 ≤ n → (k : Int) < n) ∧ S = ⟨.arr vr 147 2 [eBy code, .int .i64 ((q + 1 : Nat) : Int)] :: R, t⟩ :=
 pick_ev0 hc hq n hn hn0
theorem of_ev {code : Txt} {q vr t v1 : Nat} {R : List Ob} {l : List Txt} (hc : code.length ≤ 1048576) (hq : q ≤ 1000000) (hl : 1 ≤ l.length) (hl2 : l.length ≤ 1000) : Ev Tryz.prog 220 [.ref 0 vr 0, .loc 1 v1 0 l.length] ⟨.arr vr 147 2 [eBy code, .int .i64 (q : Int)] :: .arr v1 9 1 (l.map .str) :: R, t⟩ fun v S => ∃ s, s ∈ l ∧ v = .str s ∧ S = ⟨.arr vr 147 2 [eBy code, .int .i64 ((q + 1 : Nat) : Int)] :: .arr v1 9 1 (l.map .str) :: R, t⟩ := by
 refine Ev.of ⟨Tryz.func220, by kernel_rfl, rfl, by kernel_rfl⟩ tabOk mixed (by show 2 ≤ Tryz.f220.ntmps; decide) ?_
 refine W.seq_region fun K hK => ?_
 simp (disch := omega) only [↓RU, RV, RH, ↓reduceIte, reduceEqDiff, reduceCtorEq, if_pos, ↓RS, RG, reduceAdd, reduceMul, reduceLeDiff]
 refine hK _ _ ?_;clear hK K
 refine W.seq_region fun K hK => ?_
 simp (disch := omega) only [↓RU, RV, RH, ↓reduceIte, reduceEqDiff, reduceCtorEq, if_pos, List.append_nil, ↓RS, RG, reduceAdd, reduceMul, reduceLeDiff, ty5, tystring]
 refine CallR.ev (pick_ev hc hq (l.length : Int) (by omega) (by omega)) ?_
 rintro _ _ ⟨k, rfl, -, hk, rfl⟩
 have hk2 := hk (by omega)
 obtain ⟨s, hsk, hsm⟩ := get_of (show k < l.length by omega)
 simp (disch := omega) only [↓RU, RV, RH, ↓reduceIte, reduceEqDiff, reduceCtorEq, if_pos, List.append_nil, ↓RS, RG, reduceAdd, reduceMul, reduceLeDiff, ty5, tystring, hsk]
 refine hK _ _ ?_;clear hK K
 refine W.ret ?_
 refine BodyQ.ret rfl ?_
 exact ⟨_, s, hsm, rfl, take_all⟩
theorem l91Empty_pc {nh nw : Nat} (hn : nh ≤ 100) (hm : nw ≤ 100) : PC Tryz.prog 201 [.int .i64 nh, .int .i64 nw] (eStrs (List.replicate nh (List.replicate nw (97 : UInt8)))) true := by
 refine PC.of ⟨Tryz.func201, by kernel_rfl, rfl, by kernel_rfl⟩ tabOk mixed (by show 2 ≤ Tryz.f201.ntmps; decide) ?_
 refine W.seq_region fun K hK => ?_
 simp (disch := omega) only [↓RU, RV, RH, ↓reduceIte, reduceEqDiff, reduceCtorEq, if_pos, ↓RS, RG, reduceAdd, reduceMul, reduceLeDiff]
 refine hK _ _ ?_;clear hK K
 refine W.seq_region fun K hK => ?_
 simp (disch := omega) only [↓RU, RV, RH, ↓reduceIte, reduceEqDiff, reduceCtorEq, if_pos, ↓RS, RG, reduceAdd, reduceMul, reduceLeDiff, ty5, tystring]
 refine hK _ _ ?_;clear hK K
 refine W.seq ?_
 refine W.seq_region fun K hK => ?_
 simp (disch := omega) only [↓RU, RV, RH, ↓reduceIte, reduceEqDiff, reduceCtorEq, if_pos, ↓RS, RG, reduceAdd, reduceMul, reduceLeDiff]
 refine hK _ _ ?_;clear hK K
 refine W.block ?_
 refine W.loop [0, 1, 5, 6] (fun n vs S => ∃ i v0 tk : Nat, n = nh - i ∧ i ≤ nh ∧ vs = [.int .i64 nh, .int .i64 nw, .loc 0 v0 0 i, .int .i64 i] ∧ S = ⟨[.arr v0 9 1 ((List.replicate i (List.replicate nw (97 : UInt8))).map .str)], tk⟩) (nh) ?_ ?_
 ·refine ⟨1, 0, 0, 1, rfl, Nat.zero_le _, ?_, rfl⟩
  simp [Env.put, Env.of, argEnv]
 rintro n vs S - ⟨i, v0, tk, rfl, h_i, rfl, rfl⟩
 refine W.seq ?_
 refine W.seq_region fun K hK => ?_
 simp (disch := omega) only [↓RU, RV, RH, ↓reduceIte, reduceEqDiff, reduceCtorEq, if_pos, w64, ↓RS, RG, reduceAdd, reduceMul, reduceLeDiff, tyint]
 refine hK _ _ ?_;clear hK K
 refine W.cond rfl (fun h => ?_) (fun h => ?_)
 ·try simp only [RL] at h
  refine W.skip ?_
  refine XThen.norm ?_
  refine W.seq ?_
  refine W.block ?_
  refine W.seq_region fun K hK => ?_
  simp (disch := omega) only [↓RU, RV, RH, ↓reduceIte, reduceEqDiff, reduceCtorEq, if_pos, ↓RS, RG, reduceAdd, reduceMul, reduceLeDiff, ty6, ty26]
  refine hK _ _ ?_;clear hK K
  refine W.seq ?_
  refine W.seq_region fun K hK => ?_
  simp (disch := omega) only [↓RU, RV, RH, ↓reduceIte, reduceEqDiff, reduceCtorEq, if_pos, ↓RS, RG, reduceAdd, reduceMul, reduceLeDiff]
  refine hK _ _ ?_;clear hK K
  refine W.block ?_
  refine W.loop [0, 1, 5, 6, 7, 8] (fun n vs S => ∃ k v1 tk : Nat, n = nw - k ∧ k ≤ nw ∧ vs = [.int .i64 nh, .int .i64 nw, .loc 0 v0 0 i, .int .i64 i, .loc 1 v1 0 k, .int .i64 k] ∧ S = ⟨[.arr v0 9 1 ((List.replicate i (List.replicate nw (97 : UInt8))).map .str), .arr v1 5 1 ((List.replicate k (97 : UInt8)).map eB)], tk⟩) (nw) ?_ ?_
  ·refine ⟨2, 0, tk, tk + 1, rfl, Nat.zero_le _, ?_, rfl⟩
   simp [Env.put, Env.of]
  rintro n vs S - ⟨k, v1, tk, rfl, h_k, rfl, rfl⟩
  refine W.seq ?_
  refine W.seq_region fun K hK => ?_
  simp (disch := omega) only [↓RU, RV, RH, ↓reduceIte, reduceEqDiff, reduceCtorEq, if_pos, w64, ↓RS, RG, reduceAdd, reduceMul, reduceLeDiff, tyint]
  refine hK _ _ ?_;clear hK K
  refine W.cond rfl (fun h1 => ?_) (fun h1 => ?_)
  ·try simp only [RL] at h1
   refine W.skip ?_
   refine XThen.norm ?_
   refine W.seq ?_
   refine W.block ?_
   refine W.region_k fun K hK => ?_
   simp (disch := omega) only [↓RU, RV, RH, ↓reduceIte, reduceEqDiff, reduceCtorEq, if_pos, ↓RS, RG, reduceAdd, reduceMul, reduceLeDiff, ty6, ty26, List.length_replicate]
   refine hK _ _ ?_;clear hK K
   refine XBlock.norm ?_
   refine XThen.norm ?_
   refine W.region_k fun K hK => ?_
   simp (disch := omega) only [↓RU, RV, RH, ↓reduceIte, reduceEqDiff, reduceCtorEq, if_pos, w64, ↓RS, RG, reduceAdd, reduceMul, reduceLeDiff, tyint]
   refine hK _ _ ?_;clear hK K
   refine XThen.norm ?_
   refine ⟨nw - (k + 1), by omega, 2, k + 1, tk + 1, tk + 2, rfl, by omega, ?_, ?_⟩
   all_goals simp [Env.put, Env.of, take_eq, tk_le, List.replicate_succ', List.map_append]
  ·try simp only [RL] at h1
   obtain rfl : k = nw := by omega
   have hbo := bytesOf_eB (List.replicate k (97 : UInt8))
   have htk : ((List.replicate k (97 : UInt8)).map eB).take k = (List.replicate k (97 : UInt8)).map eB := List.take_of_length_le (by simp)
   refine W.exit ?_
   refine XThen.exit ?_
   refine XThen.exit ?_
   refine XBlock.hit ?_
   refine XThen.norm ?_
   refine W.region_k fun K hK => ?_
   simp (disch := omega) only [↓RU, RV, RH, ↓reduceIte, reduceEqDiff, reduceCtorEq, if_pos, w64, ↓RS, RG, reduceAdd, reduceMul, reduceLeDiff, ty5, ty6, tystring, ty26, List.length_replicate, htk, hbo]
   refine hK _ _ ?_;clear hK K
   refine XBlock.norm ?_
   refine XThen.norm ?_
   refine W.region_k fun K hK => ?_
   simp (disch := omega) only [↓RU, RV, RH, ↓reduceIte, reduceEqDiff, reduceCtorEq, if_pos, w64, ↓RS, RG, reduceAdd, reduceMul, reduceLeDiff, tyint]
   refine hK _ _ ?_;clear hK K
   refine XThen.norm ?_
   refine ⟨nh - (i + 1), by omega, 1, i + 1, tk + 1, tk + 2, rfl, by omega, ?_, ?_⟩
   all_goals simp [Env.put, Env.of, take_eq, tk_le, List.replicate_succ', List.map_append]
 ·try simp only [RL] at h
  obtain rfl : i = nh := by omega
  refine W.exit ?_
  refine XThen.exit ?_
  refine XThen.exit ?_
  refine XBlock.hit ?_
  refine XThen.norm ?_
  refine W.seq_region fun K hK => ?_
  simp (disch := omega) only [↓RU, RV, RH, ↓reduceIte, reduceEqDiff, reduceCtorEq, if_pos, ↓RS, RG, reduceAdd, reduceMul, reduceLeDiff]
  refine hK _ _ ?_;clear hK K
  refine W.ret ?_
  refine BodyQ.ret rfl ?_
  exact (reify_loc (k := 9) rfl (by simp) (mapM_str _)).trans (by simp)
theorem frz_ref0 {S : Store} {k ver off : Nat} : frz S 1 (k + 1) (.ref 0 ver off) = some (.ref 0 ver off) := by simp [frz]
theorem tk_strs (p : List Txt) : List.take p.length (p.map PV.str) = p.map .str := List.take_of_length_le (by simp)
theorem rfz_tstr {S : Store} {lo k : Nat} (l : List Txt) : (l.map PV.str).mapM (rfz S lo (k + 1)) = some (l.map PV.str) := rfz_map (fun _ => rfl) l
theorem plan_sm {p : List Txt} (h : planB p = true) : Sm p := by
 obtain ⟨h1, -, h3⟩ := plan_small h
 exact ⟨by omega, fun r hr => by have := (h3 r hr).2; omega⟩
theorem plan_rooms9 {p : List Txt} (h : planB p = true) : l1Rooms p ≤ 9 := by
 unfold planB at h; simp only [Bool.and_eq_true, decide_eq_true_eq] at h; omega
theorem hv_len {s : Txt} (h : s ∈ ([[104], [118]] : List Txt)) : s.length ≤ 1048576 := by
 simp only [List.mem_cons, List.not_mem_nil, or_false] at h
 rcases h with rfl | rfl <;> simp
theorem l91Cut_ev {code : Txt} {q vr t : Nat} {R : List Ob} (hc : code.length ≤ 1048576) (hq : q ≤ 900000) {p : List Txt} (hp : planB p = true) {many : Nat} (hm : many ≤ 1000) : Ev Tryz.prog 200 [.ref 0 vr 0, eStrs p, .int .i64 many] ⟨.arr vr 147 2 [eBy code, .int .i64 (q : Int)] :: R, t⟩ fun v S => ∃ (p2 : List Txt) (q2 t2 : Nat), v = eStrs p2 ∧ planB p2 = true ∧ p2.length = p.length ∧ q2 ≤ q + 3 * many ∧ S = ⟨[.arr vr 147 2 [eBy code, .int .i64 (q2 : Int)]], t2⟩ := by
 refine Ev.of ⟨Tryz.func200, by kernel_rfl, rfl, by kernel_rfl⟩ tabOk mixed (by show 3 ≤ Tryz.f200.ntmps; decide) ?_
 refine W.seq_region fun K hK => ?_
 simp (disch := omega) only [↓RU, RV, RH, ↓reduceIte, reduceEqDiff, reduceCtorEq, if_pos, ↓RS, RG, reduceAdd, reduceMul, reduceLeDiff]
 refine hK _ _ ?_;clear hK K
 refine W.seq ?_
 refine W.seq_region fun K hK => ?_
 simp (disch := omega) only [↓RU, RV, RH, ↓reduceIte, reduceEqDiff, reduceCtorEq, if_pos, ↓RS, RG, reduceAdd, reduceMul, reduceLeDiff]
 refine hK _ _ ?_;clear hK K
 refine W.block ?_
 refine W.loopZ [0, 1, 2, 7] (fun n vs S => ∃ (i : Nat) (p2 : List Txt) (q2 tk : Nat), n = many - i ∧ i ≤ many ∧ planB p2 = true ∧ p2.length = p.length ∧ q2 ≤ q + 3 * i ∧ vs = [.ref 0 vr 0, eStrs p2, .int .i64 many, .int .i64 i] ∧ S = ⟨[.arr vr 147 2 [eBy code, .int .i64 (q2 : Int)]], tk⟩) many ?_ ?_
 ·refine ⟨1, [.ref 0 vr 0, eStrs p, .int .i64 many, .int .i64 (0 : Nat)], ⟨[.arr vr 147 2 [eBy code, .int .i64 (q : Int)]], t⟩, ?_, ?_, 0, p, q, t, rfl, by omega, hp, rfl, by omega, rfl, rfl⟩
  ·simp [-List.mapM_map, Store.frz, frzObs, frzOb, frz_eInts, frz_loc, rfz_loc, frz_int, frz_sl, frz_ints, rfz_ints, frz_strs, frz_bytes, rfz_bytes, rfz_str, rfz_bool, frz_str, frz_bool, Env.put, Env.of, argEnv, rfz_int, List.mapM_append, List.mapM_cons, frz_ref0, tk_strs, rfz_tstr]
  ·simp [-List.mapM_map, Store.frz, frzObs, frzOb, frz_eInts, frz_loc, rfz_loc, frz_int, frz_sl, frz_ints, rfz_ints, frz_strs, frz_bytes, rfz_bytes, rfz_str, rfz_bool, frz_str, frz_bool, Env.put, Env.of, argEnv, rfz_int, List.mapM_append, List.mapM_cons, frz_ref0, tk_strs, rfz_tstr]
 rintro n vs S - ⟨i, p2, q2, tk, rfl, h_i, hp2, hl2, hq2, rfl, rfl⟩
 refine W.seq ?_
 refine W.seq_region fun K hK => ?_
 simp (disch := omega) only [↓RU, RV, RH, ↓reduceIte, reduceEqDiff, reduceCtorEq, if_pos, w64, ↓RS, RG, reduceAdd, reduceMul, reduceLeDiff, tyint]
 refine hK _ _ ?_;clear hK K
 refine W.cond rfl (fun h => ?_) (fun h => ?_)
 ·try simp only [RL] at h
  have hs2 := plan_sm hp2
  have hr9 := plan_rooms9 hp2
  have hrb := l1Rooms_bound p2
  refine W.skip ?_
  refine XThen.norm ?_
  refine W.seq ?_
  refine W.block ?_
  refine W.seq_region fun K hK => ?_
  simp (disch := omega) only [↓RU, RV, RH, ↓reduceIte, reduceEqDiff, reduceCtorEq, if_pos, List.append_nil, ↓RS, RG, reduceAdd, reduceMul, reduceLeDiff]
  refine CallR.pc (l1Rooms_pc hs2) rfl (.inl rfl) ?_
  simp (disch := omega) only [↓RU, RV, RH, ↓reduceIte, reduceEqDiff, reduceCtorEq, if_pos, List.append_nil, ↓RS, RG, reduceAdd, reduceMul, reduceLeDiff]
  refine CallR.ev (pick_ev hc (by omega) (l1Rooms p2) (by omega) (by omega)) ?_
  rintro _ _ ⟨k1, rfl, -, -, rfl⟩
  simp (disch := omega) only [↓RU, RV, RH, ↓reduceIte, reduceEqDiff, reduceCtorEq, if_pos, List.append_nil, ↓RS, RG, reduceAdd, reduceMul, reduceLeDiff]
  refine hK _ _ ?_;clear hK K
  refine W.seq_region fun K hK => ?_
  simp (disch := omega) only [↓RU, RV, RH, ↓reduceIte, reduceEqDiff, reduceCtorEq, if_pos, List.append_nil, w64, ↓RS, RG, reduceAdd, reduceMul, reduceLeDiff, ty5, tyint, tystring]
  refine CallR.ev (of_ev (R := []) (l := [[104], [118]]) hc (by omega) (by simp) (by simp)) ?_
  rintro _ _ ⟨s, hsm, rfl, rfl⟩
  have hsl := hv_len hsm
  simp (disch := omega) only [↓RU, RV, RH, ↓reduceIte, reduceEqDiff, reduceCtorEq, if_pos, List.append_nil, w64, ↓RS, RG, reduceAdd, reduceMul, reduceLeDiff, ty5, tyint, tystring]
  refine CallR.ev (pick_ev (q := q2 + 1 + 1) hc (by omega) 3 (by omega) (by omega)) ?_
  rintro _ _ ⟨k2, rfl, -, hk2, rfl⟩
  have hk3 := hk2 (by omega)
  simp (disch := omega) only [↓RU, RV, RH, ↓reduceIte, reduceEqDiff, reduceCtorEq, if_pos, List.append_nil, w64, ↓RS, RG, reduceAdd, reduceMul, reduceLeDiff, ty5, tyint, tystring]
  refine CallR.pc (planSplit_pc hs2 k1 hsl (1 + k2)) rfl (.inr rfl) ?_
  simp (disch := omega) only [↓RU, RV, RH, ↓reduceIte, reduceEqDiff, reduceCtorEq, if_pos, List.append_nil, w64, ↓RS, RG, reduceAdd, reduceMul, reduceLeDiff, ty5, tyint, tystring]
  refine hK _ _ ?_;clear hK K
  refine W.seq_region fun K hK => ?_
  simp (disch := omega) only [↓RU, RV, RH, ↓reduceIte, reduceEqDiff, reduceCtorEq, if_pos, ↓RS, RG, reduceAdd, reduceMul, reduceLeDiff]
  refine hK _ _ ?_;clear hK K
  refine W.cond rfl (fun h1 => ?_) (fun h1 => ?_)
  ·try simp only [RL] at h1
   obtain ⟨ho1, ho2⟩ := splitP_ok h1
   refine W.region_k fun K hK => ?_
   simp (disch := omega) only [↓RU, RV, RH, ↓reduceIte, reduceEqDiff, reduceCtorEq, if_pos, ↓RS, RG, reduceAdd, reduceMul, reduceLeDiff]
   refine hK _ _ ?_;clear hK K
   refine XBlock.norm ?_
   refine XThen.norm ?_
   refine W.region_k fun K hK => ?_
   simp (disch := omega) only [↓RU, RV, RH, ↓reduceIte, reduceEqDiff, reduceCtorEq, if_pos, w64, ↓RS, RG, reduceAdd, reduceMul, reduceLeDiff, tyint]
   refine hK _ _ ?_;clear hK K
   refine XThen.norm ?_
   refine ⟨many - (i + 1), by omega, 1, [.ref 0 vr 0, eStrs (splitP p2 k1 s (1 + k2)).1, .int .i64 many, .int .i64 ((i + 1 : Nat) : Int)], ⟨[.arr vr 147 2 [eBy code, .int .i64 ((q2 + 1 + 1 + 1 : Nat) : Int)]], tk + 1⟩, ?_, ?_, i + 1, (splitP p2 k1 s (1 + k2)).1, q2 + 1 + 1 + 1, tk + 1, rfl, by omega, ho1, ho2.trans hl2, by omega, rfl, rfl⟩
   ·simp [-List.mapM_map, Store.frz, frzObs, frzOb, frz_eInts, frz_loc, rfz_loc, frz_int, frz_sl, frz_ints, rfz_ints, frz_strs, frz_bytes, rfz_bytes, rfz_str, rfz_bool, frz_str, frz_bool, Env.put, Env.of, argEnv, rfz_int, List.mapM_append, List.mapM_cons, frz_ref0, tk_strs, rfz_tstr]
   ·simp [-List.mapM_map, Store.frz, frzObs, frzOb, frz_eInts, frz_loc, rfz_loc, frz_int, frz_sl, frz_ints, rfz_ints, frz_strs, frz_bytes, rfz_bytes, rfz_str, rfz_bool, frz_str, frz_bool, Env.put, Env.of, argEnv, rfz_int, List.mapM_append, List.mapM_cons, frz_ref0, tk_strs, rfz_tstr]
  ·try simp only [RL] at h1
   refine W.skip ?_
   refine XBlock.norm ?_
   refine XThen.norm ?_
   refine W.region_k fun K hK => ?_
   simp (disch := omega) only [↓RU, RV, RH, ↓reduceIte, reduceEqDiff, reduceCtorEq, if_pos, w64, ↓RS, RG, reduceAdd, reduceMul, reduceLeDiff, tyint]
   refine hK _ _ ?_;clear hK K
   refine XThen.norm ?_
   refine ⟨many - (i + 1), by omega, 1, [.ref 0 vr 0, eStrs p2, .int .i64 many, .int .i64 ((i + 1 : Nat) : Int)], ⟨[.arr vr 147 2 [eBy code, .int .i64 ((q2 + 1 + 1 + 1 : Nat) : Int)]], tk + 1⟩, ?_, ?_, i + 1, p2, q2 + 1 + 1 + 1, tk + 1, rfl, by omega, hp2, hl2, by omega, rfl, rfl⟩
   ·simp [-List.mapM_map, Store.frz, frzObs, frzOb, frz_eInts, frz_loc, rfz_loc, frz_int, frz_sl, frz_ints, rfz_ints, frz_strs, frz_bytes, rfz_bytes, rfz_str, rfz_bool, frz_str, frz_bool, Env.put, Env.of, argEnv, rfz_int, List.mapM_append, List.mapM_cons, frz_ref0, tk_strs, rfz_tstr]
   ·simp [-List.mapM_map, Store.frz, frzObs, frzOb, frz_eInts, frz_loc, rfz_loc, frz_int, frz_sl, frz_ints, rfz_ints, frz_strs, frz_bytes, rfz_bytes, rfz_str, rfz_bool, frz_str, frz_bool, Env.put, Env.of, argEnv, rfz_int, List.mapM_append, List.mapM_cons, frz_ref0, tk_strs, rfz_tstr]
 ·try simp only [RL] at h
  obtain rfl : i = many := by omega
  refine W.exit ?_
  refine XThen.exit ?_
  refine XThen.exit ?_
  refine XBlock.hit ?_
  refine XThen.norm ?_
  refine W.seq_region fun K hK => ?_
  simp (disch := omega) only [↓RU, RV, RH, ↓reduceIte, reduceEqDiff, reduceCtorEq, if_pos, ↓RS, RG, reduceAdd, reduceMul, reduceLeDiff]
  refine hK _ _ ?_;clear hK K
  refine W.ret ?_
  refine BodyQ.ret rfl ?_
  exact ⟨_, p2, q2, tk, rfl, hp2, hl2, by omega, take_all⟩
theorem l91Cut_loc {code : Txt} {q vr t v1 : Nat} {R : List Ob} (hc : code.length ≤ 1048576) (hq : q ≤ 900000) {p : List Txt} (hp : planB p = true) {many : Nat} (hm : many ≤ 1000) : Ev Tryz.prog 200 [.ref 0 vr 0, .loc 1 v1 0 p.length, .int .i64 many] ⟨.arr vr 147 2 [eBy code, .int .i64 (q : Int)] :: .arr v1 9 1 (p.map .str) :: R, t⟩ fun v S => ∃ (p2 : List Txt) (q2 t2 : Nat), v = eStrs p2 ∧ planB p2 = true ∧ p2.length = p.length ∧ q2 ≤ q + 3 * many ∧ S = ⟨[.arr vr 147 2 [eBy code, .int .i64 (q2 : Int)]], t2⟩ := by
 refine Ev.of ⟨Tryz.func200, by kernel_rfl, rfl, by kernel_rfl⟩ tabOk mixed (by show 3 ≤ Tryz.f200.ntmps; decide) ?_
 refine W.seq_region fun K hK => ?_
 simp (disch := omega) only [↓RU, RV, RH, ↓reduceIte, reduceEqDiff, reduceCtorEq, if_pos, ↓RS, RG, reduceAdd, reduceMul, reduceLeDiff]
 refine hK _ _ ?_;clear hK K
 refine W.seq ?_
 refine W.seq_region fun K hK => ?_
 simp (disch := omega) only [↓RU, RV, RH, ↓reduceIte, reduceEqDiff, reduceCtorEq, if_pos, ↓RS, RG, reduceAdd, reduceMul, reduceLeDiff]
 refine hK _ _ ?_;clear hK K
 refine W.block ?_
 refine W.loopZ [0, 1, 2, 7] (fun n vs S => ∃ (i : Nat) (p2 : List Txt) (q2 tk : Nat), n = many - i ∧ i ≤ many ∧ planB p2 = true ∧ p2.length = p.length ∧ q2 ≤ q + 3 * i ∧ vs = [.ref 0 vr 0, eStrs p2, .int .i64 many, .int .i64 i] ∧ S = ⟨[.arr vr 147 2 [eBy code, .int .i64 (q2 : Int)]], tk⟩) many ?_ ?_
 ·refine ⟨1, [.ref 0 vr 0, eStrs p, .int .i64 many, .int .i64 (0 : Nat)], ⟨[.arr vr 147 2 [eBy code, .int .i64 (q : Int)]], t⟩, ?_, ?_, 0, p, q, t, rfl, by omega, hp, rfl, by omega, rfl, rfl⟩
  ·simp [-List.mapM_map, Store.frz, frzObs, frzOb, frz_eInts, frz_loc, rfz_loc, frz_int, frz_sl, frz_ints, rfz_ints, frz_strs, frz_bytes, rfz_bytes, rfz_str, rfz_bool, frz_str, frz_bool, Env.put, Env.of, argEnv, rfz_int, List.mapM_append, List.mapM_cons, frz_ref0, tk_strs, rfz_tstr]
  ·simp [-List.mapM_map, Store.frz, frzObs, frzOb, frz_eInts, frz_loc, rfz_loc, frz_int, frz_sl, frz_ints, rfz_ints, frz_strs, frz_bytes, rfz_bytes, rfz_str, rfz_bool, frz_str, frz_bool, Env.put, Env.of, argEnv, rfz_int, List.mapM_append, List.mapM_cons, frz_ref0, tk_strs, rfz_tstr]
 rintro n vs S - ⟨i, p2, q2, tk, rfl, h_i, hp2, hl2, hq2, rfl, rfl⟩
 refine W.seq ?_
 refine W.seq_region fun K hK => ?_
 simp (disch := omega) only [↓RU, RV, RH, ↓reduceIte, reduceEqDiff, reduceCtorEq, if_pos, w64, ↓RS, RG, reduceAdd, reduceMul, reduceLeDiff, tyint]
 refine hK _ _ ?_;clear hK K
 refine W.cond rfl (fun h => ?_) (fun h => ?_)
 ·try simp only [RL] at h
  have hs2 := plan_sm hp2
  have hr9 := plan_rooms9 hp2
  have hrb := l1Rooms_bound p2
  refine W.skip ?_
  refine XThen.norm ?_
  refine W.seq ?_
  refine W.block ?_
  refine W.seq_region fun K hK => ?_
  simp (disch := omega) only [↓RU, RV, RH, ↓reduceIte, reduceEqDiff, reduceCtorEq, if_pos, List.append_nil, ↓RS, RG, reduceAdd, reduceMul, reduceLeDiff]
  refine CallR.pc (l1Rooms_pc hs2) rfl (.inl rfl) ?_
  simp (disch := omega) only [↓RU, RV, RH, ↓reduceIte, reduceEqDiff, reduceCtorEq, if_pos, List.append_nil, ↓RS, RG, reduceAdd, reduceMul, reduceLeDiff]
  refine CallR.ev (pick_ev hc (by omega) (l1Rooms p2) (by omega) (by omega)) ?_
  rintro _ _ ⟨k1, rfl, -, -, rfl⟩
  simp (disch := omega) only [↓RU, RV, RH, ↓reduceIte, reduceEqDiff, reduceCtorEq, if_pos, List.append_nil, ↓RS, RG, reduceAdd, reduceMul, reduceLeDiff]
  refine hK _ _ ?_;clear hK K
  refine W.seq_region fun K hK => ?_
  simp (disch := omega) only [↓RU, RV, RH, ↓reduceIte, reduceEqDiff, reduceCtorEq, if_pos, List.append_nil, w64, ↓RS, RG, reduceAdd, reduceMul, reduceLeDiff, ty5, tyint, tystring]
  refine CallR.ev (of_ev (R := []) (l := [[104], [118]]) hc (by omega) (by simp) (by simp)) ?_
  rintro _ _ ⟨s, hsm, rfl, rfl⟩
  have hsl := hv_len hsm
  simp (disch := omega) only [↓RU, RV, RH, ↓reduceIte, reduceEqDiff, reduceCtorEq, if_pos, List.append_nil, w64, ↓RS, RG, reduceAdd, reduceMul, reduceLeDiff, ty5, tyint, tystring]
  refine CallR.ev (pick_ev (q := q2 + 1 + 1) hc (by omega) 3 (by omega) (by omega)) ?_
  rintro _ _ ⟨k2, rfl, -, hk2, rfl⟩
  have hk3 := hk2 (by omega)
  simp (disch := omega) only [↓RU, RV, RH, ↓reduceIte, reduceEqDiff, reduceCtorEq, if_pos, List.append_nil, w64, ↓RS, RG, reduceAdd, reduceMul, reduceLeDiff, ty5, tyint, tystring]
  refine CallR.pc (planSplit_pc hs2 k1 hsl (1 + k2)) rfl (.inr rfl) ?_
  simp (disch := omega) only [↓RU, RV, RH, ↓reduceIte, reduceEqDiff, reduceCtorEq, if_pos, List.append_nil, w64, ↓RS, RG, reduceAdd, reduceMul, reduceLeDiff, ty5, tyint, tystring]
  refine hK _ _ ?_;clear hK K
  refine W.seq_region fun K hK => ?_
  simp (disch := omega) only [↓RU, RV, RH, ↓reduceIte, reduceEqDiff, reduceCtorEq, if_pos, ↓RS, RG, reduceAdd, reduceMul, reduceLeDiff]
  refine hK _ _ ?_;clear hK K
  refine W.cond rfl (fun h1 => ?_) (fun h1 => ?_)
  ·try simp only [RL] at h1
   obtain ⟨ho1, ho2⟩ := splitP_ok h1
   refine W.region_k fun K hK => ?_
   simp (disch := omega) only [↓RU, RV, RH, ↓reduceIte, reduceEqDiff, reduceCtorEq, if_pos, ↓RS, RG, reduceAdd, reduceMul, reduceLeDiff]
   refine hK _ _ ?_;clear hK K
   refine XBlock.norm ?_
   refine XThen.norm ?_
   refine W.region_k fun K hK => ?_
   simp (disch := omega) only [↓RU, RV, RH, ↓reduceIte, reduceEqDiff, reduceCtorEq, if_pos, w64, ↓RS, RG, reduceAdd, reduceMul, reduceLeDiff, tyint]
   refine hK _ _ ?_;clear hK K
   refine XThen.norm ?_
   refine ⟨many - (i + 1), by omega, 1, [.ref 0 vr 0, eStrs (splitP p2 k1 s (1 + k2)).1, .int .i64 many, .int .i64 ((i + 1 : Nat) : Int)], ⟨[.arr vr 147 2 [eBy code, .int .i64 ((q2 + 1 + 1 + 1 : Nat) : Int)]], tk + 1⟩, ?_, ?_, i + 1, (splitP p2 k1 s (1 + k2)).1, q2 + 1 + 1 + 1, tk + 1, rfl, by omega, ho1, ho2.trans hl2, by omega, rfl, rfl⟩
   ·simp [-List.mapM_map, Store.frz, frzObs, frzOb, frz_eInts, frz_loc, rfz_loc, frz_int, frz_sl, frz_ints, rfz_ints, frz_strs, frz_bytes, rfz_bytes, rfz_str, rfz_bool, frz_str, frz_bool, Env.put, Env.of, argEnv, rfz_int, List.mapM_append, List.mapM_cons, frz_ref0, tk_strs, rfz_tstr]
   ·simp [-List.mapM_map, Store.frz, frzObs, frzOb, frz_eInts, frz_loc, rfz_loc, frz_int, frz_sl, frz_ints, rfz_ints, frz_strs, frz_bytes, rfz_bytes, rfz_str, rfz_bool, frz_str, frz_bool, Env.put, Env.of, argEnv, rfz_int, List.mapM_append, List.mapM_cons, frz_ref0, tk_strs, rfz_tstr]
  ·try simp only [RL] at h1
   refine W.skip ?_
   refine XBlock.norm ?_
   refine XThen.norm ?_
   refine W.region_k fun K hK => ?_
   simp (disch := omega) only [↓RU, RV, RH, ↓reduceIte, reduceEqDiff, reduceCtorEq, if_pos, w64, ↓RS, RG, reduceAdd, reduceMul, reduceLeDiff, tyint]
   refine hK _ _ ?_;clear hK K
   refine XThen.norm ?_
   refine ⟨many - (i + 1), by omega, 1, [.ref 0 vr 0, eStrs p2, .int .i64 many, .int .i64 ((i + 1 : Nat) : Int)], ⟨[.arr vr 147 2 [eBy code, .int .i64 ((q2 + 1 + 1 + 1 : Nat) : Int)]], tk + 1⟩, ?_, ?_, i + 1, p2, q2 + 1 + 1 + 1, tk + 1, rfl, by omega, hp2, hl2, by omega, rfl, rfl⟩
   ·simp [-List.mapM_map, Store.frz, frzObs, frzOb, frz_eInts, frz_loc, rfz_loc, frz_int, frz_sl, frz_ints, rfz_ints, frz_strs, frz_bytes, rfz_bytes, rfz_str, rfz_bool, frz_str, frz_bool, Env.put, Env.of, argEnv, rfz_int, List.mapM_append, List.mapM_cons, frz_ref0, tk_strs, rfz_tstr]
   ·simp [-List.mapM_map, Store.frz, frzObs, frzOb, frz_eInts, frz_loc, rfz_loc, frz_int, frz_sl, frz_ints, rfz_ints, frz_strs, frz_bytes, rfz_bytes, rfz_str, rfz_bool, frz_str, frz_bool, Env.put, Env.of, argEnv, rfz_int, List.mapM_append, List.mapM_cons, frz_ref0, tk_strs, rfz_tstr]
 ·try simp only [RL] at h
  obtain rfl : i = many := by omega
  refine W.exit ?_
  refine XThen.exit ?_
  refine XThen.exit ?_
  refine XBlock.hit ?_
  refine XThen.norm ?_
  refine W.seq_region fun K hK => ?_
  simp (disch := omega) only [↓RU, RV, RH, ↓reduceIte, reduceEqDiff, reduceCtorEq, if_pos, ↓RS, RG, reduceAdd, reduceMul, reduceLeDiff]
  refine hK _ _ ?_;clear hK K
  refine W.ret ?_
  refine BodyQ.ret rfl ?_
  exact ⟨_, p2, q2, tk, rfl, hp2, hl2, by omega, take_all⟩
theorem empty_plan {nh nw : Nat} (h1 : 1 ≤ nh) (h2 : nh ≤ 6) (w1 : 1 ≤ nw) (w2 : nw ≤ 6) : planB (List.replicate nh (List.replicate nw (97 : UInt8))) = true := by
 rcases (show nh = 1 ∨ nh = 2 ∨ nh = 3 ∨ nh = 4 ∨ nh = 5 ∨ nh = 6 by omega) with rfl | rfl | rfl | rfl | rfl | rfl <;>
 rcases (show nw = 1 ∨ nw = 2 ∨ nw = 3 ∨ nw = 4 ∨ nw = 5 ∨ nw = 6 by omega) with rfl | rfl | rfl | rfl | rfl | rfl <;> decide +kernel
def wheel3 : List Txt := [[97, 97, 98], [99, 100, 98], [99, 101, 101]]
def wheel4 : List Txt := [[97, 97, 97, 98], [99, 100, 100, 98], [99, 100, 100, 98], [99, 101, 101, 101]]
theorem wheel3_plan : planB wheel3 = true := by decide +kernel
theorem wheel4_plan : planB wheel4 = true := by decide +kernel
theorem l91Plan_ev {code : Txt} {q vr t : Nat} (hc : code.length ≤ 1048576) (hq : q ≤ 800000) {nh nw : Nat} (h1 : 1 ≤ nh) (h2 : nh ≤ 6) (w1 : 1 ≤ nw) (w2 : nw ≤ 6) : Ev Tryz.prog 175 [.ref 0 vr 0, .int .i64 nh, .int .i64 nw] ⟨[.arr vr 147 2 [eBy code, .int .i64 (q : Int)]], t⟩ fun v S => ∃ (p2 : List Txt) (q2 t2 : Nat), v = eStrs p2 ∧ planB p2 = true ∧ p2.length = nh ∧ q2 ≤ q + 100 ∧ S = ⟨[.arr vr 147 2 [eBy code, .int .i64 (q2 : Int)]], t2⟩ := by
 refine Ev.of ⟨Tryz.func175, by kernel_rfl, rfl, by kernel_rfl⟩ tabOk mixed (by show 3 ≤ Tryz.f175.ntmps; decide) ?_
 refine W.seq_region fun K hK => ?_
 simp (disch := omega) only [↓RU, RV, RH, ↓reduceIte, reduceEqDiff, reduceCtorEq, if_pos, ↓RS, RG, reduceAdd, reduceMul, reduceLeDiff]
 refine hK _ _ ?_;clear hK K
 refine W.seq ?_
 refine W.join [0, 1, 2, 17] (fun vs S => ∃ (q2 : Nat) (b : Bool), q2 ≤ q + 1 ∧ (b = true → nh = 3) ∧ vs = [.ref 0 vr 0, .int .i64 nh, .int .i64 nw, .bool b] ∧ S = ⟨[.arr vr 147 2 [eBy code, .int .i64 (q2 : Int)]], t⟩) ?_ ?_
 ·
  refine W.region_k fun K hK => ?_
  rcases hd : (((nh : Int) == 3), ((nw : Int) == 3)) with ⟨_ | _, _ | _⟩
  ·skip
   simp only [Prod.mk.injEq] at hd
   obtain ⟨hd1, hd2⟩ := hd
   simp (disch := omega) only [↓RU, RV, RH, ↓reduceIte, reduceEqDiff, reduceCtorEq, if_pos, w64, List.append_nil, ↓RS, RG, reduceAdd, reduceMul, reduceLeDiff, tyint, hd1, hd2]
   refine hK _ _ ?_;clear hK K
   refine XThen.norm ?_
   refine ⟨_, q, false, by omega, fun h9 => (by cases h9), ?_, take_all⟩
   simp [Env.put, Env.of, argEnv]
  ·skip
   simp only [Prod.mk.injEq] at hd
   obtain ⟨hd1, hd2⟩ := hd
   simp (disch := omega) only [↓RU, RV, RH, ↓reduceIte, reduceEqDiff, reduceCtorEq, if_pos, w64, List.append_nil, ↓RS, RG, reduceAdd, reduceMul, reduceLeDiff, tyint, hd1, hd2]
   refine hK _ _ ?_;clear hK K
   refine XThen.norm ?_
   refine ⟨_, q, false, by omega, fun h9 => (by cases h9), ?_, take_all⟩
   simp [Env.put, Env.of, argEnv]
  ·skip
   simp only [Prod.mk.injEq] at hd
   obtain ⟨hd1, hd2⟩ := hd
   simp (disch := omega) only [↓RU, RV, RH, ↓reduceIte, reduceEqDiff, reduceCtorEq, if_pos, w64, List.append_nil, ↓RS, RG, reduceAdd, reduceMul, reduceLeDiff, tyint, hd1, hd2]
   refine hK _ _ ?_;clear hK K
   refine XThen.norm ?_
   refine ⟨_, q, false, by omega, fun h9 => (by cases h9), ?_, take_all⟩
   simp [Env.put, Env.of, argEnv]
  ·skip
   simp only [Prod.mk.injEq] at hd
   obtain ⟨hd1, hd2⟩ := hd
   simp (disch := omega) only [↓RU, RV, RH, ↓reduceIte, reduceEqDiff, reduceCtorEq, if_pos, w64, List.append_nil, ↓RS, RG, reduceAdd, reduceMul, reduceLeDiff, tyint, hd1, hd2]
   refine CallR.ev (pick_ev (q := q) hc (by omega) 2 (by omega) (by omega)) ?_
   rintro _ _ ⟨k1, rfl, -, hk1, rfl⟩
   have hk1b := hk1 (by omega)
   simp (disch := omega) only [↓RU, RV, RH, ↓reduceIte, reduceEqDiff, reduceCtorEq, if_pos, w64, List.append_nil, ↓RS, RG, reduceAdd, reduceMul, reduceLeDiff, tyint, hd1, hd2]
   refine hK _ _ ?_;clear hK K
   refine XThen.norm ?_
   refine ⟨_, q + 1, ((k1 : Int) == 0), by omega, fun _ => (by have := beq_iff_eq.1 hd1; omega), ?_, take_all⟩
   simp [Env.put, Env.of, argEnv]
 rintro vs S - ⟨qa, b3, hqa, hb3, rfl, rfl⟩
 refine W.cond rfl (fun h3 => ?_) (fun h3 => ?_)
 ·try simp only [RL] at h3
  refine W.seq_region fun K hK => ?_
  simp (disch := omega) only [↓RU, RV, RH, ↓reduceIte, reduceEqDiff, reduceCtorEq, if_pos, List.append_nil, ↓RS, RG, reduceAdd, reduceMul, reduceLeDiff, ty5, tystring]
  refine CallR.ev (pick_ev (q := qa) hc (by omega) 2 (by omega) (by omega)) ?_
  rintro _ _ ⟨k1, rfl, -, hk1, rfl⟩
  have hk1b := hk1 (by omega)
  simp (disch := omega) only [↓RU, RV, RH, ↓reduceIte, reduceEqDiff, reduceCtorEq, if_pos, List.append_nil, ↓RS, RG, reduceAdd, reduceMul, reduceLeDiff, ty5, tystring]
  refine CallR.ev (l91Cut_loc (q := qa + 1) (R := []) hc (by omega) wheel3_plan (many := k1) (by omega)) ?_
  rintro _ _ ⟨p2, q2, t2, rfl, hp2, hl2, hq2, rfl⟩
  simp (disch := omega) only [↓RU, RV, RH, ↓reduceIte, reduceEqDiff, reduceCtorEq, if_pos, List.append_nil, ↓RS, RG, reduceAdd, reduceMul, reduceLeDiff, ty5, tystring]
  refine hK _ _ ?_;clear hK K
  refine W.ret ?_
  refine XThen.ret ?_
  refine BodyQ.ret rfl ?_
  exact ⟨_, p2, q2, t2, rfl, hp2, hl2.trans (hb3 h3).symm, by omega, take_all⟩
 ·try simp only [RL] at h3
  refine W.skip ?_
  refine XThen.norm ?_
  refine W.seq ?_
  refine W.join [0, 1, 2, 33] (fun vs S => ∃ (q2 : Nat) (b : Bool), q2 ≤ q + 2 ∧ (b = true → nh = 4) ∧ vs = [.ref 0 vr 0, .int .i64 nh, .int .i64 nw, .bool b] ∧ S = ⟨[.arr vr 147 2 [eBy code, .int .i64 (q2 : Int)]], t⟩) ?_ ?_
  ·
   refine W.region_k fun K hK => ?_
   rcases hd : (((nh : Int) == 4), ((nw : Int) == 4)) with ⟨_ | _, _ | _⟩
   ·skip
    simp only [Prod.mk.injEq] at hd
    obtain ⟨hd1, hd2⟩ := hd
    simp (disch := omega) only [↓RU, RV, RH, ↓reduceIte, reduceEqDiff, reduceCtorEq, if_pos, w64, List.append_nil, ↓RS, RG, reduceAdd, reduceMul, reduceLeDiff, tyint, hd1, hd2]
    refine hK _ _ ?_;clear hK K
    refine XThen.norm ?_
    refine ⟨_, qa, false, by omega, fun h9 => (by cases h9), ?_, take_all⟩
    simp [Env.put, Env.of, argEnv]
   ·skip
    simp only [Prod.mk.injEq] at hd
    obtain ⟨hd1, hd2⟩ := hd
    simp (disch := omega) only [↓RU, RV, RH, ↓reduceIte, reduceEqDiff, reduceCtorEq, if_pos, w64, List.append_nil, ↓RS, RG, reduceAdd, reduceMul, reduceLeDiff, tyint, hd1, hd2]
    refine hK _ _ ?_;clear hK K
    refine XThen.norm ?_
    refine ⟨_, qa, false, by omega, fun h9 => (by cases h9), ?_, take_all⟩
    simp [Env.put, Env.of, argEnv]
   ·skip
    simp only [Prod.mk.injEq] at hd
    obtain ⟨hd1, hd2⟩ := hd
    simp (disch := omega) only [↓RU, RV, RH, ↓reduceIte, reduceEqDiff, reduceCtorEq, if_pos, w64, List.append_nil, ↓RS, RG, reduceAdd, reduceMul, reduceLeDiff, tyint, hd1, hd2]
    refine hK _ _ ?_;clear hK K
    refine XThen.norm ?_
    refine ⟨_, qa, false, by omega, fun h9 => (by cases h9), ?_, take_all⟩
    simp [Env.put, Env.of, argEnv]
   ·skip
    simp only [Prod.mk.injEq] at hd
    obtain ⟨hd1, hd2⟩ := hd
    simp (disch := omega) only [↓RU, RV, RH, ↓reduceIte, reduceEqDiff, reduceCtorEq, if_pos, w64, List.append_nil, ↓RS, RG, reduceAdd, reduceMul, reduceLeDiff, tyint, hd1, hd2]
    refine CallR.ev (pick_ev (q := qa) hc (by omega) 2 (by omega) (by omega)) ?_
    rintro _ _ ⟨k1, rfl, -, hk1, rfl⟩
    have hk1b := hk1 (by omega)
    simp (disch := omega) only [↓RU, RV, RH, ↓reduceIte, reduceEqDiff, reduceCtorEq, if_pos, w64, List.append_nil, ↓RS, RG, reduceAdd, reduceMul, reduceLeDiff, tyint, hd1, hd2]
    refine hK _ _ ?_;clear hK K
    refine XThen.norm ?_
    refine ⟨_, qa + 1, ((k1 : Int) == 0), by omega, fun _ => (by have := beq_iff_eq.1 hd1; omega), ?_, take_all⟩
    simp [Env.put, Env.of, argEnv]
  rintro vs S - ⟨qb, b4, hqb, hb4, rfl, rfl⟩
  refine W.cond rfl (fun h4 => ?_) (fun h4 => ?_)
  ·try simp only [RL] at h4
   refine W.seq_region fun K hK => ?_
   simp (disch := omega) only [↓RU, RV, RH, ↓reduceIte, reduceEqDiff, reduceCtorEq, if_pos, List.append_nil, ↓RS, RG, reduceAdd, reduceMul, reduceLeDiff, ty5, tystring]
   refine CallR.ev (pick_ev (q := qb) hc (by omega) 4 (by omega) (by omega)) ?_
   rintro _ _ ⟨k2, rfl, -, hk2, rfl⟩
   have hk2b := hk2 (by omega)
   simp (disch := omega) only [↓RU, RV, RH, ↓reduceIte, reduceEqDiff, reduceCtorEq, if_pos, List.append_nil, ↓RS, RG, reduceAdd, reduceMul, reduceLeDiff, ty5, tystring]
   refine CallR.ev (l91Cut_loc (q := qb + 1) (R := []) hc (by omega) wheel4_plan (many := k2) (by omega)) ?_
   rintro _ _ ⟨p2, q2, t2, rfl, hp2, hl2, hq2, rfl⟩
   simp (disch := omega) only [↓RU, RV, RH, ↓reduceIte, reduceEqDiff, reduceCtorEq, if_pos, List.append_nil, ↓RS, RG, reduceAdd, reduceMul, reduceLeDiff, ty5, tystring]
   refine hK _ _ ?_;clear hK K
   refine W.ret ?_
   refine XThen.ret ?_
   refine BodyQ.ret rfl ?_
   exact ⟨_, p2, q2, t2, rfl, hp2, hl2.trans (hb4 h4).symm, by omega, take_all⟩
  ·try simp only [RL] at h4
   refine W.skip ?_
   refine XThen.norm ?_
   refine W.seq_region fun K hK => ?_
   simp (disch := omega) only [↓RU, RV, RH, ↓reduceIte, reduceEqDiff, reduceCtorEq, if_pos, List.append_nil, ↓RS, RG, reduceAdd, reduceMul, reduceLeDiff]
   refine CallR.pc (l91Empty_pc (nh := nh) (nw := nw) (by omega) (by omega)) rfl (.inl rfl) ?_
   simp (disch := omega) only [↓RU, RV, RH, ↓reduceIte, reduceEqDiff, reduceCtorEq, if_pos, List.append_nil, ↓RS, RG, reduceAdd, reduceMul, reduceLeDiff]
   refine CallR.ev (pick_ev (q := qb) hc (by omega) 9 (by omega) (by omega)) ?_
   rintro _ _ ⟨k3, rfl, -, hk3, rfl⟩
   have hk3b := hk3 (by omega)
   simp (disch := omega) only [↓RU, RV, RH, ↓reduceIte, reduceEqDiff, reduceCtorEq, if_pos, List.append_nil, ↓RS, RG, reduceAdd, reduceMul, reduceLeDiff]
   refine CallR.ev (l91Cut_ev (q := qb + 1) (R := []) hc (by omega) (empty_plan h1 h2 w1 w2) (many := k3) (by omega)) ?_
   rintro _ _ ⟨p2, q2, t2, rfl, hp2, hl2, hq2, rfl⟩
   simp (disch := omega) only [↓RU, RV, RH, ↓reduceIte, reduceEqDiff, reduceCtorEq, if_pos, List.append_nil, ↓RS, RG, reduceAdd, reduceMul, reduceLeDiff]
   refine hK _ _ ?_;clear hK K
   refine W.ret ?_
   refine BodyQ.ret rfl ?_
   exact ⟨_, p2, q2, t2, rfl, hp2, by simpa using hl2, by omega, take_all⟩
theorem sm_set {p : List Txt} (h : Sm p) {i : Nat} {r : Txt} (hr : r.length ≤ 1048576) : Sm (p.set i r) := by
 refine ⟨by rw [List.length_set]; exact h.1, fun x hx => ?_⟩
 rcases List.mem_or_eq_of_mem_set hx with k | rfl
 ·exact h.2 x k
 ·exact hr
theorem set_hd {p : List Txt} {x : Txt} (h : 0 < p.length) : PV.str x :: List.drop 1 (p.map PV.str) = (p.set 0 x).map .str := by cases p with | nil => simp at h | cons a p => simp
theorem one_add {k : Nat} : (1 : Int) + (k : Int) = ((1 + k : Nat) : Int) := by omega
theorem l91Some_ev {code : Txt} {q vr t : Nat} (hc : code.length ≤ 1048576) (hq : q ≤ 700000) {rows cols : Nat} (h1 : 1 ≤ rows) (h2 : rows ≤ 6) (w1 : 1 ≤ cols) (w2 : cols ≤ 6) : Ev Tryz.prog 146 [.ref 0 vr 0, .int .i64 rows, .int .i64 cols] ⟨[.arr vr 147 2 [eBy code, .int .i64 (q : Int)]], t⟩ fun v S => ∃ (p2 : List Txt) (q2 t2 : Nat), v = eStrs p2 ∧ Sm p2 ∧ p2.length ≤ 6 ∧ q2 ≤ q + 200 ∧ S = ⟨[.arr vr 147 2 [eBy code, .int .i64 (q2 : Int)]], t2⟩ := by
 refine Ev.of ⟨Tryz.func146, by kernel_rfl, rfl, by kernel_rfl⟩ tabOk mixed (by show 3 ≤ Tryz.f146.ntmps; decide) ?_
 refine W.seq_region fun K hK => ?_
 simp (disch := omega) only [↓RU, RV, RH, ↓reduceIte, reduceEqDiff, reduceCtorEq, if_pos, ↓RS, RG, reduceAdd, reduceMul, reduceLeDiff]
 refine hK _ _ ?_;clear hK K
 refine W.seq_region fun K hK => ?_
 simp (disch := omega) only [↓RU, RV, RH, ↓reduceIte, reduceEqDiff, reduceCtorEq, if_pos, List.append_nil, w64, ↓RS, RG, reduceAdd, reduceMul, reduceLeDiff, tyint]
 refine CallR.ev (pick_ev hc (by omega) (rows : Int) (by omega) (by omega)) ?_
 rintro _ _ ⟨k1, rfl, -, hk1, rfl⟩
 have hk1b := hk1 (by omega)
 simp (disch := omega) only [↓RU, RV, RH, ↓reduceIte, reduceEqDiff, reduceCtorEq, if_pos, List.append_nil, w64, ↓RS, RG, reduceAdd, reduceMul, reduceLeDiff, tyint, one_add]
 refine hK _ _ ?_;clear hK K
 refine W.seq_region fun K hK => ?_
 simp (disch := omega) only [↓RU, RV, RH, ↓reduceIte, reduceEqDiff, reduceCtorEq, if_pos, List.append_nil, w64, ↓RS, RG, reduceAdd, reduceMul, reduceLeDiff, tyint]
 refine CallR.ev (pick_ev hc (by omega) (cols : Int) (by omega) (by omega)) ?_
 rintro _ _ ⟨k2, rfl, -, hk2, rfl⟩
 have hk2b := hk2 (by omega)
 simp (disch := omega) only [↓RU, RV, RH, ↓reduceIte, reduceEqDiff, reduceCtorEq, if_pos, List.append_nil, w64, ↓RS, RG, reduceAdd, reduceMul, reduceLeDiff, tyint, one_add]
 refine CallR.ev (l91Plan_ev (q := q + 1 + 1) hc (by omega) (nh := 1 + k1) (nw := 1 + k2) (by omega) (by omega) (by omega) (by omega)) ?_
 rintro _ _ ⟨p2, q2, t2, rfl, hp2, hl2, hq2, rfl⟩
 simp (disch := omega) only [↓RU, RV, RH, ↓reduceIte, reduceEqDiff, reduceCtorEq, if_pos, List.append_nil, w64, ↓RS, RG, reduceAdd, reduceMul, reduceLeDiff, tyint]
 refine hK _ _ ?_;clear hK K
 obtain ⟨ps1, ps2, ps3⟩ := plan_small hp2
 have hsm := plan_sm hp2
 obtain ⟨nh, hnh⟩ : ∃ nh : Nat, 1 + k1 = nh := ⟨_, rfl⟩
 simp only [hnh] at hl2 ⊢
 refine W.joinZ [8] (fun vs S => ∃ (p3 : List Txt) (q3 tk : Nat), Sm p3 ∧ p3.length ≤ 6 ∧ q3 ≤ q + 200 ∧ vs = [eStrs p3] ∧ S = ⟨[.arr vr 147 2 [eBy code, .int .i64 (q3 : Int)]], tk⟩) ?_ ?_
 ·
  refine W.seq_region fun K hK => ?_
  simp (disch := omega) only [↓RU, RV, RH, ↓reduceIte, reduceEqDiff, reduceCtorEq, if_pos, List.append_nil, ↓RS, RG, reduceAdd, reduceMul, reduceLeDiff]
  refine CallR.ev (pick_ev hc (by omega) 50 (by omega) (by omega)) ?_
  rintro _ _ ⟨k3, rfl, -, hk3, rfl⟩
  simp (disch := omega) only [↓RU, RV, RH, ↓reduceIte, reduceEqDiff, reduceCtorEq, if_pos, List.append_nil, ↓RS, RG, reduceAdd, reduceMul, reduceLeDiff]
  refine hK _ _ ?_;clear hK K
  refine W.block ?_
  refine W.seq_region fun K hK => ?_
  simp (disch := omega) only [↓RU, RV, RH, ↓reduceIte, reduceEqDiff, reduceCtorEq, if_pos, w64, ↓RS, RG, reduceAdd, reduceMul, reduceLeDiff, tyint]
  refine hK _ _ ?_;clear hK K
  refine W.cond rfl (fun h0 => ?_) (fun h0 => ?_)
  ·try simp only [RL] at h0
   obtain ⟨row, hrow, hrm⟩ := get_of (show nh - 1 < p2.length by omega)
   have hr6 := (ps3 row hrm).2
   refine W.seq_region fun K hK => ?_
   simp (disch := omega) only [↓RU, RV, RH, ↓reduceIte, reduceEqDiff, reduceCtorEq, if_pos, ↓RS, RG, reduceAdd, reduceMul, reduceLeDiff, ty5, tystring]
   refine hK _ _ ?_;clear hK K
   refine W.region_k fun K hK => ?_
   simp (disch := omega) only [↓RU, RV, RH, ↓reduceIte, reduceEqDiff, reduceCtorEq, if_pos, w64, ↓RS, RG, reduceAdd, reduceMul, reduceLeDiff, ty5, tyint, tystring, toNat_pred, hrow, pStr, set_spl, set_str, cells_str, List.length_cons, List.length_nil]
   refine hK _ _ ?_;clear hK K
   refine XBlock.norm ?_
   refine XThen.norm ?_
   have hPs : Sm (p2.set (nh - 1) (row ++ [97])) := sm_set hsm (by simp; omega)
   have hPl : (p2.set (nh - 1) (row ++ [97])).length = p2.length := by simp
   generalize p2.set (nh - 1) (row ++ [97]) = P at hPs hPl ⊢
   have htk : (P.map PV.str).take p2.length = P.map .str := List.take_of_length_le (by simp [hPl])
   refine ⟨1, [eStrs P], ⟨[.arr vr 147 2 [eBy code, .int .i64 ((q2 + 1 : Nat) : Int)]], t2 + 1 + 1⟩, ?_, ?_, P, q2 + 1, t2 + 1 + 1, hPs, by omega, by omega, rfl, rfl⟩
   ·simp [-List.mapM_map, Store.frz, frzObs, frzOb, frz_eInts, frz_loc, rfz_loc, frz_int, frz_sl, frz_ints, rfz_ints, frz_strs, frz_bytes, rfz_bytes, rfz_str, rfz_bool, frz_str, frz_bool, Env.put, Env.of, argEnv, rfz_int, List.mapM_append, List.mapM_cons, frz_ref0, tk_strs, rfz_tstr, htk, hPl]
   ·simp [-List.mapM_map, Store.frz, frzObs, frzOb, frz_eInts, frz_loc, rfz_loc, frz_int, frz_sl, frz_ints, rfz_ints, frz_strs, frz_bytes, rfz_bytes, rfz_str, rfz_bool, frz_str, frz_bool, Env.put, Env.of, argEnv, rfz_int, List.mapM_append, List.mapM_cons, frz_ref0, tk_strs, rfz_tstr]
  ·try simp only [RL] at h0
   refine W.seq_region fun K hK => ?_
   simp (disch := omega) only [↓RU, RV, RH, ↓reduceIte, reduceEqDiff, reduceCtorEq, if_pos, w64, ↓RS, RG, reduceAdd, reduceMul, reduceLeDiff, tyint]
   refine hK _ _ ?_;clear hK K
   refine W.cond rfl (fun h1 => ?_) (fun h1 => ?_)
   ·try simp only [RL] at h1
    obtain ⟨row, hrow, hrm⟩ := get_of (show 0 < p2.length by omega)
    have hr6 := ps3 row hrm
    have hdl : (row.drop 1).length ≤ 6 := by rw [List.length_drop]; omega
    refine W.seq_region fun K hK => ?_
    simp (disch := omega) only [↓RU, RV, RH, ↓reduceIte, reduceEqDiff, reduceCtorEq, if_pos, ↓RS, RG, reduceAdd, reduceMul, reduceLeDiff, ty5, tystring]
    refine hK _ _ ?_;clear hK K
    refine W.region_k fun K hK => ?_
    simp (disch := omega) only [↓RU, RV, RH, ↓reduceIte, reduceEqDiff, reduceCtorEq, if_pos, Option.map_none, w64, ↓RS, RG, reduceAdd, reduceMul, reduceLeDiff, ty5, tystring, hrow, pStr, set_spl, set_str, cells_str, List.length_cons, List.length_nil, Int.toNat_zero, Int.reduceToNat, List.take_length, Nat.zero_mul, Nat.zero_add]
    refine hK _ _ ?_;clear hK K
    rw [set_hd (show 0 < p2.length by omega)]
    refine XBlock.norm ?_
    refine XThen.norm ?_
    have hPs : Sm (p2.set 0 (122 :: row.drop 1)) := sm_set hsm (by simp; omega)
    have hPl : (p2.set 0 (122 :: row.drop 1)).length = p2.length := by simp
    generalize p2.set 0 (122 :: row.drop 1) = P at hPs hPl ⊢
    have htk : (P.map PV.str).take p2.length = P.map .str := List.take_of_length_le (by simp [hPl])
    refine ⟨1, [eStrs P], ⟨[.arr vr 147 2 [eBy code, .int .i64 ((q2 + 1 : Nat) : Int)]], t2 + 1 + 1⟩, ?_, ?_, P, q2 + 1, t2 + 1 + 1, hPs, by omega, by omega, rfl, rfl⟩
    ·simp [-List.mapM_map, Store.frz, frzObs, frzOb, frz_eInts, frz_loc, rfz_loc, frz_int, frz_sl, frz_ints, rfz_ints, frz_strs, frz_bytes, rfz_bytes, rfz_str, rfz_bool, frz_str, frz_bool, Env.put, Env.of, argEnv, rfz_int, List.mapM_append, List.mapM_cons, frz_ref0, tk_strs, rfz_tstr, htk, hPl]
    ·simp [-List.mapM_map, Store.frz, frzObs, frzOb, frz_eInts, frz_loc, rfz_loc, frz_int, frz_sl, frz_ints, rfz_ints, frz_strs, frz_bytes, rfz_bytes, rfz_str, rfz_bool, frz_str, frz_bool, Env.put, Env.of, argEnv, rfz_int, List.mapM_append, List.mapM_cons, frz_ref0, tk_strs, rfz_tstr]
   ·try simp only [RL] at h1
    refine W.skip ?_
    refine XBlock.norm ?_
    refine XThen.norm ?_
    have hPs := hsm
    have hPl : p2.length = p2.length := rfl
    have htk : True := trivial
    refine ⟨1, [eStrs p2], ⟨[.arr vr 147 2 [eBy code, .int .i64 ((q2 + 1 : Nat) : Int)]], t2⟩, ?_, ?_, p2, q2 + 1, t2, hPs, by omega, by omega, rfl, rfl⟩
    ·simp [-List.mapM_map, Store.frz, frzObs, frzOb, frz_eInts, frz_loc, rfz_loc, frz_int, frz_sl, frz_ints, rfz_ints, frz_strs, frz_bytes, rfz_bytes, rfz_str, rfz_bool, frz_str, frz_bool, Env.put, Env.of, argEnv, rfz_int, List.mapM_append, List.mapM_cons, frz_ref0, tk_strs, rfz_tstr, htk, hPl]
    ·simp [-List.mapM_map, Store.frz, frzObs, frzOb, frz_eInts, frz_loc, rfz_loc, frz_int, frz_sl, frz_ints, rfz_ints, frz_strs, frz_bytes, rfz_bytes, rfz_str, rfz_bool, frz_str, frz_bool, Env.put, Env.of, argEnv, rfz_int, List.mapM_append, List.mapM_cons, frz_ref0, tk_strs, rfz_tstr]
 rintro vs S - ⟨p3, q3, tk, hs3, hl3, hq3, rfl, rfl⟩
 refine W.seq_region fun K hK => ?_
 simp (disch := omega) only [↓RU, RV, RH, ↓reduceIte, reduceEqDiff, reduceCtorEq, if_pos, ↓RS, RG, reduceAdd, reduceMul, reduceLeDiff]
 refine hK _ _ ?_;clear hK K
 refine W.ret ?_
 refine BodyQ.ret rfl ?_
 exact ⟨_, p3, q3, tk, rfl, hs3, hl3, hq3, take_all⟩
theorem l91Plain_ev {code : Txt} {q vr t : Nat} (hc : code.length ≤ 1048576) (hq : q ≤ 600000) {rows cols : Nat} (h1 : 1 ≤ rows) (h2 : rows ≤ 6) (w1 : 1 ≤ cols) (w2 : cols ≤ 6) : Ev Tryz.prog 96 [.ref 0 vr 0, .int .i64 rows, .int .i64 cols] ⟨[.arr vr 147 2 [eBy code, .int .i64 (q : Int)]], t⟩ fun v S => ∃ (p2 : List Txt) (q2 t2 : Nat), v = eStrs p2 ∧ Sm p2 ∧ p2.length ≤ 6 ∧ q2 ≤ q + 1000 ∧ S = ⟨[.arr vr 147 2 [eBy code, .int .i64 (q2 : Int)]], t2⟩ := by
 refine Ev.of ⟨Tryz.func96, by kernel_rfl, rfl, by kernel_rfl⟩ tabOk mixed (by show 3 ≤ Tryz.f96.ntmps; decide) ?_
 refine W.seq_region fun K hK => ?_
 simp (disch := omega) only [↓RU, RV, RH, ↓reduceIte, reduceEqDiff, reduceCtorEq, if_pos, ↓RS, RG, reduceAdd, reduceMul, reduceLeDiff]
 refine hK _ _ ?_;clear hK K
 refine W.seq_region fun K hK => ?_
 simp (disch := omega) only [↓RU, RV, RH, ↓reduceIte, reduceEqDiff, reduceCtorEq, if_pos, List.append_nil, ↓RS, RG, reduceAdd, reduceMul, reduceLeDiff]
 refine CallR.ev (l91Some_ev (q := q) hc (by omega) h1 h2 w1 w2) ?_
 rintro _ _ ⟨p3, q3, t3, rfl, hs3, hl3, hq3, rfl⟩
 simp (disch := omega) only [↓RU, RV, RH, ↓reduceIte, reduceEqDiff, reduceCtorEq, if_pos, List.append_nil, ↓RS, RG, reduceAdd, reduceMul, reduceLeDiff]
 refine hK _ _ ?_;clear hK K
 refine W.seq ?_
 refine W.seq_region fun K hK => ?_
 simp (disch := omega) only [↓RU, RV, RH, ↓reduceIte, reduceEqDiff, reduceCtorEq, if_pos, ↓RS, RG, reduceAdd, reduceMul, reduceLeDiff]
 refine hK _ _ ?_;clear hK K
 refine W.block ?_
 refine W.loop [0, 1, 2, 7, 8] (fun n vs S => ∃ (i : Nat) (p2 : List Txt) (q2 tk : Nat), n = 3 - i ∧ i ≤ 3 ∧ Sm p2 ∧ p2.length ≤ 6 ∧ q2 ≤ q + 200 + 200 * i ∧ vs = [.ref 0 vr 0, .int .i64 rows, .int .i64 cols, eStrs p2, .int .i64 i] ∧ S = ⟨[.arr vr 147 2 [eBy code, .int .i64 (q2 : Int)]], tk⟩) 3 ?_ ?_
 ·refine ⟨1, 0, p3, q3, t3, rfl, by omega, hs3, hl3, by omega, ?_, rfl⟩
  simp [Env.put, Env.of, argEnv]
 rintro n vs S - ⟨i, p2, q2, tk, rfl, h_i, hs2, hl2, hq2, rfl, rfl⟩
 refine W.seq ?_
 refine W.seq_region fun K hK => ?_
 by_cases hi3 : i < 3
 ·skip
  have hd : decide ((i : Int) < 3) = true := decide_eq_true (by omega)
  simp (disch := omega) only [↓RU, RV, RH, ↓reduceIte, reduceEqDiff, reduceCtorEq, if_pos, w64, List.append_nil, ↓RS, RG, reduceAdd, reduceMul, reduceLeDiff, tyint, hd]
  refine CallR.pc (sWallPlain_pc hs2) rfl (.inl rfl) ?_
  simp (disch := omega) only [↓RU, RV, RH, ↓reduceIte, reduceEqDiff, reduceCtorEq, if_pos, w64, List.append_nil, ↓RS, RG, reduceAdd, reduceMul, reduceLeDiff, tyint, hd]
  refine hK _ _ ?_;clear hK K
  refine W.cond rfl (fun h => ?_) (fun h => ?_)
  ·try simp only [RL] at h
   refine W.skip ?_
   refine XThen.norm ?_
   refine W.seq ?_
   refine W.block ?_
   refine W.region_k fun K hK => ?_
   simp (disch := omega) only [↓RU, RV, RH, ↓reduceIte, reduceEqDiff, reduceCtorEq, if_pos, List.append_nil, ↓RS, RG, reduceAdd, reduceMul, reduceLeDiff]
   refine CallR.ev (l91Some_ev (q := q2) hc (by omega) h1 h2 w1 w2) ?_
   rintro _ _ ⟨p3, q3, t3, rfl, hs3, hl3, hq3, rfl⟩
   simp (disch := omega) only [↓RU, RV, RH, ↓reduceIte, reduceEqDiff, reduceCtorEq, if_pos, List.append_nil, ↓RS, RG, reduceAdd, reduceMul, reduceLeDiff]
   refine hK _ _ ?_;clear hK K
   refine XBlock.norm ?_
   refine XThen.norm ?_
   refine W.region_k fun K hK => ?_
   simp (disch := omega) only [↓RU, RV, RH, ↓reduceIte, reduceEqDiff, reduceCtorEq, if_pos, w64, ↓RS, RG, reduceAdd, reduceMul, reduceLeDiff, tyint]
   refine hK _ _ ?_;clear hK K
   refine XThen.norm ?_
   refine ⟨3 - (i + 1), by omega, 1, i + 1, p3, q3, t3, rfl, by omega, hs3, hl3, by omega, ?_, rfl⟩
   simp [Env.put, Env.of]
  ·try simp only [RL] at h
   refine W.exit ?_
   refine XThen.exit ?_
   refine XThen.exit ?_
   refine XBlock.hit ?_
   refine XThen.norm ?_
   refine W.seq_region fun K hK => ?_
   simp (disch := omega) only [↓RU, RV, RH, ↓reduceIte, reduceEqDiff, reduceCtorEq, if_pos, ↓RS, RG, reduceAdd, reduceMul, reduceLeDiff]
   refine hK _ _ ?_;clear hK K
   refine W.ret ?_
   refine BodyQ.ret rfl ?_
   exact ⟨_, p2, q2, tk, rfl, hs2, hl2, by omega, take_all⟩
 ·skip
  have hd : decide ((i : Int) < 3) = false := decide_eq_false (by omega)
  simp (disch := omega) only [↓RU, RV, RH, ↓reduceIte, reduceEqDiff, reduceCtorEq, if_pos, w64, List.append_nil, ↓RS, RG, reduceAdd, reduceMul, reduceLeDiff, tyint, hd]
  refine hK _ _ ?_;clear hK K
  refine W.cond rfl (fun h => ?_) (fun h => ?_)
  ·try simp only [RL] at h
   exact absurd h (by simp)
  ·try simp only [RL] at h
   refine W.exit ?_
   refine XThen.exit ?_
   refine XThen.exit ?_
   refine XBlock.hit ?_
   refine XThen.norm ?_
   refine W.seq_region fun K hK => ?_
   simp (disch := omega) only [↓RU, RV, RH, ↓reduceIte, reduceEqDiff, reduceCtorEq, if_pos, ↓RS, RG, reduceAdd, reduceMul, reduceLeDiff]
   refine hK _ _ ?_;clear hK K
   refine W.ret ?_
   refine BodyQ.ret rfl ?_
   exact ⟨_, p2, q2, tk, rfl, hs2, hl2, by omega, take_all⟩
theorem tdiv39 {k : Nat} : ((k : Nat) : Int).tdiv 39 = ((k / 39 : Nat) : Int) := (Int.ofNat_tdiv k 39).symm
theorem tdiv59 {k : Nat} : ((k : Nat) : Int).tdiv 59 = ((k / 59 : Nat) : Int) := (Int.ofNat_tdiv k 59).symm
theorem tw39 : ((39 : Int) = 0) = False := by simp
theorem tw59 : ((59 : Int) = 0) = False := by simp
theorem tk_ints {l : List Int} {q : IntKind} : (l.map (PV.int q)).take l.length = l.map (.int q) := List.take_of_length_le (by simp)
theorem tk_i {l : List Int} {q : IntKind} {i : Nat} (h : l.length = i) : (l.map (PV.int q)).take i = l.map (.int q) := List.take_of_length_le (by simp [h])
theorem l92Needs_ev {code : Txt} {q vr t : Nat} (hc : code.length ≤ 1048576) (hq : q ≤ 700000) {p : List Txt} (hs : Sm p) : Ev Tryz.prog 107 [.ref 0 vr 0, eStrs p] ⟨[.arr vr 147 2 [eBy code, .int .i64 (q : Int)]], t⟩ fun v S => ∃ (l : List Int) (q2 t2 v1 : Nat), v = .loc 1 v1 0 l.length ∧ l.length ≤ 400 ∧ q2 ≤ q + 1000 ∧ S = ⟨[.arr vr 147 2 [eBy code, .int .i64 (q2 : Int)], .arr v1 3 1 (l.map (.int .i64))], t2⟩ := by
 have hrb := l1Rooms_bound p
 refine Ev.of ⟨Tryz.func107, by kernel_rfl, rfl, by kernel_rfl⟩ tabOk mixed (by show 2 ≤ Tryz.f107.ntmps; decide) ?_
 refine W.seq_region fun K hK => ?_
 simp (disch := omega) only [↓RU, RV, RH, ↓reduceIte, reduceEqDiff, reduceCtorEq, if_pos, ↓RS, RG, reduceAdd, reduceMul, reduceLeDiff]
 refine hK _ _ ?_;clear hK K
 refine W.seq_region fun K hK => ?_
 simp (disch := omega) only [↓RU, RV, RH, ↓reduceIte, reduceEqDiff, reduceCtorEq, if_pos, ↓RS, RG, reduceAdd, reduceMul, reduceLeDiff, tyLint, tyint]
 refine hK _ _ ?_;clear hK K
 refine W.seq_region fun K hK => ?_
 simp (disch := omega) only [↓RU, RV, RH, ↓reduceIte, reduceEqDiff, reduceCtorEq, if_pos, List.append_nil, w64, ↓RS, RG, reduceAdd, reduceMul, reduceLeDiff, tyint]
 refine CallR.pc (l1Rooms_pc hs) rfl (.inl rfl) ?_
 simp (disch := omega) only [↓RU, RV, RH, ↓reduceIte, reduceEqDiff, reduceCtorEq, if_pos, List.append_nil, w64, ↓RS, RG, reduceAdd, reduceMul, reduceLeDiff, tyint]
 refine CallR.ev (pick_ev (q := q) hc (by omega) 40 (by omega) (by omega)) ?_
 rintro _ _ ⟨k0, rfl, hk0z, hk0, rfl⟩
 have hk0b := hk0 (by omega)
 simp (disch := omega) only [↓RU, RV, RH, ↓reduceIte, reduceEqDiff, reduceCtorEq, if_pos, List.append_nil, w64, ↓RS, RG, reduceAdd, reduceMul, reduceLeDiff, tyint, tdiv39, tw39, tdiv59, tw59]
 refine hK _ _ ?_;clear hK K
 obtain ⟨N, hN⟩ : ∃ N : Nat, l1Rooms p + ((k0 / 39 : Nat) : Int) = N := ⟨(l1Rooms p + ((k0 / 39 : Nat) : Int)).toNat, by omega⟩
 have hN2 : N ≤ 300 := by omega
 simp only [hN]
 refine W.seq ?_
 refine W.seq_region fun K hK => ?_
 simp (disch := omega) only [↓RU, RV, RH, ↓reduceIte, reduceEqDiff, reduceCtorEq, if_pos, ↓RS, RG, reduceAdd, reduceMul, reduceLeDiff]
 refine hK _ _ ?_;clear hK K
 refine W.block ?_
 refine W.loop [0, 1, 5, 6, 7] (fun n vs S => ∃ (i q2 v1 t2 : Nat) (l : List Int), n = N - i ∧ i ≤ N ∧ l.length = i ∧ q2 ≤ q + 1 + 2 * i ∧ vs = [.ref 0 vr 0, eStrs p, .loc 1 v1 0 i, .int .i64 N, .int .i64 i] ∧ S = ⟨[.arr vr 147 2 [eBy code, .int .i64 (q2 : Int)], .arr v1 3 1 (l.map (.int .i64))], t2⟩) N ?_ ?_
 ·refine ⟨2, 0, q + 1, t, t + 1, [], rfl, by omega, rfl, by omega, ?_, rfl⟩
  simp [Env.put, Env.of, argEnv]
 rintro n vs S - ⟨i, q2, v1, t2, l, rfl, h_i, hll, hq2, rfl, rfl⟩
 refine W.seq ?_
 refine W.seq_region fun K hK => ?_
 simp (disch := omega) only [↓RU, RV, RH, ↓reduceIte, reduceEqDiff, reduceCtorEq, if_pos, w64, ↓RS, RG, reduceAdd, reduceMul, reduceLeDiff, tyint]
 refine hK _ _ ?_;clear hK K
 refine W.cond rfl (fun h => ?_) (fun h => ?_)
 ·try simp only [RL] at h
  refine W.skip ?_
  refine XThen.norm ?_
  refine W.seq ?_
  refine W.block ?_
  refine W.region_k fun K hK => ?_
  simp (disch := omega) only [↓RU, RV, RH, ↓reduceIte, reduceEqDiff, reduceCtorEq, if_pos, List.append_nil, w64, ↓RS, RG, reduceAdd, reduceMul, reduceLeDiff, tyLint, tyint, tk_i hll]
  refine CallR.ev (pick_ev (q := q2) hc (by omega) 6 (by omega) (by omega)) ?_
  rintro _ _ ⟨k1, rfl, hk1z, hk1, rfl⟩
  have hk1b := hk1 (by omega)
  simp (disch := omega) only [↓RU, RV, RH, ↓reduceIte, reduceEqDiff, reduceCtorEq, if_pos, List.append_nil, w64, ↓RS, RG, reduceAdd, reduceMul, reduceLeDiff, tyLint, tyint, tk_i hll, tdiv39, tw39, tdiv59, tw59]
  refine CallR.ev (pick_ev (q := q2 + 1) hc (by omega) 60 (by omega) (by omega)) ?_
  rintro _ _ ⟨k2, rfl, hk2z, hk2, rfl⟩
  have hk2b := hk2 (by omega)
  simp (disch := omega) only [↓RU, RV, RH, ↓reduceIte, reduceEqDiff, reduceCtorEq, if_pos, List.append_nil, w64, ↓RS, RG, reduceAdd, reduceMul, reduceLeDiff, tyLint, tyint, tk_i hll, tdiv39, tw39, tdiv59, tw59]
  refine hK _ _ ?_;clear hK K
  refine XBlock.norm ?_
  refine XThen.norm ?_
  refine W.region_k fun K hK => ?_
  simp (disch := omega) only [↓RU, RV, RH, ↓reduceIte, reduceEqDiff, reduceCtorEq, if_pos, w64, ↓RS, RG, reduceAdd, reduceMul, reduceLeDiff, tyint]
  refine hK _ _ ?_;clear hK K
  refine XThen.norm ?_
  refine ⟨N - (i + 1), by omega, 2, i + 1, q2 + 1 + 1, t2 + 1, t2 + 2, l ++ [1 + (k1 : Int) + ((k2 / 59 : Nat) : Int) * 9], rfl, by omega, by simp [hll], by omega, ?_, ?_⟩
  all_goals simp [Env.put, Env.of, take_eq, tk_le, hll, tk_i hll]
 ·try simp only [RL] at h
  obtain rfl : i = N := by omega
  refine W.exit ?_
  refine XThen.exit ?_
  refine XThen.exit ?_
  refine XBlock.hit ?_
  refine XThen.norm ?_
  refine W.seq_region fun K hK => ?_
  simp (disch := omega) only [↓RU, RV, RH, ↓reduceIte, reduceEqDiff, reduceCtorEq, if_pos, ↓RS, RG, reduceAdd, reduceMul, reduceLeDiff]
  refine hK _ _ ?_;clear hK K
  refine W.ret ?_
  refine BodyQ.ret rfl ?_
  exact ⟨_, l, q2, t2, v1, by rw [hll]; rfl, by omega, by omega, take_all⟩
theorem l92Sized_ev {code : Txt} (hc : code.length ≤ 1048576) : Ev Tryz.prog 54 [eBy code] ⟨[], 0⟩ fun v S => ∃ (p : List Txt) (ws : List Int) (t : Nat), Sm p ∧ ws.length ≤ 400 ∧ v = .tup [eStrs p, eInts ws] ∧ S = ⟨[], t⟩ := by
 refine Ev.of ⟨Tryz.func54, by kernel_rfl, rfl, by kernel_rfl⟩ tabOk mixed (by show 1 ≤ Tryz.f54.ntmps; decide) ?_
 refine W.seq_region fun K hK => ?_
 simp (disch := omega) only [↓RU, RV, RH, ↓reduceIte, reduceEqDiff, reduceCtorEq, if_pos, ↓RS, RG, reduceAdd, reduceMul, reduceLeDiff]
 refine hK _ _ ?_;clear hK K
 refine W.seq_region fun K hK => ?_
 simp (disch := omega) only [↓RU, RV, RH, ↓reduceIte, reduceEqDiff, reduceCtorEq, if_pos, List.append_nil, ↓RS, RG, reduceAdd, reduceMul, reduceLeDiff, rdO]
 refine CallR.pn (l6Open_pn hc) rfl (.inr rfl) ?_
 simp (disch := omega) only [↓RU, RV, RH, ↓reduceIte, reduceEqDiff, reduceCtorEq, if_pos, List.append_nil, ↓RS, RG, reduceAdd, reduceMul, reduceLeDiff, rdO, rdO, RN]
 refine hK _ _ ?_;clear hK K
 refine W.seq_region fun K hK => ?_
 have hc2 : (code.take 2000).length ≤ 1048576 := by rw [List.length_take]; omega
 generalize code.take 2000 = code2 at hc2 ⊢
 simp (disch := omega) only [↓RU, RV, RH, ↓reduceIte, reduceEqDiff, reduceCtorEq, if_pos, List.append_nil, ↓RS, RG, reduceAdd, reduceMul, reduceLeDiff]
 refine CallR.ev (l91Plain_ev (q := 0) (code := code2) hc2 (by omega) (rows := 5) (cols := 5) (by omega) (by omega) (by omega) (by omega)) ?_
 rintro _ _ ⟨p, q, t, rfl, hs, hl, hq, rfl⟩
 simp (disch := omega) only [↓RU, RV, RH, ↓reduceIte, reduceEqDiff, reduceCtorEq, if_pos, List.append_nil, ↓RS, RG, reduceAdd, reduceMul, reduceLeDiff]
 refine hK _ _ ?_;clear hK K
 refine W.joinZ [2, 3] (fun vs S => ∃ (ws : List Int) (tk : Nat), ws.length ≤ 400 ∧ vs = [eStrs p, eInts ws] ∧ S = ⟨[], tk⟩) ?_ ?_
 ·
  refine W.region_k fun K hK => ?_
  simp (disch := omega) only [↓RU, RV, RH, ↓reduceIte, reduceEqDiff, reduceCtorEq, if_pos, List.append_nil, ↓RS, RG, reduceAdd, reduceMul, reduceLeDiff]
  refine CallR.ev (l92Needs_ev (q := q) hc2 (by omega) hs) ?_
  rintro _ _ ⟨ws, q2, t2, v1, rfl, hwsl, hq2, rfl⟩
  simp (disch := omega) only [↓RU, RV, RH, ↓reduceIte, reduceEqDiff, reduceCtorEq, if_pos, List.append_nil, ↓RS, RG, reduceAdd, reduceMul, reduceLeDiff]
  refine hK _ _ ?_;clear hK K
  refine XThen.norm ?_
  refine ⟨0, [eStrs p, eInts ws], ⟨[], t2⟩, ?_, ?_, ws, t2, hwsl, rfl, rfl⟩
  ·simp [-List.mapM_map, Store.frz, frzObs, frzOb, frz_eInts, frz_loc, rfz_loc, frz_int, frz_sl, frz_ints, rfz_ints, frz_strs, frz_bytes, rfz_bytes, rfz_str, rfz_bool, frz_str, frz_bool, Env.put, Env.of, argEnv, rfz_int, List.mapM_append, List.mapM_cons, frz_ref0, tk_strs, rfz_tstr, tk_ints, ← frz_eInts]
  ·simp [-List.mapM_map, Store.frz, frzObs, frzOb, frz_eInts, frz_loc, rfz_loc, frz_int, frz_sl, frz_ints, rfz_ints, frz_strs, frz_bytes, rfz_bytes, rfz_str, rfz_bool, frz_str, frz_bool, Env.put, Env.of, argEnv, rfz_int, List.mapM_append, List.mapM_cons, frz_ref0, tk_strs, rfz_tstr, tk_ints]
 rintro vs S - ⟨ws, tk, hwsl, rfl, rfl⟩
 refine W.ret ?_
 refine BodyQ.ret rfl ?_
 exact ⟨0, p, ws, tk, hs, hwsl, rfl, rfl⟩
theorem drawSizeHigh_ev {code : Txt} (hc : code.length ≤ 1048576) : Ev Tryz.prog 13 [eBy code] ⟨[], 0⟩ fun v S => ∃ (p : List Txt) (ws : List Int) (t : Nat), Sm p ∧ ws.length ≤ 400 ∧ v = .tup [eStrs p, eInts ws] ∧ S = ⟨[], t⟩ := by
 refine Ev.of ⟨Tryz.func13, by kernel_rfl, rfl, by kernel_rfl⟩ tabOk mixed (by show 1 ≤ Tryz.f13.ntmps; decide) ?_
 refine W.seq_region fun K hK => ?_
 simp (disch := omega) only [↓RU, RV, RH, ↓reduceIte, reduceEqDiff, reduceCtorEq, if_pos, ↓RS, RG, reduceAdd, reduceMul, reduceLeDiff]
 refine hK _ _ ?_;clear hK K
 refine W.seq_region fun K hK => ?_
 simp (disch := omega) only [↓RU, RV, RH, ↓reduceIte, reduceEqDiff, reduceCtorEq, if_pos, List.append_nil, ↓RS, RG, reduceAdd, reduceMul, reduceLeDiff]
 refine CallR.ev (l92Sized_ev hc) ?_
 rintro _ _ ⟨p, ws, t, hs, hwsl, rfl, rfl⟩
 simp (disch := omega) only [↓RU, RV, RH, ↓reduceIte, reduceEqDiff, reduceCtorEq, if_pos, List.append_nil, ↓RS, RG, reduceAdd, reduceMul, reduceLeDiff]
 refine hK _ _ ?_;clear hK K
 refine W.ret ?_
 refine BodyQ.ret rfl ?_
 exact ⟨0, p, ws, _, hs, hwsl, rfl, rfl⟩
theorem needing_ev {p : List Txt} (hs : Sm p) {wss : List (List Int)} (hn : wss.length ≤ 1000) (hw : ∀ ws ∈ wss, ws.length ≤ 1048576) {wv t : Nat} : Ev Tryz.prog 55 [eStrs p, .loc 0 wv 0 wss.length] ⟨[.arr wv 24 1 (wss.map eInts)], t⟩ fun v S => ∃ x, v = .tup [x, .bool (needV p wss)] ∧ ((needV p wss) = true → x = eFloor (gP p) (rP p)) ∧ S = ⟨[.arr wv 24 1 (wss.map eInts)], t⟩ := by
 obtain ⟨x, hx, hxy, hxr⟩ := plainOf_ex hs
 refine Ev.of ⟨Tryz.func55, by kernel_rfl, rfl, by kernel_rfl⟩ tabOk mixed (by show 2 ≤ Tryz.f55.ntmps; decide) ?_
 refine W.seq_region fun K hK => ?_
 simp (disch := omega) only [↓RU, RV, RH, ↓reduceIte, reduceEqDiff, reduceCtorEq, if_pos, ↓RS, RG, reduceAdd, reduceMul, reduceLeDiff]
 refine hK _ _ ?_;clear hK K
 refine W.seq_region fun K hK => ?_
 simp (disch := omega) only [↓RU, RV, RH, ↓reduceIte, reduceEqDiff, reduceCtorEq, if_pos, List.append_nil, ↓RS, RG, reduceAdd, reduceMul, reduceLeDiff]
 refine CallR.pc (hx) rfl (.inr rfl) ?_
 simp (disch := omega) only [↓RU, RV, RH, ↓reduceIte, reduceEqDiff, reduceCtorEq, if_pos, List.append_nil, ↓RS, RG, reduceAdd, reduceMul, reduceLeDiff]
 refine hK _ _ ?_;clear hK K
 refine W.seq ?_
 refine W.seq_region fun K hK => ?_
 simp (disch := omega) only [↓RU, RV, RH, ↓reduceIte, reduceEqDiff, reduceCtorEq, if_pos, ↓RS, RG, reduceAdd, reduceMul, reduceLeDiff]
 refine hK _ _ ?_;clear hK K
 refine W.cond rfl (fun h => ?_) (fun h => ?_)
 ·try simp only [RL] at h
  refine W.seq_region fun K hK => ?_
  simp (disch := omega) only [↓RU, RV, RH, ↓reduceIte, reduceEqDiff, reduceCtorEq, if_pos, ↓RS, RG, reduceAdd, reduceMul, reduceLeDiff]
  refine hK _ _ ?_;clear hK K
  refine W.ret ?_
  refine XThen.ret ?_
  refine BodyQ.ret rfl ?_
  exact ⟨_, _, by rw [needV, h]; rfl, fun h9 => absurd h9 (by unfold needV; rw [h]; exact Bool.false_ne_true), take_all⟩
 ·try simp only [RL] at h
  obtain rfl := hxy h
  refine W.skip ?_
  refine XThen.norm ?_
  refine W.seq_region fun K hK => ?_
  simp (disch := omega) only [↓RU, RV, RH, ↓reduceIte, reduceEqDiff, reduceCtorEq, if_pos, ↓RS, RG, reduceAdd, reduceMul, reduceLeDiff]
  refine hK _ _ ?_;clear hK K
  refine W.seq ?_
  refine W.seq_region fun K hK => ?_
  simp (disch := omega) only [↓RU, RV, RH, ↓reduceIte, reduceEqDiff, reduceCtorEq, if_pos, ↓RS, RG, reduceAdd, reduceMul, reduceLeDiff, ty1, tyLint, tyint, cells_fn, ic_fn]
  refine hK _ _ ?_;clear hK K
  refine W.block ?_
  refine W.loop [6, 8, 18, 19, 20] (fun n vs S => ∃ i : Nat, n = wss.length - i ∧ i ≤ wss.length ∧ ((wss.take i).all (needW p) = true) ∧ vs = [eFloor (gP p) (rP p), .fn 109 [], .loc 0 wv 0 wss.length, .int .i64 wss.length, .int .i64 i] ∧ S = ⟨[.arr wv 24 1 (wss.map eInts)], t⟩) (wss.length) ?_ ?_
  ·refine ⟨1, 0, rfl, Nat.zero_le _, rfl, ?_, rfl⟩
   simp [Env.put, Env.of, argEnv]
  rintro n vs S - ⟨i, rfl, h_i, hall, rfl, rfl⟩
  refine W.seq_region fun K hK => ?_
  simp (disch := omega) only [↓RU, RV, RH, ↓reduceIte, reduceEqDiff, reduceCtorEq, if_pos, w64, ↓RS, RG, reduceAdd, reduceMul, reduceLeDiff, tyint]
  refine hK _ _ ?_;clear hK K
  refine W.seq ?_
  refine W.cond rfl (fun h1 => ?_) (fun h1 => ?_)
  ·try simp only [RL] at h1
   obtain ⟨ws, hws, hwm⟩ := get_of (show i < wss.length by omega)
   have hwl := hw ws hwm
   obtain ⟨hokp, -⟩ := plain_okB h
   have hrp : (rP p).length ≤ 1000 := by have := okB_rooms hokp; omega
   refine W.skip ?_
   refine XThen.norm ?_
   refine W.seq ?_
   refine W.block ?_
   refine W.seq_region fun K hK => ?_
   simp (disch := omega) only [↓RU, RV, RH, ↓reduceIte, reduceEqDiff, reduceCtorEq, if_pos, ↓RS, RG, reduceAdd, reduceMul, reduceLeDiff, ty1, tyLint, tyint, hws]
   refine hK _ _ ?_;clear hK K
   refine W.seq_region fun K hK => ?_
   by_cases hlen : ws.length = (rP p).length
   ·skip
    have hd : ((ws.length : Int) != ((rP p).length : Int)) = false := by rw [hlen]; simp
    simp (disch := omega) only [↓RU, RV, RH, ↓reduceIte, reduceEqDiff, reduceCtorEq, if_pos, w64, List.append_nil, ↓RS, RG, reduceAdd, reduceMul, reduceLeDiff, ty1, ty3, tyLint, ty10, ty11, ty13, tyint, ty21, ty24, hd, rcs_len]
    refine CallR.pc (containsInt_pc (l := ws) (by omega) (g := 109) (cap := []) rfl rfl (test := fun n => !needB n) (fun n _ => needing1_pc n)) rfl (.inl rfl) ?_
    simp (disch := omega) only [↓RU, RV, RH, ↓reduceIte, reduceEqDiff, reduceCtorEq, if_pos, w64, List.append_nil, ↓RS, RG, reduceAdd, reduceMul, reduceLeDiff, ty1, ty3, tyLint, ty10, ty11, ty13, tyint, ty21, ty24, hd, rcs_len]
    refine hK _ _ ?_;clear hK K
    refine W.cond rfl (fun h2 => ?_) (fun h2 => ?_)
    ·try simp only [RL] at h2
     have hok : needW p ws = false := by unfold needW; rw [List.all_eq_not_any_not, h2]; simp
     refine W.seq_region fun K hK => ?_
     simp (disch := omega) only [↓RU, RV, RH, ↓reduceIte, reduceEqDiff, reduceCtorEq, if_pos, ↓RS, RG, reduceAdd, reduceMul, reduceLeDiff]
     refine hK _ _ ?_;clear hK K
     refine W.ret ?_
     refine XBlock.ret ?_
     refine XThen.ret ?_
     refine XThen.ret ?_
     refine XBlock.ret ?_
     refine XThen.ret ?_
     refine BodyQ.ret rfl ?_
     exact ⟨_, _, by rw [needV_no hwm hok]; rfl, fun h9 => absurd h9 (by rw [needV_no hwm hok]; exact Bool.false_ne_true), take_all⟩
    ·try simp only [RL] at h2
     have hok : needW p ws = true := by unfold needW; rw [decide_eq_true hlen, List.all_eq_not_any_not]; simpa using h2
     refine W.skip ?_
     refine XBlock.norm ?_
     refine XThen.norm ?_
     refine W.region_k fun K hK => ?_
     simp (disch := omega) only [↓RU, RV, RH, ↓reduceIte, reduceEqDiff, reduceCtorEq, if_pos, w64, ↓RS, RG, reduceAdd, reduceMul, reduceLeDiff, tyint]
     refine hK _ _ ?_;clear hK K
     refine XThen.norm ?_
     refine ⟨wss.length - (i + 1), by omega, 1, i + 1, rfl, by omega, all_tk hws hall hok, ?_, rfl⟩
     simp [Env.put, Env.of]
   ·skip
    have hd : ((ws.length : Int) != ((rP p).length : Int)) = true := by simp; omega
    simp (disch := omega) only [↓RU, RV, RH, ↓reduceIte, reduceEqDiff, reduceCtorEq, if_pos, w64, List.append_nil, ↓RS, RG, reduceAdd, reduceMul, reduceLeDiff, ty1, ty3, tyLint, ty10, ty11, ty13, tyint, ty21, ty24, hd, rcs_len]
    refine hK _ _ ?_;clear hK K
    refine W.cond rfl (fun h2 => ?_) (fun h2 => ?_)
    ·try simp only [RL] at h2
     have hok : needW p ws = false := by unfold needW; rw [decide_eq_false hlen]; rfl
     refine W.seq_region fun K hK => ?_
     simp (disch := omega) only [↓RU, RV, RH, ↓reduceIte, reduceEqDiff, reduceCtorEq, if_pos, ↓RS, RG, reduceAdd, reduceMul, reduceLeDiff]
     refine hK _ _ ?_;clear hK K
     refine W.ret ?_
     refine XBlock.ret ?_
     refine XThen.ret ?_
     refine XThen.ret ?_
     refine XBlock.ret ?_
     refine XThen.ret ?_
     refine BodyQ.ret rfl ?_
     exact ⟨_, _, by rw [needV_no hwm hok]; rfl, fun h9 => absurd h9 (by rw [needV_no hwm hok]; exact Bool.false_ne_true), take_all⟩
    ·try simp only [RL] at h2
     exact absurd h2 (by simp)
  ·try simp only [RL] at h1
   obtain rfl : wss.length = i := by omega
   rw [List.take_length] at hall
   refine W.exit ?_
   refine XThen.exit ?_
   refine XThen.exit ?_
   refine XBlock.hit ?_
   refine XThen.norm ?_
   refine W.seq_region fun K hK => ?_
   simp (disch := omega) only [↓RU, RV, RH, ↓reduceIte, reduceEqDiff, reduceCtorEq, if_pos, ↓RS, RG, reduceAdd, reduceMul, reduceLeDiff]
   refine hK _ _ ?_;clear hK K
   refine W.ret ?_
   refine BodyQ.ret rfl ?_
   exact ⟨_, _, by rw [needV, h, hall]; rfl, fun _ => rfl, take_all⟩
theorem l7Places_pn {p : List Txt} (hs : Sm p) (hg : gridB p = true) (h9 : l1Rooms p ≤ 9) {needs : List Int} (hn : needs.length = (l1Rooms p).toNat) (hok : NeedOk needs) (kind : Int) : PN Tryz.prog 117 [eStrs p, eInts needs, .int .i64 kind] (.loc 0 0 0 needs.length) [.arr 0 3 1 ((places (allS p kind) needs).map (.int .i64))] false := by
 have hrb := l1Rooms_bound p
 have hms := allS_msk hg h9 kind
 rw [← hn] at hms
 obtain ⟨nr, hnr⟩ : ∃ nr : Nat, needs.length = nr := ⟨_, rfl⟩
 have hn9 : nr ≤ 9 := by omega
 rw [hnr] at hms
 have hml := hms.1
 refine PN.of ⟨Tryz.func117, by kernel_rfl, rfl, by kernel_rfl⟩ tabOk mixed (by show 3 ≤ Tryz.f117.ntmps; decide) ?_
 refine W.seq_region fun K hK => ?_
 simp (disch := omega) only [↓RU, RV, RH, ↓reduceIte, reduceEqDiff, reduceCtorEq, if_pos, ↓RS, RG, reduceAdd, reduceMul, reduceLeDiff]
 refine hK _ _ ?_;clear hK K
 refine W.seq_region fun K hK => ?_
 simp (disch := omega) only [↓RU, RV, RH, ↓reduceIte, reduceEqDiff, reduceCtorEq, if_pos, List.append_nil, ↓RS, RG, reduceAdd, reduceMul, reduceLeDiff]
 refine CallR.pc (l5All_pc hs hg h9 kind) rfl (.inl rfl) ?_
 simp (disch := omega) only [↓RU, RV, RH, ↓reduceIte, reduceEqDiff, reduceCtorEq, if_pos, List.append_nil, ↓RS, RG, reduceAdd, reduceMul, reduceLeDiff]
 refine hK _ _ ?_;clear hK K
 refine W.seq_region fun K hK => ?_
 simp (disch := omega) only [↓RU, RV, RH, ↓reduceIte, reduceEqDiff, reduceCtorEq, if_pos, ↓RS, RG, reduceAdd, reduceMul, reduceLeDiff, tyLint, tyint, hnr, repz_int, ile_true]
 refine hK _ _ ?_;clear hK K
 refine W.seq ?_
 refine W.seq_region fun K hK => ?_
 simp (disch := omega) only [↓RU, RV, RH, ↓reduceIte, reduceEqDiff, reduceCtorEq, if_pos, ↓RS, RG, reduceAdd, reduceMul, reduceLeDiff]
 refine hK _ _ ?_;clear hK K
 refine W.block ?_
 refine W.loop [0, 1, 2, 7, 8, 9] (fun n vs S => ∃ k : Nat, n = nr - k ∧ k ≤ nr ∧ vs = [eStrs p, eInts needs, .int .i64 kind, eNats (allS p kind), .loc 0 0 0 nr, .int .i64 k] ∧ S = ⟨[.arr 0 3 1 (((List.range k).foldl (plN (allS p kind) needs) (List.replicate nr 0)).map (.int .i64))], 1⟩) (nr) ?_ ?_
 ·refine ⟨1, 0, rfl, Nat.zero_le _, ?_, by simp [take_eq]⟩
  simp [Env.put, Env.of, argEnv]
 rintro n vs S - ⟨k, rfl, h_k, rfl, rfl⟩
 refine W.seq ?_
 refine W.seq_region fun K hK => ?_
 simp (disch := omega) only [↓RU, RV, RH, ↓reduceIte, reduceEqDiff, reduceCtorEq, if_pos, w64, ↓RS, RG, reduceAdd, reduceMul, reduceLeDiff, tyLint, tyint]
 refine hK _ _ ?_;clear hK K
 refine W.cond rfl (fun h => ?_) (fun h => ?_)
 ·try simp only [RL] at h
  have hX := places_to (sets := (allS p kind)) hok hnr hn9 k (by omega)
  generalize hXe : (List.range k).foldl (plN (allS p kind) needs) (List.replicate nr 0) = X at hX
  refine W.skip ?_
  refine XThen.norm ?_
  refine W.seq ?_
  refine W.block ?_
  refine W.seq_region fun K hK => ?_
  simp (disch := omega) only [↓RU, RV, RH, ↓reduceIte, reduceEqDiff, reduceCtorEq, if_pos, ↓RS, RG, reduceAdd, reduceMul, reduceLeDiff]
  refine hK _ _ ?_;clear hK K
  refine W.block ?_
  refine W.loop [0, 1, 2, 7, 8, 9, 10] (fun n vs S => ∃ a : Nat, n = nr - a ∧ a ≤ nr ∧ vs = [eStrs p, eInts needs, .int .i64 kind, eNats (allS p kind), .loc 0 0 0 nr, .int .i64 k, .int .i64 a] ∧ S = ⟨[.arr 0 3 1 (((List.range a).foldl (plA (allS p kind) needs) X).map (.int .i64))], 1⟩) (nr) ?_ ?_
  ·refine ⟨1, 0, rfl, Nat.zero_le _, ?_, by simp [take_eq, hXe]⟩
   simp [Env.put, Env.of]
  rintro n vs S - ⟨a, rfl, h_a, rfl, rfl⟩
  refine W.seq ?_
  refine W.seq_region fun K hK => ?_
  simp (disch := omega) only [↓RU, RV, RH, ↓reduceIte, reduceEqDiff, reduceCtorEq, if_pos, w64, ↓RS, RG, reduceAdd, reduceMul, reduceLeDiff, tyLint, tyint]
  refine hK _ _ ?_;clear hK K
  refine W.cond rfl (fun h1 => ?_) (fun h1 => ?_)
  ·try simp only [RL] at h1
   have hY := plN_to (sets := (allS p kind)) hok hnr hn9 hX a (by omega)
   generalize hYe : (List.range a).foldl (plA (allS p kind) needs) X = Y at hY
   refine W.skip ?_
   refine XThen.norm ?_
   refine W.seq ?_
   refine W.block ?_
   refine W.seq_region fun K hK => ?_
   simp (disch := omega) only [↓RU, RV, RH, ↓reduceIte, reduceEqDiff, reduceCtorEq, if_pos, ↓RS, RG, reduceAdd, reduceMul, reduceLeDiff]
   refine hK _ _ ?_;clear hK K
   refine W.block ?_
   refine W.loop [0, 1, 2, 7, 8, 9, 10, 11] (fun n vs S => ∃ b : Nat, n = nr - b ∧ b ≤ nr ∧ vs = [eStrs p, eInts needs, .int .i64 kind, eNats (allS p kind), .loc 0 0 0 nr, .int .i64 k, .int .i64 a, .int .i64 b] ∧ S = ⟨[.arr 0 3 1 (((List.range b).foldl (plB (allS p kind) needs a) Y).map (.int .i64))], 1⟩) (nr) ?_ ?_
   ·refine ⟨1, 0, rfl, Nat.zero_le _, ?_, by simp [take_eq, hYe]⟩
    simp [Env.put, Env.of]
   rintro n vs S - ⟨b, rfl, h_b, rfl, rfl⟩
   refine W.seq ?_
   refine W.seq_region fun K hK => ?_
   simp (disch := omega) only [↓RU, RV, RH, ↓reduceIte, reduceEqDiff, reduceCtorEq, if_pos, w64, ↓RS, RG, reduceAdd, reduceMul, reduceLeDiff, tyLint, tyint]
   refine hK _ _ ?_;clear hK K
   refine W.cond rfl (fun h2 => ?_) (fun h2 => ?_)
   ·try simp only [RL] at h2
    have hZ := plA_to (sets := (allS p kind)) hok hnr hY (show a < nr by omega) b (by omega)
    generalize hZe : (List.range b).foldl (plB (allS p kind) needs a) Y = Z at hZ
    obtain ⟨m, hm, hm5⟩ := hms.at_ (show a < nr by omega)
    obtain ⟨u, hu, hu1⟩ := hZ.at_ (show a < nr by omega)
    obtain ⟨v, hv, hv1⟩ := hZ.at_ (show b < nr by omega)
    obtain ⟨z, hz, hzm⟩ := get_of (show a < needs.length by omega)
    have hz1 := hok z hzm
    have hZl := hZ.1
    refine W.skip ?_
    refine XThen.norm ?_
    refine W.seq ?_
    refine W.block ?_
    refine W.seq_region fun K hK => ?_
    simp (disch := omega) only [↓RU, RV, RH, ↓reduceIte, reduceEqDiff, reduceCtorEq, if_pos, w64, ↓RS, RG, reduceAdd, reduceMul, reduceLeDiff, tyLint, tyint, hm, hml, pShr, w_bit]
    refine hK _ _ ?_;clear hK K
    refine W.cond rfl (fun h3 => ?_) (fun h3 => ?_)
    ·try simp only [RL] at h3
     refine W.draw_k (by kernel_rfl) fun K hK => ?_
     simp (disch := omega) only [↓RU, RV, RH, ↓reduceIte, reduceEqDiff, reduceCtorEq, if_pos, w64, ite_max, ↓RS, RG, reduceAdd, reduceMul, reduceLeDiff, tyLint, tyint, hu, hv, hz, hnr, hZl, set_spl, set_int]
     refine hK _ _ ?_;clear hK K
     refine XBlock.norm ?_
     refine XThen.norm ?_
     refine W.region_k fun K hK => ?_
     simp (disch := omega) only [↓RU, RV, RH, ↓reduceIte, reduceEqDiff, reduceCtorEq, if_pos, w64, ↓RS, RG, reduceAdd, reduceMul, reduceLeDiff, tyint]
     refine hK _ _ ?_;clear hK K
     refine XThen.norm ?_
     refine ⟨nr - (b + 1), by omega, 1, b + 1, rfl, by omega, ?_, ?_⟩
     ·simp [Env.put, Env.of]
     ·simp only [take_eq, foldl_rg, hZe, plB, bitOf_is hm, h3, getI_is hu, getI_is hv, getI_is hz]; rfl
    ·try simp only [RL] at h3
     refine W.skip ?_
     refine XBlock.norm ?_
     refine XThen.norm ?_
     refine W.region_k fun K hK => ?_
     simp (disch := omega) only [↓RU, RV, RH, ↓reduceIte, reduceEqDiff, reduceCtorEq, if_pos, w64, ↓RS, RG, reduceAdd, reduceMul, reduceLeDiff, tyint]
     refine hK _ _ ?_;clear hK K
     refine XThen.norm ?_
     refine ⟨nr - (b + 1), by omega, 1, b + 1, rfl, by omega, ?_, ?_⟩
     ·simp [Env.put, Env.of]
     ·simp only [take_eq, foldl_rg, hZe, plB, bitOf_is hm, h3, Bool.false_eq_true, if_false]; rfl
   ·try simp only [RL] at h2
    obtain rfl : nr = b := by omega
    refine W.exit ?_
    refine XThen.exit ?_
    refine XThen.exit ?_
    refine XBlock.hit ?_
    refine XBlock.norm ?_
    refine XThen.norm ?_
    refine W.region_k fun K hK => ?_
    simp (disch := omega) only [↓RU, RV, RH, ↓reduceIte, reduceEqDiff, reduceCtorEq, if_pos, w64, ↓RS, RG, reduceAdd, reduceMul, reduceLeDiff, tyint]
    refine hK _ _ ?_;clear hK K
    refine XThen.norm ?_
    refine ⟨nr - (a + 1), by omega, 1, a + 1, rfl, by omega, ?_, ?_⟩
    ·simp [Env.put, Env.of]
    ·simp only [take_eq, foldl_rg, hYe, plA, hnr]; rfl
  ·try simp only [RL] at h1
   obtain rfl : nr = a := by omega
   refine W.exit ?_
   refine XThen.exit ?_
   refine XThen.exit ?_
   refine XBlock.hit ?_
   refine XBlock.norm ?_
   refine XThen.norm ?_
   refine W.region_k fun K hK => ?_
   simp (disch := omega) only [↓RU, RV, RH, ↓reduceIte, reduceEqDiff, reduceCtorEq, if_pos, w64, ↓RS, RG, reduceAdd, reduceMul, reduceLeDiff, tyint]
   refine hK _ _ ?_;clear hK K
   refine XThen.norm ?_
   refine ⟨nr - (k + 1), by omega, 1, k + 1, rfl, by omega, ?_, ?_⟩
   ·simp [Env.put, Env.of]
   ·simp only [take_eq, foldl_rg, hXe, plN, hnr]; rfl
 ·try simp only [RL] at h
  obtain rfl : nr = k := by omega
  refine W.exit ?_
  refine XThen.exit ?_
  refine XThen.exit ?_
  refine XBlock.hit ?_
  refine XThen.norm ?_
  refine W.seq_region fun K hK => ?_
  simp (disch := omega) only [↓RU, RV, RH, ↓reduceIte, reduceEqDiff, reduceCtorEq, if_pos, ↓RS, RG, reduceAdd, reduceMul, reduceLeDiff]
  refine hK _ _ ?_;clear hK K
  refine W.ret ?_
  refine BodyQ.ret rfl ?_
  rw [show (List.range nr).foldl (plN (allS p kind) needs) (List.replicate nr 0) = places (allS p kind) needs by rw [places, hnr]]
  rw [hnr]
  exact sh_one rfl (sh_ints _)
theorem l7Least_pc {p : List Txt} (hs : Sm p) (hg : gridB p = true) (h9 : l1Rooms p ≤ 9) {needs : List Int} (hn : needs.length = (l1Rooms p).toNat) (hok : NeedOk needs) (kind : Int) : PC Tryz.prog 60 [eStrs p, eInts needs, .int .i64 kind] (.int .i64 (least (allS p kind) needs)) true := by
 have hn9 : needs.length ≤ 9 := by omega
 obtain ⟨nr, hnr⟩ : ∃ nr : Nat, needs.length = nr := ⟨_, rfl⟩
 have hP := places_bnd (sets := (allS p kind)) hok hnr (by omega)
 have hPl := hP.1
 refine PC.of ⟨Tryz.func60, by kernel_rfl, rfl, by kernel_rfl⟩ tabOk mixed (by show 3 ≤ Tryz.f60.ntmps; decide) ?_
 refine W.seq_region fun K hK => ?_
 simp (disch := omega) only [↓RU, RV, RH, ↓reduceIte, reduceEqDiff, reduceCtorEq, if_pos, ↓RS, RG, reduceAdd, reduceMul, reduceLeDiff]
 refine hK _ _ ?_;clear hK K
 refine W.seq_region fun K hK => ?_
 simp (disch := omega) only [↓RU, RV, RH, ↓reduceIte, reduceEqDiff, reduceCtorEq, if_pos, List.append_nil, ↓RS, RG, reduceAdd, reduceMul, reduceLeDiff, hnr]
 refine CallR.pn (l7Places_pn hs hg h9 hn hok kind) rfl (.inl rfl) ?_
 simp (disch := omega) only [↓RU, RV, RH, ↓reduceIte, reduceEqDiff, reduceCtorEq, if_pos, List.append_nil, ↓RS, RG, reduceAdd, reduceMul, reduceLeDiff, hnr, RN]
 refine hK _ _ ?_;clear hK K
 refine W.seq_region fun K hK => ?_
 simp (disch := omega) only [↓RU, RV, RH, ↓reduceIte, reduceEqDiff, reduceCtorEq, if_pos, ↓RS, RG, reduceAdd, reduceMul, reduceLeDiff]
 refine hK _ _ ?_;clear hK K
 refine W.seq ?_
 refine W.seq_region fun K hK => ?_
 simp (disch := omega) only [↓RU, RV, RH, ↓reduceIte, reduceEqDiff, reduceCtorEq, if_pos, ↓RS, RG, reduceAdd, reduceMul, reduceLeDiff]
 refine hK _ _ ?_;clear hK K
 refine W.block ?_
 refine W.loop [0, 1, 7, 8, 9] (fun n vs S => ∃ a : Nat, n = nr - a ∧ a ≤ nr ∧ vs = [eStrs p, eInts needs, .loc 0 0 0 nr, .int .i64 ((List.range a).foldl (fun m a => max m (getI (places (allS p kind) needs) a + getI needs a)) 0), .int .i64 a] ∧ S = ⟨[.arr 0 3 1 ((places (allS p kind) needs).map (.int .i64))], 1⟩) (nr) ?_ ?_
 ·refine ⟨1, 0, rfl, Nat.zero_le _, ?_, by simp [take_eq, up_ints, upOb]⟩
  simp [Env.put, Env.of, argEnv]
 rintro n vs S - ⟨a, rfl, h_a, rfl, rfl⟩
 refine W.seq ?_
 refine W.seq_region fun K hK => ?_
 simp (disch := omega) only [↓RU, RV, RH, ↓reduceIte, reduceEqDiff, reduceCtorEq, if_pos, w64, ↓RS, RG, reduceAdd, reduceMul, reduceLeDiff, tyLint, tyint]
 refine hK _ _ ?_;clear hK K
 refine W.cond rfl (fun h => ?_) (fun h => ?_)
 ·try simp only [RL] at h
  have hM := least_to (sets := (allS p kind)) hok hnr (by omega) a (by omega)
  generalize hMe : (List.range a).foldl (fun m a => max m (getI (places (allS p kind) needs) a + getI needs a)) 0 = M at hM
  obtain ⟨x, hx, hx1⟩ := hP.at_ (show a < nr by omega)
  obtain ⟨z, hz, hzm⟩ := get_of (show a < needs.length by omega)
  have hz1 := hok z hzm
  refine W.skip ?_
  refine XThen.norm ?_
  refine W.seq ?_
  refine W.block ?_
  refine W.draw_k (by kernel_rfl) fun K hK => ?_
  simp (disch := omega) only [↓RU, RV, RH, ↓reduceIte, reduceEqDiff, reduceCtorEq, if_pos, w64, ite_max, ↓RS, RG, reduceAdd, reduceMul, reduceLeDiff, tyLint, tyint, hMe, hx, hz, hnr, hPl]
  refine hK _ _ ?_;clear hK K
  refine XBlock.norm ?_
  refine XThen.norm ?_
  refine W.region_k fun K hK => ?_
  simp (disch := omega) only [↓RU, RV, RH, ↓reduceIte, reduceEqDiff, reduceCtorEq, if_pos, w64, ↓RS, RG, reduceAdd, reduceMul, reduceLeDiff, tyint]
  refine hK _ _ ?_;clear hK K
  refine XThen.norm ?_
  refine ⟨nr - (a + 1), by omega, 1, a + 1, rfl, by omega, ?_, rfl⟩
  rw [foldl_rg, getI_is hx, getI_is hz]
  simp [Env.put, Env.of, hMe]
 ·try simp only [RL] at h
  obtain rfl : nr = a := by omega
  refine W.exit ?_
  refine XThen.exit ?_
  refine XThen.exit ?_
  refine XBlock.hit ?_
  refine XThen.norm ?_
  refine W.seq_region fun K hK => ?_
  simp (disch := omega) only [↓RU, RV, RH, ↓reduceIte, reduceEqDiff, reduceCtorEq, if_pos, ↓RS, RG, reduceAdd, reduceMul, reduceLeDiff]
  refine hK _ _ ?_;clear hK K
  refine W.ret ?_
  refine BodyQ.ret rfl ?_
  rw [least, hnr]
  rfl
theorem l7Needs_pc {p : List Txt} (hs : Sm p) {needs : List Int} (hn : needs.length ≤ 1048576) : PC Tryz.prog 59 [eStrs p, eInts needs] (.bool (needsB p needs)) true := by
 refine PC.of ⟨Tryz.func59, by kernel_rfl, rfl, by kernel_rfl⟩ tabOk mixed (by show 2 ≤ Tryz.f59.ntmps; decide) ?_
 refine W.seq_region fun K hK => ?_
 simp (disch := omega) only [↓RU, RV, RH, ↓reduceIte, reduceEqDiff, reduceCtorEq, if_pos]
 refine hK _ _ ?_;clear hK K
 refine W.seq ?_
 refine W.seq_region fun K hK => ?_
 cases hg : plainB p
 ·skip
  simp (disch := omega) only [↓RU, RV, RH, ↓reduceIte, reduceEqDiff, reduceCtorEq, if_pos, List.append_nil, w64, tyLint, tyint, hg]
  refine CallR.pc (l5Plain_pc hs) rfl (.inl rfl) ?_
  simp (disch := omega) only [↓RU, RV, RH, ↓reduceIte, reduceEqDiff, reduceCtorEq, if_pos, List.append_nil, w64, tyLint, tyint, hg]
  refine hK _ _ ?_;clear hK K
  refine W.cond rfl (fun h0 => ?_) (fun h0 => ?_)
  ·try simp only [RL] at h0
   refine W.seq_region fun K hK => ?_
   simp (disch := omega) only [↓RU, RV, RH, ↓reduceIte, reduceEqDiff, reduceCtorEq, if_pos]
   refine hK _ _ ?_;clear hK K
   refine W.ret ?_
   refine XThen.ret ?_
   refine BodyQ.ret rfl ?_
   rw [needsB, hg]
   rfl
  ·try simp only [RL] at h0
   exact absurd h0 (by simp)
 ·skip
  simp (disch := omega) only [↓RU, RV, RH, ↓reduceIte, reduceEqDiff, reduceCtorEq, if_pos, List.append_nil, w64, tyLint, tyint, hg]
  refine CallR.pc (l5Plain_pc hs) rfl (.inl rfl) ?_
  simp (disch := omega) only [↓RU, RV, RH, ↓reduceIte, reduceEqDiff, reduceCtorEq, if_pos, List.append_nil, w64, tyLint, tyint, hg]
  refine CallR.pc (l1Rooms_pc hs) rfl (.inl rfl) ?_
  simp (disch := omega) only [↓RU, RV, RH, ↓reduceIte, reduceEqDiff, reduceCtorEq, if_pos, List.append_nil, w64, tyLint, tyint, hg]
  refine hK _ _ ?_;clear hK K
  refine W.cond rfl (fun h1 => ?_) (fun h1 => ?_)
  ·try simp only [RL] at h1
   refine W.seq_region fun K hK => ?_
   simp (disch := omega) only [↓RU, RV, RH, ↓reduceIte, reduceEqDiff, reduceCtorEq, if_pos]
   refine hK _ _ ?_;clear hK K
   refine W.ret ?_
   refine XThen.ret ?_
   refine BodyQ.ret rfl ?_
   rw [show needsB p needs = false by simp [needsB, h1]]
   rfl
  ·try simp only [RL] at h1
   refine W.skip ?_
   refine XThen.norm ?_
   refine W.seq ?_
   refine W.seq_region fun K hK => ?_
   simp (disch := omega) only [↓RU, RV, RH, ↓reduceIte, reduceEqDiff, reduceCtorEq, if_pos]
   refine hK _ _ ?_;clear hK K
   refine W.block ?_
   refine W.loop [0, 1, 5] (fun n vs S => ∃ i : Nat, n = needs.length - i ∧ i ≤ needs.length ∧ ((needs.take i).all needB = true) ∧ vs = [eStrs p, eInts needs, .int .i64 i] ∧ S = ⟨[], 0⟩) (needs.length) ?_ ?_
   ·refine ⟨0, 0, rfl, Nat.zero_le _, rfl, ?_, rfl⟩
    simp [Env.put, Env.of, argEnv]
   rintro n vs S - ⟨i, rfl, h_i, hall, rfl, rfl⟩
   refine W.seq ?_
   refine W.seq_region fun K hK => ?_
   simp (disch := omega) only [↓RU, RV, RH, ↓reduceIte, reduceEqDiff, reduceCtorEq, if_pos, w64, tyLint, tyint]
   refine hK _ _ ?_;clear hK K
   refine W.cond rfl (fun h2 => ?_) (fun h2 => ?_)
   ·try simp only [RL] at h2
    obtain ⟨x, hx, hxm⟩ := get_of (show i < needs.length by omega)
    refine W.skip ?_
    refine XThen.norm ?_
    refine W.seq ?_
    refine W.block ?_
    refine W.seq_region fun K hK => ?_
    simp (disch := omega) only [↓RU, RV, RH, ↓reduceIte, reduceEqDiff, reduceCtorEq, if_pos, List.append_nil, tyLint, tyint, hx]
    refine CallR.pc (l6In_pc _ _ _) rfl (.inl rfl) ?_
    simp (disch := omega) only [↓RU, RV, RH, ↓reduceIte, reduceEqDiff, reduceCtorEq, if_pos, List.append_nil, tyLint, tyint, hx]
    refine hK _ _ ?_;clear hK K
    refine W.cond rfl (fun h3 => ?_) (fun h3 => ?_)
    ·try simp only [RL] at h3
     refine W.seq_region fun K hK => ?_
     simp (disch := omega) only [↓RU, RV, RH, ↓reduceIte, reduceEqDiff, reduceCtorEq, if_pos]
     refine hK _ _ ?_;clear hK K
     refine W.ret ?_
     refine XBlock.ret ?_
     refine XThen.ret ?_
     refine XThen.ret ?_
     refine XBlock.ret ?_
     refine XThen.ret ?_
     refine BodyQ.ret rfl ?_
     rw [show needsB p needs = false by unfold needsB; rw [show needs.all needB = false from List.all_eq_false.2 ⟨x, hxm, by simpa [needB] using h3⟩]; simp]
     rfl
    ·try simp only [RL] at h3
     refine W.skip ?_
     refine XBlock.norm ?_
     refine XThen.norm ?_
     refine W.region_k fun K hK => ?_
     simp (disch := omega) only [↓RU, RV, RH, ↓reduceIte, reduceEqDiff, reduceCtorEq, if_pos, w64, tyint]
     refine hK _ _ ?_;clear hK K
     refine XThen.norm ?_
     refine ⟨needs.length - (i + 1), by omega, 0, i + 1, rfl, by omega, all_tk hx (by assumption) (by simpa [needB] using h3), ?_, rfl⟩
     simp [Env.put, Env.of]
   ·try simp only [RL] at h2
    refine W.exit ?_
    refine XThen.exit ?_
    refine XThen.exit ?_
    refine XBlock.hit ?_
    refine XThen.norm ?_
    refine W.seq_region fun K hK => ?_
    simp (disch := omega) only [↓RU, RV, RH, ↓reduceIte, reduceEqDiff, reduceCtorEq, if_pos]
    refine hK _ _ ?_;clear hK K
    refine W.ret ?_
    refine BodyQ.ret rfl ?_
    have hip : needs.take i = needs := List.take_of_length_le (by omega)
    rw [hip] at hall
    rw [show needsB p needs = true by simp only [needsB, hg, hall, h1, decide_true, Bool.and_self]]
    rfl
theorem heavy1_ev {M : List (List Bool)} {ws out : List Int} {nr : Nat} {rk : Nat → Nat} (hu : Up M nr rk) (hn : nr ≤ 9) (hwl : ws.length = nr) (hw : NeedOk ws) {b : Nat} (hb : b < nr) (hmo : Memo M ws nr out)
  (ih : ∀ a, a < nr → rk a < rk b → ∀ out0, Memo M ws nr out0 → Ev Tryz.prog 114 [.int .i64 (a : Nat), .ref 3 3 0, .ref 0 0 0, .ref 4 4 0, .ref 1 1 0] ⟨[.arr 0 60 1 [eRel M], .arr 1 24 1 [eInts ws], .arr 2 3 1 ((out0).map (.int .i64)), .arr 3 24 1 [.loc 2 2 0 nr], .arr 4 69 1 [.fn 114 [.ref 3 3 0, .ref 0 0 0, .ref 4 4 0, .ref 1 1 0]]], 5⟩ (fun v S => v = .int .i64 (HB M ws nr a) ∧ ∃ out2, Memo M ws nr out2 ∧ Keep out0 out2 ∧ out2[a]? = some (HB M ws nr a) ∧ S = ⟨[.arr 0 60 1 [eRel M], .arr 1 24 1 [eInts ws], .arr 2 3 1 ((out2).map (.int .i64)), .arr 3 24 1 [.loc 2 2 0 nr], .arr 4 69 1 [.fn 114 [.ref 3 3 0, .ref 0 0 0, .ref 4 4 0, .ref 1 1 0]]], 5⟩)) : Ev Tryz.prog 114 [.int .i64 (b : Nat), .ref 3 3 0, .ref 0 0 0, .ref 4 4 0, .ref 1 1 0] ⟨[.arr 0 60 1 [eRel M], .arr 1 24 1 [eInts ws], .arr 2 3 1 ((out).map (.int .i64)), .arr 3 24 1 [.loc 2 2 0 nr], .arr 4 69 1 [.fn 114 [.ref 3 3 0, .ref 0 0 0, .ref 4 4 0, .ref 1 1 0]]], 5⟩ fun v S => v = .int .i64 (HB M ws nr b) ∧ ∃ out2, Memo M ws nr out2 ∧ Keep out out2 ∧ out2[b]? = some (HB M ws nr b) ∧ S = ⟨[.arr 0 60 1 [eRel M], .arr 1 24 1 [eInts ws], .arr 2 3 1 ((out2).map (.int .i64)), .arr 3 24 1 [.loc 2 2 0 nr], .arr 4 69 1 [.fn 114 [.ref 3 3 0, .ref 0 0 0, .ref 4 4 0, .ref 1 1 0]]], 5⟩ := by
 obtain ⟨x0, hx0, hx0c⟩ := hmo.at_ hb
 have hml := hmo.1
 have hsq := hu.sq.1
 have hHb := HB_bound (M := M) (n := nr) hw b
 have hHp := HB_pos (M := M) (n := nr) hw (b := b) (by omega)
 have hHe := HB_eq (ws := ws) hu hb
 obtain ⟨wb, hwb, hwbm⟩ := get_of (show b < ws.length by omega)
 have hwb1 := hw wb hwbm
 rw [getI_is hwb] at hHe
 refine Ev.of ⟨Tryz.func114, by kernel_rfl, rfl, by kernel_rfl⟩ tabOk mixed (by show 5 ≤ Tryz.f114.ntmps; decide) ?_
 refine W.seq_region fun K hK => ?_
 simp (disch := omega) only [↓RU, RV, RH, ↓reduceIte, reduceEqDiff, reduceCtorEq, if_pos, ↓RS, RG, reduceAdd, reduceMul, reduceLeDiff]
 refine hK _ _ ?_;clear hK K
 refine W.seq ?_
 refine W.seq_region fun K hK => ?_
 simp (disch := omega) only [↓RU, RV, RH, ↓reduceIte, reduceEqDiff, reduceCtorEq, if_pos, w64, ↓RS, RG, reduceAdd, reduceMul, reduceLeDiff, tyLint, tyint, hx0]
 refine hK _ _ ?_;clear hK K
 refine W.cond rfl (fun h0 => ?_) (fun h0 => ?_)
 ·try simp only [RL] at h0
  subst h0
  refine W.seq_region fun K hK => ?_
  simp (disch := omega) only [↓RU, RV, RH, ↓reduceIte, reduceEqDiff, reduceCtorEq, if_pos, ↓RS, RG, reduceAdd, reduceMul, reduceLeDiff]
  refine hK _ _ ?_;clear hK K
  refine W.seq ?_
  refine W.seq_region fun K hK => ?_
  simp (disch := omega) only [↓RU, RV, RH, ↓reduceIte, reduceEqDiff, reduceCtorEq, if_pos, ↓RS, RG, reduceAdd, reduceMul, reduceLeDiff, ty0, ty2, tybool, ty14, hsq]
  refine hK _ _ ?_;clear hK K
  refine W.block ?_
  refine W.loop [0, 1, 2, 3, 4, 7, 15, 16] (fun n vs S => ∃ (a : Nat) (out1 : List Int), n = nr - a ∧ a ≤ nr ∧ Memo M ws nr out1 ∧ Keep out out1 ∧ vs = [.int .i64 (b : Nat), .ref 3 3 0, .ref 0 0 0, .ref 4 4 0, .ref 1 1 0, .int .i64 (hvF M (HB M ws nr) b a), .int .i64 nr, .int .i64 a] ∧ S = ⟨[.arr 0 60 1 [eRel M], .arr 1 24 1 [eInts ws], .arr 2 3 1 ((out1).map (.int .i64)), .arr 3 24 1 [.loc 2 2 0 nr], .arr 4 69 1 [.fn 114 [.ref 3 3 0, .ref 0 0 0, .ref 4 4 0, .ref 1 1 0]]], 5⟩) nr ?_ ?_
  ·refine ⟨5, 0, out, rfl, by omega, hmo, Keep.refl _, ?_, rfl⟩
   simp [Env.put, Env.of, argEnv, hvF, hsq]
  rintro n vs S - ⟨a, out1, rfl, h_a, hm1, hk1, rfl, rfl⟩
  refine W.seq_region fun K hK => ?_
  simp (disch := omega) only [↓RU, RV, RH, ↓reduceIte, reduceEqDiff, reduceCtorEq, if_pos, w64, ↓RS, RG, reduceAdd, reduceMul, reduceLeDiff, tyint]
  refine hK _ _ ?_;clear hK K
  refine W.seq ?_
  refine W.cond rfl (fun h1 => ?_) (fun h1 => ?_)
  ·try simp only [RL] at h1
   have hal : a < nr := by omega
   have hF := hvF_bound (M := M) (g := HB M ws nr) (b := b) (B := 909) (by omega) (i := a) fun a _ _ => (HB_bound hw a).2
   have hHa := HB_bound (M := M) (n := nr) hw a
   obtain ⟨row, hrow, hrl, hrb⟩ := hu.sq.at_ hal hb
   refine W.skip ?_
   refine XThen.norm ?_
   refine W.seq ?_
   refine W.block ?_
   refine W.seq_region fun K hK => ?_
   simp (disch := omega) only [↓RU, RV, RH, ↓reduceIte, reduceEqDiff, reduceCtorEq, if_pos, ↓RS, RG, reduceAdd, reduceMul, reduceLeDiff]
   refine hK _ _ ?_;clear hK K
   refine W.seq_region fun K hK => ?_
   simp (disch := omega) only [↓RU, RV, RH, ↓reduceIte, reduceEqDiff, reduceCtorEq, if_pos, ↓RS, RG, reduceAdd, reduceMul, reduceLeDiff, ty0, ty2, tybool, ty14, hrow, hrb, hrl]
   refine hK _ _ ?_;clear hK K
   refine W.cond rfl (fun h2 => ?_) (fun h2 => ?_)
   ·try simp only [RL] at h2
    have hrk := hu.up a b hal hb h2
    refine W.region_k fun K hK => ?_
    simp (disch := omega) only [↓RU, RV, RH, ↓reduceIte, reduceEqDiff, reduceCtorEq, if_pos, List.append_nil, ite_max, ↓RS, RG, reduceAdd, reduceMul, reduceLeDiff, ty9, tyint]
    refine CallR.ev (ih a hal hrk out1 hm1) ?_
    rintro _ _ ⟨rfl, out2, hm2, hk2, ho2, rfl⟩
    simp (disch := omega) only [↓RU, RV, RH, ↓reduceIte, reduceEqDiff, reduceCtorEq, if_pos, List.append_nil, ite_max, ↓RS, RG, reduceAdd, reduceMul, reduceLeDiff, ty9, tyint]
    refine hK _ _ ?_;clear hK K
    refine XBlock.norm ?_
    refine XThen.norm ?_
    refine W.region_k fun K hK => ?_
    simp (disch := omega) only [↓RU, RV, RH, ↓reduceIte, reduceEqDiff, reduceCtorEq, if_pos, w64, ↓RS, RG, reduceAdd, reduceMul, reduceLeDiff, tyint]
    refine hK _ _ ?_;clear hK K
    refine XThen.norm ?_
    refine ⟨nr - (a + 1), by omega, 5, a + 1, out2, rfl, by omega, hm2, hk1.trans hk2, ?_, rfl⟩
    simp [Env.put, Env.of, hvF_succ, h2]
   ·try simp only [RL] at h2
    refine W.skip ?_
    refine XBlock.norm ?_
    refine XThen.norm ?_
    refine W.region_k fun K hK => ?_
    simp (disch := omega) only [↓RU, RV, RH, ↓reduceIte, reduceEqDiff, reduceCtorEq, if_pos, w64, ↓RS, RG, reduceAdd, reduceMul, reduceLeDiff, tyint]
    refine hK _ _ ?_;clear hK K
    refine XThen.norm ?_
    refine ⟨nr - (a + 1), by omega, 5, a + 1, out1, rfl, by omega, hm1, hk1, ?_, rfl⟩
    simp [Env.put, Env.of, hvF_succ, h2]
  ·try simp only [RL] at h1
   obtain rfl : nr = a := by omega
   have hF := hvF_bound (M := M) (g := HB M ws nr) (b := b) (B := 909) (by omega) (i := nr) fun a _ _ => (HB_bound hw a).2
   have hm1l := hm1.1
   have hset : (out1.set b (HB M ws nr b))[b]? = some (HB M ws nr b) := by rw [List.getElem?_set, if_pos rfl, if_pos (by omega)]
   refine W.exit ?_
   refine XThen.exit ?_
   refine XThen.exit ?_
   refine XBlock.hit ?_
   refine XThen.norm ?_
   refine W.draw_k (by kernel_rfl) fun K hK => ?_
   simp (disch := omega) only [↓RU, RV, RH, ↓reduceIte, reduceEqDiff, reduceCtorEq, if_pos, w64, ↓RS, RG, reduceAdd, reduceMul, reduceLeDiff, tyLint, tyint, hwb, hm1l, set_spl, set_int, ← hHe]
   refine hK _ _ ?_;clear hK K
   refine XThen.norm ?_
   refine W.seq_region fun K hK => ?_
   simp (disch := omega) only [↓RU, RV, RH, ↓reduceIte, reduceEqDiff, reduceCtorEq, if_pos, ↓RS, RG, reduceAdd, reduceMul, reduceLeDiff, tyLint, tyint, hset]
   refine hK _ _ ?_;clear hK K
   refine W.ret ?_
   refine BodyQ.ret rfl ?_
   exact ⟨5, rfl, _, hm1.set, hk1.trans hm1.keep, hset, rfl⟩
 ·try simp only [RL] at h0
  obtain rfl := hx0c.resolve_left h0
  have hset := hx0
  refine W.skip ?_
  refine XThen.norm ?_
  refine W.seq_region fun K hK => ?_
  simp (disch := omega) only [↓RU, RV, RH, ↓reduceIte, reduceEqDiff, reduceCtorEq, if_pos, ↓RS, RG, reduceAdd, reduceMul, reduceLeDiff, tyLint, tyint, hset]
  refine hK _ _ ?_;clear hK K
  refine W.ret ?_
  refine BodyQ.ret rfl ?_
  exact ⟨5, rfl, _, hmo, Keep.refl _, hx0, rfl⟩
theorem heavy_ev {M : List (List Bool)} {ws : List Int} {nr : Nat} {rk : Nat → Nat} (hu : Up M nr rk) (hn : nr ≤ 9) (hwl : ws.length = nr) (hw : NeedOk ws) : ∀ (k b : Nat), rk b < k → b < nr → ∀ out, Memo M ws nr out → Ev Tryz.prog 114 [.int .i64 (b : Nat), .ref 3 3 0, .ref 0 0 0, .ref 4 4 0, .ref 1 1 0] ⟨[.arr 0 60 1 [eRel M], .arr 1 24 1 [eInts ws], .arr 2 3 1 ((out).map (.int .i64)), .arr 3 24 1 [.loc 2 2 0 nr], .arr 4 69 1 [.fn 114 [.ref 3 3 0, .ref 0 0 0, .ref 4 4 0, .ref 1 1 0]]], 5⟩ (fun v S => v = .int .i64 (HB M ws nr b) ∧ ∃ out2, Memo M ws nr out2 ∧ Keep out out2 ∧ out2[b]? = some (HB M ws nr b) ∧ S = ⟨[.arr 0 60 1 [eRel M], .arr 1 24 1 [eInts ws], .arr 2 3 1 ((out2).map (.int .i64)), .arr 3 24 1 [.loc 2 2 0 nr], .arr 4 69 1 [.fn 114 [.ref 3 3 0, .ref 0 0 0, .ref 4 4 0, .ref 1 1 0]]], 5⟩)
 | 0, b, h, _, _, _ => by omega
 | k + 1, b, h, hb, out, hm => heavy1_ev hu hn hwl hw hb hm fun a ha hr out0 h0 => heavy_ev hu hn hwl hw k a (by omega) ha out0 h0
theorem heaviest_pn {M : List (List Bool)} {ws : List Int} {nr : Nat} {rk : Nat → Nat} (hu : Up M nr rk) (hn : nr ≤ 9) (hwl : ws.length = nr) (hw : NeedOk ws) : PN Tryz.prog 58 [eRel M, eInts ws] (.loc 0 0 0 nr) [.arr 0 3 1 ((heaviest M ws nr).map (.int .i64))] false := by
 have hsq := hu.sq.1
 refine PN.of ⟨Tryz.func58, by kernel_rfl, rfl, by kernel_rfl⟩ tabOk mixed (by show 2 ≤ Tryz.f58.ntmps; decide) ?_
 refine W.seq_region fun K hK => ?_
 simp (disch := omega) only [↓RU, RV, RH, ↓reduceIte, reduceEqDiff, reduceCtorEq, if_pos, ↓RS, RG, reduceAdd, reduceMul, reduceLeDiff, ty0, ty2, tyLint, tybool, ty14, tyint]
 refine hK _ _ ?_;clear hK K
 refine W.seq_region fun K hK => ?_
 simp (disch := omega) only [↓RU, RV, RH, ↓reduceIte, reduceEqDiff, reduceCtorEq, if_pos, ↓RS, RG, reduceAdd, reduceMul, reduceLeDiff, ty0, ty2, tyLint, tybool, ty14, tyint, hsq, repz_int, ile_true]
 refine hK _ _ ?_;clear hK K
 refine W.seq_region fun K hK => ?_
 simp (disch := omega) only [↓RU, RV, RH, ↓reduceIte, reduceEqDiff, reduceCtorEq, if_pos, ↓RS, RG, reduceAdd, reduceMul, reduceLeDiff, ty9]
 refine hK _ _ ?_;clear hK K
 refine W.seq_region fun K hK => ?_
 simp (disch := omega) only [↓RU, RV, RH, ↓reduceIte, reduceEqDiff, reduceCtorEq, if_pos, ↓RS, RG, reduceAdd, reduceMul, reduceLeDiff, ty9, cells_fn, ic_fn]
 refine hK _ _ ?_;clear hK K
 refine W.seq ?_
 refine W.seq_region fun K hK => ?_
 simp (disch := omega) only [↓RU, RV, RH, ↓reduceIte, reduceEqDiff, reduceCtorEq, if_pos, ↓RS, RG, reduceAdd, reduceMul, reduceLeDiff, ty0, ty2, tybool, ty14, hsq]
 refine hK _ _ ?_;clear hK K
 refine W.block ?_
 refine W.loop [5, 6, 13, 14] (fun n vs S => ∃ (b : Nat) (out : List Int), n = nr - b ∧ b ≤ nr ∧ Memo M ws nr out ∧ (∀ c, c < b → out[c]? = some (HB M ws nr c)) ∧ vs = [.ref 3 3 0, .ref 4 4 0, .int .i64 nr, .int .i64 b] ∧ S = ⟨[.arr 0 60 1 [eRel M], .arr 1 24 1 [eInts ws], .arr 2 3 1 ((out).map (.int .i64)), .arr 3 24 1 [.loc 2 2 0 nr], .arr 4 69 1 [.fn 114 [.ref 3 3 0, .ref 0 0 0, .ref 4 4 0, .ref 1 1 0]]], 5⟩) nr ?_ ?_
 ·refine ⟨5, 0, List.replicate nr 0, rfl, by omega, memo_zero, fun c h => absurd h (by omega), ?_, ?_⟩
  ·simp [Env.put, Env.of, argEnv, hsq]
  ·simp [take_eq, spl, hsq]
 rintro n vs S - ⟨b, out, rfl, h_b, hm, hdone, rfl, rfl⟩
 refine W.seq_region fun K hK => ?_
 simp (disch := omega) only [↓RU, RV, RH, ↓reduceIte, reduceEqDiff, reduceCtorEq, if_pos, w64, ↓RS, RG, reduceAdd, reduceMul, reduceLeDiff, tyint]
 refine hK _ _ ?_;clear hK K
 refine W.seq ?_
 refine W.cond rfl (fun h => ?_) (fun h => ?_)
 ·try simp only [RL] at h
  have hbn : b < nr := by omega
  refine W.skip ?_
  refine XThen.norm ?_
  refine W.seq ?_
  refine W.block ?_
  refine W.seq_region fun K hK => ?_
  simp (disch := omega) only [↓RU, RV, RH, ↓reduceIte, reduceEqDiff, reduceCtorEq, if_pos, ↓RS, RG, reduceAdd, reduceMul, reduceLeDiff]
  refine hK _ _ ?_;clear hK K
  refine W.region_k fun K hK => ?_
  simp (disch := omega) only [↓RU, RV, RH, ↓reduceIte, reduceEqDiff, reduceCtorEq, if_pos, List.append_nil, ↓RS, RG, reduceAdd, reduceMul, reduceLeDiff, ty9]
  refine CallR.ev (heavy_ev hu hn hwl hw (rk b + 1) b (by omega) hbn out hm) ?_
  rintro _ _ ⟨rfl, out2, hm2, hk2, ho2, rfl⟩
  simp (disch := omega) only [↓RU, RV, RH, ↓reduceIte, reduceEqDiff, reduceCtorEq, if_pos, List.append_nil, ↓RS, RG, reduceAdd, reduceMul, reduceLeDiff, ty9]
  refine hK _ _ ?_;clear hK K
  refine XBlock.norm ?_
  refine XThen.norm ?_
  refine W.region_k fun K hK => ?_
  simp (disch := omega) only [↓RU, RV, RH, ↓reduceIte, reduceEqDiff, reduceCtorEq, if_pos, w64, ↓RS, RG, reduceAdd, reduceMul, reduceLeDiff, tyint]
  refine hK _ _ ?_;clear hK K
  refine XThen.norm ?_
  refine ⟨nr - (b + 1), by omega, 5, b + 1, out2, rfl, by omega, hm2, ?_, ?_, rfl⟩
  ·intro c hc
   by_cases e : c = b
   ·subst e; exact ho2
   ·have h1 := hdone c (by omega)
    exact hk2 c _ h1 (by have := HB_pos (M := M) (n := nr) hw (b := c) (by omega); omega)
  ·simp [Env.put, Env.of]
 ·try simp only [RL] at h
  obtain rfl : nr = b := by omega
  obtain rfl := memo_all hm hdone
  refine W.exit ?_
  refine XThen.exit ?_
  refine XThen.exit ?_
  refine XBlock.hit ?_
  refine XThen.norm ?_
  refine W.joinS [4] (fun vs S => ∃ v t : Nat, vs = [.loc 0 v 0 nr] ∧ S = ⟨[.arr v 3 1 ((heaviest M ws nr).map (.int .i64))], t⟩) ?_ ?_
  ·
   refine W.region_k fun K hK => ?_
   simp (disch := omega) only [↓RU, RV, RH, ↓reduceIte, reduceEqDiff, reduceCtorEq, if_pos, ↓RS, RG, reduceAdd, reduceMul, reduceLeDiff, tyLint, tyint]
   refine hK _ _ ?_;clear hK K
   refine XThen.norm ?_
   refine ⟨0, [2], [.loc 0 5 0 nr], ⟨[.arr 5 3 1 ((heaviest M ws nr).map (.int .i64))], 6⟩, ?_, ?_, 5, 6, rfl, rfl⟩
   ·simp [-List.mapM_map, Env.put, Env.of, argEnv, Srn_eq, rnObs_cons, rnObs_nil, rnOb_arr, rnOb_map, rn_loc, rn_ref, rn_mp, rn_int, rn_bool, rn_str, rn_ip, rn_sl, rn_nils, rn_nilp, rn_undef, rn_agg, rn_tup, rn_fn, rfq_loc, rfq_int, rfq_bool, rfq_str, rfq_sl, frOf, List.range_succ, List.mapM_append, List.mapM_cons]
   ·simp [-List.mapM_map, Env.put, Env.of, argEnv, Srn_eq, rnObs_cons, rnObs_nil, rnOb_arr, rnOb_map, rn_loc, rn_ref, rn_mp, rn_int, rn_bool, rn_str, rn_ip, rn_sl, rn_nils, rn_nilp, rn_undef, rn_agg, rn_tup, rn_fn, rfq_loc, rfq_int, rfq_bool, rfq_str, rfq_sl, frOf, List.range_succ, List.mapM_append, List.mapM_cons, rn_ints]
  rintro vs S - ⟨v, t, rfl, rfl⟩
  refine W.ret ?_
  refine BodyQ.ret rfl ?_
  exact sh_one rfl (sh_ints _)
theorem max_pc {l : List Int} {x0 : Int} (h0 : l[0]? = some x0) (hl : l.length < 2147483648) : PC Tryz.prog 56 [eInts l] (.int .i64 (maxL l)) true := by
 have hl0 := len_of h0
 refine PC.of ⟨Tryz.func56, by kernel_rfl, rfl, by kernel_rfl⟩ tabOk mixed (by show 1 ≤ Tryz.f56.ntmps; decide) ?_
 refine W.seq_region fun K hK => ?_
 simp (disch := omega) only [↓RU, RV, RH, ↓reduceIte, reduceEqDiff, reduceCtorEq, if_pos]
 refine hK _ _ ?_;clear hK K
 refine W.seq ?_
 refine W.seq_region fun K hK => ?_
 simp (disch := omega) only [↓RU, RV, RH, ↓reduceIte, reduceEqDiff, reduceCtorEq, if_pos, w64, tyLint, tyint]
 refine hK _ _ ?_;clear hK K
 refine W.cond rfl (fun h => ?_) (fun h => ?_)
 ·try simp only [RL] at h
  exfalso; omega
 ·try simp only [RL] at h
  refine W.skip ?_
  refine XThen.norm ?_
  refine W.seq_region fun K hK => ?_
  simp (disch := omega) only [↓RU, RV, RH, ↓reduceIte, reduceEqDiff, reduceCtorEq, if_pos, tyLint, tyint, h0, Int.toNat_zero, Nat.zero_mul, Int.reduceToNat]
  refine hK _ _ ?_;clear hK K
  refine W.seq ?_
  refine W.seq_region fun K hK => ?_
  simp (disch := omega) only [↓RU, RV, RH, ↓reduceIte, reduceEqDiff, reduceCtorEq, if_pos]
  refine hK _ _ ?_;clear hK K
  refine W.block ?_
  refine W.loop [0, 3, 4] (fun n vs S => ∃ i : Nat, n = l.length - i ∧ i ≤ l.length ∧ (1 ≤ i) ∧ vs = [eInts l, .int .i64 (((l.take i).drop 1).foldl max x0), .int .i64 i] ∧ S = ⟨[], 0⟩) (l.length - 1) ?_ ?_
  ·refine ⟨0, 1, rfl, by omega, Nat.le_refl _, ?_, rfl⟩
   simp [Env.put, Env.of, argEnv, maxL_start]
  rintro n vs S - ⟨i, rfl, h_i, h1i, rfl, rfl⟩
  refine W.seq ?_
  refine W.seq_region fun K hK => ?_
  simp (disch := omega) only [↓RU, RV, RH, ↓reduceIte, reduceEqDiff, reduceCtorEq, if_pos, w64, tyLint, tyint]
  refine hK _ _ ?_;clear hK K
  refine W.cond rfl (fun h1 => ?_) (fun h1 => ?_)
  ·try simp only [RL] at h1
   obtain ⟨x, hx, -⟩ := get_of (show i < l.length by omega)
   refine W.skip ?_
   refine XThen.norm ?_
   refine W.seq ?_
   refine W.block ?_
   refine W.region_k fun K hK => ?_
   simp (disch := omega) only [↓RU, RV, RH, ↓reduceIte, reduceEqDiff, reduceCtorEq, if_pos, ite_max, tyLint, tyint, hx]
   refine hK _ _ ?_;clear hK K
   refine XBlock.norm ?_
   refine XThen.norm ?_
   refine W.region_k fun K hK => ?_
   simp (disch := omega) only [↓RU, RV, RH, ↓reduceIte, reduceEqDiff, reduceCtorEq, if_pos, w64, tyint]
   refine hK _ _ ?_;clear hK K
   refine XThen.norm ?_
   refine ⟨l.length - (i + 1), by omega, 0, i + 1, rfl, by omega, by omega, ?_, rfl⟩
   rw [maxL_step h1i hx]
   simp [Env.put, Env.of]
  ·try simp only [RL] at h1
   refine W.exit ?_
   refine XThen.exit ?_
   refine XThen.exit ?_
   refine XBlock.hit ?_
   refine XThen.norm ?_
   refine W.seq_region fun K hK => ?_
   simp (disch := omega) only [↓RU, RV, RH, ↓reduceIte, reduceEqDiff, reduceCtorEq, if_pos]
   refine hK _ _ ?_;clear hK K
   refine W.ret ?_
   refine BodyQ.ret rfl ?_
   rw [maxL_end h0 (by omega)]
   rfl
theorem sizeWide_pc {p : List Txt} (hs : Sm p) {ws : List Int} (hw : ws.length ≤ 1048576) (hrm : plainI p = true → RmOk (gP p) p.length (w0 (readG p)) (rP p).length) (hup : plainI p = true → ∃ rk, Up (leftG (gP p) p.length (w0 (readG p)) (rP p).length) (rP p).length rk) : PC Tryz.prog 17 [eStrs p, eInts ws] (sizeV (needV p [ws]) (leftG (gP p) p.length (w0 (readG p)) (rP p).length) ws (rP p).length) true := by
 refine PC.of ⟨Tryz.func17, by kernel_rfl, rfl, by kernel_rfl⟩ tabOk mixed (by show 2 ≤ Tryz.f17.ntmps; decide) ?_
 refine W.seq_region fun K hK => ?_
 simp (disch := omega) only [↓RU, RV, RH, ↓reduceIte, reduceEqDiff, reduceCtorEq, if_pos, ↓RS, RG, reduceAdd, reduceMul, reduceLeDiff]
 refine hK _ _ ?_;clear hK K
 refine W.seq_region fun K hK => ?_
 simp (disch := omega) only [↓RU, RV, RH, ↓reduceIte, reduceEqDiff, reduceCtorEq, if_pos, List.append_nil, ↓RS, RG, reduceAdd, reduceMul, reduceLeDiff, ty1, tyLint, tyint]
 refine CallR.ev (needing_ev hs (wss := [ws]) (by simp) (by intro a ha; rw [List.mem_singleton] at ha; subst ha; exact hw)) ?_
 rintro _ _ ⟨x, rfl, hx, rfl⟩
 simp (disch := omega) only [↓RU, RV, RH, ↓reduceIte, reduceEqDiff, reduceCtorEq, if_pos, List.append_nil, ↓RS, RG, reduceAdd, reduceMul, reduceLeDiff, ty1, tyLint, tyint]
 refine hK _ _ ?_;clear hK K
 refine W.seq ?_
 refine W.seq_region fun K hK => ?_
 simp (disch := omega) only [↓RU, RV, RH, ↓reduceIte, reduceEqDiff, reduceCtorEq, if_pos, ↓RS, RG, reduceAdd, reduceMul, reduceLeDiff]
 refine hK _ _ ?_;clear hK K
 refine W.cond rfl (fun h => ?_) (fun h => ?_)
 ·try simp only [RL] at h
  refine W.seq_region fun K hK => ?_
  simp (disch := omega) only [↓RU, RV, RH, ↓reduceIte, reduceEqDiff, reduceCtorEq, if_pos, ↓RS, RG, reduceAdd, reduceMul, reduceLeDiff]
  refine hK _ _ ?_;clear hK K
  refine W.ret ?_
  refine XThen.ret ?_
  refine BodyQ.ret rfl ?_
  rw [h]
  rfl
 ·try simp only [RL] at h
  obtain rfl := hx h
  obtain ⟨hpl, hwl, hwok⟩ := needV_one h
  have hok := (plain_okB hpl).1
  have hg := okB_gw hok
  have hn9 := okB_rooms hok
  have hn1 := okB_rooms1 hok
  obtain ⟨rk, hu⟩ := hup hpl
  have hhl := heaviest_len (M := (leftG (gP p) p.length (w0 (readG p)) (rP p).length)) (ws := ws) (n := (rP p).length)
  obtain ⟨y0, hy0, -⟩ := get_of (show 0 < (heaviest (leftG (gP p) p.length (w0 (readG p)) (rP p).length) ws (rP p).length).length by omega)
  refine W.skip ?_
  refine XThen.norm ?_
  refine W.seq_region fun K hK => ?_
  simp (disch := omega) only [↓RU, RV, RH, ↓reduceIte, reduceEqDiff, reduceCtorEq, if_pos, List.append_nil, ↓RS, RG, reduceAdd, reduceMul, reduceLeDiff, ty0, ty2, tybool, ty12, ty14, ty22]
  refine CallR.pc (orders_pc hg rfl hn9 (hrm hpl)) rfl (.inl rfl) ?_
  simp (disch := omega) only [↓RU, RV, RH, ↓reduceIte, reduceEqDiff, reduceCtorEq, if_pos, List.append_nil, ↓RS, RG, reduceAdd, reduceMul, reduceLeDiff, ty0, ty2, tybool, ty12, ty14, ty22]
  refine CallR.pn (heaviest_pn hu hn9 hwl hwok) rfl (.inl rfl) ?_
  simp (disch := omega) only [↓RU, RV, RH, ↓reduceIte, reduceEqDiff, reduceCtorEq, if_pos, List.append_nil, ↓RS, RG, reduceAdd, reduceMul, reduceLeDiff, ty0, ty2, tybool, ty12, ty14, ty22, RN]
  refine CallR.pc (max_pc hy0 (by omega)) (mapM_one (reify_hv (k := 8) rfl) rfl) (.inl rfl) ?_
  simp (disch := omega) only [↓RU, RV, RH, ↓reduceIte, reduceEqDiff, reduceCtorEq, if_pos, List.append_nil, ↓RS, RG, reduceAdd, reduceMul, reduceLeDiff, ty0, ty2, tybool, ty12, ty14, ty22]
  refine hK _ _ ?_;clear hK K
  refine W.ret ?_
  refine BodyQ.ret rfl ?_
  rw [h]
  rfl
theorem sizeHigh_pc {p : List Txt} (hs : Sm p) {ws : List Int} (hw : ws.length ≤ 1048576) (hrm : plainI p = true → RmOk (gP p) p.length (w0 (readG p)) (rP p).length) (hup : plainI p = true → ∃ rk, Up (aboveG (gP p) p.length (w0 (readG p)) (rP p).length) (rP p).length rk) : PC Tryz.prog 14 [eStrs p, eInts ws] (sizeV (needV p [ws]) (aboveG (gP p) p.length (w0 (readG p)) (rP p).length) ws (rP p).length) true := by
 refine PC.of ⟨Tryz.func14, by kernel_rfl, rfl, by kernel_rfl⟩ tabOk mixed (by show 2 ≤ Tryz.f14.ntmps; decide) ?_
 refine W.seq_region fun K hK => ?_
 simp (disch := omega) only [↓RU, RV, RH, ↓reduceIte, reduceEqDiff, reduceCtorEq, if_pos, ↓RS, RG, reduceAdd, reduceMul, reduceLeDiff]
 refine hK _ _ ?_;clear hK K
 refine W.seq_region fun K hK => ?_
 simp (disch := omega) only [↓RU, RV, RH, ↓reduceIte, reduceEqDiff, reduceCtorEq, if_pos, List.append_nil, ↓RS, RG, reduceAdd, reduceMul, reduceLeDiff, ty1, tyLint, tyint]
 refine CallR.ev (needing_ev hs (wss := [ws]) (by simp) (by intro a ha; rw [List.mem_singleton] at ha; subst ha; exact hw)) ?_
 rintro _ _ ⟨x, rfl, hx, rfl⟩
 simp (disch := omega) only [↓RU, RV, RH, ↓reduceIte, reduceEqDiff, reduceCtorEq, if_pos, List.append_nil, ↓RS, RG, reduceAdd, reduceMul, reduceLeDiff, ty1, tyLint, tyint]
 refine hK _ _ ?_;clear hK K
 refine W.seq ?_
 refine W.seq_region fun K hK => ?_
 simp (disch := omega) only [↓RU, RV, RH, ↓reduceIte, reduceEqDiff, reduceCtorEq, if_pos, ↓RS, RG, reduceAdd, reduceMul, reduceLeDiff]
 refine hK _ _ ?_;clear hK K
 refine W.cond rfl (fun h => ?_) (fun h => ?_)
 ·try simp only [RL] at h
  refine W.seq_region fun K hK => ?_
  simp (disch := omega) only [↓RU, RV, RH, ↓reduceIte, reduceEqDiff, reduceCtorEq, if_pos, ↓RS, RG, reduceAdd, reduceMul, reduceLeDiff]
  refine hK _ _ ?_;clear hK K
  refine W.ret ?_
  refine XThen.ret ?_
  refine BodyQ.ret rfl ?_
  rw [h]
  rfl
 ·try simp only [RL] at h
  obtain rfl := hx h
  obtain ⟨hpl, hwl, hwok⟩ := needV_one h
  have hok := (plain_okB hpl).1
  have hg := okB_gw hok
  have hn9 := okB_rooms hok
  have hn1 := okB_rooms1 hok
  obtain ⟨rk, hu⟩ := hup hpl
  have hhl := heaviest_len (M := (aboveG (gP p) p.length (w0 (readG p)) (rP p).length)) (ws := ws) (n := (rP p).length)
  obtain ⟨y0, hy0, -⟩ := get_of (show 0 < (heaviest (aboveG (gP p) p.length (w0 (readG p)) (rP p).length) ws (rP p).length).length by omega)
  refine W.skip ?_
  refine XThen.norm ?_
  refine W.seq_region fun K hK => ?_
  simp (disch := omega) only [↓RU, RV, RH, ↓reduceIte, reduceEqDiff, reduceCtorEq, if_pos, List.append_nil, ↓RS, RG, reduceAdd, reduceMul, reduceLeDiff, ty0, ty2, tybool, ty12, ty14, ty22]
  refine CallR.pc (orders_pc hg rfl hn9 (hrm hpl)) rfl (.inl rfl) ?_
  simp (disch := omega) only [↓RU, RV, RH, ↓reduceIte, reduceEqDiff, reduceCtorEq, if_pos, List.append_nil, ↓RS, RG, reduceAdd, reduceMul, reduceLeDiff, ty0, ty2, tybool, ty12, ty14, ty22]
  refine CallR.pn (heaviest_pn hu hn9 hwl hwok) rfl (.inl rfl) ?_
  simp (disch := omega) only [↓RU, RV, RH, ↓reduceIte, reduceEqDiff, reduceCtorEq, if_pos, List.append_nil, ↓RS, RG, reduceAdd, reduceMul, reduceLeDiff, ty0, ty2, tybool, ty12, ty14, ty22, RN]
  refine CallR.pc (max_pc hy0 (by omega)) (mapM_one (reify_hv (k := 8) rfl) rfl) (.inl rfl) ?_
  simp (disch := omega) only [↓RU, RV, RH, ↓reduceIte, reduceEqDiff, reduceCtorEq, if_pos, List.append_nil, ↓RS, RG, reduceAdd, reduceMul, reduceLeDiff, ty0, ty2, tybool, ty12, ty14, ty22]
  refine hK _ _ ?_;clear hK K
  refine W.ret ?_
  refine BodyQ.ret rfl ?_
  rw [h]
  rfl
theorem pEq_bb {S : Store} {a b : Bool} : pEq tab S 4 (.bool a) (.bool b) = some (a == b) := rfl
theorem all_rm {p : List Txt} (h : plainI p = true) : RmOk (gP p) p.length (w0 (readG p)) (rP p).length := (plan_all h).1
theorem all_up0 {p : List Txt} (h : plainI p = true) : ∃ rk, Up (leftG (gP p) p.length (w0 (readG p)) (rP p).length) (rP p).length rk := (plan_all h).2.1
theorem all_up1 {p : List Txt} (h : plainI p = true) : ∃ rk, Up (aboveG (gP p) p.length (w0 (readG p)) (rP p).length) (rP p).length rk := (plan_all h).2.2


section
section
variable {n : Nat} {M X : List (List Bool)}
def rvB (M : List (List Bool)) (a : Nat) (X : List (List Bool)) (b : Nat) : List (List Bool) := setB X b a (getB M a b)
def rvA (n : Nat) (M : List (List Bool)) (X : List (List Bool)) (a : Nat) : List (List Bool) := (List.range n).foldl (rvB M a) X
def rv (n : Nat) (M : List (List Bool)) : List (List Bool) := (List.range n).foldl (rvA n M) (emptyM n)
end
end





section
section
variable {S : Store} {fr : Nat → Bool} {f : Nat}
end
end




def LgK (n : Nat) (B : Int) (out : List Int) : Prop := out.length = n ∧ ∀ a, a < n → 0 ≤ getI out a ∧ getI out a ≤ B
theorem LgK.set {n : Nat} {B : Int} {out : List Int} (h : LgK n B out) {a : Nat} {v : Int} (ha : a < n) (h0 : 0 ≤ v) (h1 : v ≤ B) : LgK n B (out.set a v) := by
 refine ⟨by simp [h.1], fun y hy => ?_⟩
 rw [getI_set (by rw [h.1]; exact ha)]
 split
 ·exact ⟨h0, h1⟩
 ·exact h.2 y hy
theorem LgK.up {n : Nat} {B C : Int} {out : List Int} (h : LgK n B out) (hBC : B ≤ C) : LgK n C out := ⟨h.1, fun y hy => by have := h.2 y hy; omega⟩
def wideV (p : List Txt) (ws : List Int) : Int := if needV p [ws] then maxL (heaviest (lfM p) ws (rP p).length) else 0
theorem wideV_yes {p : List Txt} {ws : List Int} (h : needV p [ws] = true) : wideV p ws = maxL (heaviest (lfM p) ws (rP p).length) := by unfold wideV; rw [h]; rfl
theorem wideV_no {p : List Txt} {ws : List Int} (h : needV p [ws] = false) : wideV p ws = 0 := by unfold wideV; rw [h]; rfl
theorem sizeWide_v {p : List Txt} (hs : Sm p) {ws : List Int} (hw : ws.length ≤ 1048576) : PC Tryz.prog 17 [eStrs p, eInts ws] (.tup [.int .i64 (wideV p ws), .bool (needV p [ws])]) true := by
 have h := sizeWide_pc hs hw all_rm all_up0
 unfold sizeV at h
 cases hv : needV p [ws] with
 | false => rw [hv] at h; rw [wideV_no hv]; exact h
 | true => rw [hv, lf_eq] at h; rw [wideV_yes hv]; exact h
def highV (p : List Txt) (ws : List Int) : Int := if needV p [ws] then maxL (heaviest (abM p) ws (rP p).length) else 0
theorem highV_yes {p : List Txt} {ws : List Int} (h : needV p [ws] = true) : highV p ws = maxL (heaviest (abM p) ws (rP p).length) := by unfold highV; rw [h]; rfl
theorem highV_no {p : List Txt} {ws : List Int} (h : needV p [ws] = false) : highV p ws = 0 := by unfold highV; rw [h]; rfl
theorem sizeHigh_v {p : List Txt} (hs : Sm p) {ws : List Int} (hw : ws.length ≤ 1048576) : PC Tryz.prog 14 [eStrs p, eInts ws] (.tup [.int .i64 (highV p ws), .bool (needV p [ws])]) true := by
 have h := sizeHigh_pc hs hw all_rm all_up1
 unfold sizeV at h
 cases hv : needV p [ws] with
 | false => rw [hv] at h; rw [highV_no hv]; exact h
 | true => rw [hv, ab_eq] at h; rw [highV_yes hv]; exact h
theorem trans_needs {p T : List Txt} {ws l : List Int} {σ : Nat → Nat} (hv : needV p [ws] = true) (h : Iso p T (Ab p) (Lf p) σ) (hl : l.length = (rP p).length) (hg : ∀ a, a < (rP p).length → getI l (σ a) = getI ws a) :
  needV T [l] = true ∧ wideV T l = highV p ws := by
 obtain ⟨u1, u2, q1, q2, q3, q4, hp⟩ := needV_all hv
 have hvT : plainI T = true := by rw [plainI_plain]; exact h.pl
 have hnT : needV T [l] = true := by
  unfold needV
  rw [hvT]
  simp only [Bool.true_and, List.all_cons, List.all_nil, Bool.and_true]
  unfold needW
  rw [h.n, decide_eq_true hl, Bool.true_and, List.all_eq_true]
  intro x hx
  obtain ⟨b, hb⟩ := List.getElem?_of_mem hx
  obtain ⟨a, ha, rfl⟩ := surj_of h.lt h.inj (show b < (rP p).length by have := len_of hb; omega)
  have e := hg a ha
  rw [getI_is hb] at e
  have := need_at q4 (show a < ws.length by omega)
  unfold needB
  simp only [Bool.and_eq_true, decide_eq_true_eq]
  omega
 refine ⟨hnT, ?_⟩
 obtain ⟨v1, -, -, -, -, -, -⟩ := needV_all hnT
 rw [h.n] at v1
 rw [wideV_yes hnT, highV_yes hv, h.n]
 exact max_ren u2 v1 q2 h.lt h.inj (fun a b ha hb => h.lf a b ha hb) hg
theorem cell_of {p : List Txt} (hp : planB p = true) {i j : Nat} (hi : i < p.length) (hj : j < (hdRow p).length) : ∃ row c, p[i]? = some row ∧ row.length = (hdRow p).length ∧ row[j]? = some c ∧ (c.toNat : Int) - 97 = ((cn (gP p) i j : Nat) : Int) := by
 obtain ⟨row, hrow, hm⟩ := get_of hi
 have hl := grid_rows (planB_grid hp) row hm
 obtain ⟨c, hc, -⟩ := get_of (show j < row.length by omega)
 exact ⟨row, c, hrow, hl, hc, by rw [cn_cell hp hi hj, cellZ_is hrow hc]⟩
theorem sSizeHigh_pc {p : List Txt} (hs : Sm p) {needs : List Int} (hw : needs.length ≤ 1048576) : PC Tryz.prog 15 [eStrs p, eInts needs] (.tup [.int .i64 (highV p needs), .bool (needV p [needs])]) true := by
 refine PC.of ⟨Tryz.func15, by kernel_rfl, rfl, by kernel_rfl⟩ tabOk mixed (by show 2 ≤ Tryz.f15.ntmps; decide) ?_
 refine W.seq_region fun K hK => ?_
 simp (disch := omega) only [↓RU, RV, RH, ↓reduceIte, reduceEqDiff, reduceCtorEq, if_pos, ↓RS, RG, reduceAdd, reduceMul, reduceLeDiff]
 refine hK _ _ ?_;clear hK K
 refine W.seq ?_
 refine W.seq_region fun K hK => ?_
 simp (disch := omega) only [↓RU, RV, RH, ↓reduceIte, reduceEqDiff, reduceCtorEq, if_pos, List.append_nil, ↓RS, RG, reduceAdd, reduceMul, reduceLeDiff]
 refine CallR.pc (l7Needs_pc hs hw) rfl (.inl rfl) ?_
 simp (disch := omega) only [↓RU, RV, RH, ↓reduceIte, reduceEqDiff, reduceCtorEq, if_pos, List.append_nil, ↓RS, RG, reduceAdd, reduceMul, reduceLeDiff]
 refine hK _ _ ?_;clear hK K
 refine W.cond rfl (fun h0 => ?_) (fun h0 => ?_)
 ·try simp only [RL] at h0
  have hv : needV p [needs] = false := by rw [needV_needs]; simpa using h0
  refine W.seq_region fun K hK => ?_
  simp (disch := omega) only [↓RU, RV, RH, ↓reduceIte, reduceEqDiff, reduceCtorEq, if_pos, ↓RS, RG, reduceAdd, reduceMul, reduceLeDiff]
  refine hK _ _ ?_;clear hK K
  refine W.ret ?_
  refine XThen.ret ?_
  refine BodyQ.ret rfl ?_
  rw [highV_no hv, hv]
  rfl
 ·try simp only [RL] at h0
  have hg : needsB p needs = true := by simpa using h0
  have hv : needV p [needs] = true := by rw [needV_needs]; exact hg
  obtain ⟨k1, k2, k3, k4, k5, k6⟩ := needsB_ok hg
  refine W.skip ?_
  refine XThen.norm ?_
  refine W.seq_region fun K hK => ?_
  simp (disch := omega) only [↓RU, RV, RH, ↓reduceIte, reduceEqDiff, reduceCtorEq, if_pos, List.append_nil, ↓RS, RG, reduceAdd, reduceMul, reduceLeDiff]
  refine CallR.pc (l7Least_pc hs k2 k3 k4 k6 1) rfl (.inl rfl) ?_
  simp (disch := omega) only [↓RU, RV, RH, ↓reduceIte, reduceEqDiff, reduceCtorEq, if_pos, List.append_nil, ↓RS, RG, reduceAdd, reduceMul, reduceLeDiff]
  refine hK _ _ ?_;clear hK K
  refine W.ret ?_
  refine BodyQ.ret rfl ?_
  rw [highV_yes hv, hv, ← ab_eq, (plan_least hv).2]
  rfl
theorem highNeeds_law {code : Txt} (hcode : code.length ≤ 9223372036854775807) : PC Tryz.prog 3 [eBy code] (.bool true) true := by
 refine PC.of ⟨Tryz.func3, by kernel_rfl, rfl, by kernel_rfl⟩ tabOk mixed (by show 1 ≤ Tryz.f3.ntmps; decide) ?_
 refine W.seq_region fun K hK => ?_
 simp (disch := omega) only [↓RU, RV, RH, ↓reduceIte, reduceEqDiff, reduceCtorEq, if_pos, ↓RS, RG, reduceAdd, reduceMul, reduceLeDiff]
 refine hK _ _ ?_;clear hK K
 refine W.seq ?_
 refine W.seq_region fun K hK => ?_
 simp (disch := omega) only [↓RU, RV, RH, ↓reduceIte, reduceEqDiff, reduceCtorEq, if_pos, w64, ↓RS, RG, reduceAdd, reduceMul, reduceLeDiff, ty6, tyint, ty26]
 refine hK _ _ ?_;clear hK K
 refine W.cond rfl (fun h0 => ?_) (fun h0 => ?_)
 ·try simp only [RL] at h0
  refine W.seq_region fun K hK => ?_
  simp (disch := omega) only [↓RU, RV, RH, ↓reduceIte, reduceEqDiff, reduceCtorEq, if_pos, ↓RS, RG, reduceAdd, reduceMul, reduceLeDiff]
  refine hK _ _ ?_;clear hK K
  refine W.ret ?_
  refine XThen.ret ?_
  refine BodyQ.ret rfl ?_
  rfl
 ·try simp only [RL] at h0
  have hcl : code.length ≤ 1048576 := by omega
  refine W.skip ?_
  refine XThen.norm ?_
  refine W.seq_region fun K hK => ?_
  simp (disch := omega) only [↓RU, RV, RH, ↓reduceIte, reduceEqDiff, reduceCtorEq, if_pos, List.append_nil, ↓RS, RG, reduceAdd, reduceMul, reduceLeDiff]
  refine CallR.ev (drawSizeHigh_ev hcl) ?_
  rintro _ _ ⟨p, ws, t, hs, hwl, rfl, rfl⟩
  simp (disch := omega) only [↓RU, RV, RH, ↓reduceIte, reduceEqDiff, reduceCtorEq, if_pos, List.append_nil, ↓RS, RG, reduceAdd, reduceMul, reduceLeDiff]
  refine hK _ _ ?_;clear hK K
  refine W.seq_region fun K hK => ?_
  simp (disch := omega) only [↓RU, RV, RH, ↓reduceIte, reduceEqDiff, reduceCtorEq, if_pos, List.append_nil, ↓RS, RG, reduceAdd, reduceMul, reduceLeDiff]
  refine CallR.pc (sizeHigh_v hs (by omega)) rfl (.inl rfl) ?_
  simp (disch := omega) only [↓RU, RV, RH, ↓reduceIte, reduceEqDiff, reduceCtorEq, if_pos, List.append_nil, ↓RS, RG, reduceAdd, reduceMul, reduceLeDiff]
  refine hK _ _ ?_;clear hK K
  refine W.seq_region fun K hK => ?_
  simp (disch := omega) only [↓RU, RV, RH, ↓reduceIte, reduceEqDiff, reduceCtorEq, if_pos, List.append_nil, ↓RS, RG, reduceAdd, reduceMul, reduceLeDiff]
  refine CallR.pc (sSizeHigh_pc hs (by omega)) rfl (.inl rfl) ?_
  simp (disch := omega) only [↓RU, RV, RH, ↓reduceIte, reduceEqDiff, reduceCtorEq, if_pos, List.append_nil, ↓RS, RG, reduceAdd, reduceMul, reduceLeDiff]
  refine hK _ _ ?_;clear hK K
  refine W.seq ?_
  refine W.seq_region fun K hK => ?_
  cases hv : needV p [ws]
  ·skip
   simp (disch := omega) only [↓RU, RV, RH, ↓reduceIte, reduceEqDiff, reduceCtorEq, if_pos, w64, ↓RS, RG, reduceAdd, reduceMul, reduceLeDiff, tybool, tyint, pEq_bb, Option.map_some, bne_self_eq_false, beq_self_eq_true, Bool.not_true, Bool.not_false, decide_true, hv]
   refine hK _ _ ?_;clear hK K
   refine W.cond rfl (fun h1 => ?_) (fun h1 => ?_)
   ·try simp only [RL] at h1
    refine W.seq_region fun K hK => ?_
    simp (disch := omega) only [↓RU, RV, RH, ↓reduceIte, reduceEqDiff, reduceCtorEq, if_pos, w64, ↓RS, RG, reduceAdd, reduceMul, reduceLeDiff, tybool, tyint, pEq_bb, Option.map_some, bne_self_eq_false, beq_self_eq_true, Bool.not_true, Bool.not_false, decide_true]
    refine hK _ _ ?_;clear hK K
    refine W.ret ?_
    refine XThen.ret ?_
    refine BodyQ.ret rfl ?_
    rfl
   ·try simp only [RL] at h1
    exact absurd h1 (by simp)
  ·skip
   simp (disch := omega) only [↓RU, RV, RH, ↓reduceIte, reduceEqDiff, reduceCtorEq, if_pos, w64, ↓RS, RG, reduceAdd, reduceMul, reduceLeDiff, tybool, tyint, pEq_bb, Option.map_some, bne_self_eq_false, beq_self_eq_true, Bool.not_true, Bool.not_false, decide_true, hv]
   refine hK _ _ ?_;clear hK K
   refine W.cond rfl (fun h1 => ?_) (fun h1 => ?_)
   ·try simp only [RL] at h1
    exact absurd h1 (by simp)
   ·try simp only [RL] at h1
    obtain ⟨u1, u2, q1, q2, q3, q4, hp⟩ := needV_all hv
    obtain ⟨d1, d2, d3, d4, -, -, -, -⟩ := plain_dims hp
    have hpl := plain_plan hp
    have hm := trans_made hp
    obtain ⟨σ, hσ, hiso⟩ := iso_trans hp hm.plan hm.ren
    have htl := hm.ren.hl
    have htw := hm.ren.wl
    refine W.skip ?_
    refine XThen.norm ?_
    refine W.seq_region fun K hK => ?_
    simp (disch := omega) only [↓RU, RV, RH, ↓reduceIte, reduceEqDiff, reduceCtorEq, if_pos, List.append_nil, ↓RS, RG, reduceAdd, reduceMul, reduceLeDiff]
    refine CallR.pc (planTrans_pc hs hp) rfl (.inr rfl) ?_
    simp (disch := omega) only [↓RU, RV, RH, ↓reduceIte, reduceEqDiff, reduceCtorEq, if_pos, List.append_nil, ↓RS, RG, reduceAdd, reduceMul, reduceLeDiff]
    refine hK _ _ ?_;clear hK K
    refine W.seq_region fun K hK => ?_
    simp (disch := omega) only [↓RU, RV, RH, ↓reduceIte, reduceEqDiff, reduceCtorEq, if_pos, ↓RS, RG, reduceAdd, reduceMul, reduceLeDiff, tyLint, tyint, q1, repz_int, ile_true]
    refine hK _ _ ?_;clear hK K
    refine W.seq ?_
    refine W.seq_region fun K hK => ?_
    simp (disch := omega) only [↓RU, RV, RH, ↓reduceIte, reduceEqDiff, reduceCtorEq, if_pos, ↓RS, RG, reduceAdd, reduceMul, reduceLeDiff]
    refine hK _ _ ?_;clear hK K
    refine W.block ?_
    refine W.loop [3, 4, 5, 9, 10, 11, 12] (fun n vs S => ∃ (i : Nat) (l : List Int), n = p.length - i ∧ i ≤ p.length ∧ l.length = (rP p).length ∧ (∀ x y : Nat, x < p.length → y < (hdRow p).length → (x < i ∨ (x = i ∧ y < 0)) → getI l (σ (cn (gP p) x y)) = getI ws (cn (gP p) x y)) ∧ vs = [eStrs p, eInts ws, .int .i64 (highV p ws), eStrs (nm (transG p)), .bool true, .loc 0 t 0 (rP p).length, .int .i64 i] ∧ S = ⟨[.arr t 3 1 (l.map (.int .i64))], t + 1⟩) p.length ?_ ?_
    ·refine ⟨1, 0, List.replicate (rP p).length 0, rfl, Nat.zero_le _, by simp, fun x y _ _ h => by omega, ?_, ?_⟩
     ·simp [Env.put, Env.of, argEnv]
     ·simp [take_eq]
    rintro n vs S - ⟨i, l, rfl, h_i, hll, hdone, rfl, rfl⟩
    refine W.seq ?_
    refine W.seq_region fun K hK => ?_
    simp (disch := omega) only [↓RU, RV, RH, ↓reduceIte, reduceEqDiff, reduceCtorEq, if_pos, w64, ↓RS, RG, reduceAdd, reduceMul, reduceLeDiff, ty5, tyint, tystring]
    refine hK _ _ ?_;clear hK K
    refine W.cond rfl (fun h2 => ?_) (fun h2 => ?_)
    ·try simp only [RL] at h2
     have hiH : i < p.length := by omega
     obtain ⟨row0, c0, hrow0, hrl0, -, -⟩ := cell_of hpl hiH (show 0 < (hdRow p).length by omega)
     refine W.skip ?_
     refine XThen.norm ?_
     refine W.seq ?_
     refine W.block ?_
     refine W.seq_region fun K hK => ?_
     simp (disch := omega) only [↓RU, RV, RH, ↓reduceIte, reduceEqDiff, reduceCtorEq, if_pos, ↓RS, RG, reduceAdd, reduceMul, reduceLeDiff]
     refine hK _ _ ?_;clear hK K
     refine W.block ?_
     refine W.loop [3, 4, 5, 9, 10, 11, 12, 13] (fun n vs S => ∃ (k : Nat) (m : List Int), n = (hdRow p).length - k ∧ k ≤ (hdRow p).length ∧ m.length = (rP p).length ∧ (∀ x y : Nat, x < p.length → y < (hdRow p).length → (x < i ∨ (x = i ∧ y < k)) → getI m (σ (cn (gP p) x y)) = getI ws (cn (gP p) x y)) ∧ vs = [eStrs p, eInts ws, .int .i64 (highV p ws), eStrs (nm (transG p)), .bool true, .loc 0 t 0 (rP p).length, .int .i64 i, .int .i64 k] ∧ S = ⟨[.arr t 3 1 (m.map (.int .i64))], t + 1⟩) (hdRow p).length ?_ ?_
     ·refine ⟨1, 0, l, rfl, Nat.zero_le _, hll, hdone, ?_, ?_⟩
      ·simp [Env.put, Env.of]
      ·simp [take_eq]
     rintro n vs S - ⟨k, m, rfl, h_k, hml, hdo2, rfl, rfl⟩
     refine W.seq ?_
     refine W.seq_region fun K hK => ?_
     simp (disch := omega) only [↓RU, RV, RH, ↓reduceIte, reduceEqDiff, reduceCtorEq, if_pos, w64, ↓RS, RG, reduceAdd, reduceMul, reduceLeDiff, ty5, tyint, tystring, hrow0, hrl0]
     refine hK _ _ ?_;clear hK K
     refine W.cond rfl (fun h3 => ?_) (fun h3 => ?_)
     ·try simp only [RL] at h3
      have hkW : k < (hdRow p).length := by omega
      obtain ⟨row, c, hrow, hrl, hc, hcz⟩ := cell_of hpl hiH hkW
      obtain ⟨trow, d, htrow, htrl, hd, hdz⟩ := cell_of hm.plan (i := k) (j := i) (by omega) (by omega)
      rw [hσ k i hkW hiH] at hdz
      have han := cn_lt (gP_room (p := p)) hiH hkW
      have hsn := hiso.lt _ han
      obtain ⟨w, hws, -⟩ := get_of (show cn (gP p) i k < ws.length by omega)
      have hcl2 := c.toNat_lt
      have hdl2 := d.toNat_lt
      refine W.skip ?_
      refine XThen.norm ?_
      refine W.seq ?_
      refine W.block ?_
      refine W.draw_k (by kernel_rfl) fun K hK => ?_
      simp (disch := omega) only [↓RU, RV, RH, ↓reduceIte, reduceEqDiff, reduceCtorEq, if_pos, w64, w64, ↓RS, RG, reduceAdd, reduceMul, reduceLeDiff, tyLint, ty5, tyint, tystring, ty26, hrow, hc, hcz, htrow, hd, hdz, hws, hml, q1, htl, set_spl, set_int]
      refine hK _ _ ?_;clear hK K
      refine XBlock.norm ?_
      refine XThen.norm ?_
      refine W.region_k fun K hK => ?_
      simp (disch := omega) only [↓RU, RV, RH, ↓reduceIte, reduceEqDiff, reduceCtorEq, if_pos, w64, ↓RS, RG, reduceAdd, reduceMul, reduceLeDiff, tyint]
      refine hK _ _ ?_;clear hK K
      refine XThen.norm ?_
      refine ⟨(hdRow p).length - (k + 1), by omega, 1, k + 1, m.set (σ (cn (gP p) i k)) w, rfl, by omega, by simp [hml], fun x y hx hy h => ?_, ?_, ?_⟩
      ·rw [getI_set (by omega)]
       by_cases e : σ (cn (gP p) x y) = σ (cn (gP p) i k)
       ·rw [if_pos e]
        have e2 := hiso.inj _ _ (cn_lt gP_room hx hy) han e
        rw [e2, getI_is hws]
       ·rw [if_neg e]
        refine hdo2 x y hx hy ?_
        rcases h with h | ⟨h, h3⟩
        ·exact .inl h
        ·subst h
         by_cases e3 : y = k
         ·subst e3; exact absurd rfl e
         ·exact .inr ⟨rfl, by omega⟩
      ·simp [Env.put, Env.of]
      ·simp [take_eq]
     ·try simp only [RL] at h3
      obtain rfl : k = (hdRow p).length := by omega
      refine W.exit ?_
      refine XThen.exit ?_
      refine XThen.exit ?_
      refine XBlock.hit ?_
      refine XBlock.norm ?_
      refine XThen.norm ?_
      refine W.region_k fun K hK => ?_
      simp (disch := omega) only [↓RU, RV, RH, ↓reduceIte, reduceEqDiff, reduceCtorEq, if_pos, w64, ↓RS, RG, reduceAdd, reduceMul, reduceLeDiff, tyint]
      refine hK _ _ ?_;clear hK K
      refine XThen.norm ?_
      refine ⟨p.length - (i + 1), by omega, 1, i + 1, m, rfl, by omega, hml, fun x y hx hy h => hdo2 x y hx hy (by omega), ?_, ?_⟩
      ·simp [Env.put, Env.of]
      ·simp [take_eq]
    ·try simp only [RL] at h2
     obtain rfl : i = p.length := by omega
     have hall : ∀ a, a < (rP p).length → getI l (σ a) = getI ws a := fun a ha => by obtain ⟨x, y, hx, hy, rfl⟩ := room_cell ha; exact hdone x y hx hy (.inl hx)
     obtain ⟨hnT, hwT⟩ := trans_needs hv hiso hll hall
     refine W.exit ?_
     refine XThen.exit ?_
     refine XThen.exit ?_
     refine XBlock.hit ?_
     refine XThen.norm ?_
     refine W.seq_region fun K hK => ?_
     simp (disch := omega) only [↓RU, RV, RH, ↓reduceIte, reduceEqDiff, reduceCtorEq, if_pos, List.append_nil, ↓RS, RG, reduceAdd, reduceMul, reduceLeDiff, hnT, hwT]
     refine CallR.pc (sizeWide_v hm.sm (ws := l) (by omega)) (mapM_one rfl (mapM_one ((reify_loc (k := 9) (n := (rP p).length) rfl (by simp [hll]) (mapM_int _)).trans (by rw [eInts, hll])) rfl)) (.inl rfl) ?_
     simp (disch := omega) only [↓RU, RV, RH, ↓reduceIte, reduceEqDiff, reduceCtorEq, if_pos, List.append_nil, ↓RS, RG, reduceAdd, reduceMul, reduceLeDiff, hnT, hwT]
     refine hK _ _ ?_;clear hK K
     refine W.seq_region fun K hK => ?_
     simp (disch := omega) only [↓RU, RV, RH, ↓reduceIte, reduceEqDiff, reduceCtorEq, if_pos, w64, ↓RS, RG, reduceAdd, reduceMul, reduceLeDiff, tyint, pEq_bb, Option.map_some, bne_self_eq_false, beq_self_eq_true, Bool.not_true, Bool.not_false, decide_true, beq_self_eq_true]
     refine hK _ _ ?_;clear hK K
     refine W.ret ?_
     refine BodyQ.ret rfl ?_
     rfl
end Fw
end Go.Proofs.YtclmfemhboogpaaGreat
namespace Go.Proofs.YtclmfemhboogpaaGreat
open Go Go.ChangeShapes Go.WideShapes Go.ChangeAt Go.RowKit Fw
theorem Tryz.ownRmb : ownKnob Tryz.prog.godebug = none := by kernel_rfl
theorem Tryz.laidOutRmb : laidOutB Tryz.prog = true := by kernel_rfl
set_option maxRecDepth 100000 in
theorem rmb_lifted (os : Os) (started : os.Started) (H : Type) (enc : TypeId × Value → H) :
  ReturnsInHanded {} Tryz.checked os 3 .any (Rows.fnHighNeedsSpec.pre6 enc Tryz.prog Tryz.f3 Rows.fnHighNeedsRow.domain false) (Rows.fnHighNeedsSpec.post enc Tryz.prog Tryz.f3 false true false false) := by
 refine returnsInHanded_of_change (C := Tryz.checked) Tryz.ownRmb started (by kernel_rfl) Tryz.func3
  (ChangeSpec.witness6 (enc := enc) (C := Tryz.checked) false ⟨#[], #[.slice none 0 0], []⟩ 8 (by kernel_rfl) (by kernel_rfl) (by kernel_rfl) (by kernel_rfl)) ?_
 intro W base args ds gs before hval0 hW hcnd _
 have hval : ∀ (j : Nat) t v, Tryz.f3.params[j]? = some t → args[j]? = some v → Value.okWide Tryz.prog W .any base t v := hval0
 have hW' := hW
 obtain ⟨p, q, hA0, hV, rfl, hfz, hnd⟩ := hW
 have hA : DataW.TrodAll enc Tryz.prog W 0 (fun _ => true) true Tryz.f3.params.toList args.toList ds p := hA0
 rw [Tryz.params3] at hA hval
 obtain ⟨v0, d0, rfl, rfl, h0⟩ := trodAll_one hA
 obtain ⟨rfl, rfl⟩ := trodVars_none hV
 obtain ⟨l0, i0, b0⟩ := vi_bytes (hval 0 _ v0 rfl rfl) h0
 have hlt : ∀ x ∈ p, x.block < W.heap.size := fun x hx => hW'.lt x (by simp [hx])
 refine ((highNeeds_law b0).run (fun b => b < W.heap.size) W #[v0] (fun _ h => h) rfl ?_).mono ?_
 ·rintro (_ | i) p c hp hc
  ·cases hp; cases hc; exact i0
  ·simp at hp
 ·rintro e W' ⟨cv, rfl, hB, hr⟩
  have hcv : cv = .bool true := by cases hr; rfl
  subst hcv
  have t0 := Below.trod Tryz.laidOutRmb (by kernel_rfl) (of_decide_eq_true (by kernel_rfl)) h0 hB fun x hx => hlt x (by simp [hx])
  refine ⟨_, rfl, _, _, _, [], p, [], hW', ?_, ?_, ?_, hB.frame _, fun h => by cases h⟩
  ·exact trodAll_mk1 (shut_bool Tryz.underlying4 true)
  ·rw [Tryz.params3]; exact trodAll_mk1 t0
  ·trivial
theorem rmb_holds : Rows.FnHighNeedsSaid :=
 OpenClaim.holds_of_wide 3 Tryz.f3 rfl rfl rfl rfl rfl rfl rfl ⟨rfl, rfl, rfl, rfl, rfl⟩ rfl rfl rfl rfl rfl (by kernel_rfl) Tryz.func3 (by kernel_rfl)
  (of_decide_eq_true (by kernel_rfl)) (by unfold Func.isWrapper; first | (rw [if_pos (by decide +kernel)]; kernel_rfl) | (rw [if_neg (by decide +kernel)]; exact ⟨rfl, rfl⟩))
  (fun os started H enc _ => rmb_lifted os started H enc)
end Go.Proofs.YtclmfemhboogpaaGreat
