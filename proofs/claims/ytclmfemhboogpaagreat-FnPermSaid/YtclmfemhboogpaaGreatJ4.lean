/- Parts of the framework and of the proof: The program's walls and orders are the specification's; The program's direct orders are the specification's; Sums and counts of cells; The least rectangle around cells, by the program; The least rectangle around a room and its cells, by the specification; Plans that are read are the specification's: grids and names; Plans that are read are the specification's: numbers of rooms and rectangles; Plans that are read are the specification's: rooms fill their rectangles; Areas by the program are the specification's; Areas by the program are the specification's, joined; Arguments of laws as plain data; A slice of bytes as an argument: plain data; Plans in which no four rooms meet: two orders of rooms go on without end, and each two rooms are in one; The program's closures and walls in words of cells: left of is going on from just left of, above is going on from just above; Orders of a plain plan: each two rooms are in just one; Rooms put in a row by how many are ahead of them; The two orders are orders of all rooms; the places of the second order in the first one; Where rooms begin and how far they may be moved: the program's lists are the specification's; Shapes in plain words: the program's least shapes are the specification's; Sizes in plain words: areas, places, slacks, longest rows; What the laws of sizes ask, of plans in plain words; Longest rows of rooms, as the specification finds them, in plain words; Longest growing parts of the permutation of a plan are longest rows of its rooms; Grids that are made of cells told by a function, gone through; Grids whose cells are alike are numbered alike; the text of a numbered grid is named as it should be; Orders of plans that are made of other plans: rows and columns exchanged, turned, seen from behind, made wide or tight; Plans that are made of other plans: their orders, their permutations and their least sizes; Upright cuts are where the permutation falls apart; Plans made of plans, gone through; Rows without neighbours that are the same; plans made tight; Plans made tight and wide; The framework, part z: a region in which the bytes of a text become a new row that is written later; Drawing: the reader, gone through; Plans that are cut, in plain words. -/
import Derived.Test.YtclmfemhboogpaaGreatJ3
import Derived.Test.YtclmfemhboogpaaGreatRows
import Derived.ProofKit
import Derived.SliceStrings
import Derived.Test.YtclmfemhboogpaaGreatJ1
import Derived.Lib.ConvBytes
import Derived.Test.YtclmfemhboogpaaGreatJ2
set_option linter.all false
namespace Go.Proofs.YtclmfemhboogpaaGreat
namespace Fw
open Go
open Nat (reduceEqDiff reduceLeDiff reduceAdd reduceMul)
def kk (lv : Bool) : Int := if lv then 1 else 0
def encW (w : Wall) : List Int := [kk w.level,w.line,w.fr,w.long]
def pendW (L : Nat) (f : Int) (i : Nat) : List (List Int) := if 0 ≤ f then [[(L : Int),f,(i : Int) - f]] else []
theorem wlLine_enc {g : List (List Int)} {q : List Txt} {lv : Bool} {L P : Nat} (hd : ∀ j,j < P → difG g lv L j = wallB q L j) {ws0 : List Wall} {pre s0 : List (List Int)} (h0 : ws0.map encW = pre ++ s0.map (kk lv :: ·)) : ∀ i,i ≤ P →
  -1 ≤ (upTo q L s0 i).1 ∧ (wlLine g lv L ws0 i).2 = decide (0 ≤ (upTo q L s0 i).1) ∧
  (wlLine g lv L ws0 i).1.map encW = pre ++ ((upTo q L s0 i).2 ++ pendW L (upTo q L s0 i).1 i).map (kk lv :: ·)
 | 0,_ => by
  refine ⟨by simp [upTo],by simp [wlLine_zero,upTo],?_⟩
  rw [wlLine_zero]
  simpa [upTo,pendW] using h0
 | i + 1,hi => by
  obtain ⟨h1,h2,h3⟩ := wlLine_enc hd h0 i (by omega)
  have hdi := hd i (by omega)
  rw [wlLine_succ]
  unfold upTo upStep
  rw [hdi]
  generalize wlLine g lv L ws0 i = s at h2 h3 ⊢
  obtain ⟨ws,op⟩ := s
  generalize upTo q L s0 i = u at h1 h2 h3 ⊢
  obtain ⟨f,l⟩ := u
  simp only at h1 h2 h3 ⊢
  cases hw : wallB q L i with
  | false =>
   simp only [wlStep,Bool.false_and,Bool.false_eq_true,if_false,Bool.not_false,Bool.true_and,decide_eq_true_eq]
   by_cases hf : 0 ≤ f
   ·rw [if_pos hf]
    refine ⟨by simp,by simp,?_⟩
    rw [h3]
    simp [pendW,hf]
   ·rw [if_neg hf]
    refine ⟨h1,by simp [hf],?_⟩
    rw [h3]
    simp [pendW,hf]
  | true =>
   simp only [wlStep,Bool.true_and,Bool.not_true,Bool.false_and,Bool.false_eq_true,if_false,if_true,decide_eq_true_eq]
   by_cases hf : 0 ≤ f
   ·have hop : op = true := by rw [h2]; simpa using hf
    rw [if_pos hop,if_neg (show ¬ f < 0 by omega)]
    refine ⟨h1,by simp [hf],?_⟩
    have hne : ws ≠ [] := by
     rintro rfl
     simp [pendW,hf] at h3
    obtain ⟨ws,w,rfl⟩ := last_of hne
    simp only [pendW,hf,if_true,List.map_append,List.map_cons,List.map_nil,← List.append_assoc] at h3 ⊢
    obtain ⟨e1,e2⟩ := List.append_inj' h3 rfl
    simp only [List.dropLast_concat,List.getLast?_append,List.getLast?_singleton,Option.some_or,Option.map_some,Option.toList_some,List.map_append,List.map_cons,List.map_nil,e1]
    simp only [List.cons.injEq,and_true] at e2
    have e3 : w.level = lv ∧ w.line = L ∧ w.fr = f ∧ w.long = i - f := by
     simp only [encW,List.cons.injEq,and_true] at e2
     refine ⟨?_,e2.2.1,e2.2.2.1,e2.2.2.2⟩
     have := e2.1
     unfold kk at this
     cases hwl : w.level <;> cases hlv : lv <;> simp [hwl,hlv] at this ⊢
    obtain ⟨e4,e5,e6,e7⟩ := e3
    simp only [encW,e4,e5,e6,e7,List.append_cancel_left_eq,List.cons.injEq,true_and,and_true]
    omega
   ·have hop : op = false := by rw [h2]; simpa using hf
    rw [if_neg (show ¬ op = true by rw [hop]; exact Bool.false_ne_true),if_pos (show f < 0 by omega)]
    refine ⟨by omega,by simp,?_⟩
    simp only [pendW,hf,if_false,List.append_nil] at h3
    simp only [pendW,List.map_append,h3,List.map_cons,List.map_nil]
    rw [if_pos (by omega)]
    simp [encW]
    omega
theorem wlLine_all {g : List (List Int)} {q : List Txt} {lv : Bool} {L : Nat} (hd : ∀ j,j < q.length → difG g lv L j = wallB q L j) {ws0 : List Wall} {pre s0 : List (List Int)} (h0 : ws0.map encW = pre ++ s0.map (kk lv :: ·)) :
  (wlLine g lv L ws0 q.length).1.map encW = pre ++ (upTo q L s0 (q.length + 1)).2.map (kk lv :: ·) := by
 obtain ⟨h1,-,h3⟩ := wlLine_enc hd h0 q.length (Nat.le_refl _)
 rw [h3]
 congr 2
 have e : upTo q L s0 (q.length + 1) = upStep (wallB q L q.length) L q.length (upTo q L s0 q.length) := rfl
 rw [e,wallB_end]
 clear e h3 h1
 generalize upTo q L s0 q.length = u
 obtain ⟨f,l⟩ := u
 unfold upStep
 simp only [Bool.false_and,Bool.false_eq_true,if_false,Bool.not_false,Bool.true_and,decide_eq_true_eq,pendW]
 split <;> simp
theorem wlLevel_enc {g : List (List Int)} {q : List Txt} {lv : Bool} {n : Nat} (hd : ∀ L j,1 ≤ L → L < n → j < q.length → difG g lv L j = wallB q L j) {ws0 : List Wall} : ∀ i,i ≤ n →
  (wlLevel g lv q.length ws0 i).map encW = ws0.map encW ++ (upsTo q i).map (kk lv :: ·)
 | 0,_ => by simp [wlLevel,upsTo]
 | i + 1,hi => by
  have ih := wlLevel_enc hd (ws0 := ws0) i (by omega)
  by_cases h1 : 1 ≤ i
  ·rw [wlLevel_succ h1,upsTo_succ h1]
   exact wlLine_all (fun j hj => hd i j h1 (by omega) hj) ih
  ·obtain rfl : i = 0 := by omega
   simpa [wlLevel,upsTo] using ih
theorem wallsG_enc {g : List (List Int)} {p : List Txt} (hg : gridB p = true) (hz : ∀ i j,i < p.length → j < (hdRow p).length → gz g i j = cellZ p i j) : (wallsG g p.length (hdRow p).length).map encW = walls p := by
 have hsm := grid_small hg
 obtain ⟨row0,hrow0,hrm0⟩ := get_of hsm.1
 have hhd := hdRow_of hrow0
 have hw1 := row_pos hg hrow0
 have htl := trans_len (p := p)
 have hth := trans_hd (p := p) (by rw [hhd]; omega)
 have d0 : ∀ L j,1 ≤ L → L < (hdRow p).length → j < p.length → difG g false L j = wallB p L j := by
  intro L j h1 h2 h3
  unfold difG sidesG wallB
  simp only [Bool.false_eq_true,if_false]
  rw [hz j (L - 1) h3 (by omega),hz j L h3 h2]
  simp [h3]
 have d1 : ∀ L j,1 ≤ L → L < p.length → j < (transP p).length → difG g true L j = wallB (transP p) L j := by
  intro L j h1 h2 h3
  have h3' := h3
  rw [htl] at h3'
  unfold difG sidesG wallB
  simp only [if_true]
  rw [hz (L - 1) j (by omega) h3',hz L j h2 h3',cellZ_trans (by omega) h3',cellZ_trans h2 h3']
  simp [h3]
 unfold wallsG
 have e1 := wlLevel_enc (lv := true) d1 (ws0 := wlLevel g false p.length [] (hdRow p).length) p.length (Nat.le_refl _)
 have e0 := wlLevel_enc (lv := false) d0 (ws0 := []) (hdRow p).length (Nat.le_refl _)
 rw [htl] at e1
 rw [e1,e0]
 unfold walls uprights
 rw [hth]
 simp [kk]
theorem Same.orBit {n : Nat} {M : List (List Bool)} {ms : List Nat} (h : Same n M ms) {a b : Nat} (ha : a < n) (hb : b < n) : Same n (setB M a b true) (orBit ms a b) := by
 obtain ⟨h1,h2,h3⟩ := h
 obtain ⟨m,hm,-⟩ := get_of (show a < ms.length by omega)
 rw [orBit_is hm]
 refine ⟨h1.set ha,by simp [h2],fun x y hx hy => ?_⟩
 rw [getB_setB h1 ha hb,bitOf_set (by omega)]
 by_cases hxa : x = a
 ·subst hxa
  rw [if_pos rfl,Nat.testBit_or,Nat.testBit_two_pow,h3 x y hx hy,bitOf_is hm]
  by_cases hyb : y = b
  ·subst hyb; simp
  ·rw [if_neg (fun h => hyb h.2),decide_eq_false (fun h => hyb h.symm),Bool.or_false]
 ·rw [if_neg (fun h => hxa h.1),if_neg hxa,h3 x y hx hy]
def Rm (n : Nat) (l : List Int) : Prop := ∀ x ∈ l,0 ≤ x ∧ x < n
theorem Same.relB {n : Nat} {a : Int} (ha : 0 ≤ a ∧ a < n) : ∀ {bs : List Int} {M : List (List Bool)} {ms : List Nat},Rm n bs → Same n M ms → Same n (relB a bs M) (justB a.toNat ms bs)
 | [],_,_,_,h => h
 | b :: bs,M,ms,hb,h => by
  have hb0 := hb b (by simp)
  exact Same.relB ha (bs := bs) (fun x hx => hb x (by simp [hx])) (h.orBit (by omega) (by omega))
theorem Same.relW {n : Nat} {bs : List Int} (hb : Rm n bs) : ∀ {la : List Int} {M : List (List Bool)} {ms : List Nat},Rm n la → Same n M ms → Same n (relW M la bs) (justA bs ms la)
 | [],_,_,_,h => h
 | a :: la,M,ms,ha,h => Same.relW hb (la := la) (fun x hx => ha x (by simp [hx])) (h.relB (ha a (by simp)) hb)
theorem ddp_snoc {l : List Int} {x : Int} : ddp (l ++ [x]) = putL (ddp l) x := by simp [ddp,List.foldl_append]
theorem sides_eq {g : List (List Int)} {p : List Txt} {lv : Bool} {L fr : Nat} : ∀ n,(∀ j,fr ≤ j → j < fr + n → sidesG g lv L j = if lv then (cellZ p (L - 1) j,cellZ p L j) else (cellZ p j (L - 1),cellZ p j L)) →
  (ddp (alongG g lv L fr n).1,ddp (alongG g lv L fr n).2) = sidesTo p (kk lv).toNat L fr n
 | 0,_ => by simp [alongG,ddp,sidesTo]
 | n + 1,h => by
  have ih := sides_eq n fun j a b => h j a (by omega)
  have hx := h (fr + n) (by omega) (by omega)
  rw [alongG_succ1,alongG_succ2,ddp_snoc,ddp_snoc,hx]
  unfold sidesTo
  rw [← ih]
  cases lv <;> simp [kk]
theorem sidesOf_eq {g : List (List Int)} {p : List Txt} (hz : ∀ i j,i < p.length → j < (hdRow p).length → gz g i j = cellZ p i j) {w : Wall} (hw : WlOk g p.length (hdRow p).length w) : sidesOf g w = sidesW p (encW w) := by
 obtain ⟨line,fr,long,he,hl,hin⟩ := hw
 obtain ⟨lv,wl,wf,wg⟩ := w
 simp only [Wall.mk.injEq,true_and] at he hin
 obtain ⟨rfl,rfl,rfl⟩ := he
 unfold sidesOf sidesW encW
 simp only [Int.toNat_natCast]
 refine sides_eq long fun j a b => ?_
 obtain ⟨⟨h1,h2⟩,-⟩ := hin j a b
 unfold sidesG
 cases lv with
 | false =>
  simp only [Bool.false_eq_true,if_false] at h2 ⊢
  rw [hz j (line - 1) h2.2 (by omega),hz j line h2.2 h2.1]
 | true =>
  simp only [if_true] at h2 ⊢
  rw [hz (line - 1) j (by omega) h2.2,hz line j h2.1 h2.2]
theorem Same.empty {n : Nat} : Same n (emptyM n) (List.replicate n 0) := by
 refine ⟨emptyM_sq n,by simp,fun a b ha hb => ?_⟩
 simp [getB,emptyM,bitOf,ha,hb]
theorem same_ord {g : List (List Int)} {p : List Txt} {n : Nat} (hz : ∀ i j,i < p.length → j < (hdRow p).length → gz g i j = cellZ p i j) (hrm : RmOk g p.length (hdRow p).length n) : ∀ (ws : List Wall),(∀ w ∈ ws,WlOk g p.length (hdRow p).length w) →
  ∀ {M : List (List Bool) × List (List Bool)} {m0 m1 : List Nat},Same n M.1 m0 → Same n M.2 m1 → Same n (ws.foldl (ordW g) M).1 ((ws.map encW).foldl (justW p 0) m0) ∧ Same n (ws.foldl (ordW g) M).2 ((ws.map encW).foldl (justW p 1) m1)
 | [],_,_,_,_,h0,h1 => ⟨h0,h1⟩
 | w :: ws,hws,M,m0,m1,h0,h1 => by
  have hw := hws w (by simp)
  obtain ⟨hr1,hr2⟩ := sidesOf_rooms hrm hw
  rw [sidesOf_eq hz hw] at hr1 hr2
  rw [List.foldl_cons,List.map_cons,List.foldl_cons,List.foldl_cons]
  refine same_ord hz hrm ws (fun w hw => hws w (by simp [hw])) ?_ ?_
  ·unfold ordW justW
   rw [sidesOf_eq hz hw]
   cases hlv : w.level with
   | false => simpa [encW,kk,hlv] using h0.relW hr2 hr1
   | true => simpa [encW,kk,hlv] using h0
  ·unfold ordW justW
   rw [sidesOf_eq hz hw]
   cases hlv : w.level with
   | false => simpa [encW,kk,hlv] using h1
   | true => simpa [encW,kk,hlv] using h1.relW hr2 hr1
theorem same_all {g : List (List Int)} {p : List Txt} {n : Nat} (hg : gridB p = true) (hn : (l1Rooms p).toNat = n) (hz : ∀ i j,i < p.length → j < (hdRow p).length → gz g i j = cellZ p i j) (hrm : RmOk g p.length (hdRow p).length n) :
  Same n (leftG g p.length (hdRow p).length n) (allS p 0) ∧ Same n (aboveG g p.length (hdRow p).length n) (allS p 1) := by
 obtain ⟨h0,h1⟩ := same_ord hz hrm (wallsG g p.length (hdRow p).length) wallsG_ok (M := (emptyM n,emptyM n)) Same.empty Same.empty
 rw [wallsG_enc hg hz] at h0 h1
 have e : List.replicate n 0 = List.replicate (l1Rooms p).toNat 0 := by rw [hn]
 rw [e] at h0 h1
 exact ⟨h0.close,h1.close⟩
def sN : Nat → (Nat → Nat) → Nat
 | 0,_ => 0
 | n + 1,f => sN n f + f n
theorem sN_congr {f g : Nat → Nat} : ∀ {n : Nat},(∀ i,i < n → f i = g i) → sN n f = sN n g
 | 0,_ => rfl
 | n + 1,h => by rw [sN,sN,sN_congr (n := n) fun i hi => h i (by omega),h n (by omega)]
theorem sN_le {f g : Nat → Nat} : ∀ {n : Nat},(∀ i,i < n → f i ≤ g i) → sN n f ≤ sN n g
 | 0,_ => Nat.le_refl _
 | n + 1,h => by
  have := sN_le (n := n) fun i hi => h i (by omega)
  have := h n (by omega)
  simp only [sN]; omega
theorem sN_eq {f g : Nat → Nat} : ∀ {n : Nat},(∀ i,i < n → f i ≤ g i) → sN n f = sN n g → ∀ i,i < n → f i = g i
 | 0,_,_,i,hi => by omega
 | n + 1,h,e,i,hi => by
  have h1 := sN_le (n := n) fun i hi => h i (by omega)
  have h2 := h n (by omega)
  simp only [sN] at e
  by_cases hin : i = n
  ·subst hin; omega
  ·exact sN_eq (n := n) (fun i hi => h i (by omega)) (by omega) i (by omega)
theorem sN_zero : ∀ n,sN n (fun _ => 0) = 0
 | 0 => rfl
 | n + 1 => by rw [sN,sN_zero n]
theorem sN_one : ∀ n,sN n (fun _ => 1) = n
 | 0 => rfl
 | n + 1 => by rw [sN,sN_one n]
theorem sN_const (c : Nat) : ∀ n,sN n (fun _ => c) = n * c
 | 0 => by simp [sN]
 | n + 1 => by rw [sN,sN_const c n,Nat.succ_mul]
theorem sN_add {f g : Nat → Nat} : ∀ n,sN n (fun i => f i + g i) = sN n f + sN n g
 | 0 => rfl
 | n + 1 => by rw [sN,sN,sN,sN_add n]; omega
theorem sN_swap {f : Nat → Nat → Nat} {m : Nat} : ∀ n,sN n (fun i => sN m (fun j => f i j)) = sN m (fun j => sN n (fun i => f i j))
 | 0 => by simp only [sN]; rw [sN_zero]
 | n + 1 => by
  simp only [sN]
  rw [sN_swap n,sN_add]
theorem sN_mul {f : Nat → Nat} {c : Nat} : ∀ n,sN n (fun i => f i * c) = sN n f * c
 | 0 => by simp [sN]
 | n + 1 => by rw [sN,sN,sN_mul n,Nat.add_mul]
def b1 (b : Bool) : Nat := if b then 1 else 0
def cnt (H W : Nat) (f : Nat → Nat → Bool) : Nat := sN H fun i => sN W fun j => b1 (f i j)
theorem b1_le {a b : Bool} (h : a = true → b = true) : b1 a ≤ b1 b := by
 cases a with
 | false => simp [b1]
 | true => rw [h rfl]; exact Nat.le_refl _
theorem b1_inj {a b : Bool} (h : b1 a = b1 b) : a = b := by cases a <;> cases b <;> simp [b1] at h ⊢
theorem cnt_le {H W : Nat} {f g : Nat → Nat → Bool} (h : ∀ i j,i < H → j < W → f i j = true → g i j = true) : cnt H W f ≤ cnt H W g :=
 sN_le fun i hi => sN_le fun j hj => b1_le (h i j hi hj)
theorem cnt_eq {H W : Nat} {f g : Nat → Nat → Bool} (h : ∀ i j,i < H → j < W → f i j = true → g i j = true) (e : cnt H W f = cnt H W g) : ∀ i j,i < H → j < W → f i j = g i j := by
 intro i j hi hj
 have h1 := sN_eq (n := H) (fun i hi => sN_le fun j hj => b1_le (h i j hi hj)) e i hi
 exact b1_inj (sN_eq (n := W) (fun j hj => b1_le (h i j hi hj)) h1 j hj)
theorem cnt_congr {H W : Nat} {f g : Nat → Nat → Bool} (h : ∀ i j,i < H → j < W → f i j = g i j) : cnt H W f = cnt H W g :=
 sN_congr fun i hi => sN_congr fun j hj => by rw [h i j hi hj]
theorem sN_seg {a k : Nat} : ∀ {n : Nat},a + k ≤ n → sN n (fun i => b1 (decide (a ≤ i) && decide (i < a + k))) = k
 | 0,h => by simp [sN]; omega
 | n + 1,h => by
  rw [sN]
  by_cases hn : a + k ≤ n
  ·rw [sN_seg hn,decide_eq_false (p := n < a + k) (by omega),Bool.and_false]; rfl
  ·have hnk : n + 1 = a + k := by omega
   cases k with
   | zero =>
    have : sN n (fun i => b1 (decide (a ≤ i) && decide (i < a + 0))) = sN n (fun _ => 0) := sN_congr fun i hi => by
     rw [decide_eq_false (p := a ≤ i) (by omega)]; rfl
    rw [this,sN_zero,decide_eq_false (p := a ≤ n) (by omega)]; rfl
   | succ k =>
    have e : sN n (fun i => b1 (decide (a ≤ i) && decide (i < a + (k + 1)))) = sN n (fun i => b1 (decide (a ≤ i) && decide (i < a + k))) := sN_congr fun i hi => by
     congr 2
     apply decide_eq_decide.2; omega
    rw [e,sN_seg (k := k) (by omega),decide_eq_true (p := a ≤ n) (by omega),decide_eq_true (p := n < a + (k + 1)) (by omega)]
    rfl
def inR (t l h w i j : Nat) : Bool := (decide (t ≤ i) && decide (i < t + h)) && (decide (l ≤ j) && decide (j < l + w))
theorem b1_and {a b : Bool} : b1 (a && b) = b1 a * b1 b := by cases a <;> cases b <;> rfl
theorem cnt_rect {H W t l h w : Nat} (h1 : t + h ≤ H) (h2 : l + w ≤ W) : cnt H W (inR t l h w) = h * w := by
 unfold cnt inR
 have e : (fun i => sN W fun j => b1 ((decide (t ≤ i) && decide (i < t + h)) && (decide (l ≤ j) && decide (j < l + w)))) = fun i => b1 (decide (t ≤ i) && decide (i < t + h)) * w := by
  funext i
  have : (fun j => b1 ((decide (t ≤ i) && decide (i < t + h)) && (decide (l ≤ j) && decide (j < l + w)))) = fun j => b1 (decide (l ≤ j) && decide (j < l + w)) * b1 (decide (t ≤ i) && decide (i < t + h)) := by
   funext j; rw [b1_and,Nat.mul_comm]
  rw [this,sN_mul,sN_seg h2,Nat.mul_comm]
 rw [e,sN_mul,sN_seg h1]
theorem cnt_classes {H W n : Nat} {z : Nat → Nat → Nat} (hz : ∀ i j,i < H → j < W → z i j < n) : sN n (fun r => cnt H W fun i j => decide (z i j = r)) = H * W := by
 unfold cnt
 rw [sN_swap]
 have : sN H (fun i => sN n fun r => sN W fun j => b1 (decide (z i j = r))) = sN H (fun _ => W) := sN_congr fun i hi => by
  rw [sN_swap]
  have : sN W (fun j => sN n fun r => b1 (decide (z i j = r))) = sN W (fun _ => 1) := sN_congr fun j hj => by
   have h1 := hz i j hi hj
   have e : sN n (fun r => b1 (decide (z i j = r))) = sN n (fun r => b1 (decide (z i j ≤ r) && decide (r < z i j + 1))) := sN_congr fun r hr => by
    congr 1
    rw [Bool.eq_iff_iff]
    simp only [Bool.and_eq_true,decide_eq_true_eq]
    omega
   rw [e,sN_seg (by omega)]
  rw [this,sN_one]
 rw [this,sN_const]
structure Hull (pr : Nat → Nat → Prop) (t l lo ri : Int) : Prop where
 inn : ∀ a b,pr a b → t ≤ a ∧ (a : Int) ≤ lo ∧ l ≤ b ∧ (b : Int) ≤ ri
 at_ : ∃ a b : Nat,pr a b ∧ (a : Int) = t
 al : ∃ a b : Nat,pr a b ∧ (b : Int) = l
 ao : ∃ a b : Nat,pr a b ∧ (a : Int) = lo
 ar : ∃ a b : Nat,pr a b ∧ (b : Int) = ri
theorem Hull.uniq {pr : Nat → Nat → Prop} {t l lo ri t' l' lo' ri' : Int} (h : Hull pr t l lo ri) (k : Hull pr t' l' lo' ri') : t = t' ∧ l = l' ∧ lo = lo' ∧ ri = ri' := by
 obtain ⟨a1,b1,p1,e1⟩ := h.at_
 obtain ⟨a2,b2,p2,e2⟩ := h.al
 obtain ⟨a3,b3,p3,e3⟩ := h.ao
 obtain ⟨a4,b4,p4,e4⟩ := h.ar
 obtain ⟨a5,b5,p5,e5⟩ := k.at_
 obtain ⟨a6,b6,p6,e6⟩ := k.al
 obtain ⟨a7,b7,p7,e7⟩ := k.ao
 obtain ⟨a8,b8,p8,e8⟩ := k.ar
 have q1 := k.inn _ _ p1
 have q2 := k.inn _ _ p2
 have q3 := k.inn _ _ p3
 have q4 := k.inn _ _ p4
 have q5 := h.inn _ _ p5
 have q6 := h.inn _ _ p6
 have q7 := h.inn _ _ p7
 have q8 := h.inn _ _ p8
 omega
theorem Hull.congr {pr pr' : Nat → Nat → Prop} {t l lo ri : Int} (h : Hull pr t l lo ri) (e : ∀ a b,pr a b ↔ pr' a b) : Hull pr' t l lo ri := by
 have : pr = pr' := by funext a b; exact propext (e a b)
 exact this ▸ h
theorem Hull.add {pr : Nat → Nat → Prop} {t l lo ri : Int} (h : Hull pr t l lo ri) (i j : Nat) : Hull (fun a b => pr a b ∨ (a = i ∧ b = j)) (min t i) (min l j) (max lo i) (max ri j) := by
 refine ⟨?_,?_,?_,?_,?_⟩
 ·rintro a b (p | ⟨rfl,rfl⟩)
  ·have := h.inn a b p; omega
  ·omega
 ·by_cases e : t ≤ i
  ·obtain ⟨a,b,p,q⟩ := h.at_; exact ⟨a,b,.inl p,by omega⟩
  ·exact ⟨i,j,.inr ⟨rfl,rfl⟩,by omega⟩
 ·by_cases e : l ≤ j
  ·obtain ⟨a,b,p,q⟩ := h.al; exact ⟨a,b,.inl p,by omega⟩
  ·exact ⟨i,j,.inr ⟨rfl,rfl⟩,by omega⟩
 ·by_cases e : (i : Int) ≤ lo
  ·obtain ⟨a,b,p,q⟩ := h.ao; exact ⟨a,b,.inl p,by omega⟩
  ·exact ⟨i,j,.inr ⟨rfl,rfl⟩,by omega⟩
 ·by_cases e : (j : Int) ≤ ri
  ·obtain ⟨a,b,p,q⟩ := h.ar; exact ⟨a,b,.inl p,by omega⟩
  ·exact ⟨i,j,.inr ⟨rfl,rfl⟩,by omega⟩
theorem Hull.one {pr : Nat → Nat → Prop} (h : ∀ a b,¬ pr a b) (i j : Nat) : Hull (fun a b => pr a b ∨ (a = i ∧ b = j)) i j i j := by
 refine ⟨?_,⟨i,j,.inr ⟨rfl,rfl⟩,rfl⟩,⟨i,j,.inr ⟨rfl,rfl⟩,rfl⟩,⟨i,j,.inr ⟨rfl,rfl⟩,rfl⟩,⟨i,j,.inr ⟨rfl,rfl⟩,rfl⟩⟩
 rintro a b (p | ⟨rfl,rfl⟩)
 ·exact absurd p (h a b)
 ·omega
def Gone (W i j a b : Nat) : Prop := b < W ∧ (a < i ∨ (a = i ∧ b < j))
theorem gone_succ {W i j a b : Nat} (hj : j < W) : Gone W i (j + 1) a b ↔ Gone W i j a b ∨ (a = i ∧ b = j) := by unfold Gone; omega
theorem gone_row {W i a b : Nat} : Gone W i W a b ↔ Gone W (i + 1) 0 a b := by unfold Gone; omega
def Val (z : Nat → Nat → Int) (W i j : Nat) (v : Int) (a b : Nat) : Prop := z a b = v ∧ Gone W i j a b
theorem val_hit {z : Nat → Nat → Int} {W i j : Nat} {v : Int} (hj : j < W) (h : z i j = v) (a b : Nat) : (Val z W i j v a b ∨ (a = i ∧ b = j)) ↔ Val z W i (j + 1) v a b := by
 unfold Val
 rw [gone_succ hj]
 constructor
 ·rintro (⟨h1,h2⟩ | ⟨rfl,rfl⟩)
  ·exact ⟨h1,.inl h2⟩
  ·exact ⟨h,.inr ⟨rfl,rfl⟩⟩
 ·rintro ⟨h1,h2 | h2⟩
  ·exact .inl ⟨h1,h2⟩
  ·exact .inr h2
theorem val_miss {z : Nat → Nat → Int} {W i j : Nat} {v : Int} (hj : j < W) (h : z i j ≠ v) (a b : Nat) : Val z W i j v a b ↔ Val z W i (j + 1) v a b := by
 unfold Val
 rw [gone_succ hj]
 constructor
 ·rintro ⟨h1,h2⟩; exact ⟨h1,.inl h2⟩
 ·rintro ⟨h1,h2 | ⟨rfl,rfl⟩⟩
  ·exact ⟨h1,h2⟩
  ·exact absurd h1 h
theorem val_row {z : Nat → Nat → Int} {W i : Nat} {v : Int} (a b : Nat) : Val z W i W v a b ↔ Val z W (i + 1) 0 v a b := by unfold Val; rw [gone_row]
def HullR (pr : Nat → Nat → Prop) (b : Rect) : Prop := Hull pr b.row b.col (b.row + b.high - 1) (b.col + b.wide - 1)
theorem HullR.both {pr : Nat → Nat → Prop} {b : Rect} (h : HullR pr b) (i j : Nat) : HullR (fun a c => pr a c ∨ (a = i ∧ c = j)) (b.both (oneR i j)) := by
 have := Hull.add h i j
 unfold HullR Rect.both oneR
 simp only
 rw [show min b.row (i : Int) + (max (b.row + b.high) ((i : Int) + 1) - min b.row (i : Int)) - 1 = max (b.row + b.high - 1) i by omega,show min b.col (j : Int) + (max (b.col + b.wide) ((j : Int) + 1) - min b.col (j : Int)) - 1 = max (b.col + b.wide - 1) j by omega]
 exact this
theorem one_both {i j : Nat} : (oneR i j).both (oneR i j) = oneR i j := by
 unfold Rect.both oneR
 simp only [Rect.mk.injEq]
 omega
theorem HullR.one {pr : Nat → Nat → Prop} (h : ∀ a b,¬ pr a b) (i j : Nat) : HullR (fun a b => pr a b ∨ (a = i ∧ b = j)) (oneR i j) := by
 have := Hull.one h i j
 unfold HullR oneR
 simp only
 rw [show (i : Int) + 1 - 1 = i by omega,show (j : Int) + 1 - 1 = j by omega]
 exact this
theorem HullR.congr {pr pr' : Nat → Nat → Prop} {b : Rect} (h : HullR pr b) (e : ∀ a c,pr a c ↔ pr' a c) : HullR pr' b := Hull.congr h e
structure SeInv (z : Nat → Nat → Int) (W i j : Nat) (ks : List Int) (rs : List Rect) : Prop where
 nd : ks.Nodup
 len : rs.length = ks.length
 mem : ∀ a b,Gone W i j a b → z a b ∈ ks
 hull : ∀ (m : Nat) v b,ks[m]? = some v → rs[m]? = some b → HullR (Val z W i j v) b
theorem nodup_one {l : List Int} (h : l.Nodup) {a b : Nat} {v : Int} (ha : l[a]? = some v) (hb : l[b]? = some v) : a = b := by
 obtain ⟨p1,q1⟩ := List.getElem?_eq_some_iff.1 ha
 obtain ⟨p2,q2⟩ := List.getElem?_eq_some_iff.1 hb
 have := List.pairwise_iff_getElem.1 h
 rcases Nat.lt_trichotomy a b with hlt | heq | hgt
 ·exact absurd (q1.trans q2.symm) (this a b p1 p2 hlt)
 ·exact heq
 ·exact absurd (q2.trans q1.symm) (this b a p2 p1 hgt)
theorem idxOf_mem {ks : List Int} {z : Int} (h : ¬ ks.idxOf z = ks.length) : ks[ks.idxOf z]? = some z := by
 have hl := idxOf_le (ks := ks) (z := z)
 have : z ∈ ks := by rw [← List.idxOf_lt_length_iff]; omega
 rw [List.getElem?_eq_getElem (List.idxOf_lt_length_iff.2 this),List.getElem_idxOf]
theorem idxOf_not {ks : List Int} {z : Int} (h : ks.idxOf z = ks.length) : z ∉ ks := by
 intro hm
 have := List.idxOf_lt_length_iff.2 hm
 omega
theorem SeInv.step {z : Nat → Nat → Int} {W i j : Nat} {ks : List Int} {rs : List Rect} (h : SeInv z W i j ks rs) (hj : j < W) : SeInv z W i (j + 1) (seKs ks (z i j)) (seRs ks rs (z i j) (oneR i j)) := by
 have hlen := h.len
 by_cases hin : ks.idxOf (z i j) = ks.length
 ·have hnm := idxOf_not hin
  have e1 : seKs ks (z i j) = ks ++ [z i j] := by simp [seKs,hin]
  have e2 : seRs ks rs (z i j) (oneR i j) = rs ++ [oneR i j] := by
   unfold seRs seIn
   rw [if_pos hin,hin,← hlen,List.getD_eq_getElem?_getD]
   simp [one_both]
  rw [e1,e2]
  refine ⟨?_,by simp [hlen],?_,?_⟩
  ·rw [List.nodup_append]
   refine ⟨h.nd,by simp,?_⟩
   intro a ha b hb
   rw [List.mem_singleton] at hb
   rintro rfl
   exact hnm (hb ▸ ha)
  ·intro a b hab
   rw [gone_succ hj] at hab
   rcases hab with hab | ⟨rfl,rfl⟩
   ·exact List.mem_append_left _ (h.mem a b hab)
   ·simp
  ·intro m v b hm hb
   by_cases hml : m < ks.length
   ·rw [List.getElem?_append_left hml] at hm
    rw [List.getElem?_append_left (by omega)] at hb
    have hv : z i j ≠ v := fun e => hnm (e ▸ List.mem_of_getElem? hm)
    exact (h.hull m v b hm hb).congr (val_miss hj hv)
   ·have hml2 := len_of hm
    simp only [List.length_append,List.length_singleton] at hml2
    obtain rfl : m = ks.length := by omega
    rw [List.getElem?_append_right (Nat.le_refl _),Nat.sub_self] at hm
    rw [← hlen,List.getElem?_append_right (Nat.le_refl _),Nat.sub_self] at hb
    simp only [List.getElem?_cons_zero,Option.some.injEq] at hm hb
    subst hm hb
    exact (HullR.one (pr := Val z W i j (z i j)) (fun a b hab => hnm (hab.1 ▸ h.mem a b hab.2)) i j).congr (val_hit hj rfl)
 ·have hk := idxOf_mem hin
  have hkl := len_of hk
  have e1 : seKs ks (z i j) = ks := by simp [seKs,hin]
  obtain ⟨b0,hb0,-⟩ := get_of (show ks.idxOf (z i j) < rs.length by omega)
  have e2 : seRs ks rs (z i j) (oneR i j) = rs.set (ks.idxOf (z i j)) (b0.both (oneR i j)) := by
   unfold seRs seIn
   rw [if_neg hin,List.getD_eq_getElem?_getD,hb0]; rfl
  rw [e1,e2]
  refine ⟨h.nd,by simp [hlen],?_,?_⟩
  ·intro a b hab
   rw [gone_succ hj] at hab
   rcases hab with hab | ⟨rfl,rfl⟩
   ·exact h.mem a b hab
   ·exact List.mem_of_getElem? hk
  ·intro m v b hm hb
   rw [List.getElem?_set] at hb
   by_cases e : ks.idxOf (z i j) = m
   ·subst e
    rw [if_pos rfl,if_pos (by omega)] at hb
    cases hb
    rw [hk] at hm
    cases hm
    exact ((h.hull _ _ _ hk hb0).both i j).congr (val_hit hj rfl)
   ·rw [if_neg e] at hb
    have hv : z i j ≠ v := by
     rintro rfl
     exact e (nodup_one h.nd hk hm)
    exact (h.hull m v b hm hb).congr (val_miss hj hv)
theorem SeInv.nil {z : Nat → Nat → Int} {W : Nat} : SeInv z W 0 0 [] [] := by
 refine ⟨by simp,rfl,?_,by simp⟩
 intro a b h
 unfold Gone at h; omega
theorem SeInv.row {g : List (List Int)} {W i : Nat} {s : List Int × List Rect} (h : SeInv (gz g) W i 0 s.1 s.2) : ∀ j,j ≤ W → SeInv (gz g) W i j (seRow g i s j).1 (seRow g i s j).2
 | 0,_ => h
 | j + 1,hj => (SeInv.row h j (by omega)).step (by omega)
theorem SeInv.rows {g : List (List Int)} {W : Nat} : ∀ i,SeInv (gz g) W i 0 (seRows g W i).1 (seRows g W i).2
 | 0 => SeInv.nil
 | i + 1 => by
  have h := (SeInv.rows (g := g) (W := W) i).row W (Nat.le_refl _)
  refine ⟨h.nd,h.len,fun a b hab => h.mem a b (gone_row.2 hab),fun m v b hm hb => (h.hull m v b hm hb).congr (fun a c => val_row a c)⟩
theorem seRow_pre {g : List (List Int)} {i : Nat} {s : List Int × List Rect} : ∀ {j k : Nat},j ≤ k → ∃ r,(seRow g i s k).1 = (seRow g i s j).1 ++ r
 | j,0,h => by
  have hj : j = 0 := by omega
  subst hj; exact ⟨[],by simp⟩
 | j,k + 1,h => by
  by_cases e : j = k + 1
  ·subst e; exact ⟨[],by simp⟩
  ·obtain ⟨r,hr⟩ := seRow_pre (g := g) (i := i) (s := s) (show j ≤ k by omega)
   simp only [seRow,seKs]
   split
   ·exact ⟨r ++ [gz g i k],by rw [hr,List.append_assoc]⟩
   ·exact ⟨r,hr⟩
theorem seRows_pre {g : List (List Int)} {W : Nat} : ∀ {i k : Nat},i ≤ k → ∃ r,(seRows g W k).1 = (seRows g W i).1 ++ r
 | i,0,h => by
  have hi : i = 0 := by omega
  subst hi; exact ⟨[],by simp⟩
 | i,k + 1,h => by
  by_cases e : i = k + 1
  ·subst e; exact ⟨[],by simp⟩
  ·obtain ⟨r,hr⟩ := seRows_pre (g := g) (W := W) (show i ≤ k by omega)
   obtain ⟨r2,hr2⟩ := seRow_pre (g := g) (i := k) (s := seRows g W k) (Nat.zero_le W)
   simp only [seRows]
   refine ⟨r ++ r2,?_⟩
   rw [hr2,← List.append_assoc,← hr]; rfl
theorem idxOf_app {l r : List Int} {x : Int} (h : ¬ l.idxOf x = l.length) : (l ++ r).idxOf x = l.idxOf x := by
 have hl := idxOf_le (ks := l) (z := x)
 have hm : x ∈ l := by rw [← List.idxOf_lt_length_iff]; omega
 rw [List.idxOf_append,if_pos hm]
theorem idxOf_new {l r : List Int} {x : Int} (h : l.idxOf x = l.length) : (l ++ [x] ++ r).idxOf x = l.length := by
 have hm : x ∉ l := idxOf_not h
 rw [List.append_assoc,List.idxOf_append,if_neg hm]
 simp
theorem zNum {g : List (List Int)} {W nh i j : Nat} (hi : i < nh) (hj : j < W) : ((seRow g i (seRows g W i) j).1.idxOf (gz g i j)) = (seRows g W nh).1.idxOf (gz g i j) := by
 obtain ⟨r,hr⟩ := seRows_pre (g := g) (W := W) (show i + 1 ≤ nh by omega)
 obtain ⟨r2,hr2⟩ := seRow_pre (g := g) (i := i) (s := seRows g W i) (show j + 1 ≤ W by omega)
 have e : (seRows g W nh).1 = seKs (seRow g i (seRows g W i) j).1 (gz g i j) ++ (r2 ++ r) := by
  rw [hr,← List.append_assoc]
  congr 1
 rw [e]
 generalize (seRow g i (seRows g W i) j).1 = ks
 unfold seKs
 by_cases hin : ks.idxOf (gz g i j) = ks.length
 ·rw [if_pos hin,idxOf_new hin,hin]
 ·rw [if_neg hin,idxOf_app hin]
def inZ (p : List Txt) (r : Int) (i j : Nat) : Bool := decide (cellZ p i j = r)
theorem inRoom_is {p : List Txt} {i k : Nat} {row : Txt} {c : UInt8} {r : Int} (h : p[i]? = some row) (hc : row[k]? = some c) : inRoom r c = inZ p r i k := by
 unfold inRoom inZ; rw [cellZ_is h hc]
theorem cellsRow_cnt {p : List Txt} {i : Nat} {row : Txt} {r : Int} (h : p[i]? = some row) (n : Int) : ∀ k,k ≤ row.length → cellsRow r n (row.take k) = n + sN k fun j => b1 (inZ p r i j)
 | 0,_ => by simp [cellsRow,sN]
 | k + 1,hk => by
  obtain ⟨c,hc,-⟩ := get_of (show k < row.length by omega)
  have ih := cellsRow_cnt (r := r) h n k (by omega)
  unfold cellsRow at ih ⊢
  rw [foldl_tk hc,ih,sN,inRoom_is h hc]
  cases inZ p r i k <;> simp [b1]
  omega
theorem l1Cells_cnt {p : List Txt} {W : Nat} (hW : ∀ row ∈ p,row.length = W) {r : Int} : ∀ i,i ≤ p.length → (p.take i).foldl (cellsRow r) 0 = ((sN i fun i => sN W fun j => b1 (inZ p r i j) : Nat) : Int)
 | 0,_ => by simp [sN]
 | i + 1,hi => by
  obtain ⟨row,hr,hm⟩ := get_of (show i < p.length by omega)
  have ih := l1Cells_cnt hW (r := r) i (by omega)
  have hl := hW row hm
  have := cellsRow_cnt (r := r) hr (((sN i fun i => sN W fun j => b1 (inZ p r i j) : Nat) : Int)) W (by omega)
  rw [List.take_of_length_le (by omega)] at this
  rw [foldl_tk hr,ih,this,sN]
  simp
theorem l1Cells_is {p : List Txt} {W : Nat} (hW : ∀ row ∈ p,row.length = W) {r : Int} : l1Cells p r = ((cnt p.length W (inZ p r) : Nat) : Int) := by
 have := l1Cells_cnt hW (r := r) p.length (Nat.le_refl _)
 rwa [List.take_length] at this
def BoxInv (H W : Nat) (pr : Nat → Nat → Prop) (b : Box) : Prop := ((∀ a c,¬ pr a c) ∧ b = ⟨H,W,-1,-1⟩) ∨ Hull pr b.top b.left b.low b.right
theorem BoxInv.congr {H W : Nat} {pr pr' : Nat → Nat → Prop} {b : Box} (h : BoxInv H W pr b) (e : ∀ a c,pr a c ↔ pr' a c) : BoxInv H W pr' b := by
 have : pr = pr' := by funext a b; exact propext (e a b)
 exact this ▸ h
theorem BoxInv.add {H W : Nat} {pr : Nat → Nat → Prop} {b : Box} (h : BoxInv H W pr b) {i k : Nat} (hi : i < H) (hk : k < W) : BoxInv H W (fun a c => pr a c ∨ (a = i ∧ c = k)) ⟨min b.top i,min b.left k,max b.low i,max b.right k⟩ := by
 rcases h with ⟨h1,rfl⟩ | h
 ·right
  have := Hull.one h1 i k
  simp only
  rw [show min (H : Int) i = i by omega,show min (W : Int) k = k by omega,show max (-1 : Int) i = i by omega,show max (-1 : Int) k = k by omega]
  exact this
 ·exact .inr (Hull.add h i k)
theorem rowTo_inv {p : List Txt} {H W i : Nat} {row : Txt} {r : Int} (hr : p[i]? = some row) (hW : row.length = W) (hi : i < H) {b : Box} (h : BoxInv H W (Val (cellZ p) W i 0 r) b) : ∀ k,k ≤ W → BoxInv H W (Val (cellZ p) W i k r) (rowTo r i b row k)
 | 0,_ => by simpa [rowTo] using h
 | k + 1,hk => by
  obtain ⟨c,hc,-⟩ := get_of (show k < row.length by omega)
  have ih := rowTo_inv hr hW hi h k (by omega)
  rw [rowTo_succ hc]
  unfold boxCell
  simp only
  rw [inRoom_is hr hc]
  by_cases e : cellZ p i k = r
  ·rw [if_pos (by unfold inZ; exact decide_eq_true e)]
   exact (ih.add hi (by omega)).congr (val_hit (by omega) e)
  ·rw [if_neg (by unfold inZ; rw [decide_eq_false e]; exact Bool.false_ne_true)]
   exact ih.congr (val_miss (by omega) e)
theorem boxTo_inv {p : List Txt} {W : Nat} (hW : ∀ row ∈ p,row.length = W) (hh : (hdRow p).length = W) {r : Int} : ∀ i,i ≤ p.length → BoxInv p.length W (Val (cellZ p) W i 0 r) (boxTo p r i)
 | 0,_ => by
  left
  refine ⟨fun a c h => ?_,by simp [boxTo,hh]⟩
  have := h.2
  unfold Gone at this; omega
 | i + 1,hi => by
  obtain ⟨row,hr,hm⟩ := get_of (show i < p.length by omega)
  rw [boxTo_succ hr]
  have := rowTo_inv (r := r) hr (hW row hm) (by omega) (boxTo_inv hW hh i (by omega)) W (Nat.le_refl _)
  rw [hW row hm]
  exact this.congr fun a c => val_row a c
theorem boxOf_inv {p : List Txt} {W : Nat} (hW : ∀ row ∈ p,row.length = W) (hh : (hdRow p).length = W) {r : Int} : BoxInv p.length W (Val (cellZ p) W p.length 0 r) (boxOf p r) := by
 rw [← boxTo_all]; exact boxTo_inv hW hh p.length (Nat.le_refl _)
theorem Hull.nat {z : Nat → Nat → Int} {H W : Nat} {v : Int} {t l lo ri : Int} (h : Hull (Val z W H 0 v) t l lo ri) : ∃ t' l' h' w' : Nat,t = t' ∧ l = l' ∧ lo = t' + h' - 1 ∧ ri = l' + w' - 1 ∧ 1 ≤ h' ∧ 1 ≤ w' ∧ t' + h' ≤ H ∧ l' + w' ≤ W ∧
  ∀ i j,i < H → j < W → z i j = v → inR t' l' h' w' i j = true := by
 obtain ⟨a1,b1,p1,e1⟩ := h.at_
 obtain ⟨a2,b2,p2,e2⟩ := h.al
 obtain ⟨a3,b3,p3,e3⟩ := h.ao
 obtain ⟨a4,b4,p4,e4⟩ := h.ar
 have q1 := h.inn _ _ p1
 have q2 := h.inn _ _ p2
 obtain ⟨-,g3,g3'⟩ := p3
 obtain ⟨-,g4,g4'⟩ := p4
 refine ⟨a1,b2,a3 + 1 - a1,b4 + 1 - b2,e1.symm,e2.symm,by omega,by omega,by omega,by omega,by omega,by omega,fun i j hi hj hv => ?_⟩
 have := h.inn i j ⟨hv,by unfold Gone; omega⟩
 unfold inR
 simp only [Bool.and_eq_true,decide_eq_true_eq]
 omega
def u8I (c : UInt8) : Int := (c.toNat : Int)
theorem u8I_inj {a b : UInt8} (h : u8I a = u8I b) : a = b := by
 unfold u8I at h
 exact UInt8.toNat_inj.1 (by omega)
theorem idxOf_map {α β : Type} [DecidableEq α] [DecidableEq β] {f : α → β} (hf : ∀ a b,f a = f b → a = b) {c : α} : ∀ (l : List α),(l.map f).idxOf (f c) = l.idxOf c
 | [] => rfl
 | a :: l => by
  rw [List.map_cons,List.idxOf_cons,List.idxOf_cons,idxOf_map hf l]
  by_cases e : a = c
  ·subst e; simp
  ·have e2 : f a ≠ f c := fun h => e (hf _ _ h)
   rw [show (f a == f c) = false by simpa using e2,show (a == c) = false by simpa using e]
theorem gz_read {p : List Txt} {i k : Nat} {row : Txt} {c : UInt8} (h : p[i]? = some row) (hc : row[k]? = some c) : gz (readG p) i k = u8I c := by
 simp [gz,readG,rowZ,h,hc,u8I]
theorem nameRow_is {p : List Txt} {i : Nat} {row : Txt} (h : p[i]? = some row) {o : List UInt8} {s : List Int × List Rect} (ho : o.map u8I = s.1) : ∀ j,j ≤ row.length →
  ((row.take j).foldl nameStep (o,[])).1.map u8I = (seRow (readG p) i s j).1 ∧ ((row.take j).foldl nameStep (o,[])).2 = rowT (zRow (readG p) i s j)
 | 0,_ => ⟨by simpa [seRow] using ho,by simp [zRow,rowT]⟩
 | j + 1,hj => by
  obtain ⟨c,hc,-⟩ := get_of (show j < row.length by omega)
  obtain ⟨h1,h2⟩ := nameRow_is h ho j (by omega)
  rw [foldl_tk hc]
  generalize (row.take j).foldl nameStep (o,[]) = q at h1 h2 ⊢
  have hz := gz_read h hc
  have hi : (seRow (readG p) i s j).1.idxOf (gz (readG p) i j) = q.1.idxOf c := by rw [← h1,hz,idxOf_map fun a b => u8I_inj]
  have hl : (seRow (readG p) i s j).1.length = q.1.length := by rw [← h1,List.length_map]
  constructor
  ·simp only [nameStep,seRow,seKs]
   rw [hi,hl]
   split
   ·rw [List.map_append,h1,hz]; rfl
   ·exact h1
  ·simp only [nameStep,zRow]
   rw [hi,h2]
   simp [rowT,letZ]
theorem names_to {p : List Txt} {W : Nat} (hW : ∀ row ∈ p,row.length = W) : ∀ i,i ≤ p.length →
  ((p.take i).foldl nameGo ([],[])).1.map u8I = (seRows (readG p) W i).1 ∧ ((p.take i).foldl nameGo ([],[])).2 = textG (zRows (readG p) W i)
 | 0,_ => by simp [seRows,zRows,textG]
 | i + 1,hi => by
  obtain ⟨row,hr,hm⟩ := get_of (show i < p.length by omega)
  obtain ⟨h1,h2⟩ := names_to hW i (by omega)
  rw [foldl_tk hr]
  generalize (p.take i).foldl nameGo ([],[]) = q at h1 h2 ⊢
  have hl := hW row hm
  obtain ⟨k1,k2⟩ := nameRow_is hr h1 row.length (Nat.le_refl _)
  rw [List.take_length,hl] at k1 k2
  constructor
  ·simp only [nameGo,nameRow,seRows]; exact k1
  ·simp only [nameGo,nameRow,zRows,textG,List.map_append,List.map_cons,List.map_nil]
   rw [k2,h2]
   rfl
theorem w0_read {p : List Txt} : w0 (readG p) = (hdRow p).length := by
 cases p with
 | nil => rfl
 | cons a p => simp [w0,readG,rowZ,hdRow]
theorem grid_rows {p : List Txt} (hg : gridB p = true) : ∀ row ∈ p,row.length = (hdRow p).length := by
 intro row hm
 obtain ⟨i,hi⟩ := List.getElem?_of_mem hm
 exact grid_row hg hi
theorem names_text {p : List Txt} (hg : gridB p = true) : names p = textG (gP p) := by
 have := (names_to (grid_rows hg) p.length (Nat.le_refl _)).2
 rw [List.take_length] at this
 unfold names namesAll gP zG
 rw [this,w0_read,readG_len]
theorem grid_iff {p : List Txt} : gridB p = (lettersB p && okG (readG p)) := by
 rw [Bool.eq_iff_iff,Bool.and_eq_true,okG_iff,readG_len,w0_read]
 unfold gridB lettersB GW rowB
 simp only [Bool.and_eq_true,decide_eq_true_eq,List.all_eq_true,readG_len,true_and]
 constructor
 ·rintro ⟨⟨h1,h2⟩,h3⟩
  obtain ⟨row0,hr0,hm0⟩ := get_of (show 0 < p.length by omega)
  have hh := hdRow_of hr0
  have h4 := h1 row0 hm0
  refine ⟨fun r hr => (h1 r hr).2,fun r hr => ?_,h2,h3,by rw [hh]; omega,by rw [hh]; omega⟩
  obtain ⟨t,ht,rfl⟩ := List.mem_map.1 hr
  rw [rowZ_len]; exact (h1 t ht).1.1.1
 ·rintro ⟨h1,h2,h3,h4,h5,h6⟩
  refine ⟨⟨fun r hr => ?_,h3⟩,h4⟩
  have := h2 (rowZ r) (List.mem_map.2 ⟨r,hr,rfl⟩)
  rw [rowZ_len] at this
  exact ⟨⟨⟨this,by omega⟩,by omega⟩,h1 r hr⟩
theorem zRow_at {g : List (List Int)} {i : Nat} {s : List Int × List Rect} : ∀ {j k : Nat},k < j → (zRow g i s j)[k]? = some (((seRow g i s k).1.idxOf (gz g i k) : Nat) : Int)
 | 0,k,h => by omega
 | j + 1,k,h => by
  unfold zRow
  by_cases e : k = j
  ·subst e; rw [List.getElem?_append_right (by rw [zRow_len]; exact Nat.le_refl _),zRow_len]; simp
  ·rw [List.getElem?_append_left (by rw [zRow_len]; omega)]; exact zRow_at (by omega)
def keys (p : List Txt) : List Int := (seRows (readG p) (hdRow p).length p.length).1
theorem gP_eq {p : List Txt} : gP p = zRows (readG p) (hdRow p).length p.length := by unfold gP zG; rw [w0_read,readG_len]
theorem rP_eq {p : List Txt} : rP p = (seRows (readG p) (hdRow p).length p.length).2 := by unfold rP stG; rw [w0_read,readG_len]
theorem gP_at {p : List Txt} {i j : Nat} (hi : i < p.length) (hj : j < (hdRow p).length) : gz (gP p) i j = (((keys p).idxOf (gz (readG p) i j) : Nat) : Int) := by
 rw [gP_eq]
 unfold gz
 rw [zRows_at hi,Option.getD_some,zRow_at hj,Option.getD_some]
 congr 1
 exact zNum hi hj
theorem keys_inv (p : List Txt) : SeInv (gz (readG p)) (hdRow p).length p.length 0 (keys p) (rP p) := by
 rw [rP_eq]; exact SeInv.rows p.length
theorem gone_all {H W i j : Nat} (hi : i < H) (hj : j < W) : Gone W H 0 i j := ⟨hj,.inl hi⟩
theorem gP_room {p : List Txt} : RmOk (gP p) p.length (hdRow p).length (rP p).length := by
 intro i j hi hj
 rw [gP_at hi hj]
 have hm := (keys_inv p).mem i j (gone_all hi hj)
 have hl := (keys_inv p).len
 have := List.idxOf_lt_length_iff.2 hm
 omega
structure Named (p : List Txt) : Prop where
 hg : gridB p = true
 ht : textG (gP p) = p
theorem Named.cell {p : List Txt} (h : Named p) {i j : Nat} (hi : i < p.length) (hj : j < (hdRow p).length) : gz (gP p) i j = cellZ p i j := by
 have hgz := gP_at hi hj
 have hm := (keys_inv p).mem i j (gone_all hi hj)
 have hsm := grid_small h.hg
 obtain ⟨row0,hr0,hm0⟩ := get_of hsm.1
 have hh := hdRow_of hr0
 have hw6 := hsm.2.2 row0 hm0
 have hw1 := row_pos h.hg hr0
 rw [← hh] at hw6 hw1
 have hb := zRows_bound (g := readG p) hw6 hw1 p.length hsm.2.1
 rw [← gP_eq] at hb
 have hrl : (gP p).length = p.length := by rw [gP_eq]; exact zRows_len _
 obtain ⟨zr,hzr,hzm⟩ := get_of (show i < (gP p).length by omega)
 have hzl : zr.length = (hdRow p).length := by
  have e := hzr
  rw [gP_eq,zRows_at hi] at e
  cases e
  exact zRow_len _
 obtain ⟨z,hz,hzm2⟩ := get_of (show j < zr.length by omega)
 have hz1 := hb zr hzm z hzm2
 have e1 : gz (gP p) i j = z := by simp [gz,hzr,hz]
 have e2 : p[i]? = some (rowT zr) := by
  have := textG_at hzr
  rwa [h.ht] at this
 have e3 : (rowT zr)[j]? = some (letZ z) := by simp [rowT,hz]
 rw [e1,cellZ_is e2 e3]
 unfold letZ
 rw [UInt8.toNat_ofNat_of_lt' (by show 97 + z.toNat < 256; omega)]
 omega
theorem Named.room {p : List Txt} (h : Named p) {i j : Nat} (hi : i < p.length) (hj : j < (hdRow p).length) : 0 ≤ cellZ p i j ∧ cellZ p i j < (rP p).length := by
 rw [← h.cell hi hj]; exact gP_room i j hi hj
theorem Named.key {p : List Txt} (h : Named p) {m : Nat} {v : Int} (hm : (keys p)[m]? = some v) (a b : Nat) : Val (gz (readG p)) (hdRow p).length p.length 0 v a b ↔ Val (cellZ p) (hdRow p).length p.length 0 m a b := by
 unfold Val
 constructor
 ·rintro ⟨h1,h2⟩
  refine ⟨?_,h2⟩
  obtain ⟨hb,ha⟩ := h2
  have ha' : a < p.length := by omega
  rw [← h.cell ha' hb,gP_at ha' hb,h1]
  congr 1
  have hv := List.mem_of_getElem? hm
  have hlt := List.idxOf_lt_length_iff.2 hv
  have := idxOf_mem (ks := keys p) (z := v) (by omega)
  exact nodup_one (keys_inv p).nd this hm
 ·rintro ⟨h1,h2⟩
  refine ⟨?_,h2⟩
  obtain ⟨hb,ha⟩ := h2
  have ha' : a < p.length := by omega
  have hmem := (keys_inv p).mem a b (gone_all ha' hb)
  have hlt := List.idxOf_lt_length_iff.2 hmem
  rw [← h.cell ha' hb,gP_at ha' hb] at h1
  have := idxOf_mem (ks := keys p) (z := gz (readG p) a b) (by omega)
  rw [show (keys p).idxOf (gz (readG p) a b) = m by omega,hm] at this
  cases this; rfl
theorem Named.rect {p : List Txt} (h : Named p) {m : Nat} {b : Rect} (hb : (rP p)[m]? = some b) : HullR (Val (cellZ p) (hdRow p).length p.length 0 m) b := by
 have hi := keys_inv p
 have hml := len_of hb
 rw [hi.len] at hml
 obtain ⟨v,hv,-⟩ := get_of hml
 exact (hi.hull m v b hv hb).congr (h.key hv)
theorem Named.box {p : List Txt} (h : Named p) {m : Nat} {b : Rect} (hb : (rP p)[m]? = some b) : b.row = (boxOf p m).top ∧ b.col = (boxOf p m).left ∧ b.high = highOf p m ∧ b.wide = wideOf p m := by
 have h1 := h.rect hb
 have h2 := boxOf_inv (grid_rows h.hg) rfl (r := (m : Int))
 rcases h2 with ⟨h2,-⟩ | h2
 ·obtain ⟨a,c,q,-⟩ := h1.at_
  exact absurd q (h2 a c)
 ·have := Hull.uniq h1 h2
  unfold highOf wideOf
  omega
theorem foldl_max_le {f : UInt8 → Int} {B : Int} : ∀ (row : Txt) (n : Int),n ≤ B → (∀ c ∈ row,f c ≤ B) → row.foldl (fun n c => max n (f c)) n ≤ B
 | [],n,h,_ => h
 | c :: row,n,h,hc => foldl_max_le row _ (by have := hc c (by simp); show max n (f c) ≤ B; omega) fun d hd => hc d (by simp [hd])
theorem rooms_le {B : Int} : ∀ (p : List Txt) (n : Int),n ≤ B → (∀ row ∈ p,∀ c ∈ row,(c.toNat : Int) - 97 + 1 ≤ B) → p.foldl rowMax n ≤ B
 | [],n,h,_ => h
 | row :: p,n,h,hc => rooms_le p _ (foldl_max_le row n h (hc row (by simp))) fun r hr => hc r (by simp [hr])
theorem Named.rooms {p : List Txt} (h : Named p) : l1Rooms p = (rP p).length := by
 have hi := keys_inv p
 have hl := hi.len
 apply Int.le_antisymm
 ·refine rooms_le p 0 (by omega) fun row hr c hc => ?_
  obtain ⟨i,hrow⟩ := List.getElem?_of_mem hr
  obtain ⟨j,hcol⟩ := List.getElem?_of_mem hc
  have hil := len_of hrow
  have hjl := len_of hcol
  have := h.room hil (by rw [← grid_row h.hg hrow]; exact hjl)
  rw [cellZ_is hrow hcol] at this
  omega
 ·by_cases h0 : (rP p).length = 0
  ·have := (l1Rooms_bound p).1; omega
  ·obtain ⟨b,hb,-⟩ := get_of (show (rP p).length - 1 < (rP p).length by omega)
   obtain ⟨a,c,⟨q1,q2⟩,-⟩ := (h.rect hb).at_
   obtain ⟨hc,ha⟩ := q2
   have ha' : a < p.length := by omega
   obtain ⟨row,hrow,hrm⟩ := get_of ha'
   have hrl := grid_row h.hg hrow
   obtain ⟨d,hd,-⟩ := get_of (show c < row.length by omega)
   have := (rooms_fold p 0).2 a c row d hrow hd
   rw [cellZ_is hrow hd] at q1
   unfold l1Rooms
   omega
def inB (b : Rect) (i j : Nat) : Bool := (decide (b.row ≤ i) && decide ((i : Int) < b.row + b.high)) && (decide (b.col ≤ j) && decide ((j : Int) < b.col + b.wide))
theorem rect_cnt {z : Nat → Nat → Int} {H W : Nat} {v : Int} {b : Rect} (h : HullR (Val z W H 0 v) b) : ((cnt H W (inB b) : Nat) : Int) = b.high * b.wide ∧ ∀ i j,i < H → j < W → z i j = v → inB b i j = true := by
 obtain ⟨t,l,hh,w,e1,e2,e3,e4,h1,h2,h3,h4,h5⟩ := Hull.nat h
 have e5 : b.high = hh := by omega
 have e6 : b.wide = w := by omega
 have e : ∀ i j,inB b i j = inR t l hh w i j := by
  intro i j
  unfold inB inR
  rw [e1,e2,e5,e6,Bool.eq_iff_iff]
  simp only [Bool.and_eq_true,decide_eq_true_eq]
  omega
 have e7 : inB b = inR t l hh w := by funext i j; exact e i j
 rw [e7,cnt_rect h3 h4,e5,e6]
 exact ⟨by simp,h5⟩
def arN (p : List Txt) (m : Nat) : Nat :=
 match (rP p)[m]? with
 | some b => cnt p.length (hdRow p).length (inB b)
 | none => 0
theorem arN_is {p : List Txt} {m : Nat} {b : Rect} (h : (rP p)[m]? = some b) : arN p m = cnt p.length (hdRow p).length (inB b) := by simp [arN,h]
theorem sumA_is {p : List Txt} (h : Named p) : ∀ k,k ≤ (rP p).length → sumA ((rP p).take k) = ((sN k (arN p) : Nat) : Int)
 | 0,_ => by simp [sumA,sN]
 | k + 1,hk => by
  obtain ⟨b,hb,-⟩ := get_of (show k < (rP p).length by omega)
  rw [sumA_succ hb,sumA_is h k (by omega),sN,arN_is hb,← (rect_cnt (h.rect hb)).1]
  simp
theorem Named.cells_le {p : List Txt} (h : Named p) {m : Nat} (hm : m < (rP p).length) : cnt p.length (hdRow p).length (inZ p m) ≤ arN p m := by
 obtain ⟨b,hb,-⟩ := get_of hm
 rw [arN_is hb]
 exact cnt_le fun i j hi hj hz => (rect_cnt (h.rect hb)).2 i j hi hj (by unfold inZ at hz; simpa using hz)
theorem Named.all {p : List Txt} (h : Named p) : sN (rP p).length (fun m => cnt p.length (hdRow p).length (inZ p m)) = p.length * (hdRow p).length := by
 rw [← cnt_classes (H := p.length) (W := (hdRow p).length) (n := (rP p).length) (z := fun i j => (cellZ p i j).toNat) fun i j hi hj => by have := h.room hi hj; omega]
 refine sN_congr fun m hm => cnt_congr fun i j hi hj => ?_
 unfold inZ
 have := h.room hi hj
 apply decide_eq_decide.2
 omega
theorem fullG_is {p : List Txt} (h : Named p) : fullG (readG p) = decide (sN (rP p).length (arN p) = p.length * (hdRow p).length) := by
 have := sumA_is h (rP p).length (Nat.le_refl _)
 rw [List.take_length] at this
 unfold fullG
 rw [show (stG (readG p)).2 = rP p from rfl,this,readG_len,w0_read]
 apply decide_eq_decide.2
 omega
theorem Named.area {p : List Txt} (h : Named p) {m : Nat} (hm : m < (rP p).length) : (l1Cells p m = highOf p m * wideOf p m) ↔ cnt p.length (hdRow p).length (inZ p m) = arN p m := by
 obtain ⟨b,hb,-⟩ := get_of hm
 obtain ⟨-,-,e1,e2⟩ := h.box hb
 rw [l1Cells_is (grid_rows h.hg),← e1,← e2,← (rect_cnt (h.rect hb)).1,arN_is hb]
 omega
theorem Named.full {p : List Txt} (h : Named p) : fullG (readG p) = true ↔ ∀ m,m < (rP p).length → cnt p.length (hdRow p).length (inZ p m) = arN p m := by
 rw [fullG_is h,decide_eq_true_eq,← h.all]
 constructor
 ·intro e m hm
  exact sN_eq (fun m hm => h.cells_le hm) e.symm m hm
 ·intro e
  exact sN_congr fun m hm => (e m hm).symm
theorem Named.fill {p : List Txt} (h : Named p) (hf : fullG (readG p) = true) {m : Nat} {b : Rect} (hb : (rP p)[m]? = some b) {i j : Nat} (hi : i < p.length) (hj : j < (hdRow p).length) : inB b i j = decide (cellZ p i j = m) := by
 have e := h.full.1 hf m (len_of hb)
 rw [arN_is hb] at e
 exact (cnt_eq (fun i j hi hj hz => (rect_cnt (h.rect hb)).2 i j hi hj (by unfold inZ at hz; simpa using hz)) e i j hi hj).symm
theorem floorI_plan {p : List Txt} : floorI p = planB p := by
 unfold floorI floorV okB okS planB
 rw [Bool.eq_iff_iff]
 simp only [Bool.and_eq_true,decide_eq_true_eq,List.all_eq_true,List.mem_range]
 have hgi := grid_iff (p := p)
 constructor
 ·rintro ⟨⟨h1,h2,h3⟩,h4,h5⟩
  have hg : gridB p = true := by rw [hgi,h1,h2]; rfl
  have hN : Named p := ⟨hg,h5⟩
  have hr := hN.rooms
  have h3' : (rP p).length ≤ 9 := h3
  refine ⟨⟨⟨hg,by rw [names_text hg]; exact h5⟩,by omega⟩,fun m hm => ?_⟩
  have hm' : m < (rP p).length := by omega
  exact (hN.area hm').2 (hN.full.1 h4 m hm')
 ·rintro ⟨⟨⟨hg,h2⟩,h3⟩,h4⟩
  have h5 : textG (gP p) = p := by rw [← names_text hg]; exact h2
  have hN : Named p := ⟨hg,h5⟩
  have hr := hN.rooms
  rw [hgi,Bool.and_eq_true] at hg
  have h3' : (rP p).length ≤ 9 := by omega
  exact ⟨⟨hg.1,hg.2,h3'⟩,hN.full.2 fun m hm => (hN.area hm).1 (h4 m (by omega)),h5⟩
theorem plan_named {p : List Txt} (h : planB p = true) : Named p := by
 have h2 := h
 rw [← floorI_plan] at h2
 unfold floorI floorV at h2
 simp only [Bool.and_eq_true,decide_eq_true_eq] at h2
 exact ⟨planB_grid h,h2.2.2⟩
theorem plan_full {p : List Txt} (h : planB p = true) : fullG (readG p) = true := by
 rw [← floorI_plan] at h
 unfold floorI floorV at h
 simp only [Bool.and_eq_true,decide_eq_true_eq] at h
 exact h.2.1
def cz (c : UInt8) : Int := (c.toNat : Int) - 97
theorem cz_inj {a b : UInt8} : (cz a = cz b) = (a = b) := by
 rw [u8_eq]
 unfold cz
 apply propext; omega
theorem dn_dist (a b c d : UInt8) : ((dn [cz a,cz b,cz c,cz d] : Nat) : Int) = distTo [a,b,c,d] 4 := by
 simp only [dn,distTo,newAt,newTo,List.mem_cons,List.not_mem_nil,or_false,cz_inj]
 by_cases h1 : a = b <;> by_cases h2 : a = c <;> by_cases h3 : a = d <;> by_cases h4 : b = c <;> by_cases h5 : b = d <;> by_cases h6 : c = d <;> simp_all [eq_comm]
theorem four_meets {p : List Txt} (h : Named p) {i k : Nat} (hi : 1 ≤ i) (hi2 : i < p.length) (hk : 1 ≤ k) (hk2 : k < (hdRow p).length) : ((dn (four (gP p) i k) : Nat) : Int) = meetsAt p i k := by
 obtain ⟨r1,hr1,-⟩ := get_of (show i - 1 < p.length by omega)
 obtain ⟨r2,hr2,-⟩ := get_of hi2
 have l1 := grid_row h.hg hr1
 have l2 := grid_row h.hg hr2
 obtain ⟨a,ha,-⟩ := get_of (show k - 1 < r1.length by omega)
 obtain ⟨b,hb,-⟩ := get_of (show k < r1.length by omega)
 obtain ⟨c,hc,-⟩ := get_of (show k - 1 < r2.length by omega)
 obtain ⟨d,hd,-⟩ := get_of (show k < r2.length by omega)
 unfold four meetsAt
 rw [h.cell (by omega) (by omega),h.cell (by omega) (by omega),h.cell (by omega) (by omega),h.cell (by omega) (by omega),cellZ_is hr1 ha,cellZ_is hr1 hb,cellZ_is hr2 hc,cellZ_is hr2 hd]
 simp only [hr1,hr2,ha,hb,hc,hd]
 exact dn_dist a b c d
theorem ptsRow_eq {p : List Txt} (h : Named p) {many : Int} {i : Nat} (hi : 1 ≤ i) (hi2 : i < p.length) : ∀ k,k ≤ (hdRow p).length → ptsRowG (gP p) many i k = ptsRow p many i k
 | 0,_ => rfl
 | k + 1,hk => by
  unfold ptsRowG ptsRow
  rw [ptsRow_eq h hi hi2 k (by omega)]
  by_cases h1 : 1 ≤ k
  ·rw [four_meets h hi hi2 h1 (by omega)]
  ·rw [if_neg (fun e => h1 e.1),if_neg (fun e => h1 e.1)]
theorem pts_eq {p : List Txt} (h : Named p) {many : Int} : ∀ i,i ≤ p.length → ptsG (gP p) many (hdRow p).length i = ptsTo p many (hdRow p).length i
 | 0,_ => rfl
 | i + 1,hi => by
  unfold ptsG ptsTo
  rw [pts_eq h i (by omega)]
  by_cases h1 : 1 ≤ i
  ·rw [ptsRow_eq h h1 (by omega) _ (Nat.le_refl _)]
  ·rw [if_neg h1,if_neg h1]
theorem plainI_plain {p : List Txt} : plainI p = plainB p := by
 unfold plainI plainB
 rw [floorI_plan]
 cases hp : planB p with
 | false => rfl
 | true =>
  rw [w0_read,pts_eq (plan_named hp) p.length (Nat.le_refl _)]
  rfl
theorem plain_plan {p : List Txt} (h : plainB p = true) : planB p = true := by
 unfold plainB at h
 rw [Bool.and_eq_true] at h
 exact h.1
theorem mem_ddp {l : List Int} {x : Int} : x ∈ ddp l ↔ x ∈ l := by
 have : ∀ (l m : List Int),x ∈ l.foldl putL m ↔ x ∈ m ∨ x ∈ l := by
  intro l
  induction l with
  | nil => intro m; simp
  | cons a l ih => intro m; rw [List.foldl_cons,ih,mem_putL,List.mem_cons,or_assoc]
 unfold ddp
 rw [this]
 simp
def Rise (n : Nat) (rk : Nat → Nat) (M : List (List Bool)) : Prop := Sq n M ∧ ∀ a b,a < n → b < n → getB M a b = true → rk a < rk b
theorem Rise.clA {n : Nat} {rk : Nat → Nat} {M : List (List Bool)} (h : Rise n rk M) {k a : Nat} (hk : k < n) (ha : a < n) : Rise n rk (clA n k M a) := by
 obtain ⟨h1,h2⟩ := clA_to h.1 hk ha n (Nat.le_refl _)
 refine ⟨h1,fun x y hx hy hxy => ?_⟩
 unfold Fw.clA at hxy
 rw [h2 x y hx hy] at hxy
 split at hxy
 ·rename_i e
  obtain ⟨rfl,-⟩ := e
  rw [Bool.or_eq_true,Bool.and_eq_true] at hxy
  rcases hxy with hxy | ⟨h3,h4⟩
  ·exact h.2 x y hx hy hxy
  ·exact Nat.lt_trans (h.2 x k hx hk h3) (h.2 k y hk hy h4)
 ·exact h.2 x y hx hy hxy
theorem Rise.fold {n : Nat} {rk : Nat → Nat} {f : List (List Bool) → Nat → List (List Bool)} : ∀ (i : Nat) {M : List (List Bool)},i ≤ n → (∀ M j,j < n → Rise n rk M → Rise n rk (f M j)) → Rise n rk M → Rise n rk ((List.range i).foldl f M)
 | 0,_,_,_,h => h
 | i + 1,M,hi,hs,h => by
  rw [foldl_rg]
  exact hs _ i (by omega) (Rise.fold i (by omega) hs h)
theorem Rise.close {n : Nat} {rk : Nat → Nat} {M : List (List Bool)} (h : Rise n rk M) : Rise n rk (closeM M) := by
 unfold closeM
 rw [h.1.1]
 exact Rise.fold n (Nat.le_refl _) (fun _ k hk h => Rise.fold n (Nat.le_refl _) (fun _ a ha h => h.clA hk ha) h) h
theorem Rise.relB {n : Nat} {rk : Nat → Nat} {a : Int} (ha : 0 ≤ a ∧ a < n) : ∀ {bs : List Int} {M : List (List Bool)},Rm n bs → (∀ b ∈ bs,rk a.toNat < rk b.toNat) → Rise n rk M → Rise n rk (relB a bs M)
 | [],_,_,_,h => h
 | b :: bs,M,hb,hr,h => by
  have hb0 := hb b (by simp)
  refine Rise.relB ha (bs := bs) (fun x hx => hb x (by simp [hx])) (fun x hx => hr x (by simp [hx])) ⟨h.1.set (by omega),fun x y hx hy hxy => ?_⟩
  rw [getB_setB h.1 (by omega) (by omega)] at hxy
  split at hxy
  ·rename_i e
   rw [e.1,e.2]; exact hr b (by simp)
  ·exact h.2 x y hx hy hxy
theorem Rise.relW {n : Nat} {rk : Nat → Nat} {bs : List Int} (hb : Rm n bs) : ∀ {la : List Int} {M : List (List Bool)},Rm n la → (∀ a ∈ la,∀ b ∈ bs,rk a.toNat < rk b.toNat) → Rise n rk M → Rise n rk (relW M la bs)
 | [],_,_,_,h => h
 | a :: la,M,ha,hr,h => Rise.relW hb (la := la) (fun x hx => ha x (by simp [hx])) (fun x hx => hr x (by simp [hx])) (h.relB (ha a (by simp)) hb (hr a (by simp)))
theorem Rise.empty {n : Nat} {rk : Nat → Nat} : Rise n rk (emptyM n) := by
 refine ⟨emptyM_sq n,fun a b ha hb h => ?_⟩
 simp [getB,emptyM,ha,hb] at h
theorem Rise.ord {g : List (List Int)} {nh nw n : Nat} {r0 r1 : Nat → Nat} (hrm : RmOk g nh nw n) (h0 : ∀ w,WlOk g nh nw w → w.level = false → ∀ a ∈ (sidesOf g w).1,∀ b ∈ (sidesOf g w).2,r0 a.toNat < r0 b.toNat)
  (h1 : ∀ w,WlOk g nh nw w → w.level = true → ∀ a ∈ (sidesOf g w).1,∀ b ∈ (sidesOf g w).2,r1 a.toNat < r1 b.toNat) : ∀ (ws : List Wall),(∀ w ∈ ws,WlOk g nh nw w) → ∀ {M : List (List Bool) × List (List Bool)},Rise n r0 M.1 → Rise n r1 M.2 →
  Rise n r0 (ws.foldl (ordW g) M).1 ∧ Rise n r1 (ws.foldl (ordW g) M).2
 | [],_,_,k0,k1 => ⟨k0,k1⟩
 | w :: ws,hws,M,k0,k1 => by
  have hw := hws w (by simp)
  obtain ⟨hr1,hr2⟩ := sidesOf_rooms hrm hw
  rw [List.foldl_cons]
  refine Rise.ord hrm h0 h1 ws (fun w hw => hws w (by simp [hw])) ?_ ?_
  ·unfold ordW
   cases hlv : w.level with
   | false => simpa using k0.relW hr2 hr1 (h0 w hw hlv)
   | true => simpa using k0
  ·unfold ordW
   cases hlv : w.level with
   | false => simpa using k1
   | true => simpa using k1.relW hr2 hr1 (h1 w hw hlv)
theorem side1 {g : List (List Int)} {nh nw : Nat} {w : Wall} (hw : WlOk g nh nw w) {x : Int} (hx : x ∈ (sidesOf g w).1) : ∃ line j : Nat,w.line = line ∧ x = (sidesG g w.level line j).1 ∧ InL nh nw w.level line j ∧ difG g w.level line j = true := by
 obtain ⟨line,fr,long,e,h1,h2⟩ := hw
 have e1 : w.line.toNat = line := by rw [e]; simp
 have e2 : w.fr.toNat = fr := by rw [e]; simp
 have e3 : w.long.toNat = long := by rw [e]; simp
 simp only [sidesOf,e1,e2,e3] at hx
 have := mem_ddp.1 hx
 simp only [alongG,List.mem_map,List.mem_range] at this
 obtain ⟨j,hj,rfl⟩ := this
 have h3 := h2 (fr + j) (by omega) (by omega)
 exact ⟨line,fr + j,by rw [e],rfl,h3.1,h3.2⟩
theorem side2 {g : List (List Int)} {nh nw : Nat} {w : Wall} (hw : WlOk g nh nw w) {x : Int} (hx : x ∈ (sidesOf g w).2) : ∃ line j : Nat,w.line = line ∧ x = (sidesG g w.level line j).2 ∧ InL nh nw w.level line j ∧ difG g w.level line j = true := by
 obtain ⟨line,fr,long,e,h1,h2⟩ := hw
 have e1 : w.line.toNat = line := by rw [e]; simp
 have e2 : w.fr.toNat = fr := by rw [e]; simp
 have e3 : w.long.toNat = long := by rw [e]; simp
 simp only [sidesOf,e1,e2,e3] at hx
 have := mem_ddp.1 hx
 simp only [alongG,List.mem_map,List.mem_range] at this
 obtain ⟨j,hj,rfl⟩ := this
 have h3 := h2 (fr + j) (by omega) (by omega)
 exact ⟨line,fr + j,by rw [e],rfl,h3.1,h3.2⟩
def rkL (p : List Txt) (a : Nat) : Nat := match (rP p)[a]? with | some b => b.col.toNat | none => 0
def rkA (p : List Txt) (a : Nat) : Nat := match (rP p)[a]? with | some b => b.row.toNat | none => 0
theorem plan_rect {p : List Txt} (hp : planB p = true) {i j : Nat} (hi : i < p.length) (hj : j < (hdRow p).length) : ∃ b,(rP p)[(cellZ p i j).toNat]? = some b ∧ inB b i j = true ∧ b.Fit ∧ ∀ k l,k < p.length → l < (hdRow p).length → inB b k l = true → cellZ p k l = cellZ p i j := by
 have hN := plan_named hp
 have hr := hN.room hi hj
 obtain ⟨b,hb,hbm⟩ := get_of (show (cellZ p i j).toNat < (rP p).length by omega)
 have hf := plan_full hp
 have hsm := grid_small hN.hg
 obtain ⟨row0,hr0,hm0⟩ := get_of hsm.1
 have hh := hdRow_of hr0
 have hw6 := hsm.2.2 row0 hm0
 have hw1 := row_pos hN.hg hr0
 rw [← hh] at hw6 hw1
 have hok := (seRows_ok (g := readG p) hw6 hw1 p.length hsm.2.1).1
 rw [← rP_eq] at hok
 refine ⟨b,hb,?_,hok.2 b hbm,fun k l hk hl hkl => ?_⟩
 ·rw [hN.fill hf hb hi hj]; exact decide_eq_true (by omega)
 ·rw [hN.fill hf hb hk hl] at hkl
  have := of_decide_eq_true hkl
  omega
theorem plan_left {p : List Txt} (hp : planB p = true) {w : Wall} (hw : WlOk (gP p) p.length (hdRow p).length w) (hl : w.level = false) : ∀ a ∈ (sidesOf (gP p) w).1,∀ b ∈ (sidesOf (gP p) w).2,rkL p a.toNat < rkL p b.toNat := by
 intro a ha b hb
 have hN := plan_named hp
 obtain ⟨L,j,e1,rfl,⟨h1,h2⟩,h3⟩ := side1 hw ha
 obtain ⟨L',j',e2,rfl,⟨k1,k2⟩,k3⟩ := side2 hw hb
 obtain rfl : L = L' := by omega
 simp only [hl,Bool.false_eq_true,if_false] at h2 k2
 unfold difG at k3
 simp only [hl,sidesG,Bool.false_eq_true,if_false,decide_eq_true_eq] at k3 ⊢
 rw [hN.cell k2.2 (by omega),hN.cell k2.2 k2.1] at k3
 rw [hN.cell h2.2 (by omega),hN.cell k2.2 k2.1]
 obtain ⟨r1,hr1,q1,f1,-⟩ := plan_rect hp h2.2 (show L - 1 < (hdRow p).length by omega)
 obtain ⟨r2,hr2,q2,f2,c2⟩ := plan_rect hp k2.2 k2.1
 unfold rkL
 rw [hr1,hr2]
 simp only
 have c3 := c2 j' (L - 1) k2.2 (by omega)
 unfold inB at q1 q2 c3
 unfold Rect.Fit at f1 f2
 simp only [Bool.and_eq_true,decide_eq_true_eq] at q1 q2 c3
 by_cases hc : r2.col < (L : Int)
 ·exact absurd (c3 (by omega)) k3
 ·omega
theorem plan_above {p : List Txt} (hp : planB p = true) {w : Wall} (hw : WlOk (gP p) p.length (hdRow p).length w) (hl : w.level = true) : ∀ a ∈ (sidesOf (gP p) w).1,∀ b ∈ (sidesOf (gP p) w).2,rkA p a.toNat < rkA p b.toNat := by
 intro a ha b hb
 have hN := plan_named hp
 obtain ⟨L,j,e1,rfl,⟨h1,h2⟩,h3⟩ := side1 hw ha
 obtain ⟨L',j',e2,rfl,⟨k1,k2⟩,k3⟩ := side2 hw hb
 obtain rfl : L = L' := by omega
 simp only [hl,if_true] at h2 k2
 unfold difG at k3
 simp only [hl,sidesG,if_true,decide_eq_true_eq] at k3 ⊢
 rw [hN.cell (by omega) k2.2,hN.cell k2.1 k2.2] at k3
 rw [hN.cell (by omega) h2.2,hN.cell k2.1 k2.2]
 obtain ⟨r1,hr1,q1,f1,-⟩ := plan_rect hp (show L - 1 < p.length by omega) h2.2
 obtain ⟨r2,hr2,q2,f2,c2⟩ := plan_rect hp k2.1 k2.2
 unfold rkA
 rw [hr1,hr2]
 simp only
 have c3 := c2 (L - 1) j' (by omega) k2.2
 unfold inB at q1 q2 c3
 unfold Rect.Fit at f1 f2
 simp only [Bool.and_eq_true,decide_eq_true_eq] at q1 q2 c3
 by_cases hc : r2.row < (L : Int)
 ·exact absurd (c3 (by omega)) k3
 ·omega
theorem rk_le {p : List Txt} (hp : planB p = true) (b : Nat) : rkL p b ≤ 100 ∧ rkA p b ≤ 100 := by
 have hN := plan_named hp
 have hsm := grid_small hN.hg
 obtain ⟨row0,hr0,hm0⟩ := get_of hsm.1
 have hh := hdRow_of hr0
 have hw6 := hsm.2.2 row0 hm0
 have hw1 := row_pos hN.hg hr0
 rw [← hh] at hw6 hw1
 have hok := (seRows_ok (g := readG p) hw6 hw1 p.length hsm.2.1).1
 rw [← rP_eq] at hok
 unfold rkL rkA
 cases hb : (rP p)[b]? with
 | none => simp
 | some r =>
  have := hok.2 r (List.mem_of_getElem? hb)
  unfold Rect.Fit at this
  simp only
  omega
theorem plan_up {p : List Txt} (hp : planB p = true) : Up (leftG (gP p) p.length (hdRow p).length (rP p).length) (rP p).length (rkL p) ∧ Up (aboveG (gP p) p.length (hdRow p).length (rP p).length) (rP p).length (rkA p) := by
 have h := Rise.ord (r0 := rkL p) (r1 := rkA p) (gP_room (p := p)) (fun w hw hl => plan_left hp hw hl) (fun w hw hl => plan_above hp hw hl) (wallsG (gP p) p.length (hdRow p).length) wallsG_ok (M := (emptyM (rP p).length,emptyM (rP p).length)) Rise.empty Rise.empty
 have h0 := h.1.close
 have h1 := h.2.close
 exact ⟨⟨h0.1,h0.2,fun b => (rk_le hp b).1⟩,⟨h1.1,h1.2,fun b => (rk_le hp b).2⟩⟩
theorem plan_all {p : List Txt} (hp : plainI p = true) : RmOk (gP p) p.length (w0 (readG p)) (rP p).length ∧ (∃ rk,Up (leftG (gP p) p.length (w0 (readG p)) (rP p).length) (rP p).length rk) ∧ ∃ rk,Up (aboveG (gP p) p.length (w0 (readG p)) (rP p).length) (rP p).length rk := by
 rw [plainI_plain] at hp
 have h := plan_up (plain_plan hp)
 rw [w0_read]
 exact ⟨gP_room,⟨_,h.1⟩,⟨_,h.2⟩⟩
section
open Go Go.ChangeShapes Go.WideShapes Go.ChangeAt Go.RowKit
set_option maxRecDepth 100000 in
theorem slice_at {W : World} {base : Nat} {t e : TypeId} {a : Addr} {len cap : Nat} (ht : Tryz.prog.underlying t = some (.slice e)) (hval : Value.okWide Tryz.prog W .any base t (.slice (some a) len cap)) : a.spot = none ∧ a.block < W.heap.size := by
 simp only [Value.okWide,ht,Cell.okWide,Cell.ok] at hval
 obtain ⟨-,-,-,hsp,row,cells,hsh,-⟩ := hval
 refine ⟨hsp,?_⟩
 unfold World.shape? at hsh
 rcases Nat.lt_or_ge a.block W.heap.size with h | h
 ·exact h
 ·rw [Array.getElem?_eq_none h] at hsh; cases hsh
end
section
open Go Go.ChangeShapes Go.WideShapes Go.ChangeAt Go.RowKit
set_option maxRecDepth 100000 in
theorem vi_bytes {H : Type} {enc : TypeId × Value → H} {W : World} {base : Nat} {v : Value} {d : DataW H} {ps : List MemPlace} (hval : Value.okWide Tryz.prog W .any base 22 v) (h : DataW.Trod enc Tryz.prog W 0 (fun _ => true) true 22 v d ps) :
  ∃ p : Txt,VI W.heap (fun b => b < W.heap.size) (.sl (p.map eB) p.length) v ∧ p.length ≤ 9223372036854775807 := by
 obtain ⟨a0,len,cap,rfl⟩ := okWide_slice Tryz.underlying22 hval
 obtain ⟨fuel,hf⟩ := h
 rcases open_ints Tryz.underlying22 Tryz.underlying5 (by kernel_rfl) hf with ⟨hcs,hx⟩ | ⟨a,len',cap',zs,hcs,-,hl,hm,hz,hx,hcell,hwf⟩
 ·simp [Value.cells] at hcs
  obtain ⟨rfl,rfl,rfl⟩ := hcs
  exact ⟨[],.sl0,by simp⟩
 ·simp [Value.cells] at hcs
  obtain ⟨rfl,rfl,rfl⟩ := hcs
  obtain ⟨hsp,hlt⟩ := slice_at Tryz.underlying22 hval
  obtain ⟨b,off,spot⟩ := a
  simp only at hsp hlt
  subst hsp
  simp only [if_true] at hz
  have hml : maxLen ≤ 9223372036854775807 := by decide
  have hlen : ((zs.take len).map fun n : Int => UInt8.ofNat n.toNat).length = len := by simp; omega
  have hget : ∀ (i : Nat) c,((zs.take len).map fun n : Int => UInt8.ofNat n.toNat)[i]? = some c → i < len ∧ (c.toNat : Int) = zs.getD i 0 := by
   intro i c hc
   rw [List.getElem?_map,Option.map_eq_some_iff] at hc
   obtain ⟨z,hz1,rfl⟩ := hc
   have hi := len_of hz1
   simp only [List.length_take] at hi
   rw [List.getElem?_take_of_lt (by omega)] at hz1
   refine ⟨by omega,?_⟩
   rw [List.getD_eq_getElem?_getD,hz1,Option.getD_some]
   have hw := hwf z (List.mem_of_getElem? hz1)
   have hz8 : 0 ≤ z ∧ z < 256 := by
    have e : IntKind.u8.min ≤ z ∧ z ≤ IntKind.u8.max := by simpa [Lit.wf] using hw
    have e1 : IntKind.u8.min = 0 := by decide
    have e2 : IntKind.u8.max = 255 := by decide
    omega
   have e3 : (UInt8.ofNat z.toNat).toNat = z.toNat % 256 := rfl
   rw [e3]
   omega
  refine ⟨(zs.take len).map fun n : Int => UInt8.ofNat n.toNat,?_,by rw [hlen]; omega⟩
  rw [hlen]
  refine .sl _ _ b off cap (fun i => .int .u8 (zs.getD i 0)) (fun _ => hlt) hl (fun i q hq => ?_) (fun i q hq => ?_)
  ·rw [List.getElem?_map,Option.map_eq_some_iff] at hq
   obtain ⟨c,hc,rfl⟩ := hq
   obtain ⟨hi,-⟩ := hget i c hc
   refine ⟨rfl,?_⟩
   rw [← cellH_eq]
   have := hcell i (by omega)
   rwa [add_lit] at this
  ·rw [List.getElem?_map,Option.map_eq_some_iff] at hq
   obtain ⟨c,hc,rfl⟩ := hq
   obtain ⟨-,e⟩ := hget i c hc
   show VI _ _ (.int .u8 (c.toNat : Int)) _
   rw [e]
   exact .int _ _
end
section
structure Pl (c : Nat → Nat → Nat) (H W : Nat) : Prop where
 rect : ∀ {i j i' j' : Nat} (k l : Nat),i < H → i' < H → j < W → j' < W → c i j = c i' j' → min i i' ≤ k → k ≤ max i i' → min j j' ≤ l → l ≤ max j j' → c k l = c i j
 plain : ∀ {i j : Nat},i + 1 < H → j + 1 < W → c i j ≠ c i (j + 1) → c (i + 1) j ≠ c (i + 1) (j + 1) → c i j ≠ c (i + 1) j → c i (j + 1) = c (i + 1) (j + 1)
def DL (c : Nat → Nat → Nat) (H W a b : Nat) : Prop := ∃ j i1 i2,j + 1 < W ∧ i1 < H ∧ i2 < H ∧ (∀ r,min i1 i2 ≤ r → r ≤ max i1 i2 → c r j ≠ c r (j + 1)) ∧ a = c i1 j ∧ b = c i2 (j + 1)
def DU (c : Nat → Nat → Nat) (H W a b : Nat) : Prop := ∃ i j1 j2,i + 1 < H ∧ j1 < W ∧ j2 < W ∧ (∀ k,min j1 j2 ≤ k → k ≤ max j1 j2 → c i k ≠ c (i + 1) k) ∧ a = c i j1 ∧ b = c (i + 1) j2
theorem least_of {P : Nat → Prop} : ∀ {n : Nat},P n → ∃ m,m ≤ n ∧ P m ∧ ∀ k,k < m → ¬ P k := by
 intro n
 induction n using Nat.strongRecOn with
 | _ n ih =>
  intro h
  by_cases c : ∃ k,k < n ∧ P k
  ·obtain ⟨k,hk,hp⟩ := c
   obtain ⟨m,h1,h2,h3⟩ := ih k hk hp
   exact ⟨m,by omega,h2,h3⟩
  ·exact ⟨n,Nat.le_refl _,h,fun k hk hp => c ⟨k,hk,hp⟩⟩
theorem flip_of {P : Nat → Prop} {i : Nat} : ∀ {n : Nat},i ≤ n → P i → ¬ P n → ∃ e,i ≤ e ∧ e + 1 ≤ n ∧ P e ∧ ¬ P (e + 1)
 | 0,h,h1,h2 => by
    obtain rfl : i = 0 := by omega
    exact absurd h1 h2
 | n + 1,h,h1,h2 => by
  by_cases c : P n
  ·by_cases e : i = n + 1
   ·subst e; exact absurd h1 h2
   ·exact ⟨n,by omega,Nat.le_refl _,c,h2⟩
  ·by_cases e : i = n + 1
   ·subst e; exact absurd h1 h2
   ·obtain ⟨m,k1,k2,k3⟩ := flip_of (P := P) (i := i) (n := n) (by omega) h1 c
    exact ⟨m,k1,by omega,k3⟩
section
variable {c : Nat → Nat → Nat} {H W : Nat}
def Stair (c : Nat → Nat → Nat) (H W : Nat) (Z : Nat → Prop) : Prop := ∀ {i j : Nat} (i' j' : Nat),i < H → j < W → i' ≤ i → j' ≤ j → Z (c i j) → Z (c i' j')
def Free (c : Nat → Nat → Nat) (H W : Nat) (Z : Nat → Prop) : Prop := ∃ i j,i < H ∧ j < W ∧ ¬ Z (c i j) ∧ (∀ a,DL c H W a (c i j) ∨ DU c H W a (c i j) → Z a) ∧ Stair c H W fun x => Z x ∨ x = c i j
theorem free_here (h : Pl c H W) {Z : Nat → Prop} (hZ : Stair c H W Z) {i j : Nat} (hi : i < H) (hj : j < W) (hn : ¬ Z (c i j)) (hu : ∀ i',i' + 1 = i → Z (c i' j)) (hl : ∀ j',j' + 1 = j → Z (c i j'))
  (hN : ∀ i',i' + 1 = i → ∀ k,j ≤ k → k < W → (∀ l,j ≤ l → l ≤ k → c i' l ≠ c i l) → Z (c i' k))
  (hA : ∀ j',j' + 1 = j → ∀ k,i ≤ k → k < H → (∀ r,i ≤ r → r ≤ k → c r j' ≠ c r j) → Z (c k j')) : Free c H W Z := by
 have up : ∀ {i2 j2 : Nat},i2 < H → j2 < W → c i2 j2 = c i j → i ≤ i2 := by
  intro i2 j2 h1 h2 h3
  by_cases q : i ≤ i2
  ·exact q
  ·have h4 := hu (i - 1) (by omega)
   rw [h.rect (i - 1) j h1 hi h2 hj h3 (by omega) (by omega) (by omega) (by omega),h3] at h4
   exact absurd h4 hn
 have lf : ∀ {i2 j2 : Nat},i2 < H → j2 < W → c i2 j2 = c i j → j ≤ j2 := by
  intro i2 j2 h1 h2 h3
  by_cases q : j ≤ j2
  ·exact q
  ·have h4 := hl (j - 1) (by omega)
   rw [h.rect i (j - 1) h1 hi h2 hj h3 (by omega) (by omega) (by omega) (by omega),h3] at h4
   exact absurd h4 hn
 have runL : ∀ {i2 j2 r j' : Nat},i2 < H → j2 < W → c i2 j2 = c i j → j' + 1 = j → i ≤ r → r ≤ i2 → c r j' ≠ c r j := by
  intro i2 j2 r j' h1 h2 h3 h4 h5 h6 h7
  have h8 := lf h1 h2 h3
  have e1 : c r j = c i j := by
   rw [h.rect r j h1 hi h2 hj h3 (by omega) (by omega) (by omega) (by omega),h3]
  have h9 := lf (i2 := r) (j2 := j') (by omega) (by omega) (by rw [h7,e1])
  omega
 have runU : ∀ {i2 j2 l i' : Nat},i2 < H → j2 < W → c i2 j2 = c i j → i' + 1 = i → j ≤ l → l ≤ j2 → c i' l ≠ c i l := by
  intro i2 j2 l i' h1 h2 h3 h4 h5 h6 h7
  have h8 := up h1 h2 h3
  have e1 : c i l = c i j := by
   rw [h.rect i l h1 hi h2 hj h3 (by omega) (by omega) (by omega) (by omega),h3]
  have h9 := up (i2 := i') (j2 := l) (by omega) (by omega) (by rw [h7,e1])
  omega
 refine ⟨i,j,hi,hj,hn,?_,?_⟩
 ·rintro a (⟨j0,i1,i2,k1,k2,k3,run,rfl,k4⟩ | ⟨i0,j1,j2,k1,k2,k3,run,rfl,k4⟩)
  ·have h1 := lf k3 k1 k4.symm
   have e : j0 + 1 = j := by
    by_cases q : j0 + 1 = j
    ·exact q
    ·have := h.rect i2 j0 k3 hi k1 hj k4.symm (by omega) (by omega) (by omega) (by omega)
     exact absurd this (run i2 (by omega) (by omega))
   subst e
   have h2 := up k3 k1 k4.symm
   by_cases q : i1 < i
   ·exact hZ i1 j0 hi (by omega) (by omega) (Nat.le_refl _) (hl j0 rfl)
   ·refine hA j0 rfl i1 (by omega) k2 fun r r1 r2 => ?_
    by_cases q2 : min i1 i2 ≤ r
    ·exact run r q2 (by omega)
    ·exact runL k3 k1 k4.symm rfl r1 (by omega)
  ·have h1 := up k1 k3 k4.symm
   have e : i0 + 1 = i := by
    by_cases q : i0 + 1 = i
    ·exact q
    ·have := h.rect i0 j2 k1 hi k3 hj k4.symm (by omega) (by omega) (by omega) (by omega)
     exact absurd this (run j2 (by omega) (by omega))
   subst e
   have h2 := lf k1 k3 k4.symm
   by_cases q : j1 < j
   ·exact hZ i0 j1 (by omega) hj (Nat.le_refl _) (by omega) (hu i0 rfl)
   ·refine hN i0 rfl j1 (by omega) k2 fun r r1 r2 => ?_
    by_cases q2 : min j1 j2 ≤ r
    ·exact run r q2 (by omega)
    ·exact runU k1 k3 k4.symm rfl r1 (by omega)
 ·intro i2 k2 i' j' h1 h2 h3 h4 h5
  rcases h5 with h5 | h5
  ·exact .inl (hZ i' j' h1 h2 h3 h4 h5)
  ·have q1 := up h1 h2 h5
   have q2 := lf h1 h2 h5
   by_cases q3 : i' < i
   ·left
    refine hZ i' j' (show i - 1 < H by omega) h2 (by omega) h4 (hN (i - 1) (by omega) k2 q2 h2 fun l l1 l2 => runU h1 h2 h5 (by omega) l1 l2)
   ·by_cases q4 : j' < j
    ·left
     exact hZ i' j' h1 (show j - 1 < W by omega) h3 (by omega) (hA (j - 1) (by omega) i2 q1 h1 fun r r1 r2 => runL h1 h2 h5 (by omega) r1 r2)
    ·right
     rw [h.rect i' j' h1 hi h2 hj h5 (by omega) (by omega) (by omega) (by omega),h5]
theorem free_from (h : Pl c H W) {Z : Nat → Prop} (hZ : Stair c H W Z) : ∀ (j i : Nat),i < H → j < W → ¬ Z (c i j) → (∀ i',i' + 1 = i → Z (c i' j)) → (∀ j',j' + 1 = j → Z (c i j')) →
  (∀ i',i' + 1 = i → ∀ k,j ≤ k → k < W → (∀ l,j ≤ l → l ≤ k → c i' l ≠ c i l) → Z (c i' k)) → Free c H W Z := by
 intro j
 induction j using Nat.strongRecOn with
 | _ j ih =>
  intro i hi hj hn hu hl hN
  by_cases hA : ∀ j',j' + 1 = j → ∀ k,i ≤ k → k < H → (∀ r,i ≤ r → r ≤ k → c r j' ≠ c r j) → Z (c k j')
  ·exact free_here h hZ hi hj hn hu hl hN hA
  ·simp only [Classical.not_forall] at hA
   obtain ⟨j',rfl,k,h1,h2,run,h3⟩ := hA
   obtain ⟨e,e1,e2,e3,e4⟩ := flip_of (P := fun r => Z (c r j')) h1 (hl j' rfl) h3
   obtain ⟨m,m1,m2,m3⟩ := least_of (P := fun l => ¬ Z (c (e + 1) l)) e4
   refine ih m (by omega) (e + 1) (by omega) (by omega) m2 ?_ ?_ ?_
   ·intro i' hi'
    obtain rfl : i' = e := by omega
    exact hZ i' m (by omega) (by omega) (Nat.le_refl _) m1 e3
   ·intro l hl'
    exact Classical.not_not.1 (m3 l (by omega))
   ·intro i' hi' k2 k3 k4 k5
    obtain rfl : i' = e := by omega
    by_cases q : k2 ≤ j'
    ·exact hZ i' k2 (by omega) (by omega) (Nat.le_refl _) q e3
    ·have q1 := k5 (j' + 1) (by omega) (by omega)
     have q2 := h.plain (i := i') (j := j') (by omega) hj (run i' (by omega) (by omega)) (run (i' + 1) (by omega) (by omega)) (fun q3 => e4 (by rw [← q3]; exact e3))
     exact absurd q2 q1
theorem free_ex (h : Pl c H W) {Z : Nat → Prop} (hZ : Stair c H W Z) (hx : ∃ i j,i < H ∧ j < W ∧ ¬ Z (c i j)) : Free c H W Z := by
 obtain ⟨i,hx⟩ := hx
 obtain ⟨i,-,⟨j,h1,h2,h3⟩,h4⟩ := least_of (P := fun i => ∃ j,i < H ∧ j < W ∧ ¬ Z (c i j)) hx
 obtain ⟨j,j1,j2,j3⟩ := least_of (P := fun j => ¬ Z (c i j)) h3
 have all : ∀ i',i' + 1 = i → ∀ k,k < W → Z (c i' k) := fun i' e k hk => Classical.byContradiction fun q => h4 i' (by omega) ⟨k,by omega,hk,q⟩
 exact free_from h hZ j i h1 (by omega) j2 (fun i' e => all i' e j (by omega)) (fun j' e => Classical.not_not.1 (j3 j' (by omega))) (fun i' e k _ hk _ => all i' e k hk)
theorem order_from (h : Pl c H W) {n : Nat} (hc : ∀ i j,i < H → j < W → c i j < n) : ∀ (m : Nat) (Z : Nat → Bool),Stair c H W (fun x => Z x = true) → (List.range n).countP (fun x => !Z x) ≤ m → ∃ f : Nat → Nat,∀ a b,Z a = false → Z b = false → DL c H W a b ∨ DU c H W a b → f a < f b := by
 have cell : ∀ {a b : Nat},DL c H W a b ∨ DU c H W a b → ∃ i j,i < H ∧ j < W ∧ a = c i j := by
  rintro a b (⟨j0,i1,i2,k1,k2,k3,run,rfl,k4⟩ | ⟨i0,j1,j2,k1,k2,k3,run,rfl,k4⟩)
  ·exact ⟨i1,j0,k2,by omega,rfl⟩
  ·exact ⟨i0,j1,by omega,k2,rfl⟩
 intro m
 induction m with
 | zero =>
  intro Z hZ hm
  refine ⟨fun _ => 0,fun a b ha hb hd => ?_⟩
  obtain ⟨i,j,hi,hj,rfl⟩ := cell hd
  have h0 : (List.range n).countP (fun x => !Z x) = 0 := by omega
  rw [List.countP_eq_zero] at h0
  exact absurd (show (!Z (c i j)) = true by rw [ha]; rfl) (h0 _ (by simpa using hc i j hi hj))
 | succ m ih =>
  intro Z hZ hm
  by_cases hx : ∃ i j,i < H ∧ j < W ∧ ¬ (Z (c i j) = true)
  ·obtain ⟨i,j,hi,hj,hn,hp,hs⟩ := free_ex h (Z := fun x => Z x = true) hZ hx
   have hZ' : Stair c H W (fun x => (Z x || x == c i j) = true) := by
    intro i1 j1 i' j' h1 h2 h3 h4 h5
    have h6 := hs i' j' h1 h2 h3 h4 (by simpa using h5)
    simpa using h6
   have hlt : (List.range n).countP (fun x => !(Z x || x == c i j)) < (List.range n).countP (fun x => !Z x) := by
    refine count_lt (fun x _ hx => ?_) ⟨c i j,by simpa using hc i j hi hj,by simpa using hn,by simp⟩
    cases hz : Z x with
    | false => rfl
    | true => rw [hz] at hx; simp at hx
   obtain ⟨f,hf⟩ := ih (fun x => Z x || x == c i j) hZ' (by omega)
   refine ⟨fun x => if x = c i j then 0 else f x + 1,fun a b ha hb hd => ?_⟩
   have hbA : b ≠ c i j := by
    rintro rfl
    have q : Z a = true := hp a hd
    rw [ha] at q; cases q
   simp only [if_neg hbA]
   by_cases haA : a = c i j
   ·simp only [if_pos haA]; omega
   ·simp only [if_neg haA]
    have := hf a b (by simp [ha,haA]) (by simp [hb,hbA]) hd
    omega
  ·refine ⟨fun _ => 0,fun a b ha hb hd => ?_⟩
   obtain ⟨i,j,hi,hj,rfl⟩ := cell hd
   exact absurd ⟨i,j,hi,hj,by rw [ha]; exact Bool.false_ne_true⟩ hx
theorem order_ex (h : Pl c H W) {n : Nat} (hc : ∀ i j,i < H → j < W → c i j < n) : ∃ f : Nat → Nat,∀ a b,DL c H W a b ∨ DU c H W a b → f a < f b := by
 obtain ⟨f,hf⟩ := order_from h hc _ (fun _ => false) (fun _ _ _ _ _ _ h => h) (Nat.le_refl _)
 exact ⟨f,fun a b hd => hf a b rfl rfl hd⟩
def fl (c : Nat → Nat → Nat) (H i j : Nat) : Nat := c (H - 1 - i) j
def tr (c : Nat → Nat → Nat) (i j : Nat) : Nat := c j i
theorem Pl.dn (h : Pl c H W) : Pl (fl c H) H W := by
 refine ⟨fun k l h1 h2 h3 h4 h5 h6 h7 h8 h9 => ?_,fun {i j} h1 h2 h3 h4 h5 => ?_⟩
 ·exact h.rect _ _ (by omega) (by omega) h3 h4 h5 (by omega) (by omega) h8 h9
 ·unfold Fw.fl at *
  obtain ⟨k,rfl⟩ : ∃ k,H = i + 2 + k := ⟨H - (i + 2),by omega⟩
  rw [show i + 2 + k - 1 - i = k + 1 by omega,show i + 2 + k - 1 - (i + 1) = k by omega] at *
  exact (h.plain (i := k) (j := j) (by omega) h2 h4 h3 (Ne.symm h5)).symm
theorem Pl.ex (h : Pl c H W) : Pl (tr c) W H :=
 ⟨fun k l h1 h2 h3 h4 h5 h6 h7 h8 h9 => h.rect l k h3 h4 h1 h2 h5 h8 h9 h6 h7,fun {i j} h1 h2 h3 h4 h5 => by
  unfold Fw.tr at *
  by_cases q : c j i = c j (i + 1)
  ·exact absurd q h5
  ·by_cases q2 : c (j + 1) i = c (j + 1) (i + 1)
   ·exact q2
   ·exact absurd (h.plain (i := j) (j := i) h2 h1 h5 q2 h3) h4⟩
theorem DL.ex {a b : Nat} (h : DL (tr c) W H a b) : DU c H W a b := h
theorem DU.ex {a b : Nat} (h : DU (tr c) W H a b) : DL c H W a b := h
theorem DL.dn {a b : Nat} (h : DL (fl c H) H W a b) : DL c H W a b := by
 obtain ⟨j,i1,i2,h1,h2,h3,run,rfl,rfl⟩ := h
 refine ⟨j,H - 1 - i1,H - 1 - i2,h1,by omega,by omega,fun r r1 r2 => ?_,rfl,rfl⟩
 have := run (H - 1 - r) (by omega) (by omega)
 unfold Fw.fl at this
 rwa [show H - 1 - (H - 1 - r) = r by omega] at this
theorem DL.unfl {a b : Nat} (h : DL c H W a b) : DL (fl c H) H W a b := by
 obtain ⟨j,i1,i2,h1,h2,h3,run,rfl,rfl⟩ := h
 refine ⟨j,H - 1 - i1,H - 1 - i2,h1,by omega,by omega,fun r r1 r2 => ?_,?_,?_⟩
 ·exact run (H - 1 - r) (by omega) (by omega)
 ·unfold Fw.fl; rw [show H - 1 - (H - 1 - i1) = i1 by omega]
 ·unfold Fw.fl; rw [show H - 1 - (H - 1 - i2) = i2 by omega]
theorem DU.dn {a b : Nat} (h : DU (fl c H) H W a b) : DU c H W b a := by
 obtain ⟨i,j1,j2,h1,h2,h3,run,rfl,rfl⟩ := h
 refine ⟨H - 1 - (i + 1),j2,j1,by omega,h3,h2,fun k k1 k2 => ?_,?_,?_⟩
 ·have := run k (by omega) (by omega)
  unfold Fw.fl at this
  rw [show H - 1 - (i + 1) + 1 = H - 1 - i by omega]
  exact Ne.symm this
 ·rfl
 ·unfold Fw.fl; rw [show H - 1 - (i + 1) + 1 = H - 1 - i by omega]
theorem DU.unfl {a b : Nat} (h : DU c H W a b) : DU (fl c H) H W b a := by
 obtain ⟨i,j1,j2,h1,h2,h3,run,rfl,rfl⟩ := h
 refine ⟨H - 1 - (i + 1),j2,j1,by omega,h3,h2,fun k k1 k2 => ?_,?_,?_⟩
 ·unfold Fw.fl
  rw [show H - 1 - (H - 1 - (i + 1)) = i + 1 by omega,show H - 1 - (H - 1 - (i + 1) + 1) = i by omega]
  exact Ne.symm (run k (by omega) (by omega))
 ·unfold Fw.fl; rw [show H - 1 - (H - 1 - (i + 1)) = i + 1 by omega]
 ·unfold Fw.fl; rw [show H - 1 - (H - 1 - (i + 1) + 1) = i by omega]
theorem order_ex2 (h : Pl c H W) {n : Nat} (hc : ∀ i j,i < H → j < W → c i j < n) : ∃ f : Nat → Nat,∀ a b,DL c H W a b ∨ DU c H W b a → f a < f b := by
 obtain ⟨f,hf⟩ := order_ex h.dn (n := n) (fun i j hi hj => hc _ j (by omega) hj)
 refine ⟨f,fun a b hd => hf a b ?_⟩
 rcases hd with hd | hd
 ·exact .inl hd.unfl
 ·exact .inr hd.unfl
inductive TC (R : Nat → Nat → Prop) : Nat → Nat → Prop
 | one {a b : Nat} : R a b → TC R a b
 | tail {a b d : Nat} : TC R a b → R b d → TC R a d
theorem TC.mono {R S : Nat → Nat → Prop} (h : ∀ a b,R a b → S a b) {a b : Nat} (k : TC R a b) : TC S a b := by
 induction k with
 | one k => exact .one (h _ _ k)
 | tail _ k ih => exact .tail ih (h _ _ k)
theorem TC.trans {R : Nat → Nat → Prop} {a b d : Nat} (h : TC R a b) (k : TC R b d) : TC R a d := by
 induction k with
 | one k => exact .tail h k
 | tail _ k ih => exact .tail ih k
theorem TC.rev {R S : Nat → Nat → Prop} (h : ∀ a b,R a b → S b a) {a b : Nat} (k : TC R a b) : TC S b a := by
 induction k with
 | one k => exact .one (h _ _ k)
 | tail _ k ih => exact (TC.one (h _ _ k)).trans ih
theorem TC.last {R : Nat → Nat → Prop} {a b : Nat} (h : TC R a b) : ∃ x,(x = a ∨ TC R a x) ∧ R x b := by
 cases h with
 | one k => exact ⟨a,.inl rfl,k⟩
 | tail h k => exact ⟨_,.inr h,k⟩
theorem TC.rise {R : Nat → Nat → Prop} {f : Nat → Nat} (h : ∀ a b,R a b → f a < f b) {a b : Nat} (k : TC R a b) : f a < f b := by
 induction k with
 | one k => exact h _ _ k
 | tail _ k ih => exact Nat.lt_trans ih (h _ _ k)
theorem row_walk {i : Nat} (hi : i < H) {j1 : Nat} : ∀ {j2 : Nat},j1 ≤ j2 → j2 < W → c i j1 ≠ c i j2 → TC (DL c H W) (c i j1) (c i j2)
 | 0,h1,_,h3 => by
    obtain rfl : j1 = 0 := by omega
    exact absurd rfl h3
 | j2 + 1,h1,h2,h3 => by
  by_cases e : j1 = j2 + 1
  ·subst e; exact absurd rfl h3
  ·by_cases q : c i j2 = c i (j2 + 1)
   ·rw [← q] at h3 ⊢
    exact row_walk hi (by omega) (by omega) h3
   ·have hd : DL c H W (c i j2) (c i (j2 + 1)) := ⟨j2,i,i,h2,hi,hi,fun r r1 r2 => by
    obtain rfl : r = i := by omega
    exact q,rfl,rfl⟩
    by_cases q2 : c i j1 = c i j2
    ·rw [q2]; exact .one hd
    ·exact .tail (row_walk hi (by omega) (by omega) q2) hd
theorem col_walk {j : Nat} (hj : j < W) {i1 i2 : Nat} (h1 : i1 ≤ i2) (h2 : i2 < H) (h3 : c i1 j ≠ c i2 j) : TC (DU c H W) (c i1 j) (c i2 j) :=
 (row_walk (c := tr c) (H := W) (W := H) hj h1 h2 h3).mono fun _ _ h => h.ex
theorem pass (h : Pl c H W) {r q A : Nat} (hr : r + 1 < H) (hq : q + 1 < W) (hNP : c r q = c (r + 1) q) (hP : c (r + 1) q ≠ c (r + 1) (q + 1)) (hQ : c r (q + 1) ≠ c (r + 1) (q + 1))
  (h1 : c (r + 1) q = A ∨ TC (DL c H W) A (c (r + 1) q) ∨ TC (DU c H W) A (c (r + 1) q)) (h2 : c r (q + 1) = A ∨ TC (DL c H W) A (c r (q + 1)) ∨ TC (DU c H W) A (c r (q + 1))) :
  TC (DL c H W) A (c (r + 1) (q + 1)) ∨ TC (DU c H W) A (c (r + 1) (q + 1)) := by
 have hNQ : c r q ≠ c r (q + 1) := by
  intro e
  have := h.rect (i := r + 1) (j := q) (i' := r) (j' := q + 1) (r + 1) (q + 1) hr (by omega) (by omega) hq (by rw [← hNP,e]) (by omega) (by omega) (by omega) (by omega)
  exact hP this.symm
 have dP : DL c H W (c (r + 1) q) (c (r + 1) (q + 1)) := ⟨q,r + 1,r + 1,hq,hr,hr,fun x x1 x2 => by
    obtain rfl : x = r + 1 := by omega
    exact hP,rfl,rfl⟩
 have dQ : DU c H W (c r (q + 1)) (c (r + 1) (q + 1)) := ⟨r,q + 1,q + 1,hr,hq,hq,fun x x1 x2 => by
    obtain rfl : x = q + 1 := by omega
    exact hQ,rfl,rfl⟩
 rcases h1 with rfl | h1 | h1
 ·exact .inl (.one dP)
 ·exact .inl (.tail h1 dP)
 ·rcases h2 with rfl | h2 | h2
  ·exact .inr (.one dQ)
  ·left
   obtain ⟨x,hx,j0,i1,i2,k1,k2,k3,run,rfl,k4⟩ := h2.last
   have e : j0 = q := by
    by_cases q1 : j0 < q
    ·have := h.rect r q k3 (show r < H by omega) k1 hq k4.symm (by omega) (by omega) (by omega) (by omega)
     rw [← k4] at this
     exact absurd this hNQ
    ·by_cases q2 : q < j0
     ·have := h.rect i2 j0 k3 (show r < H by omega) k1 hq k4.symm (by omega) (by omega) (by omega) (by omega)
      exact absurd this (run i2 (by omega) (by omega))
     ·omega
   subst e
   have hd : DL c H W (c i1 j0) (c (r + 1) (j0 + 1)) := by
    refine ⟨j0,i1,r + 1,hq,k2,hr,fun x x1 x2 => ?_,rfl,rfl⟩
    by_cases q1 : min i1 i2 ≤ x ∧ x ≤ max i1 i2
    ·exact run x q1.1 q1.2
    ·by_cases q2 : x = r + 1
     ·subst q2; exact hP
     ·intro q3
      have e1 := h.rect x (j0 + 1) k3 (show r < H by omega) k1 hq k4.symm (by omega) (by omega) (by omega) (by omega)
      rw [← k4] at e1
      have e2 := h.rect (i := x) (j := j0) (i' := r) (j' := j0 + 1) r j0 (by omega) (by omega) (by omega) hq (by rw [q3,e1]) (by omega) (by omega) (by omega) (by omega)
      rw [q3,e1] at e2
      exact hNQ e2
   rcases hx with hx | hx
   ·rw [hx] at hd; exact .one hd
   ·exact .tail hx hd
  ·exact .inr (.tail h2 dQ)
theorem ahead_ex (h : Pl c H W) {x y : Nat} : ∀ (s : Nat) {i j : Nat},i + j ≤ s → x ≤ i → y ≤ j → i < H → j < W → c x y ≠ c i j → TC (DL c H W) (c x y) (c i j) ∨ TC (DU c H W) (c x y) (c i j) := by
 intro s
 induction s with
 | zero =>
  intro i j h1 h2 h3 h4 h5 h6
  obtain rfl : i = 0 := by omega
  obtain rfl : j = 0 := by omega
  obtain rfl : x = 0 := by omega
  obtain rfl : y = 0 := by omega
  exact absurd rfl h6
 | succ s ih =>
  intro i j h1 h2 h3 h4 h5 h6
  by_cases e1 : x = i
  ·subst e1; exact .inl (row_walk h4 h3 h5 h6)
  ·by_cases e2 : y = j
   ·subst e2; exact .inr (col_walk h5 h2 h4 h6)
   ·obtain ⟨r,rfl⟩ : ∃ r,i = r + 1 := ⟨i - 1,by omega⟩
    obtain ⟨q,rfl⟩ : ∃ q,j = q + 1 := ⟨j - 1,by omega⟩
    by_cases e3 : c r (q + 1) = c (r + 1) (q + 1)
    ·rw [← e3] at h6 ⊢
     exact ih (by omega) (by omega) h3 (by omega) h5 h6
    ·by_cases e4 : c (r + 1) q = c (r + 1) (q + 1)
     ·rw [← e4] at h6 ⊢
      exact ih (by omega) h2 (by omega) h4 (by omega) h6
     ·have iP : c (r + 1) q = c x y ∨ TC (DL c H W) (c x y) (c (r + 1) q) ∨ TC (DU c H W) (c x y) (c (r + 1) q) := by
       by_cases k : c x y = c (r + 1) q
       ·exact .inl k.symm
       ·exact .inr (ih (by omega) h2 (by omega) h4 (by omega) k)
      have iQ : c r (q + 1) = c x y ∨ TC (DL c H W) (c x y) (c r (q + 1)) ∨ TC (DU c H W) (c x y) (c r (q + 1)) := by
       by_cases k : c x y = c r (q + 1)
       ·exact .inl k.symm
       ·exact .inr (ih (by omega) (by omega) h3 (by omega) h5 k)
      by_cases hNP : c r q = c (r + 1) q
      ·exact pass h h4 h5 hNP e4 e3 iP iQ
      ·by_cases hNQ : c r q = c r (q + 1)
       ·have := pass (c := tr c) (H := W) (W := H) h.ex (r := q) (q := r) (A := c x y) h5 h4 hNQ e3 e4 ?_ ?_
        ·rcases this with k | k
         ·exact .inr (k.mono fun _ _ h => h.ex)
         ·exact .inl (k.mono fun _ _ h => h.ex)
        ·rcases iQ with k | k | k
         ·exact .inl k
         ·exact .inr (.inr k)
         ·exact .inr (.inl k)
        ·rcases iP with k | k | k
         ·exact .inl k
         ·exact .inr (.inr k)
         ·exact .inr (.inl k)
       ·exact absurd (h.plain h4 h5 hNQ e4 hNP) e3
theorem total_ex (h : Pl c H W) {x y i j : Nat} (hx : x < H) (hy : y < W) (hi : i < H) (hj : j < W) (hne : c x y ≠ c i j) :
  TC (DL c H W) (c x y) (c i j) ∨ TC (DL c H W) (c i j) (c x y) ∨ TC (DU c H W) (c x y) (c i j) ∨ TC (DU c H W) (c i j) (c x y) := by
 have key : ∀ {x y i j : Nat},x < H → y < W → i < H → j < W → c x y ≠ c i j → x ≤ i → TC (DL c H W) (c x y) (c i j) ∨ TC (DL c H W) (c i j) (c x y) ∨ TC (DU c H W) (c x y) (c i j) ∨ TC (DU c H W) (c i j) (c x y) := by
  intro x y i j hx hy hi hj hne hle
  by_cases q : y ≤ j
  ·rcases ahead_ex h _ (Nat.le_refl _) hle q hi hj hne with k | k
   ·exact .inl k
   ·exact .inr (.inr (.inl k))
  ·have e1 : fl c H (H - 1 - i) j = c i j := by unfold fl; rw [show H - 1 - (H - 1 - i) = i by omega]
   have e2 : fl c H (H - 1 - x) y = c x y := by unfold fl; rw [show H - 1 - (H - 1 - x) = x by omega]
   have := ahead_ex h.dn (x := H - 1 - i) (y := j) _ (i := H - 1 - x) (j := y) (Nat.le_refl _) (by omega) (by omega) (by omega) hy (by rw [e1,e2]; exact Ne.symm hne)
   rw [e1,e2] at this
   rcases this with k | k
   ·exact .inr (.inl (k.mono fun _ _ h => h.dn))
   ·exact .inr (.inr (.inl (k.rev fun _ _ h => h.dn)))
 by_cases q : x ≤ i
 ·exact key hx hy hi hj hne q
 ·rcases key hi hj hx hy (Ne.symm hne) (by omega) with k | k | k | k
  ·exact .inr (.inl k)
  ·exact .inl k
  ·exact .inr (.inr (.inr k))
  ·exact .inr (.inr (.inl k))
end
end
section
section
variable {n : Nat} {M : List (List Bool)}
theorem absorb {p q : Bool} : (p || (q && p)) = p := by cases p <;> cases q <;> rfl
theorem clK_to (h : Sq n M) {k : Nat} (hk : k < n) : ∀ i,i ≤ n → Sq n ((List.range i).foldl (clA n k) M) ∧
  ∀ x y,x < n → y < n → getB ((List.range i).foldl (clA n k) M) x y = if x < i then getB M x y || (getB M x k && getB M k y) else getB M x y
 | 0,_ => ⟨h,fun x y _ _ => by simp⟩
 | i + 1,hi => by
  obtain ⟨h1,h2⟩ := clK_to h hk i (by omega)
  rw [foldl_rg]
  generalize (List.range i).foldl (clA n k) M = X at h1 h2 ⊢
  obtain ⟨h3,h4⟩ := clA_to h1 hk (show i < n by omega) n (Nat.le_refl _)
  refine ⟨h3,fun x y hx hy => ?_⟩
  unfold clA
  rw [h4 x y hx hy]
  by_cases e : x = i
  ·subst e
   have e1 : getB X x y = getB M x y := by rw [h2 x y hx hy,if_neg (Nat.lt_irrefl _)]
   have e2 : getB X x k = getB M x k := by rw [h2 x k hx hk,if_neg (Nat.lt_irrefl _)]
   have e3 : getB X k y = getB M k y := by
    rw [h2 k y hk hy]
    split
    ·exact absorb
    ·rfl
   rw [if_pos ⟨rfl,hy⟩,if_pos (by omega),e1,e2,e3]
  ·rw [if_neg (fun q => e q.1),h2 x y hx hy]
   by_cases e2 : x < i
   ·rw [if_pos e2,if_pos (by omega)]
   ·rw [if_neg e2,if_neg (by omega)]
theorem clK_get (h : Sq n M) {k : Nat} (hk : k < n) {x y : Nat} (hx : x < n) (hy : y < n) : getB (clK n M k) x y = (getB M x y || (getB M x k && getB M k y)) := by
 have := (clK_to h hk n (Nat.le_refl _)).2 x y hx hy
 rw [if_pos hx] at this
 exact this
theorem close_to (h : Sq n M) : ∀ i,i ≤ n → Sq n ((List.range i).foldl (clK n) M) ∧
  (∀ a b,a < n → b < n → getB M a b = true → getB ((List.range i).foldl (clK n) M) a b = true) ∧
  (∀ m a b,m < i → a < n → b < n → getB ((List.range i).foldl (clK n) M) a m = true → getB ((List.range i).foldl (clK n) M) m b = true → getB ((List.range i).foldl (clK n) M) a b = true) ∧
  (∀ T : Nat → Nat → Prop,(∀ a b d,T a b → T b d → T a d) → (∀ a b,a < n → b < n → getB M a b = true → T a b) → ∀ a b,a < n → b < n → getB ((List.range i).foldl (clK n) M) a b = true → T a b)
 | 0,_ => ⟨h,fun a b _ _ k => k,fun m a b k => by omega,fun T _ k => k⟩
 | i + 1,hi => by
  obtain ⟨h1,h2,h3,h4⟩ := close_to h i (by omega)
  rw [foldl_rg]
  generalize (List.range i).foldl (clK n) M = X at h1 h2 h3 h4 ⊢
  have hin : i < n := by omega
  have g : ∀ {x y : Nat},x < n → y < n → (getB (clK n X i) x y = true ↔ getB X x y = true ∨ (getB X x i = true ∧ getB X i y = true)) := by
   intro x y hx hy
   rw [clK_get h1 hin hx hy]; simp
  refine ⟨(clK_to h1 hin n (Nat.le_refl _)).1,fun a b ha hb k => (g ha hb).2 (.inl (h2 a b ha hb k)),fun m a b hm ha hb k1 k2 => ?_,fun T tr hT a b ha hb k => ?_⟩
  ·have hmn : m < n := by omega
   rw [g ha hmn] at k1
   rw [g hmn hb] at k2
   rw [g ha hb]
   by_cases e : m = i
   ·subst e
    rcases k1 with k1 | k1 <;> rcases k2 with k2 | k2
    ·exact .inr ⟨k1,k2⟩
    ·exact .inr ⟨k1,k2.2⟩
    ·exact .inr ⟨k1.1,k2⟩
    ·exact .inr ⟨k1.1,k2.2⟩
   ·have hmi : m < i := by omega
    rcases k1 with k1 | k1 <;> rcases k2 with k2 | k2
    ·exact .inl (h3 m a b hmi ha hb k1 k2)
    ·exact .inr ⟨h3 m a i hmi ha hin k1 k2.1,k2.2⟩
    ·exact .inr ⟨k1.1,h3 m i b hmi hin hb k1.2 k2⟩
    ·exact .inr ⟨k1.1,k2.2⟩
  ·rw [g ha hb] at k
   rcases k with k | k
   ·exact h4 T tr hT a b ha hb k
   ·exact tr a i b (h4 T tr hT a i ha hin k.1) (h4 T tr hT i b hin hb k.2)
def MR (n : Nat) (M : List (List Bool)) (a b : Nat) : Prop := a < n ∧ b < n ∧ getB M a b = true
theorem close_tc (h : Sq n M) {a b : Nat} (ha : a < n) (hb : b < n) : getB (closeM M) a b = true ↔ TC (MR n M) a b := by
 obtain ⟨h1,h2,h3,h4⟩ := close_to h n (Nat.le_refl _)
 have e : closeM M = (List.range n).foldl (clK n) M := by unfold closeM; rw [h.1]
 rw [e]
 constructor
 ·exact h4 (TC (MR n M)) (fun _ _ _ p q => p.trans q) (fun a b ha hb k => .one ⟨ha,hb,k⟩) a b ha hb
 ·intro k
  induction k with
  | one k => exact h2 _ _ k.1 k.2.1 k.2.2
  | tail _ k ih => exact h3 _ _ _ k.1 ha k.2.1 (ih k.1) (h2 _ _ k.1 k.2.1 k.2.2)
end
def Cov (ws : List Wall) (level : Bool) (line i1 i2 : Nat) : Prop := ∃ w ∈ ws,w.level = level ∧ w.line = line ∧ w.fr ≤ i1 ∧ (i2 : Int) < w.fr + w.long
theorem Cov.app {ws vs : List Wall} {level : Bool} {line i1 i2 : Nat} (h : Cov ws level line i1 i2) : Cov (ws ++ vs) level line i1 i2 := by
 obtain ⟨w,hw,k⟩ := h
 exact ⟨w,List.mem_append_left _ hw,k⟩
theorem Cov.long {ws : List Wall} {w : Wall} {level : Bool} {line i1 i2 : Nat} (h : Cov (ws ++ [w]) level line i1 i2) : Cov (ws ++ [{ w with long := w.long + 1 }]) level line i1 i2 := by
 obtain ⟨v,hv,k1,k2,k3,k4⟩ := h
 rcases List.mem_append.1 hv with hv | hv
 ·exact ⟨v,List.mem_append_left _ hv,k1,k2,k3,k4⟩
 ·rw [List.mem_singleton] at hv
  subst hv
  exact ⟨_,List.mem_append_right _ (List.mem_singleton.2 rfl),k1,k2,k3,by simp only; omega⟩
def Run (g : List (List Int)) (level : Bool) (line i1 i2 : Nat) : Prop := ∀ j,i1 ≤ j → j ≤ i2 → difG g level line j = true
theorem wlLine_cov {g : List (List Int)} {level : Bool} {line : Nat} {ws : List Wall} : ∀ n,(∀ lv ln i1 i2,Cov ws lv ln i1 i2 → Cov (wlLine g level line ws n).1 lv ln i1 i2) ∧
  (∀ i1 i2,i1 ≤ i2 → i2 < n → Run g level line i1 i2 → Cov (wlLine g level line ws n).1 level line i1 i2) ∧
  ((wlLine g level line ws n).2 = false → ∀ m,n = m + 1 → difG g level line m = false) ∧
  ((wlLine g level line ws n).2 = true → ∃ (ws0 : List Wall) (w : Wall),(wlLine g level line ws n).1 = ws0 ++ [w] ∧ w.level = level ∧ w.line = (line : Int) ∧ w.fr + w.long = (n : Int) ∧ 1 ≤ w.long ∧ ∀ i : Nat,i < n → Run g level line i (n - 1) → w.fr ≤ (i : Int))
 | 0 => by
  rw [wlLine_zero]
  exact ⟨fun _ _ _ _ h => h,fun i1 i2 _ h => by omega,fun _ m h => by omega,fun h => by cases h⟩
 | n + 1 => by
  obtain ⟨h1,h2,h3,h4⟩ := wlLine_cov (g := g) (level := level) (line := line) (ws := ws) n
  rw [wlLine_succ]
  generalize wlLine g level line ws n = s at h1 h2 h3 h4
  obtain ⟨l,op⟩ := s
  simp only at h1 h2 h3 h4
  cases hd : difG g level line n with
  | false =>
   have e : wlStep false level line n (l,op) = (l,false) := by simp [wlStep]
   rw [e]
   refine ⟨h1,fun i1 i2 k1 k2 k3 => ?_,fun _ m hm => (by have e0 : m = n := (by omega); rw [e0]; exact hd),fun h => by cases h⟩
   by_cases e2 : i2 = n
   ·subst e2
    have := k3 i2 k1 (Nat.le_refl _)
    rw [hd] at this; cases this
   ·exact h2 i1 i2 k1 (by omega) k3
  | true =>
   cases op with
   | false =>
    have e : wlStep true level line n (l,false) = (l ++ [⟨level,line,n,1⟩],true) := by simp [wlStep]
    rw [e]
    have hno : ∀ m,n = m + 1 → difG g level line m = false := h3 rfl
    have first : ∀ i,i < n + 1 → Run g level line i n → i = n := by
     intro i hi hr
     by_cases e2 : i = n
     ·exact e2
     ·have := hr (n - 1) (by omega) (by omega)
      rw [hno (n - 1) (by omega)] at this; cases this
    refine ⟨fun lv ln i1 i2 k => (h1 lv ln i1 i2 k).app,fun i1 i2 k1 k2 k3 => ?_,fun h => (by cases h),fun _ => ⟨l,_,rfl,rfl,rfl,by simp,by simp,fun i hi hr => ?_⟩⟩
    ·by_cases e2 : i2 = n
     ·subst e2
      obtain rfl := first i1 (by omega) k3
      exact ⟨_,List.mem_append_right _ (List.mem_singleton.2 rfl),rfl,rfl,Int.le_refl _,by simp only; omega⟩
     ·exact (h2 i1 i2 k1 (by omega) k3).app
    ·have := first i hi hr
     simp only; omega
   | true =>
    obtain ⟨ws0,w,rfl,w1,w2,w3,w4,w5⟩ := h4 rfl
    have e : wlStep true level line n (ws0 ++ [w],true) = (ws0 ++ [{ w with long := w.long + 1 }],true) := by simp [wlStep]
    rw [e]
    have hfr : ∀ i : Nat,i < n + 1 → Run g level line i n → w.fr ≤ (i : Int) := by
     intro i hi hr
     by_cases e2 : i = n
     ·omega
     ·exact w5 i (by omega) fun j j1 j2 => hr j j1 (by omega)
    refine ⟨fun lv ln i1 i2 k => (h1 lv ln i1 i2 k).long,fun i1 i2 k1 k2 k3 => ?_,fun h => (by cases h),fun _ => ⟨ws0,_,rfl,w1,w2,by simp only; omega,by simp only; omega,fun i hi hr => hfr i hi hr⟩⟩
    by_cases e2 : i2 = n
    ·subst e2
     have := hfr i1 (by omega) k3
     exact ⟨_,List.mem_append_right _ (List.mem_singleton.2 rfl),w1,w2,this,by simp only; omega⟩
    ·exact (h2 i1 i2 k1 (by omega) k3).long
theorem wlLevel_cov {g : List (List Int)} {level : Bool} {places : Nat} {ws : List Wall} : ∀ lines,(∀ lv ln i1 i2,Cov ws lv ln i1 i2 → Cov (wlLevel g level places ws lines) lv ln i1 i2) ∧
  (∀ line i1 i2,1 ≤ line → line < lines → i1 ≤ i2 → i2 < places → Run g level line i1 i2 → Cov (wlLevel g level places ws lines) level line i1 i2)
 | 0 => ⟨fun _ _ _ _ h => h,fun line _ _ _ h => by omega⟩
 | k + 1 => by
  obtain ⟨h1,h2⟩ := wlLevel_cov (g := g) (level := level) (places := places) (ws := ws) k
  by_cases hk : 1 ≤ k
  ·rw [wlLevel_succ hk]
   obtain ⟨l1,l2,-,-⟩ := wlLine_cov (g := g) (level := level) (line := k) (ws := wlLevel g level places ws k) places
   refine ⟨fun lv ln i1 i2 q => l1 _ _ _ _ (h1 _ _ _ _ q),fun line i1 i2 q1 q2 q3 q4 q5 => ?_⟩
   by_cases e : line = k
   ·subst e; exact l2 i1 i2 q3 q4 q5
   ·exact l1 _ _ _ _ (h2 line i1 i2 q1 (by omega) q3 q4 q5)
  ·obtain rfl : k = 0 := by omega
   rw [wlLevel_one]
   exact ⟨fun _ _ _ _ h => h,fun line _ _ q1 q2 => by omega⟩
theorem wallsG_cov {g : List (List Int)} {H W : Nat} {level : Bool} {line i1 i2 : Nat} (h1 : 1 ≤ line) (h2 : line < if level then H else W) (h3 : i1 ≤ i2) (h4 : i2 < if level then W else H) (hr : Run g level line i1 i2) : Cov (wallsG g H W) level line i1 i2 := by
 unfold wallsG
 obtain ⟨a1,a2⟩ := wlLevel_cov (g := g) (level := false) (places := H) (ws := []) W
 obtain ⟨b1,b2⟩ := wlLevel_cov (g := g) (level := true) (places := W) (ws := wlLevel g false H [] W) H
 cases level with
 | false => exact b1 _ _ _ _ (a2 line i1 i2 h1 h2 h3 h4 hr)
 | true => exact b2 line i1 i2 h1 h2 h3 h4 hr
section
variable {n : Nat}
theorem relB_get {a : Int} (ha : 0 ≤ a ∧ a < n) : ∀ {bs : List Int} {M : List (List Bool)},Rm n bs → Sq n M → Sq n (relB a bs M) ∧ ∀ x y,getB (relB a bs M) x y = true ↔ getB M x y = true ∨ (x = a.toNat ∧ ∃ b ∈ bs,y = b.toNat)
 | [],M,_,h => ⟨h,fun x y => by simp [relB]⟩
 | b :: bs,M,hb,h => by
  have hb0 := hb b (by simp)
  obtain ⟨k1,k2⟩ := relB_get ha (bs := bs) (M := setB M a.toNat b.toNat true) (fun x hx => hb x (by simp [hx])) (h.set (by omega))
  refine ⟨k1,fun x y => ?_⟩
  have e : relB a (b :: bs) M = relB a bs (setB M a.toNat b.toNat true) := rfl
  rw [e,k2,getB_setB h (by omega) (by omega)]
  by_cases q : x = a.toNat ∧ y = b.toNat
  ·rw [if_pos q]; simp [q.1,q.2]
  ·rw [if_neg q]
   constructor
   ·rintro (k | ⟨k,c,hc,rfl⟩)
    ·exact .inl k
    ·exact .inr ⟨k,c,by simp [hc],rfl⟩
   ·rintro (k | ⟨k,c,hc,rfl⟩)
    ·exact .inl k
    ·rcases List.mem_cons.1 hc with rfl | hc
     ·exact absurd ⟨k,rfl⟩ q
     ·exact .inr ⟨k,c,hc,rfl⟩
theorem relW_get {bs : List Int} (hb : Rm n bs) : ∀ {la : List Int} {M : List (List Bool)},Rm n la → Sq n M → Sq n (relW M la bs) ∧ ∀ x y,getB (relW M la bs) x y = true ↔ getB M x y = true ∨ (∃ a ∈ la,x = a.toNat) ∧ ∃ b ∈ bs,y = b.toNat
 | [],M,_,h => ⟨h,fun x y => by simp [relW]⟩
 | a :: la,M,ha,h => by
  obtain ⟨j1,j2⟩ := relB_get (ha a (by simp)) hb h
  obtain ⟨k1,k2⟩ := relW_get hb (la := la) (M := relB a bs M) (fun x hx => ha x (by simp [hx])) j1
  refine ⟨k1,fun x y => ?_⟩
  have e : relW M (a :: la) bs = relW (relB a bs M) la bs := rfl
  rw [e,k2,j2]
  constructor
  ·rintro ((k | ⟨k,q⟩) | ⟨⟨c,hc,k⟩,q⟩)
   ·exact .inl k
   ·exact .inr ⟨⟨a,by simp,k⟩,q⟩
   ·exact .inr ⟨⟨c,by simp [hc],k⟩,q⟩
  ·rintro (k | ⟨⟨c,hc,k⟩,q⟩)
   ·exact .inl (.inl k)
   ·rcases List.mem_cons.1 hc with rfl | hc
    ·exact .inl (.inr ⟨k,q⟩)
    ·exact .inr ⟨⟨c,hc,k⟩,q⟩
def By (g : List (List Int)) (ws : List Wall) (lv : Bool) (x y : Nat) : Prop := ∃ w ∈ ws,w.level = lv ∧ (∃ a ∈ (sidesOf g w).1,x = a.toNat) ∧ ∃ b ∈ (sidesOf g w).2,y = b.toNat
theorem By.cons {g : List (List Int)} {w : Wall} {ws : List Wall} {lv : Bool} {x y : Nat} : By g (w :: ws) lv x y ↔ (w.level = lv ∧ (∃ a ∈ (sidesOf g w).1,x = a.toNat) ∧ ∃ b ∈ (sidesOf g w).2,y = b.toNat) ∨ By g ws lv x y := by
 unfold By; simp
theorem ord_get {g : List (List Int)} {nh nw : Nat} (hrm : RmOk g nh nw n) : ∀ (ws : List Wall),(∀ w ∈ ws,WlOk g nh nw w) → ∀ {M : List (List Bool) × List (List Bool)},Sq n M.1 → Sq n M.2 →
  (Sq n (ws.foldl (ordW g) M).1 ∧ ∀ x y,getB (ws.foldl (ordW g) M).1 x y = true ↔ getB M.1 x y = true ∨ By g ws false x y) ∧
  (Sq n (ws.foldl (ordW g) M).2 ∧ ∀ x y,getB (ws.foldl (ordW g) M).2 x y = true ↔ getB M.2 x y = true ∨ By g ws true x y)
 | [],_,M,h0,h1 => ⟨⟨h0,fun x y => by simp [By]⟩,⟨h1,fun x y => by simp [By]⟩⟩
 | w :: ws,hws,M,h0,h1 => by
  obtain ⟨r1,r2⟩ := sidesOf_rooms hrm (hws w (by simp))
  rw [List.foldl_cons]
  cases hlv : w.level with
  | false =>
   obtain ⟨k1,k2⟩ := relW_get r2 r1 h0
   have e : ordW g M w = (relW M.1 (sidesOf g w).1 (sidesOf g w).2,M.2) := by unfold ordW; rw [hlv]; rfl
   rw [e]
   obtain ⟨⟨a1,a2⟩,⟨b1,b2⟩⟩ := ord_get hrm ws (fun w hw => hws w (by simp [hw])) (M := (relW M.1 (sidesOf g w).1 (sidesOf g w).2,M.2)) k1 h1
   refine ⟨⟨a1,fun x y => ?_⟩,⟨b1,fun x y => ?_⟩⟩
   ·rw [a2,k2,By.cons,hlv]; simp only [true_and,or_assoc]
   ·rw [b2,By.cons,hlv]; simp
  | true =>
   obtain ⟨k1,k2⟩ := relW_get r2 r1 h1
   have e : ordW g M w = (M.1,relW M.2 (sidesOf g w).1 (sidesOf g w).2) := by unfold ordW; rw [hlv]; rfl
   rw [e]
   obtain ⟨⟨a1,a2⟩,⟨b1,b2⟩⟩ := ord_get hrm ws (fun w hw => hws w (by simp [hw])) (M := (M.1,relW M.2 (sidesOf g w).1 (sidesOf g w).2)) h0 k1
   refine ⟨⟨a1,fun x y => ?_⟩,⟨b1,fun x y => ?_⟩⟩
   ·rw [a2,By.cons,hlv]; simp
   ·rw [b2,k2,By.cons,hlv]; simp only [true_and,or_assoc]
theorem emptyM_no {x y : Nat} : getB (emptyM n) x y = false := by
 unfold getB emptyM
 rw [List.getElem?_replicate]
 split
 ·rw [Option.getD_some,List.getElem?_replicate]; split <;> rfl
 ·rfl
def cn (g : List (List Int)) (i j : Nat) : Nat := (gz g i j).toNat
theorem RmOk.ne {g : List (List Int)} {nh nw : Nat} (h : RmOk g nh nw n) {i j i' j' : Nat} (h1 : i < nh) (h2 : j < nw) (h3 : i' < nh) (h4 : j' < nw) : gz g i j ≠ gz g i' j' ↔ cn g i j ≠ cn g i' j' := by
 have a := h i j h1 h2
 have b := h i' j' h3 h4
 unfold cn
 omega
theorem side_mem1 {g : List (List Int)} {level : Bool} {line fr long j : Nat} (h1 : fr ≤ j) (h2 : j < fr + long) : (sidesG g level line j).1 ∈ (sidesOf g ⟨level,line,fr,long⟩).1 := by
 simp only [sidesOf,Int.toNat_natCast]
 rw [mem_ddp]
 simp only [alongG,List.mem_map,List.mem_range]
 exact ⟨j - fr,by omega,by rw [show fr + (j - fr) = j by omega]⟩
theorem side_mem2 {g : List (List Int)} {level : Bool} {line fr long j : Nat} (h1 : fr ≤ j) (h2 : j < fr + long) : (sidesG g level line j).2 ∈ (sidesOf g ⟨level,line,fr,long⟩).2 := by
 simp only [sidesOf,Int.toNat_natCast]
 rw [mem_ddp]
 simp only [alongG,List.mem_map,List.mem_range]
 exact ⟨j - fr,by omega,by rw [show fr + (j - fr) = j by omega]⟩
theorem side_of1 {g : List (List Int)} {level : Bool} {line fr long : Nat} {x : Int} (h : x ∈ (sidesOf g ⟨level,line,fr,long⟩).1) : ∃ j,fr ≤ j ∧ j < fr + long ∧ x = (sidesG g level line j).1 := by
 simp only [sidesOf,Int.toNat_natCast] at h
 rw [mem_ddp] at h
 simp only [alongG,List.mem_map,List.mem_range] at h
 obtain ⟨j,hj,rfl⟩ := h
 exact ⟨fr + j,by omega,by omega,rfl⟩
theorem side_of2 {g : List (List Int)} {level : Bool} {line fr long : Nat} {x : Int} (h : x ∈ (sidesOf g ⟨level,line,fr,long⟩).2) : ∃ j,fr ≤ j ∧ j < fr + long ∧ x = (sidesG g level line j).2 := by
 simp only [sidesOf,Int.toNat_natCast] at h
 rw [mem_ddp] at h
 simp only [alongG,List.mem_map,List.mem_range] at h
 obtain ⟨j,hj,rfl⟩ := h
 exact ⟨fr + j,by omega,by omega,rfl⟩
theorem by_left {g : List (List Int)} {nh nw : Nat} (h : RmOk g nh nw n) {x y : Nat} : By g (wallsG g nh nw) false x y ↔ DL (cn g) nh nw x y := by
 constructor
 ·rintro ⟨w,hw,hlv,⟨a,ha,rfl⟩,b,hb,rfl⟩
  obtain ⟨line,fr,long,he,hl,hin⟩ := wallsG_ok w hw
  rw [hlv] at he hin
  subst he
  obtain ⟨j1,p1,p2,rfl⟩ := side_of1 ha
  obtain ⟨j2,q1,q2,rfl⟩ := side_of2 hb
  have i1 := (hin j1 p1 p2).1
  have i2 := (hin j2 q1 q2).1
  unfold InL at i1 i2
  simp only [Bool.false_eq_true,if_false] at i1 i2
  obtain ⟨L,rfl⟩ : ∃ L,line = L + 1 := ⟨line - 1,by omega⟩
  refine ⟨L,j1,j2,i1.2.1,i1.2.2,i2.2.2,fun r r1 r2 => ?_,?_,?_⟩
  ·have hr := hin r (by omega) (by omega)
   have hr1 := hr.1
   unfold InL at hr1
   simp only [Bool.false_eq_true,if_false] at hr1
   have hr2 := hr.2
   unfold difG sidesG at hr2
   simp only [Bool.false_eq_true,if_false,decide_eq_true_eq,Nat.add_sub_cancel] at hr2
   exact (h.ne hr1.2.2 (by omega) hr1.2.2 hr1.2.1).1 hr2
  ·simp [sidesG,cn]
  ·simp [sidesG,cn]
 ·rintro ⟨L,i1,i2,h1,h2,h3,run,rfl,rfl⟩
  have hrun : Run g false (L + 1) (min i1 i2) (max i1 i2) := by
   intro r r1 r2
   have := run r r1 r2
   rw [← h.ne (by omega) (by omega) (by omega) h1] at this
   unfold difG sidesG
   simpa using this
  obtain ⟨w,hw,w1,w2,w3,w4⟩ := wallsG_cov (g := g) (H := nh) (W := nw) (level := false) (line := L + 1) (by omega) (by simpa using h1) (by omega) (by simp only [Bool.false_eq_true,if_false]; omega) hrun
  obtain ⟨line,fr,long,he,hl,hin⟩ := wallsG_ok w hw
  rw [w1] at he
  subst he
  simp only at w2 w3 w4
  obtain rfl : line = L + 1 := by omega
  refine ⟨_,hw,rfl,⟨_,side_mem1 (j := i1) (by omega) (by omega),?_⟩,_,side_mem2 (j := i2) (by omega) (by omega),?_⟩
  ·simp [sidesG,cn]
  ·simp [sidesG,cn]
theorem by_above {g : List (List Int)} {nh nw : Nat} (h : RmOk g nh nw n) {x y : Nat} : By g (wallsG g nh nw) true x y ↔ DU (cn g) nh nw x y := by
 constructor
 ·rintro ⟨w,hw,hlv,⟨a,ha,rfl⟩,b,hb,rfl⟩
  obtain ⟨line,fr,long,he,hl,hin⟩ := wallsG_ok w hw
  rw [hlv] at he hin
  subst he
  obtain ⟨j1,p1,p2,rfl⟩ := side_of1 ha
  obtain ⟨j2,q1,q2,rfl⟩ := side_of2 hb
  have i1 := (hin j1 p1 p2).1
  have i2 := (hin j2 q1 q2).1
  unfold InL at i1 i2
  simp only [if_true] at i1 i2
  obtain ⟨L,rfl⟩ : ∃ L,line = L + 1 := ⟨line - 1,by omega⟩
  refine ⟨L,j1,j2,i1.2.1,i1.2.2,i2.2.2,fun r r1 r2 => ?_,?_,?_⟩
  ·have hr := hin r (by omega) (by omega)
   have hr1 := hr.1
   unfold InL at hr1
   simp only [if_true] at hr1
   have hr2 := hr.2
   unfold difG sidesG at hr2
   simp only [if_true,decide_eq_true_eq,Nat.add_sub_cancel] at hr2
   exact (h.ne (by omega) hr1.2.2 hr1.2.1 hr1.2.2).1 hr2
  ·simp [sidesG,cn]
  ·simp [sidesG,cn]
 ·rintro ⟨L,i1,i2,h1,h2,h3,run,rfl,rfl⟩
  have hrun : Run g true (L + 1) (min i1 i2) (max i1 i2) := by
   intro r r1 r2
   have := run r r1 r2
   rw [← h.ne (by omega) (by omega) h1 (by omega)] at this
   unfold difG sidesG
   simpa using this
  obtain ⟨w,hw,w1,w2,w3,w4⟩ := wallsG_cov (g := g) (H := nh) (W := nw) (level := true) (line := L + 1) (by omega) (by simpa using h1) (by omega) (by simp only [if_true]; omega) hrun
  obtain ⟨line,fr,long,he,hl,hin⟩ := wallsG_ok w hw
  rw [w1] at he
  subst he
  simp only at w2 w3 w4
  obtain rfl : line = L + 1 := by omega
  refine ⟨_,hw,rfl,⟨_,side_mem1 (j := i1) (by omega) (by omega),?_⟩,_,side_mem2 (j := i2) (by omega) (by omega),?_⟩
  ·simp [sidesG,cn]
  ·simp [sidesG,cn]
theorem cn_lt {g : List (List Int)} {nh nw : Nat} (h : RmOk g nh nw n) {i j : Nat} (hi : i < nh) (hj : j < nw) : cn g i j < n := by
 have := h i j hi hj
 unfold cn; omega
theorem left_tc {g : List (List Int)} {nh nw : Nat} (h : RmOk g nh nw n) {a b : Nat} (ha : a < n) (hb : b < n) : getB (leftG g nh nw n) a b = true ↔ TC (DL (cn g) nh nw) a b := by
 obtain ⟨⟨k1,k2⟩,-⟩ := ord_get h (wallsG g nh nw) wallsG_ok (M := (emptyM n,emptyM n)) (emptyM_sq n) (emptyM_sq n)
 have hd : ∀ x y,getB (ordM g nh nw n).1 x y = true ↔ DL (cn g) nh nw x y := fun x y => by
  unfold ordM; rw [k2,by_left h]; simp [emptyM_no]
 unfold leftG
 have k3 : Sq n (ordM g nh nw n).1 := k1
 rw [close_tc k3 ha hb]
 constructor
 ·exact TC.mono fun x y q => (hd x y).1 q.2.2
 ·refine TC.mono fun x y q => ⟨?_,?_,(hd x y).2 q⟩
  ·obtain ⟨j,i1,i2,q1,q2,q3,-,rfl,-⟩ := q
   exact cn_lt h q2 (by omega)
  ·obtain ⟨j,i1,i2,q1,q2,q3,-,-,rfl⟩ := q
   exact cn_lt h q3 q1
theorem above_tc {g : List (List Int)} {nh nw : Nat} (h : RmOk g nh nw n) {a b : Nat} (ha : a < n) (hb : b < n) : getB (aboveG g nh nw n) a b = true ↔ TC (DU (cn g) nh nw) a b := by
 obtain ⟨-,⟨k1,k2⟩⟩ := ord_get h (wallsG g nh nw) wallsG_ok (M := (emptyM n,emptyM n)) (emptyM_sq n) (emptyM_sq n)
 have hd : ∀ x y,getB (ordM g nh nw n).2 x y = true ↔ DU (cn g) nh nw x y := fun x y => by
  unfold ordM; rw [k2,by_above h]; simp [emptyM_no]
 unfold aboveG
 have k3 : Sq n (ordM g nh nw n).2 := k1
 rw [close_tc k3 ha hb]
 constructor
 ·exact TC.mono fun x y q => (hd x y).1 q.2.2
 ·refine TC.mono fun x y q => ⟨?_,?_,(hd x y).2 q⟩
  ·obtain ⟨j,i1,i2,q1,q2,q3,-,rfl,-⟩ := q
   exact cn_lt h (by omega) q2
  ·obtain ⟨j,i1,i2,q1,q2,q3,-,-,rfl⟩ := q
   exact cn_lt h q1 q3
end
end
section
theorem ptsRow_no {p : List Txt} {i : Nat} : ∀ {w : Nat},ptsRow p 4 i w = 0 → ∀ k,1 ≤ k → k < w → meetsAt p i k ≠ 4
 | w + 1,h,k,h1,h2 => by
  have hb := (ptsRow_bound p 4 i w).1
  unfold ptsRow at h
  by_cases e : k = w
  ·subst e
   intro q
   rw [if_pos ⟨h1,q⟩] at h
   omega
  ·have h0 : ptsRow p 4 i w = 0 := by split at h <;> omega
   exact ptsRow_no h0 k h1 (by omega)
theorem ptsTo_no {p : List Txt} {w : Nat} : ∀ {n : Nat},ptsTo p 4 w n = 0 → ∀ i,1 ≤ i → i < n → ptsRow p 4 i w = 0
 | n + 1,h,i,h1,h2 => by
  have hb : 0 ≤ ptsTo p 4 w n := by
   clear h h1 h2
   induction n with
   | zero => simp [ptsTo]
   | succ n ih =>
    have := (ptsRow_bound p 4 n w).1
    unfold ptsTo; split <;> omega
  have hr := (ptsRow_bound p 4 n w).1
  unfold ptsTo at h
  by_cases e : i = n
  ·subst e
   rw [if_pos h1] at h
   omega
  ·have h0 : ptsTo p 4 w n = 0 := by split at h <;> omega
   exact ptsTo_no h0 i h1 (by omega)
theorem u8_ne {a b : UInt8} (h : (a.toNat : Int) - 97 ≠ (b.toNat : Int) - 97) : a ≠ b := by
 rintro rfl; exact h rfl
theorem meets_four {p : List Txt} (hg : gridB p = true) {i k : Nat} (hi : i + 1 < p.length) (hk : k + 1 < (hdRow p).length) (h1 : cellZ p i k ≠ cellZ p i (k + 1)) (h2 : cellZ p i k ≠ cellZ p (i + 1) k) (h3 : cellZ p i k ≠ cellZ p (i + 1) (k + 1))
  (h4 : cellZ p i (k + 1) ≠ cellZ p (i + 1) k) (h5 : cellZ p i (k + 1) ≠ cellZ p (i + 1) (k + 1)) (h6 : cellZ p (i + 1) k ≠ cellZ p (i + 1) (k + 1)) : meetsAt p (i + 1) (k + 1) = 4 := by
 obtain ⟨r1,hr1,-⟩ := get_of (show i < p.length by omega)
 obtain ⟨r2,hr2,-⟩ := get_of hi
 have e1 := grid_row hg hr1
 have e2 := grid_row hg hr2
 obtain ⟨a,ha,-⟩ := get_of (show k < r1.length by omega)
 obtain ⟨b,hb,-⟩ := get_of (show k + 1 < r1.length by omega)
 obtain ⟨c,hc,-⟩ := get_of (show k < r2.length by omega)
 obtain ⟨d,hd,-⟩ := get_of (show k + 1 < r2.length by omega)
 rw [cellZ_is hr1 ha] at h1 h2 h3
 rw [cellZ_is hr1 hb] at h1 h4 h5
 rw [cellZ_is hr2 hc] at h2 h4 h6
 rw [cellZ_is hr2 hd] at h3 h5 h6
 have n1 := u8_ne h1
 have n2 := u8_ne h2
 have n3 := u8_ne h3
 have n4 := u8_ne h4
 have n5 := u8_ne h5
 have n6 := u8_ne h6
 unfold meetsAt
 simp only [Nat.add_sub_cancel,hr1,hr2,ha,hb,hc,hd]
 simp [distTo,newAt,newTo,Ne.symm n1,Ne.symm n2,Ne.symm n3,Ne.symm n4,Ne.symm n5,Ne.symm n6]
theorem cn_cell {p : List Txt} (hp : planB p = true) {i j : Nat} (hi : i < p.length) (hj : j < (hdRow p).length) : (cn (gP p) i j : Int) = cellZ p i j := by
 have hN := plan_named hp
 have := hN.room hi hj
 unfold cn
 rw [hN.cell hi hj]; omega
theorem plan_pl {p : List Txt} (hp : plainB p = true) : Pl (cn (gP p)) p.length (hdRow p).length := by
 have hpl := plain_plan hp
 have hN := plan_named hpl
 have rect : ∀ {i j i' j' : Nat} (k l : Nat),i < p.length → i' < p.length → j < (hdRow p).length → j' < (hdRow p).length → cn (gP p) i j = cn (gP p) i' j' → min i i' ≤ k → k ≤ max i i' → min j j' ≤ l → l ≤ max j j' → cn (gP p) k l = cn (gP p) i j := by
  intro i j i' j' k l h1 h2 h3 h4 e h5 h6 h7 h8
  have e1 := cn_cell hpl h1 h3
  have e2 := cn_cell hpl h2 h4
  have e3 := cn_cell hpl (show k < p.length by omega) (show l < (hdRow p).length by omega)
  obtain ⟨b,hb,q1,-,c1⟩ := plan_rect hpl h1 h3
  obtain ⟨b',hb',q2,-,-⟩ := plan_rect hpl h2 h4
  have e4 : cellZ p i j = cellZ p i' j' := by omega
  rw [e4,hb'] at hb
  obtain rfl := Option.some.inj hb
  have q3 : inB b' k l = true := by
   unfold inB at q1 q2 ⊢
   simp only [Bool.and_eq_true,decide_eq_true_eq] at q1 q2 ⊢
   omega
  have := c1 k l (by omega) (by omega) q3
  omega
 refine ⟨rect,fun {i j} h1 h2 n1 n2 n3 => Classical.byContradiction fun n4 => ?_⟩
 have h0 : points p 4 = 0 := by
  unfold plainB at hp
  simp only [Bool.and_eq_true,decide_eq_true_eq] at hp
  exact hp.2
 have hno := ptsRow_no (ptsTo_no h0 (i + 1) (by omega) h1) (j + 1) (by omega) h2
 have n5 : cn (gP p) i j ≠ cn (gP p) (i + 1) (j + 1) := by
  intro e
  exact n1 (rect i (j + 1) (by omega) h1 (by omega) h2 e (by omega) (by omega) (by omega) (by omega)).symm
 have n6 : cn (gP p) i (j + 1) ≠ cn (gP p) (i + 1) j := by
  intro e
  exact n1 (rect i j (by omega) h1 h2 (by omega) e (by omega) (by omega) (by omega) (by omega))
 have c1 := cn_cell hpl (show i < p.length by omega) (show j < (hdRow p).length by omega)
 have c2 := cn_cell hpl (show i < p.length by omega) h2
 have c3 := cn_cell hpl h1 (show j < (hdRow p).length by omega)
 have c4 := cn_cell hpl h1 h2
 exact hno (meets_four hN.hg h1 h2 (by omega) (by omega) (by omega) (by omega) (by omega) (by omega))
theorem room_cell {p : List Txt} {a : Nat} (ha : a < (rP p).length) : ∃ i j,i < p.length ∧ j < (hdRow p).length ∧ cn (gP p) i j = a := by
 have hi := keys_inv p
 obtain ⟨b,hb,-⟩ := get_of ha
 obtain ⟨v,hv,-⟩ := get_of (show a < (keys p).length by rw [← hi.len]; exact ha)
 obtain ⟨i,j,⟨hz,hj,hij⟩,-⟩ := (hi.hull a v b hv hb).at_
 have hi2 : i < p.length := by omega
 refine ⟨i,j,hi2,hj,?_⟩
 unfold cn
 rw [gP_at hi2 hj,hz,Int.toNat_natCast]
 have hlt : ¬ (keys p).idxOf v = (keys p).length := by
  have := List.idxOf_lt_length_iff.2 (List.mem_of_getElem? hv)
  omega
 exact nodup_one hi.nd (idxOf_mem hlt) hv
def lfM (p : List Txt) : List (List Bool) := leftG (gP p) p.length (hdRow p).length (rP p).length
def abM (p : List Txt) : List (List Bool) := aboveG (gP p) p.length (hdRow p).length (rP p).length
def Lf (p : List Txt) (a b : Nat) : Prop := getB (lfM p) a b = true
def Ab (p : List Txt) (a b : Nat) : Prop := getB (abM p) a b = true
section
variable {p : List Txt} {a b d : Nat}
theorem Lf.iff (ha : a < (rP p).length) (hb : b < (rP p).length) : Lf p a b ↔ TC (DL (cn (gP p)) p.length (hdRow p).length) a b := left_tc gP_room ha hb
theorem Ab.iff (ha : a < (rP p).length) (hb : b < (rP p).length) : Ab p a b ↔ TC (DU (cn (gP p)) p.length (hdRow p).length) a b := above_tc gP_room ha hb
theorem Lf.trans (ha : a < (rP p).length) (hb : b < (rP p).length) (hd : d < (rP p).length) (h : Lf p a b) (k : Lf p b d) : Lf p a d := by
 rw [Lf.iff ha hd]; exact ((Lf.iff ha hb).1 h).trans ((Lf.iff hb hd).1 k)
theorem Ab.trans (ha : a < (rP p).length) (hb : b < (rP p).length) (hd : d < (rP p).length) (h : Ab p a b) (k : Ab p b d) : Ab p a d := by
 rw [Ab.iff ha hd]; exact ((Ab.iff ha hb).1 h).trans ((Ab.iff hb hd).1 k)
theorem plan_orders (hp : plainB p = true) : ∃ f g : Nat → Nat,∀ a b,a < (rP p).length → b < (rP p).length → (Lf p a b → f a < f b ∧ g a < g b) ∧ (Ab p a b → f a < f b ∧ g b < g a) := by
 have hpl := plan_pl hp
 obtain ⟨f,hf⟩ := order_ex hpl (n := (rP p).length) (fun i j hi hj => cn_lt gP_room hi hj)
 obtain ⟨g,hg⟩ := order_ex2 hpl (n := (rP p).length) (fun i j hi hj => cn_lt gP_room hi hj)
 refine ⟨f,g,fun a b ha hb => ⟨fun h => ?_,fun h => ?_⟩⟩
 ·rw [Lf.iff ha hb] at h
  exact ⟨h.rise fun a b k => hf a b (.inl k),h.rise fun a b k => hg a b (.inl k)⟩
 ·rw [Ab.iff ha hb] at h
  exact ⟨h.rise fun a b k => hf a b (.inr k),(h.rev (S := fun x y => DU (cn (gP p)) p.length (hdRow p).length y x) fun _ _ k => k).rise fun a b k => hg a b (.inr k)⟩
theorem order_some (hp : plainB p = true) (ha : a < (rP p).length) (hb : b < (rP p).length) (hne : a ≠ b) : Lf p a b ∨ Lf p b a ∨ Ab p a b ∨ Ab p b a := by
 obtain ⟨i,j,h1,h2,e1⟩ := room_cell ha
 obtain ⟨k,l,h3,h4,e2⟩ := room_cell hb
 have := total_ex (plan_pl hp) h1 h2 h3 h4 (by rw [e1,e2]; exact hne)
 rw [e1,e2] at this
 rw [Lf.iff ha hb,Lf.iff hb ha,Ab.iff ha hb,Ab.iff hb ha]
 exact this
end
end
section
def putAll (ah : Nat → Nat) (n : Nat) : Nat → List Int
 | 0 => List.replicate n 0
 | a + 1 => (putAll ah n a).set (ah a) (a : Int)
theorem putAll_len {ah : Nat → Nat} {n : Nat} : ∀ k,(putAll ah n k).length = n
 | 0 => by simp [putAll]
 | k + 1 => by simp [putAll,putAll_len k]
theorem putAll_at {ah : Nat → Nat} {n : Nat} (hn : ∀ a,a < n → ah a < n) (hi : ∀ a b,a < n → b < n → ah a = ah b → a = b) : ∀ k,k ≤ n → ∀ a,a < k → (putAll ah n k)[ah a]? = some (a : Int)
 | 0,_,a,h => by omega
 | k + 1,hk,a,h => by
  unfold putAll
  rw [List.getElem?_set,putAll_len]
  by_cases e : a = k
  ·subst e; rw [if_pos rfl,if_pos (hn a (by omega))]
  ·rw [if_neg fun q => e (hi a k (by omega) (by omega) q.symm)]
   exact putAll_at hn hi k (by omega) a (by omega)
def rooms (n : Nat) : List Int := (List.range n).map fun i : Nat => (i : Int)
theorem rooms_len {n : Nat} : (rooms n).length = n := by simp [rooms]
theorem mem_rooms {n : Nat} {x : Int} : x ∈ rooms n ↔ 0 ≤ x ∧ x < n := by
 unfold rooms
 rw [List.mem_map]
 constructor
 ·rintro ⟨i,hi,rfl⟩; simp at hi; omega
 ·rintro ⟨h1,h2⟩; exact ⟨x.toNat,by simp; omega,by omega⟩
theorem rooms_at {n i : Nat} (h : i < n) : (rooms n)[i]? = some (i : Int) := by simp [rooms,h]
theorem rooms_succ {n : Nat} : rooms (n + 1) = rooms n ++ [(n : Int)] := by simp [rooms,List.range_succ]
theorem sorted_idx {z : List Int} {g : Int → Int} (hs : (z.map g).Pairwise (· ≤ ·)) (hd : ∀ (i j : Nat) x y,z[i]? = some x → z[j]? = some y → g x = g y → i = j) {i : Nat} {x : Int} (hx : z[i]? = some x) : z.countP (fun y => decide (g y < g x)) = i := by
 have hil := len_of hx
 have hp := List.pairwise_iff_getElem.1 hs
 have lt : ∀ (a b : Nat) u v,z[a]? = some u → z[b]? = some v → a < b → g u < g v := by
  intro a b u v hu hv hab
  have h1 := len_of hu
  have h2 := len_of hv
  have h3 := hp a b (by simpa using h1) (by simpa using h2) hab
  simp only [List.getElem_map] at h3
  rw [List.getElem?_eq_getElem h1] at hu
  rw [List.getElem?_eq_getElem h2] at hv
  cases hu; cases hv
  rcases Int.lt_or_le (g z[a]) (g z[b]) with q | q
  ·exact q
  ·have e := hd a b _ _ (List.getElem?_eq_getElem h1) (List.getElem?_eq_getElem h2) (by omega)
   omega
 have e : z = z.take i ++ z.drop i := (List.take_append_drop i z).symm
 have c1 : (z.take i).countP (fun y => decide (g y < g x)) = i := by
  rw [List.countP_eq_length.2]
  ·rw [List.length_take]; omega
  ·intro y hy
   obtain ⟨j,hj⟩ := List.mem_iff_getElem?.1 hy
   rw [List.getElem?_take] at hj
   split at hj
   ·exact decide_eq_true (lt j i y x hj hx (by assumption))
   ·cases hj
 have c2 : (z.drop i).countP (fun y => decide (g y < g x)) = 0 := by
  rw [List.countP_eq_zero]
  intro y hy
  obtain ⟨j,hj⟩ := List.mem_iff_getElem?.1 hy
  rw [List.getElem?_drop] at hj
  by_cases q : j = 0
  ·subst q; rw [Nat.add_zero,hx] at hj; cases hj; simp
  ·have := lt i (i + j) x y hx hj (by omega)
   simp; omega
 rw [e,List.countP_append,c1,c2,Nat.add_zero]
theorem countP_rooms {f : Int → Bool} : ∀ n,(rooms n).countP f = (List.range n).countP fun a : Nat => f (a : Int)
 | 0 => rfl
 | n + 1 => by rw [rooms_succ,List.range_succ,List.countP_append,List.countP_append,countP_rooms n]; rfl
theorem rooms_nodup {n : Nat} : ∀ (i j : Nat) x,(rooms n)[i]? = some x → (rooms n)[j]? = some x → i = j := by
 intro i j x hi hj
 have h1 := len_of hi
 have h2 := len_of hj
 rw [rooms_len] at h1 h2
 rw [rooms_at h1] at hi
 rw [rooms_at h2] at hj
 cases hi; cases hj; rfl
theorem nodup_get {z : List Int} (h : z.Nodup) {i j : Nat} (hi : i < z.length) (hj : j < z.length) (e : z[i] = z[j]) : i = j := by
 unfold List.Nodup at h
 rw [List.pairwise_iff_getElem] at h
 rcases Nat.lt_trichotomy i j with q | q | q
 ·exact absurd e (h i j hi hj q)
 ·exact q
 ·exact absurd e.symm (h j i hj hi q)
theorem nodup_rooms (n : Nat) : (rooms n).Nodup := by
 unfold List.Nodup
 rw [List.pairwise_iff_getElem]
 intro i j hi hj hij e
 have := rooms_nodup i j _ (List.getElem?_eq_getElem hi) (e ▸ List.getElem?_eq_getElem hj)
 omega
section
variable {n : Nat} {f : Nat → Nat}
theorem ahead_inj (hf : ∀ a b,a < n → b < n → f a = f b → a = b) {a b : Nat} (ha : a < n) (hb : b < n) (h : ahead n f a = ahead n f b) : a = b := by
 rcases Nat.lt_trichotomy (f a) (f b) with q | q | q
 ·have := ahead_lt (n := n) ha q; omega
 ·exact hf a b ha hb q
 ·have := ahead_lt (n := n) hb q; omega
theorem sorted_put (hf : ∀ a b,a < n → b < n → f a = f b → a = b) {z : List Int} (hp : z.Perm (rooms n)) (hs : (z.map fun x => ((f x.toNat : Nat) : Int)).Pairwise (· ≤ ·)) : z = putAll (ahead n f) n n := by
 have hl := hp.length_eq
 rw [rooms_len] at hl
 have hm : ∀ x ∈ z,0 ≤ x ∧ x < n := fun x hx => mem_rooms.1 (hp.mem_iff.1 hx)
 have hd : ∀ (i j : Nat) x y,z[i]? = some x → z[j]? = some y → ((f x.toNat : Nat) : Int) = ((f y.toNat : Nat) : Int) → i = j := by
  intro i j x y hx hy e
  have h1 := hm x (List.mem_of_getElem? hx)
  have h2 := hm y (List.mem_of_getElem? hy)
  have e2 := hf x.toNat y.toNat (by omega) (by omega) (by omega)
  have e3 : x = y := by omega
  subst e3
  have hnd : z.Nodup := hp.nodup_iff.2 (nodup_rooms n)
  have hi := len_of hx
  have hj := len_of hy
  rw [List.getElem?_eq_getElem hi] at hx
  rw [List.getElem?_eq_getElem hj] at hy
  exact nodup_get hnd hi hj ((Option.some.inj hx).trans (Option.some.inj hy).symm)
 apply List.ext_getElem?
 intro i
 by_cases hi : i < n
 ·obtain ⟨x,hx,hxm⟩ := get_of (show i < z.length by omega)
  have h1 := hm x hxm
  have e := sorted_idx hs hd hx
  rw [hp.countP_eq,countP_rooms] at e
  have e2 : ahead n f x.toNat = i := by
   unfold ahead
   rw [← e]
   apply List.countP_congr
   intro a ha
   simp
  have := putAll_at (fun a ha => ahead_n (rk := f) ha) (fun a b ha hb h => ahead_inj hf ha hb h) n (Nat.le_refl _) x.toNat (by omega)
  rw [e2] at this
  rw [hx,this,show ((x.toNat : Nat) : Int) = x by omega]
 ·rw [List.getElem?_eq_none (by omega),List.getElem?_eq_none (by rw [putAll_len]; omega)]
end
def bf1 (p : List Txt) (a b : Nat) : Bool := getB (lfM p) a b || getB (abM p) a b
def bf2 (p : List Txt) (a b : Nat) : Bool := getB (lfM p) a b || getB (abM p) b a
def bfK (p : List Txt) (below : Bool) (a b : Nat) : Bool := if below then bf2 p a b else bf1 p a b
def ahK (p : List Txt) (below : Bool) (a : Nat) : Nat := (List.range (rP p).length).countP fun b => bfK p below b a
theorem bf_rank {p : List Txt} (hp : plainB p = true) (below : Bool) : ∃ f : Nat → Nat,(∀ a b,a < (rP p).length → b < (rP p).length → (bfK p below a b = true ↔ f a < f b)) ∧ ∀ a b,a < (rP p).length → b < (rP p).length → f a = f b → a = b := by
 obtain ⟨f,g,hfg⟩ := plan_orders hp
 have tot := fun a b ha hb hne => order_some (a := a) (b := b) hp ha hb hne
 cases below with
 | false =>
  have h1 : ∀ a b,a < (rP p).length → b < (rP p).length → bfK p false a b = true → f a < f b := by
   intro a b ha hb h
   simp only [bfK,bf1,Bool.false_eq_true,if_false,Bool.or_eq_true] at h
   rcases h with h | h
   ·exact ((hfg a b ha hb).1 h).1
   ·exact ((hfg a b ha hb).2 h).1
  have h2 : ∀ a b,a < (rP p).length → b < (rP p).length → a ≠ b → bfK p false a b = true ∨ bfK p false b a = true := by
   intro a b ha hb hne
   simp only [bfK,bf1,Bool.false_eq_true,if_false,Bool.or_eq_true]
   rcases tot a b ha hb hne with h | h | h | h
   ·exact .inl (.inl h)
   ·exact .inr (.inl h)
   ·exact .inl (.inr h)
   ·exact .inr (.inr h)
  have h3 : ∀ a b,a < (rP p).length → b < (rP p).length → f a = f b → a = b := by
   intro a b ha hb e
   refine Classical.byContradiction fun hne => ?_
   rcases h2 a b ha hb hne with h | h
   ·have := h1 a b ha hb h; omega
   ·have := h1 b a hb ha h; omega
  refine ⟨f,fun a b ha hb => ⟨h1 a b ha hb,fun h => ?_⟩,h3⟩
  rcases h2 a b ha hb (by rintro rfl; omega) with k | k
  ·exact k
  ·have := h1 b a hb ha k; omega
 | true =>
  have h1 : ∀ a b,a < (rP p).length → b < (rP p).length → bfK p true a b = true → g a < g b := by
   intro a b ha hb h
   simp only [bfK,bf2,if_true,Bool.or_eq_true] at h
   rcases h with h | h
   ·exact ((hfg a b ha hb).1 h).2
   ·exact ((hfg b a hb ha).2 h).2
  have h2 : ∀ a b,a < (rP p).length → b < (rP p).length → a ≠ b → bfK p true a b = true ∨ bfK p true b a = true := by
   intro a b ha hb hne
   simp only [bfK,bf2,if_true,Bool.or_eq_true]
   rcases tot a b ha hb hne with h | h | h | h
   ·exact .inl (.inl h)
   ·exact .inr (.inl h)
   ·exact .inr (.inr h)
   ·exact .inl (.inr h)
  have h3 : ∀ a b,a < (rP p).length → b < (rP p).length → g a = g b → a = b := by
   intro a b ha hb e
   refine Classical.byContradiction fun hne => ?_
   rcases h2 a b ha hb hne with h | h
   ·have := h1 a b ha hb h; omega
   ·have := h1 b a hb ha h; omega
  refine ⟨g,fun a b ha hb => ⟨h1 a b ha hb,fun h => ?_⟩,h3⟩
  rcases h2 a b ha hb (by rintro rfl; omega) with k | k
  ·exact k
  ·have := h1 b a hb ha k; omega
theorem ahK_is {p : List Txt} {below : Bool} {f : Nat → Nat} (hf : ∀ a b,a < (rP p).length → b < (rP p).length → (bfK p below a b = true ↔ f a < f b)) {a : Nat} (ha : a < (rP p).length) : ahK p below a = ahead (rP p).length f a := by
 unfold ahK ahead
 apply List.countP_congr
 intro b hb
 rw [hf b a (by simpa using hb) ha]; simp
theorem putAll_congr {f g : Nat → Nat} {n : Nat} : ∀ k,(∀ a,a < k → f a = g a) → putAll f n k = putAll g n k
 | 0,_ => rfl
 | k + 1,h => by unfold putAll; rw [putAll_congr k fun a ha => h a (by omega),h k (by omega)]
def srt (p : List Txt) (below : Bool) : List Int := putAll (ahK p below) (rP p).length (rP p).length
theorem srt_len {p : List Txt} {below : Bool} : (srt p below).length = (rP p).length := putAll_len _
theorem srt_is {p : List Txt} {below : Bool} {f : Nat → Nat} (hf : ∀ a b,a < (rP p).length → b < (rP p).length → (bfK p below a b = true ↔ f a < f b)) (hi : ∀ a b,a < (rP p).length → b < (rP p).length → f a = f b → a = b)
  {z : List Int} (hz : z.Perm (rooms (rP p).length)) (hs : (z.map fun x => ((f x.toNat : Nat) : Int)).Pairwise (· ≤ ·)) : z = srt p below := by
 rw [sorted_put hi hz hs]
 exact (putAll_congr _ fun a ha => ahK_is hf ha).symm
end
section
section
variable {p : List Txt} {below : Bool}
theorem srt_perm (hp : plainB p = true) (below : Bool) : (srt p below).Perm (rooms (rP p).length) := by
 obtain ⟨f,hf,hi⟩ := bf_rank hp below
 have h1 : ((rooms (rP p).length).mergeSort fun x y => decide (f x.toNat ≤ f y.toNat)).Perm (rooms (rP p).length) := List.mergeSort_perm _ _
 have h2 : (((rooms (rP p).length).mergeSort fun x y => decide (f x.toNat ≤ f y.toNat)).map fun x => ((f x.toNat : Nat) : Int)).Pairwise (· ≤ ·) := by
  rw [List.pairwise_map]
  refine (List.pairwise_mergeSort (fun a b c h k => ?_) (fun a b => ?_) _).imp fun {a b} h => ?_
  ·simp only [decide_eq_true_eq] at h k ⊢; omega
  ·simp only [Bool.or_eq_true,decide_eq_true_eq]; omega
  ·simp only [decide_eq_true_eq] at h; omega
 rw [← srt_is hf hi h1 h2]
 exact h1
theorem srt_mem (hp : plainB p = true) {x : Int} : x ∈ srt p below ↔ 0 ≤ x ∧ x < (rP p).length := by
 rw [(srt_perm hp below).mem_iff,mem_rooms]
theorem srt_nodup (hp : plainB p = true) : (srt p below).Nodup := (srt_perm hp below).nodup_iff.2 (nodup_rooms _)
theorem ahK_lt (hp : plainB p = true) {a : Nat} (ha : a < (rP p).length) : ahK p below a < (rP p).length := by
 obtain ⟨f,hf,hi⟩ := bf_rank hp below
 rw [ahK_is hf ha]; exact ahead_n ha
theorem ahK_iff (hp : plainB p = true) {a b : Nat} (ha : a < (rP p).length) (hb : b < (rP p).length) : bfK p below a b = true ↔ ahK p below a < ahK p below b := by
 obtain ⟨f,hf,hi⟩ := bf_rank hp below
 rw [ahK_is hf ha,ahK_is hf hb,hf a b ha hb]
 constructor
 ·intro h; exact ahead_lt ha h
 ·intro h
  refine Classical.byContradiction fun k => ?_
  rcases Nat.lt_trichotomy (f a) (f b) with q | q | q
  ·exact k q
  ·have := hi a b ha hb q; subst this; omega
  ·have := ahead_lt (n := (rP p).length) hb q; omega
theorem ahK_inj (hp : plainB p = true) {a b : Nat} (ha : a < (rP p).length) (hb : b < (rP p).length) (h : ahK p below a = ahK p below b) : a = b := by
 obtain ⟨f,hf,hi⟩ := bf_rank hp below
 rw [ahK_is hf ha,ahK_is hf hb] at h
 exact ahead_inj hi ha hb h
theorem srt_at (hp : plainB p = true) {a : Nat} (ha : a < (rP p).length) : (srt p below)[ahK p below a]? = some (a : Int) :=
 putAll_at (fun a ha => ahK_lt hp ha) (fun a b ha hb h => ahK_inj hp ha hb h) _ (Nat.le_refl _) a ha
theorem srt_get (hp : plainB p = true) {i : Nat} (hi : i < (rP p).length) : ∃ a,a < (rP p).length ∧ ahK p below a = i ∧ (srt p below)[i]? = some (a : Int) := by
 obtain ⟨x,hx,hm⟩ := get_of (show i < (srt p below).length by rw [srt_len]; exact hi)
 obtain ⟨h1,h2⟩ := (srt_mem hp).1 hm
 refine ⟨x.toNat,by omega,?_,by rw [hx]; congr 1; omega⟩
 have h3 := srt_at (below := below) hp (a := x.toNat) (by omega)
 have e : ((x.toNat : Nat) : Int) = x := by omega
 rw [e] at h3
 have k1 := len_of h3
 have k2 := len_of hx
 rw [List.getElem?_eq_getElem k1] at h3
 rw [List.getElem?_eq_getElem k2] at hx
 exact nodup_get (srt_nodup hp) k1 k2 ((Option.some.inj h3).trans (Option.some.inj hx).symm)
def permV (p : List Txt) : List Int := (srt p true).map fun x => ((ahK p false x.toNat : Nat) : Int)
theorem permV_len : (permV p).length = (rP p).length := by simp [permV,srt_len]
theorem permV_at (hp : plainB p = true) {i a : Nat} (h : (srt p true)[i]? = some (a : Int)) : (permV p)[i]? = some ((ahK p false a : Nat) : Int) := by
 unfold permV
 rw [List.getElem?_map,h]
 simp
def plcF (p : List Txt) : Nat → List Int
 | 0 => List.replicate (rP p).length 0
 | i + 1 => (plcF p i).set (getI (srt p false) i).toNat (i : Int)
theorem plcF_len : ∀ i,(plcF p i).length = (rP p).length
 | 0 => by simp [plcF]
 | i + 1 => by simp [plcF,plcF_len i]
theorem plcF_at (hp : plainB p = true) : ∀ i,i ≤ (rP p).length → ∀ a,a < (rP p).length → ahK p false a < i → (plcF p i)[a]? = some ((ahK p false a : Nat) : Int)
 | 0,_,a,_,h => by omega
 | i + 1,hi,a,ha,h => by
  obtain ⟨b,hb,hb2,hb3⟩ := srt_get (below := false) hp (show i < (rP p).length by omega)
  unfold plcF
  rw [getI_is hb3,Int.toNat_natCast,List.getElem?_set,plcF_len]
  by_cases e : b = a
  ·subst e; rw [if_pos rfl,if_pos hb,hb2]
  ·rw [if_neg e]
   refine plcF_at hp i (by omega) a ha ?_
   refine Classical.byContradiction fun k => e (ahK_inj (below := false) hp hb ha (by omega))
end
end
section
section
variable {M : List (List Bool)} {ms : List Nat} {ws : List Int} {n : Nat} {rk : Nat → Nat}
def revM (n : Nat) (M : List (List Bool)) : List (List Bool) := (List.range n).map fun a => (List.range n).map fun b => getB M b a
def bhB (sets : List Nat) (needs : List Int) (a : Nat) (out : List Int) (b : Nat) : List Int :=
 if bitOf sets a b then out.set a (max (getI out a) (getI out b + getI needs b)) else out
def bhA (sets : List Nat) (needs : List Int) (out : List Int) (a : Nat) : List Int := (List.range needs.length).foldl (bhB sets needs a) out
def bhN (sets : List Nat) (needs : List Int) (out : List Int) (_ : Nat) : List Int := (List.range needs.length).foldl (bhA sets needs) out
def behind (sets : List Nat) (needs : List Int) : List Int := (List.range needs.length).foldl (bhN sets needs) (List.replicate needs.length 0)
end
end
def domB (x : Int × Int) (w h : Int) : Bool := decide (x.1 ≤ w) && decide (x.2 ≤ h)
def putStep (w h : Int) (s : List (Int × Int) × Bool) (x : Int × Int) : List (Int × Int) × Bool :=
 if w ≤ x.1 ∧ h ≤ x.2 then s else if s.2 = false ∧ w < x.1 then (s.1 ++ [(w,h),x],true) else (s.1 ++ [x],s.2)
def putF (l : List (Int × Int)) (w h : Int) : List (Int × Int) × Bool := l.foldl (putStep w h) ([],false)
def put (l : List (Int × Int)) (w h : Int) : List (Int × Int) := if l.any (fun x => domB x w h) then l else if (putF l w h).2 then (putF l w h).1 else (putF l w h).1 ++ [(w,h)]
section
theorem sN_one_le {f : Nat → Bool} : ∀ {n : Nat},(∀ r s,r < n → s < n → f r = true → f s = true → r = s) → sN n (fun r => b1 (f r)) ≤ 1 := by
 intro n
 induction n with
 | zero => intro _; simp [sN]
 | succ n ih =>
  intro h
  show sN n (fun r => b1 (f r)) + b1 (f n) ≤ 1
  have := ih fun r s hr hs => h r s (by omega) (by omega)
  cases hf : f n with
  | false => simp [b1]; exact this
  | true =>
   have e : sN n (fun r => b1 (f r)) = sN n (fun _ => 0) := sN_congr fun i hi => by
    cases hi2 : f i with
    | false => rfl
    | true => have := h i n (by omega) (by omega) hi2 hf; omega
   rw [e,sN_zero]; simp [b1]
section
variable {M : List (List Bool)} {ws : List Int} {n : Nat} {rk : Nat → Nat}
end
end

section
variable {M : List (List Bool)} {ms : List Nat} {n : Nat} {rk : Nat → Nat} {ws out : List Int}
abbrev ones (n : Nat) : List Int := List.replicate n 1
def RB (M : List (List Bool)) (n b : Nat) : Int := HB (revM n M) (ones n) n b
def LgOk (M : List (List Bool)) (n : Nat) (out : List Int) : Prop := out.length = n ∧ ∀ a,a < n → 0 ≤ getI out a ∧ getI out a ≤ RB M n a
theorem LgOk.set (h : LgOk M n out) {a : Nat} {v : Int} (ha : a < n) (h0 : 0 ≤ v) (h1 : v ≤ RB M n a) : LgOk M n (out.set a v) := by
 refine ⟨by simp [h.1],fun y hy => ?_⟩
 rw [getI_set (by rw [h.1]; exact ha)]
 split
 ·rename_i e; subst e; exact ⟨h0,h1⟩
 ·exact h.2 y hy
end
section
variable {p : List Txt}
def stp (f : Nat → Int) (i n : Nat) : List Int := (List.range n).map fun k => if k < i then f k else 0
theorem stp_len {f : Nat → Int} {i n : Nat} : (stp f i n).length = n := by simp [stp]
theorem stp_zero {f : Nat → Int} {n : Nat} : stp f 0 n = List.replicate n 0 := by
 apply List.ext_getElem?
 intro j
 by_cases h : j < n <;> simp [stp,h]
theorem stp_set {f : Nat → Int} {i n : Nat} : (stp f i n).set i (f i) = stp f (i + 1) n := by
 apply List.ext_getElem?
 intro j
 rw [List.getElem?_set,stp_len]
 by_cases e : i = j
 ·subst e
  by_cases h : i < n <;> simp [stp,h]
 ·rw [if_neg e]
  by_cases h : j < n
  ·simp only [stp,List.getElem?_map,List.getElem?_range h,Option.map_some]
   congr 1
   by_cases h2 : j < i
   ·rw [if_pos h2,if_pos (by omega)]
   ·rw [if_neg h2,if_neg (by omega)]
  ·simp [stp,h]
end
theorem frz_fnc {S : Store} {lo k : Nat} {g : FuncId} {cap : List PV} (h : cap.mapM (frz S lo k) = some cap) : frz S lo (k + 1) (.fn g cap) = some (.fn g cap) := by
 show (cap.mapM (frz S lo k)).map (PV.fn g) = _
 rw [h]; rfl
def bgT (c : Nat → Nat → Int) (nw i : Nat) : List (List Int) := (List.range i).map fun r => (List.range nw).map (c r)
theorem bgT_len {c : Nat → Nat → Int} {nw i : Nat} : (bgT c nw i).length = i := by simp [bgT]
theorem bgT_succ {c : Nat → Nat → Int} {nw i : Nat} : bgT c nw (i + 1) = bgT c nw i ++ [(List.range nw).map (c i)] := by simp [bgT,List.range_succ]
theorem stp_all {f : Nat → Int} {n : Nat} : stp f n n = (List.range n).map f := by
 unfold stp
 refine List.map_congr_left fun k hk => ?_
 rw [if_pos (List.mem_range.1 hk)]
theorem frz_gcs {S : Store} {lo f : Nat} {d : List (List Int)} {cur cur2 : PV} {m : Nat} (h : frz S lo (f + 1) cur = some cur2) : (gcs d cur m).mapM (frz S lo (f + 1)) = some (gcs d cur2 m) := by
 unfold gcs
 rw [List.mapM_append,mapM_same (l := d.map eInts) (fun x hx => by obtain ⟨a,_,rfl⟩ := List.mem_map.1 hx; rfl),List.mapM_cons,h,mapM_same (l := List.replicate m PV.nils) (fun x hx => by obtain rfl := List.eq_of_mem_replicate hx; rfl)]
 rfl
theorem frz_nilsr {S : Store} {lo k m : Nat} : (List.replicate m PV.nils).mapM (frz S lo (k + 1)) = some (List.replicate m PV.nils) := mapM_same fun x hx => by obtain rfl := List.eq_of_mem_replicate hx; rfl
theorem frz_rowG {v0 tk tk2 m et n : Nat} {d : List (List Int)} {l : List Int} (hn : l.length = n) : Store.frz ⟨[.arr v0 et 1 (gcs d (.loc 1 tk 0 n) m),.arr tk 3 1 (l.map (.int .i64))],tk2⟩ 1 = some ⟨[.arr v0 et 1 (gc0 (d ++ [l]) m)],tk2⟩ := by
 subst hn
 have h : frz ⟨[.arr v0 et 1 (gcs d (.loc 1 tk 0 l.length) m),.arr tk 3 1 (l.map (.int .i64))],tk2⟩ 1 10 (.loc 1 tk 0 l.length) = some (eInts l) := by
  have ht : (l.map (PV.int .i64)).take l.length = l.map (PV.int .i64) := List.take_of_length_le (by simp)
  simp [-List.mapM_map,-List.map_take,frz_loc,rfz_loc,ht,rfz_ints]
 simp [Store.frz,frzObs,frzOb,frz_gcs h,gcs_gc0]
theorem blank_pc {c : Nat → Nat → Int} {nh nw : Nat} (hh : nh ≤ 100) (hw : nw ≤ 100) {g : FuncId} {cap : List PV} (hc : ∀ (S : Store) (k : Nat),cap.mapM (reify S true (k + 1)) = some cap) (hz : ∀ (S : Store) (lo k : Nat),cap.mapM (frz S lo (k + 1)) = some cap) (hcell : ∀ r w : Nat,r < nh → w < nw → PC Tryz.prog g (.int .i64 r :: .int .i64 w :: cap) (.int .i64 (c r w)) true) : PC Tryz.prog 83 [.int .i64 nh,.int .i64 nw,.fn g cap] (eGrid (bgT c nw nh)) false := by
 refine PC.of ⟨Tryz.func83,by kernel_rfl,rfl,by kernel_rfl⟩ tabOk mixed (by show 3 ≤ Tryz.f83.ntmps; decide) ?_
 refine W.r fun K hK => ?_
 simp (disch := omega) only [↓RU,RV,RH,↓reduceIte,reduceEqDiff,reduceCtorEq,if_pos,↓RS,RG,reduceAdd,reduceMul,reduceLeDiff]
 refine hK _ _ ?_;clear hK K
 refine W.r fun K hK => ?_
 simp (disch := omega) only [↓RU,RV,RH,↓reduceIte,reduceEqDiff,reduceCtorEq,if_pos,↓RS,RG,reduceAdd,reduceMul,reduceLeDiff,ty1,tyLint,ty11,tyint,repz_nils,ile_true]
 refine hK _ _ ?_;clear hK K
 refine W.seq ?_
 refine W.r fun K hK => ?_
 simp (disch := omega) only [↓RU,RV,RH,↓reduceIte,reduceEqDiff,reduceCtorEq,if_pos,↓RS,RG,reduceAdd,reduceMul,reduceLeDiff,ty1,tyLint,ty11,tyint]
 refine hK _ _ ?_;clear hK K
 refine W.block ?_
 refine W.loopZ [1,2,7,13,14] (fun n vs S => ∃ i v0 tk : Nat,n = nh - i ∧ i ≤ nh ∧ vs = [.int .i64 nw,.fn g cap,.loc 0 v0 0 nh,.int .i64 nh,.int .i64 i] ∧ S = ⟨[.arr v0 24 1 (gc0 (bgT c nw i) (nh - i))],tk⟩) (nh) ?_ ?_
 ·refine ⟨1,[.int .i64 nw,.fn g cap,.loc 0 0 0 nh,.int .i64 nh,.int .i64 0],⟨[.arr 0 24 1 (gc0 (bgT c nw 0) (nh - 0))],1⟩,?_,?_,0,0,1,rfl,by omega,rfl,rfl⟩
  ·simp [-List.mapM_map,Store.frz,frzObs,frzOb,frz_eInts,frz_loc,rfz_loc,frz_int,frz_sl,frz_ints,rfz_ints,frz_strs,frz_bytes,rfz_bytes,rfz_str,rfz_bool,frz_str,frz_bool,Env.put,Env.of,argEnv,rfz_int,List.mapM_append,List.mapM_cons,gc0_nil,frz_fnc (hz _ _ _),bgT,frz_nilsr]
  ·simp [-List.mapM_map,Store.frz,frzObs,frzOb,frz_eInts,frz_loc,rfz_loc,frz_int,frz_sl,frz_ints,rfz_ints,frz_strs,frz_bytes,rfz_bytes,rfz_str,rfz_bool,frz_str,frz_bool,Env.put,Env.of,argEnv,rfz_int,List.mapM_append,List.mapM_cons,gc0_nil,frz_fnc (hz _ _ _),bgT,frz_nilsr]
 rintro n vs S - ⟨i,v0,tk,rfl,h_i,rfl,rfl⟩
 refine W.r fun K hK => ?_
 simp (disch := omega) only [↓RU,RV,RH,↓reduceIte,reduceEqDiff,reduceCtorEq,if_pos,w64,↓RS,RG,reduceAdd,reduceMul,reduceLeDiff,tyint]
 refine hK _ _ ?_;clear hK K
 refine W.seq ?_
 refine W.cond rfl (fun h => ?_) (fun h => ?_)
 ·try simp only [RL] at h
  have hil : i < nh := by omega
  have hbl := bgT_len (c := c) (nw := nw) (i := i)
  refine W.skip ?_
  refine xn ?_
  refine W.seq ?_
  refine W.block ?_
  refine W.r fun K hK => ?_
  simp (disch := omega) only [↓RU,RV,RH,↓reduceIte,reduceEqDiff,reduceCtorEq,if_pos,↓RS,RG,reduceAdd,reduceMul,reduceLeDiff]
  refine hK _ _ ?_;clear hK K
  refine W.r fun K hK => ?_
  simp (disch := omega) only [↓RU,RV,RH,↓reduceIte,reduceEqDiff,reduceCtorEq,if_pos,↓RS,RG,reduceAdd,reduceMul,reduceLeDiff,ty1,tyLint,ty11,tyint,repz_int,ile_true,gc0_len,hbl,gc0_set]
  refine hK _ _ ?_;clear hK K
  refine W.r fun K hK => ?_
  simp (disch := omega) only [↓RU,RV,RH,↓reduceIte,reduceEqDiff,reduceCtorEq,if_pos,↓RS,RG,reduceAdd,reduceMul,reduceLeDiff,ty1,tyLint,ty11,tyint,gcs_get,gcs_len,hbl]
  refine hK _ _ ?_;clear hK K
  refine W.block ?_
  refine W.loop [1,2,7,8,13,14,26,27] (fun n vs S => ∃ (j tk2 : Nat),n = nw - j ∧ j ≤ nw ∧ vs = [.int .i64 nw,.fn g cap,.loc 0 v0 0 nh,.int .i64 i,.int .i64 nh,.int .i64 i,.int .i64 nw,.int .i64 j] ∧ S = ⟨[.arr v0 24 1 (gcs (bgT c nw i) (.loc 1 tk 0 nw) (nh - i - 1)),.arr tk 3 1 ((stp (c i) j nw).map (.int .i64))],tk2⟩) nw ?_ ?_
  ·refine ⟨2,0,tk + 1,rfl,Nat.zero_le _,?_,?_⟩
   ·simp [Env.put,Env.of]
   ·simp [take_eq,stp_zero]
  rintro n vs S - ⟨j,tk2,rfl,h_j,rfl,rfl⟩
  refine W.r fun K hK => ?_
  simp (disch := omega) only [↓RU,RV,RH,↓reduceIte,reduceEqDiff,reduceCtorEq,if_pos,w64,↓RS,RG,reduceAdd,reduceMul,reduceLeDiff,tyint]
  refine hK _ _ ?_;clear hK K
  refine W.seq ?_
  refine W.cond rfl (fun h1 => ?_) (fun h1 => ?_)
  ·try simp only [RL] at h1
   have hjw : j < nw := by omega
   have hsl := stp_len (f := c i) (i := j) (n := nw)
   refine W.skip ?_
   refine xn ?_
   refine W.seq ?_
   refine W.block ?_
   refine W.r fun K hK => ?_
   simp (disch := omega) only [↓RU,RV,RH,↓reduceIte,reduceEqDiff,reduceCtorEq,if_pos,↓RS,RG,reduceAdd,reduceMul,reduceLeDiff]
   refine hK _ _ ?_;clear hK K
   refine W.draw_k (by kernel_rfl) fun K hK => ?_
   simp (disch := omega) only [↓RU,RV,RH,↓reduceIte,reduceEqDiff,reduceCtorEq,if_pos,List.append_nil,↓RS,RG,reduceAdd,reduceMul,reduceLeDiff,ty1,tyLint,ty11,tyint,gcs_get,gcs_len,hbl,hsl,set_spl,set_int]
   refine CallR.pc (hcell i j hil hjw) (mapM_one rfl (mapM_one rfl (hc _ 9))) (.inl rfl) ?_
   simp (disch := omega) only [↓RU,RV,RH,↓reduceIte,reduceEqDiff,reduceCtorEq,if_pos,List.append_nil,↓RS,RG,reduceAdd,reduceMul,reduceLeDiff,ty1,tyLint,ty11,tyint,gcs_get,gcs_len,hbl,hsl,set_spl,set_int]
   refine hK _ _ ?_;clear hK K
   refine XbN ?_
   refine xn ?_
   refine W.k fun K hK => ?_
   simp (disch := omega) only [↓RU,RV,RH,↓reduceIte,reduceEqDiff,reduceCtorEq,if_pos,w64,↓RS,RG,reduceAdd,reduceMul,reduceLeDiff,tyint]
   refine hK _ _ ?_;clear hK K
   refine xn ?_
   refine ⟨nw - (j + 1),by omega,2,j + 1,tk2,rfl,by omega,?_,?_⟩
   ·simp [Env.put,Env.of]
   ·simp only [take_eq,← stp_set (i := j)]; rfl
  ·try simp only [RL] at h1
   obtain rfl : nw = j := by omega
   refine W.exit ?_
   refine xe ?_
   refine xe ?_
   refine XBlock.hit ?_
   refine XbN ?_
   refine xn ?_
   refine W.k fun K hK => ?_
   simp (disch := omega) only [↓RU,RV,RH,↓reduceIte,reduceEqDiff,reduceCtorEq,if_pos,w64,↓RS,RG,reduceAdd,reduceMul,reduceLeDiff,tyint]
   refine hK _ _ ?_;clear hK K
   refine xn ?_
   refine ⟨nh - (i + 1),by omega,1,[.int .i64 nw,.fn g cap,.loc 0 v0 0 nh,.int .i64 nh,.int .i64 (i + 1)],⟨[.arr v0 24 1 (gc0 (bgT c nw (i + 1)) (nh - (i + 1)))],tk2⟩,?_,?_,(i + 1),v0,tk2,rfl,by omega,rfl,rfl⟩
   ·simp [-List.mapM_map,Store.frz,frzObs,frzOb,frz_eInts,frz_loc,rfz_loc,frz_int,frz_sl,frz_ints,rfz_ints,frz_strs,frz_bytes,rfz_bytes,rfz_str,rfz_bool,frz_str,frz_bool,Env.put,Env.of,argEnv,rfz_int,List.mapM_append,List.mapM_cons,gc0_nil,frz_fnc (hz _ _ _),bgT,frz_nilsr]
   ·rw [stp_all,frz_rowG (by simp),bgT_succ]; rfl
 ·try simp only [RL] at h
  obtain rfl : nh = i := by omega
  refine W.exit ?_
  refine xe ?_
  refine xe ?_
  refine XBlock.hit ?_
  refine xn ?_
  refine W.r fun K hK => ?_
  simp (disch := omega) only [↓RU,RV,RH,↓reduceIte,reduceEqDiff,reduceCtorEq,if_pos,↓RS,RG,reduceAdd,reduceMul,reduceLeDiff]
  refine hK _ _ ?_;clear hK K
  refine W.ret ?_
  refine Br rfl ?_
  rw [Nat.sub_self,gc0_all]
  have hbl := bgT_len (c := c) (nw := nw) (i := nh)
  exact (reify_loc (k := 9) (n := nh) (cells := (bgT c nw nh).map eInts) rfl (by simp [hbl]) (mapM_ints2 _)).trans (by show _ = some (PV.sl _ (bgT c nw nh).length); rw [hbl])
def Pat (g1 g2 : List (List Int)) (H W : Nat) : Prop := ∀ i j i' j',i < H → j < W → i' < H → j' < W → (gz g1 i j = gz g1 i' j' ↔ gz g2 i j = gz g2 i' j')
theorem Pat.symm {g1 g2 : List (List Int)} {H W : Nat} (h : Pat g1 g2 H W) : Pat g2 g1 H W := fun i j i' j' a b c d => (h i j i' j' a b c d).symm
theorem Pat.trans {g1 g2 g3 : List (List Int)} {H W : Nat} (h : Pat g1 g2 H W) (k : Pat g2 g3 H W) : Pat g1 g3 H W := fun i j i' j' a b c d => (h i j i' j' a b c d).trans (k i j i' j' a b c d)
structure KC (g1 g2 : List (List Int)) (H W : Nat) (k1 k2 : List Int) : Prop where
 len : k1.length = k2.length
 at_ : ∀ i j,i < H → j < W → k1.idxOf (gz g1 i j) = k2.idxOf (gz g2 i j)
theorem idxOf_snoc {l : List Int} {z x : Int} (h : l.idxOf x = l.length) : (l ++ [z]).idxOf x = if x = z then l.length else l.length + 1 := by
 have hn := idxOf_not h
 rw [List.idxOf_append,if_neg hn]
 by_cases e : x = z
 ·subst e; simp
 ·rw [if_neg e]
  have e2 : (z == x) = false := by simpa using fun h => e h.symm
  simp [List.idxOf_cons,e2]
  omega
theorem KC.step {g1 g2 : List (List Int)} {H W : Nat} (hp : Pat g1 g2 H W) {k1 k2 : List Int} (h : KC g1 g2 H W k1 k2) {a b : Nat} (ha : a < H) (hb : b < W) : KC g1 g2 H W (seKs k1 (gz g1 a b)) (seKs k2 (gz g2 a b)) := by
 have h1 := h.at_ a b ha hb
 unfold seKs
 by_cases e : k1.idxOf (gz g1 a b) = k1.length
 ·have e2 : k2.idxOf (gz g2 a b) = k2.length := by rw [← h1,e,h.len]
  rw [if_pos e,if_pos e2]
  refine ⟨by simp [h.len],fun i j hi hj => ?_⟩
  have h2 := h.at_ i j hi hj
  have hpt := hp i j a b hi hj ha hb
  by_cases q : k1.idxOf (gz g1 i j) = k1.length
  ·have q2 : k2.idxOf (gz g2 i j) = k2.length := by rw [← h2,q,h.len]
   rw [idxOf_snoc q,idxOf_snoc q2,h.len]
   by_cases r : gz g1 i j = gz g1 a b
   ·rw [if_pos r,if_pos (hpt.1 r)]
   ·rw [if_neg r,if_neg fun x => r (hpt.2 x)]
  ·have q2 : ¬ k2.idxOf (gz g2 i j) = k2.length := by rw [← h2,← h.len]; exact q
   rw [idxOf_app q,idxOf_app q2,h2]
 ·have e2 : ¬ k2.idxOf (gz g2 a b) = k2.length := by rw [← h1,← h.len]; exact e
  rw [if_neg e,if_neg e2]
  exact h
theorem seRs_same {k1 k2 rs : List Int} {R : List Rect} {z1 z2 : Int} {q : Rect} (hl : k1.length = k2.length) (hi : k1.idxOf z1 = k2.idxOf z2) : seRs k1 R z1 q = seRs k2 R z2 q := by
 unfold seRs seIn
 rw [hl,hi]
theorem seRow_same {g1 g2 : List (List Int)} {H W : Nat} (hp : Pat g1 g2 H W) {i : Nat} (hi : i < H) {s1 s2 : List Int × List Rect} (h : KC g1 g2 H W s1.1 s2.1) (hr : s1.2 = s2.2) : ∀ j,j ≤ W →
  KC g1 g2 H W (seRow g1 i s1 j).1 (seRow g2 i s2 j).1 ∧ (seRow g1 i s1 j).2 = (seRow g2 i s2 j).2
 | 0,_ => ⟨h,hr⟩
 | j + 1,hj => by
  obtain ⟨h1,h2⟩ := seRow_same hp hi h hr j (by omega)
  unfold seRow
  refine ⟨h1.step hp hi (by omega),?_⟩
  show seRs _ _ _ _ = seRs _ _ _ _
  rw [h2]
  exact seRs_same (rs := []) h1.len (h1.at_ i j hi (by omega))
theorem seRows_same {g1 g2 : List (List Int)} {H W : Nat} (hp : Pat g1 g2 H W) : ∀ i,i ≤ H → KC g1 g2 H W (seRows g1 W i).1 (seRows g2 W i).1 ∧ (seRows g1 W i).2 = (seRows g2 W i).2
 | 0,_ => ⟨⟨rfl,fun _ _ _ _ => rfl⟩,rfl⟩
 | i + 1,hi => by
  obtain ⟨h1,h2⟩ := seRows_same hp i (by omega)
  exact seRow_same hp (by omega) h1 h2 W (Nat.le_refl _)
theorem zRow_same {g1 g2 : List (List Int)} {H W : Nat} (hp : Pat g1 g2 H W) {i : Nat} (hi : i < H) {s1 s2 : List Int × List Rect} (h : KC g1 g2 H W s1.1 s2.1) (hr : s1.2 = s2.2) : ∀ j,j ≤ W → zRow g1 i s1 j = zRow g2 i s2 j
 | 0,_ => rfl
 | j + 1,hj => by
  unfold zRow
  rw [zRow_same hp hi h hr j (by omega),(seRow_same hp hi h hr j (by omega)).1.at_ i j hi (by omega)]
theorem zRows_same {g1 g2 : List (List Int)} {H W : Nat} (hp : Pat g1 g2 H W) : ∀ i,i ≤ H → zRows g1 W i = zRows g2 W i
 | 0,_ => rfl
 | i + 1,hi => by
  obtain ⟨h1,h2⟩ := seRows_same hp i (by omega)
  unfold zRows
  rw [zRows_same hp i (by omega),zRow_same hp (by omega) h1 h2 W (Nat.le_refl _)]
theorem GW.w0 {g : List (List Int)} {H W : Nat} (h : GW g H W) : w0 g = W := by
 obtain ⟨row,hrow,hl,-⟩ := h.at_ (show 0 < H by have := h.2.2.1; omega) (show 0 < W by have := h.2.2.2.2.1; omega)
 rw [w0_is hrow,hl]
theorem GW.zG {g : List (List Int)} {H W : Nat} (h : GW g H W) : zG g = zRows g W H ∧ stG g = seRows g W H := by
 unfold Fw.zG stG; rw [h.w0,h.1]; exact ⟨rfl,rfl⟩
theorem zG_at {g : List (List Int)} {H W i j : Nat} (h : GW g H W) (hi : i < H) (hj : j < W) : gz (zG g) i j = (((seRows g W H).1.idxOf (gz g i j) : Nat) : Int) := by
 rw [h.zG.1]
 unfold gz
 rw [zRows_at hi,Option.getD_some,zRow_at hj,Option.getD_some]
 congr 1
 exact zNum hi hj
theorem zG_gw2 {g : List (List Int)} {H W : Nat} (h : GW g H W) : GW (zG g) H W := by
 rw [h.zG.1]
 refine ⟨zRows_len _,fun r hr => ?_,h.2.2⟩
 obtain ⟨k,hk⟩ := List.getElem?_of_mem hr
 have := len_of hk
 rw [zRows_len] at this
 rw [zRows_at this] at hk
 cases hk
 exact zRow_len _
theorem zG_mem {g : List (List Int)} {H W i j : Nat} (hi : i < H) (hj : j < W) : gz g i j ∈ (seRows g W H).1 := (SeInv.rows (g := g) (W := W) H).mem i j (gone_all hi hj)
theorem zG_pat {g : List (List Int)} {H W : Nat} (h : GW g H W) : Pat (zG g) g H W := by
 intro i j i' j' hi hj hi' hj'
 rw [zG_at h hi hj,zG_at h hi' hj']
 constructor
 ·intro e
  have h1 := idxOf_mem (ks := (seRows g W H).1) (z := gz g i j) (by have := List.idxOf_lt_length_iff.2 (zG_mem (g := g) hi hj); omega)
  have h2 := idxOf_mem (ks := (seRows g W H).1) (z := gz g i' j') (by have := List.idxOf_lt_length_iff.2 (zG_mem (g := g) hi' hj'); omega)
  rw [show (seRows g W H).1.idxOf (gz g i j) = (seRows g W H).1.idxOf (gz g i' j') by omega,h2] at h1
  exact (Option.some.inj h1).symm
 ·intro e; rw [e]
theorem zG_lt {g : List (List Int)} {H W i j : Nat} (h : GW g H W) (hi : i < H) (hj : j < W) : 0 ≤ gz (zG g) i j ∧ gz (zG g) i j < (seRows g W H).2.length := by
 rw [zG_at h hi hj]
 have h1 := List.idxOf_lt_length_iff.2 (zG_mem (g := g) hi hj)
 have h2 := (SeInv.rows (g := g) (W := W) H).len
 omega
theorem readG_text {g : List (List Int)} {H W i j : Nat} (h : GW g H W) (hi : i < H) (hj : j < W) (h0 : 0 ≤ gz g i j) (h1 : gz g i j ≤ 100) : gz (readG (textG g)) i j = gz g i j + 97 := by
 obtain ⟨row,hrow,hl,hx⟩ := h.at_ hi hj
 have e1 : (readG (textG g))[i]? = some (rowZ (rowT row)) := by simp [readG,textG_at hrow]
 have e2 : (rowZ (rowT row))[j]? = some ((letZ (gz g i j)).toNat : Int) := by simp [rowZ,rowT,hx]
 have e3 : gz (readG (textG g)) i j = ((letZ (gz g i j)).toNat : Int) := by
  conv => lhs; unfold gz
  rw [e1,Option.getD_some,e2,Option.getD_some]
 rw [e3]
 unfold letZ
 rw [UInt8.toNat_ofNat_of_lt' (by show 97 + (gz g i j).toNat < 256; omega)]
 omega
theorem text_hd {g : List (List Int)} {H W : Nat} (h : GW g H W) : (textG g).length = H ∧ (hdRow (textG g)).length = W := by
 refine ⟨by rw [textG_len,h.1],?_⟩
 obtain ⟨row,hrow,hl,-⟩ := h.at_ (show 0 < H by have := h.2.2.1; omega) (show 0 < W by have := h.2.2.2.2.1; omega)
 rw [hdRow_of (textG_at hrow)]
 simp [rowT,hl]
theorem text_grid {g : List (List Int)} {H W : Nat} (h : GW g H W) (hz : ∀ i j,i < H → j < W → 0 ≤ gz g i j ∧ gz g i j < 26) : gridB (textG g) = true := by
 obtain ⟨t1,t2⟩ := text_hd h
 unfold gridB
 rw [t1,t2]
 have h2 := h.2.2
 have : (textG g).all (rowB W) = true := by
  rw [List.all_eq_true]
  intro r hr
  obtain ⟨i,hi⟩ := List.getElem?_of_mem hr
  have hil := len_of hi
  rw [t1] at hil
  obtain ⟨row,hrow,hrm⟩ := get_of (show i < g.length by rw [h.1]; exact hil)
  have hrl := h.2.1 row hrm
  rw [textG_at hrow] at hi
  cases hi
  unfold rowB
  simp only [Bool.and_eq_true,decide_eq_true_eq,List.all_eq_true]
  refine ⟨⟨⟨by simp [rowT,hrl],by simp [rowT]; omega⟩,by simp [rowT]; omega⟩,fun c hc => ?_⟩
  obtain ⟨z,hzm,rfl⟩ := List.mem_map.1 hc
  obtain ⟨j,hj⟩ := List.getElem?_of_mem hzm
  have hjl := len_of hj
  have e : gz g i j = z := by simp [gz,hrow,hj]
  have := hz i j hil (by omega)
  rw [e] at this
  unfold letterB letZ
  rw [UInt8.toNat_ofNat_of_lt' (by show 97 + z.toNat < 256; omega)]
  simp only [Bool.and_eq_true,decide_eq_true_eq]
  omega
 rw [this]
 simp only [Bool.true_and,Bool.and_eq_true,decide_eq_true_eq]
 omega
def nm (g : List (List Int)) : List Txt := textG (zG g)
structure NmOk (g : List (List Int)) (H W : Nat) : Prop where
 gw : GW g H W
 le : (seRows g W H).2.length ≤ 9
theorem NmOk.bound {g : List (List Int)} {H W : Nat} (h : NmOk g H W) {i j : Nat} (hi : i < H) (hj : j < W) : 0 ≤ gz (zG g) i j ∧ gz (zG g) i j ≤ 8 := by
 have h1 := zG_lt h.gw hi hj
 have h2 := h.le
 omega
theorem NmOk.hd {g : List (List Int)} {H W : Nat} (h : NmOk g H W) : (nm g).length = H ∧ (hdRow (nm g)).length = W := text_hd (zG_gw2 h.gw)
theorem NmOk.pat {g : List (List Int)} {H W : Nat} (h : NmOk g H W) : Pat (readG (nm g)) g H W := by
 refine Pat.trans (fun i j i' j' hi hj hi' hj' => ?_) (zG_pat h.gw)
 have b1 := h.bound hi hj
 have b2 := h.bound hi' hj'
 unfold nm
 rw [readG_text (zG_gw2 h.gw) hi hj b1.1 (by omega),readG_text (zG_gw2 h.gw) hi' hj' b2.1 (by omega)]
 constructor <;> intro e <;> omega
theorem NmOk.gP {g : List (List Int)} {H W : Nat} (h : NmOk g H W) : gP (nm g) = zG g ∧ rP (nm g) = (seRows g W H).2 := by
 rw [gP_eq,rP_eq,h.hd.1,h.hd.2,h.gw.zG.1]
 exact ⟨zRows_same h.pat H (Nat.le_refl _),(seRows_same h.pat H (Nat.le_refl _)).2⟩
theorem NmOk.named {g : List (List Int)} {H W : Nat} (h : NmOk g H W) : Named (nm g) := by
 refine ⟨text_grid (zG_gw2 h.gw) fun i j hi hj => by have := h.bound hi hj; omega,?_⟩
 rw [h.gP.1]; rfl
theorem NmOk.cell {g : List (List Int)} {H W : Nat} (h : NmOk g H W) {i j : Nat} (hi : i < H) (hj : j < W) : cellZ (nm g) i j = gz (zG g) i j := by
 rw [← h.named.cell (by rw [h.hd.1]; exact hi) (by rw [h.hd.2]; exact hj),h.gP.1]
theorem Named.okB {p : List Txt} (h : Named p) (hn : (rP p).length ≤ 9) : okB p = true := by
 unfold Fw.okB okS
 have hg := h.hg
 rw [grid_iff,Bool.and_eq_true] at hg
 rw [hg.1,hg.2]
 show decide ((rP p).length ≤ 9) = true
 exact decide_eq_true hn
theorem Named.full_of {p : List Txt} (h : Named p) (hr : ∀ {i j i' j' : Nat} (k l : Nat),i < p.length → i' < p.length → j < (hdRow p).length → j' < (hdRow p).length → cellZ p i j = cellZ p i' j' → min i i' ≤ k → k ≤ max i i' → min j j' ≤ l → l ≤ max j j' → cellZ p k l = cellZ p i j) : fullG (readG p) = true := by
 rw [h.full]
 intro m hm
 obtain ⟨b,hb,-⟩ := get_of hm
 rw [arN_is hb]
 refine cnt_congr fun i j hi hj => ?_
 have hrect := h.rect hb
 have hin := (rect_cnt hrect).2
 rw [Bool.eq_iff_iff]
 constructor
 ·intro hz
  exact hin i j hi hj (by unfold inZ at hz; simpa using hz)
 ·intro hb2
  obtain ⟨a1,b1,⟨v1,g1⟩,e1⟩ := hrect.at_
  obtain ⟨a2,b2,⟨v2,g2⟩,e2⟩ := hrect.al
  obtain ⟨a3,b3,⟨v3,g3⟩,e3⟩ := hrect.ao
  obtain ⟨a4,b4,⟨v4,g4⟩,e4⟩ := hrect.ar
  unfold Gone at g1 g2 g3 g4
  have i1 := hrect.inn _ _ ⟨v1,g1⟩
  have i2 := hrect.inn _ _ ⟨v2,g2⟩
  have i3 := hrect.inn _ _ ⟨v3,g3⟩
  have i4 := hrect.inn _ _ ⟨v4,g4⟩
  unfold inB at hb2
  simp only [Bool.and_eq_true,decide_eq_true_eq] at hb2
  have c1 := hr (i := a1) (j := b1) (i' := a2) (j' := b2) a1 b2 (by omega) (by omega) (by omega) (by omega) (by omega) (by omega) (by omega) (by omega) (by omega)
  have c2 := hr (i := a3) (j := b3) (i' := a4) (j' := b4) a3 b4 (by omega) (by omega) (by omega) (by omega) (by omega) (by omega) (by omega) (by omega) (by omega)
  have c3 := hr (i := a1) (j := b2) (i' := a3) (j' := b4) i j (by omega) (by omega) (by omega) (by omega) (by omega) (by omega) (by omega) (by omega) (by omega)
  unfold inZ
  exact decide_eq_true (by omega)
structure Cells (c : Nat → Nat → Nat) (g : List (List Int)) (H W : Nat) : Prop where
 gw : GW g H W
 at_ : ∀ i j,i < H → j < W → gz g i j = ((c i j : Nat) : Int)
structure Ren (c : Nat → Nat → Nat) (H W : Nat) (t : List Txt) : Prop where
 hl : t.length = H
 wl : (hdRow t).length = W
 pat : ∀ i j i' j',i < H → j < W → i' < H → j' < W → (cn (gP t) i j = cn (gP t) i' j' ↔ c i j = c i' j')
theorem nm_plan {c : Nat → Nat → Nat} {g : List (List Int)} {H W : Nat} (hc : Cells c g H W) (h9 : (seRows g W H).2.length ≤ 9)
  (hr : ∀ {i j i' j' : Nat} (k l : Nat),i < H → i' < H → j < W → j' < W → c i j = c i' j' → min i i' ≤ k → k ≤ max i i' → min j j' ≤ l → l ≤ max j j' → c k l = c i j) :
  planB (nm g) = true ∧ Ren c H W (nm g) := by
 have h : NmOk g H W := ⟨hc.gw,h9⟩
 have hN := h.named
 obtain ⟨l1,l2⟩ := h.hd
 have hpat : ∀ i j i' j',i < H → j < W → i' < H → j' < W → (gz (zG g) i j = gz (zG g) i' j' ↔ c i j = c i' j') := by
  intro i j i' j' hi hj hi' hj'
  rw [zG_pat hc.gw i j i' j' hi hj hi' hj',hc.at_ i j hi hj,hc.at_ i' j' hi' hj']
  omega
 constructor
 ·rw [← floorI_plan]
  unfold floorI floorV
  have hf : fullG (readG (nm g)) = true := by
   refine hN.full_of fun {i j i' j'} k l hi hi' hj hj' e h1 h2 h3 h4 => ?_
   rw [l1] at hi hi'
   rw [l2] at hj hj'
   rw [h.cell hi hj,h.cell hi' hj'] at e
   rw [h.cell (by omega) (by omega),h.cell hi hj]
   exact (hpat _ _ _ _ (by omega) (by omega) hi hj).2 (hr k l hi hi' hj hj' ((hpat _ _ _ _ hi hj hi' hj').1 e) h1 h2 h3 h4)
  rw [hN.okB (by rw [h.gP.2]; exact h9),hf,decide_eq_true hN.ht]
  rfl
 ·refine ⟨l1,l2,fun i j i' j' hi hj hi' hj' => ?_⟩
  rw [← hpat i j i' j' hi hj hi' hj',h.gP.1]
  have b1 := h.bound hi hj
  have b2 := h.bound hi' hj'
  unfold cn
  omega
theorem pig0 {σ : Nat → Nat} {n m : Nat} (h : ∀ a,a < n → σ a < m) (hi : ∀ a b,a < n → b < n → σ a = σ b → a = b) : n ≤ m := by
 have h1 : sN n (fun a => sN m fun b => b1 (decide (σ a = b))) = n := by
  have : sN n (fun a => sN m fun b => b1 (decide (σ a = b))) = sN n (fun _ => 1) := by
   refine sN_congr fun a ha => ?_
   have hs : ∀ {k : Nat} (v : Nat),v < k → sN k (fun b => b1 (decide (v = b))) = 1 := by
    intro k
    induction k with
    | zero => intro v hv; omega
    | succ k ih =>
     intro v hv
     unfold sN
     by_cases e : v = k
     ·subst e
      have hz : sN v (fun b => b1 (decide (v = b))) = 0 := by
       rw [← sN_zero v]
       exact sN_congr fun b hb => by rw [decide_eq_false (by omega)]; rfl
      rw [hz]; simp [b1]
     ·rw [ih v (by omega)]; simp [b1,e]
   exact hs _ (h a ha)
  rw [this,sN_one]
 rw [sN_swap] at h1
 have h2 : sN m (fun b => sN n fun a => b1 (decide (σ a = b))) ≤ sN m (fun _ => 1) :=
  sN_le fun b hb => sN_one_le fun r s hr hs e1 e2 => hi r s hr hs (by rw [of_decide_eq_true e1,of_decide_eq_true e2])
 rw [sN_one] at h2
 omega
theorem nm_settled {c : Nat → Nat → Nat} {g : List (List Int)} {H W : Nat} (hc : Cells c g H W) (h9 : (seRows g W H).2.length ≤ 9)
  (hr : ∀ {i j i' j' : Nat} (k l : Nat),i < H → i' < H → j < W → j' < W → c i j = c i' j' → min i i' ≤ k → k ≤ max i i' → min j j' ≤ l → l ≤ max j j' → c k l = c i j) : okS g = true ∧ fullG g = true := by
 have hpl := (nm_plan hc h9 hr).1
 have h : NmOk g H W := ⟨hc.gw,h9⟩
 have hz := hc.gw.zG
 have hf := plan_full hpl
 constructor
 ·unfold okS
  rw [hz.2]
  have : okG g = true := by rw [okG_iff,hc.gw.1,hc.gw.w0]; exact hc.gw
  rw [this]
  simpa using h9
 ·unfold fullG at hf ⊢
  have e1 : (stG (readG (nm g))).2 = (stG g).2 := by rw [hz.2]; exact h.gP.2
  rw [e1,readG_len,w0_read,h.hd.1,h.hd.2] at hf
  rw [hc.gw.1,hc.gw.w0]
  exact hf
theorem rooms_le9 {c : Nat → Nat → Nat} {g : List (List Int)} {H W n : Nat} (hc : Cells c g H W) (hn : ∀ i j,i < H → j < W → c i j < n) : (seRows g W H).2.length ≤ n := by
 have hi := SeInv.rows (g := g) (W := W) H
 rw [hi.len]
 have hk : ∀ m,m < (seRows g W H).1.length → ∃ i j,i < H ∧ j < W ∧ (seRows g W H).1[m]? = some ((c i j : Nat) : Int) := by
  intro m hm
  obtain ⟨v,hv,-⟩ := get_of hm
  obtain ⟨b,hb,-⟩ := get_of (show m < (seRows g W H).2.length by rw [hi.len]; exact hm)
  obtain ⟨i,j,⟨hz,hj,hij⟩,-⟩ := (hi.hull m v b hv hb).at_
  have hi2 : i < H := by omega
  exact ⟨i,j,hi2,hj,by rw [hv,← hz,hc.at_ i j hi2 hj]⟩
 have key := pig0 (σ := fun m => ((seRows g W H).1[m]?.getD 0).toNat) (n := (seRows g W H).1.length) (m := n) (fun m hm => by
  obtain ⟨i,j,q1,q2,q3⟩ := hk m hm
  have := hn i j q1 q2
  simp only [q3,Option.getD_some,Int.toNat_natCast]
  exact this) (fun a b ha hb e => by
  obtain ⟨i,j,q1,q2,q3⟩ := hk a ha
  obtain ⟨i',j',r1,r2,r3⟩ := hk b hb
  simp only [q3,r3,Option.getD_some,Int.toNat_natCast] at e
  exact nodup_one hi.nd q3 (by rw [r3,e]))
 exact key
section
theorem pig {σ : Nat → Nat} {n m : Nat} (h : ∀ a,a < n → σ a < m) (hi : ∀ a b,a < n → b < n → σ a = σ b → a = b) : n ≤ m := pig0 h hi
variable {c c' : Nat → Nat → Nat} {H W : Nat}
theorem Pl.ren (h : Pl c H W) (hp : ∀ i j i' j',i < H → j < W → i' < H → j' < W → (c' i j = c' i' j' ↔ c i j = c i' j')) : Pl c' H W := by
 refine ⟨fun {i j i' j'} k l h1 h2 h3 h4 h5 h6 h7 h8 h9 => ?_,fun {i j} h1 h2 h3 h4 h5 => ?_⟩
 ·exact (hp _ _ _ _ (by omega) (by omega) h1 h3).2 (h.rect k l h1 h2 h3 h4 ((hp _ _ _ _ h1 h3 h2 h4).1 h5) h6 h7 h8 h9)
 ·refine (hp _ _ _ _ (by omega) h2 h1 h2).2 (h.plain h1 h2 (fun e => h3 ?_) (fun e => h4 ?_) fun e => h5 ?_)
  ·exact (hp _ _ _ _ (by omega) (by omega) (by omega) h2).2 e
  ·exact (hp _ _ _ _ h1 (by omega) h1 h2).2 e
  ·exact (hp _ _ _ _ (by omega) (by omega) h1 (by omega)).2 e
theorem ptsRowG_no {g : List (List Int)} {i : Nat} : ∀ {w : Nat},(∀ k,1 ≤ k → k < w → dn (four g i k) ≠ 4) → ptsRowG g 4 i w = 0
 | 0,_ => rfl
 | w + 1,h => by
  unfold ptsRowG
  rw [ptsRowG_no fun k h1 h2 => h k h1 (by omega)]
  by_cases e : 1 ≤ w
  ·have := h w e (by omega)
   rw [if_neg (by omega)]; rfl
  ·rw [if_neg (by omega)]; rfl
theorem ptsG_no {g : List (List Int)} {w : Nat} : ∀ {n : Nat},(∀ i k,1 ≤ i → i < n → 1 ≤ k → k < w → dn (four g i k) ≠ 4) → ptsG g 4 w n = 0
 | 0,_ => rfl
 | n + 1,h => by
  unfold ptsG
  rw [ptsG_no fun i k h1 h2 h3 h4 => h i k h1 (by omega) h3 h4]
  by_cases e : 1 ≤ n
  ·rw [if_pos e,ptsRowG_no fun k h1 h2 => h n k e (by omega) h1 h2]; rfl
  ·rw [if_neg e]; rfl
theorem dn_four {a b x d : Int} (h : dn [a,b,x,d] = 4) : a ≠ b ∧ a ≠ x ∧ x ≠ d ∧ b ≠ d := by
 unfold dn dn dn dn dn at h
 simp only [List.mem_cons,List.not_mem_nil,or_false,if_false] at h
 refine ⟨fun e => ?_,fun e => ?_,fun e => ?_,fun e => ?_⟩
 all_goals
  subst e
  simp at h
  repeat' split at h
  all_goals omega
theorem plain_of {t : List Txt} (ht : planB t = true) (h : Pl (cn (gP t)) t.length (hdRow t).length) : plainB t = true := by
 rw [← plainI_plain]
 unfold plainI
 rw [floorI_plan,ht,Bool.true_and,decide_eq_true_eq,w0_read]
 refine ptsG_no fun i k h1 h2 h3 h4 e => ?_
 obtain ⟨i,rfl⟩ : ∃ m,i = m + 1 := ⟨i - 1,by omega⟩
 obtain ⟨k,rfl⟩ : ∃ m,k = m + 1 := ⟨k - 1,by omega⟩
 obtain ⟨d1,d2,d3,d4⟩ := dn_four e
 simp only [Nat.add_sub_cancel] at d1 d2 d3 d4
 have hrm := gP_room (p := t)
 have n1 := (hrm.ne (i := i) (j := k) (i' := i) (j' := k + 1) (by omega) (by omega) (by omega) h4).1 d1
 have n2 := (hrm.ne (i := i) (j := k) (i' := i + 1) (j' := k) (by omega) (by omega) h2 (by omega)).1 d2
 have n3 := (hrm.ne (i := i + 1) (j := k) (i' := i + 1) (j' := k + 1) h2 (by omega) h2 h4).1 d3
 have n4 := (hrm.ne (i := i) (j := k + 1) (i' := i + 1) (j' := k + 1) (by omega) h4 h2 h4).1 d4
 exact n4 (h.plain h2 h4 n1 n3 n2)
theorem sig_ex (hp : ∀ i j i' j',i < H → j < W → i' < H → j' < W → (c' i j = c' i' j' ↔ c i j = c i' j')) : ∃ σ : Nat → Nat,∀ i j,i < H → j < W → c' i j = σ (c i j) := by
 refine ⟨fun v => @dite _ (∃ q : Nat × Nat,q.1 < H ∧ q.2 < W ∧ c q.1 q.2 = v) (Classical.propDecidable _) (fun h => c' h.choose.1 h.choose.2) fun _ => 0,fun i j hi hj => ?_⟩
 have hx : ∃ q : Nat × Nat,q.1 < H ∧ q.2 < W ∧ c q.1 q.2 = c i j := ⟨(i,j),hi,hj,rfl⟩
 simp only
 rw [dif_pos hx]
 obtain ⟨h1,h2,h3⟩ := hx.choose_spec
 exact ((hp _ _ _ _ h1 h2 hi hj).2 h3).symm
theorem DL.ren {σ : Nat → Nat} (hσ : ∀ i j,i < H → j < W → c' i j = σ (c i j)) (hp : ∀ i j i' j',i < H → j < W → i' < H → j' < W → (c' i j = c' i' j' ↔ c i j = c i' j')) {a b : Nat} (h : DL c H W a b) : DL c' H W (σ a) (σ b) := by
 obtain ⟨j,i1,i2,h1,h2,h3,run,rfl,rfl⟩ := h
 exact ⟨j,i1,i2,h1,h2,h3,fun r r1 r2 e => run r r1 r2 ((hp _ _ _ _ (by omega) (by omega) (by omega) h1).1 e),(hσ _ _ h2 (by omega)).symm,(hσ _ _ h3 h1).symm⟩
theorem DU.ren {σ : Nat → Nat} (hσ : ∀ i j,i < H → j < W → c' i j = σ (c i j)) (hp : ∀ i j i' j',i < H → j < W → i' < H → j' < W → (c' i j = c' i' j' ↔ c i j = c i' j')) {a b : Nat} (h : DU c H W a b) : DU c' H W (σ a) (σ b) := by
 obtain ⟨i,j1,j2,h1,h2,h3,run,rfl,rfl⟩ := h
 exact ⟨i,j1,j2,h1,h2,h3,fun r r1 r2 e => run r r1 r2 ((hp _ _ _ _ (by omega) (by omega) h1 (by omega)).1 e),(hσ _ _ (by omega) h2).symm,(hσ _ _ h1 h3).symm⟩
theorem TC.map {R S : Nat → Nat → Prop} {f : Nat → Nat} (h : ∀ a b,R a b → S (f a) (f b)) {a b : Nat} (k : TC R a b) : TC S (f a) (f b) := by
 induction k with
 | one k => exact .one (h _ _ k)
 | tail _ k ih => exact .tail ih (h _ _ k)
structure Iso (p t : List Txt) (L U : Nat → Nat → Prop) (σ : Nat → Nat) : Prop where
 pl : plainB t = true
 n : (rP t).length = (rP p).length
 lt : ∀ a,a < (rP p).length → σ a < (rP p).length
 inj : ∀ a b,a < (rP p).length → b < (rP p).length → σ a = σ b → a = b
 lf : ∀ a b,a < (rP p).length → b < (rP p).length → (Lf t (σ a) (σ b) ↔ L a b)
 ab : ∀ a b,a < (rP p).length → b < (rP p).length → (Ab t (σ a) (σ b) ↔ U a b)
theorem iso_of {p t : List Txt} (hlt : ∀ i j,i < H → j < W → c i j < (rP p).length) (hs : ∀ a,a < (rP p).length → ∃ i j,i < H ∧ j < W ∧ c i j = a) (hPl : Pl c H W) (ht : planB t = true) (hR : Ren c H W t) :
  ∃ σ : Nat → Nat,(∀ i j,i < H → j < W → cn (gP t) i j = σ (c i j)) ∧ Iso p t (TC (DL c H W)) (TC (DU c H W)) σ := by
 obtain ⟨l1,l2,hpat⟩ := hR
 have hpl : plainB t = true := plain_of ht (by rw [l1,l2]; exact hPl.ren hpat)
 obtain ⟨σ,hσ⟩ := sig_ex hpat
 obtain ⟨τ,hτ⟩ := sig_ex fun i j i' j' a b d e => (hpat i j i' j' a b d e).symm
 have hrm := gP_room (p := t)
 have hcl : ∀ i j,i < H → j < W → cn (gP t) i j < (rP t).length := fun i j hi hj => cn_lt hrm (by rw [l1]; exact hi) (by rw [l2]; exact hj)
 have hστ : ∀ a,a < (rP p).length → τ (σ a) = a ∧ σ a < (rP t).length := by
  intro a ha
  obtain ⟨i,j,hi,hj,rfl⟩ := hs a ha
  rw [← hσ i j hi hj,← hτ i j hi hj]
  exact ⟨rfl,hcl i j hi hj⟩
 have hτσ : ∀ b,b < (rP t).length → σ (τ b) = b ∧ τ b < (rP p).length := by
  intro b hb
  obtain ⟨i,j,hi,hj,rfl⟩ := room_cell hb
  rw [l1] at hi; rw [l2] at hj
  rw [← hτ i j hi hj,← hσ i j hi hj]
  exact ⟨rfl,hlt i j hi hj⟩
 have hn : (rP t).length = (rP p).length := by
  apply Nat.le_antisymm
  ·exact pig (fun b hb => (hτσ b hb).2) fun a b ha hb e => by rw [← (hτσ a ha).1,e,(hτσ b hb).1]
  ·exact pig (fun a ha => (hστ a ha).2) fun a b ha hb e => by rw [← (hστ a ha).1,e,(hστ b hb).1]
 refine ⟨σ,hσ,hpl,hn,fun a ha => by have := (hστ a ha).2; omega,fun a b ha hb e => by rw [← (hστ a ha).1,e,(hστ b hb).1],fun a b ha hb => ?_,fun a b ha hb => ?_⟩
 ·rw [Lf.iff (hστ a ha).2 (hστ b hb).2,l1,l2]
  constructor
  ·intro h
   have := TC.map (f := τ) (fun a b => DL.ren hτ fun i j i' j' q w e r => (hpat i j i' j' q w e r).symm) h
   rwa [(hστ a ha).1,(hστ b hb).1] at this
  ·exact TC.map (f := σ) fun a b => DL.ren hσ hpat
 ·rw [Ab.iff (hστ a ha).2 (hστ b hb).2,l1,l2]
  constructor
  ·intro h
   have := TC.map (f := τ) (fun a b => DU.ren hτ fun i j i' j' q w e r => (hpat i j i' j' q w e r).symm) h
   rwa [(hστ a ha).1,(hστ b hb).1] at this
  ·exact TC.map (f := σ) fun a b => DU.ren hσ hpat
theorem Iso.imp {p t : List Txt} {L U L' U' : Nat → Nat → Prop} {σ : Nat → Nat} (h : Iso p t L U σ) (hL : ∀ a b,a < (rP p).length → b < (rP p).length → (L a b ↔ L' a b)) (hU : ∀ a b,a < (rP p).length → b < (rP p).length → (U a b ↔ U' a b)) : Iso p t L' U' σ :=
 ⟨h.pl,h.n,h.lt,h.inj,fun a b ha hb => (h.lf a b ha hb).trans (hL a b ha hb),fun a b ha hb => (h.ab a b ha hb).trans (hU a b ha hb)⟩
structure Fold1 (f : Nat → Nat) (m n : Nat) : Prop where
 pos : 1 ≤ m
 z : f 0 = 0
 s : ∀ i,i + 1 < m → f (i + 1) = f i ∨ f (i + 1) = f i + 1
 e : f (m - 1) + 1 = n
theorem Fold1.mono {f : Nat → Nat} {m n : Nat} (h : Fold1 f m n) : ∀ {i j : Nat},i ≤ j → j < m → f i ≤ f j := by
 intro i j hij
 induction j with
 | zero => intro _; rw [show i = 0 by omega]; exact Nat.le_refl _
 | succ j ih =>
  intro hj
  by_cases e : i = j + 1
  ·subst e; exact Nat.le_refl _
  ·have h1 := ih (by omega) (by omega)
   have := h.s j hj
   omega
theorem Fold1.lt {f : Nat → Nat} {m n i : Nat} (h : Fold1 f m n) (hi : i < m) : f i < n := by
 have := h.mono (i := i) (j := m - 1) (by omega) (by have := h.pos; omega)
 have := h.e
 omega
theorem Fold1.mid {f : Nat → Nat} {m n i : Nat} (h : Fold1 f m n) {v : Nat} : ∀ {j : Nat},i ≤ j → j < m → f i ≤ v → v ≤ f j → ∃ r,i ≤ r ∧ r ≤ j ∧ f r = v := by
 intro j
 induction j with
 | zero => intro h1 h2 h3 h4; exact ⟨0,by omega,Nat.le_refl _,by rw [show i = 0 by omega] at h3; omega⟩
 | succ j ih =>
  intro h1 h2 h3 h4
  by_cases e : f (j + 1) = v
  ·exact ⟨j + 1,h1,Nat.le_refl _,e⟩
  ·by_cases e2 : i = j + 1
   ·subst e2; omega
   ·have := h.s j h2
    obtain ⟨r,r1,r2,r3⟩ := ih (by omega) (by omega) h3 (by omega)
    exact ⟨r,r1,by omega,r3⟩
theorem Fold1.last {f : Nat → Nat} {m n v : Nat} (h : Fold1 f m n) (hv : v + 1 < n) : ∃ r,r + 1 < m ∧ f r = v ∧ f (r + 1) = v + 1 := by
 have hp := h.pos
 have he := h.e
 obtain ⟨e,h1,h2,h3,h4⟩ := flip_of (P := fun r => f r ≤ v) (i := 0) (n := m - 1) (by omega) (by rw [h.z]; omega) (by omega)
 have := h.s e (by omega)
 exact ⟨e,by omega,by omega,by omega⟩
theorem DL.fold {f g : Nat → Nat} {H' W' : Nat} (hf : Fold1 f H H') (hg : Fold1 g W W') (hc : ∀ i j,i < H → j < W → c i j = c' (f i) (g j)) {a b : Nat} : DL c H W a b ↔ DL c' H' W' a b := by
 constructor
 ·rintro ⟨j,i1,i2,h1,h2,h3,run,rfl,rfl⟩
  have hgj : g (j + 1) = g j + 1 := by
   rcases hg.s j h1 with e | e
   ·have := run i1 (by omega) (by omega)
    rw [hc i1 j h2 (by omega),hc i1 (j + 1) h2 h1,e] at this
    exact absurd rfl this
   ·exact e
  have hlt := hg.lt h1
  refine ⟨g j,f i1,f i2,by omega,hf.lt h2,hf.lt h3,fun r r1 r2 => ?_,hc _ _ h2 (by omega),by rw [hc _ _ h3 h1,hgj]⟩
  have : ∃ r0,min i1 i2 ≤ r0 ∧ r0 ≤ max i1 i2 ∧ f r0 = r := by
   rcases Nat.le_total i1 i2 with q | q
   ·have := hf.mono q h3
    obtain ⟨r0,q1,q2,q3⟩ := hf.mid (v := r) q h3 (by omega) (by omega)
    exact ⟨r0,by omega,by omega,q3⟩
   ·have := hf.mono q h2
    obtain ⟨r0,q1,q2,q3⟩ := hf.mid (v := r) q h2 (by omega) (by omega)
    exact ⟨r0,by omega,by omega,q3⟩
  obtain ⟨r0,q1,q2,rfl⟩ := this
  have := run r0 q1 q2
  rw [hc r0 j (by omega) (by omega),hc r0 (j + 1) (by omega) h1,hgj] at this
  exact this
 ·rintro ⟨j,i1,i2,h1,h2,h3,run,rfl,rfl⟩
  obtain ⟨j0,k1,k2,k3⟩ := hg.last h1
  have hfe := hf.e
  have hfp := hf.pos
  obtain ⟨r1,-,q2,q3⟩ := hf.mid (i := 0) (j := H - 1) (v := i1) (by omega) (by omega) (by rw [hf.z]; omega) (by omega)
  obtain ⟨r2,-,q5,q6⟩ := hf.mid (i := 0) (j := H - 1) (v := i2) (by omega) (by omega) (by rw [hf.z]; omega) (by omega)
  refine ⟨j0,r1,r2,k1,by omega,by omega,fun r s1 s2 => ?_,by rw [hc _ _ (by omega) (by omega),q3,k2],by rw [hc _ _ (by omega) (by omega),q6,k3]⟩
  rw [hc r j0 (by omega) (by omega),hc r (j0 + 1) (by omega) k1,k2,k3]
  refine run (f r) ?_ ?_
  ·rcases Nat.le_total r1 r2 with q | q
   ·have := hf.mono (show r1 ≤ r by omega) (show r < H by omega); omega
   ·have := hf.mono (show r2 ≤ r by omega) (show r < H by omega); omega
  ·rcases Nat.le_total r1 r2 with q | q
   ·have := hf.mono (show r ≤ r2 by omega) (show r2 < H by omega); omega
   ·have := hf.mono (show r ≤ r1 by omega) (show r1 < H by omega); omega
theorem DU.fold {f g : Nat → Nat} {H' W' : Nat} (hf : Fold1 f H H') (hg : Fold1 g W W') (hc : ∀ i j,i < H → j < W → c i j = c' (f i) (g j)) {a b : Nat} : DU c H W a b ↔ DU c' H' W' a b :=
 DL.fold (c := tr c) (c' := tr c') hg hf fun i j hi hj => hc j i hj hi
theorem TC.iff {R S : Nat → Nat → Prop} (h : ∀ a b,R a b ↔ S a b) {a b : Nat} : TC R a b ↔ TC S a b := ⟨TC.mono fun a b => (h a b).1,TC.mono fun a b => (h a b).2⟩
end
section
theorem surj_of {σ : Nat → Nat} {n : Nat} (h : ∀ a,a < n → σ a < n) (hi : ∀ a b,a < n → b < n → σ a = σ b → a = b) {v : Nat} (hv : v < n) : ∃ a,a < n ∧ σ a = v := by
 refine Classical.byContradiction fun hno => ?_
 have hno' : ∀ a,a < n → σ a ≠ v := fun a ha e => hno ⟨a,ha,e⟩
 have := pig (σ := fun a => if σ a < v then σ a else σ a - 1) (n := n) (m := n - 1) (fun a ha => by
  have h1 := h a ha
  have h2 := hno' a ha
  split <;> omega) (fun a b ha hb e => by
  have h2 := hno' a ha
  have h3 := hno' b hb
  refine hi a b ha hb ?_
  split at e <;> split at e <;> omega)
 omega
theorem rank_eq {f g : Nat → Nat} {n : Nat} (f1 : ∀ a,a < n → f a < n) (f2 : ∀ a b,a < n → b < n → f a = f b → a = b) (g1 : ∀ a,a < n → g a < n) (g2 : ∀ a b,a < n → b < n → g a = g b → a = b)
  (h : ∀ a b,a < n → b < n → (f a < f b ↔ g a < g b)) : ∀ a,a < n → f a = g a := by
 have key : ∀ v a,a < n → f a = v → g a = v := by
  intro v
  induction v using Nat.strongRecOn with
  | _ v ih =>
   intro a ha e
   have hga := g1 a ha
   have hfa := f1 a ha
   rcases Nat.lt_trichotomy (g a) v with q | q | q
   ·obtain ⟨b,hb,e2⟩ := surj_of f1 f2 (v := g a) hga
    have e3 := ih (g a) q b hb e2
    have := g2 b a hb ha e3
    subst this; omega
   ·exact q
   ·obtain ⟨d,hd,e2⟩ := surj_of g1 g2 (v := v) (by omega)
    have h1 := (h d a hd ha).2 (by omega)
    have := ih (f d) (by omega) d hd rfl
    omega
 exact fun a ha => (key (f a) a ha rfl).symm
variable {p t : List Txt} {L U : Nat → Nat → Prop} {σ : Nat → Nat}
theorem bfK_iff {below : Bool} {a b : Nat} : bfK p below a b = true ↔ Lf p a b ∨ (if below then Ab p b a else Ab p a b) := by
 unfold bfK bf1 bf2 Lf Ab
 cases below <;> simp
theorem Iso.ah (h : Iso p t L U σ) (hp : plainB p = true) {b1 b2 : Bool} (he : ∀ a b,a < (rP p).length → b < (rP p).length → (bfK t b1 (σ a) (σ b) = true ↔ bfK p b2 a b = true)) : ∀ a,a < (rP p).length → ahK t b1 (σ a) = ahK p b2 a := by
 refine rank_eq (n := (rP p).length) (f := fun a => ahK t b1 (σ a)) (g := ahK p b2) (fun a ha => ?_) (fun a b ha hb e => ?_) (fun a ha => ahK_lt hp ha) (fun a b ha hb e => ahK_inj hp ha hb e) fun a b ha hb => ?_
 ·have := ahK_lt (below := b1) h.pl (a := σ a) (by rw [h.n]; exact h.lt a ha)
  rwa [h.n] at this
 ·exact h.inj a b ha hb (ahK_inj h.pl (by rw [h.n]; exact h.lt a ha) (by rw [h.n]; exact h.lt b hb) e)
 ·rw [← ahK_iff h.pl (by rw [h.n]; exact h.lt a ha) (by rw [h.n]; exact h.lt b hb),he a b ha hb]
  exact ahK_iff hp ha hb
theorem permV_room (hp : plainB p = true) {a : Nat} (ha : a < (rP p).length) : (permV p)[ahK p true a]? = some ((ahK p false a : Nat) : Int) := permV_at hp (srt_at hp ha)
theorem rm_surj (hp : plainB p = true) {i : Nat} (hi : i < (rP p).length) : ∃ a,a < (rP p).length ∧ ahK p true a = i := by
 obtain ⟨a,h1,h2,-⟩ := srt_get (below := true) hp hi
 exact ⟨a,h1,h2⟩
theorem Iso.perm_same (h : Iso p t (Lf p) (Ab p) σ) (hp : plainB p = true) : permV t = permV p := by
 have e : ∀ b,∀ a,a < (rP p).length → ahK t b (σ a) = ahK p b a := fun b => h.ah hp fun x y hx hy => by
  rw [bfK_iff,bfK_iff,h.lf x y hx hy]
  cases b <;> simp [h.ab _ _ hx hy,h.ab _ _ hy hx]
 apply List.ext_getElem?
 intro i
 by_cases hi : i < (rP p).length
 ·obtain ⟨a,ha,rfl⟩ := rm_surj hp hi
  rw [permV_room hp ha,← e true a ha,permV_room h.pl (by rw [h.n]; exact h.lt a ha),e false a ha]
 ·rw [List.getElem?_eq_none (by rw [permV_len,h.n]; omega),List.getElem?_eq_none (by rw [permV_len]; omega)]
theorem iso_wide {c : Nat → Nat → Nat} {H W : Nat} {f g : Nat → Nat} (hf : Fold1 f H p.length) (hg : Fold1 g W (hdRow p).length) (hp : plainB p = true) (hc : ∀ i j,i < H → j < W → c i j = cn (gP p) (f i) (g j)) (hPl : Pl c H W) (ht : planB t = true) (hR : Ren c H W t) :
  ∃ σ : Nat → Nat,Iso p t (Lf p) (Ab p) σ := by
 obtain ⟨σ,h1,h2⟩ := iso_of (p := p) (fun i j hi hj => by rw [hc i j hi hj]; exact cn_lt gP_room (hf.lt hi) (hg.lt hj)) (fun a ha => by
  obtain ⟨i,j,hi,hj,e⟩ := room_cell ha
  have e1 := hf.e; have p1 := hf.pos; have e2 := hg.e; have p2 := hg.pos
  obtain ⟨r,-,r1,r2⟩ := hf.mid (i := 0) (j := H - 1) (v := i) (by omega) (by omega) (by rw [hf.z]; omega) (by omega)
  obtain ⟨s,-,s1,s2⟩ := hg.mid (i := 0) (j := W - 1) (v := j) (by omega) (by omega) (by rw [hg.z]; omega) (by omega)
  exact ⟨r,s,by omega,by omega,by rw [hc r s (by omega) (by omega),r2,s2]; exact e⟩) hPl ht hR
 exact ⟨σ,h2.imp (fun a b ha hb => by rw [Lf.iff ha hb]; exact TC.iff fun x y => DL.fold hf hg hc) fun a b ha hb => by rw [Ab.iff ha hb]; exact TC.iff fun x y => DU.fold hf hg hc⟩
theorem iso_tight {c : Nat → Nat → Nat} {H W : Nat} {f g : Nat → Nat} (hf : Fold1 f p.length H) (hg : Fold1 g (hdRow p).length W) (hp : plainB p = true) (hc : ∀ i j,i < p.length → j < (hdRow p).length → cn (gP p) i j = c (f i) (g j)) (hPl : Pl c H W) (ht : planB t = true) (hR : Ren c H W t) :
  ∃ σ : Nat → Nat,Iso p t (Lf p) (Ab p) σ := by
 have pre : ∀ {i j : Nat},i < H → j < W → ∃ r s,r < p.length ∧ s < (hdRow p).length ∧ f r = i ∧ g s = j := by
  intro i j hi hj
  have e1 := hf.e; have p1 := hf.pos; have e2 := hg.e; have p2 := hg.pos
  obtain ⟨r,-,r1,r2⟩ := hf.mid (i := 0) (j := p.length - 1) (v := i) (by omega) (by omega) (by rw [hf.z]; omega) (by omega)
  obtain ⟨s,-,s1,s2⟩ := hg.mid (i := 0) (j := (hdRow p).length - 1) (v := j) (by omega) (by omega) (by rw [hg.z]; omega) (by omega)
  exact ⟨r,s,by omega,by omega,r2,s2⟩
 obtain ⟨σ,h1,h2⟩ := iso_of (p := p) (fun i j hi hj => by
  obtain ⟨r,s,hr,hs,rfl,rfl⟩ := pre hi hj
  rw [← hc r s hr hs]; exact cn_lt gP_room hr hs) (fun a ha => by
  obtain ⟨i,j,hi,hj,e⟩ := room_cell ha
  exact ⟨f i,g j,hf.lt hi,hg.lt hj,by rw [← hc i j hi hj]; exact e⟩) hPl ht hR
 exact ⟨σ,h2.imp (fun a b ha hb => by rw [Lf.iff ha hb]; exact (TC.iff fun x y => DL.fold hf hg hc).symm) fun a b ha hb => by rw [Ab.iff ha hb]; exact (TC.iff fun x y => DU.fold hf hg hc).symm⟩
end
section
variable {c : Nat → Nat → Nat} {H W : Nat}
theorem DL.cols (h : Pl c H W) {i j i' j' : Nat} (hi : i < H) (hj : j < W) (hi' : i' < H) (hj' : j' < W) (hd : DL c H W (c i j) (c i' j')) : j < j' := by
 obtain ⟨k,i1,i2,h1,h2,h3,run,e1,e2⟩ := hd
 have a1 : j ≤ k := by
  refine Classical.byContradiction fun hn => ?_
  have := h.rect (i := i1) (j := k) (i' := i) (j' := j) i1 (k + 1) h2 hi (by omega) hj e1.symm (by omega) (by omega) (by omega) (by omega)
  exact run i1 (by omega) (by omega) this.symm
 have a2 : k + 1 ≤ j' := by
  refine Classical.byContradiction fun hn => ?_
  have := h.rect (i := i2) (j := k + 1) (i' := i') (j' := j') i2 k h3 hi' h1 hj' e2.symm (by omega) (by omega) (by omega) (by omega)
  exact run i2 (by omega) (by omega) this
 omega
theorem DL.cells {a b : Nat} (hd : DL c H W a b) : (∃ i j,i < H ∧ j < W ∧ c i j = a) ∧ ∃ i j,i < H ∧ j < W ∧ c i j = b := by
 obtain ⟨k,i1,i2,h1,h2,h3,run,e1,e2⟩ := hd
 exact ⟨⟨i1,k,h2,by omega,e1.symm⟩,i2,k + 1,h3,h1,e2.symm⟩
theorem TC.cols (h : Pl c H W) {a b : Nat} (hd : TC (DL c H W) a b) : ∀ {i j i' j' : Nat},i < H → j < W → i' < H → j' < W → c i j = a → c i' j' = b → j < j' := by
 induction hd with
 | one hd => intro i j i' j' h1 h2 h3 h4 e1 e2; subst e1; subst e2; exact hd.cols h h1 h2 h3 h4
 | tail _ hd ih =>
  intro i j i' j' h1 h2 h3 h4 e1 e2
  obtain ⟨⟨x,y,hx,hy,e3⟩,-⟩ := hd.cells
  have q1 := ih h1 h2 hx hy e1 e3
  subst e2; rw [← e3] at hd
  have q2 := hd.cols h hx hy h3 h4
  omega
variable {p : List Txt}
end
theorem crossed1_pc {g : List (List Int)} {nh nw : Nat} (hg : GW g nh nw) (rs : List Rect) {r c : Nat} (hr : r < nw) (hc : c < nh) : PC Tryz.prog 119 [.int .i64 r,.int .i64 c,.ip [eFloor g rs] 0] (.int .i64 (gz g c r)) true := by
 obtain ⟨row,hrow,hrl,hx⟩ := hg.at_ (i := c) (j := r) (by omega) (by omega)
 have hgl := hg.1
 refine PC.of ⟨Tryz.func119,by kernel_rfl,rfl,by kernel_rfl⟩ tabOk mixed (by show 3 ≤ Tryz.f119.ntmps; decide) ?_
 refine W.r fun K hK => ?_
 simp (disch := omega) only [↓RU,RV,RH,↓reduceIte,reduceEqDiff,reduceCtorEq,if_pos]
 refine hK _ _ ?_;clear hK K
 refine W.r fun K hK => ?_
 simp (disch := omega) only [↓RU,RV,RH,↓reduceIte,reduceEqDiff,reduceCtorEq,if_pos,↓RS,RG,reduceAdd,reduceMul,reduceLeDiff,ty1,ty3,tyLint,ty7,ty10,ty11,ty13,tyint,ty21,ty24,hrow,hx,hgl]
 refine hK _ _ ?_;clear hK K
 refine W.ret ?_
 refine Br rfl ?_
 rfl
theorem gplan_pc {g : List (List Int)} {nh nw : Nat} (hg : GW g nh nw) (hok : okS g = true) (hf : fullG g = true) : PC Tryz.prog 118 [eGrid g] (.tup [eStrs (nm g),.bool true]) false := by
 have hgl : g.length < 2147483648 := by have := hg.1; have := hg.2.2.2.1; omega
 have hgr : ∀ r ∈ g,r.length < 2147483648 := fun r hr => by have := hg.2.1 r hr; have := hg.2.2.2.2.2; omega
 have hz := zG_gw2 hg
 have hb : ∀ r ∈ zG g,∀ z ∈ r,0 ≤ z ∧ z ≤ 100 := by rw [hg.zG.1]; exact zRows_bound hg.2.2.2.2.2 hg.2.2.2.2.1 nh hg.2.2.2.1
 refine PC.of ⟨Tryz.func118,by kernel_rfl,rfl,by kernel_rfl⟩ tabOk mixed (by show 1 ≤ Tryz.f118.ntmps; decide) ?_
 refine W.r fun K hK => ?_
 simp (disch := omega) only [↓RU,RV,RH,↓reduceIte,reduceEqDiff,reduceCtorEq,if_pos,↓RS,RG,reduceAdd,reduceMul,reduceLeDiff]
 refine hK _ _ ?_;clear hK K
 refine W.r fun K hK => ?_
 simp (disch := omega) only [↓RU,RV,RH,↓reduceIte,reduceEqDiff,reduceCtorEq,if_pos,List.append_nil,↓RS,RG,reduceAdd,reduceMul,reduceLeDiff,hf]
 refine CallR.pc (settled_yes hgl hgr hok) rfl (.inr rfl) ?_
 simp (disch := omega) only [↓RU,RV,RH,↓reduceIte,reduceEqDiff,reduceCtorEq,if_pos,List.append_nil,↓RS,RG,reduceAdd,reduceMul,reduceLeDiff,hf]
 refine hK _ _ ?_;clear hK K
 refine W.seq ?_
 refine W.r fun K hK => ?_
 simp (disch := omega) only [↓RU,RV,RH,↓reduceIte,reduceEqDiff,reduceCtorEq,if_pos,↓RS,RG,reduceAdd,reduceMul,reduceLeDiff]
 refine hK _ _ ?_;clear hK K
 refine W.cond rfl (fun h => ?_) (fun h => ?_)
 ·try simp only [RL] at h
  exact absurd h (by simp)
 ·try simp only [RL] at h
  refine W.skip ?_
  refine xn ?_
  refine W.r fun K hK => ?_
  simp (disch := omega) only [↓RU,RV,RH,↓reduceIte,reduceEqDiff,reduceCtorEq,if_pos,List.append_nil,↓RS,RG,reduceAdd,reduceMul,reduceLeDiff]
  refine CallR.pc (text_pc hz (stG g).2 hb) rfl (.inl rfl) ?_
  simp (disch := omega) only [↓RU,RV,RH,↓reduceIte,reduceEqDiff,reduceCtorEq,if_pos,List.append_nil,↓RS,RG,reduceAdd,reduceMul,reduceLeDiff]
  refine hK _ _ ?_;clear hK K
  refine W.ret ?_
  refine Br rfl ?_
  rfl
theorem remade_pc {p : List Txt} (hs : Sm p) (hv : floorI p = true) {f : FuncId} {cap : List PV} (hc : ∀ (S : Store) (k : Nat),cap.mapM (reify S true (k + 1)) = some cap) {g : List (List Int)} {nh nw : Nat} (hg : GW g nh nw) (hok : okS g = true) (hf : fullG g = true) (hF : PC Tryz.prog f (eFloor (gP p) (rP p) :: cap) (eGrid g) false) : PC Tryz.prog 61 [eStrs p,.fn f cap] (.tup [eStrs (nm g),.bool true]) false := by
 obtain ⟨x,hx,hxy,hxr⟩ := floorOf_ex hs
 obtain rfl := hxy hv
 refine PC.of ⟨Tryz.func61,by kernel_rfl,rfl,by kernel_rfl⟩ tabOk mixed (by show 2 ≤ Tryz.f61.ntmps; decide) ?_
 refine W.r fun K hK => ?_
 simp (disch := omega) only [↓RU,RV,RH,↓reduceIte,reduceEqDiff,reduceCtorEq,if_pos,↓RS,RG,reduceAdd,reduceMul,reduceLeDiff]
 refine hK _ _ ?_;clear hK K
 refine W.r fun K hK => ?_
 simp (disch := omega) only [↓RU,RV,RH,↓reduceIte,reduceEqDiff,reduceCtorEq,if_pos,List.append_nil,↓RS,RG,reduceAdd,reduceMul,reduceLeDiff,hv]
 refine CallR.pc (hx) rfl (.inr rfl) ?_
 simp (disch := omega) only [↓RU,RV,RH,↓reduceIte,reduceEqDiff,reduceCtorEq,if_pos,List.append_nil,↓RS,RG,reduceAdd,reduceMul,reduceLeDiff,hv]
 refine hK _ _ ?_;clear hK K
 refine W.seq ?_
 refine W.r fun K hK => ?_
 simp (disch := omega) only [↓RU,RV,RH,↓reduceIte,reduceEqDiff,reduceCtorEq,if_pos,↓RS,RG,reduceAdd,reduceMul,reduceLeDiff]
 refine hK _ _ ?_;clear hK K
 refine W.cond rfl (fun h => ?_) (fun h => ?_)
 ·try simp only [RL] at h
  exact absurd h (by simp)
 ·try simp only [RL] at h
  refine W.skip ?_
  refine xn ?_
  refine W.r fun K hK => ?_
  simp (disch := omega) only [↓RU,RV,RH,↓reduceIte,reduceEqDiff,reduceCtorEq,if_pos,List.append_nil,↓RS,RG,reduceAdd,reduceMul,reduceLeDiff]
  refine CallR.pc (hF) (mapM_one rfl (hc _ 9)) (.inr (mapM_one rfl (hc _ 9))) ?_
  simp (disch := omega) only [↓RU,RV,RH,↓reduceIte,reduceEqDiff,reduceCtorEq,if_pos,List.append_nil,↓RS,RG,reduceAdd,reduceMul,reduceLeDiff]
  refine CallR.pc (gplan_pc hg hok hf) rfl (.inr rfl) ?_
  simp (disch := omega) only [↓RU,RV,RH,↓reduceIte,reduceEqDiff,reduceCtorEq,if_pos,List.append_nil,↓RS,RG,reduceAdd,reduceMul,reduceLeDiff]
  refine hK _ _ ?_;clear hK K
  refine W.ret ?_
  refine Br rfl ?_
  rfl
theorem bgT_gz {c : Nat → Nat → Int} {nw n i j : Nat} (hi : i < n) (hj : j < nw) : gz (bgT c nw n) i j = c i j := by
 simp [gz,bgT,hi,hj]
theorem bg_cells {c : Nat → Nat → Int} {c0 : Nat → Nat → Nat} {H W : Nat} (h1 : 1 ≤ H) (h2 : H ≤ 6) (h3 : 1 ≤ W) (h4 : W ≤ 6) (h : ∀ i j,i < H → j < W → c i j = ((c0 i j : Nat) : Int)) : Cells c0 (bgT c W H) H W := by
 refine ⟨⟨bgT_len,fun r hr => ?_,h1,h2,h3,h4⟩,fun i j hi hj => by rw [bgT_gz hi hj,h i j hi hj]⟩
 obtain ⟨a,-,rfl⟩ := List.mem_map.1 hr
 simp
structure Made (c : Nat → Nat → Nat) (H W : Nat) (g : List (List Int)) : Prop where
 gw : GW g H W
 ok : okS g = true
 full : fullG g = true
 plan : planB (nm g) = true
 ren : Ren c H W (nm g)
theorem made_of {c0 : Nat → Nat → Nat} {g : List (List Int)} {H W n : Nat} (hc : Cells c0 g H W) (hn : ∀ i j,i < H → j < W → c0 i j < n) (h9 : n ≤ 9) (hPl : Pl c0 H W) : Made c0 H W g := by
 have hle := rooms_le9 hc hn
 obtain ⟨h1,h2⟩ := nm_plan hc (by omega) hPl.rect
 obtain ⟨h3,h4⟩ := nm_settled hc (by omega) hPl.rect
 exact ⟨hc.gw,h3,h4,h1,h2⟩
theorem plain_dims {p : List Txt} (hp : plainB p = true) : 1 ≤ p.length ∧ p.length ≤ 6 ∧ 1 ≤ (hdRow p).length ∧ (hdRow p).length ≤ 6 ∧ GW (gP p) p.length (hdRow p).length ∧ floorI p = true ∧ (rP p).length ≤ 9 ∧ ∀ i j,i < p.length → j < (hdRow p).length → gz (gP p) i j = ((cn (gP p) i j : Nat) : Int) := by
 have hv : plainI p = true := by rw [plainI_plain]; exact hp
 have hok := (plain_okB hv).1
 have hg := okB_gw hok
 rw [w0_read] at hg
 have hg2 := hg
 obtain ⟨-,-,q3,q4,q5,q6⟩ := hg2
 refine ⟨q3,q4,q5,q6,hg,by rw [floorI_plan]; exact plain_plan hp,okB_rooms hok,fun i j hi hj => ?_⟩
 have := gP_room (p := p) i j hi hj
 unfold cn; omega
theorem Made.sm {c : Nat → Nat → Nat} {H W : Nat} {g : List (List Int)} (h : Made c H W g) : Sm (nm g) := Sm.grid (planB_grid h.plan)
theorem set_appR {f : List Int → PV} {l : List (List Int)} {x : PV} {a n : Nat} : (l.map f).take a ++ List.replicate n x ++ (l.map f).drop (a + n) = (l.take a).map f ++ List.replicate n x ++ (l.drop (a + n)).map f := by simp
theorem repz_nilR : ∀ (n : Nat),repz [PV.nils] n = List.replicate n PV.nils
 | 0 => rfl
 | n + 1 => by rw [repz_succ,repz_nilR n,List.replicate_succ]; rfl
theorem allc_nil {n : Nat} : allCells (List.replicate n PV.nils) = True := eq_true fun p hp => by obtain rfl := List.eq_of_mem_replicate hp; rfl
theorem set_eI {l : List (List Int)} {a : Nat} {m : List Int} : (l.map eInts).set a (eInts m) = (l.set a m).map eInts := by rw [List.map_set]
def putR (l : List (List Int)) (x : List Int) : List (List Int) := if l.getLast? = some x then l else l ++ [x]
theorem putR_len {l : List (List Int)} {x : List Int} : (putR l x).length ≤ l.length + 1 := by
 unfold putR; split <;> simp
def ddR (l : List (List Int)) : List (List Int) := l.foldl putR []
theorem ddR_succ {l : List (List Int)} {p : Nat} {x : List Int} (h : l[p]? = some x) : ddR (l.take (p + 1)) = putR (ddR (l.take p)) x := foldl_tk h
theorem putR_last (l : List (List Int)) (x : List Int) : (putR l x).getLast? = some x := by
 unfold putR; split
 ·assumption
 ·simp
theorem ddR_last {l : List (List Int)} {p : Nat} {y : List Int} (h : l[p]? = some y) : (ddR (l.take (p + 1))).getLast? = some y := by rw [ddR_succ h]; exact putR_last _ _
theorem ddR_same {l : List (List Int)} {p : Nat} {x y : List Int} (hp : 1 ≤ p) (h0 : l[p - 1]? = some y) (h : l[p]? = some x) (e : x = y) : ddR (l.take (p + 1)) = ddR (l.take p) := by
 have := ddR_last h0
 rw [show p - 1 + 1 = p by omega] at this
 rw [ddR_succ h,putR,this,e]; simp
theorem ddR_new {l : List (List Int)} {p : Nat} {x y : List Int} (hp : 1 ≤ p) (h0 : l[p - 1]? = some y) (h : l[p]? = some x) (e : ¬ x = y) : ddR (l.take (p + 1)) = ddR (l.take p) ++ [x] := by
 have := ddR_last h0
 rw [show p - 1 + 1 = p by omega] at this
 rw [ddR_succ h,putR,this,if_neg (by simpa using Ne.symm e)]
theorem ddR_one {l : List (List Int)} (h : 1 ≤ l.length) : ddR (l.take 1) = l.take 1 := by
 cases l with
 | nil => simp at h
 | cons a l => rfl
theorem ddR_short {l : List (List Int)} (h : l.length < 2) : ddR l = l := by
 match l,h with
 | [],_ => rfl
 | [a],_ => rfl
theorem ddR_len (l : List (List Int)) : (ddR l).length ≤ l.length := by
 unfold ddR
 have : ∀ (l m : List (List Int)),(l.foldl putR m).length ≤ m.length + l.length := by
  intro l
  induction l with
  | nil => intro m; simp
  | cons a l ih => intro m; have := ih (putR m a); have := putR_len (l := m) (x := a); simp only [List.foldl_cons,List.length_cons]; omega
 have := this l []
 simpa using this
structure DR (l c : List (List Int)) (k p : Nat) : Prop where
 len : c.length = l.length
 dk : (ddR (l.take p)).length = k
 hd : c.take k = ddR (l.take p)
 dr : c.drop (p - 1) = l.drop (p - 1)
 kp : k + 1 ≤ p
theorem DR.get {l c : List (List Int)} {k p j : Nat} (h : DR l c k p) (hj : p - 1 ≤ j) : c[j]? = l[j]? := by
 have := congrArg (fun x => x[j - (p - 1)]?) h.dr
 simp only [List.getElem?_drop] at this
 rwa [show p - 1 + (j - (p - 1)) = j by omega] at this
theorem DR.first {l : List (List Int)} {k : Nat} {x y : List Int} (h1 : 1 ≤ k) (hd : ddR (l.take k) = l.take k) (hy : l[k - 1]? = some y) (hx : l[k]? = some x) (e : x = y) : DR l l k (k + 1) := by
 have hk := len_of hx
 refine ⟨rfl,?_,?_,rfl,Nat.le_refl _⟩
 ·rw [ddR_same h1 hy hx e,hd,List.length_take]; omega
 ·rw [ddR_same h1 hy hx e,hd]
theorem DR.same {l c : List (List Int)} {k p : Nat} {x y : List Int} (h : DR l c k p) (h1 : 1 ≤ p) (hy : l[p - 1]? = some y) (hx : l[p]? = some x) (e : x = y) : DR l c k (p + 1) := by
 refine ⟨h.len,?_,?_,?_,by have := h.kp; omega⟩
 ·rw [ddR_same h1 hy hx e]; exact h.dk
 ·rw [ddR_same h1 hy hx e]; exact h.hd
 ·have := congrArg (List.drop 1) h.dr
  rw [List.drop_drop,List.drop_drop] at this
  rwa [show p - 1 + 1 = p by omega] at this
theorem DR.new {l c : List (List Int)} {k p : Nat} {x y : List Int} (h : DR l c k p) (h1 : 1 ≤ p) (hy : l[p - 1]? = some y) (hx : l[p]? = some x) (e : ¬ x = y) : DR l (c.set k x) (k + 1) (p + 1) := by
 have hp := len_of hx
 have hk := h.kp
 have hl := h.len
 refine ⟨by simpa using hl,?_,?_,?_,by omega⟩
 ·rw [ddR_new h1 hy hx e,List.length_append,h.dk]; rfl
 ·rw [ddR_new h1 hy hx e,← h.hd]
  have : (c.set k x)[k]? = some x := by rw [List.getElem?_set]; simp; omega
  rw [tk this,List.take_set_of_le (Nat.le_refl _)]
 ·rw [Nat.add_sub_cancel,List.drop_set_of_lt (by omega)]
  have := congrArg (List.drop 1) h.dr
  rw [List.drop_drop,List.drop_drop] at this
  rwa [show p - 1 + 1 = p by omega] at this
section
variable {c c' : Nat → Nat → Nat} {H W H' W' : Nat} {f g : Nat → Nat}
theorem Pl.unfold (hf : Fold1 f H H') (hg : Fold1 g W W') (hc : ∀ i j,i < H → j < W → c i j = c' (f i) (g j)) (h : Pl c' H' W') : Pl c H W := by
 refine ⟨?_,?_⟩
 ·intro i j i' j' k l hi hi' hj hj' e h1 h2 h3 h4
  rw [hc i j hi hj,hc i' j' hi' hj'] at e
  rw [hc k l (by omega) (by omega),hc i j hi hj]
  have a : ∀ {x y : Nat},x ≤ y → y < H → f x ≤ f y := fun h1 h2 => hf.mono h1 h2
  have b : ∀ {x y : Nat},x ≤ y → y < W → g x ≤ g y := fun h1 h2 => hg.mono h1 h2
  refine h.rect (f k) (g l) (hf.lt hi) (hf.lt hi') (hg.lt hj) (hg.lt hj') e ?_ ?_ ?_ ?_
  ·rcases Nat.le_total i i' with q | q
   ·have := a (show i ≤ k by omega) (by omega); omega
   ·have := a (show i' ≤ k by omega) (by omega); omega
  ·rcases Nat.le_total i i' with q | q
   ·have := a (show k ≤ i' by omega) hi'; omega
   ·have := a (show k ≤ i by omega) hi; omega
  ·rcases Nat.le_total j j' with q | q
   ·have := b (show j ≤ l by omega) (by omega); omega
   ·have := b (show j' ≤ l by omega) (by omega); omega
  ·rcases Nat.le_total j j' with q | q
   ·have := b (show l ≤ j' by omega) hj'; omega
   ·have := b (show l ≤ j by omega) hj; omega
 ·intro i j hi hj n1 n2 n3
  rw [hc i j (by omega) (by omega),hc i (j + 1) (by omega) hj] at n1
  rw [hc (i + 1) j hi (by omega),hc (i + 1) (j + 1) hi hj] at n2
  rw [hc i j (by omega) (by omega),hc (i + 1) j hi (by omega)] at n3
  rw [hc i (j + 1) (by omega) hj,hc (i + 1) (j + 1) hi hj]
  rcases hf.s i hi with ef | ef
  ·rw [ef] at n3; exact absurd rfl n3
  ·rcases hg.s j hj with eg | eg
   ·rw [eg] at n1; exact absurd rfl n1
   ·have l1 := hf.lt hi; have l2 := hg.lt hj
    rw [ef] at l1 n2 n3 ⊢
    rw [eg] at l2 n1 n2 ⊢
    exact h.plain l1 l2 n1 n2 n3
theorem Fold1.rep (h : Fold1 f H H') : ∃ r : Nat → Nat,(∀ i,i < H' → r i < H ∧ f (r i) = i) ∧ (∀ i j,i ≤ j → j < H' → r i ≤ r j) ∧ ∀ i,i + 1 < H' → 1 ≤ r (i + 1) ∧ f (r (i + 1) - 1) = i := by
 have hp := h.pos
 have he := h.e
 have ex : ∀ i,i < H' → ∃ m,m < H ∧ f m = i ∧ ∀ k,k < m → f k < i := by
  intro i hi
  obtain ⟨r,-,r1,r2⟩ := h.mid (i := 0) (j := H - 1) (v := i) (by omega) (by omega) (by rw [h.z]; omega) (by omega)
  obtain ⟨m,m1,m2,m3⟩ := least_of (P := fun k => f k = i) r2
  refine ⟨m,by omega,m2,fun k hk => ?_⟩
  have := h.mono (i := k) (j := m) (by omega) (by omega)
  have := m3 k hk
  omega
 refine ⟨fun i => if hi : i < H' then (ex i hi).choose else 0,?_,?_,?_⟩
 ·intro i hi
  simp only [hi,dif_pos]
  exact ⟨(ex i hi).choose_spec.1,(ex i hi).choose_spec.2.1⟩
 ·intro i j hij hj
  have hi : i < H' := by omega
  simp only [hi,hj,dif_pos]
  obtain ⟨a1,a2,a3⟩ := (ex i hi).choose_spec
  obtain ⟨b1,b2,b3⟩ := (ex j hj).choose_spec
  rcases Nat.lt_or_ge (ex j hj).choose (ex i hi).choose with q | q
  ·have := a3 _ q; omega
  ·exact q
 ·intro i hi
  simp only [hi,dif_pos]
  obtain ⟨b1,b2,b3⟩ := (ex (i + 1) hi).choose_spec
  have h1 : 1 ≤ (ex (i + 1) hi).choose := by
   rcases Nat.eq_zero_or_pos (ex (i + 1) hi).choose with q | q
   ·rw [q,h.z] at b2; omega
   ·exact q
  refine ⟨h1,?_⟩
  have q1 := b3 ((ex (i + 1) hi).choose - 1) (by omega)
  have q2 := h.s ((ex (i + 1) hi).choose - 1) (by omega)
  rw [show (ex (i + 1) hi).choose - 1 + 1 = (ex (i + 1) hi).choose by omega] at q2
  omega
theorem Pl.fold (hf : Fold1 f H H') (hg : Fold1 g W W') (hc : ∀ i j,i < H → j < W → c i j = c' (f i) (g j)) (h : Pl c H W) : Pl c' H' W' := by
 obtain ⟨r,r1,r2,r3⟩ := hf.rep
 obtain ⟨s,s1,s2,s3⟩ := hg.rep
 have hcc : ∀ i j,i < H' → j < W' → c' i j = c (r i) (s j) := fun i j hi hj => by rw [hc _ _ (r1 i hi).1 (s1 j hj).1,(r1 i hi).2,(s1 j hj).2]
 refine ⟨?_,?_⟩
 ·intro i j i' j' k l hi hi' hj hj' e h1 h2 h3 h4
  rw [hcc i j hi hj,hcc i' j' hi' hj'] at e
  rw [hcc k l (by omega) (by omega),hcc i j hi hj]
  refine h.rect (r k) (s l) (r1 i hi).1 (r1 i' hi').1 (s1 j hj).1 (s1 j' hj').1 e ?_ ?_ ?_ ?_
  ·rcases Nat.le_total i i' with q | q
   ·have := r2 i k (by omega) (by omega); omega
   ·have := r2 i' k (by omega) (by omega); omega
  ·rcases Nat.le_total i i' with q | q
   ·have := r2 k i' (by omega) hi'; omega
   ·have := r2 k i (by omega) hi; omega
  ·rcases Nat.le_total j j' with q | q
   ·have := s2 j l (by omega) (by omega); omega
   ·have := s2 j' l (by omega) (by omega); omega
  ·rcases Nat.le_total j j' with q | q
   ·have := s2 l j' (by omega) hj'; omega
   ·have := s2 l j (by omega) hj; omega
 ·intro i j hi hj n1 n2 n3
  obtain ⟨a1,a2⟩ := r3 i hi
  obtain ⟨b1,b2⟩ := s3 j hj
  have ra := (r1 (i + 1) hi)
  have sb := (s1 (j + 1) hj)
  have v00 : c' i j = c (r (i + 1) - 1) (s (j + 1) - 1) := by rw [hc _ _ (by omega) (by omega),a2,b2]
  have v01 : c' i (j + 1) = c (r (i + 1) - 1) (s (j + 1)) := by rw [hc _ _ (by omega) (by omega),a2,sb.2]
  have v10 : c' (i + 1) j = c (r (i + 1)) (s (j + 1) - 1) := by rw [hc _ _ (by omega) (by omega),ra.2,b2]
  have v11 : c' (i + 1) (j + 1) = c (r (i + 1)) (s (j + 1)) := by rw [hc _ _ (by omega) (by omega),ra.2,sb.2]
  rw [v00,v01] at n1
  rw [v10,v11] at n2
  rw [v00,v10] at n3
  rw [v01,v11]
  have := h.plain (i := r (i + 1) - 1) (j := s (j + 1) - 1) (by omega) (by omega)
  rw [show r (i + 1) - 1 + 1 = r (i + 1) by omega,show s (j + 1) - 1 + 1 = s (j + 1) by omega] at this
  exact this n1 n2 n3
theorem fold_half {n : Nat} (h : 1 ≤ n) : Fold1 (· / 2) (2 * n) n := ⟨by omega,rfl,fun i _ => by omega,by omega⟩
def keptN (k : Nat → Bool) (i : Nat) : List Nat := (List.range i).filter k
def foldK (k : Nat → Bool) (i : Nat) : Nat := (keptN k (i + 1)).length - 1
theorem keptN_succ {k : Nat → Bool} {i : Nat} : keptN k (i + 1) = keptN k i ++ if k i then [i] else [] := by
 unfold keptN; rw [List.range_succ,List.filter_append]; cases h : k i <;> simp [h]
theorem keptN_pre {k : Nat → Bool} {i : Nat} : ∀ {j : Nat},i ≤ j → ∃ z,keptN k j = keptN k i ++ z
 | 0,h => ⟨[],by rw [show i = 0 by omega]; simp⟩
 | j + 1,h => by
  by_cases e : i = j + 1
  ·subst e; exact ⟨[],by simp⟩
  ·obtain ⟨z,hz⟩ := keptN_pre (k := k) (i := i) (j := j) (by omega)
   exact ⟨z ++ if k j then [j] else [],by rw [keptN_succ,hz,List.append_assoc]⟩
theorem keptN_pos {k : Nat → Bool} (h0 : k 0 = true) {i : Nat} (h : 1 ≤ i) : 1 ≤ (keptN k i).length := by
 obtain ⟨z,hz⟩ := keptN_pre (k := k) (i := 1) (j := i) h
 rw [hz,show keptN k 1 = [0] by simp [keptN,List.range_succ,h0]]; simp
theorem foldK_fold {k : Nat → Bool} (h0 : k 0 = true) {n : Nat} (h : 1 ≤ n) : Fold1 (foldK k) n (keptN k n).length := by
 refine ⟨h,?_,fun i _ => ?_,?_⟩
 ·unfold foldK; rw [show keptN k (0 + 1) = [0] by simp [keptN,List.range_succ,h0]]; rfl
 ·have := keptN_pos h0 (show 1 ≤ i + 1 by omega)
  unfold foldK
  rw [keptN_succ (i := i + 1),List.length_append]
  cases k (i + 1) <;> simp <;> omega
 ·have := keptN_pos h0 h
  unfold foldK
  rw [show n - 1 + 1 = n by omega]; omega
theorem foldK_at {k : Nat → Bool} (h0 : k 0 = true) {n : Nat} {α : Type} {v : Nat → α} (hv : ∀ j,1 ≤ j → j < n → k j = false → v j = v (j - 1)) : ∀ {j : Nat},j < n → ∃ q,(keptN k n)[foldK k j]? = some q ∧ v q = v j ∧ q < n := by
 have key : ∀ j,j < n → ∃ q,(keptN k (j + 1)).getLast? = some q ∧ v q = v j ∧ q < n := by
  intro j
  induction j with
  | zero => intro hj; exact ⟨0,by rw [show keptN k (0 + 1) = [0] by simp [keptN,List.range_succ,h0]]; rfl,rfl,hj⟩
  | succ j ih =>
   intro hj
   rw [keptN_succ (i := j + 1)]
   cases e : k (j + 1) with
   | true => exact ⟨j + 1,by simp,rfl,hj⟩
   | false =>
    obtain ⟨q,q1,q2,q3⟩ := ih (by omega)
    refine ⟨q,by simpa using q1,?_,q3⟩
    rw [hv (j + 1) (by omega) hj e]; exact q2
 intro j hj
 obtain ⟨q,q1,q2,q3⟩ := key j hj
 refine ⟨q,?_,q2,q3⟩
 obtain ⟨z,hz⟩ := keptN_pre (k := k) (i := j + 1) (j := n) (by omega)
 have hl := keptN_pos h0 (show 1 ≤ j + 1 by omega)
 rw [hz]
 unfold foldK
 rw [List.getElem?_append_left (by omega),← List.getLast?_eq_getElem?]
 exact q1
theorem ddR_pre {l : List (List Int)} {i : Nat} : ∀ {j : Nat},i ≤ j → j ≤ l.length → ∃ z,ddR (l.take j) = ddR (l.take i) ++ z
 | 0,h,_ => ⟨[],by rw [show i = 0 by omega]; simp⟩
 | j + 1,h,hj => by
  by_cases e : i = j + 1
  ·subst e; exact ⟨[],by simp⟩
  ·obtain ⟨z,hz⟩ := ddR_pre (l := l) (i := i) (j := j) (by omega) (by omega)
   obtain ⟨x,hx,-⟩ := get_of (show j < l.length by omega)
   rw [ddR_succ hx,hz]
   unfold putR
   split
   ·exact ⟨z,rfl⟩
   ·exact ⟨z ++ [x],by rw [List.append_assoc]⟩
def foldR (l : List (List Int)) (i : Nat) : Nat := (ddR (l.take (i + 1))).length - 1
theorem ddR_pos {l : List (List Int)} {i : Nat} (h : 1 ≤ i) (hi : i ≤ l.length) : 1 ≤ (ddR (l.take i)).length := by
 obtain ⟨z,hz⟩ := ddR_pre (l := l) (i := 1) (j := i) h hi
 rw [hz,ddR_one (by omega),List.length_append,List.length_take]; omega
theorem foldR_fold {l : List (List Int)} (h : 1 ≤ l.length) : Fold1 (foldR l) l.length (ddR l).length := by
 refine ⟨h,?_,fun i hi => ?_,?_⟩
 ·unfold foldR; rw [ddR_one h,List.length_take]; omega
 ·have h1 := ddR_pos (l := l) (show 1 ≤ i + 1 by omega) (by omega)
  obtain ⟨x,hx,-⟩ := get_of (show i + 1 < l.length by omega)
  unfold foldR
  rw [ddR_succ hx]
  unfold putR
  split
  ·exact .inl rfl
  ·right; rw [List.length_append]; simp; omega
 ·have h1 := ddR_pos (l := l) h (Nat.le_refl _)
  unfold foldR
  rw [show l.length - 1 + 1 = l.length by omega]
  rw [List.take_length] at h1 ⊢; omega
theorem foldR_at {l : List (List Int)} {i : Nat} {x : List Int} (hx : l[i]? = some x) : (ddR l)[foldR l i]? = some x := by
 have hi := len_of hx
 have h1 := ddR_pos (l := l) (show 1 ≤ i + 1 by omega) (by omega)
 obtain ⟨z,hz⟩ := ddR_pre (l := l) (i := i + 1) (j := l.length) (by omega) (Nat.le_refl _)
 rw [List.take_length] at hz
 rw [hz]
 unfold foldR
 rw [List.getElem?_append_left (by omega),← List.getLast?_eq_getElem?]
 exact ddR_last hx
theorem ddR_sub {l : List (List Int)} : ∀ r ∈ ddR l,r ∈ l := by
 have key : ∀ i,i ≤ l.length → ∀ r ∈ ddR (l.take i),r ∈ l := by
  intro i
  induction i with
  | zero => intro _ r hr; simp [ddR] at hr
  | succ i ih =>
   intro hi r hr
   obtain ⟨x,hx,hxm⟩ := get_of (show i < l.length by omega)
   rw [ddR_succ hx] at hr
   unfold putR at hr
   split at hr
   ·exact ih (by omega) r hr
   ·rcases List.mem_append.1 hr with q | q
    ·exact ih (by omega) r q
    ·simp at q; subst q; exact hxm
 have := key l.length (Nat.le_refl _)
 rwa [List.take_length] at this
end
section
section
variable {P : Program} {T : Tab} {F : Nat → Prop} {G : GSt} {w : World} {e : Env} {a : Act} {F0 : Nat → Prop} {G0 : GSt} {w0 : World} {N : Nat}
theorem conv_new (hT : TabOk P T) (hi : Inv F G w) (he : EnvR w.heap F G e a) {o : Oper} {s d el : TypeId} {x : Operand} {str : List UInt8} (hop : o.op = .convert s d x) (hs : (T s).kd = .str) (hd : (T d).kd = .slice el) (hu8 : (T el).kd = .int .u8)
  (hx0 : e.ev x = .str str) (hlen63 : str.length ≤ 1048576) {K : PV → Store → Prop} (h : K (.loc G.er.obs.length G.er.tick 0 str.length) (G.er.push el 1 (str.map eB))) {next : Act → World → Prop} {Q : Exit → Act → World → Prop}
  (hk : Goes F G w K fun cv w' => next (a.put o.dst cv) w') : o.wp P a w next Q := by
 have hx := he.ev x
 rw [hx0] at hx
 obtain ⟨b,ex,hb⟩ := hx.str
 have hr : (execOp a.eval o).run P w = .ok (.value (.slice (some ⟨w.heap.size,0,none⟩) b.size (grownCap w b.size 0 el))) (Lib.bytesWorld w el b) := by
  simp only [execOp,hop,ex]
  rw [Sem.run_bind,Lib.run_convert_string_bytes w s d el b (kd_str hT hs) (kd_slice hT hd) (kd_int hT hu8)]
  rfl
 have hlen : str.length = b.size := by rw [← hb]; simp
 have hsz : (Lib.bytesWorld w el b).heap.size = w.heap.size + 1 := Lib.bytesWorld_size w el b
 have hge := grownCap_ge w b.size 0 el
 have hcs : (Lib.bytesCells w el b).size = grownCap w b.size 0 el := by
  simp [Lib.bytesCells]; omega
 have hpush : (Lib.bytesWorld w el b).heap = w.heap.push (.cells (Lib.bytesCells w el b) el ((Lib.bytesCells w el b).size,(Lib.bytesCells w el b).size + 1)) := by
  apply Array.ext_getElem?
  intro j
  rw [Array.getElem?_push]
  by_cases hj : j = w.heap.size
  ·subst hj; rw [if_pos rfl]; exact Lib.bytesWorld_at_new w el b
  ·rw [if_neg hj]
   by_cases hj2 : j < w.heap.size
   ·exact Lib.bytesWorld_at_old w el b j hj2
   ·rw [Array.getElem?_eq_none (by omega),Array.getElem?_eq_none (by omega)]
 obtain ⟨k1,k2⟩ := push_obj hi (.arr G.tick el 1 (str.map eB)) (Lib.bytesCells w el b).size (Lib.bytesWorld w el b) (w.drawn + 1) rfl (Nat.le_succ _) ⟨_,hpush⟩ rfl
  ⟨_,⟨_,Lib.bytesWorld_at_new w el b,.inr (Nat.le_refl _)⟩,rfl,by show (str.map eB).length ≤ (Lib.bytesCells w el b).size; rw [List.length_map,hcs]; omega,fun i p hp => by
   have hil : i < str.length := by have := (List.getElem?_eq_some_iff.1 hp).1; simpa using this
   rw [List.getElem?_map,List.getElem?_eq_getElem hil] at hp
   cases hp
   refine ⟨rfl,.int .u8 (str[i].toNat : Int),?_,.imm _ _ (.int _ _)⟩
   have := Lib.bytesWorld_cell w el b i (by omega)
   simp only [World.cell?,Lib.bytesWorld_at_new,Option.isSome_none,Bool.false_eq_true,if_false] at this
   rw [this,hb,List.getD_eq_getElem?_getD,List.getElem?_eq_getElem hil]
   rfl⟩
 unfold Oper.wp
 rw [hr]
 refine hk (.loc G.er.obs.length G.er.tick 0 str.length) _ _ _ _ (by rw [er_push]; exact h) k1 k2 ?_
 rw [hlen]
 exact new_loc (et := el) (sz := 1) (cells := str.map eB) (l := ⟨w.heap.size,(Lib.bytesCells w el b).size⟩) _ _ _ (by simp) (Nat.lt_succ_self _) rfl hge (grownCap_le_maxLen w _ _ _ (by unfold maxLen; omega)) (by rw [Nat.mul_one]; exact hcs.symm)
def pOpsT (P : Program) (T : Tab) (ops : Array Oper) (Q : Env → Store → Prop) : Nat → List Oper → Env → Store → Prop
 | _,[],e,S => Q e S
 | 0,o :: l,e,S => ∃ (s d el : TypeId) (x : Operand) (str : List UInt8),o.guard = none ∧ o.op = .convert s d x ∧ (T s).kd = .str ∧ (T d).kd = .slice el ∧ (T el).kd = .int .u8 ∧ e.ev x = .str str ∧ str.length ≤ 1048576 ∧
   pOps P T ops Q l (e.put o.dst (.loc S.obs.length S.tick 0 str.length)) (S.push el 1 (str.map eB))
 | k + 1,o :: l,e,S => o.guard = none ∧ pOp P T e S o.op fun v S' => pOpsT P T ops Q k l (e.put o.dst v) S'
theorem pOpsT_sound (hT : TabOk P T) {ops : Array Oper} {Q : Env → Store → Prop} : ∀ (k : Nat) (l : List Oper) {e : Env} {F : Nat → Prop} {G : GSt} {a : Act} {w : World},pOpsT P T ops Q k l e G.er → Inv F G w → EnvR w.heap F G e a →
  Next F0 G0 w0 F G w → a.tmps.size = N → a.defers = [] → (∀ o ∈ l,∀ d,o.dst = some d → d < N) → wpList P ops (Sto F0 G0 w0 N (Nrm Q)) l a w
 | _,[],e,F,G,a,w,h,hi,he,hn,hs,hd,_ => by
  have h' : Q e G.er := by unfold pOpsT at h; exact h
  exact ⟨e,F,G,h',hi,he,hn,hs,hd⟩
 | 0,o :: l,e,F,G,a,w,h,hi,he,hn,hs,hd,hdst => by
  have ho : ∀ t,o.dst = some t → t < a.tmps.size := fun t ht => by rw [hs]; exact hdst o (by simp) t ht
  have hl : ∀ o ∈ l,∀ d,o.dst = some d → d < N := fun o' h' => hdst o' (by simp [h'])
  unfold pOpsT at h
  obtain ⟨s,d,el,x,str,hg,hop,q1,q2,q3,q4,q5,h⟩ := h
  unfold wpList
  have hw : Region.wanted o (yielded ops a.tmps) = true := by unfold Region.wanted; rw [hg]
  rw [if_pos hw]
  refine .inl (conv_new hT hi he hop q1 q2 q3 q4 q5 (K := fun v S' => v = .loc G.er.obs.length G.er.tick 0 str.length ∧ S' = G.er.push el 1 (str.map eB)) ⟨rfl,rfl⟩ ?_)
  rintro v cv F' G' w' ⟨rfl,hE⟩ i1 i2 i3
  refine pOps_sound hT l (by rw [hE]; exact h) i1 ((he.next hi i2).put _ ho i3) (hn.trans i2) (by rw [put_size]; exact hs) (by rw [put_defers']; exact hd) hl
 | k + 1,o :: l,e,F,G,a,w,h,hi,he,hn,hs,hd,hdst => by
  have ho : ∀ t,o.dst = some t → t < a.tmps.size := fun t ht => by rw [hs]; exact hdst o (by simp) t ht
  have hl : ∀ o ∈ l,∀ d,o.dst = some d → d < N := fun o' h' => hdst o' (by simp [h'])
  unfold pOpsT at h
  obtain ⟨hg,h⟩ := h
  unfold wpList
  have hw : Region.wanted o (yielded ops a.tmps) = true := by unfold Region.wanted; rw [hg]
  rw [if_pos hw]
  refine .inl (op_sound hT hi he h ?_)
  intro v cv F' G' w' hK i1 i2 i3
  exact pOpsT_sound hT k l hK i1 ((he.next hi i2).put _ ho i3) (hn.trans i2) (by rw [put_size]; exact hs) (by rw [put_defers']; exact hd) hl
end
section
variable {P : Program} {T : Tab} {Q : Exit → Env → Store → Prop} {e : Env} {S : Store} {b : Code}
theorem W.region_t (k : Nat) {id : Nat} {ops : Array Oper} (h : pOpsT P T ops (Q .normal) k ops.toList e S) : W P T (.region id ops false) Q e S := by
 refine ⟨?_⟩
 intro hT hm F0 G0 w0 N F G a w h3 h4 h5 h6 h7 h8 h9
 subst h3
 refine wp_mono (wp_region_list (pOpsT_sound hT k _ h h4 h5 h6 h7 h8 (dst_all h9))) ?_
 exact nrm_le
def ThawR (P : Program) (T : Tab) (ds : List (Option Tmp)) (o : Oper) (l : List Oper) (e : Env) (S : Store) (K : Env → Store → Prop) : Prop :=
 ∃ (s d el : TypeId) (x : Operand) (str : List UInt8),o.guard = none ∧ o.op = .convert s d x ∧ (T s).kd = .str ∧ (T d).kd = .slice el ∧ (T el).kd = .int .u8 ∧ e.ev x = .str str ∧ str.length ≤ 1048576 ∧
  eRun false P T ds l (e.put o.dst (.loc S.obs.length S.tick 0 str.length)) (S.push el 1 (str.map eB)) K
theorem pOps_mono {ops : Array Oper} {K K' : Env → Store → Prop} (h : ∀ e S,K e S → K' e S) : ∀ (l : List Oper) {e : Env} {S : Store},pOps P T ops K l e S → pOps P T ops K' l e S
 | [],e,S,k => h e S k
 | o :: l,e,S,k => by
  unfold pOps pGuard at k ⊢
  cases hg : gdec ops o e with
  | none => rw [hg] at k; exact k.elim
  | some b =>
   rw [hg] at k
   cases b with
   | true => exact pOp_mono (fun v S' k => pOps_mono h l k) k
   | false => exact pOps_mono h l k
theorem pOps_thaw {ops : Array Oper} {K : Env → Store → Prop} {o : Oper} {l2 : List Oper} : ∀ (l1 : List Oper) {e : Env} {S : Store},l1.all (fun o => o.guard.isNone) = true →
  pOps P T ops (fun e S => ∃ (s d el : TypeId) (x : Operand) (str : List UInt8),o.guard = none ∧ o.op = .convert s d x ∧ (T s).kd = .str ∧ (T d).kd = .slice el ∧ (T el).kd = .int .u8 ∧ e.ev x = .str str ∧ str.length ≤ 1048576 ∧
   pOps P T ops K l2 (e.put o.dst (.loc S.obs.length S.tick 0 str.length)) (S.push el 1 (str.map eB))) l1 e S → pOpsT P T ops K l1.length (l1 ++ o :: l2) e S
 | [],e,S,_,h => h
 | q :: l1,e,S,hg,h => by
  simp only [List.all_cons,Bool.and_eq_true,Option.isNone_iff_eq_none] at hg
  show q.guard = none ∧ _
  refine ⟨hg.1,?_⟩
  unfold pOps pGuard gdec at h
  rw [hg.1] at h
  exact pOp_mono (fun v S' h => pOps_thaw l1 hg.2 h) h
theorem W.seq_thaw {id : Nat} {l1 l2 : List Oper} {o : Oper} (hg : l1.all (fun o => o.guard.isNone) = true) (h : ∀ K : Env → Store → Prop,(∀ e S,W P T b Q e S → K e S) → eRun false P T (dsts (l1 ++ o :: l2)) l1 e S fun e S => ThawR P T (dsts (l1 ++ o :: l2)) o l2 e S K) :
  W P T (.seq (.region id (l1 ++ o :: l2).toArray false) b) Q e S := by
 refine W.seq (W.region_t l1.length ?_)
 have h1 := eRun_pOps l1 e S (h _ fun _ _ h => h)
 refine pOps_thaw l1 hg (pOps_mono ?_ l1 h1)
 rintro e S ⟨s,d,el,x,str,q1,q2,q3,q4,q5,q6,q7,q8⟩
 exact ⟨s,d,el,x,str,q1,q2,q3,q4,q5,q6,q7,eRun_pOps l2 _ _ q8⟩
end
end
abbrev eBy (l : Txt) : PV := .sl (l.map eB) l.length
theorem tmod_nn {a b : Nat} : ((a : Nat) : Int).tmod ((b : Nat) : Int) = ((a % b : Nat) : Int) := (Int.ofNat_tmod a b).symm
theorem tdiv_nn {a b : Nat} : ((a : Nat) : Int).tdiv ((b : Nat) : Int) = ((a / b : Nat) : Int) := (Int.ofNat_tdiv a b).symm
theorem w_xor {a b : Nat} (ha : a < 1099511627776) (hb : b < 1099511627776) : IntKind.i64.wrap ((BitVec.ofInt IntKind.i64.bits (a : Int) ^^^ BitVec.ofInt IntKind.i64.bits (b : Int)).toNat : Int) = ((a ^^^ b : Nat) : Int) := by
 have h1 : (BitVec.ofInt 64 (a : Int)).toNat = a := by simp [BitVec.toNat_ofInt]; omega
 have h2 : (BitVec.ofInt 64 (b : Int)).toNat = b := by simp [BitVec.toNat_ofInt]; omega
 have h3 : (BitVec.ofInt IntKind.i64.bits (a : Int) ^^^ BitVec.ofInt IntKind.i64.bits (b : Int)).toNat = a ^^^ b := by
  show (BitVec.ofInt 64 (a : Int) ^^^ BitVec.ofInt 64 (b : Int)).toNat = _
  rw [BitVec.toNat_xor,h1,h2]
 have h4 : a ^^^ b < 1099511627776 := Nat.xor_lt_two_pow (n := 40) ha hb
 rw [h3]
 exact w64 (by omega) (by omega)
theorem tdiv64 {k : Nat} : ((k : Nat) : Int).tdiv 64 = ((k / 64 : Nat) : Int) := (Int.ofNat_tdiv k 64).symm
theorem sf0 : ((64 : Int) = 0) = False := by simp
def rdO (vr : Nat) (code : Txt) (q : Nat) : Ob := .arr vr 147 2 [eBy code,.int .i64 (q : Int)]
theorem l6Open_pn {code : Txt} (hc : code.length ≤ 1048576) : PN Tryz.prog 95 [eBy code] (.ref 0 0 0) [rdO 0 (code.take 2000) 0] true := by
 refine PN.of ⟨Tryz.func95,by kernel_rfl,rfl,by kernel_rfl⟩ tabOk mixed (by show 1 ≤ Tryz.f95.ntmps; decide) ?_
 refine W.r fun K hK => ?_
 simp (disch := omega) only [↓RU,RV,RH,↓reduceIte,reduceEqDiff,reduceCtorEq,if_pos,↓RS,RG,reduceAdd,reduceMul,reduceLeDiff]
 refine hK _ _ ?_;clear hK K
 refine W.seq ?_
 refine W.r fun K hK => ?_
 simp (disch := omega) only [↓RU,RV,RH,↓reduceIte,reduceEqDiff,reduceCtorEq,if_pos,w64,↓RS,RG,reduceAdd,reduceMul,reduceLeDiff,ty6,tyint,ty26]
 refine hK _ _ ?_;clear hK K
 refine W.cond rfl (fun h => ?_) (fun h => ?_)
 ·try simp only [RL] at h
  refine W.k fun K hK => ?_
  simp (disch := omega) only [↓RU,RV,RH,↓reduceIte,reduceEqDiff,reduceCtorEq,if_pos,Option.map_none,↓RS,RG,reduceAdd,reduceMul,reduceLeDiff,ty6,ty26]
  refine hK _ _ ?_;clear hK K
  refine xn ?_
  refine W.r fun K hK => ?_
  simp (disch := omega) only [↓RU,RV,RH,↓reduceIte,reduceEqDiff,reduceCtorEq,if_pos,↓RS,RG,reduceAdd,reduceMul,reduceLeDiff,ty6,tyint,ty17,ty20,ty26]
  refine hK _ _ ?_;clear hK K
  refine W.ret ?_
  refine Br rfl ?_
  have e : (code.take 2000).length = 2000 := by rw [List.length_take]; omega
  refine ⟨1,rfl,?_⟩
  simp [Store.take,shObs,shOb,sh,rdO,eBy,e,List.map_take]
 ·try simp only [RL] at h
  refine W.skip ?_
  refine xn ?_
  refine W.r fun K hK => ?_
  simp (disch := omega) only [↓RU,RV,RH,↓reduceIte,reduceEqDiff,reduceCtorEq,if_pos,↓RS,RG,reduceAdd,reduceMul,reduceLeDiff,ty6,tyint,ty17,ty20,ty26]
  refine hK _ _ ?_;clear hK K
  refine W.ret ?_
  refine Br rfl ?_
  have e : code.take 2000 = code := List.take_of_length_le (by omega)
  refine ⟨1,rfl,?_⟩
  simp [Store.take,shObs,shOb,sh,rdO,eBy,e]
theorem pick_ev0 {code : Txt} {q vr t : Nat} {R : List Ob} (hc : code.length ≤ 1048576) (hq : q ≤ 1000000) (n : Int) (hn : n ≤ 1000000) (hn0 : -1000000 ≤ n) : Ev Tryz.prog 98 [.ref 0 vr 0,.int .i64 n] ⟨.arr vr 147 2 [eBy code,.int .i64 (q : Int)] :: R,t⟩ fun v S => ∃ k : Nat,v = .int .i64 (k : Int) ∧ (n < 1 → k = 0) ∧ (1 ≤ n → (k : Int) < n) ∧ S = ⟨.arr vr 147 2 [eBy code,.int .i64 ((q : Int) + 1)] :: R,t⟩ := by
 refine Ev.of ⟨Tryz.func98,by kernel_rfl,rfl,by kernel_rfl⟩ tabOk mixed (by show 2 ≤ Tryz.f98.ntmps; decide) ?_
 refine W.r fun K hK => ?_
 simp (disch := omega) only [↓RU,RV,RH,↓reduceIte,reduceEqDiff,reduceCtorEq,if_pos,↓RS,RG,reduceAdd,reduceMul,reduceLeDiff]
 refine hK _ _ ?_;clear hK K
 refine W.r fun K hK => ?_
 simp (disch := omega) only [↓RU,RV,RH,↓reduceIte,reduceEqDiff,reduceCtorEq,if_pos,w64,↓RS,RG,reduceAdd,reduceMul,reduceLeDiff,ty6,tyint,ty17,ty20,ty26]
 refine hK _ _ ?_;clear hK K
 refine W.seq ?_
 refine W.r fun K hK => ?_
 by_cases hn1 : n < 1
 ·skip
  have hd : decide (n < 1) = true := decide_eq_true hn1
  simp (disch := omega) only [↓RU,RV,RH,↓reduceIte,reduceEqDiff,reduceCtorEq,if_pos,w64,↓RS,RG,reduceAdd,reduceMul,reduceLeDiff,ty6,tyint,ty17,ty20,ty26,hd]
  refine hK _ _ ?_;clear hK K
  refine W.cond rfl (fun h0 => ?_) (fun h0 => ?_)
  ·try simp only [RL] at h0
   refine W.r fun K hK => ?_
   simp (disch := omega) only [↓RU,RV,RH,↓reduceIte,reduceEqDiff,reduceCtorEq,if_pos,↓RS,RG,reduceAdd,reduceMul,reduceLeDiff]
   refine hK _ _ ?_;clear hK K
   refine W.ret ?_
   refine XThen.ret ?_
   refine Br rfl ?_
   exact ⟨_,0,rfl,fun _ => rfl,fun h9 => by omega,take_all⟩
  ·try simp only [RL] at h0
   exact absurd h0 (by simp)
 ·skip
  have hd : decide (n < 1) = false := decide_eq_false hn1
  obtain ⟨m,rfl⟩ : ∃ m : Nat,n = m := ⟨n.toNat,by omega⟩
  simp (disch := omega) only [↓RU,RV,RH,↓reduceIte,reduceEqDiff,reduceCtorEq,if_pos,w64,↓RS,RG,reduceAdd,reduceMul,reduceLeDiff,ty6,tyint,ty17,ty20,ty26,hd]
  refine hK _ _ ?_;clear hK K
  refine W.cond rfl (fun h0 => ?_) (fun h0 => ?_)
  ·try simp only [RL] at h0
   have hl0 : code.length = 0 := by simpa using h0
   refine W.r fun K hK => ?_
   simp (disch := omega) only [↓RU,RV,RH,↓reduceIte,reduceEqDiff,reduceCtorEq,if_pos,↓RS,RG,reduceAdd,reduceMul,reduceLeDiff]
   refine hK _ _ ?_;clear hK K
   refine W.ret ?_
   refine XThen.ret ?_
   refine Br rfl ?_
   exact ⟨_,0,rfl,fun _ => rfl,fun h9 => by omega,take_all⟩
  ·try simp only [RL] at h0
   have hl0 : code.length ≠ 0 := by intro h9; rw [h9] at h0; simp at h0
   obtain ⟨L,hL⟩ : ∃ L : Nat,code.length = L := ⟨_,rfl⟩
   have hLi : ((L : Int) = 0) = False := by simp; omega
   have hmi : ((m : Int) = 0) = False := by simp; omega
   rw [hL] at hl0 hc
   refine W.skip ?_
   refine xn ?_
   refine W.r fun K hK => ?_
   simp (disch := omega) only [↓RU,RV,RH,↓reduceIte,reduceEqDiff,reduceCtorEq,if_pos,w64,↓RS,RG,reduceAdd,reduceMul,reduceLeDiff,ty6,tyint,ty17,ty20,ty26]
   refine hK _ _ ?_;clear hK K
   simp only [show ((q : Int) + 1 - 1) = (q : Int) from by omega]
   refine W.seq ?_
   refine W.r fun K hK => ?_
   simp (disch := omega) only [↓RU,RV,RH,↓reduceIte,reduceEqDiff,reduceCtorEq,if_pos,w64,↓RS,RG,reduceAdd,reduceMul,reduceLeDiff,ty6,tyint,ty17,ty20,ty26,hL]
   refine hK _ _ ?_;clear hK K
   refine W.cond rfl (fun h1 => ?_) (fun h1 => ?_)
   ·try simp only [RL] at h1
    obtain ⟨c,hcq,-⟩ := get_of (show q < code.length by omega)
    have hc8 := c.toNat_lt
    refine W.r fun K hK => ?_
    simp (disch := omega) only [↓RU,RV,RH,↓reduceIte,reduceEqDiff,reduceCtorEq,if_pos,w64,w64,↓RS,RG,reduceAdd,reduceMul,reduceLeDiff,ty6,tyint,ty17,ty20,ty26,hcq,hmi,tmod_nn]
    refine hK _ _ ?_;clear hK K
    refine W.ret ?_
    refine XThen.ret ?_
    refine Br rfl ?_
    exact ⟨_,_,rfl,fun h9 => by omega,fun _ => by have := Nat.mod_lt c.toNat (show 0 < m by omega); omega,take_all⟩
   ·try simp only [RL] at h1
    obtain ⟨c1,hc1,-⟩ := get_of (show q % L < code.length by rw [hL]; exact Nat.mod_lt _ (by omega))
    obtain ⟨c2,hc2,-⟩ := get_of (show (q * 7 + 3) % L < code.length by rw [hL]; exact Nat.mod_lt _ (by omega))
    have hb1 := c1.toNat_lt
    have hb2 := c2.toNat_lt
    have hq7 : (q : Int) * 7 + 3 = ((q * 7 + 3 : Nat) : Int) := by omega
    obtain ⟨d,hd⟩ : ∃ d,q / L = d := ⟨_,rfl⟩
    have hqL : d ≤ q := hd ▸ Nat.div_le_self _ _
    have hml1 := Nat.mod_lt q (show 0 < L by omega)
    have hml2 := Nat.mod_lt (q * 7 + 3) (show 0 < L by omega)
    refine W.skip ?_
    refine xn ?_
    refine W.seq_draw (by kernel_rfl) fun K hK => ?_
    simp (disch := omega) only [↓RU,RV,RH,↓reduceIte,reduceEqDiff,reduceCtorEq,if_pos,w64,w64,↓RS,RG,reduceAdd,reduceMul,reduceLeDiff,ty6,tyint,ty17,ty20,ty26,hL,hLi,tmod_nn,tdiv_nn,hc1,hc2,hq7,hd]
    refine hK _ _ ?_;clear hK K
    obtain ⟨Y,hY⟩ : ∃ Y : Nat,(c1.toNat : Int) * 131 + (c2.toNat : Int) * 1117 + (q : Int) * 29 + (d : Int) * 53 = Y := ⟨c1.toNat * 131 + c2.toNat * 1117 + q * 29 + d * 53,by omega⟩
    have hYb : Y < 1099511627776 := by omega
    have hYd : Y / 64 < 1099511627776 := by omega
    simp only [hY]
    refine W.r fun K hK => ?_
    simp (disch := omega) only [↓RU,RV,RH,↓reduceIte,reduceEqDiff,reduceCtorEq,if_pos,w64,↓RS,RG,reduceAdd,reduceMul,reduceLeDiff,tyint,sf0,tdiv64,w_xor hYb hYd]
    refine hK _ _ ?_;clear hK K
    refine W.r fun K hK => ?_
    simp (disch := omega) only [↓RU,RV,RH,↓reduceIte,reduceEqDiff,reduceCtorEq,if_pos,w64,↓RS,RG,reduceAdd,reduceMul,reduceLeDiff,tyint,hmi,tmod_nn]
    refine hK _ _ ?_;clear hK K
    refine W.ret ?_
    refine Br rfl ?_
    exact ⟨_,_,rfl,fun h9 => by omega,fun _ => by have := Nat.mod_lt (Y ^^^ Y / 64) (show 0 < m by omega); omega,take_all⟩
section
def rowPut (row : Txt) (l : Nat) (c : UInt8) (k : Nat) : Txt := (List.range row.length).map fun x => if l ≤ x ∧ x < k then c else row.getD x 0
theorem rowPut_len {row : Txt} {l k : Nat} {c : UInt8} : (rowPut row l c k).length = row.length := by simp [rowPut]
theorem rowPut_zero {row : Txt} {l : Nat} {c : UInt8} : rowPut row l c l = row := by
 apply List.ext_getElem?
 intro j
 unfold rowPut
 rw [List.getElem?_map]
 by_cases hj : j < row.length
 ·rw [List.getElem?_range hj,Option.map_some,if_neg (by omega),List.getD_eq_getElem?_getD,List.getElem?_eq_getElem hj]; rfl
 ·rw [List.getElem?_eq_none (by simpa using hj),List.getElem?_eq_none (by omega)]; rfl
theorem rowPut_succ {row : Txt} {l k : Nat} {c : UInt8} (h1 : l ≤ k) (h2 : k < row.length) : (rowPut row l c k).set k c = rowPut row l c (k + 1) := by
 apply List.ext_getElem?
 intro j
 rw [List.getElem?_set,rowPut_len]
 unfold rowPut
 rw [List.getElem?_map,List.getElem?_map]
 by_cases hj : j < row.length
 ·rw [List.getElem?_range hj,Option.map_some,Option.map_some]
  by_cases e : k = j
  ·subst e; rw [if_pos rfl,if_pos h2,if_pos (by omega)]
  ·rw [if_neg e]
   by_cases q : l ≤ j ∧ j < k
   ·rw [if_pos q,if_pos (by omega)]
   ·rw [if_neg q,if_neg (by omega)]
 ·rw [if_neg (by omega),List.getElem?_eq_none (by simpa using hj)]; rfl
def putTo (p : List Txt) (t l w : Nat) (c : UInt8) (i : Nat) : List Txt := (List.range p.length).map fun j => if t ≤ j ∧ j < i then rowPut (p.getD j []) l c (l + w) else p.getD j []
theorem putTo_len {p : List Txt} {t l w i : Nat} {c : UInt8} : (putTo p t l w c i).length = p.length := by simp [putTo]
theorem putTo_at {p : List Txt} {t l w i : Nat} {c : UInt8} {row : Txt} (h : p[i]? = some row) : (putTo p t l w c i)[i]? = some row := by
 have hi := len_of h
 unfold putTo
 rw [List.getElem?_map,List.getElem?_range hi,Option.map_some,if_neg (by omega),List.getD_eq_getElem?_getD,h]; rfl
theorem putTo_zero {p : List Txt} {t l w : Nat} {c : UInt8} : putTo p t l w c t = p := by
 apply List.ext_getElem?
 intro j
 unfold putTo
 rw [List.getElem?_map]
 by_cases hj : j < p.length
 ·rw [List.getElem?_range hj,Option.map_some,if_neg (by omega),List.getD_eq_getElem?_getD,List.getElem?_eq_getElem hj]; rfl
 ·rw [List.getElem?_eq_none (by simpa using hj),List.getElem?_eq_none (by omega)]; rfl
theorem putTo_succ {p : List Txt} {t l w i : Nat} {c : UInt8} {row : Txt} (h1 : t ≤ i) (h : p[i]? = some row) : (putTo p t l w c i).set i (rowPut row l c (l + w)) = putTo p t l w c (i + 1) := by
 have hi := len_of h
 apply List.ext_getElem?
 intro j
 rw [List.getElem?_set,putTo_len]
 unfold putTo
 rw [List.getElem?_map,List.getElem?_map]
 by_cases hj : j < p.length
 ·rw [List.getElem?_range hj,Option.map_some,Option.map_some]
  by_cases e : i = j
  ·subst e; rw [if_pos rfl,if_pos hi,if_pos (by omega),List.getD_eq_getElem?_getD,h]; rfl
  ·rw [if_neg e]
   by_cases q : t ≤ j ∧ j < i
   ·rw [if_pos q,if_pos (by omega)]
   ·rw [if_neg q,if_neg (by omega)]
 ·rw [if_neg (by omega),List.getElem?_eq_none (by simpa using hj)]; rfl
theorem putTo_sm {p : List Txt} (hs : Sm p) {t l w i : Nat} {c : UInt8} : Sm (putTo p t l w c i) := by
 refine ⟨by rw [putTo_len]; exact hs.1,fun r hr => ?_⟩
 obtain ⟨j,hj,rfl⟩ := List.mem_map.1 hr
 have hjl : j < p.length := by simpa using hj
 have hm : p.getD j [] ∈ p := by
  rw [List.getD_eq_getElem?_getD,List.getElem?_eq_getElem hjl]; exact List.getElem_mem hjl
 have := hs.2 _ hm
 split
 ·rw [rowPut_len]; exact this
 ·exact this
def doneP (p : List Txt) : List Txt × Bool := if gridB p && planB (names p) then (names p,true) else ([],false)
theorem names_len {p : List Txt} (hg : gridB p = true) : (names p).length = p.length := by
 rw [names_text hg]
 have hr : (gP p).length = p.length := by rw [gP_eq]; exact zRows_len _
 unfold textG
 rw [List.length_map,hr]
theorem doneP_ok {p : List Txt} (h : (doneP p).2 = true) : planB (doneP p).1 = true ∧ (doneP p).1.length = p.length := by
 unfold doneP at h ⊢
 split at h
 ·rename_i hq
  rw [if_pos hq]
  simp only [Bool.and_eq_true] at hq
  exact ⟨hq.2,names_len hq.1⟩
 ·cases h
def splitP (p : List Txt) (room : Int) (s : Txt) (k : Int) : List Txt × Bool :=
 if planB p && (decide (0 ≤ room) && decide (room ≤ l1Rooms p - 1)) then
  if (s == [104]) && (decide (1 ≤ k) && decide (k ≤ highOf p room - 1)) then doneP (putTo p ((boxOf p room).top + k).toNat (boxOf p room).left.toNat (wideOf p room).toNat 122 ((boxOf p room).top + k + (highOf p room - k)).toNat)
  else if (s == [118]) && (decide (1 ≤ k) && decide (k ≤ wideOf p room - 1)) then doneP (putTo p (boxOf p room).top.toNat ((boxOf p room).left + k).toNat (wideOf p room - k).toNat 122 ((boxOf p room).top + highOf p room).toNat)
  else ([],false)
 else ([],false)
theorem splitP_ok {p : List Txt} {room k : Int} {s : Txt} (h : (splitP p room s k).2 = true) : planB (splitP p room s k).1 = true ∧ (splitP p room s k).1.length = p.length := by
 unfold splitP at h ⊢
 by_cases h1 : (planB p && (decide (0 ≤ room) && decide (room ≤ l1Rooms p - 1))) = true
 ·rw [if_pos h1] at h ⊢
  by_cases h2 : ((s == [104]) && (decide (1 ≤ k) && decide (k ≤ highOf p room - 1))) = true
  ·rw [if_pos h2] at h ⊢
   have := doneP_ok h
   rw [putTo_len] at this
   exact this
  ·rw [if_neg h2] at h ⊢
   by_cases h3 : ((s == [118]) && (decide (1 ≤ k) && decide (k ≤ wideOf p room - 1))) = true
   ·rw [if_pos h3] at h ⊢
    have := doneP_ok h
    rw [putTo_len] at this
    exact this
   ·rw [if_neg h3] at h; cases h
 ·rw [if_neg h1] at h; cases h
section
variable {p : List Txt} {room : Int} {s : Txt} {t l h w k : Nat}
theorem splitP_g {k : Int} (hgv : (planB p && (decide (0 ≤ room) && decide (room ≤ l1Rooms p - 1))) = false) : splitP p room s k = ([],false) := by
 unfold splitP; rw [hgv]; rfl
theorem splitP_no {k : Int} (h1 : ((s == [104]) && (decide (1 ≤ k) && decide (k ≤ highOf p room - 1))) = false) (h2 : ((s == [118]) && (decide (1 ≤ k) && decide (k ≤ wideOf p room - 1))) = false) : splitP p room s k = ([],false) := by
 unfold splitP; rw [h1,h2]; split <;> rfl
theorem splitP_h (hgv : (planB p && (decide (0 ≤ room) && decide (room ≤ l1Rooms p - 1))) = true) (e1 : (boxOf p room).top = t) (e2 : (boxOf p room).left = l) (e3 : highOf p room = h) (e4 : wideOf p room = w)
  (hb : ((s == [104]) && (decide (1 ≤ (k : Int)) && decide ((k : Int) ≤ highOf p room - 1))) = true) : splitP p room s k = doneP (putTo p (t + k) l w 122 (t + k + (h - k))) := by
 have hk : (k : Int) ≤ h - 1 := by simp only [Bool.and_eq_true,decide_eq_true_eq,e3] at hb; exact hb.2.2
 unfold splitP
 rw [if_pos hgv,if_pos hb,e1,e2,e3,e4]
 have a1 : ((t : Int) + (k : Int)).toNat = t + k := by omega
 have a2 : ((t : Int) + (k : Int) + ((h : Int) - (k : Int))).toNat = t + k + (h - k) := by omega
 rw [a1,a2,Int.toNat_natCast,Int.toNat_natCast]
theorem splitP_v (hgv : (planB p && (decide (0 ≤ room) && decide (room ≤ l1Rooms p - 1))) = true) (e1 : (boxOf p room).top = t) (e2 : (boxOf p room).left = l) (e3 : highOf p room = h) (e4 : wideOf p room = w)
  (ha : ((s == [104]) && (decide (1 ≤ (k : Int)) && decide ((k : Int) ≤ highOf p room - 1))) = false) (hb : ((s == [118]) && (decide (1 ≤ (k : Int)) && decide ((k : Int) ≤ wideOf p room - 1))) = true) : splitP p room s k = doneP (putTo p t (l + k) (w - k) 122 (t + h)) := by
 have hk : (k : Int) ≤ w - 1 := by simp only [Bool.and_eq_true,decide_eq_true_eq,e4] at hb; exact hb.2.2
 unfold splitP
 rw [if_pos hgv,ha,if_neg Bool.false_ne_true,if_pos hb,e1,e2,e3,e4]
 have a1 : ((l : Int) + (k : Int)).toNat = l + k := by omega
 have a2 : ((t : Int) + (h : Int)).toNat = t + h := by omega
 have a3 : ((w : Int) - (k : Int)).toNat = w - k := by omega
 rw [a1,a2,a3,Int.toNat_natCast]
end
theorem plan_box {p : List Txt} (hp : planB p = true) {room : Int} (h0 : 0 ≤ room) (h1 : room ≤ l1Rooms p - 1) : ∃ t l h w : Nat,(boxOf p room).top = t ∧ (boxOf p room).left = l ∧ highOf p room = h ∧ wideOf p room = w ∧ 1 ≤ h ∧ 1 ≤ w ∧ t + h ≤ p.length ∧ l + w ≤ (hdRow p).length := by
 have hN := plan_named hp
 have hr := hN.rooms
 obtain ⟨m,rfl⟩ : ∃ m : Nat,room = m := ⟨room.toNat,by omega⟩
 have hm : m < (rP p).length := by omega
 obtain ⟨b,hb,-⟩ := get_of hm
 have hi := keys_inv p
 obtain ⟨v,hv,-⟩ := get_of (show m < (keys p).length by rw [← hi.len]; exact hm)
 obtain ⟨e1,e2,e3,e4⟩ := hN.box hb
 obtain ⟨t,l,h,w,q1,q2,q3,q4,q5,q6,q7,q8,-⟩ := Hull.nat (hi.hull m v b hv hb)
 exact ⟨t,l,h,w,by omega,by omega,by omega,by omega,q5,q6,q7,q8⟩
theorem rows_wide {p : List Txt} (hp : planB p = true) {i : Nat} {row : Txt} (h : p[i]? = some row) : row.length = (hdRow p).length := grid_row (planB_grid hp) h
theorem plan_small {p : List Txt} (hp : planB p = true) : p.length ≤ 6 ∧ 1 ≤ p.length ∧ ∀ row ∈ p,1 ≤ row.length ∧ row.length ≤ 6 := by
 have hg := planB_grid hp
 have h := grid_small hg
 refine ⟨h.2.1,h.1,fun row hr => ⟨?_,h.2.2 row hr⟩⟩
 obtain ⟨i,hi,rfl⟩ := List.getElem_of_mem hr
 exact row_pos hg (List.getElem?_eq_getElem hi)
end
end Fw
end Go.Proofs.YtclmfemhboogpaaGreat
