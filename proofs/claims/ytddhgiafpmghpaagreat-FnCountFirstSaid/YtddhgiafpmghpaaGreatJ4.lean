/- Parts of the framework and of the proof: Orders of a plain plan: each two rooms are in just one; Rooms put in a row by how many are ahead of them; The two orders are orders of all rooms; the places of the second order in the first one; Where rooms begin and how far they may be moved: the program's lists are the specification's; Shapes in plain words: the program's least shapes are the specification's; Sizes in plain words: areas, places, slacks, longest rows; What the laws of sizes ask, of plans in plain words; Longest rows of rooms, as the specification finds them, in plain words; Longest growing parts of the permutation of a plan are longest rows of its rooms; Grids that are made of cells told by a function, gone through; What holds of all arguments holds of frozen ones; The framework: what a call leaves is frozen from some object on; a call freezes all that there is; The framework: objects that stand behind are lent to a call as data that does not turn, and are taken back when it ends; Grids that are made of cells told by a function, as rows that may be written; Terms: how a text is read, by the specification and by the program; Two plans side by side, each stretched where they meet; Grids whose cells are alike are numbered alike; the text of a numbered grid is named as it should be; Orders of plans that are made of other plans: rows and columns exchanged, turned, seen from behind, made wide or tight; Plans that are made of other plans: their orders, their permutations and their least sizes; Upright cuts are where the permutation falls apart; Two plans side by side: their orders; Two plans side by side: their orders are those of each, and the first one's rooms are left of the second one's; Plans made of plans, gone through; Rooms of two plans put together, beside each other or one below the other: the permutation; Plans made of two plans beside each other or one below the other, each stretched where they meet; Cut trees: parts of plans, their first cuts, and the tree of all; Parts of plans as texts: the specification's cut and its parts; Parts of plans in the program: the rooms of a part, its lines, its cut; Cut trees, gone down; what is told along them; Cuts and orders: what lies on the two sides of a cut; widths along cuts are least widths; Plans that are cuttable, by the orders of their rooms; so by their permutations; Permutations of plain plans are fair; Loose permutations are those that fall apart; Cuts in the specification, gone through; Texts along cuts and widths along cuts in the specification, gone through; Fair and loose permutations of plain plans, as the program asks; Terms: signs moved inwards; permutations of terms; Plans of terms; Plans that are cut, in plain words; Plans of terms by the specification: its texts are those of the grids; All plans of so many rows and columns: rooms are put, one after the other, into the first free cell; Parts of plans in the program: rooms, lines, gone through; The framework, part ha: loops over functions: yield's contract out of the body's walk, and the statement; The framework, part hb: a region in which two variables are made, either of them ahead of the other; The cuts of a part, and the first one, gone through; What comes of parts along first cuts, gone through; Sizes by the program, gone through; Sizes, gone through; the small functions of the statements; Widths and texts along cuts, gone through; Widths along cuts in the specification; is a plan cuttable: gone through; Orders of two rooms, gone through; Sorting by a function, gone through; Heaviest sums, gone through; Marks, gone through; Places and slack by the specification, gone through; A relation the other way round, place by place; Places and slack by the program, gone through; Rooms in order by the program, gone through; The first and the second order, gone through; The orders by the specification, gone through; The framework, part z: a region in which the bytes of a text become a new row that is written later; Drawing: the reader, gone through. -/
import Derived.Test.YtddhgiafpmghpaaGreatJ3
import Derived.Test.YtddhgiafpmghpaaGreatJ1
import Derived.Test.YtddhgiafpmghpaaGreatJ2
import Derived.Lib.ConvBytes
set_option linter.all false
namespace Go.Proofs.YtddhgiafpmghpaaGreat
namespace Fw
open Go
open Nat renaming reduceEqDiff → qE, reduceLeDiff → qL, reduceAdd → qA, reduceMul → qM, le_refl → qR
open List renaming append_nil → qN, mapM_append → qP, mapM_cons → qC, mapM_map → qU, range_succ → qS, take_of_length_le → qT
open Bool renaming and_eq_true → qB, false_eq_true → qF
open Option renaming map_some → qO, map_eq_some_iff → qI
open Int renaming reduceToNat → qZ
section
theorem zyo {p:List Txt} {i:Nat}:∀ {w:Nat},zgs p 4 i w=0→∀ k,1≤k→k<w→zjt p i k≠4
 | w+1,h,k,h1,h2=>by
  have hb:=(zfj p 4 i w).1
  unfold zgs at h
  by_cases e:k=w
  ·subst e
   intro q
   rw [if_pos ⟨h1,q⟩]at h
   omega
  have h0:zgs p 4 i w=0:=by split at h <;> omega
  exact zyo h0 k h1 (by omega)
theorem z24 {p:List Txt} {w:Nat}:∀ {n:Nat},zjb p 4 w n=0→∀ i,1≤i→i<n→zgs p 4 i w=0
 | n+1,h,i,h1,h2=>by
  have hb:0≤zjb p 4 w n:=by
   clear h h1 h2
   induction n with
   | zero=>simp [zjb]
   | succ n ih =>
    have:=(zfj p 4 n w).1
    unfold zjb; split <;> omega
  have hr:=(zfj p 4 n w).1
  unfold zjb at h
  by_cases e:i=n
  ·subst e
   rw [if_pos h1]at h
   omega
  have h0:zjb p 4 w n=0:=by split at h <;> omega
  exact z24 h0 i h1 (by omega)
theorem z5z {a b:UInt8} (h:(a.toNat:Int) - 97≠(b.toNat:Int) - 97):a≠b:=by
 rintro rfl; exact h rfl
theorem z4y {p:List Txt} (hg:zc1 p=true) {i k:Nat} (hi:i+1<p.length) (hk:k+1<(zax p).length) (h1:zcj p i k≠zcj p i (k+1)) (h2:zcj p i k≠zcj p (i+1) k) (h3:zcj p i k≠zcj p (i+1) (k+1))
  (h4:zcj p i (k+1)≠zcj p (i+1) k) (h5:zcj p i (k+1)≠zcj p (i+1) (k+1)) (h6:zcj p (i+1) k≠zcj p (i+1) (k+1)):zjt p (i+1) (k+1)=4:=by
 obtain ⟨r1,hr1,-⟩:=zaf (show i<p.length by omega)
 obtain ⟨r2,hr2,-⟩:=zaf hi
 have e1:=zd5 hg hr1
 have e2:=zd5 hg hr2
 obtain ⟨a,ha,-⟩:=zaf (show k<r1.length by omega)
 obtain ⟨b,hb,-⟩:=zaf (show k+1<r1.length by omega)
 obtain ⟨c,hc,-⟩:=zaf (show k<r2.length by omega)
 obtain ⟨d,hd,-⟩:=zaf (show k+1<r2.length by omega)
 rw [zc3 hr1 ha]at h1 h2 h3
 rw [zc3 hr1 hb]at h1 h4 h5
 rw [zc3 hr2 hc]at h2 h4 h6
 rw [zc3 hr2 hd]at h3 h5 h6
 have n1:=z5z h1
 have n2:=z5z h2
 have n3:=z5z h3
 have n4:=z5z h4
 have n5:=z5z h5
 have n6:=z5z h6
 unfold zjt
 simp only[Nat.add_sub_cancel,hr1,hr2,ha,hb,hc,hd]
 simp [zgr,z76,zso,Ne.symm n1,Ne.symm n2,Ne.symm n3,Ne.symm n4,Ne.symm n5,Ne.symm n6]
theorem zlk {p:List Txt} (hp:zcu p=true) {i j:Nat} (hi:i<p.length) (hj:j<(zax p).length):(cn (gP p) i j:Int)=zcj p i j:=by
 have hN:=zds hp
 have:=hN.room hi hj
 unfold cn
 rw [hN.cell hi hj]; omega
theorem z8s {p:List Txt} (hp:zca p=true):Pl (cn (gP p)) p.length (zax p).length:=by
 have hpl:=zn6 hp
 have hN:=zds hpl
 have rect:∀ {i j i' j':Nat} (k l:Nat),i<p.length→i'<p.length→j<(zax p).length→j'<(zax p).length→cn (gP p) i j=cn (gP p) i' j'→min i i'≤k→k≤max i i'→min j j'≤l→l≤max j j'→cn (gP p) k l=cn (gP p) i j:=by
  intro i j i' j' k l h1 h2 h3 h4 e h5 h6 h7 h8
  have e1:=zlk hpl h1 h3
  have e2:=zlk hpl h2 h4
  have e3:=zlk hpl (show k<p.length by omega) (show l<(zax p).length by omega)
  obtain ⟨b,hb,q1,-,c1⟩:=zih hpl h1 h3
  obtain ⟨b',hb',q2,-,-⟩:=zih hpl h2 h4
  have e4:zcj p i j=zcj p i' j':=by omega
  rw [e4,hb']at hb
  obtain rfl:=Option.some.inj hb
  have q3:inB b' k l=true:=by
   unfold inB at q1 q2 ⊢
   simp only[qB,decide_eq_true_eq]at q1 q2 ⊢
   omega
  have:=c1 k l (by omega) (by omega) q3
  omega
 refine ⟨rect,fun {i j} h1 h2 n1 n2 n3=>Classical.byContradiction fun n4=>?_⟩
 have h0:points p 4=0:=by
  unfold zca at hp
  simp only[qB,decide_eq_true_eq]at hp
  exact hp.2
 have hno:=zyo (z24 h0 (i+1) (by omega) h1) (j+1) (by omega) h2
 have n5:cn (gP p) i j≠cn (gP p) (i+1) (j+1):=by
  intro e
  exact n1 (rect i (j+1) (by omega) h1 (by omega) h2 e (by omega) (by omega) (by omega) (by omega)).symm
 have n6:cn (gP p) i (j+1)≠cn (gP p) (i+1) j:=by
  intro e
  exact n1 (rect i j (by omega) h1 h2 (by omega) e (by omega) (by omega) (by omega) (by omega))
 have c1:=zlk hpl (show i<p.length by omega) (show j<(zax p).length by omega)
 have c2:=zlk hpl (show i<p.length by omega) h2
 have c3:=zlk hpl h1 (show j<(zax p).length by omega)
 have c4:=zlk hpl h1 h2
 exact hno (z4y hN.hg h1 h2 (by omega) (by omega) (by omega) (by omega) (by omega) (by omega))
theorem zy2 {p:List Txt} {a:Nat} (ha:a<(rP p).length):∃ i j,i<p.length∧j<(zax p).length∧cn (gP p) i j=a:=by
 have hi:=zgx p
 obtain ⟨b,hb,-⟩:=zaf ha
 obtain ⟨v,hv,-⟩:=zaf (show a<(keys p).length by rw [← hi.len]; exact ha)
 obtain ⟨i,j,⟨hz,hj,hij⟩,-⟩:=(hi.hull a v b hv hb).at_
 have hi2:i<p.length:=by omega
 refine ⟨i,j,hi2,hj,?_⟩
 unfold cn
 rw [z7f hi2 hj,hz,Int.toNat_natCast]
 have hlt:¬ (keys p).idxOf v=(keys p).length:=by
  have:=List.idxOf_lt_length_iff.2 (List.mem_of_getElem? hv)
  omega
 exact zmq hi.nd (zh9 hlt) hv
def lfM (p:List Txt):List (List Bool):=zxq (gP p) p.length (zax p).length (rP p).length
def abM (p:List Txt):List (List Bool):=zol (gP p) p.length (zax p).length (rP p).length
def Lf (p:List Txt) (a b:Nat):Prop:=zdc (lfM p) a b=true
def Ab (p:List Txt) (a b:Nat):Prop:=zdc (abM p) a b=true
section
variable {p:List Txt} {a b d:Nat}
theorem Lf.iff (ha:a<(rP p).length) (hb:b<(rP p).length):Lf p a b↔TC (DL (cn (gP p)) p.length (zax p).length) a b:=ye5 zgk ha hb
theorem Ab.iff (ha:a<(rP p).length) (hb:b<(rP p).length):Ab p a b↔TC (DU (cn (gP p)) p.length (zax p).length) a b:=yai zgk ha hb
theorem Lf.trans (ha:a<(rP p).length) (hb:b<(rP p).length) (hd:d<(rP p).length) (h:Lf p a b) (k:Lf p b d):Lf p a d:=by
 rw [Lf.iff ha hd]; exact ((Lf.iff ha hb).1 h).trans ((Lf.iff hb hd).1 k)
theorem Ab.trans (ha:a<(rP p).length) (hb:b<(rP p).length) (hd:d<(rP p).length) (h:Ab p a b) (k:Ab p b d):Ab p a d:=by
 rw [Ab.iff ha hd]; exact ((Ab.iff ha hb).1 h).trans ((Ab.iff hb hd).1 k)
theorem z0s (hp:zca p=true):∃ f g:Nat→Nat,∀ a b,a<(rP p).length→b<(rP p).length→(Lf p a b→f a<f b∧g a<g b)∧(Ab p a b→f a<f b∧g b<g a):=by
 have hpl:=z8s hp
 obtain ⟨f,hf⟩:=z2q hpl (n:=(rP p).length) (fun i j hi hj=>zsh zgk hi hj)
 obtain ⟨g,hg⟩:=z8i hpl (n:=(rP p).length) (fun i j hi hj=>zsh zgk hi hj)
 refine ⟨f,g,fun a b ha hb=>⟨fun h=>?_,fun h=>?_⟩⟩
 ·rw [Lf.iff ha hb]at h
  exact ⟨h.rise fun a b k=>hf a b (.inl k),h.rise fun a b k=>hg a b (.inl k)⟩
 rw [Ab.iff ha hb]at h
 exact ⟨h.rise fun a b k=>hf a b (.inr k),(h.rev (S:=fun x y=>DU (cn (gP p)) p.length (zax p).length y x) fun _ _ k=>k).rise fun a b k=>hg a b (.inr k)⟩
theorem z43 (hp:zca p=true) (ha:a<(rP p).length) (hb:b<(rP p).length) (hne:a≠b):Lf p a b∨Lf p b a∨Ab p a b∨Ab p b a:=by
 obtain ⟨i,j,h1,h2,e1⟩:=zy2 ha
 obtain ⟨k,l,h3,h4,e2⟩:=zy2 hb
 have:=ycc (z8s hp) h1 h2 h3 h4 (by rw [e1,e2]; exact hne)
 rw [e1,e2]at this
 rw [Lf.iff ha hb,Lf.iff hb ha,Ab.iff ha hb,Ab.iff hb ha]
 exact this
end
end
section
def zgt (ah:Nat→Nat) (n:Nat):Nat→List Int
 | 0=>List.replicate n 0
 | a+1=>(zgt ah n a).set (ah a) (a:Int)
theorem zij {ah:Nat→Nat} {n:Nat}:∀ k,(zgt ah n k).length=n
 | 0=>by simp [zgt]
 | k+1=>by simp [zgt,zij k]
theorem zrs {ah:Nat→Nat} {n:Nat} (hn:∀ a,a<n→ah a<n) (hi:∀ a b,a<n→b<n→ah a=ah b→a=b):∀ k,k≤n→∀ a,a<k→(zgt ah n k)[ah a]?=some (a:Int)
 | 0,_,a,h=>by omega
 | k+1,hk,a,h=>by
  unfold zgt
  rw [List.getElem?_set,zij]
  by_cases e:a=k
  ·subst e; rw [if_pos rfl,if_pos (hn a (by omega))]
  rw [if_neg fun q=>e (hi a k (by omega) (by omega) q.symm)]
  exact zrs hn hi k (by omega) a (by omega)
def rooms (n:Nat):List Int:=(List.range n).map fun i:Nat=>(i:Int)
theorem zry {n:Nat}:(rooms n).length=n:=by simp [rooms]
theorem zq8 {n:Nat} {x:Int}:x∈rooms n↔0≤x∧x<n:=by
 unfold rooms
 rw [List.mem_map]
 constructor
 ·rintro ⟨i,hi,rfl⟩; simp at hi; omega
 rintro ⟨h1,h2⟩; exact ⟨x.toNat,by simp; omega,by omega⟩
theorem zvy {n i:Nat} (h:i<n):(rooms n)[i]?=some (i:Int):=by simp [rooms,h]
theorem z5l {n:Nat}:rooms (n+1)=rooms n++[(n:Int)]:=by simp [rooms,qS]
theorem z5u {z:List Int} {g:Int→Int} (hs:(z.map g).Pairwise (· ≤ ·)) (hd:∀ (i j:Nat) x y,z[i]?=some x→z[j]?=some y→g x=g y→i=j) {i:Nat} {x:Int} (hx:z[i]?=some x):z.countP (fun y=>decide (g y<g x))=i:=by
 have hil:=zbd hx
 have hp:=List.pairwise_iff_getElem.1 hs
 have lt:∀ (a b:Nat) u v,z[a]?=some u→z[b]?=some v→a<b→g u<g v:=by
  intro a b u v hu hv hab
  have h1:=zbd hu
  have h2:=zbd hv
  have h3:=hp a b (by simpa using h1) (by simpa using h2) hab
  simp only[List.getElem_map]at h3
  rw [List.getElem?_eq_getElem h1]at hu
  rw [List.getElem?_eq_getElem h2]at hv
  cases hu; cases hv
  rcases Int.lt_or_le (g z[a]) (g z[b]) with q | q
  ·exact q
  have e:=hd a b _ _ (List.getElem?_eq_getElem h1) (List.getElem?_eq_getElem h2) (by omega)
  omega
 have e:z=z.take i++z.drop i:=(List.take_append_drop i z).symm
 have c1:(z.take i).countP (fun y=>decide (g y<g x))=i:=by
  rw [List.countP_eq_length.2]
  ·rw [List.length_take]; omega
  intro y hy
  obtain ⟨j,hj⟩:=List.mem_iff_getElem?.1 hy
  rw [List.getElem?_take]at hj
  split at hj
  ·exact decide_eq_true (lt j i y x hj hx (by assumption))
  cases hj
 have c2:(z.drop i).countP (fun y=>decide (g y<g x))=0:=by
  rw [List.countP_eq_zero]
  intro y hy
  obtain ⟨j,hj⟩:=List.mem_iff_getElem?.1 hy
  rw [List.getElem?_drop]at hj
  by_cases q:j=0
  ·subst q; rw [Nat.add_zero,hx]at hj; cases hj; simp
  have:=lt i (i+j) x y hx hj (by omega)
  simp; omega
 rw [e,List.countP_append,c1,c2,Nat.add_zero]
theorem zop {f:Int→Bool}:∀ n,(rooms n).countP f=(List.range n).countP fun a:Nat=>f (a:Int)
 | 0=>rfl
 | n+1=>by rw [z5l,qS,List.countP_append,List.countP_append,zop n]; rfl
theorem z0x {n:Nat}:∀ (i j:Nat) x,(rooms n)[i]?=some x→(rooms n)[j]?=some x→i=j:=by
 intro i j x hi hj
 have h1:=zbd hi
 have h2:=zbd hj
 rw [zry]at h1 h2
 rw [zvy h1]at hi
 rw [zvy h2]at hj
 cases hi; cases hj; rfl
theorem zrb {z:List Int} (h:z.Nodup) {i j:Nat} (hi:i<z.length) (hj:j<z.length) (e:z[i]=z[j]):i=j:=by
 unfold List.Nodup at h
 rw [List.pairwise_iff_getElem]at h
 rcases Nat.lt_trichotomy i j with q | q | q
 ·exact absurd e (h i j hi hj q)
 ·exact q
 exact absurd e.symm (h j i hj hi q)
theorem zrc (n:Nat):(rooms n).Nodup:=by
 unfold List.Nodup
 rw [List.pairwise_iff_getElem]
 intro i j hi hj hij e
 have:=z0x i j _ (List.getElem?_eq_getElem hi) (e ▸ List.getElem?_eq_getElem hj)
 omega
section
variable {n:Nat} {f:Nat→Nat}
theorem zwl (hf:∀ a b,a<n→b<n→f a=f b→a=b) {a b:Nat} (ha:a<n) (hb:b<n) (h:ahead n f a=ahead n f b):a=b:=by
 rcases Nat.lt_trichotomy (f a) (f b) with q | q | q
 ·have:=zpl (n:=n) ha q; omega
 ·exact hf a b ha hb q
 have:=zpl (n:=n) hb q; omega
theorem z5v (hf:∀ a b,a<n→b<n→f a=f b→a=b) {z:List Int} (hp:z.Perm (rooms n)) (hs:(z.map fun x=>((f x.toNat:Nat):Int)).Pairwise (· ≤ ·)):z=zgt (ahead n f) n n:=by
 have hl:=hp.length_eq
 rw [zry]at hl
 have hm:∀ x∈z,0≤x∧x<n:=fun x hx=>zq8.1 (hp.mem_iff.1 hx)
 have hd:∀ (i j:Nat) x y,z[i]?=some x→z[j]?=some y→((f x.toNat:Nat):Int)=((f y.toNat:Nat):Int)→i=j:=by
  intro i j x y hx hy e
  have h1:=hm x (List.mem_of_getElem? hx)
  have h2:=hm y (List.mem_of_getElem? hy)
  have e2:=hf x.toNat y.toNat (by omega) (by omega) (by omega)
  have e3:x=y:=by omega
  subst e3
  have hnd:z.Nodup:=hp.nodup_iff.2 (zrc n)
  have hi:=zbd hx
  have hj:=zbd hy
  rw [List.getElem?_eq_getElem hi]at hx
  rw [List.getElem?_eq_getElem hj]at hy
  exact zrb hnd hi hj ((Option.some.inj hx).trans (Option.some.inj hy).symm)
 apply List.ext_getElem?
 intro i
 by_cases hi:i<n
 ·obtain ⟨x,hx,hxm⟩:=zaf (show i<z.length by omega)
  have h1:=hm x hxm
  have e:=z5u hs hd hx
  rw [hp.countP_eq,zop]at e
  have e2:ahead n f x.toNat=i:=by
   unfold ahead
   rw [← e]
   apply List.countP_congr
   intro a ha
   simp
  have:=zrs (fun a ha=>zzs (rk:=f) ha) (fun a b ha hb h=>zwl hf ha hb h) n (qR _) x.toNat (by omega)
  rw [e2]at this
  rw [hx,this,show ((x.toNat:Nat):Int)=x by omega]
 rw [List.getElem?_eq_none (by omega),List.getElem?_eq_none (by rw [zij]; omega)]
end
def bf1 (p:List Txt) (a b:Nat):Bool:=zdc (lfM p) a b || zdc (abM p) a b
def bf2 (p:List Txt) (a b:Nat):Bool:=zdc (lfM p) a b || zdc (abM p) b a
def bfK (p:List Txt) (below:Bool) (a b:Nat):Bool:=if below then bf2 p a b else bf1 p a b
def ahK (p:List Txt) (below:Bool) (a:Nat):Nat:=(List.range (rP p).length).countP fun b=>bfK p below b a
theorem zlg {p:List Txt} (hp:zca p=true) (below:Bool):∃ f:Nat→Nat,(∀ a b,a<(rP p).length→b<(rP p).length→(bfK p below a b=true↔f a<f b))∧∀ a b,a<(rP p).length→b<(rP p).length→f a=f b→a=b:=by
 obtain ⟨f,g,hfg⟩:=z0s hp
 have tot:=fun a b ha hb hne=>z43 (a:=a) (b:=b) hp ha hb hne
 cases below with
 | false =>
  have h1:∀ a b,a<(rP p).length→b<(rP p).length→bfK p false a b=true→f a<f b:=by
   intro a b ha hb h
   simp only[bfK,bf1,qF,if_false,Bool.or_eq_true]at h
   rcases h with h | h
   ·exact ((hfg a b ha hb).1 h).1
   exact ((hfg a b ha hb).2 h).1
  have h2:∀ a b,a<(rP p).length→b<(rP p).length→a≠b→bfK p false a b=true∨bfK p false b a=true:=by
   intro a b ha hb hne
   simp only[bfK,bf1,qF,if_false,Bool.or_eq_true]
   rcases tot a b ha hb hne with h | h | h | h
   ·exact .inl (.inl h)
   ·exact .inr (.inl h)
   ·exact .inl (.inr h)
   exact .inr (.inr h)
  have h3:∀ a b,a<(rP p).length→b<(rP p).length→f a=f b→a=b:=by
   intro a b ha hb e
   refine Classical.byContradiction fun hne=>?_
   rcases h2 a b ha hb hne with h | h
   ·have:=h1 a b ha hb h; omega
   have:=h1 b a hb ha h; omega
  refine ⟨f,fun a b ha hb=>⟨h1 a b ha hb,fun h=>?_⟩,h3⟩
  rcases h2 a b ha hb (by rintro rfl; omega) with k | k
  ·exact k
  have:=h1 b a hb ha k; omega
 | true =>
  have h1:∀ a b,a<(rP p).length→b<(rP p).length→bfK p true a b=true→g a<g b:=by
   intro a b ha hb h
   simp only[bfK,bf2,if_true,Bool.or_eq_true]at h
   rcases h with h | h
   ·exact ((hfg a b ha hb).1 h).2
   exact ((hfg b a hb ha).2 h).2
  have h2:∀ a b,a<(rP p).length→b<(rP p).length→a≠b→bfK p true a b=true∨bfK p true b a=true:=by
   intro a b ha hb hne
   simp only[bfK,bf2,if_true,Bool.or_eq_true]
   rcases tot a b ha hb hne with h | h | h | h
   ·exact .inl (.inl h)
   ·exact .inr (.inl h)
   ·exact .inr (.inr h)
   exact .inl (.inr h)
  have h3:∀ a b,a<(rP p).length→b<(rP p).length→g a=g b→a=b:=by
   intro a b ha hb e
   refine Classical.byContradiction fun hne=>?_
   rcases h2 a b ha hb hne with h | h
   ·have:=h1 a b ha hb h; omega
   have:=h1 b a hb ha h; omega
  refine ⟨g,fun a b ha hb=>⟨h1 a b ha hb,fun h=>?_⟩,h3⟩
  rcases h2 a b ha hb (by rintro rfl; omega) with k | k
  ·exact k
  have:=h1 b a hb ha k; omega
theorem zp7 {p:List Txt} {below:Bool} {f:Nat→Nat} (hf:∀ a b,a<(rP p).length→b<(rP p).length→(bfK p below a b=true↔f a<f b)) {a:Nat} (ha:a<(rP p).length):ahK p below a=ahead (rP p).length f a:=by
 unfold ahK ahead
 apply List.countP_congr
 intro b hb
 rw [hf b a (by simpa using hb) ha]; simp
theorem zo9 {f g:Nat→Nat} {n:Nat}:∀ k,(∀ a,a<k→f a=g a)→zgt f n k=zgt g n k
 | 0,_=>rfl
 | k+1,h=>by unfold zgt; rw [zo9 k fun a ha=>h a (by omega),h k (by omega)]
def srt (p:List Txt) (below:Bool):List Int:=zgt (ahK p below) (rP p).length (rP p).length
theorem zi2 {p:List Txt} {below:Bool}:(srt p below).length=(rP p).length:=zij _
theorem z9v {p:List Txt} {below:Bool} {f:Nat→Nat} (hf:∀ a b,a<(rP p).length→b<(rP p).length→(bfK p below a b=true↔f a<f b)) (hi:∀ a b,a<(rP p).length→b<(rP p).length→f a=f b→a=b)
  {z:List Int} (hz:z.Perm (rooms (rP p).length)) (hs:(z.map fun x=>((f x.toNat:Nat):Int)).Pairwise (· ≤ ·)):z=srt p below:=by
 rw [z5v hi hz hs]
 exact (zo9 _ fun a ha=>zp7 hf ha).symm
end
section
section
variable {p:List Txt} {below:Bool}
theorem z3w (hp:zca p=true) (below:Bool):(srt p below).Perm (rooms (rP p).length):=by
 obtain ⟨f,hf,hi⟩:=zlg hp below
 have h1:((rooms (rP p).length).mergeSort fun x y=>decide (f x.toNat≤f y.toNat)).Perm (rooms (rP p).length):=List.mergeSort_perm _ _
 have h2:(((rooms (rP p).length).mergeSort fun x y=>decide (f x.toNat≤f y.toNat)).map fun x=>((f x.toNat:Nat):Int)).Pairwise (· ≤ ·):=by
  rw [List.pairwise_map]
  refine (List.pairwise_mergeSort (fun a b c h k=>?_) (fun a b=>?_) _).imp fun {a b} h=>?_
  ·simp only[decide_eq_true_eq]at h k ⊢; omega
  ·simp only[Bool.or_eq_true,decide_eq_true_eq]; omega
  simp only[decide_eq_true_eq]at h; omega
 rw [← z9v hf hi h1 h2]
 exact h1
theorem yf3 (hp:zca p=true) {x:Int}:x∈srt p below↔0≤x∧x<(rP p).length:=by
 rw [(z3w hp below).mem_iff,zq8]
theorem zzg (hp:zca p=true):(srt p below).Nodup:=(z3w hp below).nodup_iff.2 (zrc _)
theorem ycv (hp:zca p=true) {a:Nat} (ha:a<(rP p).length):ahK p below a<(rP p).length:=by
 obtain ⟨f,hf,hi⟩:=zlg hp below
 rw [zp7 hf ha]; exact zzs ha
theorem zuz (hp:zca p=true) {a b:Nat} (ha:a<(rP p).length) (hb:b<(rP p).length):bfK p below a b=true↔ahK p below a<ahK p below b:=by
 obtain ⟨f,hf,hi⟩:=zlg hp below
 rw [zp7 hf ha,zp7 hf hb,hf a b ha hb]
 constructor
 ·intro h; exact zpl ha h
 intro h
 refine Classical.byContradiction fun k=>?_
 rcases Nat.lt_trichotomy (f a) (f b) with q | q | q
 ·exact k q
 ·have:=hi a b ha hb q; subst this; omega
 have:=zpl (n:=(rP p).length) hb q; omega
theorem z6c (hp:zca p=true) {a b:Nat} (ha:a<(rP p).length) (hb:b<(rP p).length) (h:ahK p below a=ahK p below b):a=b:=by
 obtain ⟨f,hf,hi⟩:=zlg hp below
 rw [zp7 hf ha,zp7 hf hb]at h
 exact zwl hi ha hb h
theorem ydx (hp:zca p=true) {a:Nat} (ha:a<(rP p).length):(srt p below)[ahK p below a]?=some (a:Int) :=
 zrs (fun a ha=>ycv hp ha) (fun a b ha hb h=>z6c hp ha hb h) _ (qR _) a ha
theorem zv4 (hp:zca p=true) {i:Nat} (hi:i<(rP p).length):∃ a,a<(rP p).length∧ahK p below a=i∧(srt p below)[i]?=some (a:Int):=by
 obtain ⟨x,hx,hm⟩:=zaf (show i<(srt p below).length by rw [zi2]; exact hi)
 obtain ⟨h1,h2⟩:=(yf3 hp).1 hm
 refine ⟨x.toNat,by omega,?_,by rw [hx]; congr 1; omega⟩
 have h3:=ydx (below:=below) hp (a:=x.toNat) (by omega)
 have e:((x.toNat:Nat):Int)=x:=by omega
 rw [e]at h3
 have k1:=zbd h3
 have k2:=zbd hx
 rw [List.getElem?_eq_getElem k1]at h3
 rw [List.getElem?_eq_getElem k2]at hx
 exact zrb (zzg hp) k1 k2 ((Option.some.inj h3).trans (Option.some.inj hx).symm)
def zd3 (p:List Txt):List Int:=(srt p true).map fun x=>((ahK p false x.toNat:Nat):Int)
theorem zfq:(zd3 p).length=(rP p).length:=by simp [zd3,zi2]
theorem z22 (hp:zca p=true) {i a:Nat} (h:(srt p true)[i]?=some (a:Int)):(zd3 p)[i]?=some ((ahK p false a:Nat):Int):=by
 unfold zd3
 rw [List.getElem?_map,h]
 simp
def ybq (p:List Txt):Nat→List Int
 | 0=>List.replicate (rP p).length 0
 | i+1=>(ybq p i).set (zoy (srt p false) i).toNat (i:Int)
theorem zp0:∀ i,(ybq p i).length=(rP p).length
 | 0=>by simp [ybq]
 | i+1=>by simp [ybq,zp0 i]
theorem z8t (hp:zca p=true):∀ i,i≤(rP p).length→∀ a,a<(rP p).length→ahK p false a<i→(ybq p i)[a]?=some ((ahK p false a:Nat):Int)
 | 0,_,a,_,h=>by omega
 | i+1,hi,a,ha,h=>by
  obtain ⟨b,hb,hb2,hb3⟩:=zv4 (below:=false) hp (show i<(rP p).length by omega)
  unfold ybq
  rw [z7k hb3,Int.toNat_natCast,List.getElem?_set,zp0]
  by_cases e:b=a
  ·subst e; rw [if_pos rfl,if_pos hb,hb2]
  rw [if_neg e]
  refine z8t hp i (by omega) a ha ?_
  refine Classical.byContradiction fun k=>e (z6c (below:=false) hp hb ha (by omega))
end
end
section
section
variable {M:List (List Bool)} {ms:List Nat} {ws:List Int} {n:Nat} {rk:Nat→Nat}
def revM (n:Nat) (M:List (List Bool)):List (List Bool):=(List.range n).map fun a=>(List.range n).map fun b=>zdc M b a
def bhB (sets:List Nat) (needs:List Int) (a:Nat) (out:List Int) (b:Nat):List Int :=
 if zqg sets a b then out.set a (max (zoy out a) (zoy out b+zoy needs b)) else out
def bhA (sets:List Nat) (needs:List Int) (out:List Int) (a:Nat):List Int:=(List.range needs.length).foldl (bhB sets needs a) out
def bhN (sets:List Nat) (needs:List Int) (out:List Int) (_:Nat):List Int:=(List.range needs.length).foldl (bhA sets needs) out
def behind (sets:List Nat) (needs:List Int):List Int:=(List.range needs.length).foldl (bhN sets needs) (List.replicate needs.length 0)
end
end
def domB (x:Int × Int) (w h:Int):Bool:=decide (x.1≤w) && decide (x.2≤h)
def yfl (w h:Int) (s:List (Int × Int) × Bool) (x:Int × Int):List (Int × Int) × Bool :=
 if w≤x.1∧h≤x.2 then s else if s.2=false∧w<x.1 then (s.1++[(w,h),x],true) else (s.1++[x],s.2)
def yi7 (l:List (Int × Int)) (w h:Int):List (Int × Int) × Bool:=l.foldl (yfl w h) ([],false)
def put (l:List (Int × Int)) (w h:Int):List (Int × Int):=if l.any (fun x=>domB x w h) then l else if (yi7 l w h).2 then (yi7 l w h).1 else (yi7 l w h).1++[(w,h)]
section
theorem z9k {f:Nat→Bool}:∀ {n:Nat},(∀ r s,r<n→s<n→f r=true→f s=true→r=s)→sN n (fun r=>b1 (f r))≤1:=by
 intro n
 induction n with
 | zero=>intro _; simp [sN]
 | succ n ih =>
  intro h
  show sN n (fun r=>b1 (f r))+b1 (f n)≤1
  have:=ih fun r s hr hs=>h r s (by omega) (by omega)
  cases hf:f n with
  | false=>simp [b1]; exact this
  | true =>
   have e:sN n (fun r=>b1 (f r))=sN n (fun _=>0):=ze5 fun i hi=>by
    cases hi2:f i with
    | false=>rfl
    | true=>have:=h i n (by omega) (by omega) hi2 hf; omega
   rw [e,zr2]; simp [b1]
section
variable {M:List (List Bool)} {ws:List Int} {n:Nat} {rk:Nat→Nat}
theorem yg1 (b:Nat):0≤beg M ws n b:=z7m n
theorem yg0 {a b:Nat} (ha:a<n) (h:zdc M a b=true):HB M ws n a≤beg M ws n b:=yc6 ha h
end
end

section
variable {M:List (List Bool)} {ms:List Nat} {n:Nat} {rk:Nat→Nat} {ws out:List Int}
abbrev ones (n:Nat):List Int:=List.replicate n 1
def RB (M:List (List Bool)) (n b:Nat):Int:=HB (revM n M) (ones n) n b
def yin (M:List (List Bool)) (n:Nat) (out:List Int):Prop:=out.length=n∧∀ a,a<n→0≤zoy out a∧zoy out a≤RB M n a
theorem yin.set (h:yin M n out) {a:Nat} {v:Int} (ha:a<n) (h0:0≤v) (h1:v≤RB M n a):yin M n (out.set a v):=by
 refine ⟨by simp [h.1],fun y hy=>?_⟩
 rw [ya4 (by rw [h.1]; exact ha)]
 split
 ·rename_i e; subst e; exact ⟨h0,h1⟩
 exact h.2 y hy
end
section
variable {p:List Txt}
def stp (f:Nat→Int) (i n:Nat):List Int:=(List.range n).map fun k=>if k<i then f k else 0
theorem z9w {f:Nat→Int} {i n:Nat}:(stp f i n).length=n:=by simp [stp]
theorem ycb {f:Nat→Int} {n:Nat}:stp f 0 n=List.replicate n 0:=by
 apply List.ext_getElem?
 intro j
 by_cases h:j<n <;> simp [stp,h]
theorem yf6 {f:Nat→Int} {i n:Nat}:(stp f i n).set i (f i)=stp f (i+1) n:=by
 apply List.ext_getElem?
 intro j
 rw [List.getElem?_set,z9w]
 by_cases e:i=j
 ·subst e
  by_cases h:i<n <;> simp [stp,h]
 rw [if_neg e]
 by_cases h:j<n
 ·simp only[stp,List.getElem?_map,List.getElem?_range h,qO]
  congr 1
  by_cases h2:j<i
  ·rw [if_pos h2,if_pos (by omega)]
  rw [if_neg h2,if_neg (by omega)]
 simp [stp,h]
end
def bgT (c:Nat→Nat→Int) (nw i:Nat):List (List Int):=(List.range i).map fun r=>(List.range nw).map (c r)
theorem yf5 {f:Nat→Int} {n:Nat}:stp f n n=(List.range n).map f:=by
 unfold stp
 refine List.map_congr_left fun k hk=>?_
 rw [if_pos (List.mem_range.1 hk)]
theorem PC.old {P:Program} {f:FuncId} {args:List PV} {r:PV} (h:PC P f args r true):PC P f args r false :=
 ⟨h.ent,fun F w c h1 h2 h3=>(h.run F w c h1 h2 h3).mono fun _ _ ⟨cv,a,b,d⟩=>⟨cv,a,b,d.mono (fun _ hb => .inl (hb.resolve_right (by simp))) (fun _ _=>rfl)⟩⟩
section
theorem Ev.fz {P:Program} {f:FuncId} {args:List PV} {S:Store} {J J':PV→Store→Prop} (h:Ev P f args S J) (lo:Nat)
  (hJ:∀ v S1,J v S1→∃ v' S',frz S1 lo 10 v=some v'∧S1.frz lo=some S'∧J' v' S'):Ev P f args S J':=by
 refine ⟨h.ent,fun F G w cargs h1 h2 h3 h4=>(h.run F G w cargs h1 h2 h3 h4).mono ?_⟩
 rintro en w' ⟨v,cv,F',G',rfl,k1,k2,k3,k4⟩
 obtain ⟨v',S',j1,j2,j3⟩:=hJ _ _ k1
 obtain ⟨G2,rfl,i1,i2⟩:=z19 k2 j2
 exact ⟨v',cv,_,G2,rfl,j3,i1,k3.trans i2,zjn k2 (fun _ h=>h) i2 k4 j1⟩
theorem PC.all {P:Program} {f:FuncId} {xs ts:List PV} {r:PV} {fr:Bool} {S:Store} (h:PC P f ts r fr) (h1:xs.mapM (rfz S 0 10)=some ts):Ev P f xs S fun v S'=>v=r∧S'=⟨[],S.tick⟩:=by
 refine ⟨h.ent,fun F G w cargs hS hi hl hv=>?_⟩
 subst hS
 obtain ⟨m1,m2⟩:=zci _ _ h1
 have hF:∀ b,zno F G 0 b→b<w.heap.size:=by
  rintro b (hb | ⟨o,x,-,hx,rfl⟩)
  ·exact hi.fr b hb
  exact hi.blk_lt hx
 refine (h.run (zno F G 0) w cargs hF (by omega) fun i p c q1 q2=>?_).mono ?_
 ·obtain ⟨x,x1,x2⟩:=m2 i p q1
  exact zna hi (hv i x c x1 q2) x2
 rintro e w' ⟨cv,rfl,⟨hb,hd⟩,hvi⟩
 refine ⟨r,cv,fun b=>zno F G 0 b∨(w.heap.size≤b∧b<w'.heap.size),⟨[],G.tick⟩,rfl,⟨rfl,rfl⟩,⟨?_,by simp,by simp,by simp,by simp,by simp,by simp⟩,⟨hb.os,hb.tape,hb.output,hb.size,fun b hb => .inl (.inl hb),?_,by simp,qR _,fun b h2 _=>hb.block b h2,by simp,hd⟩,.imm _ _ (hvi.mono ?_ (fun _ _=>rfl))⟩
 ·rintro b (h2 | h2)
  ·exact Nat.lt_of_lt_of_le (hF b h2) hb.size
  exact h2.2
 ·rintro b ((h2 | ⟨o,x,-,hx,rfl⟩) | h2)
  ·exact .inl h2
  ·exact .inr (.inr ⟨o,x,hx,rfl⟩)
  exact .inr (.inl h2.1)
 rintro b (h2 | ⟨-,h2⟩)
 ·exact .inr h2
 exact .inl h2
section
variable {P:Program} {T:Tab} {Q:Exit→Env→Store→Prop} {e:Env} {S:Store} {b:Code}
end
end
def sf (k r:Nat):Nat→PV→Option PV
 | 0,_=>none
 | d+1,p =>
  match p with
  | .int a b=>some (.int a b)
  | .bool b=>some (.bool b)
  | .str s=>some (.str s)
  | .nilp=>some .nilp
  | .nilf=>some .nilf
  | .yl l=>some (.yl l)
  | .nilm=>some .nilm
  | .nils=>some .nils
  | .undef=>some .undef
  | .agg cs=>(cs.mapM (sf k r d)).map .agg
  | .tup cs=>(cs.mapM (sf k r d)).map .tup
  | .fn f cs=>(cs.mapM (sf k r d)).map (.fn f)
  | .sl cs n=>if cs.isEmpty then some (.sl [] n) else none
  | .loc o ver off n=>some (.loc (if o<k then o else o+r) ver off n)
  | .ref o ver off=>some (.ref (if o<k then o else o+r) ver off)
  | .mp o ver=>some (.mp (if o<k then o else o+r) ver)
  | .ip _ _=>none
  | .bm _ _=>none
def z3q (k r:Nat):Ob→Option Ob
 | .arr v et sz cells=>(cells.mapM (sf k r 10)).map (.arr v et sz ·)
 | .map v es=>(es.mapM fun q=>(sf k r 10 q.1).bind fun a=>(sf k r 10 q.2).map fun b=>(a,b)).map (.map v ·)
 | .lp v l q tmps=>some (.lp v l q tmps)
def zr7 (k r:Nat):List Ob→Option (List Ob)
 | []=>some []
 | o::l=>(z3q k r o).bind fun a=>(zr7 k r l).map (a :: ·)
theorem zy8 {k r:Nat}:∀ {l l':List Ob},zr7 k r l=some l'→l.length=l'.length∧∀ (i:Nat) ob',l'[i]?=some ob'→∃ ob,l[i]?=some ob∧z3q k r ob=some ob'
 | [],l',h=>by simp [zr7]at h; subst h; simp
 | o::l,l',h=>by
  simp only[zr7]at h
  rw [Option.bind_eq_some_iff]at h
  obtain ⟨a,h1,h⟩:=h
  rw [qI]at h
  obtain ⟨q,h2,rfl⟩:=h
  obtain ⟨h3,h4⟩:=zy8 h2
  refine ⟨by simp [h3],?_⟩
  rintro (_ | i) ob' hi
  ·simp at hi; subst hi; exact ⟨o,rfl,h1⟩
  simp at hi; obtain ⟨ob,h5,h6⟩:=h4 i ob' hi; exact ⟨ob,by simpa using h5,h6⟩
theorem znh {k r:Nat} {ob ob':Ob} (h:z3q k r ob=some ob'):ob.ver=ob'.ver∧ob.like ob':=by
 cases ob with
 | arr v et sz cells=>simp only[z3q]at h; rw [qI]at h; obtain ⟨_,_,rfl⟩:=h; simp [Ob.ver,Ob.like]
 | map v es=>simp only[z3q]at h; rw [qI]at h; obtain ⟨_,_,rfl⟩:=h; simp [Ob.ver,Ob.like]
 | lp _ _ _ _=>simp only[z3q]at h; cases h; simp [Ob.ver,Ob.like]
theorem yfv {k r:Nat}:∀ {d:Nat} {p q:PV},sf k r d p=some q→p.isCell=true→q.isCell=true
 | 0,p,q,h,_=>by simp [sf]at h
 | d+1,p,q,h,hp=>by
  cases p <;> simp only[sf]at h <;> first
   | (cases h; rfl)
   | (simp [PV.isCell]at hp; done)
   | (cases h; done)
   | (rw [qI]at h; obtain ⟨_,_,rfl⟩:=h; rfl)
   | (split at h <;> first | (cases h; rfl) | (cases h; done))
structure Shf (G1 G2:GSt) (k r:Nat):Prop where
 tick:G1.tick≤G2.tick
 get:∀ (o:Nat) ob' l,G2.obs[if o<k then o else o+r]?=some (ob',l)→∃ ob,G1.obs[o]?=some (ob,l)∧ob.like ob'∧ob.ver=ob'.ver
theorem zni {w:World} {F F':Nat→Prop} {G G':GSt} {k r:Nat} (hs:Shf G G' k r):∀ {d:Nat} {p q:PV} {cv:Value},VR w.heap F G p cv→sf k r d p=some q→VR w.heap F' G' q cv
 | 0,p,q,cv,_,h=>by simp [sf]at h
 | d+1,p,q,cv,hv,h=>by
  have rowVR:∀ {cs ts:List PV} {vs:Array Value},cs.length=vs.size→(∀ (i:Nat) p v,cs[i]?=some p→vs[i]?=some v→VR w.heap F G p v)→cs.mapM (sf k r d)=some ts →
    ts.length=vs.size∧∀ (i:Nat) p v,ts[i]?=some p→vs[i]?=some v→VR w.heap F' G' p v:=by
   intro cs ts vs hl hp hm
   obtain ⟨h1,h2⟩:=zci _ _ hm
   refine ⟨by omega,fun i p v q1 q2=>?_⟩
   obtain ⟨x,h3,h4⟩:=h2 i p q1
   exact zni hs (hp i x v h3 q2) h4
  cases p with
  | int a b=>simp only[sf]at h; cases h; rw [hv.int]; exact .imm _ _ (.int _ _)
  | bool b=>simp only[sf]at h; cases h; rw [hv.bool]; exact .imm _ _ (.bool _)
  | str s=>simp only[sf]at h; cases h; obtain ⟨b,rfl,hb⟩:=hv.str; exact .imm _ _ (.str _ _ hb)
  | nilp=>simp only[sf]at h; cases h; cases hv with | imm _ _ hv=>cases hv; exact .imm _ _ .nilp
  | nilf=>simp only[sf]at h; cases h; cases hv with | imm _ _ hv=>cases hv; exact .imm _ _ .nilf
  | yl l=>simp only[sf]at h; cases h; cases hv with | imm _ _ hv=>cases hv; exact .imm _ _ (.yl _)
  | nilm=>simp only[sf]at h; cases h; cases hv with | imm _ _ hv=>cases hv; exact .imm _ _ .nilm
  | nils=>simp only[sf]at h; cases h; cases hv with | imm _ _ hv=>cases hv; exact .imm _ _ .nils
  | undef=>simp only[sf]at h; cases h; exact .imm _ _ (.undef _)
  | agg cs =>
   simp only[sf]at h
   rw [qI]at h
   obtain ⟨ts,h1,rfl⟩:=h
   obtain ⟨vs,rfl,h2,h3⟩:=hv.agg'
   obtain ⟨h4,h5⟩:=rowVR h2 h3 h1
   exact .agg _ _ h4 h5
  | tup cs =>
   simp only[sf]at h
   rw [qI]at h
   obtain ⟨ts,h1,rfl⟩:=h
   obtain ⟨vs,rfl,h2,h3⟩:=hv.tup'
   obtain ⟨h4,h5⟩:=rowVR h2 h3 h1
   exact .tup _ _ h4 h5
  | fn g cs =>
   simp only[sf]at h
   rw [qI]at h
   obtain ⟨ts,h1,rfl⟩:=h
   have:∃ vs:Array Value,cv = .func (.func g) #[] vs∧cs.length=vs.size∧∀ (i:Nat) p v,cs[i]?=some p→vs[i]?=some v→VR w.heap F G p v:=by
    cases hv with
    | imm _ _ hv=>cases hv with | fn _ _ vs h2 h3=>exact ⟨vs,rfl,h2,fun i p v a b => .imm _ _ (h3 i p v a b)⟩
    | fn _ _ vs h2 h3=>exact ⟨vs,rfl,h2,h3⟩
   obtain ⟨vs,rfl,h2,h3⟩:=this
   obtain ⟨h4,h5⟩:=rowVR h2 h3 h1
   exact .fn _ _ _ h4 h5
  | sl cs n =>
   simp only[sf]at h
   split at h
   ·rename_i hc
    cases h
    simp only[List.isEmpty_iff]at hc
    subst hc
    cases hv with
    | imm _ _ hv =>
     cases hv with
     | sl0=>exact .imm _ _ .sl0
     | sl _ _ b off cap g h1 h2 h3 h4=>exact .imm _ _ (.sl _ _ b off cap g (fun h=>absurd rfl h) h2 (by simp) (by simp))
   cases h
  | ip cs n=>simp only[sf]at h; cases h
  | bm g b=>simp only[sf]at h; cases h
  | loc o ver off n =>
   simp only[sf]at h
   cases h
   cases hv with
   | imm _ _ hv=>cases hv
   | loc _ _ _ _ a len cap hv k' =>
    refine .loc _ _ _ _ a len cap (Nat.lt_of_lt_of_le hv hs.tick) fun ob' l hg he=>?_
    obtain ⟨ob,h1,h2,h3⟩:=hs.get o ob' l hg
    obtain ⟨et2,sz2,cells2,q1,q2⟩:=k' ob l h1 (by omega)
    subst q1
    cases ob' with
    | arr v3 et3 sz3 cells3 =>
     simp only[Ob.like]at h2
     obtain ⟨rfl,rfl⟩:=h2
     exact ⟨_,_,cells3,by simp only[Ob.ver]at he; rw [he],q2⟩
    | map v3 es=>exact h2.elim
    | lp _ _ _ _=>exact h2.elim
  | ref o ver off =>
   simp only[sf]at h
   cases h
   cases hv with
   | imm _ _ hv=>cases hv
   | ref _ _ _ a hv k' =>
    refine .ref _ _ _ a (Nat.lt_of_lt_of_le hv hs.tick) fun ob' l hg he=>?_
    obtain ⟨ob,h1,h2,h3⟩:=hs.get o ob' l hg
    obtain ⟨et2,sz2,cells2,q1,q2⟩:=k' ob l h1 (by omega)
    subst q1
    cases ob' with
    | arr v3 et3 sz3 cells3 =>
     simp only[Ob.like]at h2
     obtain ⟨rfl,rfl⟩:=h2
     exact ⟨_,_,cells3,by simp only[Ob.ver]at he; rw [he],q2⟩
    | map v3 es=>exact h2.elim
    | lp _ _ _ _=>exact h2.elim
  | mp o ver =>
   simp only[sf]at h
   cases h
   cases hv with
   | imm _ _ hv=>cases hv
   | mp _ _ a hv k' =>
    refine .mp _ _ a (Nat.lt_of_lt_of_le hv hs.tick) fun ob' l hg he=>?_
    obtain ⟨ob,h1,h2,h3⟩:=hs.get o ob' l hg
    obtain ⟨es,q1,q2⟩:=k' ob l h1 (by omega)
    subst q1
    cases ob' with
    | arr v3 et3 sz3 cells3=>exact h2.elim
    | map v3 es3=>exact ⟨es3,by simp only[Ob.ver]at he; rw [he],q2⟩
    | lp _ _ _ _=>exact h2.elim
theorem z5q {w:World} {F F':Nat→Prop} {G G':GSt} {k r:Nat} (hs:Shf G G' k r) {ob ob':Ob} {l:Lc} (hl:∀ v b q tm,ob ≠ .lp v b q tm) (h:z3q k r ob=some ob') (hh:Holds w.heap F G w.heap ob l):Holds w.heap F' G' w.heap ob' l:=by
 cases ob with
 | arr v et sz cells =>
  simp only[z3q]at h
  rw [qI]at h
  obtain ⟨cs',k3,rfl⟩:=h
  obtain ⟨m1,m2⟩:=zci _ _ k3
  obtain ⟨cs,q1,q2,q3,q4⟩:=hh
  refine ⟨cs,q1,q2,by omega,fun i p hp=>?_⟩
  obtain ⟨x,x1,x2⟩:=m2 i p hp
  obtain ⟨c1,v1,v2,v3⟩:=q4 i x x1
  exact ⟨yfv x2 c1,v1,v2,zni hs v3 x2⟩
 | map v es2 =>
  simp only[z3q]at h
  rw [qI]at h
  obtain ⟨es',k3,rfl⟩:=h
  obtain ⟨m1,m2⟩:=zjr _ _ k3
  obtain ⟨ents,clock,q1,q2,q3⟩:=hh
  refine ⟨ents,clock,q1,by omega,fun i k v hp=>?_⟩
  obtain ⟨x,x1,x2⟩:=m2 i (k,v) hp
  obtain ⟨en,e1,e2,e3⟩:=q3 i x.1 x.2 x1
  rw [Option.bind_eq_some_iff]at x2
  obtain ⟨a,y1,y2⟩:=x2
  rw [qI]at y2
  obtain ⟨b,y3,y4⟩:=y2
  cases y4
  exact ⟨en,e1,zni hs e2 y1,zni hs e3 y3⟩
 | lp v b2 r2 tmps2=>exact absurd rfl (hl v b2 r2 tmps2)
def zss:List Ob→List Ob→Prop
 | _,[]=>True
 | obs,ob1::r1 =>
  (match ob1 with
  | .lp _ l q tm=>(match obs with
   | .lp _ l0 q0 tm0::_=>l=l0∧q.1.tmps=q0.1.tmps∧q.2=q0.2∧tm=tm0
   | _=>False)
  | _=>True)∧zss obs.tail r1
theorem zss.get:∀ {obs obs1:List Ob},zss obs obs1→∀ (i:Nat) ver l q tm,obs1[i]?=some (.lp ver l q tm)→∃ ver0 q0,obs[i]?=some (.lp ver0 l q0 tm)∧q.1.tmps=q0.1.tmps∧q.2=q0.2
 | obs,[],_,i,_,_,_,_,h=>by simp at h
 | obs,ob1::r1,h,0,ver,l,q,tm,hi=>by
  simp at hi
  subst hi
  obtain ⟨h1,-⟩:=h
  cases obs with
  | nil=>exact h1.elim
  | cons a obs =>
   cases a with
   | lp v0 l0 q0 tm0=>obtain ⟨rfl,e2,e3,rfl⟩:=h1; exact ⟨v0,q0,rfl,e2,e3⟩
   | _=>exact h1.elim
 | obs,ob1::r1,h,i+1,ver,l,q,tm,hi=>by
  obtain ⟨ver0,q0,k1,k2⟩:=h.2.get i ver l q tm (by simpa using hi)
  refine ⟨ver0,q0,?_,k2⟩
  cases obs with
  | nil=>simp at k1
  | cons a obs=>simpa using k1
def Lent (S:Store) (lo:Nat):List PV→List PV→Prop
 | [],[]=>True
 | p::ps,q::qs=>(q = .undef∨frz S lo 10 p=some q)∧Lent S lo ps qs
 | _,_=>False
theorem Lent.get {S:Store} {lo:Nat}:∀ {ps qs:List PV},Lent S lo ps qs→ps.length=qs.length∧∀ (i:Nat) q,qs[i]?=some q→∃ p,ps[i]?=some p∧(q = .undef∨frz S lo 10 p=some q)
 | [],[],_=>by simp
 | p::ps,q::qs,h=>by
  obtain ⟨h1,h2⟩:=h
  obtain ⟨k1,k2⟩:=h2.get
  refine ⟨by simp [k1],?_⟩
  rintro (_ | i) z hz
  ·simp at hz; subst hz; exact ⟨p,rfl,h1⟩
  simp at hz; obtain ⟨u,u1,u2⟩:=k2 i z hz; exact ⟨u,by simpa using u1,u2⟩
 | [],_::_,h=>h.elim
 | _::_,[],h=>h.elim
theorem Ev.lend {P:Program} {f:FuncId} {args args0:List PV} {obs R:List Ob} {t:Nat} {J J':PV→Store→Prop} (h:Ev P f args0 ⟨obs,t⟩ J) (ha:Lent ⟨obs++R,t⟩ obs.length args args0)
  (hJ:∀ v S,J v S→∃ v' obs',sf obs.length R.length 10 v=some v'∧zr7 obs.length R.length S.obs=some obs'∧obs.length≤obs'.length∧zss obs S.obs∧J' v' ⟨obs'.take obs.length++R++obs'.drop obs.length,S.tick⟩) :
  Ev P f args ⟨obs++R,t⟩ J':=by
 refine ⟨h.ent,?_⟩
 intro F G w cargs hS hi hl hv
 obtain ⟨ha1,ha2⟩:=ha.get
 have hobs:G.obs.map (·.1)=obs++R:=congrArg Store.obs hS
 have hlen:G.obs.length=obs.length+R.length:=by rw [← List.length_map (f:=(·.1)),hobs,List.length_append]
 have e1:(G.take obs.length).er=⟨obs,t⟩:=by rw [zka,hS]; simp [Store.take]
 obtain ⟨i0,n0⟩:=zfu hi obs.length
 let F0:Nat→Prop:=zno F G obs.length
 have n1:Next F G w F0 (G.take obs.length) w:=by
  refine ⟨rfl,rfl,rfl,qR _,fun b hb => .inl hb,?_,n0.gnew,qR _,fun _ _ _=>rfl,n0.hand,qR _⟩
  rintro b (hb | ⟨o,x,_,hx,rfl⟩)
  ·exact .inl hb
  exact .inr (.inr ⟨o,x,hx,rfl⟩)
 have tlt:∀ {o:Nat} {x:Ob × Lc},(G.take obs.length).obs[o]?=some x→o<obs.length:=by
  intro o x ho
  have:=(List.getElem?_eq_some_iff.1 ho).1
  simp only[GSt.take,List.length_take]at this; omega
 have i1:Inv F0 (G.take obs.length) w:=by
  refine zi7 ?_ i0.ver ?_ (fun o ob l hx=>(hi.holds (zcx hx)).next hi n1 rfl) i0.inj
  ·rintro b (hb | ⟨o,x,_,hx,rfl⟩)
   ·exact hi.fr b hb
   exact hi.blk_lt hx
  rintro o ob l hx (hb | ⟨o',x,hlo,hx',e⟩)
  ·exact i0.nF o ob l hx hb
  have:=hi.inj o' o _ _ hx' (zcx hx) e
  have:=tlt hx
  omega
 refine Calls.mono (h.run F0 (G.take obs.length) w cargs e1 i1 (by omega) fun i p c q1 q2=>?_) ?_
 ·obtain ⟨p',p1,p2⟩:=ha2 i p q1
  rcases p2 with rfl | p2
  ·exact .imm _ _ (.undef _)
  rw [← hS]at p2
  exact zjn hi (fun _ h=>h) n1 (hv i p' c p1 q2) p2
 rintro e w' ⟨v,cv,F1,G1,rfl,hj,i2,n2,r2⟩
 obtain ⟨v',obs',j1,j2,j3,j7,j4⟩:=hJ _ _ hj
 obtain ⟨j5,j6⟩:=zy8 j2
 have hG1:G1.obs.length=obs'.length:=by rw [← j5]; simp [GSt.er]
 let Lb:Nat→Prop:=fun b=>∃ (o:Nat) (x:Ob × Lc),obs.length≤o∧G.obs[o]?=some x∧x.2.blk=b
 let F':Nat→Prop:=fun b=>F1 b∧¬ Lb b
 let G2:List (Ob × Lc):=List.zipWith (fun ob (x:Ob × Lc)=>(ob,x.2)) obs' G1.obs
 have hG2:G2.length=obs'.length:=by simp [G2,hG1]
 have g2:∀ (o:Nat) ob l,G2[o]?=some (ob,l)→∃ ob1,G1.obs[o]?=some (ob1,l)∧z3q obs.length R.length ob1=some ob:=by
  intro o ob l ho
  simp only[G2,List.getElem?_zipWith]at ho
  cases hx:obs'[o]? with
  | none=>rw [hx]at ho; simp at ho
  | some a =>
   cases hb:G1.obs[o]? with
   | none=>rw [hx,hb]at ho; simp at ho
   | some x =>
    rw [hx,hb]at ho
    simp at ho
    obtain ⟨rfl,rfl⟩:=ho
    obtain ⟨ob1,k1,k2⟩:=j6 o a hx
    have:G1.er.obs[o]?=some x.1:=by simp [GSt.er,hb]
    rw [this]at k1
    cases k1
    exact ⟨x.1,rfl,k2⟩
 let G':GSt:=⟨G2.take obs.length++G.obs.drop obs.length++G2.drop obs.length,G1.tick⟩
 have hR:(G.obs.drop obs.length).length=R.length:=by rw [List.length_drop]; omega
 have hT:(G2.take obs.length).length=obs.length:=by rw [List.length_take]; omega
 -- where an object of G' comes from
 have from':∀ (o:Nat) ob l,G'.obs[o]?=some (ob,l)→(∃ (o1:Nat) (ob1:Ob),G1.obs[o1]?=some (ob1,l)∧z3q obs.length R.length ob1=some ob∧o=(if o1<obs.length then o1 else o1+R.length))∨(obs.length≤o∧o<obs.length+R.length∧G.obs[o]?=some (ob,l)):=by
  intro o ob l hx
  simp only[G']at hx
  by_cases h1:o<obs.length
  ·rw [List.append_assoc,List.getElem?_append_left (by omega),List.getElem?_take,if_pos h1]at hx
   obtain ⟨ob1,k1,k2⟩:=g2 o ob l hx
   exact .inl ⟨o,ob1,k1,k2,by rw [if_pos h1]⟩
  by_cases h2:o<obs.length+R.length
  ·rw [List.append_assoc,List.getElem?_append_right (by omega),List.getElem?_append_left (by omega),List.getElem?_drop,hT,show obs.length+(o - obs.length)=o by omega]at hx
   exact .inr ⟨by omega,h2,hx⟩
  rw [List.getElem?_append_right (by rw [List.length_append]; omega),List.length_append,hT,hR,List.getElem?_drop,show obs.length+(o - (obs.length+R.length))=o - R.length by omega]at hx
  obtain ⟨ob1,k1,k2⟩:=g2 _ ob l hx
  exact .inl ⟨o - R.length,ob1,k1,k2,by rw [if_neg (by omega)]; omega⟩
 have shf:Shf G1 G' obs.length R.length:=by
  refine ⟨qR _,fun o ob' l hg=>?_⟩
  rcases from' _ _ _ hg with ⟨o1,ob1,k1,k2,k3⟩ | ⟨k1,k2,_⟩
  ·have:o1=o:=by split at k3 <;> split at k3 <;> omega
   subst this
   exact ⟨ob1,k1,(znh k2).2,(znh k2).1⟩
  exfalso; split at k1 <;> split at k2 <;> omega
 have old:∀ o x,obs.length≤o→G.obs[o]?=some x→∀ (o':Nat) y,(G.take obs.length).obs[o']?=some y→y.2.blk≠x.2.blk:=by
  intro o x ho hx o' y hy e
  have:=hi.inj o' o y x (zcx hy) hx e
  have:=tlt hy
  omega
 have lent:∀ o x,obs.length≤o→G.obs[o]?=some x→w'.heap[x.2.blk]?=w.heap[x.2.blk]?:=fun o x ho hx=>n2.frozen i1 _ (.inr ⟨o,x,ho,hx,rfl⟩)
 have nx:Next F G w F' G' w':=by
  refine ⟨n2.os,n2.tape,n2.output,n2.size,fun b hb=>⟨n2.fsub b (.inl hb),?_⟩,?_,?_,n2.tick,?_,?_,n2.drawn⟩
  ·rintro ⟨o,⟨ob,l⟩,_,hx,rfl⟩; exact hi.nF o ob l hx hb
  ·rintro b ⟨hb,hnl⟩
   rcases n2.fnew b hb with h1 | h1 | ⟨o,x,hx,e⟩
   ·rcases h1 with h1 | h1
    ·exact .inl h1
    exact absurd h1 hnl
   ·exact .inr (.inl h1)
   exact .inr (.inr ⟨o,x,zcx hx,e⟩)
  ·rintro o ⟨ob,l⟩ hx
   rcases from' _ _ _ hx with ⟨o1,ob1,k1,_,_⟩ | ⟨_,_,k1⟩
   ·rcases n2.gnew o1 _ k1 with h1 | ⟨o',y,hy,e⟩
    ·exact .inl h1
    exact .inr ⟨o',y,zcx hy,e⟩
   exact .inr ⟨o,_,k1,rfl⟩
  ·intro b hb hG
   exact n2.keep b hb fun o x hx=>hG o x (zcx hx)
  intro o ob' l' hx hv
  rcases from' _ _ _ hx with ⟨o1,ob1,k1,k2,k3⟩ | ⟨_,_,k1⟩
  ·obtain ⟨s1,s2⟩:=znh k2
   obtain ⟨ob,h1,h2,h3⟩:=n2.hand o1 ob1 l' k1 (by rw [s1]; exact hv)
   have:=tlt h1
   rw [if_pos this]at k3
   subst k3
   exact ⟨ob,zcx h1,by omega,h3.trans s2⟩
  exact ⟨ob',k1,rfl,Ob.like.refl _⟩
 refine ⟨v',cv,F',G',rfl,?_,zi7 (fun b hb=>i2.fr b hb.1) ?_ ?_ ?_ ?_,nx,zni shf r2 j1⟩
 ·have e2:G2.map (·.1)=obs':=by
   apply List.ext_getElem
   ·simp [hG2]
   intro i a b; simp [G2]
  have:G'.er=⟨obs'.take obs.length++R++obs'.drop obs.length,G1.er.tick⟩:=by
   simp only[GSt.er,G',List.map_append,Store.mk.injEq,and_true]
   rw [List.map_take,List.map_drop,List.map_drop,e2,hobs]
   simp
  rw [this]; exact j4
 ·intro o ob l hx
  rcases from' _ _ _ hx with ⟨o1,ob1,k1,k2,_⟩ | ⟨_,_,k1⟩
  ·have:=i2.ver o1 ob1 l k1; rw [(znh k2).1]at this; exact this
  exact Nat.lt_of_lt_of_le (hi.ver o ob l k1) n2.tick
 ·rintro o ob l hx ⟨hF,hnl⟩
  rcases from' _ _ _ hx with ⟨o1,ob1,k1,k2,_⟩ | ⟨k0,_,k1⟩
  ·exact i2.nF o1 ob1 l k1 hF
  exact hnl ⟨o,_,k0,k1,rfl⟩
 ·intro o ob l hx
  rcases from' _ _ _ hx with ⟨o1,ob1,k1,k2,_⟩ | ⟨k0,_,k1⟩
  ·by_cases hlp:∃ v b q tm,ob1 = .lp v b q tm
   ·obtain ⟨v1,b1,q1,tm1,rfl⟩:=hlp
    simp only[z3q]at k2
    cases k2
    obtain ⟨e0,t,e2,⟨e3,e4⟩,-⟩:=i2.lp o1 v1 b1 q1 tm1 l k1
    have k1':G1.er.obs[o1]?=some (.lp v1 b1 q1 tm1):=by simp [GSt.er,k1]
    obtain ⟨v0,q0,d1,d2,d3⟩:=j7.get o1 v1 b1 q1 tm1 k1'
    have d4:G.er.obs[o1]?=some (.lp v0 b1 q0 tm1):=by
     rw [hS]
     show (obs++R)[o1]?=_
     rw [List.getElem?_append_left (List.getElem?_eq_some_iff.1 d1).1]; exact d1
    obtain ⟨l0,d5⟩:=zff d4
    obtain ⟨-,t0,-,⟨c1,-⟩,c2⟩:=hi.lp o1 v0 b1 q0 tm1 l0 d5
    refine ⟨e0,t,e2,⟨e3,e4⟩,fun i p j a1 a2=>?_⟩
    have:t=t0:=by rw [e3,c1,d2]
    subst this
    exact (c2 i p j a1 (by rw [← d3]; exact a2)).next hi nx
   exact z5q shf (fun v b q tm e=>hlp ⟨v,b,q,tm,e⟩) k2 (i2.holds k1)
  ·exact (hi.holds k1).next hi nx (lent o _ k0 k1)
 rintro o o' ⟨ob,l⟩ ⟨ob',l'⟩ hx hx' e
 rcases from' _ _ _ hx with ⟨o1,ob1,k1,_,k3⟩ | ⟨k0,_,k1⟩ <;> rcases from' _ _ _ hx' with ⟨o2,ob2,q1,_,q3⟩ | ⟨q0,_,q1⟩
 ·have:=i2.inj o1 o2 _ _ k1 q1 e; subst this; omega
 ·exfalso
  rcases n2.gnew o1 _ k1 with h1 | ⟨o3,y,hy,e2⟩
  ·have:=hi.blk_lt q1; simp only at this e h1; omega
  exact old o' _ q0 q1 o3 y hy (by rw [e2]; exact e)
 ·exfalso
  rcases n2.gnew o2 _ q1 with h1 | ⟨o3,y,hy,e2⟩
  ·have:=hi.blk_lt k1; simp only at this e h1; omega
  exact old o _ k0 k1 o3 y hy (by rw [e2]; exact e.symm)
 exact hi.inj o o' _ _ k1 q1 e
def lcW (b v n w:Nat):List PV:=(List.range n).map fun j => .loc (b+j) v 0 w
def rwO (v:Nat) (rows:List (List Int)):List Ob:=rows.map fun r => .arr v 3 1 (r.map (.int .i64))
theorem zb9 {b v n w:Nat}:(lcW b v n w).length=n:=by simp [lcW]
theorem zdh {b v n w i:Nat} (h:i<n):(lcW b v n w)[i]?=some (.loc (b+i) v 0 w):=by simp [lcW,h]
theorem zj5 {v:Nat} {rows:List (List Int)}:(rwO v rows).length=rows.length:=by simp [rwO]
theorem yd2 {b v n w k t f:Nat}:(lcW b v n w).map (up k t (f+1))=lcW (b+k) t n w:=by
 unfold lcW
 rw [List.map_map]
 refine List.map_congr_left fun j _=>?_
 show PV.loc (b+j+k) t 0 w=_
 rw [show b+j+k=b+k+j by omega]
theorem yd4 {v k t:Nat} {rows:List (List Int)}:(rwO v rows).map (z50 k t)=rwO t rows:=by
 unfold rwO
 rw [List.map_map]
 refine List.map_congr_left fun r _=>?_
 show Ob.arr t _ 1 ((r.map (PV.int .i64)).map (up k t 10))=_
 rw [zwa]
def blR (nh nw i:Nat):List PV:=(List.range i).map (fun j=>PV.loc (j+1) (j+1) 0 nw)++List.replicate (nh - i) .nils
def blX (c:Nat→Nat→Int) (nw i:Nat):List Ob:=(List.range i).map fun j => .arr (j+1) 3 1 (((List.range nw).map (c j)).map (.int .i64))
theorem z6j {nh nw i:Nat} (h:i≤nh):(blR nh nw i).length=nh:=by simp [blR]; omega
theorem zje {c:Nat→Nat→Int} {nw i:Nat}:(blX c nw i).length=i:=by simp [blX]
theorem z6k {nh nw i:Nat} (h:i<nh):(blR nh nw i).take i++[.loc (i+1) (i+1) 0 nw]++(blR nh nw i).drop (i+1)=blR nh nw (i+1):=by
 have e:(blR nh nw i).take i=(List.range i).map fun j=>PV.loc (j+1) (j+1) 0 nw:=by
  unfold blR; rw [List.take_append_of_le_length (by simp),qT (by simp)]
 have e2:(blR nh nw i).drop (i+1)=List.replicate (nh - (i+1)) .nils:=by
  unfold blR
  rw [List.drop_append,List.drop_of_length_le (by simp)]
  simp
  omega
 rw [e,e2]
 unfold blR
 rw [qS,List.map_append]
 rfl
theorem z6i {nh nw i:Nat}:(blR nh nw (i+1))[i]?=some (.loc (i+1) (i+1) 0 nw):=by
 unfold blR
 rw [List.getElem?_append_left (by simp),List.getElem?_map,List.getElem?_range (by omega)]; rfl
theorem yed {c:Nat→Nat→Int} {nw i:Nat} {ys:List Ob}:(blX c nw i++ys)[i]?=ys[0]?:=by rw [List.getElem?_append_right (by rw [zje]; omega),zje,Nat.sub_self]
theorem yg2 {c:Nat→Nat→Int} {nw i:Nat} {ys:List Ob} {b:Ob}:(blX c nw i++ys).set i b=blX c nw i++ys.set 0 b:=by rw [List.set_append_right _ _ (by rw [zje]; omega),zje,Nat.sub_self]
theorem yao {c:Nat→Nat→Int} {nw i:Nat}:blX c nw (i+1)=blX c nw i++[.arr (i+1) 3 1 ((stp (c i) nw nw).map (.int .i64))]:=by
 unfold blX
 rw [qS,List.map_append,yf5]; rfl
theorem z72 {γ:Type} {f:PV→Option PV} {g h:γ→PV}:∀ {l:List γ},(∀ j∈l,f (g j)=some (h j))→(l.map g).mapM f=some (l.map h)
 | [],_=>rfl
 | a::l,k=>by
  rw [List.map_cons,List.map_cons]
  exact zcw (k a (by simp)) (z72 (f:=f) (g:=g) (h:=h) (l:=l) fun j hj=>k j (List.mem_cons_of_mem _ hj))
theorem yip {c:Nat→Nat→Int} {nh nw:Nat}:∃ k,sh ((⟨.arr 0 34 1 (blR nh nw nh)::blX c nw nh,nh+1⟩:Store).take k) false 10 (.loc 0 0 0 nh)=some (.loc 0 0 0 nh) ∧
  zf5 ((⟨.arr 0 34 1 (blR nh nw nh)::blX c nw nh,nh+1⟩:Store).take k) false ((⟨.arr 0 34 1 (blR nh nw nh)::blX c nw nh,nh+1⟩:Store).take k).obs=some (.arr 0 34 1 (lcW 1 0 nh nw)::rwO 0 (bgT c nw nh)):=by
 refine ⟨nh+1,?_⟩
 have e:(⟨.arr 0 34 1 (blR nh nw nh)::blX c nw nh,nh+1⟩:Store).take (nh+1)=⟨.arr 0 34 1 (blR nh nw nh)::blX c nw nh,nh+1⟩:=by
  show (⟨List.take _ _,_⟩:Store)=_
  rw [qT (by simp [zje])]
 rw [e]
 refine ⟨by simp [sh],?_⟩
 have hx:∀ j,j<nh→(blX c nw nh)[j]?=some (.arr (j+1) 3 1 (((List.range nw).map (c j)).map (.int .i64))):=fun j hj=>by unfold blX; rw [List.getElem?_map,List.getElem?_range hj]; rfl
 have h1:∀ S:Store,(∀ j,j<nh→S.obs[j+1]?=some (.arr (j+1) 3 1 (((List.range nw).map (c j)).map (.int .i64))))→(blR nh nw nh).mapM (sh S false 10)=some (lcW 1 0 nh nw):=by
  intro S hS
  unfold blR lcW
  rw [Nat.sub_self,List.replicate_zero,qN]
  refine z72 ?_
  intro j hj
  have:=List.mem_range.1 hj
  show (match S.obs[j+1]? with | some (.arr v _ _ _)=>if v=j+1 then some (PV.loc (j+1) 0 0 nw) else none | _=>none)=_
  rw [hS j this]
  simp [Nat.add_comm]
 have h2:∀ (S:Store) (l:List Nat),zf5 S false (l.map fun j=>Ob.arr (j+1) 3 1 (((List.range nw).map (c j)).map (.int .i64)))=some (rwO 0 (l.map fun r=>(List.range nw).map (c r))):=by
  intro S l
  induction l with
  | nil=>rfl
  | cons a l ih =>
   rw [List.map_cons,zf5,ih]
   show (((((List.range nw).map (c a)).map (PV.int .i64)).mapM (sh S false 10)).map (Ob.arr 0 3 1 ·)).bind _=_
   rw [zv3]; rfl
 rw [zf5]
 show (((blR nh nw nh).mapM (sh _ false 10)).map (Ob.arr 0 34 1 ·)).bind _=_
 rw [h1 _ (fun j hj=>by rw [List.getElem?_cons_succ]; exact hx j hj)]
 unfold blX
 rw [h2]; rfl
theorem z35 {c:Nat→Nat→Int} {nh nw:Nat} (hh:nh≤100) (hw:nw≤100) {g:FuncId} {cap:List PV} (hc:∀ (S:Store) (k:Nat),cap.mapM (reify S true (k+1))=some cap) (hcell:∀ r w:Nat,r<nh→w<nw→PC Tryz.prog g (.int .i64 r :: .int .i64 w::cap) (.int .i64 (c r w)) true):PN Tryz.prog 103 [.int .i64 nh,.int .i64 nw,.fn g cap] (.loc 0 0 0 nh) (.arr 0 34 1 (lcW 1 0 nh nw)::rwO 0 (bgT c nw nh)) false:=by
 refine PN.of ⟨Tryz.func103,by kernel_rfl,rfl,by kernel_rfl⟩ zao mixed (by show 3≤Tryz.f103.ntmps; decide) ?_
 refine W.r fun K hK=>?_
 simp(disch:=omega)only[↓RU,RV,RH,↓reduceIte,qE,reduceCtorEq,if_pos,↓RS,RG,qA,qM,qL]
 apply hK;clear hK K
 refine W.r fun K hK=>?_
 simp(disch:=omega)only[↓RU,RV,RH,↓reduceIte,qE,reduceCtorEq,if_pos,↓RS,RG,qA,qM,qL,ty1,zab,zb7,zaa,zm7,zdv]
 apply hK;clear hK K
 refine W.seq ?_
 refine W.r fun K hK=>?_
 simp(disch:=omega)only[↓RU,RV,RH,↓reduceIte,qE,reduceCtorEq,if_pos,↓RS,RG,qA,qM,qL,ty1,zab,zb7,zaa]
 apply hK;clear hK K
 refine W.block ?_
 refine W.loop [1,2,7,13,14] (fun n vs S=>∃ i:Nat,n=nh - i∧i≤nh∧vs=[.int .i64 nw,.fn g cap,.loc 0 0 0 nh,.int .i64 nh,.int .i64 i]∧S=⟨.arr 0 34 1 (blR nh nw i)::blX c nw i,i+1⟩) nh ?_ ?_
 ·refine ⟨1,0,rfl,Nat.zero_le _,?_,?_⟩
  ·simp [Env.put,Env.of,zae]
  simp [zay,blR,blX]
 rintro n vs S - ⟨i,rfl,h_i,rfl,rfl⟩
 refine W.r fun K hK=>?_
 simp(disch:=omega)only[↓RU,RV,RH,↓reduceIte,qE,reduceCtorEq,if_pos,w64,↓RS,RG,qA,qM,qL,zaa]
 apply hK;clear hK K
 refine W.seq ?_
 refine W.cond rfl (fun h=>?_) (fun h=>?_)
 ·try simp only[RL]at h
  have hil:i<nh:=by omega
  have hrl:=z6j (nw:=nw) (show i≤nh by omega)
  have hrl2:=z6j (nw:=nw) (show i+1≤nh by omega)
  have hrs:=z6k (nw:=nw) hil
  refine W.skip ?_
  refine xn ?_
  refine W.seq ?_
  refine W.block ?_
  refine W.r fun K hK=>?_
  simp(disch:=omega)only[↓RU,RV,RH,↓reduceIte,qE,reduceCtorEq,if_pos,↓RS,RG,qA,qM,qL]
  apply hK;clear hK K
  refine W.r fun K hK=>?_
  simp(disch:=omega)only[↓RU,RV,RH,↓reduceIte,qE,reduceCtorEq,if_pos,↓RS,RG,qA,qM,qL,ty1,zab,zb7,zaa,zel,zdv,hrl,zje,hrs,z6k hil]
  apply hK;clear hK K
  refine W.r fun K hK=>?_
  simp(disch:=omega)only[↓RU,RV,RH,↓reduceIte,qE,reduceCtorEq,if_pos,↓RS,RG,qA,qM,qL,ty1,zab,zb7,zaa,z6i,hrl2,yed]
  apply hK;clear hK K
  refine W.block ?_
  refine W.loop [1,2,7,8,13,14,26,27] (fun n vs S=>∃ j:Nat,n=nw - j∧j≤nw∧vs=[.int .i64 nw,.fn g cap,.loc 0 0 0 nh,.int .i64 i,.int .i64 nh,.int .i64 i,.int .i64 nw,.int .i64 j]∧S=⟨.arr 0 34 1 (blR nh nw (i+1))::(blX c nw i++[.arr (i+1) 3 1 ((stp (c i) j nw).map (.int .i64))]),i+1+1⟩) nw ?_ ?_
  ·refine ⟨_,0,rfl,Nat.zero_le _,?_,zak ?_⟩
   rotate_left
   ·rw [ycb]
   simp [Env.put,Env.of]
  rintro n vs S - ⟨j,rfl,h_j,rfl,rfl⟩
  refine W.r fun K hK=>?_
  simp(disch:=omega)only[↓RU,RV,RH,↓reduceIte,qE,reduceCtorEq,if_pos,w64,↓RS,RG,qA,qM,qL,zaa]
  apply hK;clear hK K
  refine W.seq ?_
  refine W.cond rfl (fun h1=>?_) (fun h1=>?_)
  ·try simp only[RL]at h1
   have hjw:j<nw:=by omega
   have hsl:=z9w (f:=c i) (i:=j) (n:=nw)
   refine W.skip ?_
   refine xn ?_
   refine W.seq ?_
   refine W.block ?_
   refine W.r fun K hK=>?_
   simp(disch:=omega)only[↓RU,RV,RH,↓reduceIte,qE,reduceCtorEq,if_pos,↓RS,RG,qA,qM,qL]
   apply hK;clear hK K
   refine W.draw_k (by kernel_rfl) fun K hK=>?_
   simp(disch:=omega)only[↓RU,RV,RH,↓reduceIte,qE,reduceCtorEq,if_pos,qN,↓RS,RG,qA,qM,qL,ty1,zab,zb7,zaa,z6i,hrl2,hsl,zbo,zdq,yed,yg2,zje]
   refine zad.pc (hcell i j hil hjw) (zcw rfl (zcw rfl (hc _ 9))) (.inl rfl) ?_
   simp(disch:=omega)only[↓RU,RV,RH,↓reduceIte,qE,reduceCtorEq,if_pos,qN,↓RS,RG,qA,qM,qL,ty1,zab,zb7,zaa,z6i,hrl2,hsl,zbo,zdq,yed,yg2,zje]
   apply hK;clear hK K
   refine XbN ?_
   refine xn ?_
   refine W.k fun K hK=>?_
   simp(disch:=omega)only[↓RU,RV,RH,↓reduceIte,qE,reduceCtorEq,if_pos,w64,↓RS,RG,qA,qM,qL,zaa]
   apply hK;clear hK K
   refine xn ?_
   refine ⟨nw - (j+1),by omega,_,j+1,rfl,by omega,?_,zak ?_⟩
   rotate_left
   ·rw [← yf6]
   simp [Env.put,Env.of]
  ·try simp only[RL]at h1
   obtain rfl:nw=j:=by omega
   refine W.exit ?_
   refine xe ?_
   refine xe ?_
   refine XBlock.hit ?_
   refine XbN ?_
   refine xn ?_
   refine W.k fun K hK=>?_
   simp(disch:=omega)only[↓RU,RV,RH,↓reduceIte,qE,reduceCtorEq,if_pos,w64,↓RS,RG,qA,qM,qL,zaa]
   apply hK;clear hK K
   refine xn ?_
   refine ⟨nh - (i+1),by omega,_,i+1,rfl,by omega,?_,zak ?_⟩
   rotate_left
   ·rw [yao]
   simp [Env.put,Env.of]
 try simp only[RL]at h
 obtain rfl:nh=i:=by omega
 refine W.exit ?_
 refine xe ?_
 refine xe ?_
 refine XBlock.hit ?_
 refine xn ?_
 refine W.r fun K hK=>?_
 simp(disch:=omega)only[↓RU,RV,RH,↓reduceIte,qE,reduceCtorEq,if_pos,↓RS,RG,qA,qM,qL]
 apply hK;clear hK K
 refine W.ret ?_
 refine Br rfl ?_
 exact yip
inductive Tm where
 | o
 | un (s:UInt8) (t:Tm)
 | bin (s:UInt8) (a b:Tm)

def Pat (g1 g2:List (List Int)) (H W:Nat):Prop:=∀ i j i' j',i<H→j<W→i'<H→j'<W→(gz g1 i j=gz g1 i' j'↔gz g2 i j=gz g2 i' j')
theorem Pat.symm {g1 g2:List (List Int)} {H W:Nat} (h:Pat g1 g2 H W):Pat g2 g1 H W:=fun i j i' j' a b c d=>(h i j i' j' a b c d).symm
theorem Pat.trans {g1 g2 g3:List (List Int)} {H W:Nat} (h:Pat g1 g2 H W) (k:Pat g2 g3 H W):Pat g1 g3 H W:=fun i j i' j' a b c d=>(h i j i' j' a b c d).trans (k i j i' j' a b c d)
structure KC (g1 g2:List (List Int)) (H W:Nat) (k1 k2:List Int):Prop where
 len:k1.length=k2.length
 at_:∀ i j,i<H→j<W→k1.idxOf (gz g1 i j)=k2.idxOf (gz g2 i j)
theorem ztg {l:List Int} {z x:Int} (h:l.idxOf x=l.length):(l++[z]).idxOf x=if x=z then l.length else l.length+1:=by
 have hn:=zq0 h
 rw [List.idxOf_append,if_neg hn]
 by_cases e:x=z
 ·subst e; simp
 rw [if_neg e]
 have e2:(z == x)=false:=by simpa using fun h=>e h.symm
 simp [List.idxOf_cons,e2]
 omega
theorem KC.step {g1 g2:List (List Int)} {H W:Nat} (hp:Pat g1 g2 H W) {k1 k2:List Int} (h:KC g1 g2 H W k1 k2) {a b:Nat} (ha:a<H) (hb:b<W):KC g1 g2 H W (zil k1 (gz g1 a b)) (zil k2 (gz g2 a b)):=by
 have h1:=h.at_ a b ha hb
 unfold zil
 by_cases e:k1.idxOf (gz g1 a b)=k1.length
 ·have e2:k2.idxOf (gz g2 a b)=k2.length:=by rw [← h1,e,h.len]
  rw [if_pos e,if_pos e2]
  refine ⟨by simp [h.len],fun i j hi hj=>?_⟩
  have h2:=h.at_ i j hi hj
  have hpt:=hp i j a b hi hj ha hb
  by_cases q:k1.idxOf (gz g1 i j)=k1.length
  ·have q2:k2.idxOf (gz g2 i j)=k2.length:=by rw [← h2,q,h.len]
   rw [ztg q,ztg q2,h.len]
   by_cases r:gz g1 i j=gz g1 a b
   ·rw [if_pos r,if_pos (hpt.1 r)]
   rw [if_neg r,if_neg fun x=>r (hpt.2 x)]
  have q2:¬ k2.idxOf (gz g2 i j)=k2.length:=by rw [← h2,← h.len]; exact q
  rw [zqz q,zqz q2,h2]
 have e2:¬ k2.idxOf (gz g2 a b)=k2.length:=by rw [← h1,← h.len]; exact e
 rw [if_neg e,if_neg e2]
 exact h
theorem z9n {k1 k2 rs:List Int} {R:List Rect} {z1 z2:Int} {q:Rect} (hl:k1.length=k2.length) (hi:k1.idxOf z1=k2.idxOf z2):zp4 k1 R z1 q=zp4 k2 R z2 q:=by
 unfold zp4 zjd
 rw [hl,hi]
theorem zoe {g1 g2:List (List Int)} {H W:Nat} (hp:Pat g1 g2 H W) {i:Nat} (hi:i<H) {s1 s2:List Int × List Rect} (h:KC g1 g2 H W s1.1 s2.1) (hr:s1.2=s2.2):∀ j,j≤W →
  KC g1 g2 H W (zea g1 i s1 j).1 (zea g2 i s2 j).1∧(zea g1 i s1 j).2=(zea g2 i s2 j).2
 | 0,_=>⟨h,hr⟩
 | j+1,hj=>by
  obtain ⟨h1,h2⟩:=zoe hp hi h hr j (by omega)
  unfold zea
  refine ⟨h1.step hp hi (by omega),?_⟩
  show zp4 _ _ _ _=zp4 _ _ _ _
  rw [h2]
  exact z9n (rs:=[]) h1.len (h1.at_ i j hi (by omega))
theorem zi1 {g1 g2:List (List Int)} {H W:Nat} (hp:Pat g1 g2 H W):∀ i,i≤H→KC g1 g2 H W (zal g1 W i).1 (zal g2 W i).1∧(zal g1 W i).2=(zal g2 W i).2
 | 0,_=>⟨⟨rfl,fun _ _ _ _=>rfl⟩,rfl⟩
 | i+1,hi=>by
  obtain ⟨h1,h2⟩:=zi1 hp i (by omega)
  exact zoe hp (by omega) h1 h2 W (qR _)
theorem zzr {g1 g2:List (List Int)} {H W:Nat} (hp:Pat g1 g2 H W) {i:Nat} (hi:i<H) {s1 s2:List Int × List Rect} (h:KC g1 g2 H W s1.1 s2.1) (hr:s1.2=s2.2):∀ j,j≤W→zoj g1 i s1 j=zoj g2 i s2 j
 | 0,_=>rfl
 | j+1,hj=>by
  unfold zoj
  rw [zzr hp hi h hr j (by omega),(zoe hp hi h hr j (by omega)).1.at_ i j hi (by omega)]
theorem zok {g1 g2:List (List Int)} {H W:Nat} (hp:Pat g1 g2 H W):∀ i,i≤H→zfc g1 W i=zfc g2 W i
 | 0,_=>rfl
 | i+1,hi=>by
  obtain ⟨h1,h2⟩:=zi1 hp i (by omega)
  unfold zfc
  rw [zok hp i (by omega),zzr hp (by omega) h1 h2 W (qR _)]
theorem GW.w0 {g:List (List Int)} {H W:Nat} (h:GW g H W):w0 g=W:=by
 obtain ⟨row,hrow,hl,-⟩:=h.at_ (show 0<H by have:=h.2.2.1; omega) (show 0<W by have:=h.2.2.2.2.1; omega)
 rw [ych hrow,hl]
theorem GW.zG {g:List (List Int)} {H W:Nat} (h:GW g H W):zG g=zfc g W H∧stG g=zal g W H:=by
 unfold Fw.zG stG; rw [h.w0,h.1]; exact ⟨rfl,rfl⟩
theorem ygh {g:List (List Int)} {H W i j:Nat} (h:GW g H W) (hi:i<H) (hj:j<W):gz (zG g) i j=(((zal g W H).1.idxOf (gz g i j):Nat):Int):=by
 rw [h.zG.1]
 unfold gz
 rw [zky hi,Option.getD_some,z1g hj,Option.getD_some]
 congr 1
 exact zNum hi hj
theorem z31 {g:List (List Int)} {H W:Nat} (h:GW g H W):GW (zG g) H W:=by
 rw [h.zG.1]
 refine ⟨zdb _,fun r hr=>?_,h.2.2⟩
 obtain ⟨k,hk⟩:=List.getElem?_of_mem hr
 have:=zbd hk
 rw [zdb]at this
 rw [zky this]at hk
 cases hk
 exact zfw _
theorem yab {g:List (List Int)} {H W i j:Nat} (hi:i<H) (hj:j<W):gz g i j∈(zal g W H).1:=(SeInv.rows (g:=g) (W:=W) H).mem i j (zps hi hj)
theorem yd6 {g:List (List Int)} {H W:Nat} (h:GW g H W):Pat (zG g) g H W:=by
 intro i j i' j' hi hj hi' hj'
 rw [ygh h hi hj,ygh h hi' hj']
 constructor
 ·intro e
  have h1:=zh9 (ks:=(zal g W H).1) (z:=gz g i j) (by have:=List.idxOf_lt_length_iff.2 (yab (g:=g) hi hj); omega)
  have h2:=zh9 (ks:=(zal g W H).1) (z:=gz g i' j') (by have:=List.idxOf_lt_length_iff.2 (yab (g:=g) hi' hj'); omega)
  rw [show (zal g W H).1.idxOf (gz g i j)=(zal g W H).1.idxOf (gz g i' j') by omega,h2]at h1
  exact (Option.some.inj h1).symm
 intro e; rw [e]
theorem yjd {g:List (List Int)} {H W i j:Nat} (h:GW g H W) (hi:i<H) (hj:j<W):0≤gz (zG g) i j∧gz (zG g) i j<(zal g W H).2.length:=by
 rw [ygh h hi hj]
 have h1:=List.idxOf_lt_length_iff.2 (yab (g:=g) hi hj)
 have h2:=(SeInv.rows (g:=g) (W:=W) H).len
 omega
theorem zt9 {g:List (List Int)} {H W i j:Nat} (h:GW g H W) (hi:i<H) (hj:j<W) (h0:0≤gz g i j) (h1:gz g i j≤100):gz (zbp (zfv g)) i j=gz g i j+97:=by
 obtain ⟨row,hrow,hl,hx⟩:=h.at_ hi hj
 have e1:(zbp (zfv g))[i]?=some (zsg (zpj row)):=by simp [zbp,zkw hrow]
 have e2:(zsg (zpj row))[j]?=some ((z59 (gz g i j)).toNat:Int):=by simp [zsg,zpj,hx]
 have e3:gz (zbp (zfv g)) i j=((z59 (gz g i j)).toNat:Int):=by
  conv=>lhs; unfold gz
  rw [e1,Option.getD_some,e2,Option.getD_some]
 rw [e3]
 unfold z59
 rw [UInt8.toNat_ofNat_of_lt' (by show 97+(gz g i j).toNat<256; omega)]
 omega
theorem z90 {g:List (List Int)} {H W:Nat} (h:GW g H W):(zfv g).length=H∧(zax (zfv g)).length=W:=by
 refine ⟨by rw [zzi,h.1],?_⟩
 obtain ⟨row,hrow,hl,-⟩:=h.at_ (show 0<H by have:=h.2.2.1; omega) (show 0<W by have:=h.2.2.2.2.1; omega)
 rw [zc4 (zkw hrow)]
 simp [zpj,hl]
theorem z9z {g:List (List Int)} {H W:Nat} (h:GW g H W) (hz:∀ i j,i<H→j<W→0≤gz g i j∧gz g i j<26):zc1 (zfv g)=true:=by
 obtain ⟨t1,t2⟩:=z90 h
 unfold zc1
 rw [t1,t2]
 have h2:=h.2.2
 have:(zfv g).all (zsr W)=true:=by
  rw [List.all_eq_true]
  intro r hr
  obtain ⟨i,hi⟩:=List.getElem?_of_mem hr
  have hil:=zbd hi
  rw [t1]at hil
  obtain ⟨row,hrow,hrm⟩:=zaf (show i<g.length by rw [h.1]; exact hil)
  have hrl:=h.2.1 row hrm
  rw [zkw hrow]at hi
  cases hi
  unfold zsr
  simp only[qB,decide_eq_true_eq,List.all_eq_true]
  refine ⟨⟨⟨by simp [zpj,hrl],by simp [zpj]; omega⟩,by simp [zpj]; omega⟩,fun c hc=>?_⟩
  obtain ⟨z,hzm,rfl⟩:=List.mem_map.1 hc
  obtain ⟨j,hj⟩:=List.getElem?_of_mem hzm
  have hjl:=zbd hj
  have e:gz g i j=z:=by simp [gz,hrow,hj]
  have:=hz i j hil (by omega)
  rw [e]at this
  unfold zde z59
  rw [UInt8.toNat_ofNat_of_lt' (by show 97+z.toNat<256; omega)]
  simp only[qB,decide_eq_true_eq]
  omega
 rw [this]
 simp only[Bool.true_and,qB,decide_eq_true_eq]
 omega
def nm (g:List (List Int)):List Txt:=zfv (zG g)
structure NmOk (g:List (List Int)) (H W:Nat):Prop where
 gw:GW g H W
 le:(zal g W H).2.length≤9
theorem NmOk.bound {g:List (List Int)} {H W:Nat} (h:NmOk g H W) {i j:Nat} (hi:i<H) (hj:j<W):0≤gz (zG g) i j∧gz (zG g) i j≤8:=by
 have h1:=yjd h.gw hi hj
 have h2:=h.le
 omega
theorem NmOk.hd {g:List (List Int)} {H W:Nat} (h:NmOk g H W):(nm g).length=H∧(zax (nm g)).length=W:=z90 (z31 h.gw)
theorem NmOk.pat {g:List (List Int)} {H W:Nat} (h:NmOk g H W):Pat (zbp (nm g)) g H W:=by
 refine Pat.trans (fun i j i' j' hi hj hi' hj'=>?_) (yd6 h.gw)
 have b1:=h.bound hi hj
 have b2:=h.bound hi' hj'
 unfold nm
 rw [zt9 (z31 h.gw) hi hj b1.1 (by omega),zt9 (z31 h.gw) hi' hj' b2.1 (by omega)]
 constructor <;> intro e <;> omega
theorem NmOk.gP {g:List (List Int)} {H W:Nat} (h:NmOk g H W):gP (nm g)=zG g∧rP (nm g)=(zal g W H).2:=by
 rw [z4k,ybt,h.hd.1,h.hd.2,h.gw.zG.1]
 exact ⟨zok h.pat H (qR _),(zi1 h.pat H (qR _)).2⟩
theorem NmOk.named {g:List (List Int)} {H W:Nat} (h:NmOk g H W):Named (nm g):=by
 refine ⟨z9z (z31 h.gw) fun i j hi hj=>by have:=h.bound hi hj; omega,?_⟩
 rw [h.gP.1]; rfl
theorem NmOk.cell {g:List (List Int)} {H W:Nat} (h:NmOk g H W) {i j:Nat} (hi:i<H) (hj:j<W):zcj (nm g) i j=gz (zG g) i j:=by
 rw [← h.named.cell (by rw [h.hd.1]; exact hi) (by rw [h.hd.2]; exact hj),h.gP.1]
theorem Named.okB {p:List Txt} (h:Named p) (hn:(rP p).length≤9):okB p=true:=by
 unfold Fw.okB okS
 have hg:=h.hg
 rw [z2e,qB]at hg
 rw [hg.1,hg.2]
 show decide ((rP p).length≤9)=true
 exact decide_eq_true hn
theorem Named.full_of {p:List Txt} (h:Named p) (hr:∀ {i j i' j':Nat} (k l:Nat),i<p.length→i'<p.length→j<(zax p).length→j'<(zax p).length→zcj p i j=zcj p i' j'→min i i'≤k→k≤max i i'→min j j'≤l→l≤max j j'→zcj p k l=zcj p i j):ziv (zbp p)=true:=by
 rw [h.full]
 intro m hm
 obtain ⟨b,hb,-⟩:=zaf hm
 rw [zwp hb]
 refine zww fun i j hi hj=>?_
 have hrect:=h.rect hb
 have hin:=(zm5 hrect).2
 rw [Bool.eq_iff_iff]
 constructor
 ·intro hz
  exact hin i j hi hj (by unfold inZ at hz; simpa using hz)
 intro hb2
 obtain ⟨a1,b1,⟨v1,g1⟩,e1⟩:=hrect.at_
 obtain ⟨a2,b2,⟨v2,g2⟩,e2⟩:=hrect.al
 obtain ⟨a3,b3,⟨v3,g3⟩,e3⟩:=hrect.ao
 obtain ⟨a4,b4,⟨v4,g4⟩,e4⟩:=hrect.ar
 unfold Gone at g1 g2 g3 g4
 have i1:=hrect.inn _ _ ⟨v1,g1⟩
 have i2:=hrect.inn _ _ ⟨v2,g2⟩
 have i3:=hrect.inn _ _ ⟨v3,g3⟩
 have i4:=hrect.inn _ _ ⟨v4,g4⟩
 unfold inB at hb2
 simp only[qB,decide_eq_true_eq]at hb2
 have c1:=hr (i:=a1) (j:=b1) (i':=a2) (j':=b2) a1 b2 (by omega) (by omega) (by omega) (by omega) (by omega) (by omega) (by omega) (by omega) (by omega)
 have c2:=hr (i:=a3) (j:=b3) (i':=a4) (j':=b4) a3 b4 (by omega) (by omega) (by omega) (by omega) (by omega) (by omega) (by omega) (by omega) (by omega)
 have c3:=hr (i:=a1) (j:=b2) (i':=a3) (j':=b4) i j (by omega) (by omega) (by omega) (by omega) (by omega) (by omega) (by omega) (by omega) (by omega)
 unfold inZ
 exact decide_eq_true (by omega)
structure Cells (c:Nat→Nat→Nat) (g:List (List Int)) (H W:Nat):Prop where
 gw:GW g H W
 at_:∀ i j,i<H→j<W→gz g i j=((c i j:Nat):Int)
structure Ren (c:Nat→Nat→Nat) (H W:Nat) (t:List Txt):Prop where
 hl:t.length=H
 wl:(zax t).length=W
 pat:∀ i j i' j',i<H→j<W→i'<H→j'<W→(cn (gP t) i j=cn (gP t) i' j'↔c i j=c i' j')
theorem z78 {c:Nat→Nat→Nat} {g:List (List Int)} {H W:Nat} (hc:Cells c g H W) (h9:(zal g W H).2.length≤9)
  (hr:∀ {i j i' j':Nat} (k l:Nat),i<H→i'<H→j<W→j'<W→c i j=c i' j'→min i i'≤k→k≤max i i'→min j j'≤l→l≤max j j'→c k l=c i j) :
  zcu (nm g)=true∧Ren c H W (nm g):=by
 have h:NmOk g H W:=⟨hc.gw,h9⟩
 have hN:=h.named
 obtain ⟨l1,l2⟩:=h.hd
 have hpat:∀ i j i' j',i<H→j<W→i'<H→j'<W→(gz (zG g) i j=gz (zG g) i' j'↔c i j=c i' j'):=by
  intro i j i' j' hi hj hi' hj'
  rw [yd6 hc.gw i j i' j' hi hj hi' hj',hc.at_ i j hi hj,hc.at_ i' j' hi' hj']
  omega
 constructor
 ·rw [← zfz]
  unfold zgc zow
  have hf:ziv (zbp (nm g))=true:=by
   refine hN.full_of fun {i j i' j'} k l hi hi' hj hj' e h1 h2 h3 h4=>?_
   rw [l1]at hi hi'
   rw [l2]at hj hj'
   rw [h.cell hi hj,h.cell hi' hj']at e
   rw [h.cell (by omega) (by omega),h.cell hi hj]
   exact (hpat _ _ _ _ (by omega) (by omega) hi hj).2 (hr k l hi hi' hj hj' ((hpat _ _ _ _ hi hj hi' hj').1 e) h1 h2 h3 h4)
  rw [hN.okB (by rw [h.gP.2]; exact h9),hf,decide_eq_true hN.ht]
  rfl
 refine ⟨l1,l2,fun i j i' j' hi hj hi' hj'=>?_⟩
 rw [← hpat i j i' j' hi hj hi' hj',h.gP.1]
 have b1:=h.bound hi hj
 have b2:=h.bound hi' hj'
 unfold cn
 omega
theorem pig0 {σ:Nat→Nat} {n m:Nat} (h:∀ a,a<n→σ a<m) (hi:∀ a b,a<n→b<n→σ a=σ b→a=b):n≤m:=by
 have h1:sN n (fun a=>sN m fun b=>b1 (decide (σ a=b)))=n:=by
  have:sN n (fun a=>sN m fun b=>b1 (decide (σ a=b)))=sN n (fun _=>1):=by
   refine ze5 fun a ha=>?_
   have hs:∀ {k:Nat} (v:Nat),v<k→sN k (fun b=>b1 (decide (v=b)))=1:=by
    intro k
    induction k with
    | zero=>intro v hv; omega
    | succ k ih =>
     intro v hv
     unfold sN
     by_cases e:v=k
     ·subst e
      have hz:sN v (fun b=>b1 (decide (v=b)))=0:=by
       rw [← zr2 v]
       exact ze5 fun b hb=>by rw [decide_eq_false (by omega)]; rfl
      rw [hz]; simp [b1]
     rw [ih v (by omega)]; simp [b1,e]
   exact hs _ (h a ha)
  rw [this,z3k]
 rw [zv1]at h1
 have h2:sN m (fun b=>sN n fun a=>b1 (decide (σ a=b)))≤sN m (fun _=>1) :=
  z5n fun b hb=>z9k fun r s hr hs e1 e2=>hi r s hr hs (by rw [of_decide_eq_true e1,of_decide_eq_true e2])
 rw [z3k]at h2
 omega
theorem z4z {c:Nat→Nat→Nat} {g:List (List Int)} {H W:Nat} (hc:Cells c g H W) (h9:(zal g W H).2.length≤9)
  (hr:∀ {i j i' j':Nat} (k l:Nat),i<H→i'<H→j<W→j'<W→c i j=c i' j'→min i i'≤k→k≤max i i'→min j j'≤l→l≤max j j'→c k l=c i j):okS g=true∧ziv g=true:=by
 have hpl:=(z78 hc h9 hr).1
 have h:NmOk g H W:=⟨hc.gw,h9⟩
 have hz:=hc.gw.zG
 have hf:=zyl hpl
 constructor
 ·unfold okS
  rw [hz.2]
  have:okG g=true:=by rw [zre,hc.gw.1,hc.gw.w0]; exact hc.gw
  rw [this]
  simpa using h9
 unfold ziv at hf ⊢
 have e1:(stG (zbp (nm g))).2=(stG g).2:=by rw [hz.2]; exact h.gP.2
 rw [e1,zd9,zgq,h.hd.1,h.hd.2]at hf
 rw [hc.gw.1,hc.gw.w0]
 exact hf
theorem z9b {c:Nat→Nat→Nat} {g:List (List Int)} {H W n:Nat} (hc:Cells c g H W) (hn:∀ i j,i<H→j<W→c i j<n):(zal g W H).2.length≤n:=by
 have hi:=SeInv.rows (g:=g) (W:=W) H
 rw [hi.len]
 have hk:∀ m,m<(zal g W H).1.length→∃ i j,i<H∧j<W∧(zal g W H).1[m]?=some ((c i j:Nat):Int):=by
  intro m hm
  obtain ⟨v,hv,-⟩:=zaf hm
  obtain ⟨b,hb,-⟩:=zaf (show m<(zal g W H).2.length by rw [hi.len]; exact hm)
  obtain ⟨i,j,⟨hz,hj,hij⟩,-⟩:=(hi.hull m v b hv hb).at_
  have hi2:i<H:=by omega
  exact ⟨i,j,hi2,hj,by rw [hv,← hz,hc.at_ i j hi2 hj]⟩
 have key:=pig0 (σ:=fun m=>((zal g W H).1[m]?.getD 0).toNat) (n:=(zal g W H).1.length) (m:=n) (fun m hm=>by
  obtain ⟨i,j,q1,q2,q3⟩:=hk m hm
  have:=hn i j q1 q2
  simp only[q3,Option.getD_some,Int.toNat_natCast]
  exact this) (fun a b ha hb e=>by
  obtain ⟨i,j,q1,q2,q3⟩:=hk a ha
  obtain ⟨i',j',r1,r2,r3⟩:=hk b hb
  simp only[q3,r3,Option.getD_some,Int.toNat_natCast]at e
  exact zmq hi.nd q3 (by rw [r3,e]))
 exact key
section
variable {c c':Nat→Nat→Nat} {H W:Nat}
theorem TC.map {R S:Nat→Nat→Prop} {f:Nat→Nat} (h:∀ a b,R a b→S (f a) (f b)) {a b:Nat} (k:TC R a b):TC S (f a) (f b):=by
 induction k with
 | one k=>exact .one (h _ _ k)
 | tail _ k ih=>exact .tail ih (h _ _ k)
structure Iso (p t:List Txt) (L U:Nat→Nat→Prop) (σ:Nat→Nat):Prop where
 pl:zca t=true
 n:(rP t).length=(rP p).length
 lt:∀ a,a<(rP p).length→σ a<(rP p).length
 inj:∀ a b,a<(rP p).length→b<(rP p).length→σ a=σ b→a=b
 lf:∀ a b,a<(rP p).length→b<(rP p).length→(Lf t (σ a) (σ b)↔L a b)
 ab:∀ a b,a<(rP p).length→b<(rP p).length→(Ab t (σ a) (σ b)↔U a b)
theorem Iso.imp {p t:List Txt} {L U L' U':Nat→Nat→Prop} {σ:Nat→Nat} (h:Iso p t L U σ) (hL:∀ a b,a<(rP p).length→b<(rP p).length→(L a b↔L' a b)) (hU:∀ a b,a<(rP p).length→b<(rP p).length→(U a b↔U' a b)):Iso p t L' U' σ :=
 ⟨h.pl,h.n,h.lt,h.inj,fun a b ha hb=>(h.lf a b ha hb).trans (hL a b ha hb),fun a b ha hb=>(h.ab a b ha hb).trans (hU a b ha hb)⟩
structure Fold1 (f:Nat→Nat) (m n:Nat):Prop where
 pos:1≤m
 z:f 0=0
 s:∀ i,i+1<m→f (i+1)=f i∨f (i+1)=f i+1
 e:f (m - 1)+1=n
theorem Fold1.mono {f:Nat→Nat} {m n:Nat} (h:Fold1 f m n):∀ {i j:Nat},i≤j→j<m→f i≤f j:=by
 intro i j hij
 induction j with
 | zero=>intro _; rw [show i=0 by omega]; exact qR _
 | succ j ih =>
  intro hj
  by_cases e:i=j+1
  ·subst e; exact qR _
  have h1:=ih (by omega) (by omega)
  have:=h.s j hj
  omega
theorem Fold1.lt {f:Nat→Nat} {m n i:Nat} (h:Fold1 f m n) (hi:i<m):f i<n:=by
 have:=h.mono (i:=i) (j:=m - 1) (by omega) (by have:=h.pos; omega)
 have:=h.e
 omega
theorem Fold1.mid {f:Nat→Nat} {m n i:Nat} (h:Fold1 f m n) {v:Nat}:∀ {j:Nat},i≤j→j<m→f i≤v→v≤f j→∃ r,i≤r∧r≤j∧f r=v:=by
 intro j
 induction j with
 | zero=>intro h1 h2 h3 h4; exact ⟨0,by omega,qR _,by rw [show i=0 by omega]at h3; omega⟩
 | succ j ih =>
  intro h1 h2 h3 h4
  by_cases e:f (j+1)=v
  ·exact ⟨j+1,h1,qR _,e⟩
  by_cases e2:i=j+1
  ·subst e2; omega
  have:=h.s j h2
  obtain ⟨r,r1,r2,r3⟩:=ih (by omega) (by omega) h3 (by omega)
  exact ⟨r,r1,by omega,r3⟩
theorem Fold1.last {f:Nat→Nat} {m n v:Nat} (h:Fold1 f m n) (hv:v+1<n):∃ r,r+1<m∧f r=v∧f (r+1)=v+1:=by
 have hp:=h.pos
 have he:=h.e
 obtain ⟨e,h1,h2,h3,h4⟩:=zz9 (P:=fun r=>f r≤v) (i:=0) (n:=m - 1) (by omega) (by rw [h.z]; omega) (by omega)
 have:=h.s e (by omega)
 exact ⟨e,by omega,by omega,by omega⟩
theorem DL.fold {f g:Nat→Nat} {H' W':Nat} (hf:Fold1 f H H') (hg:Fold1 g W W') (hc:∀ i j,i<H→j<W→c i j=c' (f i) (g j)) {a b:Nat}:DL c H W a b↔DL c' H' W' a b:=by
 constructor
 ·rintro ⟨j,i1,i2,h1,h2,h3,run,rfl,rfl⟩
  have hgj:g (j+1)=g j+1:=by
   rcases hg.s j h1 with e | e
   ·have:=run i1 (by omega) (by omega)
    rw [hc i1 j h2 (by omega),hc i1 (j+1) h2 h1,e]at this
    exact absurd rfl this
   exact e
  have hlt:=hg.lt h1
  refine ⟨g j,f i1,f i2,by omega,hf.lt h2,hf.lt h3,fun r r1 r2=>?_,hc _ _ h2 (by omega),by rw [hc _ _ h3 h1,hgj]⟩
  have:∃ r0,min i1 i2≤r0∧r0≤max i1 i2∧f r0=r:=by
   rcases Nat.le_total i1 i2 with q | q
   ·have:=hf.mono q h3
    obtain ⟨r0,q1,q2,q3⟩:=hf.mid (v:=r) q h3 (by omega) (by omega)
    exact ⟨r0,by omega,by omega,q3⟩
   have:=hf.mono q h2
   obtain ⟨r0,q1,q2,q3⟩:=hf.mid (v:=r) q h2 (by omega) (by omega)
   exact ⟨r0,by omega,by omega,q3⟩
  obtain ⟨r0,q1,q2,rfl⟩:=this
  have:=run r0 q1 q2
  rw [hc r0 j (by omega) (by omega),hc r0 (j+1) (by omega) h1,hgj]at this
  exact this
 rintro ⟨j,i1,i2,h1,h2,h3,run,rfl,rfl⟩
 obtain ⟨j0,k1,k2,k3⟩:=hg.last h1
 have hfe:=hf.e
 have hfp:=hf.pos
 obtain ⟨r1,-,q2,q3⟩:=hf.mid (i:=0) (j:=H - 1) (v:=i1) (by omega) (by omega) (by rw [hf.z]; omega) (by omega)
 obtain ⟨r2,-,q5,q6⟩:=hf.mid (i:=0) (j:=H - 1) (v:=i2) (by omega) (by omega) (by rw [hf.z]; omega) (by omega)
 refine ⟨j0,r1,r2,k1,by omega,by omega,fun r s1 s2=>?_,by rw [hc _ _ (by omega) (by omega),q3,k2],by rw [hc _ _ (by omega) (by omega),q6,k3]⟩
 rw [hc r j0 (by omega) (by omega),hc r (j0+1) (by omega) k1,k2,k3]
 refine run (f r) ?_ ?_
 ·rcases Nat.le_total r1 r2 with q | q
  ·have:=hf.mono (show r1≤r by omega) (show r<H by omega); omega
  have:=hf.mono (show r2≤r by omega) (show r<H by omega); omega
 rcases Nat.le_total r1 r2 with q | q
 ·have:=hf.mono (show r≤r2 by omega) (show r2<H by omega); omega
 have:=hf.mono (show r≤r1 by omega) (show r1<H by omega); omega
theorem DU.fold {f g:Nat→Nat} {H' W':Nat} (hf:Fold1 f H H') (hg:Fold1 g W W') (hc:∀ i j,i<H→j<W→c i j=c' (f i) (g j)) {a b:Nat}:DU c H W a b↔DU c' H' W' a b :=
 DL.fold (c:=tr c) (c':=tr c') hg hf fun i j hi hj=>hc j i hj hi
theorem TC.iff {R S:Nat→Nat→Prop} (h:∀ a b,R a b↔S a b) {a b:Nat}:TC R a b↔TC S a b:=⟨TC.mono fun a b=>(h a b).1,TC.mono fun a b=>(h a b).2⟩
end
section
variable {p t:List Txt} {L U:Nat→Nat→Prop} {σ:Nat→Nat}
theorem zu1 {below:Bool} {a b:Nat}:bfK p below a b=true↔Lf p a b∨(if below then Ab p b a else Ab p a b):=by
 unfold bfK bf1 bf2 Lf Ab
 cases below <;> simp
end
section
variable {c:Nat→Nat→Nat} {H W:Nat}
theorem DL.cols (h:Pl c H W) {i j i' j':Nat} (hi:i<H) (hj:j<W) (hi':i'<H) (hj':j'<W) (hd:DL c H W (c i j) (c i' j')):j<j':=by
 obtain ⟨k,i1,i2,h1,h2,h3,run,e1,e2⟩:=hd
 have a1:j≤k:=by
  refine Classical.byContradiction fun hn=>?_
  have:=h.rect (i:=i1) (j:=k) (i':=i) (j':=j) i1 (k+1) h2 hi (by omega) hj e1.symm (by omega) (by omega) (by omega) (by omega)
  exact run i1 (by omega) (by omega) this.symm
 have a2:k+1≤j':=by
  refine Classical.byContradiction fun hn=>?_
  have:=h.rect (i:=i2) (j:=k+1) (i':=i') (j':=j') i2 k h3 hi' h1 hj' e2.symm (by omega) (by omega) (by omega) (by omega)
  exact run i2 (by omega) (by omega) this
 omega
theorem DL.cells {a b:Nat} (hd:DL c H W a b):(∃ i j,i<H∧j<W∧c i j=a)∧∃ i j,i<H∧j<W∧c i j=b:=by
 obtain ⟨k,i1,i2,h1,h2,h3,run,e1,e2⟩:=hd
 exact ⟨⟨i1,k,h2,by omega,e1.symm⟩,i2,k+1,h3,h1,e2.symm⟩
theorem TC.cols (h:Pl c H W) {a b:Nat} (hd:TC (DL c H W) a b):∀ {i j i' j':Nat},i<H→j<W→i'<H→j'<W→c i j=a→c i' j'=b→j<j':=by
 induction hd with
 | one hd=>intro i j i' j' h1 h2 h3 h4 e1 e2; subst e1; subst e2; exact hd.cols h h1 h2 h3 h4
 | tail _ hd ih =>
  intro i j i' j' h1 h2 h3 h4 e1 e2
  obtain ⟨⟨x,y,hx,hy,e3⟩,-⟩:=hd.cells
  have q1:=ih h1 h2 hx hy e1 e3
  subst e2; rw [← e3]at hd
  have q2:=hd.cols h hx hy h3 h4
  omega
variable {p:List Txt}
end
section
section
variable {cf cg:Nat→Nat→Nat} {H1 W1 H2 W2 n:Nat}
end
end
section
section
variable {cf cg:Nat→Nat→Nat} {H1 W1 H2 W2 n N:Nat}
end
end
structure Made (c:Nat→Nat→Nat) (H W:Nat) (g:List (List Int)):Prop where
 gw:GW g H W
 ok:okS g=true
 full:ziv g=true
 plan:zcu (nm g)=true
 ren:Ren c H W (nm g)
section
section
variable {p q t:List Txt} {L U:Nat→Nat→Prop} {σ:Nat→Nat}
structure Two (p q t:List Txt) (σ:Nat→Nat):Prop where
 hp:zca p=true
 hq:zca q=true
 pl:zca t=true
 n:(rP t).length=(rP p).length+(rP q).length
 lt:∀ a,a<(rP t).length→σ a<(rP t).length
 inj:∀ a b,a<(rP t).length→b<(rP t).length→σ a=σ b→a=b
 l1:∀ a b,a<(rP p).length→b<(rP p).length→a≠b→(Lf t (σ a) (σ b)↔Lf p a b)∧(Ab t (σ a) (σ b)↔Ab p a b)
 l2:∀ a b,a<(rP q).length→b<(rP q).length→a≠b→(Lf t (σ ((rP p).length+a)) (σ ((rP p).length+b))↔Lf q a b)∧(Ab t (σ ((rP p).length+a)) (σ ((rP p).length+b))↔Ab q a b)
theorem Two.blk (h:Two p q t σ) (b1:Bool):(∀ a b,a<(rP p).length→b<(rP p).length→(ahK t b1 (σ a)<ahK t b1 (σ b)↔ahK p b1 a<ahK p b1 b)) ∧
  ∀ a b,a<(rP q).length→b<(rP q).length→(ahK t b1 (σ ((rP p).length+a))<ahK t b1 (σ ((rP p).length+b))↔ahK q b1 a<ahK q b1 b):=by
 have hn:=h.n
 constructor
 ·intro a b ha hb
  by_cases e:a=b
  ·subst e; simp
  rw [← zuz h.pl (h.lt a (by omega)) (h.lt b (by omega)),← zuz h.hp ha hb,zu1,zu1,(h.l1 a b ha hb e).1]
  cases b1 <;> simp [(h.l1 a b ha hb e).2,(h.l1 b a hb ha fun x=>e x.symm).2]
 intro a b ha hb
 by_cases e:a=b
 ·subst e; simp
 rw [← zuz h.pl (h.lt _ (by omega)) (h.lt _ (by omega)),← zuz h.hq ha hb,zu1,zu1,(h.l2 a b ha hb e).1]
 cases b1 <;> simp [(h.l2 a b ha hb e).2,(h.l2 b a hb ha fun x=>e x.symm).2]
end
end
section
section
variable {p q:List Txt}
end
end
structure Pt where
 r:Nat
 c:Nat
 h:Nat
 w:Nat
 deriving DecidableEq
def Pt.In (t:Pt) (H W:Nat):Prop:=1≤t.h∧1≤t.w∧t.r+t.h≤H∧t.c+t.w≤W
def Pt.one (t:Pt) (q:Bool × Nat):Pt:=if q.1 then ⟨t.r,t.c,q.2,t.w⟩ else ⟨t.r,t.c,t.h,q.2⟩
inductive CT where
 | leaf (a:Int)
 | node (lv:Bool) (x y:CT)
def CT.fold {α:Type} (room:Int→α) (cut:Bool→α→α→α):CT→α
 | .leaf a=>room a
 | .node lv x y=>cut lv (x.fold room cut) (y.fold room cut)
structure Whole (z:Nat→Nat→Int) (H W:Nat) (t:Pt):Prop where
 inn:t.In H W
 all:∀ i j i' j',i<H→j<W→i'<H→j'<W→z i j=z i' j'→t.r≤i→i<t.r+t.h→t.c≤j→j<t.c+t.w→t.r≤i'∧i'<t.r+t.h∧t.c≤j'∧j'<t.c+t.w
section
def yh5 (t:Pt) (row:Txt):Txt:=(row.drop t.c).take t.w
def sub (p:List Txt) (t:Pt):List Txt:=((p.drop t.r).take t.h).map (yh5 t)
section
variable {p:List Txt} {t:Pt}
end
end
section
def Pt.rect (t:Pt):Rect:=⟨t.r,t.c,t.h,t.w⟩
section
variable {p:List Txt} {t:Pt}
end
end
section
section
variable {z:Nat→Nat→Int} {H W:Nat} {t:Pt}
def CT.leaves:CT→List Int
 | .leaf a=>[a]
 | .node _ x y=>x.leaves++y.leaves
theorem CT.pos (x:CT):1≤x.leaves.length:=by
 induction x with
 | leaf a=>simp [CT.leaves]
 | node lv x y h1 h2=>simp [CT.leaves]; omega
end
end
section
section
variable {c:Nat→Nat→Nat} {H W:Nat}
def yh4 (c:Nat→Nat→Nat) (t:Pt) (i j:Nat):Nat:=c (t.r+i) (t.c+j)
theorem Pl.sub (h:Pl c H W) {t:Pt} (ht:t.In H W):Pl (yh4 c t) t.h t.w:=by
 obtain ⟨t1,t2,t3,t4⟩:=ht
 constructor
 ·intro i j i' j' k l a b c' d e f1 f2 f3 f4
  exact h.rect (t.r+k) (t.c+l) (by omega) (by omega) (by omega) (by omega) e (by omega) (by omega) (by omega) (by omega)
 intro i j a b e1 e2 e3
 exact h.plain (i:=t.r+i) (j:=t.c+j) (by omega) (by omega) e1 e2 e3
theorem DL.sub {t:Pt} (ht:t.In H W) {a b:Nat} (h:DL (yh4 c t) t.h t.w a b):DL c H W a b:=by
 obtain ⟨t1,t2,t3,t4⟩:=ht
 obtain ⟨j,i1,i2,a1,a2,a3,a4,a5,a6⟩:=h
 refine ⟨t.c+j,t.r+i1,t.r+i2,by omega,by omega,by omega,fun r h1 h2=>?_,a5,a6⟩
 have:=a4 (r - t.r) (by omega) (by omega)
 simp only[yh4]at this
 rwa [show t.r+(r - t.r)=r by omega]at this
theorem DU.sub {t:Pt} (ht:t.In H W) {a b:Nat} (h:DU (yh4 c t) t.h t.w a b):DU c H W a b:=by
 obtain ⟨t1,t2,t3,t4⟩:=ht
 obtain ⟨i,j1,j2,a1,a2,a3,a4,a5,a6⟩:=h
 refine ⟨t.r+i,t.c+j1,t.c+j2,by omega,by omega,by omega,fun r h1 h2=>?_,a5,a6⟩
 have:=a4 (r - t.c) (by omega) (by omega)
 simp only[yh4]at this
 rwa [show t.c+(r - t.c)=r by omega]at this
end
section
variable {p:List Txt}
end
inductive Ch (M:List (List Bool)) (ws:List Int) (a:Nat):Nat→Int→Prop
 | one:Ch M ws a a (zoy ws a)
 | snoc {b d:Nat} {s:Int}:Ch M ws a b s→zdc M b d=true→Ch M ws a d (s+zoy ws d)
section
variable {M:List (List Bool)} {ws:List Int} {n:Nat} {rk:Nat→Nat}
theorem Ch.le (hu:Up M n rk) (hsq:∀ a b,zdc M a b=true→a<n) {a b:Nat} {s:Int} (h:Ch M ws a b s):b<n→s≤HB M ws n b:=by
 induction h with
 | one=>intro hb; rw [ycr hu hb]; have:=yg1 (M:=M) (ws:=ws) (n:=n) a; omega
 | snoc k hk ih =>
  intro hb
  have h1:=ih (hsq _ _ hk)
  have h2:=yg0 (ws:=ws) (hsq _ _ hk) hk
  rw [ycr hu hb]; omega
end
section
variable {p:List Txt}
end
end
section
inductive Sp (L U:Nat→Nat→Prop):(Nat→Prop)→Prop
 | one {A:Nat→Prop} (a:Nat):A a→(∀ b,A b→b=a)→Sp L U A
 | left {A:Nat→Prop} (B:Nat→Prop):(∃ a,A a∧B a)→(∃ a,A a∧¬ B a)→(∀ a b,A a→B a→A b→¬ B b→L a b)→Sp L U (fun a=>A a∧B a)→Sp L U (fun a=>A a∧¬ B a)→Sp L U A
 | up {A:Nat→Prop} (B:Nat→Prop):(∃ a,A a∧B a)→(∃ a,A a∧¬ B a)→(∀ a b,A a→B a→A b→¬ B b→U a b)→Sp L U (fun a=>A a∧B a)→Sp L U (fun a=>A a∧¬ B a)→Sp L U A
theorem Sp.congr {L U:Nat→Nat→Prop} {A A':Nat→Prop} (h:Sp L U A) (e:∀ a,A a↔A' a):Sp L U A':=by
 have:A=A':=funext fun a=>propext (e a)
 rwa [← this]
theorem Sp.ne {L U:Nat→Nat→Prop} {A:Nat→Prop} (h:Sp L U A):∃ a,A a:=by
 cases h with
 | one a h _=>exact ⟨a,h⟩
 | left B h=>obtain ⟨a,h,_⟩:=h; exact ⟨a,h⟩
 | up B h=>obtain ⟨a,h,_⟩:=h; exact ⟨a,h⟩
theorem Sp.map {L U L' U':Nat→Nat→Prop} {A:Nat→Prop} (g:Nat→Nat) (h:Sp L U A):∀ {A':Nat→Prop},(∀ i,A' i→A (g i))→(∀ a,A a→∃ i,A' i∧g i=a)→(∀ i j,A' i→A' j→g i=g j→i=j) →
  (∀ i j,A' i→A' j→L (g i) (g j)→L' i j)→(∀ i j,A' i→A' j→U (g i) (g j)→U' i j)→Sp L' U' A':=by
 induction h with
 | one a ha hu =>
  intro A' h1 h2 h3 h4 h5
  obtain ⟨i,hi,e⟩:=h2 a ha
  exact .one i hi fun j hj=>h3 j i hj hi ((hu _ (h1 j hj)).trans e.symm)
 | left B hb hn hl _ _ i1 i2 =>
  intro A' h1 h2 h3 h4 h5
  refine .left (fun i=>B (g i)) ?_ ?_ (fun a b ha hba hb' hnb=>h4 a b ha hb' (hl _ _ (h1 a ha) hba (h1 b hb') hnb)) (i1 (fun i hi=>⟨h1 i hi.1,hi.2⟩) (fun a ha=>?_) (fun i j hi hj=>h3 i j hi.1 hj.1) (fun i j hi hj=>h4 i j hi.1 hj.1) fun i j hi hj=>h5 i j hi.1 hj.1)
   (i2 (fun i hi=>⟨h1 i hi.1,hi.2⟩) (fun a ha=>?_) (fun i j hi hj=>h3 i j hi.1 hj.1) (fun i j hi hj=>h4 i j hi.1 hj.1) fun i j hi hj=>h5 i j hi.1 hj.1)
  ·obtain ⟨a,ha,hb⟩:=hb; obtain ⟨i,hi,e⟩:=h2 a ha; exact ⟨i,hi,by rw [e]; exact hb⟩
  ·obtain ⟨a,ha,hb⟩:=hn; obtain ⟨i,hi,e⟩:=h2 a ha; exact ⟨i,hi,by rw [e]; exact hb⟩
  ·obtain ⟨i,hi,e⟩:=h2 a ha.1; exact ⟨i,⟨hi,by rw [e]; exact ha.2⟩,e⟩
  obtain ⟨i,hi,e⟩:=h2 a ha.1; exact ⟨i,⟨hi,by rw [e]; exact ha.2⟩,e⟩
 | up B hb hn hl _ _ i1 i2 =>
  intro A' h1 h2 h3 h4 h5
  refine .up (fun i=>B (g i)) ?_ ?_ (fun a b ha hba hb' hnb=>h5 a b ha hb' (hl _ _ (h1 a ha) hba (h1 b hb') hnb)) (i1 (fun i hi=>⟨h1 i hi.1,hi.2⟩) (fun a ha=>?_) (fun i j hi hj=>h3 i j hi.1 hj.1) (fun i j hi hj=>h4 i j hi.1 hj.1) fun i j hi hj=>h5 i j hi.1 hj.1)
   (i2 (fun i hi=>⟨h1 i hi.1,hi.2⟩) (fun a ha=>?_) (fun i j hi hj=>h3 i j hi.1 hj.1) (fun i j hi hj=>h4 i j hi.1 hj.1) fun i j hi hj=>h5 i j hi.1 hj.1)
  ·obtain ⟨a,ha,hb⟩:=hb; obtain ⟨i,hi,e⟩:=h2 a ha; exact ⟨i,hi,by rw [e]; exact hb⟩
  ·obtain ⟨a,ha,hb⟩:=hn; obtain ⟨i,hi,e⟩:=h2 a ha; exact ⟨i,hi,by rw [e]; exact hb⟩
  ·obtain ⟨i,hi,e⟩:=h2 a ha.1; exact ⟨i,⟨hi,by rw [e]; exact ha.2⟩,e⟩
  obtain ⟨i,hi,e⟩:=h2 a ha.1; exact ⟨i,⟨hi,by rw [e]; exact ha.2⟩,e⟩
theorem Sp.sub {L U:Nat→Nat→Prop} {A:Nat→Prop} (h:Sp L U A):∀ {A':Nat→Prop},(∀ a,A' a→A a)→(∃ a,A' a)→Sp L U A':=by
 induction h with
 | one a ha hu =>
  intro A' h1 ⟨b,hb⟩
  exact .one b hb fun d hd=>(hu d (h1 d hd)).trans (hu b (h1 b hb)).symm
 | left B _ _ hl _ _ i1 i2 =>
  intro A' h1 h2
  by_cases hb:∃ a,A' a∧B a
  ·by_cases hn:∃ a,A' a∧¬ B a
   ·exact .left B hb hn (fun a b ha hba hb' hnb=>hl a b (h1 a ha) hba (h1 b hb') hnb) (i1 (fun a ha=>⟨h1 a ha.1,ha.2⟩) hb) (i2 (fun a ha=>⟨h1 a ha.1,ha.2⟩) hn)
   exact i1 (fun a ha=>⟨h1 a ha,Classical.byContradiction fun h=>hn ⟨a,ha,h⟩⟩) h2
  exact i2 (fun a ha=>⟨h1 a ha,fun h=>hb ⟨a,ha,h⟩⟩) h2
 | up B _ _ hl _ _ i1 i2 =>
  intro A' h1 h2
  by_cases hb:∃ a,A' a∧B a
  ·by_cases hn:∃ a,A' a∧¬ B a
   ·exact .up B hb hn (fun a b ha hba hb' hnb=>hl a b (h1 a ha) hba (h1 b hb') hnb) (i1 (fun a ha=>⟨h1 a ha.1,ha.2⟩) hb) (i2 (fun a ha=>⟨h1 a ha.1,ha.2⟩) hn)
   exact i1 (fun a ha=>⟨h1 a ha,Classical.byContradiction fun h=>hn ⟨a,ha,h⟩⟩) h2
  exact i2 (fun a ha=>⟨h1 a ha,fun h=>hb ⟨a,ha,h⟩⟩) h2
section
variable {p:List Txt}
end
end
section
section
variable {c:Nat→Nat→Nat} {H W:Nat}
theorem DU.rows (h:Pl c H W) {u v:Nat} (hd:DU c H W u v) {i j i' j':Nat} (hi:i<H) (hj:j<W) (hi':i'<H) (hj':j'<W) (hu:c i j=u) (hv:c i' j'=v):i<i':=by
 obtain ⟨l,j1,j2,a1,a2,a3,a4,a5,a6⟩:=hd
 have k1:i≤l:=by
  refine Nat.le_of_not_lt fun hlt=>a4 j1 (by omega) (by omega) ?_
  have:=h.rect (i:=i) (j:=j) (i':=l) (j':=j1) (l+1) j1 hi (by omega) hj a2 (by rw [hu,a5]) (by omega) (by omega) (by omega) (by omega)
  rw [this,hu,a5]
 have k2:l+1≤i':=by
  refine Nat.le_of_not_lt fun hlt=>a4 j2 (by omega) (by omega) ?_
  have:=h.rect (i:=i') (j:=j') (i':=l+1) (j':=j2) l j2 hi' (by omega) hj' a3 (by rw [hv,a6]) (by omega) (by omega) (by omega) (by omega)
  rw [this,hv,a6]
 omega
theorem TCU.rows (h:Pl c H W) {u v:Nat} (hd:TC (DU c H W) u v):∀ {i j i' j':Nat},i<H→j<W→i'<H→j'<W→c i j=u→c i' j'=v→i<i':=by
 induction hd with
 | one hd=>exact DU.rows h hd
 | tail _ k ih =>
  intro i j i' j' hi hj hi' hj' hu hv
  obtain ⟨l,j1,j2,a1,a2,a3,a4,a5,a6⟩:=id k
  have h1:=ih hi hj (show l<H by omega) a2 hu a5.symm
  have h2:=DU.rows h k (show l<H by omega) a2 hi' hj' a5.symm hv
  omega
end
section
variable {p:List Txt}
theorem DL.lt (hp:zca p=true) {a b:Nat} (h:DL (cn (gP p)) p.length (zax p).length a b):a<(rP p).length∧b<(rP p).length:=by
 obtain ⟨j,i1,i2,h1,h2,h3,-,rfl,rfl⟩:=h
 exact ⟨zsh zgk h2 (by omega),zsh zgk h3 h1⟩
theorem DU.lt (hp:zca p=true) {a b:Nat} (h:DU (cn (gP p)) p.length (zax p).length a b):a<(rP p).length∧b<(rP p).length:=by
 obtain ⟨j,i1,i2,h1,h2,h3,-,rfl,rfl⟩:=h
 exact ⟨zsh zgk (by omega) h2,zsh zgk h1 h3⟩
end
end
section
def Tight (a b c d:Int):Prop:=(c<a∧a<d∧d<b)∨(b<d∧d<a∧a<c)
def Avoid (v:Nat→Int) (A:Nat→Prop):Prop:=∀ a b c d,A a→A b→A c→A d→a<b→b<c→c<d→¬ Tight (v a) (v b) (v c) (v d)
def Inj (v:Nat→Int) (A:Nat→Prop):Prop:=∀ a b,A a→A b→v a=v b→a=b
def LS (v:Nat→Int) (A B:Nat→Prop):Prop:=(∃ a,A a∧B a)∧(∃ a,A a∧¬ B a)∧∀ a b,A a→B a→A b→¬ B b→a<b∧v a<v b
def DS (v:Nat→Int) (A B:Nat→Prop):Prop:=(∃ a,A a∧B a)∧(∃ a,A a∧¬ B a)∧∀ a b,A a→B a→A b→¬ B b→a<b∧v b<v a
theorem LS.neg {v:Nat→Int} {A B:Nat→Prop} (h:LS (fun i => -v i) A B):DS v A B :=
 ⟨h.1,h.2.1,fun a b h1 h2 h3 h4=>by have:=h.2.2 a b h1 h2 h3 h4; simp only at this; omega⟩
theorem DS.neg {v:Nat→Int} {A B:Nat→Prop} (h:DS (fun i => -v i) A B):LS v A B :=
 ⟨h.1,h.2.1,fun a b h1 h2 h3 h4=>by have:=h.2.2 a b h1 h2 h3 h4; simp only at this; omega⟩
theorem DS.pos {v:Nat→Int} {A B:Nat→Prop} (h:DS v A B):LS (fun i => -v i) A B :=
 ⟨h.1,h.2.1,fun a b h1 h2 h3 h4=>by have:=h.2.2 a b h1 h2 h3 h4; refine ⟨this.1,?_⟩; show -v a < -v b; omega⟩
theorem Avoid.neg {v:Nat→Int} {A:Nat→Prop} (h:Avoid v A):Avoid (fun i => -v i) A:=fun a b c d h1 h2 h3 h4 h5 h6 h7 k =>
 h a b c d h1 h2 h3 h4 h5 h6 h7 (by unfold Tight at k ⊢; simp only at k; omega)
theorem Inj.neg {v:Nat→Int} {A:Nat→Prop} (h:Inj v A):Inj (fun i => -v i) A:=fun a b h1 h2 h3=>h a b h1 h2 (by simp only at h3; omega)
theorem Avoid.sub {v:Nat→Int} {A A':Nat→Prop} (h:Avoid v A) (k:∀ a,A' a→A a):Avoid v A':=fun a b c d h1 h2 h3 h4=>h a b c d (k a h1) (k b h2) (k c h3) (k d h4)
theorem Inj.sub {v:Nat→Int} {A A':Nat→Prop} (h:Inj v A) (k:∀ a,A' a→A a):Inj v A':=fun a b h1 h2=>h a b (k a h1) (k b h2)
section
variable {l:List Int}
end
end


section
def zzm (a b c d:Int):Bool:=(decide (b>max a d) && decide (c<min a d) && decide (a<d)) || (decide (b<min a d) && decide (c>max a d) && decide (a>d))
section
variable {p:List Txt}
end
end
def Tm.ok:Tm→Prop
 | .o=>True
 | .un c t=>(c=62∨c=94)∧t.ok
 | .bin m a b=>(m=124∨m=45)∧a.ok∧b.ok
def Tm.n:Tm→Nat
 | .o=>1
 | .un _ t=>t.n
 | .bin _ a b=>a.n+b.n
theorem Tm.pos:∀ t:Tm,1≤t.n
 | .o=>qR _
 | .un _ t=>t.pos
 | .bin _ a b=>by have:=a.pos; simp only[Tm.n]; omega
def Tm.pure:Tm→Prop
 | .o=>True
 | .un _ _=>False
 | .bin m a b=>(m=124∨m=45)∧a.pure∧b.pure
theorem Tm.pure.ok {t:Tm} (h:t.pure):t.ok:=by
 induction t with
 | o=>trivial
 | un c t _=>exact h.elim
 | bin m a b h1 h2=>exact ⟨h.1,h1 h.2.1,h2 h.2.2⟩
def Full (l:List Int):Prop:=(∀ (i:Nat) v,l[i]?=some v→0≤v∧v<l.length)∧∀ v:Nat,v<l.length→∃ i:Nat,l[i]?=some (v:Int)
def To (g:Nat→Nat) (l l':List Int):Prop:=l'.length=l.length∧∀ (i:Nat) v,l[i]?=some v→l'[l.length - 1 - v.toNat]?=some ((g i:Nat):Int)
theorem To.uniq {g:Nat→Nat} {l l' l2:List Int} (hl:Full l) (h:To g l l') (k:To g l l2):l'=l2:=by
 apply List.ext_getElem?
 intro i
 by_cases hi:i<l.length
 ·obtain ⟨j,hj⟩:=hl.2 (l.length - 1 - i) (by omega)
  have h1:=h.2 _ _ hj
  have h2:=k.2 _ _ hj
  rw [show l.length - 1 - ((l.length - 1 - i:Nat):Int).toNat=i by omega]at h1 h2
  rw [h1,h2]
 rw [List.getElem?_eq_none (by rw [h.1]; omega),List.getElem?_eq_none (by rw [k.1]; omega)]
section
section
variable {p t:List Txt} {σ:Nat→Nat}
end
end
section
def zey (row:Txt) (l:Nat) (c:UInt8) (k:Nat):Txt:=(List.range row.length).map fun x=>if l≤x∧x<k then c else row.getD x 0
theorem zf4 {row:Txt} {l k:Nat} {c:UInt8}:(zey row l c k).length=row.length:=by simp [zey]
theorem zr0 {row:Txt} {l:Nat} {c:UInt8}:zey row l c l=row:=by
 apply List.ext_getElem?
 intro j
 unfold zey
 rw [List.getElem?_map]
 by_cases hj:j<row.length
 ·rw [List.getElem?_range hj,qO,if_neg (by omega),List.getD_eq_getElem?_getD,List.getElem?_eq_getElem hj]; rfl
 rw [List.getElem?_eq_none (by simpa using hj),List.getElem?_eq_none (by omega)]; rfl
theorem zrz {row:Txt} {l k:Nat} {c:UInt8} (h1:l≤k) (h2:k<row.length):(zey row l c k).set k c=zey row l c (k+1):=by
 apply List.ext_getElem?
 intro j
 rw [List.getElem?_set,zf4]
 unfold zey
 rw [List.getElem?_map,List.getElem?_map]
 by_cases hj:j<row.length
 ·rw [List.getElem?_range hj,qO,qO]
  by_cases e:k=j
  ·subst e; rw [if_pos rfl,if_pos h2,if_pos (by omega)]
  rw [if_neg e]
  by_cases q:l≤j∧j<k
  ·rw [if_pos q,if_pos (by omega)]
  rw [if_neg q,if_neg (by omega)]
 rw [if_neg (by omega),List.getElem?_eq_none (by simpa using hj)]; rfl
def zef (p:List Txt) (t l w:Nat) (c:UInt8) (i:Nat):List Txt:=(List.range p.length).map fun j=>if t≤j∧j<i then zey (p.getD j []) l c (l+w) else p.getD j []
theorem zgf {p:List Txt} {t l w i:Nat} {c:UInt8}:(zef p t l w c i).length=p.length:=by simp [zef]
theorem z27 {p:List Txt} {t l w i:Nat} {c:UInt8} {row:Txt} (h:p[i]?=some row):(zef p t l w c i)[i]?=some row:=by
 have hi:=zbd h
 unfold zef
 rw [List.getElem?_map,List.getElem?_range hi,qO,if_neg (by omega),List.getD_eq_getElem?_getD,h]; rfl
theorem zt8 {p:List Txt} {t l w:Nat} {c:UInt8}:zef p t l w c t=p:=by
 apply List.ext_getElem?
 intro j
 unfold zef
 rw [List.getElem?_map]
 by_cases hj:j<p.length
 ·rw [List.getElem?_range hj,qO,if_neg (by omega),List.getD_eq_getElem?_getD,List.getElem?_eq_getElem hj]; rfl
 rw [List.getElem?_eq_none (by simpa using hj),List.getElem?_eq_none (by omega)]; rfl
theorem zt7 {p:List Txt} {t l w i:Nat} {c:UInt8} {row:Txt} (h1:t≤i) (h:p[i]?=some row):(zef p t l w c i).set i (zey row l c (l+w))=zef p t l w c (i+1):=by
 have hi:=zbd h
 apply List.ext_getElem?
 intro j
 rw [List.getElem?_set,zgf]
 unfold zef
 rw [List.getElem?_map,List.getElem?_map]
 by_cases hj:j<p.length
 ·rw [List.getElem?_range hj,qO,qO]
  by_cases e:i=j
  ·subst e; rw [if_pos rfl,if_pos hi,if_pos (by omega),List.getD_eq_getElem?_getD,h]; rfl
  rw [if_neg e]
  by_cases q:t≤j∧j<i
  ·rw [if_pos q,if_pos (by omega)]
  rw [if_neg q,if_neg (by omega)]
 rw [if_neg (by omega),List.getElem?_eq_none (by simpa using hj)]; rfl
theorem zvp {p:List Txt} (hs:Sm p) {t l w i:Nat} {c:UInt8}:Sm (zef p t l w c i):=by
 refine ⟨by rw [zgf]; exact hs.1,fun r hr=>?_⟩
 obtain ⟨j,hj,rfl⟩:=List.mem_map.1 hr
 have hjl:j<p.length:=by simpa using hj
 have hm:p.getD j []∈p:=by
  rw [List.getD_eq_getElem?_getD,List.getElem?_eq_getElem hjl]; exact List.getElem_mem hjl
 have:=hs.2 _ hm
 split
 ·rw [zf4]; exact this
 exact this
def zi9 (p:List Txt):List Txt × Bool:=if zc1 p && zcu (names p) then (names p,true) else ([],false)
theorem z75 {p:List Txt} (hg:zc1 p=true):(names p).length=p.length:=by
 rw [zkl hg]
 have hr:(gP p).length=p.length:=by rw [z4k]; exact zdb _
 unfold zfv
 rw [List.length_map,hr]
theorem z1t {p:List Txt} (h:(zi9 p).2=true):zcu (zi9 p).1=true∧(zi9 p).1.length=p.length:=by
 unfold zi9 at h ⊢
 split at h
 ·rename_i hq
  rw [if_pos hq]
  simp only[qB]at hq
  exact ⟨hq.2,z75 hq.1⟩
 cases h
def zfy (p:List Txt) (room:Int) (s:Txt) (k:Int):List Txt × Bool :=
 if zcu p && (decide (0≤room) && decide (room≤zaw p - 1)) then
  if (s == [104]) && (decide (1≤k) && decide (k≤zen p room - 1)) then zi9 (zef p ((zg6 p room).top+k).toNat (zg6 p room).left.toNat (zed p room).toNat 122 ((zg6 p room).top+k+(zen p room - k)).toNat)
  else if (s == [118]) && (decide (1≤k) && decide (k≤zed p room - 1)) then zi9 (zef p (zg6 p room).top.toNat ((zg6 p room).left+k).toNat (zed p room - k).toNat 122 ((zg6 p room).top+zen p room).toNat)
  else ([],false)
 else ([],false)
theorem zzf {p:List Txt} {room k:Int} {s:Txt} (h:(zfy p room s k).2=true):zcu (zfy p room s k).1=true∧(zfy p room s k).1.length=p.length:=by
 unfold zfy at h ⊢
 by_cases h1:(zcu p && (decide (0≤room) && decide (room≤zaw p - 1)))=true
 ·rw [if_pos h1]at h ⊢
  by_cases h2:((s == [104]) && (decide (1≤k) && decide (k≤zen p room - 1)))=true
  ·rw [if_pos h2]at h ⊢
   have:=z1t h
   rw [zgf]at this
   exact this
  rw [if_neg h2]at h ⊢
  by_cases h3:((s == [118]) && (decide (1≤k) && decide (k≤zed p room - 1)))=true
  ·rw [if_pos h3]at h ⊢
   have:=z1t h
   rw [zgf]at this
   exact this
  rw [if_neg h3]at h; cases h
 rw [if_neg h1]at h; cases h
section
variable {p:List Txt} {room:Int} {s:Txt} {t l h w k:Nat}
theorem zhw {k:Int} (hgv:(zcu p && (decide (0≤room) && decide (room≤zaw p - 1)))=false):zfy p room s k=([],false):=by
 unfold zfy; rw [hgv]; rfl
theorem zgg {k:Int} (h1:((s == [104]) && (decide (1≤k) && decide (k≤zen p room - 1)))=false) (h2:((s == [118]) && (decide (1≤k) && decide (k≤zed p room - 1)))=false):zfy p room s k=([],false):=by
 unfold zfy; rw [h1,h2]; split <;> rfl
theorem zhx (hgv:(zcu p && (decide (0≤room) && decide (room≤zaw p - 1)))=true) (e1:(zg6 p room).top=t) (e2:(zg6 p room).left=l) (e3:zen p room=h) (e4:zed p room=w)
  (hb:((s == [104]) && (decide (1≤(k:Int)) && decide ((k:Int)≤zen p room - 1)))=true):zfy p room s k=zi9 (zef p (t+k) l w 122 (t+k+(h - k))):=by
 have hk:(k:Int)≤h - 1:=by simp only[qB,decide_eq_true_eq,e3]at hb; exact hb.2.2
 unfold zfy
 rw [if_pos hgv,if_pos hb,e1,e2,e3,e4]
 have a1:((t:Int)+(k:Int)).toNat=t+k:=by omega
 have a2:((t:Int)+(k:Int)+((h:Int) - (k:Int))).toNat=t+k+(h - k):=by omega
 rw [a1,a2,Int.toNat_natCast,Int.toNat_natCast]
theorem zhy (hgv:(zcu p && (decide (0≤room) && decide (room≤zaw p - 1)))=true) (e1:(zg6 p room).top=t) (e2:(zg6 p room).left=l) (e3:zen p room=h) (e4:zed p room=w)
  (ha:((s == [104]) && (decide (1≤(k:Int)) && decide ((k:Int)≤zen p room - 1)))=false) (hb:((s == [118]) && (decide (1≤(k:Int)) && decide ((k:Int)≤zed p room - 1)))=true):zfy p room s k=zi9 (zef p t (l+k) (w - k) 122 (t+h)):=by
 have hk:(k:Int)≤w - 1:=by simp only[qB,decide_eq_true_eq,e4]at hb; exact hb.2.2
 unfold zfy
 rw [if_pos hgv,ha,if_neg Bool.false_ne_true,if_pos hb,e1,e2,e3,e4]
 have a1:((l:Int)+(k:Int)).toNat=l+k:=by omega
 have a2:((t:Int)+(h:Int)).toNat=t+h:=by omega
 have a3:((w:Int) - (k:Int)).toNat=w - k:=by omega
 rw [a1,a2,a3,Int.toNat_natCast]
end
theorem ybp {p:List Txt} (hp:zcu p=true) {room:Int} (h0:0≤room) (h1:room≤zaw p - 1):∃ t l h w:Nat,(zg6 p room).top=t∧(zg6 p room).left=l∧zen p room=h∧zed p room=w∧1≤h∧1≤w∧t+h≤p.length∧l+w≤(zax p).length:=by
 have hN:=zds hp
 have hr:=hN.rooms
 obtain ⟨m,rfl⟩:∃ m:Nat,room=m:=⟨room.toNat,by omega⟩
 have hm:m<(rP p).length:=by omega
 obtain ⟨b,hb,-⟩:=zaf hm
 have hi:=zgx p
 obtain ⟨v,hv,-⟩:=zaf (show m<(keys p).length by rw [← hi.len]; exact hm)
 obtain ⟨e1,e2,e3,e4⟩:=hN.box hb
 obtain ⟨t,l,h,w,q1,q2,q3,q4,q5,q6,q7,q8,-⟩:=Hull.nat (hi.hull m v b hv hb)
 exact ⟨t,l,h,w,by omega,by omega,by omega,by omega,q5,q6,q7,q8⟩
theorem z9f {p:List Txt} (hp:zcu p=true) {i:Nat} {row:Txt} (h:p[i]?=some row):row.length=(zax p).length:=zd5 (zkp hp) h
theorem zn8 {p:List Txt} (hp:zcu p=true):p.length≤6∧1≤p.length∧∀ row∈p,1≤row.length∧row.length≤6:=by
 have hg:=zkp hp
 have h:=zcr hg
 refine ⟨h.2.1,h.1,fun row hr=>⟨?_,h.2.2 row hr⟩⟩
 obtain ⟨i,hi,rfl⟩:=List.getElem_of_mem hr
 exact zhf hg (List.getElem?_eq_getElem hi)
end
section
def ch (p:List Txt) (i j:Nat):UInt8:=(p[i]?.getD [])[j]?.getD 0
structure Shp2 (X:List Txt) (H W:Nat):Prop where
 h:X.length=H
 w:∀ r∈X,r.length=W
theorem Shp2.row {X:List Txt} {H W:Nat} (h:Shp2 X H W) {i:Nat} (hi:i<H):∃ r,X[i]?=some r∧r.length=W∧∀ j,j<W→r[j]?=some (ch X i j):=by
 obtain ⟨r,hr,hm⟩:=zaf (show i<X.length by rw [h.h]; exact hi)
 refine ⟨r,hr,h.w r hm,fun j hj=>?_⟩
 obtain ⟨c,hc,-⟩:=zaf (show j<r.length by rw [h.w r hm]; exact hj)
 rw [hc,ch,hr,Option.getD_some,hc,Option.getD_some]
theorem Shp2.hd {X:List Txt} {H W:Nat} (h:Shp2 X H W) (h1:1≤H):(zax X).length=W:=by
 obtain ⟨r,hr,hl,-⟩:=h.row (show 0<H by omega)
 rw [zc4 hr,hl]
theorem z81 {X:List Txt} {H W i j:Nat} (h:Shp2 X H W) (hi:i<H) (hj:j<W):gz (zbp X) i j=((ch X i j).toNat:Int):=by
 obtain ⟨r,hr,hl,hx⟩:=h.row hi
 have e1:(zbp X)[i]?=some (zsg r):=by simp [zbp,hr]
 have e2:(zsg r)[j]?=some ((ch X i j).toNat:Int):=by simp [zsg,hx j hj]
 unfold gz
 rw [e1,Option.getD_some,e2,Option.getD_some]
theorem yb8 {X:List Txt} {H W:Nat} (h:Shp2 X H W) (h1:1≤H) (h2:H≤6) (h3:1≤W) (h4:W≤6) (hl:∀ i j,i<H→j<W→97≤(ch X i j).toNat∧(ch X i j).toNat≤122):zc1 X=true:=by
 unfold zc1
 rw [h.hd h1,h.h]
 simp only[qB,decide_eq_true_eq,List.all_eq_true]
 refine ⟨⟨fun r hr=>?_,h1⟩,h2⟩
 obtain ⟨i,hi⟩:=List.getElem?_of_mem hr
 have hil:=zbd hi
 rw [h.h]at hil
 obtain ⟨r',hr',hrl,hx⟩:=h.row hil
 rw [hi]at hr'
 cases hr'
 simp only[zsr,qB,decide_eq_true_eq,List.all_eq_true]
 refine ⟨⟨⟨hrl,by omega⟩,by omega⟩,fun c hc=>?_⟩
 obtain ⟨j,hj⟩:=List.getElem?_of_mem hc
 have hjl:=zbd hj
 rw [hrl]at hjl
 have e:=hx j hjl
 rw [hj]at e
 cases e
 have:=hl i j hil hjl
 simp only[zde,qB,decide_eq_true_eq]
 exact this
section
variable {p q:List Txt}
end
end
section
def rl (n:Nat):UInt8:=UInt8.ofNat (97+n)
theorem zj2 {n:Nat} (h:n≤100):(rl n).toNat=97+n:=by
 unfold rl
 rw [UInt8.toNat_ofNat']
 omega
theorem zyy {a b:Nat} (ha:a≤100) (hb:b≤100) (h:rl a=rl b):a=b:=by
 have:=congrArg UInt8.toNat h
 rw [zj2 ha,zj2 hb]at this
 omega
theorem zpa {a:Nat} (ha:a≤100):rl a≠46:=by
 intro h
 have:=congrArg UInt8.toNat h
 rw [zj2 ha]at this
 have e:(46:UInt8).toNat=46:=rfl
 omega
structure RmB where
 r:Nat
 c:Nat
 h:Nat
 w:Nat
def RmB.has (q:RmB) (i j:Nat):Prop:=q.r≤i∧i<q.r+q.h∧q.c≤j∧j<q.c+q.w
def bef (a b i j:Nat):Prop:=a<i∨(a=i∧b<j)
structure St (H W:Nat) (p:List Txt) (R:List RmB):Prop where
 sh:Shp2 p H W
 val:∀ i j,i<H→j<W→ch p i j=46∨∃ v,v<R.length∧ch p i j=rl v
 box:∀ (v:Nat) q,R[v]?=some q→(q.r+q.h≤H∧q.c+q.w≤W∧1≤q.h∧1≤q.w)
 at_:∀ (v:Nat) q,R[v]?=some q→∀ i j,i<H→j<W→(ch p i j=rl v↔q.has i j)
 ord:∀ (v u:Nat) q s,v<u→R[v]?=some q→R[u]?=some s→bef q.r q.c s.r s.c
 fre:∀ (v:Nat) q i j,R[v]?=some q→i<H→j<W→ch p i j=46→bef q.r q.c i j
 col:∀ i j a,i<H→j<W→ch p i j=46→i≤a→a<H→ch p a j=46
variable {H W:Nat} {p:List Txt} {R:List RmB}
theorem z6f {a b i j:Nat} (hb:b<W) (h:bef a b i j):a*W+b<i*W+j:=by
 rcases h with h | ⟨rfl,h⟩
 ·have:=Nat.mul_le_mul_right W (show a+1≤i by omega)
  rw [Nat.succ_mul]at this
  omega
 omega
theorem St.num (h:St H W p R):∀ (v:Nat) q,R[v]?=some q→v≤q.r*W+q.c∧q.r<H∧q.c<W
 | 0,q,hq=>by have:=h.box 0 q hq; omega
 | v+1,q,hq=>by
  have hl:=zbd hq
  obtain ⟨s,hs,-⟩:=zaf (show v<R.length by omega)
  have h1:=h.num v s hs
  have h2:=z6f (W:=W) h1.2.2 (h.ord v (v+1) s q (by omega) hs hq)
  have:=h.box _ q hq
  omega
theorem St.lim (h:St H W p R) {i j:Nat} (hi:i<H) (hj:j<W) (hf:ch p i j=46):R.length<H*W:=by
 have hpos:=Nat.mul_le_mul_right W (show i+1≤H by omega)
 rw [Nat.succ_mul]at hpos
 rcases Nat.eq_zero_or_pos R.length with h0 | h0
 ·rw [h0]; omega
 obtain ⟨s,hs,-⟩:=zaf (show R.length - 1<R.length by omega)
 have h1:=h.num _ s hs
 have h2:=z6f (W:=W) h1.2.2 (h.fre _ s i j hs hi hj hf)
 omega
theorem zlu {t l w i:Nat} {c:UInt8} (h:Shp2 p H W):Shp2 (zef p t l w c i) H W:=by
 refine ⟨by rw [zgf]; exact h.h,fun r hr=>?_⟩
 obtain ⟨j,hj,rfl⟩:=List.mem_map.1 hr
 have hjl:j<p.length:=by simpa using hj
 have hm:p.getD j []∈p:=by
  rw [List.getD_eq_getElem?_getD,List.getElem?_eq_getElem hjl]; exact List.getElem_mem hjl
 have:=h.w _ hm
 split
 ·rw [zf4]; exact this
 exact this
theorem z6r {t l w i a b:Nat} {c:UInt8} (h:Shp2 p H W) (ha:a<H) (hb:b<W):ch (zef p t l w c i) a b=if (t≤a∧a<i)∧l≤b∧b<l+w then c else ch p a b:=by
 obtain ⟨row,hr,hl,hx⟩:=h.row ha
 have hal:a<p.length:=by rw [h.h]; exact ha
 have e1:p.getD a []=row:=by rw [List.getD_eq_getElem?_getD,hr]; rfl
 have e2:(zef p t l w c i)[a]?=some (if t≤a∧a<i then zey row l c (l+w) else row):=by
  unfold zef
  rw [List.getElem?_map,List.getElem?_range hal,qO,e1]
 have e3:(zey row l c (l+w))[b]?=some (if l≤b∧b<l+w then c else ch p a b):=by
  unfold zey
  rw [List.getElem?_map,List.getElem?_range (by omega),qO,List.getD_eq_getElem?_getD,hx b hb]; rfl
 conv=>lhs; unfold ch
 rw [e2,Option.getD_some]
 by_cases q:t≤a∧a<i
 ·rw [if_pos q,e3,Option.getD_some]
  by_cases q2:l≤b∧b<l+w
  ·rw [if_pos q2,if_pos ⟨q,q2⟩]
  rw [if_neg q2,if_neg fun x=>q2 x.2]
 rw [if_neg q,hx b hb,Option.getD_some,if_neg fun x=>q x.1]
theorem St.step (h:St H W p R) (hn:R.length≤8) {i k w d:Nat} (hi:i+d≤H) (hd:1≤d) (hk:k+w≤W) (hw:1≤w) (hf:∀ b,k≤b→b<k+w→ch p i b=46)
  (h1:∀ a b,a<H→b<W→bef a b i k→ch p a b≠46):St H W (zef p i k w (rl R.length) (i+d)) (R++[⟨i,k,d,w⟩]):=by
 have hput:∀ a b,a<H→b<W→ch (zef p i k w (rl R.length) (i+d)) a b=if (i≤a∧a<i+d)∧k≤b∧b<k+w then rl R.length else ch p a b:=fun a b ha hb=>z6r h.sh ha hb
 have free:∀ a b,a<H→b<W→(i≤a∧a<i+d)∧k≤b∧b<k+w→ch p a b=46:=fun a b ha hb hq=>h.col i b a (by omega) hb (hf b hq.2.1 hq.2.2) hq.1.1 ha
 have get:∀ (v:Nat) q,(R++[⟨i,k,d,w⟩])[v]?=some q→R[v]?=some q∨(v=R.length∧q=⟨i,k,d,w⟩):=by
  intro v q hq
  by_cases e:v<R.length
  ·rw [List.getElem?_append_left e]at hq; exact .inl hq
  rw [List.getElem?_append_right (by omega)]at hq
  have hz:=zbd hq
  simp only[List.length_cons,List.length_nil]at hz
  have e2:v - R.length=0:=by omega
  rw [e2]at hq
  simp only[List.getElem?_cons_zero,Option.some.injEq]at hq
  exact .inr ⟨by omega,hq.symm⟩
 refine ⟨zlu h.sh,?_,?_,?_,?_,?_,?_⟩
 ·intro a b ha hb
  rw [hput a b ha hb,List.length_append]
  split
  ·exact .inr ⟨R.length,by simp,rfl⟩
  rcases h.val a b ha hb with e | ⟨v,hv,e⟩
  ·exact .inl e
  exact .inr ⟨v,by omega,e⟩
 ·intro v q hq
  rcases get v q hq with hq | ⟨rfl,rfl⟩
  ·exact h.box v q hq
  exact ⟨hi,hk,hd,hw⟩
 ·intro v q hq a b ha hb
  rw [hput a b ha hb]
  rcases get v q hq with hq | ⟨rfl,rfl⟩
  ·have hv:=zbd hq
   by_cases e:(i≤a∧a<i+d)∧k≤b∧b<k+w
   ·rw [if_pos e]
    constructor
    ·intro e2; have:=zyy (by omega) (by omega) e2; omega
    intro e2
    have:=(h.at_ v q hq a b ha hb).2 e2
    rw [free a b ha hb e]at this
    exact absurd this.symm (zpa (by omega))
   rw [if_neg e]; exact h.at_ v q hq a b ha hb
  by_cases e:(i≤a∧a<i+d)∧k≤b∧b<k+w
  ·rw [if_pos e]; exact ⟨fun _=>⟨e.1.1,e.1.2,e.2.1,e.2.2⟩,fun _=>rfl⟩
  rw [if_neg e]
  constructor
  ·intro e2
   rcases h.val a b ha hb with e3 | ⟨v,hv,e3⟩
   ·rw [e3]at e2; exact absurd e2.symm (zpa (by omega))
   rw [e3]at e2; have:=zyy (by omega) (by omega) e2; omega
  rintro ⟨q1,q2,q3,q4⟩; exact absurd ⟨⟨q1,q2⟩,q3,q4⟩ e
 ·intro v u q s hvu hq hs
  have hfree:ch p i k=46:=hf k (by omega) (by omega)
  rcases get v q hq with hq | ⟨rfl,rfl⟩
  ·rcases get u s hs with hs | ⟨rfl,rfl⟩
   ·exact h.ord v u q s hvu hq hs
   exact h.fre v q i k hq (by omega) (by omega) hfree
  rcases get u s hs with hs | ⟨rfl,rfl⟩
  ·have:=zbd hs; omega
  omega
 ·intro v q a b hq ha hb hx
  rw [hput a b ha hb]at hx
  split at hx
  ·exact absurd hx (zpa (by omega))
  rename_i hnin
  rcases get v q hq with hq | ⟨rfl,rfl⟩
  ·exact h.fre v q a b hq ha hb hx
  show bef i k a b
  have hnb:¬ bef a b i k:=fun x=>h1 a b ha hb x hx
  unfold bef at hnb ⊢
  by_cases e:a=i
  ·subst e; refine .inr ⟨rfl,?_⟩; omega
  omega
 intro a b a' ha hb hx haa ha'
 rw [hput a b ha hb]at hx
 split at hx
 ·exact absurd hx (zpa (by omega))
 rename_i hnin
 have hnb:¬ bef a b i k:=fun x=>h1 a b ha hb x hx
 rw [hput a' b ha' hb,if_neg]
 ·exact h.col a b a' ha hb hx haa ha'
 unfold bef at hnb
 omega
def fi (p:List Txt):Nat:=p.findIdx fun r=>r.contains 46
def z16 (p:List Txt):Txt:=p[fi p]?.getD []
def fk (p:List Txt):Nat:=(z16 p).idxOf 46
def fw (p:List Txt):Nat:=(((z16 p).drop (fk p)).takeWhile (· == 46)).length
theorem zpd {α:Type} {f:α→Bool}:∀ {l:List α} {n:Nat},n<(l.takeWhile f).length↔∀ i,i≤n→∃ x,l[i]?=some x∧f x=true
 | [],n=>by
  simp only[List.takeWhile_nil,List.length_nil,Nat.not_lt_zero,false_iff]
  intro h
  obtain ⟨x,hx,-⟩:=h 0 (by omega)
  simp at hx
 | a::l,n=>by
  rw [List.takeWhile_cons]
  split
  ·rename_i ha
   rw [List.length_cons]
   cases n with
   | zero=>simp; exact ha
   | succ n =>
    rw [Nat.succ_lt_succ_iff,zpd]
    constructor
    ·intro h i hi
     cases i with
     | zero=>exact ⟨a,rfl,ha⟩
     | succ i=>obtain ⟨x,h1,h2⟩:=h i (by omega); exact ⟨x,by simpa using h1,h2⟩
    intro h i hi
    obtain ⟨x,h1,h2⟩:=h (i+1) (by omega)
    exact ⟨x,by simpa using h1,h2⟩
  rename_i ha
  simp only[List.length_nil,Nat.not_lt_zero,false_iff]
  intro h
  obtain ⟨x,hx,h2⟩:=h 0 (by omega)
  simp at hx
  subst hx
  exact ha h2
theorem z17 (h:Shp2 p H W) (hf:fi p<H):p[fi p]?=some (z16 p)∧(z16 p).length=W∧(46:UInt8)∈z16 p∧∀ j,j<W→(z16 p)[j]?=some (ch p (fi p) j):=by
 obtain ⟨r,hr,hl,hx⟩:=h.row hf
 have e:z16 p=r:=by unfold z16; rw [hr]; rfl
 rw [e]
 refine ⟨hr,hl,?_,hx⟩
 have hlt:p.findIdx (fun r=>r.contains 46)<p.length:=by rw [h.h]; exact hf
 have:=List.findIdx_getElem (w:=hlt)
 have e2:p[p.findIdx fun r=>r.contains 46]'hlt=r:=by
  have:=List.getElem?_eq_getElem hlt
  unfold fi at hr
  rw [this]at hr
  exact Option.some.inj hr
 rw [e2]at this
 simpa using this
theorem zjl (h:Shp2 p H W) (hf:fi p<H):fk p<W∧ch p (fi p) (fk p)=46∧∀ a b,a<H→b<W→bef a b (fi p) (fk p)→ch p a b≠46:=by
 obtain ⟨hr,hl,hm,hx⟩:=z17 h hf
 have hk:fk p<(z16 p).length:=List.idxOf_lt_length_of_mem hm
 have hkx:(z16 p)[fk p]?=some 46:=by
  rw [List.getElem?_eq_getElem hk]
  exact congrArg some (List.getElem_idxOf hk)
 refine ⟨by omega,?_,?_⟩
 ·have:=hx (fk p) (by omega)
  rw [hkx]at this
  exact (Option.some.inj this).symm
 rintro a b ha hb hab e
 obtain ⟨r,hra,hrl,hrx⟩:=h.row ha
 rcases hab with hab | ⟨rfl,hab⟩
 ·have hlt:a<p.findIdx fun r=>r.contains 46:=hab
  have:=List.not_of_lt_findIdx hlt
  have e2:p[a]'(by rw [h.h]; exact ha)=r:=by
   rw [List.getElem?_eq_getElem (by rw [h.h]; exact ha)]at hra
   exact Option.some.inj hra
  rw [e2]at this
  have hmem:(46:UInt8)∈r:=by rw [← e]; exact List.mem_of_getElem? (hrx b hb)
  rw [List.contains_eq_mem]at this
  simp [hmem]at this
 have h1:=hx b hb
 rw [e]at h1
 have:=List.not_of_lt_findIdx (p:=(· == 46)) (xs:=z16 p) (i:=b) (show b<(z16 p).findIdx (· == 46) from hab)
 have h2:=List.getElem?_eq_getElem (l:=z16 p) (i:=b) (by omega)
 rw [h1]at h2
 have h3:=Option.some.inj h2
 rw [← h3]at this
 simp at this
theorem zz7 (h:Shp2 p H W) (hf:¬ fi p<H) {i j:Nat} (hi:i<H) (hj:j<W):ch p i j≠46:=by
 intro e
 obtain ⟨r,hr,hrl,hrx⟩:=h.row hi
 have hlt:i<p.findIdx fun r=>r.contains 46:=by unfold fi at hf; omega
 have:=List.not_of_lt_findIdx hlt
 have e2:p[i]'(by rw [h.h]; exact hi)=r:=by
  rw [List.getElem?_eq_getElem (by rw [h.h]; exact hi)]at hr
  exact Option.some.inj hr
 rw [e2]at this
 have hmem:(46:UInt8)∈r:=by rw [← e]; exact List.mem_of_getElem? (hrx j hj)
 rw [List.contains_eq_mem]at this
 simp [hmem]at this
theorem ztf (h:Shp2 p H W) (hf:fi p<H) {w:Nat}:w<fw p↔fk p+w<W∧∀ b,fk p≤b→b≤fk p+w→ch p (fi p) b=46:=by
 obtain ⟨hr,hl,hm,hx⟩:=z17 h hf
 unfold fw
 rw [zpd]
 constructor
 ·intro hq
  have hw:fk p+w<W:=by
   obtain ⟨x,h1,-⟩:=hq w (by omega)
   rw [List.getElem?_drop]at h1
   have:=zbd h1
   omega
  refine ⟨hw,fun b hb1 hb2=>?_⟩
  obtain ⟨x,h1,h2⟩:=hq (b - fk p) (by omega)
  rw [List.getElem?_drop,show fk p+(b - fk p)=b by omega,hx b (by omega)]at h1
  cases h1
  simpa using h2
 rintro ⟨h1,h2⟩ i hi
 refine ⟨46,?_,rfl⟩
 rw [List.getElem?_drop,hx _ (by omega),h2 _ (by omega) (by omega)]
def En:Nat→List Txt→Nat→List (List Txt)
 | 0,p,_=>[p]
 | m+1,p,n=>if fi p<p.length then (List.range (fw p)).flatMap fun w=>(List.range (p.length - fi p)).flatMap fun d=>En m (zef p (fi p) (fk p) (w+1) (rl n) (fi p+(d+1))) (n+1) else [p]
theorem St.next (h:St H W p R) (h9:H*W≤9) (hf:fi p<H) {w d:Nat} (hw:w<fw p) (hd:d<H - fi p) :
  St H W (zef p (fi p) (fk p) (w+1) (rl R.length) (fi p+(d+1))) (R++[⟨fi p,fk p,d+1,w+1⟩]):=by
 obtain ⟨f1,f2,f3⟩:=zjl h.sh hf
 obtain ⟨w1,w2⟩:=(ztf h.sh hf).1 hw
 have hl:=h.lim hf f1 f2
 exact h.step (by omega) (by omega) (by omega) (by omega) (by omega) (fun b b1 b2=>w2 b b1 (by omega)) f3
theorem ygp (h9:H*W≤9):∀ (m:Nat) (p:List Txt) (R:List RmB),St H W p R→R.length+m=9→∀ q∈En m p R.length,∃ R',St H W q (R++R')∧¬ fi q<H
 | 0,p,R,h,hm,q,hq=>by
  simp only[En,List.mem_singleton]at hq
  subst hq
  refine ⟨[],by simpa using h,fun hf=>?_⟩
  obtain ⟨f1,f2,-⟩:=zjl h.sh hf
  have:=h.lim hf f1 f2
  omega
 | m+1,p,R,h,hm,q,hq=>by
  unfold En at hq
  split at hq
  ·rename_i hf
   rw [h.sh.h]at hf hq
   simp only[List.mem_flatMap,List.mem_range]at hq
   obtain ⟨w,hw,d,hd,hq⟩:=hq
   have hs:=h.next h9 hf hw hd
   have hl:(R++[(⟨fi p,fk p,d+1,w+1⟩:RmB)]).length=R.length+1:=by simp
   obtain ⟨R',h1,h2⟩:=ygp h9 m _ _ hs (by omega) q (by rw [hl]; exact hq)
   exact ⟨_,by rw [List.append_assoc]at h1; exact h1,h2⟩
  rename_i hf
  simp only[List.mem_singleton]at hq
  subst hq
  rw [h.sh.h]at hf
  exact ⟨[],by simpa using h,hf⟩
def ks (m:Nat):List UInt8:=(List.range m).map rl
theorem ydj {m v:Nat} (h:v<m):(ks m)[v]?=some (rl v):=by
 unfold ks
 rw [List.getElem?_map,List.getElem?_range h]; rfl
theorem z7u {m:Nat}:(ks m).length=m:=by simp [ks]
theorem ye3 {m:Nat}:ks (m+1)=ks m++[rl m]:=by simp [ks,qS]
theorem ydk {m v:Nat} (hm:m≤100) (h:v≤m):(ks m).idxOf (rl v)=v:=by
 refine zpv (fun j hj=>?_) ?_
 ·rw [ydj (by omega)]
  intro e
  have:=zyy (by omega) (by omega) (Option.some.inj e)
  omega
 rw [z7u]
 by_cases e:v=m
 ·exact .inl e
 exact .inr (ydj (by omega))
def Thr (R:List RmB) (m i k:Nat):Prop:=m≤R.length∧∀ (v:Nat) q,R[v]?=some q→(v<m↔bef q.r q.c i k)
theorem St.name_row (h:St H W p R) (hn:R.length≤9) (hf:¬ fi p<H) {i m0:Nat} (hi:i<H) {row:Txt} (hrow:p[i]?=some row) (h0:Thr R m0 i 0):∀ k,k≤W→∃ m,Thr R m i k∧zlx (ks m0) row k=(ks m,row.take k)
 | 0,_=>⟨m0,h0,rfl⟩
 | k+1,hk=>by
  obtain ⟨m,hm,he⟩:=h.name_row hn hf hi hrow h0 k (by omega)
  obtain ⟨r,hr,hl,hx⟩:=h.sh.row hi
  rw [hrow]at hr
  cases hr
  have hc:=hx k (by omega)
  obtain ⟨v,hv,hcv⟩:=(h.val i k hi (by omega)).resolve_left (zz7 h.sh hf hi (by omega))
  rw [hcv]at hc
  obtain ⟨q,hq,-⟩:=zaf hv
  have hin:=(h.at_ v q hq i k hi (by omega)).1 hcv
  have same:∀ (u:Nat) s,R[u]?=some s→s.r=i→s.c=k→u=v:=by
   intro u s hs e1 e2
   have hb:=h.box u s hs
   have:=(h.at_ u s hs i k hi (by omega)).2 ⟨by omega,by omega,by omega,by omega⟩
   rw [hcv]at this
   exact (zyy (by omega) (by have:=zbd hs; omega) this).symm
  rw [zks hc,he,tk hc]
  by_cases hvm:v<m
  ·refine ⟨m,⟨hm.1,fun u s hs=>?_⟩,?_⟩
   ·rw [hm.2 u s hs]
    constructor
    ·rintro (e | ⟨e1,e2⟩)
     ·exact .inl e
     exact .inr ⟨e1,by omega⟩
    rintro (e | ⟨e1,e2⟩)
    ·exact .inl e
    by_cases e3:s.c=k
    ·have:=same u s hs e1 e3
     subst this
     exact (hm.2 u s hs).1 hvm
    exact .inr ⟨e1,by omega⟩
   unfold zek
   have h100:=hm.1
   rw [ydk (by omega) (by omega),z7u,if_neg (by omega)]; rfl
  have hnb:¬ bef q.r q.c i k:=fun e=>hvm ((hm.2 v q hq).2 e)
  have hqr:q.r=i∧q.c=k:=by unfold bef at hnb; have:=hin.1; have:=hin.2.2.1; omega
  have hvm2:v=m:=by
   apply Classical.byContradiction
   intro e
   obtain ⟨s,hs,-⟩:=zaf (show m<R.length by omega)
   have:=h.ord m v s q (by omega) hs hq
   rw [hqr.1,hqr.2]at this
   have:=(hm.2 m s hs).2 this
   omega
  subst hvm2
  refine ⟨v+1,⟨by omega,fun u s hs=>?_⟩,?_⟩
  ·constructor
   ·intro hu
    by_cases e:u=v
    ·subst e
     rw [hq]at hs
     cases hs
     exact .inr ⟨hqr.1,by omega⟩
    rcases (hm.2 u s hs).1 (by omega) with e1 | ⟨e1,e2⟩
    ·exact .inl e1
    exact .inr ⟨e1,by omega⟩
   rintro (e | ⟨e1,e2⟩)
   ·have:=(hm.2 u s hs).2 (.inl e); omega
   by_cases e3:s.c=k
   ·have:=same u s hs e1 e3; omega
   have:=(hm.2 u s hs).2 (.inr ⟨e1,by omega⟩); omega
  unfold zek
  rw [ydk (by omega) (by omega),z7u,if_pos rfl,ye3]; rfl
theorem St.names (h:St H W p R) (hn:R.length≤9) (hf:¬ fi p<H):names p=p:=by
 have key:∀ i,i≤H→∃ m,Thr R m i 0∧zfl p i=(ks m,p.take i):=by
  intro i
  induction i with
  | zero=>exact fun _=>⟨0,⟨by omega,fun v q _=>by unfold bef; omega⟩,rfl⟩
  | succ i ih =>
   intro hi
   obtain ⟨m,hm,he⟩:=ih (by omega)
   obtain ⟨r,hr,hl,hx⟩:=h.sh.row (show i<H by omega)
   obtain ⟨m2,hm2,he2⟩:=h.name_row hn hf (by omega) hr hm W (qR _)
   refine ⟨m2,⟨hm2.1,fun v q hq=>?_⟩,?_⟩
   ·rw [hm2.2 v q hq]
    have:=h.num v q hq
    unfold bef
    omega
   rw [zkc hr,he]
   simp only
   rw [hl,he2,tk hr]
   rw [qT (l:=r) (by omega)]
 obtain ⟨m,-,he⟩:=key H (qR _)
 have:=zp8 (p:=p)
 rw [h.sh.h,he]at this
 rw [← this]
 exact qT (by rw [h.sh.h]; exact qR _)
def cI (c:UInt8):Int:=if c=46 then -1 else (c.toNat:Int) - 97
def gI (p:List Txt):List (List Int):=p.map fun r=>r.map cI
theorem yer {i j:Nat} (h:Shp2 p H W) (hi:i<H) (hj:j<W):gz (gI p) i j=cI (ch p i j):=by
 obtain ⟨r,hr,hl,hx⟩:=h.row hi
 unfold gz gI
 rw [List.getElem?_map,hr,qO,Option.getD_some,List.getElem?_map,hx j hj]; rfl
theorem yir (h:Shp2 p H W) (h1:1≤H) (h2:H≤6) (h3:1≤W) (h4:W≤6):GW (gI p) H W:=by
 refine ⟨by simp [gI,h.h],fun r hr=>?_,by omega,by omega,by omega,by omega⟩
 obtain ⟨x,hx,rfl⟩:=List.mem_map.1 hr
 rw [List.length_map]; exact h.w x hx
theorem St.plan (h:St H W p R) (hn:R.length≤9) (hf:¬ fi p<H) (h1:1≤H) (h2:H≤6) (h3:1≤W) (h4:W≤6) :
  zcu p=true∧(okS (gI p)=true∧ziv (gI p)=true)∧zG (gI p)=gP p∧(stG (gI p)).2=rP p:=by
 have hv:∀ i j,i<H→j<W→∃ v,v<R.length∧ch p i j=rl v:=fun i j hi hj=>(h.val i j hi hj).resolve_left (zz7 h.sh hf hi hj)
 have hgw:=yir h.sh h1 h2 h3 h4
 have hc:Cells (fun i j=>(ch p i j).toNat - 97) (gI p) H W:=by
  refine ⟨hgw,fun i j hi hj=>?_⟩
  obtain ⟨v,hvl,e⟩:=hv i j hi hj
  rw [yer h.sh hi hj,e,cI,if_neg (zpa (by omega)),zj2 (by omega)]
  omega
 have hval:∀ i j,i<H→j<W→∀ v,v<R.length→((ch p i j).toNat - 97=v↔ch p i j=rl v):=by
  intro i j hi hj v hvl
  obtain ⟨u,hul,e⟩:=hv i j hi hj
  rw [e,zj2 (by omega)]
  constructor
  ·intro e2; rw [show u=v by omega]
  intro e2; have:=zyy (by omega) (by omega) e2; omega
 have h9:(zal (gI p) W H).2.length≤9:=by
  refine Nat.le_trans (z9b hc fun i j hi hj=>?_) hn
  obtain ⟨v,hvl,e⟩:=hv i j hi hj
  show (ch p i j).toNat - 97<R.length
  rw [e,zj2 (by omega)]; omega
 have hr:∀ {i j i' j':Nat} (k l:Nat),i<H→i'<H→j<W→j'<W→(fun i j=>(ch p i j).toNat - 97) i j=(fun i j=>(ch p i j).toNat - 97) i' j'→min i i'≤k→k≤max i i'→min j j'≤l→l≤max j j' →
   (fun i j=>(ch p i j).toNat - 97) k l=(fun i j=>(ch p i j).toNat - 97) i j:=by
  intro i j i' j' k l hi hi' hj hj' e k1 k2 l1 l2
  simp only at e ⊢
  obtain ⟨v,hvl,ev⟩:=hv i j hi hj
  have e1:=(hval i j hi hj v hvl).2 ev
  have e2:ch p i' j'=rl v:=(hval i' j' hi' hj' v hvl).1 (by omega)
  obtain ⟨q,hq,-⟩:=zaf hvl
  have q1:=(h.at_ v q hq i j hi hj).1 ev
  have q2:=(h.at_ v q hq i' j' hi' hj').1 e2
  unfold RmB.has at q1 q2
  have q3:=(h.at_ v q hq k l (by omega) (by omega)).2 (by unfold RmB.has; omega)
  rw [(hval k l (by omega) (by omega) v hvl).2 q3,e1]
 have hnm:=h.names hn hf
 have hgr:zc1 p=true:=yb8 h.sh h1 h2 h3 h4 fun i j hi hj=>by
  obtain ⟨v,hvl,e⟩:=hv i j hi hj
  rw [e,zj2 (by omega)]; omega
 have hrd:GW (zbp p) H W:=by
  refine ⟨by simp [zbp,h.sh.h],fun r hr=>?_,by omega,by omega,by omega,by omega⟩
  obtain ⟨x,hx,rfl⟩:=List.mem_map.1 hr
  simp only[zsg,List.length_map]
  exact h.sh.w x hx
 have hpat:Pat (gI p) (zbp p) H W:=by
  intro i j i' j' hi hj hi' hj'
  rw [yer h.sh hi hj,yer h.sh hi' hj',z81 h.sh hi hj,z81 h.sh hi' hj']
  obtain ⟨v,hvl,e⟩:=hv i j hi hj
  obtain ⟨u,hul,e2⟩:=hv i' j' hi' hj'
  rw [e,e2,cI,cI,if_neg (zpa (by omega)),if_neg (zpa (by omega)),zj2 (by omega),zj2 (by omega)]
  omega
 have hz:zG (gI p)=gP p:=by
  show zG (gI p)=zG (zbp p)
  rw [hgw.zG.1,hrd.zG.1]; exact zok hpat H (qR _)
 have hnm2:nm (gI p)=p:=by
  unfold nm
  rw [hz,← zkl hgr,hnm]
 have hpl:=(z78 hc h9 hr).1
 rw [hnm2]at hpl
 refine ⟨hpl,z4z hc h9 hr,hz,?_⟩
 show (stG (gI p)).2=(stG (zbp p)).2
 rw [hgw.zG.2,hrd.zG.2]
 exact (zi1 hpat H (qR _)).2
def dots (H W:Nat):List Txt:=List.replicate H (List.replicate W 46)
theorem zpq:Shp2 (dots H W) H W:=⟨by simp [dots],fun r hr=>by have:=List.eq_of_mem_replicate hr; subst this; simp⟩
theorem z64 {i j:Nat} (hi:i<H) (hj:j<W):ch (dots H W) i j=46:=by
 unfold ch dots
 rw [List.getElem?_replicate,if_pos hi,Option.getD_some,List.getElem?_replicate,if_pos hj]; rfl
theorem zz4:St H W (dots H W) []:=by
 refine ⟨zpq,fun i j hi hj => .inl (z64 hi hj),?_,?_,?_,?_,fun i j a hi hj _ _ ha=>z64 ha hj⟩ <;> intros <;> simp_all
def zfi (H W:Nat):List (List Txt):=En 9 (dots H W) 0
theorem zt4 (h9:H*W≤9) (h1:1≤H) (h2:H≤6) (h3:1≤W) (h4:W≤6) {q:List Txt} (hq:q∈zfi H W):zcu q=true∧Shp2 q H W:=by
 obtain ⟨R,h,hf⟩:=ygp h9 9 _ [] zz4 rfl q hq
 have hl:([]++R).length≤9:=by
  rcases Nat.eq_zero_or_pos ([]++R).length with h0 | h0
  ·omega
  obtain ⟨s,hs,-⟩:=zaf (show ([]++R).length - 1<([]++R).length by omega)
  have k:=h.num _ s hs
  have:=Nat.mul_le_mul_right W (show s.r+1≤H by omega)
  rw [Nat.succ_mul]at this
  omega
 exact ⟨(h.plan hl hf h1 h2 h3 h4).1,h.sh⟩
end

section
structure LoopR (ps:Array Tmp) (asg body:Code) (r:Loop):Prop where
 hps:r.params=ps
 hasg:r.assign=asg
 hbody:r.body=body
 dps:∀ t∈ps.toList,t<r.tmps.size
 dasg:zgw r.tmps.size asg=true
 dbody:zgw r.tmps.size body=true
def Env.puts:List (Nat × PV)→Env→Env
 | [],e=>e
 | (t,v)::r,e=>Env.puts r (e.put (some t) v)
section
variable {P:Program} {T:Tab} {Q Q':Exit→Env→Store→Prop} {e:Env} {S:Store} {a b c:Code} {F:Nat→Prop} {G:GSt} {w:World}
theorem zxb {ds:List Deferred}:∀ (ps:List Nat) (xs:List PV) (cs:List Value) (e:Env) (t:Array Value),ze7 w.heap F G e ⟨t,ds⟩→(∀ p∈ps,p<t.size)→xs.length=cs.length →
  (∀ (i:Nat) p c,xs[i]?=some p→cs[i]?=some c→VR w.heap F G p c) →
  ze7 w.heap F G (Env.puts (ps.zip xs) e) ⟨(ps.zip cs).foldl (fun t (q:Nat × Value)=>t.setIfInBounds q.1 q.2) t,ds⟩
 | [],xs,cs,e,t,he,_,_,_=>by simpa [Env.puts] using he
 | p::ps,[],[],e,t,he,_,_,_=>by simpa [Env.puts] using he
 | p::ps,x::xs,c::cs,e,t,he,hp,hl,hv=>by
  simp only[List.zip_cons_cons,Env.puts,List.foldl_cons]
  refine zxb ps xs cs _ _ ?_ ?_ (by simpa using hl) fun i p c q1 q2=>hv (i+1) p c (by simpa using q1) (by simpa using q2)
  ·have:=he.put (a:=⟨t,ds⟩) (some p) (v:=x) (cv:=c) (fun t' ht=>by cases ht; exact hp p (by simp)) (hv 0 x c rfl rfl)
   exact this
  intro q hq
  have:=hp q (by simp [hq])
  simpa using this
 | p::ps,[],c::cs,_,_,_,_,hl,_=>by simp at hl
 | p::ps,x::xs,[],_,_,_,_,hl,_=>by simp at hl
theorem z4h (l:List (Nat × Value)) (t:Array Value):(l.foldl (fun t (q:Nat × Value)=>t.setIfInBounds q.1 q.2) t).size=t.size:=by
 induction l generalizing t with
 | nil=>rfl
 | cons q l ih=>simp [ih]
theorem z28 (hi:Inv F G w) {o ver l:Nat} {r:Loop × List Nat} {tm:List PV} {lc:Lc} (ho:G.obs[o]?=some (.lp ver l r tm,lc)) (s:LoopState) (pe:Option Code) :
  ∃ t:Array Value,w.heap[l]?=some (.loop { r.1 with tmps:=t }) ∧
   Inv F ⟨G.obs.set o (.lp ver l ({ r.1 with state:=s,pending:=pe },r.2) tm,lc),G.tick⟩ (w.putObj l (.loop { r.1 with tmps:=t,state:=s,pending:=pe })) ∧
   Next F G w F ⟨G.obs.set o (.lp ver l ({ r.1 with state:=s,pending:=pe },r.2) tm,lc),G.tick⟩ (w.putObj l (.loop { r.1 with tmps:=t,state:=s,pending:=pe })):=by
 obtain ⟨h0,t,h1,h2,h3⟩:=hi.lp o ver l r tm lc ho
 have hlt:=(Array.getElem?_eq_some_iff.1 h1).1
 refine ⟨t,h1,zh3 hi ho _ lc G.tick _ rfl rfl rfl (qR _) (by simp) (.inl rfl) (fun b hb hne=>World.putObj_heap_other (by rw [← h0]; exact hne)) (qR _) (show Ob.ver (.lp ver l r tm)<G.tick from hi.ver o _ lc ho)
  (.inl ⟨rfl,trivial,rfl⟩) ⟨h0,t,World.putObj_heap_same hlt,h2,h3⟩⟩
def ygr (o l:Nat) (J:PV→Store→Prop):Exit→Env→Store→Prop
 | .normal,_,S=>∃ ver r L tm k,S.obs[o]?=some (.lp ver l (r,L) tm)∧J (.bool true) (Store.take ⟨S.obs.set o (.lp ver l ({ r with state := .ready,pending:=none },L) tm),S.tick⟩ k)
 | .ret,_,S=>∃ ver r L tm k,S.obs[o]?=some (.lp ver l (r,L) tm)∧J (.bool false) (Store.take ⟨S.obs.set o (.lp ver l ({ r with state := .done,pending:=some .ret },L) tm),S.tick⟩ k)
 | .exit id,_,S=>∃ ver r L tm k,S.obs[o]?=some (.lp ver l (r,L) tm)∧J (.bool false) (Store.take ⟨S.obs.set o (.lp ver l ({ r with state := .done,pending:=some (.exit id) },L) tm),S.tick⟩ k)
 | _,_,_=>False
theorem VR.bool_of {H:Array Obj} {b:Bool}:VR H F G (.bool b) (.bool b) := .imm _ _ (.bool b)
theorem Ey.of (hT:zbr P T) (hm:P.follows .mixedOrders=true) {l o ver:Nat} {r:Loop} {L:List Nat} {tm xs:List PV} {ps:Array Tmp} {asg body:Code} {J:PV→Store→Prop}
  (ho:S.obs[o]?=some (.lp ver l (r,L) tm)) (hr:LoopR ps asg body r) (hst:r.state = .ready) (hps:ps.size=xs.length)
  (hw:W P T asg (XThen (fun e1 S1=>∃ ver1 r1 L1 tm1,S1.obs[o]?=some (.lp ver1 l (r1,L1) tm1)∧r1.state = .ready ∧
   W P T body (ygr o l J) e1 ⟨S1.obs.set o (.lp ver1 l ({ r1 with state := .busy,pending:=r1.pending },L1) tm1),S1.tick⟩) (fun _ _ _=>False)) (Env.puts (ps.toList.zip xs) (Env.of L tm)) S) :
  Ey P l xs S J:=by
 refine ⟨fun F G w cargs hS hi hl hv=>?_⟩
 subst hS
 obtain ⟨lc,hG⟩:=zff ho
 obtain ⟨h0,t,h1,⟨h2,h2'⟩,h3⟩:=hi.lp o ver l (r,L) tm lc hG
 simp only at h1 h2 h2' h3
 refine ⟨_,_,_,_,run_yield h1 (by simp only; rw [hr.hps]; omega),fun R nn=>?_⟩
 refine roundIn_of_wpIn trivial ?_
 simp only
 have hE:ze7 w.heap F G (Env.puts (ps.toList.zip xs) (Env.of L tm)) ⟨(ps.toList.zip cargs.toList).foldl (fun t (q:Nat × Value)=>t.setIfInBounds q.1 q.2) t,[]⟩ :=
  zxb _ _ _ _ _ (zvi L tm h2'.symm fun i j v q1 q2=>h3 i v j q2 q1) (fun p hp=>Nat.lt_of_lt_of_eq (hr.dps p hp) (congrArg Array.size h2).symm) (by simpa using hl) (fun i p c q1 q2=>hv i p c q1 (by simpa using q2))
 have hsz:((ps.toList.zip cargs.toList).foldl (fun t (q:Nat × Value)=>t.setIfInBounds q.1 q.2) t).size=r.tmps.size:=by rw [z4h]; exact congrArg Array.size h2
 have hfold:(r.params.zip cargs).foldl (fun tmps (x:Nat × Value)=>tmps.setIfInBounds x.1 x.2) t=(ps.toList.zip cargs.toList).foldl (fun t (q:Nat × Value)=>t.setIfInBounds q.1 q.2) t:=by
  rw [hr.hps,← Array.foldl_toList,Array.toList_zip]
 show (r.assign).wpIn (fnc (some l)) _ P _ { tmps:=(r.params.zip cargs).foldl (fun tmps (x:Nat × Value)=>tmps.setIfInBounds x.1 x.2) t,defers:=[] } w
 rw [hfold,hr.hasg,hr.hbody]
 refine wpIn_mono (hw.run hT hm F G w r.tmps.size F G _ w rfl hi hE (Next.refl w) hsz Marks.nil hr.dasg) ?_
 rintro x a1 w1 ⟨e1,F1,G1,k1,k2,k3,k4,k5,k6⟩
 cases x with
 | normal =>
  obtain ⟨ver1,r1,L1,tm1,g1,g2,g3⟩:=k1
  obtain ⟨lc1,hG1⟩:=zff g1
  obtain ⟨t1,q1,q2,q3⟩:=z28 k2 hG1 .busy r1.pending
  refine ⟨_,run_beginRound q1 g2,?_⟩
  refine wpIn_mono (g3.run hT hm F G w r.tmps.size F1 _ a1 _ (zi6 G1 o _ lc1 G1.tick) q2 (k3.next k2 q3) (k4.trans q3) k5 (k6.next k2 q3) hr.dbody) ?_
  have fin:∀ {F2:Nat→Prop} {G2:GSt} {w2:World} {v:Bool} {s:LoopState} {pe:Option Code} {ver2:Nat} {r2:Loop} {L2:List Nat} {tm2:List PV} {k:Nat},Inv F2 G2 w2→Next F G w F2 G2 w2 →
    s=(if pe.isNone then .ready else .done)→v=pe.isNone→G2.er.obs[o]?=some (.lp ver2 l (r2,L2) tm2) →
    J (.bool v) (Store.take ⟨G2.er.obs.set o (.lp ver2 l ({ r2 with state:=s,pending:=pe },L2) tm2),G2.er.tick⟩ k) →
    ∃ cv w3,(Instr.endRound l pe).run P w2 = .ok cv w3∧∃ v cv' F' G',Ending.returned cv = .returned cv'∧J v G'.er∧Inv F' G' w3∧Next F G w F' G' w3∧VR w3.heap F' G' v cv':=by
   intro F2 G2 w2 v s pe ver2 r2 L2 tm2 k i2 n2 hs hv2 hg hJ
   obtain ⟨lc2,hG2⟩:=zff hg
   obtain ⟨t2,p1,p2,p3⟩:=z28 i2 hG2 s pe
   obtain ⟨i3,n3⟩:=zfu p2 k
   have hrun:=run_endRound (P:=P) pe p1
   rw [← hs]at hrun
   refine ⟨_,_,hrun,.bool v,_,F2,GSt.take ⟨G2.obs.set o (.lp ver2 l ({ r2 with state:=s,pending:=pe },L2) tm2,lc2),G2.tick⟩ k,rfl,?_,i3,(n2.trans p3).trans n3,by rw [← hv2]; exact VR.bool_of⟩
   rw [zka,zi6]; exact hJ
  rintro x a2 w2 ⟨e2,F2,G2,j1,j2,j3,j4,j5,j6⟩
  cases x with
  | normal=>obtain ⟨ver2,r2,L2,tm2,k,f1,f2⟩:=j1; exact fin j2 j4 rfl rfl f1 f2
  | ret=>obtain ⟨ver2,r2,L2,tm2,k,f1,f2⟩:=j1; exact fin j2 j4 rfl rfl f1 f2
  | exit id=>obtain ⟨ver2,r2,L2,tm2,k,f1,f2⟩:=j1; exact fin j2 j4 rfl rfl f1 f2
  | _=>exact j1.elim
 | _=>exact k1.elim
structure V (P:Program) (T:Tab) (c:Code) (Q:Exit→Env→Store→Prop) (e:Env) (S:Store):Prop where
 run:zbr P T→P.follows .mixedOrders=true→∀ (F0:Nat→Prop) (G0:GSt) (w0:World) (N:Nat) (F:Nat→Prop) (G:GSt) (a:Act) (w:World),G.er=S→Inv F G w→ze7 w.heap F G e a →
  Next F0 G0 w0 F G w→a.tmps.size=N→Marks w0 a.defers w→zgw N c=true→c.wpIn (fnc none) 0 P (Sto F0 G0 w0 N Q) a w
theorem W.v (h:W P T c Q e S):V P T c Q e S:=⟨fun h1 h2 F0 G0 w0 N F G a w h3 h4 h5 h6 h7 h8 h9=>h.run h1 h2 F0 G0 w0 N F G a w h3 h4 h5 h6 h7 h8 h9⟩
theorem V.mono (h:V P T c Q e S) (k:∀ x e S,Q x e S→Q' x e S):V P T c Q' e S :=
 ⟨fun h1 h2 F0 G0 w0 N F G a w h3 h4 h5 h6 h7 h8 h9=>wpIn_mono (h.run h1 h2 F0 G0 w0 N F G a w h3 h4 h5 h6 h7 h8 h9) fun _ _ _=>Sto.mono k⟩
theorem V.seq (h:V P T a (XThen (V P T b Q) Q) e S):V P T (.seq a b) Q e S:=by
 refine ⟨?_⟩
 intro hT hm F0 G0 w0 N F G a w h3 h4 h5 h6 h7 h8 h9
 simp only[zgw,qB]at h9
 refine wpIn_seq (wpIn_mono (h.run hT hm F0 G0 w0 N F G a w h3 h4 h5 h6 h7 h8 h9.1) ?_)
 rintro x a' w' ⟨e',F',G',k1,k2,k3,k4,k5,k6⟩
 cases x with
 | normal=>exact k1.run hT hm F0 G0 w0 N F' G' a' w' rfl k2 k3 k4 k5 k6 h9.2
 | _=>exact ⟨e',F',G',k1,k2,k3,k4,k5,k6⟩
theorem V.seq_region {id:Nat} {l:List Oper} (h:∀ K:Env→Store→Prop,(∀ e S,V P T b Q e S→K e S)→zbg false P T (dsts l) l e S K):V P T (.seq (.region id l.toArray false) b) Q e S :=
 V.seq (W.v (W.k fun K hK=>h K hK))
theorem V.seq_draw {id:Nat} {l:List Oper} (hc:zh1 l.toArray (List.range' 0 l.length) (zk9 l 0) []=true) (h:∀ K:Env→Store→Prop,(∀ e S,V P T b Q e S→K e S)→zbg true P T (dsts l) l e S K) :
  V P T (.seq (.region id l.toArray true) b) Q e S :=
 V.seq (W.v (W.draw_k hc fun K hK=>h K hK))
theorem V.seq_drawE {id:Nat} {l:List Oper} (hc:zh1 l.toArray (List.range' 0 l.length) (zcf l 0) []=true) (h:∀ K:Env→Store→Prop,(∀ e S,V P T b Q e S→K e S)→zbg false P T (dsts l) l e S K) :
  V P T (.seq (.region id l.toArray true) b) Q e S :=
 V.seq (W.v (W.drawE_k hc fun K hK=>h K hK))
theorem V.cond {x:Operand} {t:Bool} (hc:e.ev x = .bool t) (h1:t=true→V P T a Q e S) (h2:t=false→V P T b Q e S):V P T (.cond x a b) Q e S:=by
 refine ⟨?_⟩
 intro hT hm F0 G0 w0 N F G a w h3 h4 h5 h6 h7 h8 h9
 simp only[zgw,qB]at h9
 have:=h5.ev x
 rw [hc]at this
 exact wpIn_cond_split this.bool (fun ht=>(h1 ht).run hT hm F0 G0 w0 N F G a w h3 h4 h5 h6 h7 h8 h9.1) (fun ht=>(h2 ht).run hT hm F0 G0 w0 N F G a w h3 h4 h5 h6 h7 h8 h9.2)
theorem V.block {id:Nat} (h:V P T c (XBlock id Q) e S):V P T (.block id c) Q e S:=by
 refine ⟨?_⟩
 intro hT hm F0 G0 w0 N F G a w h3 h4 h5 h6 h7 h8 h9
 refine wpIn_block (wpIn_mono (h.run hT hm F0 G0 w0 N F G a w h3 h4 h5 h6 h7 h8 h9) ?_)
 rintro x a' w' ⟨e',F',G',k1,k2⟩
 cases x with
 | exit i =>
  simp only[Exit.inBlock]
  simp only[XBlock]at k1
  split
  ·rename_i hi; rw [if_pos hi]at k1; exact ⟨e',F',G',k1,k2⟩
  rename_i hi; rw [if_neg hi]at k1; exact ⟨e',F',G',k1,k2⟩
 | _=>exact ⟨e',F',G',k1,k2⟩
def z4m:Option Code→Option Exit
 | none=>some .normal
 | some .ret=>some .ret
 | some (.exit id)=>some (.exit id)
 | _=>none
theorem zqa (hi:Inv F G w) (ob:Obj):Inv F G (w.alloc ob)∧Next F G w F G (w.alloc ob):=by
 have hkeep:∀ b,b<w.heap.size→(w.alloc ob).heap[b]?=w.heap[b]?:=fun b hb=>Go.RowKit.Below.heap_alloc w ob b hb
 have hn:Next F G w F G (w.alloc ob) :=
  ⟨rfl,rfl,rfl,by simp,fun _ h=>h,fun _ h => .inl h,fun o x h => .inr ⟨o,x,h,rfl⟩,qR _,fun b hb _=>hkeep b hb,fun _ ob' _ h _=>⟨ob',h,rfl,Ob.like.refl _⟩,qR _⟩
 exact ⟨zi7 (fun b hb=>Nat.lt_of_lt_of_le (hi.fr b hb) hn.size) hi.ver hi.nF (fun o ob' l h=>(hi.holds h).next hi hn (hkeep _ (hi.blk_lt h))) hi.inj,hn⟩
theorem VR.fn_at {f:FuncId} {cap:List PV} {v:Value} (h:VR w.heap F G (.fn f cap) v):∃ vs:Array Value,v = .func (.func f) #[] vs∧cap.length=vs.size∧∀ (i:Nat) p c,cap[i]?=some p→vs[i]?=some c→VR w.heap F G p c:=by
 cases h with
 | imm _ _ h=>cases h with | fn _ _ vs h1 h2=>exact ⟨vs,rfl,h1,fun i p c q1 q2 => .imm _ _ (h2 i p c q1 q2)⟩
 | fn _ _ vs h1 h2=>exact ⟨vs,rfl,h1,h2⟩
theorem V.rangeFunc {g:Operand} {ps:Array Tmp} {asg body:Code} (L:List Nat) {f:FuncId} {cap:List PV} (hg:e.ev g = .fn f cap)
  (h:∀ (l:Nat) (r:Loop),LoopR ps asg body r→r.state = .ready→r.pending=none→∃ J,Ev P f (.yl l::cap) ⟨S.obs++[.lp S.tick l (r,L) (L.map e)],S.tick+1⟩ J ∧
   ∀ v S',J v S'→∃ ver r' L' tm x,S'.obs[S.obs.length]?=some (.lp ver l (r',L') tm)∧r'.state ≠ .busy∧z4m r'.pending=some x∧Q x e (S'.take S.obs.length)) :
  V P T (.rangeFunc g ps asg body) Q e S:=by
 refine ⟨?_⟩
 intro hT hm F0 G0 w0 N F G a w h3 h4 h5 h6 h7 h8 h9
 subst h3
 simp only[zgw,qB,List.all_eq_true,decide_eq_true_eq]at h9
 obtain ⟨⟨d1,d2⟩,d3⟩:=h9
 refine wpIn_rangeFunc ?_
 intro fn _
 obtain ⟨rec,hrec⟩:∃ rec:Loop,rec={ state := .ready,pending:=none,fn,tmps:=a.tmps,params:=ps,assign:=asg,body,defers:=w.heap.size }:=⟨_,rfl⟩
 obtain ⟨i1,n1⟩:=zqa h4 (.deferred (some []))
 obtain ⟨W0,hW0⟩:∃ W0,w.alloc (.deferred (some []))=W0:=⟨_,rfl⟩
 have hsz:W0.heap.size=w.heap.size+1:=by rw [← hW0]; simp
 rw [hW0]at i1 n1
 have hdef:W0.heap[w.heap.size]?=some (.deferred (some [])):=by rw [← hW0]; exact World.alloc_heap_new w _
 obtain ⟨W1,hW1⟩:∃ W1,W0.alloc (.loop rec)=W1:=⟨_,rfl⟩
 have hL1:W1.heap[W0.heap.size]?=some (.loop rec):=by rw [← hW1]; exact World.alloc_heap_new W0 _
 have hhold:Holds W0.heap F G W1.heap (.lp G.tick W0.heap.size (rec,L) (L.map e)) ⟨W0.heap.size,0⟩:=by
  refine ⟨rfl,a.tmps,by rw [hL1,hrec],⟨by rw [hrec],by simp⟩,fun i p j q1 q2=>?_⟩
  simp only at q2
  rw [List.getElem?_map,q2]at q1
  cases q1
  exact (h5 j).next h4 n1
 obtain ⟨i2,n2⟩:=zm0 i1 (.lp G.tick W0.heap.size (rec,L) (L.map e)) 0 W1 W1.drawn (by rw [← hW1]; rfl) (by rw [← hW1]; exact qR _) ⟨_,by rw [← hW1]; rfl⟩ rfl hhold
 have n12:=n1.trans n2
 have hgv:=h5.ev g
 rw [hg]at hgv
 obtain ⟨vs,hge,hvl,hvr⟩:=hgv.fn_at
 obtain ⟨J,hev,hJ⟩:=h W0.heap.size rec (by rw [hrec]; exact ⟨rfl,rfl,rfl,fun t ht=>by rw [h7]; exact d1 t ht,by rw [h7]; exact d2,by rw [h7]; exact d3⟩) (by rw [hrec]) (by rw [hrec])
 refine ⟨w.heap.size+1,[{ target := .collected w.heap.size,args := #[] }],W1,{ target := .fn (.func f) vs,args := #[.func (.yield (w.heap.size+1)) #[] #[]] },W1,f,
  #[.func (.yield (w.heap.size+1)) #[] #[]]++vs,W1,?_,?_,fun _ _=>trivial,?_,fun q=>(by simp [Fence.wide]at q),?_⟩
 ·rw [← hW1,← hW0,hrec]; exact run_enterLoop_outer _ _ _ _ _
 ·simp only[resolve,hge]
  simp [go_sem]
 ·simp only[invoke]; exact hev.ent _ _
 ·refine callsIn_wide.2 ((hev.run F _ W1 _ (zqt G _ _) i2 (by simp; omega) ?_).mono ?_)
  ·intro i p c q1 q2
   cases i with
   | zero=>rw [Array.getElem?_append_left (by simp)]at q2; simp at q1 q2; subst q1; subst q2; rw [hsz]; exact .imm _ _ (.yl _)
   | succ i =>
    simp only[List.getElem?_cons_succ]at q1
    rw [Array.getElem?_append_right (by simp)]at q2
    simp at q2
    exact (hvr i p c q1 q2).next h4 n12
  ·rintro en w2 ⟨v,cv,F2,G2,rfl,j1,j2,j3,j4⟩
   obtain ⟨ver,r',L',tm,x,g1,g2,g3,g4⟩:=hJ v _ j1
   obtain ⟨lc,hG2⟩:=zff g1
   rw [show (GSt.er G).obs.length=G.obs.length by simp [GSt.er]]at hG2 g4
   obtain ⟨t,p1,p2,p3⟩:=z28 j2 hG2 .exhausted r'.pending
   obtain ⟨i3,n3⟩:=zfu p2 G.obs.length
   rw [hsz]at p1
   refine ⟨_,_,run_endLoop p1 g2,?_⟩
   have hnx:=((h6.trans n12).trans (j3.trans p3)).trans n3
   have hmk:Marks w0 ([{ target := .collected w.heap.size,args := #[] }]++a.defers) (w2.putObj W0.heap.size (.loop { r' with tmps:=t,state := .exhausted,pending:=r'.pending })):=by
    have m1:=h8.next h4 n12
    have hd1:W1.heap[w.heap.size]?=some (.deferred (some [])):=(by rw [← hW1]; exact (Go.RowKit.Below.heap_alloc W0 _ _ (by omega)).trans hdef)
    have m2:Marks w0 ([{ target := .collected w.heap.size,args := #[] }]++a.defers) W1:=by
     obtain ⟨bs,b1,b2,b3⟩:=h8
     obtain ⟨bs',c1,c2,c3⟩:=m1
     have hb:bs'=bs:=by
      rw [b1]at c1
      have:=congrArg (List.map fun d:Deferred=>(match d.target with | .collected b=>b | _=>0)) c1
      simpa [List.map_map,Function.comp_def] using this.symm
     subst hb
     refine ⟨w.heap.size::bs',by rw [b1]; simp,?_,?_⟩
     ·refine List.nodup_cons.2 ⟨fun hm=>?_,b2⟩
      have:=(Array.getElem?_eq_some_iff.1 (b3 _ hm).2).1
      omega
     intro b hb
     rcases List.mem_cons.1 hb with rfl | hb
     ·exact ⟨h6.size,hd1⟩
     exact c3 b hb
    exact (m2.next i2 j3).next j2 p3
   have henv:ze7 (w2.putObj W0.heap.size (.loop { r' with tmps:=t,state := .exhausted,pending:=r'.pending })).heap F2 (GSt.take ⟨G2.obs.set G.obs.length (.lp ver W0.heap.size ({ r' with state := .exhausted,pending:=r'.pending },L') tm,lc),G2.tick⟩ G.obs.length) e { a with defers:=[{ target := .collected w.heap.size,args := #[] }]++a.defers } :=
    fun k=>((((h5 k).next h4 n12).next i2 j3).next j2 p3).next p2 n3
   have hst:Sto F0 G0 w0 N Q x { a with defers:=[{ target := .collected w.heap.size,args := #[] }]++a.defers } (w2.putObj W0.heap.size (.loop { r' with tmps:=t,state := .exhausted,pending:=r'.pending })):=by
    refine ⟨e,F2,_,?_,i3,henv,hnx,h7,hmk⟩
    have:(GSt.take ⟨G2.obs.set G.obs.length (.lp ver W0.heap.size ({ r' with state := .exhausted,pending:=r'.pending },L') tm,lc),G2.tick⟩ G.obs.length).er=G2.er.take G.obs.length:=by
     simp [GSt.take,GSt.er,Store.take,List.take_set_of_le]
    rw [this]; exact g4
   rw [hsz]at hst
   cases hpe:r'.pending with
   | none=>rw [hpe]at g3 hst ; simp only[z4m]at g3; cases g3; exact hst
   | some c =>
    rw [hpe]at g3 hst
    cases c <;> simp only[z4m]at g3 <;> cases g3
    ·exact wpIn_exit hst
    exact wpIn_ret hst
theorem Fn.callsV {f:FuncId} {fn:Func} (h:Fn P f fn c) (hT:zbr P T) (hm:P.follows .mixedOrders=true) {args:List PV} {K:PV→Store→Prop} (hn:args.length≤fn.ntmps)
  (hw:V P T c (zfe T fn.results.toList K) (zae args) S) {F:Nat→Prop} {G:GSt} {w:World} {cargs:Array Value} (hS:G.er=S) (hi:Inv F G w) (hl:args.length=cargs.size)
  (hv:∀ (i:Nat) p c,args[i]?=some p→cargs[i]?=some c→VR w.heap F G p c) :
  Calls P f cargs w fun e w'=>∃ v cv F' G',e = .returned cv∧K v G'.er∧Inv F' G' w'∧Next F G w F' G' w'∧VR w'.heap F' G' v cv :=
 h.calls_of hT hn hi hl (hw.run hT hm F G w fn.ntmps F G _ w hS hi (z6e hl hv _ _) (Next.refl w) (by simp; omega) Marks.nil h.dst)
theorem Ev.ofV {f:FuncId} {fn:Func} (h:Fn P f fn c) (hT:zbr P T) (hm:P.follows .mixedOrders=true) {args:List PV} {J:PV→Store→Prop} (hn:args.length≤fn.ntmps)
  (hw:V P T c (zfe T fn.results.toList fun v S1=>∃ k,J v (S1.take k)) (zae args) S):Ev P f args S J:=by
 refine ⟨h.ent,fun F G w cargs hS hi hl hv=>(h.callsV hT hm hn hw hS hi hl hv).mono ?_⟩
 rintro en w' ⟨v',cv,F',G',k1,⟨k,k2⟩,k3,k4,k5⟩
 obtain ⟨i1,i2⟩:=zfu k3 k
 exact ⟨v',cv,F',G'.take k,k1,(zka G' k).symm ▸ k2,i1,k4.trans i2,k5.next k3 i2⟩
theorem PC.ofV {f:FuncId} {fn:Func} (h:Fn P f fn c) (hT:zbr P T) (hm:P.follows .mixedOrders=true) {args:List PV} {r:PV} {fr:Bool} (hn:args.length≤fn.ntmps)
  (hw:V P T c (zfe T fn.results.toList fun v S=>reify S (!fr) 10 v=some r) (zae args) ⟨[],0⟩):PC P f args r fr:=by
 refine ⟨h.ent,fun F w cargs hF hl hv=>?_⟩
 have hi:Inv F ⟨[],0⟩ w:=⟨hF,by simp,by simp,by simp,by simp,by simp,by simp⟩
 refine (h.callsV hT hm hn hw rfl hi hl fun i p c q1 q2 => .imm _ _ (hv i p c q1 q2)).mono ?_
 rintro en w' ⟨v',cv,F',G',rfl,k2,k3,k4,k5⟩
 refine ⟨cv,rfl,⟨⟨k4.os,k4.tape,k4.output,k4.size,fun b hb=>k4.keep b hb (by simp)⟩,k4.drawn⟩,(zex k3 k5 k2).mono ?_ (fun _ _=>rfl)⟩
 rintro b (⟨h1,h2⟩ | ⟨o,x,hx,rfl⟩)
 ·rcases k4.fnew b h2 with h3 | h3 | ⟨o,x,hx,_⟩
  ·exact .inr ⟨by simpa using h1,h3⟩
  ·exact .inl ⟨h3,k3.fr b h2⟩
  simp at hx
 rcases k4.gnew o x hx with h3 | ⟨o',y,hy,_⟩
 ·exact .inl ⟨h3,k3.blk_lt hx⟩
 simp at hy
end
end
section
section
variable {P:Program} {T:Tab} {F0:Nat→Prop} {G0:GSt} {w0:World} {N:Nat}
theorem zrj {e:Env} {S:Store} {o:Op} (hc:∀ c,o ≠ .call c) {K1 K2:PV→Store→Prop} (h1:pOp P T e S o K1) (h2:pOp P T e S o K2):pOp P T e S o fun v S'=>K1 v S'∧K2 v S':=by
 cases o with
 | call c=>exact absurd rfl (hc c)
 | alloc t=>exact ⟨h1.1,h1.2,h2.2⟩
 | box t x=>exact ⟨h1.1,h1.2.1,h1.2.2.1,h1.2.2.2,h2.2.2.2⟩
 | buildSlice t n ps =>
  simp only[pOp]at h1 h2 ⊢
  split at h1
  ·rename_i et hk
   rw [hk]at h2
   simp only at h2 ⊢
   refine ⟨h1.1,h1.2.1,?_⟩
   have h1:=h1.2.2
   have h2:=h2.2.2
   split at h1
   ·rename_i cells hf
    rw [hf]at h2
    simp only at h2 ⊢
    exact ⟨h1.1,h1.2,h2.2⟩
   exact h1.elim
  exact h1.elim
 | makeSlice t l c =>
  simp only[pOp]at h1 h2 ⊢
  split at h1
  ·rename_i et q l' q' c' hk e1 e2
   rw [hk,e1,e2]at h2
   simp only at h2 ⊢
   exact ⟨h1.1,h1.2.1,h1.2.2.1,h1.2.2.2.1,h1.2.2.2.2,h2.2.2.2.2⟩
  exact h1.elim
 | makeMap t r=>exact ⟨h1.1,h1.2,h2.2⟩
 | store t a x =>
  simp only[pOp]at h1 h2 ⊢
  split at h1
  ·rename_i o ver off ha
   rw [ha]at h2
   simp only at h2 ⊢
   split at h1
   ·rename_i v et sz cells ho
    rw [ho]at h2
    simp only at h2 ⊢
    exact ⟨h1.1,h1.2.1,h1.2.2.1,h1.2.2.2.1,h1.2.2.2.2.1,h1.2.2.2.2.2,h2.2.2.2.2.2⟩
   exact h1.elim
  exact h1.elim
 | mapUpdate t m k x =>
  simp only[pOp]at h1 h2 ⊢
  split at h1
  ·rename_i kt vt o ver hk hm
   rw [hk,hm]at h2
   simp only at h2 ⊢
   split at h1
   ·rename_i v es ho
    rw [ho]at h2
    simp only at h2 ⊢
    refine ⟨h1.1,h1.2.1,?_⟩
    have h1:=h1.2.2
    have h2:=h2.2.2
    split at h1
    ·rename_i hf; rw [hf]at h2; exact ⟨h1,h2⟩
    ·rename_i hf; rw [hf]at h2; exact ⟨h1,h2⟩
    exact h1.elim
   exact h1.elim
  exact h1.elim
 | insert t m k x =>
  simp only[pOp]at h1 h2 ⊢
  split at h1
  ·rename_i kt vt o ver hk hm
   rw [hk,hm]at h2
   simp only at h2 ⊢
   split at h1
   ·rename_i v es ho
    rw [ho]at h2
    simp only at h2 ⊢
    refine ⟨h1.1,h1.2.1,?_⟩
    have h1:=h1.2.2
    have h2:=h2.2.2
    split at h1
    ·rename_i hf; rw [hf]at h2; exact ⟨h1,h2⟩
    ·rename_i hf; rw [hf]at h2; exact ⟨h1,h2⟩
    exact h1.elim
   exact h1.elim
  exact h1.elim
 | _ =>
  simp only[pOp]at h1 h2 ⊢
  rw [zms]at h1 h2 ⊢
  obtain ⟨v,e1,k1⟩:=h1
  obtain ⟨v',e2,k2⟩:=h2
  rw [e1]at e2
  cases e2
  exact ⟨v,e1,k1,k2⟩
theorem zn5 {ops:Array Oper} {o:Oper} {e:Env} {y1 n1 y2 n2:Prop} (h1:zdi ops o e y1 n1) (h2:zdi ops o e y2 n2):zdi ops o e (y1∧y2) (n1∧n2):=by
 unfold zdi at *
 split at h1
 ·rename_i h; rw [h]at h2; exact ⟨h1,h2⟩
 ·rename_i h; rw [h]at h2; exact ⟨h1,h2⟩
 exact h1.elim
theorem zzl {R:Option Nat} {nn:Nat} (hT:zbr P T) {ops:Array Oper} {effs pend keep:List Nat} {Q:Env→Store→Prop} {i:Nat} {r1 r2:List Nat} {e:Env} {F:Nat→Prop} {G:GSt} {a:Act} {w:World}
  (hnc:∀ o:Oper,ops[i]?=some o→∀ c,o.op ≠ .call c)
  (h1:zcs P T ops effs pend keep Q (i::r1) e G.er) (h2:zcs P T ops effs pend keep Q (i::r2) e G.er) (hi:Inv F G w) (he:ze7 w.heap F G e a) (hn:Next F0 G0 w0 F G w) (hs:a.tmps.size=N) (hd:Marks w0 a.defers w)
  (hdst:∀ o∈ops.toList,∀ d,o.dst=some d→d<N) {Qx:Exit→Act→World→Prop} {K:Act→World→Prop}
  (hK:∀ e' F' G' a' w',zcs P T ops effs pend keep Q r1 e' G'.er→zcs P T ops effs pend keep Q r2 e' G'.er→Inv F' G' w'→ze7 w'.heap F' G' e' a'→Next F0 G0 w0 F' G' w'→a'.tmps.size=N→Marks w0 a'.defers w'→K a' w') :
  wpOpIn (fnc R) nn P ops Qx i K a w:=by
 simp only[zcs]at h1 h2
 unfold wpOpIn
 cases ho:ops[i]? with
 | none=>rw [ho]at h1; exact h1.elim
 | some o =>
  rw [ho]at h1 h2
  have hnc:=hnc o ho
  have hd1:∀ t,o.dst=some t→t<a.tmps.size:=fun t ht=>by
   rw [hs]; exact hdst o (List.mem_of_getElem? (i:=i) (by simpa using ho)) t ht
  simp only at h1 h2 ⊢
  rcases zha he (zn5 h1 h2) with ⟨hw,h1,h2⟩ | ⟨hw,h1,h2⟩
  ·rw [if_pos hw]
   split at h1
   ·rename_i hc
    rw [if_pos hc]at h2
    refine zf7 hT hi he (zrj hnc h1 h2) ?_
    intro v cv F' G' w' hk i1 i2 i3
    exact hK _ _ _ _ _ hk.1.2 hk.2.2 i1 ((he.next hi i2).put _ hd1 i3) (hn.trans i2) (by rw [zd7]; exact hs) (by rw [zcg]; exact hd.next hi i2)
   ·rename_i hc
    rw [if_neg hc]at h2
    rw [zcp]at h1 h2
    obtain ⟨v,f1,_,f3⟩:=h1
    obtain ⟨v',g1,_,g3⟩:=h2
    have hv:v=v':=by
     have hop:=zrj hnc (zjz f1) (zjz g1)
     have key:∀ {op:Op},(∀ c,op ≠ .call c)→pFl P T G.er e op v→pFl P T G.er e op v'→v=v':=by
      intro op hc a1 a2
      cases op with
      | call c=>exact absurd rfl (hc c)
      | _=>exact Option.some.inj (a1.symm.trans a2)
     exact key hnc f1 g1
    subst hv
    refine zf7 hT hi he (zjz f1) ?_
    rintro v' cv F' G' w' ⟨rfl,hS⟩ i1 i2 i3
    exact hK _ _ _ _ _ (by rw [hS]; exact f3) (by rw [hS]; exact g3) i1 ((he.next hi i2).put _ hd1 i3) (hn.trans i2) (by rw [zd7]; exact hs) (by rw [zcg]; exact hd.next hi i2)
  rw [if_neg (by simp [hw])]
  exact ⟨fun _ _=>trivial,hK _ _ _ _ _ h1 h2 hi (zkb hi he _ hd1) hn (by rw [zd7]; exact hs) (by rw [zcg]; exact hd)⟩
end
end






theorem z4x {p:List Txt}:zxq (gP p) p.length (w0 (zbp p)) (rP p).length=lfM p:=by rw [zgq]; rfl
theorem z33 {p:List Txt}:zol (gP p) p.length (w0 (zbp p)) (rP p).length=abM p:=by rw [zgq]; rfl
theorem ydl {p:List Txt} (h:zc0 p=true):Sq (rP p).length (lfM p):=by
 obtain ⟨-,⟨_,hu⟩,-⟩:=ziy h
 rw [z4x]at hu; exact hu.sq
theorem ycu {p:List Txt} (h:zc0 p=true):Sq (rP p).length (abM p):=by
 obtain ⟨-,-,⟨_,hu⟩⟩:=ziy h
 rw [z33]at hu; exact hu.sq
theorem z0n {p:List Txt} (hs:Sm p) (hv:zc0 p=false):PC Tryz.prog 70 [zan p] (.tup [.agg [.sl [] 0,.sl [] 0],.bool false]) false:=by
 obtain ⟨x,hx,hxy,hxr⟩:=zt3 hs
 refine PC.of ⟨Tryz.func70,by kernel_rfl,rfl,by kernel_rfl⟩ zao mixed (by show 1≤Tryz.f70.ntmps; decide) ?_
 refine W.r fun K hK=>?_
 simp(disch:=omega)only[↓RU,RV,RH,↓reduceIte,qE,reduceCtorEq,if_pos,↓RS,RG,qA,qM,qL,ty0,ty3,zam,zg1,zfb,zg2]
 apply hK;clear hK K
 refine W.r fun K hK=>?_
 simp(disch:=omega)only[↓RU,RV,RH,↓reduceIte,qE,reduceCtorEq,if_pos,qN,↓RS,RG,qA,qM,qL,hv]
 refine zad.pc (hx) rfl (.inr rfl) ?_
 simp(disch:=omega)only[↓RU,RV,RH,↓reduceIte,qE,reduceCtorEq,if_pos,qN,↓RS,RG,qA,qM,qL,hv]
 apply hK;clear hK K
 refine W.seq ?_
 refine W.r fun K hK=>?_
 simp(disch:=omega)only[↓RU,RV,RH,↓reduceIte,qE,reduceCtorEq,if_pos,↓RS,RG,qA,qM,qL]
 apply hK;clear hK K
 refine W.cond rfl (fun h=>?_) (fun h=>?_)
 ·try simp only[RL]at h
  refine W.r fun K hK=>?_
  simp(disch:=omega)only[↓RU,RV,RH,↓reduceIte,qE,reduceCtorEq,if_pos,↓RS,RG,qA,qM,qL,ty0,ty3,zam,zg1,zfb,zg2]
  apply hK;clear hK K
  refine W.ret ?_
  refine XThen.ret ?_
  refine Br rfl ?_
  rfl
 try simp only[RL]at h
 exact absurd h (by simp)
theorem zx3 {p:List Txt} (hs:Sm p) (hv:zc0 p=true):PC Tryz.prog 70 [zan p] (.tup [(.agg [zhp (lfM p),zhp (abM p)]),.bool true]) false:=by
 obtain ⟨x,hx,hxy,hxr⟩:=zt3 hs
 obtain rfl:=hxy hv
 obtain ⟨hrm,-,-⟩:=ziy hv
 have hok:=(zhc hv).1
 have hg:=zo2 hok
 have hn9:=zge hok
 have hn1:=zkm hok
 refine PC.of ⟨Tryz.func70,by kernel_rfl,rfl,by kernel_rfl⟩ zao mixed (by show 1≤Tryz.f70.ntmps; decide) ?_
 refine W.r fun K hK=>?_
 simp(disch:=omega)only[↓RU,RV,RH,↓reduceIte,qE,reduceCtorEq,if_pos,↓RS,RG,qA,qM,qL,ty0,ty3,zam,zg1,zfb,zg2]
 apply hK;clear hK K
 refine W.r fun K hK=>?_
 simp(disch:=omega)only[↓RU,RV,RH,↓reduceIte,qE,reduceCtorEq,if_pos,qN,↓RS,RG,qA,qM,qL,hv]
 refine zad.pc (hx) rfl (.inr rfl) ?_
 simp(disch:=omega)only[↓RU,RV,RH,↓reduceIte,qE,reduceCtorEq,if_pos,qN,↓RS,RG,qA,qM,qL,hv]
 apply hK;clear hK K
 refine W.seq ?_
 refine W.r fun K hK=>?_
 simp(disch:=omega)only[↓RU,RV,RH,↓reduceIte,qE,reduceCtorEq,if_pos,↓RS,RG,qA,qM,qL]
 apply hK;clear hK K
 refine W.cond rfl (fun h=>?_) (fun h=>?_)
 ·try simp only[RL]at h
  exact absurd h (by simp)
 try simp only[RL]at h
 refine W.skip ?_
 refine xn ?_
 refine W.r fun K hK=>?_
 simp(disch:=omega)only[↓RU,RV,RH,↓reduceIte,qE,reduceCtorEq,if_pos,qN,↓RS,RG,qA,qM,qL,ty0,ty3,zam,zg1,zfb,zg2]
 refine zad.pc (zjx hg rfl hn9 hrm) rfl (.inl rfl) ?_
 simp(disch:=omega)only[↓RU,RV,RH,↓reduceIte,qE,reduceCtorEq,if_pos,qN,↓RS,RG,qA,qM,qL,ty0,ty3,zam,zg1,zfb,zg2]
 apply hK;clear hK K
 refine W.ret ?_
 refine Br rfl ?_
 rw [z4x,z33]
 rfl
theorem z4l {F R:List Ob} {ver t:Nat} {l:List Int} {f:FuncId} {cs:List PV} {cm:Int→Int→Int} {g:Int→Int} (hf:∀ x y,x∈l→y∈l→PC Tryz.prog f [.int .i64 x,.int .i64 y,.ip cs 0] (.int .i64 (cm x y)) true) (hg:∀ x y,x∈l→y∈l→(cm x y<0↔g x<g y)) (hl:l.length<2147483648) (h1:1≤l.length):Ev Tryz.prog 186 [.loc F.length ver 0 l.length,.int .i64 0,.int .i64 l.length,.fn f [.ip cs 0]] ⟨F ++ .arr ver 3 1 (l.map (.int .i64))::R,t⟩ fun v S=>v = .tup []∧∃ z:List Int,z.Perm l∧(z.map g).Pairwise (· ≤ ·)∧S=⟨F ++ .arr ver 3 1 (z.map (.int .i64))::R,t⟩:=by
 refine Ev.of ⟨Tryz.func186,by kernel_rfl,rfl,by kernel_rfl⟩ zao mixed (by show 4≤Tryz.f186.ntmps; decide) ?_
 refine W.r fun K hK=>?_
 simp(disch:=omega)only[↓RU,RV,RH,↓reduceIte,qE,reduceCtorEq,if_pos,w64,↓RS,RG,qA,qM,qL,zaa,gF,zee]
 apply hK;clear hK K
 refine W.block ?_
 refine W.loop [0,1,2,3,8] (fun n vs S=>∃ (i:Nat) (c:List Int),n=l.length - i∧1≤i∧i≤l.length∧c.Perm l∧Ord (c.map g) i∧vs=[.loc F.length ver 0 l.length,.int .i64 0,.int .i64 l.length,.fn f [.ip cs 0],.int .i64 i]∧S=⟨F ++ .arr ver 3 1 (c.map (.int .i64))::R,t⟩) (l.length - 1) ?_ ?_
 ·refine ⟨_,1,l,rfl,qR _,h1,List.Perm.refl _,Ord.one _,?_,zah⟩
  simp [Env.put,Env.of,zae]
 rintro n vs S - ⟨i,c,rfl,hi1,h_i,hp,ho,rfl,rfl⟩
 refine W.seq ?_
 refine W.r fun K hK=>?_
 simp(disch:=omega)only[↓RU,RV,RH,↓reduceIte,qE,reduceCtorEq,if_pos,w64,↓RS,RG,qA,qM,qL,zaa,gF,zee]
 apply hK;clear hK K
 refine W.cond rfl (fun h=>?_) (fun h=>?_)
 ·try simp only[RL]at h
  refine W.skip ?_
  refine xn ?_
  refine W.seq ?_
  refine W.block ?_
  refine W.r fun K hK=>?_
  simp(disch:=omega)only[↓RU,RV,RH,↓reduceIte,qE,reduceCtorEq,if_pos,↓RS,RG,qA,qM,qL,gF,zee]
  apply hK;clear hK K
  refine W.block ?_
  refine W.loop [0,1,2,3,8,9] (fun n vs S=>∃ (j:Nat) (d:List Int),n=j+1∧j≤i∧d.Perm l∧yac (d.map g) j i∧vs=[.loc F.length ver 0 l.length,.int .i64 0,.int .i64 l.length,.fn f [.ip cs 0],.int .i64 i,.int .i64 j]∧S=⟨F ++ .arr ver 3 1 (d.map (.int .i64))::R,t⟩) (i+1) ?_ ?_
  ·refine ⟨_,i,c,rfl,qR _,hp,ho.ins,?_,zah⟩
   simp [Env.put,Env.of]
  rintro n vs S - ⟨j,d,rfl,h_j,hq,hO,rfl,rfl⟩
  refine W.seq ?_
  refine W.seq_draw (by kernel_rfl) fun K hK=>?_
  cases hd:decide ((j:Int)>0)
  ·skip
   obtain rfl:j=0:=by simpa using hd
   simp(disch:=omega)only[↓RU,RV,RH,↓reduceIte,qE,reduceCtorEq,if_pos,w64,qN,↓RS,RG,qA,qM,qL,zab,zaa,gF,zee,hd]
   apply hK;clear hK K
   refine W.cond rfl (fun h2=>?_) (fun h2=>?_)
   ·try simp only[RL]at h2
    exact absurd h2 (by simp)
   try simp only[RL]at h2
   have hO2:Ord (d.map g) (i+1):=hO.zero
   refine W.exit ?_
   refine xe ?_
   refine xe ?_
   refine XBlock.hit ?_
   refine XbN ?_
   refine xn ?_
   refine W.k fun K hK=>?_
   simp(disch:=omega)only[↓RU,RV,RH,↓reduceIte,qE,reduceCtorEq,if_pos,w64,↓RS,RG,qA,qM,qL,zaa,gF,zee]
   apply hK;clear hK K
   refine xn ?_
   refine ⟨l.length - (i+1),by omega,_,i+1,d,rfl,by omega,by omega,hq,hO2,?_,zah⟩
   simp [Env.put,Env.of]
  ·skip
   have hj0:j≠0:=by have:=of_decide_eq_true hd; omega
   have hdl:=hq.length_eq
   obtain ⟨x,hx,hxm⟩:=zaf (show j<d.length by omega)
   obtain ⟨y,hy,hym⟩:=zaf (show j - 1<d.length by omega)
   have hxl:=hq.mem_iff.1 hxm
   have hyl:=hq.mem_iff.1 hym
   have hxg:(d.map g)[j]?=some (g x):=by rw [List.getElem?_map,hx]; rfl
   have hyg:(d.map g)[j - 1]?=some (g y):=by rw [List.getElem?_map,hy]; rfl
   simp(disch:=omega)only[↓RU,RV,RH,↓reduceIte,qE,reduceCtorEq,if_pos,w64,qN,↓RS,RG,qA,qM,qL,zab,zaa,gF,zee,hd,hx,hy,zbb]
   refine zad.pc (hf x y hxl hyl) rfl (.inl rfl) ?_
   simp(disch:=omega)only[↓RU,RV,RH,↓reduceIte,qE,reduceCtorEq,if_pos,w64,qN,↓RS,RG,qA,qM,qL,zab,zaa,gF,zee,hd,hx,hy,zbb]
   apply hK;clear hK K
   refine W.cond rfl (fun h2=>?_) (fun h2=>?_)
   ·try simp only[RL]at h2
    have hjl:=zbd hx
    have hsl:(d.set j y).length=d.length:=by simp
    refine W.skip ?_
    refine xn ?_
    refine W.seq ?_
    refine W.block ?_
    refine W.draw_k (by kernel_rfl) fun K hK=>?_
    simp(disch:=omega)only[↓RU,RV,RH,↓reduceIte,qE,reduceCtorEq,if_pos,w64,↓RS,RG,qA,qM,qL,zab,zaa,gF,zee,hx,hy,zbb,zbo,zdq,List.length_set]
    apply hK;clear hK K
    refine XbN ?_
    refine xn ?_
    refine W.k fun K hK=>?_
    simp(disch:=omega)only[↓RU,RV,RH,↓reduceIte,qE,reduceCtorEq,if_pos,w64,↓RS,RG,qA,qM,qL,zaa,gF,zee]
    apply hK;clear hK K
    refine xn ?_
    refine ⟨j - 1+1,by omega,_,j - 1,(d.set j y).set (j - 1) x,rfl,by omega,zzh hq hx hy,by rw [List.map_set,List.map_set]; exact hO.swap hj0 h_j hxg hyg ((hg x y hxl hyl).1 h2),?_,zah⟩
    simp [Env.put,Env.of]; omega
   try simp only[RL]at h2
   have hO2:Ord (d.map g) (i+1):=hO.stop hxg hyg (fun q=>h2 ((hg x y hxl hyl).2 q))
   refine W.exit ?_
   refine xe ?_
   refine xe ?_
   refine XBlock.hit ?_
   refine XbN ?_
   refine xn ?_
   refine W.k fun K hK=>?_
   simp(disch:=omega)only[↓RU,RV,RH,↓reduceIte,qE,reduceCtorEq,if_pos,w64,↓RS,RG,qA,qM,qL,zaa,gF,zee]
   apply hK;clear hK K
   refine xn ?_
   refine ⟨l.length - (i+1),by omega,_,i+1,d,rfl,by omega,by omega,hq,hO2,?_,zah⟩
   simp [Env.put,Env.of]
 try simp only[RL]at h
 obtain rfl:l.length=i:=by omega
 refine W.exit ?_
 refine xe ?_
 refine xe ?_
 refine XBlock.hit ?_
 refine zfe.norm rfl ?_
 exact ⟨_,rfl,c,hp,(by rw [← hp.length_eq]at ho; exact Ord.pair (by rw [List.length_map]; exact ho)),zah⟩
theorem ye6  : PC Tryz.prog 180 [.int .u64 1] (.int .i64 1) true:=by
 refine PC.of ⟨Tryz.func180,by kernel_rfl,rfl,by kernel_rfl⟩ zao mixed (by show 1≤Tryz.f180.ntmps; decide) ?_
 refine W.r fun K hK=>?_
 simp(disch:=omega)only[↓RU,RV,RH,↓reduceIte,qE,reduceCtorEq,if_pos]
 apply hK;clear hK K
 refine W.seq ?_
 refine W.r fun K hK=>?_
 simp(disch:=omega)only[↓RU,RV,RH,↓reduceIte,qE,reduceCtorEq,if_pos,w64,zim]
 apply hK;clear hK K
 refine W.cond rfl (fun h=>?_) (fun h=>?_)
 ·try simp only[RL]at h
  exact absurd h (by decide)
 try simp only[RL]at h
 refine W.skip ?_
 refine xn ?_
 refine W.seq ?_
 refine W.r fun K hK=>?_
 simp(disch:=omega)only[↓RU,RV,RH,↓reduceIte,qE,reduceCtorEq,if_pos,w64,zim]
 apply hK;clear hK K
 refine W.cond rfl (fun h1=>?_) (fun h1=>?_)
 ·try simp only[RL]at h1
  exact absurd h1 (by decide)
 try simp only[RL]at h1
 refine W.skip ?_
 refine xn ?_
 refine W.seq ?_
 refine W.r fun K hK=>?_
 simp(disch:=omega)only[↓RU,RV,RH,↓reduceIte,qE,reduceCtorEq,if_pos,w64,zim]
 apply hK;clear hK K
 refine W.cond rfl (fun h2=>?_) (fun h2=>?_)
 ·try simp only[RL]at h2
  exact absurd h2 (by decide)
 try simp only[RL]at h2
 refine W.skip ?_
 refine xn ?_
 refine W.r fun K hK=>?_
 simp(disch:=omega)only[↓RU,RV,RH,↓reduceIte,qE,reduceCtorEq,if_pos,w64,w64,zaa,zac,zim,zd4]
 apply hK;clear hK K
 refine W.ret ?_
 refine Br rfl ?_
 rfl
theorem yix  : PC Tryz.prog 155 [.int .u64 1] (.int .i64 1) true:=by
 refine PC.of ⟨Tryz.func155,by kernel_rfl,rfl,by kernel_rfl⟩ zao mixed (by show 1≤Tryz.f155.ntmps; decide) ?_
 refine W.r fun K hK=>?_
 simp(disch:=omega)only[↓RU,RV,RH,↓reduceIte,qE,reduceCtorEq,if_pos]
 apply hK;clear hK K
 refine W.seq ?_
 refine W.cond rfl (fun h=>?_) (fun h=>?_)
 ·try simp only[RL]at h
  exact absurd h (by decide)
 try simp only[RL]at h
 refine W.skip ?_
 refine xn ?_
 refine W.r fun K hK=>?_
 simp(disch:=omega)only[↓RU,RV,RH,↓reduceIte,qE,reduceCtorEq,if_pos,qN]
 refine zad.pc (ye6) rfl (.inl rfl) ?_
 simp(disch:=omega)only[↓RU,RV,RH,↓reduceIte,qE,reduceCtorEq,if_pos,qN]
 apply hK;clear hK K
 refine W.ret ?_
 refine Br rfl ?_
 rfl
theorem ye7  : PC Tryz.prog 180 [.int .u64 2] (.int .i64 2) true:=by
 refine PC.of ⟨Tryz.func180,by kernel_rfl,rfl,by kernel_rfl⟩ zao mixed (by show 1≤Tryz.f180.ntmps; decide) ?_
 refine W.r fun K hK=>?_
 simp(disch:=omega)only[↓RU,RV,RH,↓reduceIte,qE,reduceCtorEq,if_pos]
 apply hK;clear hK K
 refine W.seq ?_
 refine W.r fun K hK=>?_
 simp(disch:=omega)only[↓RU,RV,RH,↓reduceIte,qE,reduceCtorEq,if_pos,w64,zim]
 apply hK;clear hK K
 refine W.cond rfl (fun h=>?_) (fun h=>?_)
 ·try simp only[RL]at h
  exact absurd h (by decide)
 try simp only[RL]at h
 refine W.skip ?_
 refine xn ?_
 refine W.seq ?_
 refine W.r fun K hK=>?_
 simp(disch:=omega)only[↓RU,RV,RH,↓reduceIte,qE,reduceCtorEq,if_pos,w64,zim]
 apply hK;clear hK K
 refine W.cond rfl (fun h1=>?_) (fun h1=>?_)
 ·try simp only[RL]at h1
  exact absurd h1 (by decide)
 try simp only[RL]at h1
 refine W.skip ?_
 refine xn ?_
 refine W.seq ?_
 refine W.r fun K hK=>?_
 simp(disch:=omega)only[↓RU,RV,RH,↓reduceIte,qE,reduceCtorEq,if_pos,w64,zim]
 apply hK;clear hK K
 refine W.cond rfl (fun h2=>?_) (fun h2=>?_)
 ·try simp only[RL]at h2
  exact absurd h2 (by decide)
 try simp only[RL]at h2
 refine W.skip ?_
 refine xn ?_
 refine W.r fun K hK=>?_
 simp(disch:=omega)only[↓RU,RV,RH,↓reduceIte,qE,reduceCtorEq,if_pos,w64,w64,zaa,zac,zim,zd4]
 apply hK;clear hK K
 refine W.ret ?_
 refine Br rfl ?_
 rfl
theorem yiy  : PC Tryz.prog 155 [.int .u64 2] (.int .i64 2) true:=by
 refine PC.of ⟨Tryz.func155,by kernel_rfl,rfl,by kernel_rfl⟩ zao mixed (by show 1≤Tryz.f155.ntmps; decide) ?_
 refine W.r fun K hK=>?_
 simp(disch:=omega)only[↓RU,RV,RH,↓reduceIte,qE,reduceCtorEq,if_pos]
 apply hK;clear hK K
 refine W.seq ?_
 refine W.cond rfl (fun h=>?_) (fun h=>?_)
 ·try simp only[RL]at h
  exact absurd h (by decide)
 try simp only[RL]at h
 refine W.skip ?_
 refine xn ?_
 refine W.r fun K hK=>?_
 simp(disch:=omega)only[↓RU,RV,RH,↓reduceIte,qE,reduceCtorEq,if_pos,qN]
 refine zad.pc (ye7) rfl (.inl rfl) ?_
 simp(disch:=omega)only[↓RU,RV,RH,↓reduceIte,qE,reduceCtorEq,if_pos,qN]
 apply hK;clear hK K
 refine W.ret ?_
 refine Br rfl ?_
 rfl
theorem ye8  : PC Tryz.prog 180 [.int .u64 3] (.int .i64 2) true:=by
 refine PC.of ⟨Tryz.func180,by kernel_rfl,rfl,by kernel_rfl⟩ zao mixed (by show 1≤Tryz.f180.ntmps; decide) ?_
 refine W.r fun K hK=>?_
 simp(disch:=omega)only[↓RU,RV,RH,↓reduceIte,qE,reduceCtorEq,if_pos]
 apply hK;clear hK K
 refine W.seq ?_
 refine W.r fun K hK=>?_
 simp(disch:=omega)only[↓RU,RV,RH,↓reduceIte,qE,reduceCtorEq,if_pos,w64,zim]
 apply hK;clear hK K
 refine W.cond rfl (fun h=>?_) (fun h=>?_)
 ·try simp only[RL]at h
  exact absurd h (by decide)
 try simp only[RL]at h
 refine W.skip ?_
 refine xn ?_
 refine W.seq ?_
 refine W.r fun K hK=>?_
 simp(disch:=omega)only[↓RU,RV,RH,↓reduceIte,qE,reduceCtorEq,if_pos,w64,zim]
 apply hK;clear hK K
 refine W.cond rfl (fun h1=>?_) (fun h1=>?_)
 ·try simp only[RL]at h1
  exact absurd h1 (by decide)
 try simp only[RL]at h1
 refine W.skip ?_
 refine xn ?_
 refine W.seq ?_
 refine W.r fun K hK=>?_
 simp(disch:=omega)only[↓RU,RV,RH,↓reduceIte,qE,reduceCtorEq,if_pos,w64,zim]
 apply hK;clear hK K
 refine W.cond rfl (fun h2=>?_) (fun h2=>?_)
 ·try simp only[RL]at h2
  exact absurd h2 (by decide)
 try simp only[RL]at h2
 refine W.skip ?_
 refine xn ?_
 refine W.r fun K hK=>?_
 simp(disch:=omega)only[↓RU,RV,RH,↓reduceIte,qE,reduceCtorEq,if_pos,w64,w64,zaa,zac,zim,zd4]
 apply hK;clear hK K
 refine W.ret ?_
 refine Br rfl ?_
 rfl
theorem yiz  : PC Tryz.prog 155 [.int .u64 3] (.int .i64 2) true:=by
 refine PC.of ⟨Tryz.func155,by kernel_rfl,rfl,by kernel_rfl⟩ zao mixed (by show 1≤Tryz.f155.ntmps; decide) ?_
 refine W.r fun K hK=>?_
 simp(disch:=omega)only[↓RU,RV,RH,↓reduceIte,qE,reduceCtorEq,if_pos]
 apply hK;clear hK K
 refine W.seq ?_
 refine W.cond rfl (fun h=>?_) (fun h=>?_)
 ·try simp only[RL]at h
  exact absurd h (by decide)
 try simp only[RL]at h
 refine W.skip ?_
 refine xn ?_
 refine W.r fun K hK=>?_
 simp(disch:=omega)only[↓RU,RV,RH,↓reduceIte,qE,reduceCtorEq,if_pos,qN]
 refine zad.pc (ye8) rfl (.inl rfl) ?_
 simp(disch:=omega)only[↓RU,RV,RH,↓reduceIte,qE,reduceCtorEq,if_pos,qN]
 apply hK;clear hK K
 refine W.ret ?_
 refine Br rfl ?_
 rfl
theorem ye9  : PC Tryz.prog 180 [.int .u64 4] (.int .i64 3) true:=by
 refine PC.of ⟨Tryz.func180,by kernel_rfl,rfl,by kernel_rfl⟩ zao mixed (by show 1≤Tryz.f180.ntmps; decide) ?_
 refine W.r fun K hK=>?_
 simp(disch:=omega)only[↓RU,RV,RH,↓reduceIte,qE,reduceCtorEq,if_pos]
 apply hK;clear hK K
 refine W.seq ?_
 refine W.r fun K hK=>?_
 simp(disch:=omega)only[↓RU,RV,RH,↓reduceIte,qE,reduceCtorEq,if_pos,w64,zim]
 apply hK;clear hK K
 refine W.cond rfl (fun h=>?_) (fun h=>?_)
 ·try simp only[RL]at h
  exact absurd h (by decide)
 try simp only[RL]at h
 refine W.skip ?_
 refine xn ?_
 refine W.seq ?_
 refine W.r fun K hK=>?_
 simp(disch:=omega)only[↓RU,RV,RH,↓reduceIte,qE,reduceCtorEq,if_pos,w64,zim]
 apply hK;clear hK K
 refine W.cond rfl (fun h1=>?_) (fun h1=>?_)
 ·try simp only[RL]at h1
  exact absurd h1 (by decide)
 try simp only[RL]at h1
 refine W.skip ?_
 refine xn ?_
 refine W.seq ?_
 refine W.r fun K hK=>?_
 simp(disch:=omega)only[↓RU,RV,RH,↓reduceIte,qE,reduceCtorEq,if_pos,w64,zim]
 apply hK;clear hK K
 refine W.cond rfl (fun h2=>?_) (fun h2=>?_)
 ·try simp only[RL]at h2
  exact absurd h2 (by decide)
 try simp only[RL]at h2
 refine W.skip ?_
 refine xn ?_
 refine W.r fun K hK=>?_
 simp(disch:=omega)only[↓RU,RV,RH,↓reduceIte,qE,reduceCtorEq,if_pos,w64,w64,zaa,zac,zim,zd4]
 apply hK;clear hK K
 refine W.ret ?_
 refine Br rfl ?_
 rfl
theorem yi0  : PC Tryz.prog 155 [.int .u64 4] (.int .i64 3) true:=by
 refine PC.of ⟨Tryz.func155,by kernel_rfl,rfl,by kernel_rfl⟩ zao mixed (by show 1≤Tryz.f155.ntmps; decide) ?_
 refine W.r fun K hK=>?_
 simp(disch:=omega)only[↓RU,RV,RH,↓reduceIte,qE,reduceCtorEq,if_pos]
 apply hK;clear hK K
 refine W.seq ?_
 refine W.cond rfl (fun h=>?_) (fun h=>?_)
 ·try simp only[RL]at h
  exact absurd h (by decide)
 try simp only[RL]at h
 refine W.skip ?_
 refine xn ?_
 refine W.r fun K hK=>?_
 simp(disch:=omega)only[↓RU,RV,RH,↓reduceIte,qE,reduceCtorEq,if_pos,qN]
 refine zad.pc (ye9) rfl (.inl rfl) ?_
 simp(disch:=omega)only[↓RU,RV,RH,↓reduceIte,qE,reduceCtorEq,if_pos,qN]
 apply hK;clear hK K
 refine W.ret ?_
 refine Br rfl ?_
 rfl
theorem yfa  : PC Tryz.prog 180 [.int .u64 5] (.int .i64 3) true:=by
 refine PC.of ⟨Tryz.func180,by kernel_rfl,rfl,by kernel_rfl⟩ zao mixed (by show 1≤Tryz.f180.ntmps; decide) ?_
 refine W.r fun K hK=>?_
 simp(disch:=omega)only[↓RU,RV,RH,↓reduceIte,qE,reduceCtorEq,if_pos]
 apply hK;clear hK K
 refine W.seq ?_
 refine W.r fun K hK=>?_
 simp(disch:=omega)only[↓RU,RV,RH,↓reduceIte,qE,reduceCtorEq,if_pos,w64,zim]
 apply hK;clear hK K
 refine W.cond rfl (fun h=>?_) (fun h=>?_)
 ·try simp only[RL]at h
  exact absurd h (by decide)
 try simp only[RL]at h
 refine W.skip ?_
 refine xn ?_
 refine W.seq ?_
 refine W.r fun K hK=>?_
 simp(disch:=omega)only[↓RU,RV,RH,↓reduceIte,qE,reduceCtorEq,if_pos,w64,zim]
 apply hK;clear hK K
 refine W.cond rfl (fun h1=>?_) (fun h1=>?_)
 ·try simp only[RL]at h1
  exact absurd h1 (by decide)
 try simp only[RL]at h1
 refine W.skip ?_
 refine xn ?_
 refine W.seq ?_
 refine W.r fun K hK=>?_
 simp(disch:=omega)only[↓RU,RV,RH,↓reduceIte,qE,reduceCtorEq,if_pos,w64,zim]
 apply hK;clear hK K
 refine W.cond rfl (fun h2=>?_) (fun h2=>?_)
 ·try simp only[RL]at h2
  exact absurd h2 (by decide)
 try simp only[RL]at h2
 refine W.skip ?_
 refine xn ?_
 refine W.r fun K hK=>?_
 simp(disch:=omega)only[↓RU,RV,RH,↓reduceIte,qE,reduceCtorEq,if_pos,w64,w64,zaa,zac,zim,zd4]
 apply hK;clear hK K
 refine W.ret ?_
 refine Br rfl ?_
 rfl
theorem yi1  : PC Tryz.prog 155 [.int .u64 5] (.int .i64 3) true:=by
 refine PC.of ⟨Tryz.func155,by kernel_rfl,rfl,by kernel_rfl⟩ zao mixed (by show 1≤Tryz.f155.ntmps; decide) ?_
 refine W.r fun K hK=>?_
 simp(disch:=omega)only[↓RU,RV,RH,↓reduceIte,qE,reduceCtorEq,if_pos]
 apply hK;clear hK K
 refine W.seq ?_
 refine W.cond rfl (fun h=>?_) (fun h=>?_)
 ·try simp only[RL]at h
  exact absurd h (by decide)
 try simp only[RL]at h
 refine W.skip ?_
 refine xn ?_
 refine W.r fun K hK=>?_
 simp(disch:=omega)only[↓RU,RV,RH,↓reduceIte,qE,reduceCtorEq,if_pos,qN]
 refine zad.pc (yfa) rfl (.inl rfl) ?_
 simp(disch:=omega)only[↓RU,RV,RH,↓reduceIte,qE,reduceCtorEq,if_pos,qN]
 apply hK;clear hK K
 refine W.ret ?_
 refine Br rfl ?_
 rfl
theorem yfb  : PC Tryz.prog 180 [.int .u64 6] (.int .i64 3) true:=by
 refine PC.of ⟨Tryz.func180,by kernel_rfl,rfl,by kernel_rfl⟩ zao mixed (by show 1≤Tryz.f180.ntmps; decide) ?_
 refine W.r fun K hK=>?_
 simp(disch:=omega)only[↓RU,RV,RH,↓reduceIte,qE,reduceCtorEq,if_pos]
 apply hK;clear hK K
 refine W.seq ?_
 refine W.r fun K hK=>?_
 simp(disch:=omega)only[↓RU,RV,RH,↓reduceIte,qE,reduceCtorEq,if_pos,w64,zim]
 apply hK;clear hK K
 refine W.cond rfl (fun h=>?_) (fun h=>?_)
 ·try simp only[RL]at h
  exact absurd h (by decide)
 try simp only[RL]at h
 refine W.skip ?_
 refine xn ?_
 refine W.seq ?_
 refine W.r fun K hK=>?_
 simp(disch:=omega)only[↓RU,RV,RH,↓reduceIte,qE,reduceCtorEq,if_pos,w64,zim]
 apply hK;clear hK K
 refine W.cond rfl (fun h1=>?_) (fun h1=>?_)
 ·try simp only[RL]at h1
  exact absurd h1 (by decide)
 try simp only[RL]at h1
 refine W.skip ?_
 refine xn ?_
 refine W.seq ?_
 refine W.r fun K hK=>?_
 simp(disch:=omega)only[↓RU,RV,RH,↓reduceIte,qE,reduceCtorEq,if_pos,w64,zim]
 apply hK;clear hK K
 refine W.cond rfl (fun h2=>?_) (fun h2=>?_)
 ·try simp only[RL]at h2
  exact absurd h2 (by decide)
 try simp only[RL]at h2
 refine W.skip ?_
 refine xn ?_
 refine W.r fun K hK=>?_
 simp(disch:=omega)only[↓RU,RV,RH,↓reduceIte,qE,reduceCtorEq,if_pos,w64,w64,zaa,zac,zim,zd4]
 apply hK;clear hK K
 refine W.ret ?_
 refine Br rfl ?_
 rfl
theorem yi2  : PC Tryz.prog 155 [.int .u64 6] (.int .i64 3) true:=by
 refine PC.of ⟨Tryz.func155,by kernel_rfl,rfl,by kernel_rfl⟩ zao mixed (by show 1≤Tryz.f155.ntmps; decide) ?_
 refine W.r fun K hK=>?_
 simp(disch:=omega)only[↓RU,RV,RH,↓reduceIte,qE,reduceCtorEq,if_pos]
 apply hK;clear hK K
 refine W.seq ?_
 refine W.cond rfl (fun h=>?_) (fun h=>?_)
 ·try simp only[RL]at h
  exact absurd h (by decide)
 try simp only[RL]at h
 refine W.skip ?_
 refine xn ?_
 refine W.r fun K hK=>?_
 simp(disch:=omega)only[↓RU,RV,RH,↓reduceIte,qE,reduceCtorEq,if_pos,qN]
 refine zad.pc (yfb) rfl (.inl rfl) ?_
 simp(disch:=omega)only[↓RU,RV,RH,↓reduceIte,qE,reduceCtorEq,if_pos,qN]
 apply hK;clear hK K
 refine W.ret ?_
 refine Br rfl ?_
 rfl
theorem yfc  : PC Tryz.prog 180 [.int .u64 7] (.int .i64 3) true:=by
 refine PC.of ⟨Tryz.func180,by kernel_rfl,rfl,by kernel_rfl⟩ zao mixed (by show 1≤Tryz.f180.ntmps; decide) ?_
 refine W.r fun K hK=>?_
 simp(disch:=omega)only[↓RU,RV,RH,↓reduceIte,qE,reduceCtorEq,if_pos]
 apply hK;clear hK K
 refine W.seq ?_
 refine W.r fun K hK=>?_
 simp(disch:=omega)only[↓RU,RV,RH,↓reduceIte,qE,reduceCtorEq,if_pos,w64,zim]
 apply hK;clear hK K
 refine W.cond rfl (fun h=>?_) (fun h=>?_)
 ·try simp only[RL]at h
  exact absurd h (by decide)
 try simp only[RL]at h
 refine W.skip ?_
 refine xn ?_
 refine W.seq ?_
 refine W.r fun K hK=>?_
 simp(disch:=omega)only[↓RU,RV,RH,↓reduceIte,qE,reduceCtorEq,if_pos,w64,zim]
 apply hK;clear hK K
 refine W.cond rfl (fun h1=>?_) (fun h1=>?_)
 ·try simp only[RL]at h1
  exact absurd h1 (by decide)
 try simp only[RL]at h1
 refine W.skip ?_
 refine xn ?_
 refine W.seq ?_
 refine W.r fun K hK=>?_
 simp(disch:=omega)only[↓RU,RV,RH,↓reduceIte,qE,reduceCtorEq,if_pos,w64,zim]
 apply hK;clear hK K
 refine W.cond rfl (fun h2=>?_) (fun h2=>?_)
 ·try simp only[RL]at h2
  exact absurd h2 (by decide)
 try simp only[RL]at h2
 refine W.skip ?_
 refine xn ?_
 refine W.r fun K hK=>?_
 simp(disch:=omega)only[↓RU,RV,RH,↓reduceIte,qE,reduceCtorEq,if_pos,w64,w64,zaa,zac,zim,zd4]
 apply hK;clear hK K
 refine W.ret ?_
 refine Br rfl ?_
 rfl
theorem yi3  : PC Tryz.prog 155 [.int .u64 7] (.int .i64 3) true:=by
 refine PC.of ⟨Tryz.func155,by kernel_rfl,rfl,by kernel_rfl⟩ zao mixed (by show 1≤Tryz.f155.ntmps; decide) ?_
 refine W.r fun K hK=>?_
 simp(disch:=omega)only[↓RU,RV,RH,↓reduceIte,qE,reduceCtorEq,if_pos]
 apply hK;clear hK K
 refine W.seq ?_
 refine W.cond rfl (fun h=>?_) (fun h=>?_)
 ·try simp only[RL]at h
  exact absurd h (by decide)
 try simp only[RL]at h
 refine W.skip ?_
 refine xn ?_
 refine W.r fun K hK=>?_
 simp(disch:=omega)only[↓RU,RV,RH,↓reduceIte,qE,reduceCtorEq,if_pos,qN]
 refine zad.pc (yfc) rfl (.inl rfl) ?_
 simp(disch:=omega)only[↓RU,RV,RH,↓reduceIte,qE,reduceCtorEq,if_pos,qN]
 apply hK;clear hK K
 refine W.ret ?_
 refine Br rfl ?_
 rfl
theorem yfd  : PC Tryz.prog 180 [.int .u64 8] (.int .i64 4) true:=by
 refine PC.of ⟨Tryz.func180,by kernel_rfl,rfl,by kernel_rfl⟩ zao mixed (by show 1≤Tryz.f180.ntmps; decide) ?_
 refine W.r fun K hK=>?_
 simp(disch:=omega)only[↓RU,RV,RH,↓reduceIte,qE,reduceCtorEq,if_pos]
 apply hK;clear hK K
 refine W.seq ?_
 refine W.r fun K hK=>?_
 simp(disch:=omega)only[↓RU,RV,RH,↓reduceIte,qE,reduceCtorEq,if_pos,w64,zim]
 apply hK;clear hK K
 refine W.cond rfl (fun h=>?_) (fun h=>?_)
 ·try simp only[RL]at h
  exact absurd h (by decide)
 try simp only[RL]at h
 refine W.skip ?_
 refine xn ?_
 refine W.seq ?_
 refine W.r fun K hK=>?_
 simp(disch:=omega)only[↓RU,RV,RH,↓reduceIte,qE,reduceCtorEq,if_pos,w64,zim]
 apply hK;clear hK K
 refine W.cond rfl (fun h1=>?_) (fun h1=>?_)
 ·try simp only[RL]at h1
  exact absurd h1 (by decide)
 try simp only[RL]at h1
 refine W.skip ?_
 refine xn ?_
 refine W.seq ?_
 refine W.r fun K hK=>?_
 simp(disch:=omega)only[↓RU,RV,RH,↓reduceIte,qE,reduceCtorEq,if_pos,w64,zim]
 apply hK;clear hK K
 refine W.cond rfl (fun h2=>?_) (fun h2=>?_)
 ·try simp only[RL]at h2
  exact absurd h2 (by decide)
 try simp only[RL]at h2
 refine W.skip ?_
 refine xn ?_
 refine W.r fun K hK=>?_
 simp(disch:=omega)only[↓RU,RV,RH,↓reduceIte,qE,reduceCtorEq,if_pos,w64,w64,zaa,zac,zim,zd4]
 apply hK;clear hK K
 refine W.ret ?_
 refine Br rfl ?_
 rfl
theorem yi4  : PC Tryz.prog 155 [.int .u64 8] (.int .i64 4) true:=by
 refine PC.of ⟨Tryz.func155,by kernel_rfl,rfl,by kernel_rfl⟩ zao mixed (by show 1≤Tryz.f155.ntmps; decide) ?_
 refine W.r fun K hK=>?_
 simp(disch:=omega)only[↓RU,RV,RH,↓reduceIte,qE,reduceCtorEq,if_pos]
 apply hK;clear hK K
 refine W.seq ?_
 refine W.cond rfl (fun h=>?_) (fun h=>?_)
 ·try simp only[RL]at h
  exact absurd h (by decide)
 try simp only[RL]at h
 refine W.skip ?_
 refine xn ?_
 refine W.r fun K hK=>?_
 simp(disch:=omega)only[↓RU,RV,RH,↓reduceIte,qE,reduceCtorEq,if_pos,qN]
 refine zad.pc (yfd) rfl (.inl rfl) ?_
 simp(disch:=omega)only[↓RU,RV,RH,↓reduceIte,qE,reduceCtorEq,if_pos,qN]
 apply hK;clear hK K
 refine W.ret ?_
 refine Br rfl ?_
 rfl
theorem yfe  : PC Tryz.prog 180 [.int .u64 9] (.int .i64 4) true:=by
 refine PC.of ⟨Tryz.func180,by kernel_rfl,rfl,by kernel_rfl⟩ zao mixed (by show 1≤Tryz.f180.ntmps; decide) ?_
 refine W.r fun K hK=>?_
 simp(disch:=omega)only[↓RU,RV,RH,↓reduceIte,qE,reduceCtorEq,if_pos]
 apply hK;clear hK K
 refine W.seq ?_
 refine W.r fun K hK=>?_
 simp(disch:=omega)only[↓RU,RV,RH,↓reduceIte,qE,reduceCtorEq,if_pos,w64,zim]
 apply hK;clear hK K
 refine W.cond rfl (fun h=>?_) (fun h=>?_)
 ·try simp only[RL]at h
  exact absurd h (by decide)
 try simp only[RL]at h
 refine W.skip ?_
 refine xn ?_
 refine W.seq ?_
 refine W.r fun K hK=>?_
 simp(disch:=omega)only[↓RU,RV,RH,↓reduceIte,qE,reduceCtorEq,if_pos,w64,zim]
 apply hK;clear hK K
 refine W.cond rfl (fun h1=>?_) (fun h1=>?_)
 ·try simp only[RL]at h1
  exact absurd h1 (by decide)
 try simp only[RL]at h1
 refine W.skip ?_
 refine xn ?_
 refine W.seq ?_
 refine W.r fun K hK=>?_
 simp(disch:=omega)only[↓RU,RV,RH,↓reduceIte,qE,reduceCtorEq,if_pos,w64,zim]
 apply hK;clear hK K
 refine W.cond rfl (fun h2=>?_) (fun h2=>?_)
 ·try simp only[RL]at h2
  exact absurd h2 (by decide)
 try simp only[RL]at h2
 refine W.skip ?_
 refine xn ?_
 refine W.r fun K hK=>?_
 simp(disch:=omega)only[↓RU,RV,RH,↓reduceIte,qE,reduceCtorEq,if_pos,w64,w64,zaa,zac,zim,zd4]
 apply hK;clear hK K
 refine W.ret ?_
 refine Br rfl ?_
 rfl
theorem yi5  : PC Tryz.prog 155 [.int .u64 9] (.int .i64 4) true:=by
 refine PC.of ⟨Tryz.func155,by kernel_rfl,rfl,by kernel_rfl⟩ zao mixed (by show 1≤Tryz.f155.ntmps; decide) ?_
 refine W.r fun K hK=>?_
 simp(disch:=omega)only[↓RU,RV,RH,↓reduceIte,qE,reduceCtorEq,if_pos]
 apply hK;clear hK K
 refine W.seq ?_
 refine W.cond rfl (fun h=>?_) (fun h=>?_)
 ·try simp only[RL]at h
  exact absurd h (by decide)
 try simp only[RL]at h
 refine W.skip ?_
 refine xn ?_
 refine W.r fun K hK=>?_
 simp(disch:=omega)only[↓RU,RV,RH,↓reduceIte,qE,reduceCtorEq,if_pos,qN]
 refine zad.pc (yfe) rfl (.inl rfl) ?_
 simp(disch:=omega)only[↓RU,RV,RH,↓reduceIte,qE,reduceCtorEq,if_pos,qN]
 apply hK;clear hK K
 refine W.ret ?_
 refine Br rfl ?_
 rfl
theorem zix {F R:List Ob} {ver t:Nat} {l:List Int} {f:FuncId} {cs:List PV} {cm:Int→Int→Int} {g:Int→Int} (hf:∀ x y,x∈l→y∈l→PC Tryz.prog f [.int .i64 x,.int .i64 y,.ip cs 0] (.int .i64 (cm x y)) true) (hg:∀ x y,x∈l→y∈l→(cm x y<0↔g x<g y)) (hl:l.length≤12) (h1:1≤l.length) (lim:Int):Ev Tryz.prog 166 [.loc F.length ver 0 l.length,.int .i64 0,.int .i64 l.length,.int .i64 lim,.fn f [.ip cs 0]] ⟨F ++ .arr ver 3 1 (l.map (.int .i64))::R,t⟩ fun v S=>v = .tup []∧∃ z:List Int,z.Perm l∧(z.map g).Pairwise (· ≤ ·)∧S=⟨F ++ .arr ver 3 1 (z.map (.int .i64))::R,t⟩:=by
 refine Ev.of ⟨Tryz.func166,by kernel_rfl,rfl,by kernel_rfl⟩ zao mixed (by show 5≤Tryz.f166.ntmps; decide) ?_
 refine W.r fun K hK=>?_
 simp(disch:=omega)only[↓RU,RV,RH,↓reduceIte,qE,reduceCtorEq,if_pos,↓RS,RG,qA,qM,qL,gF,zee]
 apply hK;clear hK K
 refine W.r fun K hK=>?_
 simp(disch:=omega)only[↓RU,RV,RH,↓reduceIte,qE,reduceCtorEq,if_pos,↓RS,RG,qA,qM,qL,gF,zee]
 apply hK;clear hK K
 refine W.block ?_
 refine W.loop [0,1,2,4] (fun n vs S=>vs=[.loc F.length ver 0 l.length,.int .i64 0,.int .i64 l.length,.fn f [.ip cs 0]]∧S=⟨F ++ .arr ver 3 1 (l.map (.int .i64))::R,t⟩) 0 ?_ ?_
 ·refine ⟨_,?_,zah⟩
  simp [Env.put,Env.of,zae]
 rintro n vs S - ⟨rfl,rfl⟩
 refine W.block ?_
 refine W.r fun K hK=>?_
 simp(disch:=omega)only[↓RU,RV,RH,↓reduceIte,qE,reduceCtorEq,if_pos,w64,↓RS,RG,qA,qM,qL,zaa,gF,zee]
 apply hK;clear hK K
 refine W.seq ?_
 refine W.r fun K hK=>?_
 simp(disch:=omega)only[↓RU,RV,RH,↓reduceIte,qE,reduceCtorEq,if_pos,w64,↓RS,RG,qA,qM,qL,zaa,gF,zee]
 apply hK;clear hK K
 refine W.cond rfl (fun h=>?_) (fun h=>?_)
 ·try simp only[RL]at h
  refine W.r fun K hK=>?_
  simp(disch:=omega)only[↓RU,RV,RH,↓reduceIte,qE,reduceCtorEq,if_pos,qN,↓RS,RG,qA,qM,qL,gF,zee]
  refine zad.ev (z4l hf hg (by omega) h1) ?_
  rintro _ _ ⟨rfl,z,hz1,hz2,rfl⟩
  simp(disch:=omega)only[↓RU,RV,RH,↓reduceIte,qE,reduceCtorEq,if_pos,qN,↓RS,RG,qA,qM,qL,gF,zee]
  apply hK;clear hK K
  refine W.ret ?_
  refine XThen.ret ?_
  refine XBlock.ret ?_
  refine XThen.ret ?_
  refine XBlock.ret ?_
  refine Br rfl ?_
  exact ⟨_,rfl,z,hz1,hz2,zah⟩
 try simp only[RL]at h
 exact absurd (show (l.length:Int)≤12 by omega) h
theorem yca {F R:List Ob} {ver t:Nat} {l:List Int} {f:FuncId} {cs:List PV} {cm:Int→Int→Int} {g:Int→Int} (hf:∀ x y,x∈l→y∈l→PC Tryz.prog f [.int .i64 x,.int .i64 y,.ip cs 0] (.int .i64 (cm x y)) true) (hg:∀ x y,x∈l→y∈l→(cm x y<0↔g x<g y)) (h9:l.length≤9) (h1:1≤l.length):Ev Tryz.prog 140 [.loc F.length ver 0 l.length,.fn f [.ip cs 0]] ⟨F ++ .arr ver 3 1 (l.map (.int .i64))::R,t⟩ fun v S=>v = .tup []∧∃ z:List Int,z.Perm l∧(z.map g).Pairwise (· ≤ ·)∧S=⟨F ++ .arr ver 3 1 (z.map (.int .i64))::R,t⟩:=by
 refine Ev.of ⟨Tryz.func140,by kernel_rfl,rfl,by kernel_rfl⟩ zao mixed (by show 2≤Tryz.f140.ntmps; decide) ?_
 refine W.r fun K hK=>?_
 simp(disch:=omega)only[↓RU,RV,RH,↓reduceIte,qE,reduceCtorEq,if_pos,↓RS,RG,qA,qM,qL,zab,zaa,gF,zee]
 apply hK;clear hK K
 refine W.k fun K hK=>?_
 obtain hk | hk | hk | hk | hk | hk | hk | hk | hk:l.length=1∨l.length=2∨l.length=3∨l.length=4∨l.length=5∨l.length=6∨l.length=7∨l.length=8∨l.length=9:=by omega
 ·skip
  have hw:IntKind.u64.wrap ((l.length:Nat):Int)=1:=by rw [hk]; rfl
  simp(disch:=omega)only[↓RU,RV,RH,↓reduceIte,qE,reduceCtorEq,if_pos,w64,qN,↓RS,RG,qA,qM,qL,zaa,zdp,gF,zee,hw]
  refine zad.pc (yix) rfl (.inl rfl) ?_
  simp(disch:=omega)only[↓RU,RV,RH,↓reduceIte,qE,reduceCtorEq,if_pos,w64,qN,↓RS,RG,qA,qM,qL,zaa,zdp,gF,zee,hw]
  refine zad.ev (zix hf hg (by omega) (by omega) 1) ?_
  rintro _ _ ⟨rfl,z,hz1,hz2,rfl⟩
  simp(disch:=omega)only[↓RU,RV,RH,↓reduceIte,qE,reduceCtorEq,if_pos,w64,qN,↓RS,RG,qA,qM,qL,zaa,zdp,gF,zee,hw]
  apply hK;clear hK K
  refine zfe.norm rfl ?_
  exact ⟨_,rfl,z,hz1,hz2,zah⟩
 ·skip
  have hw:IntKind.u64.wrap ((l.length:Nat):Int)=2:=by rw [hk]; rfl
  simp(disch:=omega)only[↓RU,RV,RH,↓reduceIte,qE,reduceCtorEq,if_pos,w64,qN,↓RS,RG,qA,qM,qL,zaa,zdp,gF,zee,hw]
  refine zad.pc (yiy) rfl (.inl rfl) ?_
  simp(disch:=omega)only[↓RU,RV,RH,↓reduceIte,qE,reduceCtorEq,if_pos,w64,qN,↓RS,RG,qA,qM,qL,zaa,zdp,gF,zee,hw]
  refine zad.ev (zix hf hg (by omega) (by omega) 2) ?_
  rintro _ _ ⟨rfl,z,hz1,hz2,rfl⟩
  simp(disch:=omega)only[↓RU,RV,RH,↓reduceIte,qE,reduceCtorEq,if_pos,w64,qN,↓RS,RG,qA,qM,qL,zaa,zdp,gF,zee,hw]
  apply hK;clear hK K
  refine zfe.norm rfl ?_
  exact ⟨_,rfl,z,hz1,hz2,zah⟩
 ·skip
  have hw:IntKind.u64.wrap ((l.length:Nat):Int)=3:=by rw [hk]; rfl
  simp(disch:=omega)only[↓RU,RV,RH,↓reduceIte,qE,reduceCtorEq,if_pos,w64,qN,↓RS,RG,qA,qM,qL,zaa,zdp,gF,zee,hw]
  refine zad.pc (yiz) rfl (.inl rfl) ?_
  simp(disch:=omega)only[↓RU,RV,RH,↓reduceIte,qE,reduceCtorEq,if_pos,w64,qN,↓RS,RG,qA,qM,qL,zaa,zdp,gF,zee,hw]
  refine zad.ev (zix hf hg (by omega) (by omega) 2) ?_
  rintro _ _ ⟨rfl,z,hz1,hz2,rfl⟩
  simp(disch:=omega)only[↓RU,RV,RH,↓reduceIte,qE,reduceCtorEq,if_pos,w64,qN,↓RS,RG,qA,qM,qL,zaa,zdp,gF,zee,hw]
  apply hK;clear hK K
  refine zfe.norm rfl ?_
  exact ⟨_,rfl,z,hz1,hz2,zah⟩
 ·skip
  have hw:IntKind.u64.wrap ((l.length:Nat):Int)=4:=by rw [hk]; rfl
  simp(disch:=omega)only[↓RU,RV,RH,↓reduceIte,qE,reduceCtorEq,if_pos,w64,qN,↓RS,RG,qA,qM,qL,zaa,zdp,gF,zee,hw]
  refine zad.pc (yi0) rfl (.inl rfl) ?_
  simp(disch:=omega)only[↓RU,RV,RH,↓reduceIte,qE,reduceCtorEq,if_pos,w64,qN,↓RS,RG,qA,qM,qL,zaa,zdp,gF,zee,hw]
  refine zad.ev (zix hf hg (by omega) (by omega) 3) ?_
  rintro _ _ ⟨rfl,z,hz1,hz2,rfl⟩
  simp(disch:=omega)only[↓RU,RV,RH,↓reduceIte,qE,reduceCtorEq,if_pos,w64,qN,↓RS,RG,qA,qM,qL,zaa,zdp,gF,zee,hw]
  apply hK;clear hK K
  refine zfe.norm rfl ?_
  exact ⟨_,rfl,z,hz1,hz2,zah⟩
 ·skip
  have hw:IntKind.u64.wrap ((l.length:Nat):Int)=5:=by rw [hk]; rfl
  simp(disch:=omega)only[↓RU,RV,RH,↓reduceIte,qE,reduceCtorEq,if_pos,w64,qN,↓RS,RG,qA,qM,qL,zaa,zdp,gF,zee,hw]
  refine zad.pc (yi1) rfl (.inl rfl) ?_
  simp(disch:=omega)only[↓RU,RV,RH,↓reduceIte,qE,reduceCtorEq,if_pos,w64,qN,↓RS,RG,qA,qM,qL,zaa,zdp,gF,zee,hw]
  refine zad.ev (zix hf hg (by omega) (by omega) 3) ?_
  rintro _ _ ⟨rfl,z,hz1,hz2,rfl⟩
  simp(disch:=omega)only[↓RU,RV,RH,↓reduceIte,qE,reduceCtorEq,if_pos,w64,qN,↓RS,RG,qA,qM,qL,zaa,zdp,gF,zee,hw]
  apply hK;clear hK K
  refine zfe.norm rfl ?_
  exact ⟨_,rfl,z,hz1,hz2,zah⟩
 ·skip
  have hw:IntKind.u64.wrap ((l.length:Nat):Int)=6:=by rw [hk]; rfl
  simp(disch:=omega)only[↓RU,RV,RH,↓reduceIte,qE,reduceCtorEq,if_pos,w64,qN,↓RS,RG,qA,qM,qL,zaa,zdp,gF,zee,hw]
  refine zad.pc (yi2) rfl (.inl rfl) ?_
  simp(disch:=omega)only[↓RU,RV,RH,↓reduceIte,qE,reduceCtorEq,if_pos,w64,qN,↓RS,RG,qA,qM,qL,zaa,zdp,gF,zee,hw]
  refine zad.ev (zix hf hg (by omega) (by omega) 3) ?_
  rintro _ _ ⟨rfl,z,hz1,hz2,rfl⟩
  simp(disch:=omega)only[↓RU,RV,RH,↓reduceIte,qE,reduceCtorEq,if_pos,w64,qN,↓RS,RG,qA,qM,qL,zaa,zdp,gF,zee,hw]
  apply hK;clear hK K
  refine zfe.norm rfl ?_
  exact ⟨_,rfl,z,hz1,hz2,zah⟩
 ·skip
  have hw:IntKind.u64.wrap ((l.length:Nat):Int)=7:=by rw [hk]; rfl
  simp(disch:=omega)only[↓RU,RV,RH,↓reduceIte,qE,reduceCtorEq,if_pos,w64,qN,↓RS,RG,qA,qM,qL,zaa,zdp,gF,zee,hw]
  refine zad.pc (yi3) rfl (.inl rfl) ?_
  simp(disch:=omega)only[↓RU,RV,RH,↓reduceIte,qE,reduceCtorEq,if_pos,w64,qN,↓RS,RG,qA,qM,qL,zaa,zdp,gF,zee,hw]
  refine zad.ev (zix hf hg (by omega) (by omega) 3) ?_
  rintro _ _ ⟨rfl,z,hz1,hz2,rfl⟩
  simp(disch:=omega)only[↓RU,RV,RH,↓reduceIte,qE,reduceCtorEq,if_pos,w64,qN,↓RS,RG,qA,qM,qL,zaa,zdp,gF,zee,hw]
  apply hK;clear hK K
  refine zfe.norm rfl ?_
  exact ⟨_,rfl,z,hz1,hz2,zah⟩
 ·skip
  have hw:IntKind.u64.wrap ((l.length:Nat):Int)=8:=by rw [hk]; rfl
  simp(disch:=omega)only[↓RU,RV,RH,↓reduceIte,qE,reduceCtorEq,if_pos,w64,qN,↓RS,RG,qA,qM,qL,zaa,zdp,gF,zee,hw]
  refine zad.pc (yi4) rfl (.inl rfl) ?_
  simp(disch:=omega)only[↓RU,RV,RH,↓reduceIte,qE,reduceCtorEq,if_pos,w64,qN,↓RS,RG,qA,qM,qL,zaa,zdp,gF,zee,hw]
  refine zad.ev (zix hf hg (by omega) (by omega) 4) ?_
  rintro _ _ ⟨rfl,z,hz1,hz2,rfl⟩
  simp(disch:=omega)only[↓RU,RV,RH,↓reduceIte,qE,reduceCtorEq,if_pos,w64,qN,↓RS,RG,qA,qM,qL,zaa,zdp,gF,zee,hw]
  apply hK;clear hK K
  refine zfe.norm rfl ?_
  exact ⟨_,rfl,z,hz1,hz2,zah⟩
 skip
 have hw:IntKind.u64.wrap ((l.length:Nat):Int)=9:=by rw [hk]; rfl
 simp(disch:=omega)only[↓RU,RV,RH,↓reduceIte,qE,reduceCtorEq,if_pos,w64,qN,↓RS,RG,qA,qM,qL,zaa,zdp,gF,zee,hw]
 refine zad.pc (yi5) rfl (.inl rfl) ?_
 simp(disch:=omega)only[↓RU,RV,RH,↓reduceIte,qE,reduceCtorEq,if_pos,w64,qN,↓RS,RG,qA,qM,qL,zaa,zdp,gF,zee,hw]
 refine zad.ev (zix hf hg (by omega) (by omega) 4) ?_
 rintro _ _ ⟨rfl,z,hz1,hz2,rfl⟩
 simp(disch:=omega)only[↓RU,RV,RH,↓reduceIte,qE,reduceCtorEq,if_pos,w64,qN,↓RS,RG,qA,qM,qL,zaa,zdp,gF,zee,hw]
 apply hK;clear hK K
 refine zfe.norm rfl ?_
 exact ⟨_,rfl,z,hz1,hz2,zah⟩



section
section
variable {n:Nat} {M X:List (List Bool)}
def rvB (M:List (List Bool)) (a:Nat) (X:List (List Bool)) (b:Nat):List (List Bool):=z5o X b a (zdc M a b)
def rvA (n:Nat) (M:List (List Bool)) (X:List (List Bool)) (a:Nat):List (List Bool):=(List.range n).foldl (rvB M a) X
def rv (n:Nat) (M:List (List Bool)):List (List Bool):=(List.range n).foldl (rvA n M) (zb8 n)
end
end
theorem z88 {S:Store} {k f n:Nat} {sel:List Nat}:(List.replicate n (PV.int .i64 0)).mapM (rn S k sel (f+1))=some (List.replicate n (PV.int .i64 0)):=zvw (by simp [List.all_replicate,scal])
section
theorem z6g {L A:List (List Bool)} {n a b:Nat} (hL:Sq n L) (hA:Sq n A) (ha:a<n) (hb:b<n):PC Tryz.prog 99 [(.agg [zhp L,zhp A]),.int .i64 a,.int .i64 b] (.bool (zdc L a b || zdc A a b)) true:=by
 have hL1:=hL.1
 have hA1:=hA.1
 obtain ⟨row,hrow,hrl,hrb⟩:=hL.at_ ha hb
 obtain ⟨sow,hsow,hsl,hsb⟩:=hA.at_ ha hb
 refine PC.of ⟨Tryz.func99,by kernel_rfl,rfl,by kernel_rfl⟩ zao mixed (by show 3≤Tryz.f99.ntmps; decide) ?_
 refine W.r fun K hK=>?_
 simp(disch:=omega)only[↓RU,RV,RH,↓reduceIte,qE,reduceCtorEq,if_pos,↓RS,RG,qA,qM,qL,ty0,ty3,zam,zg1,zfb,zg2]
 apply hK;clear hK K
 refine W.r fun K hK=>?_
 cases hc:zdc L a b
 ·skip
  rw [hc]at hrb
  simp(disch:=omega)only[↓RU,RV,RH,↓reduceIte,qE,reduceCtorEq,if_pos,↓RS,RG,qA,qM,qL,ty0,ty3,zam,zg1,zfb,zg2,hrow,hrl,hrb,hsow,hsl,hsb,hL1,hA1]
  apply hK;clear hK K
  refine W.ret ?_
  refine Br rfl ?_
  rw [hc]
  rfl
 skip
 rw [hc]at hrb
 simp(disch:=omega)only[↓RU,RV,RH,↓reduceIte,qE,reduceCtorEq,if_pos,↓RS,RG,qA,qM,qL,ty0,ty3,zam,zg1,zfb,zg2,hrow,hrl,hrb,hsow,hsl,hsb,hL1,hA1]
 apply hK;clear hK K
 refine W.ret ?_
 refine Br rfl ?_
 rw [hc]
 rfl
theorem zqf {L A:List (List Bool)} {n a b:Nat} (hL:Sq n L) (hA:Sq n A) (ha:a<n) (hb:b<n):PC Tryz.prog 100 [(.agg [zhp L,zhp A]),.int .i64 a,.int .i64 b] (.bool (zdc L a b || zdc A b a)) true:=by
 have hL1:=hL.1
 have hA1:=hA.1
 obtain ⟨row,hrow,hrl,hrb⟩:=hL.at_ ha hb
 obtain ⟨sow,hsow,hsl,hsb⟩:=hA.at_ hb ha
 refine PC.of ⟨Tryz.func100,by kernel_rfl,rfl,by kernel_rfl⟩ zao mixed (by show 3≤Tryz.f100.ntmps; decide) ?_
 refine W.r fun K hK=>?_
 simp(disch:=omega)only[↓RU,RV,RH,↓reduceIte,qE,reduceCtorEq,if_pos,↓RS,RG,qA,qM,qL,ty0,ty3,zam,zg1,zfb,zg2]
 apply hK;clear hK K
 refine W.r fun K hK=>?_
 cases hc:zdc L a b
 ·skip
  rw [hc]at hrb
  simp(disch:=omega)only[↓RU,RV,RH,↓reduceIte,qE,reduceCtorEq,if_pos,↓RS,RG,qA,qM,qL,ty0,ty3,zam,zg1,zfb,zg2,hrow,hrl,hrb,hsow,hsl,hsb,hL1,hA1]
  apply hK;clear hK K
  refine W.ret ?_
  refine Br rfl ?_
  rw [hc]
  rfl
 skip
 rw [hc]at hrb
 simp(disch:=omega)only[↓RU,RV,RH,↓reduceIte,qE,reduceCtorEq,if_pos,↓RS,RG,qA,qM,qL,ty0,ty3,zam,zg1,zfb,zg2,hrow,hrl,hrb,hsow,hsl,hsb,hL1,hA1]
 apply hK;clear hK K
 refine W.ret ?_
 refine Br rfl ?_
 rw [hc]
 rfl
def cmV (b1 b2:Bool):Int:=if b1 then -1 else if b2 then 1 else 0
theorem yg5 {b1 b2:Bool}:cmV b1 b2<0↔b1=true:=by cases b1 <;> cases b2 <;> simp [cmV]
theorem z5s {q:FuncId} {L A:List (List Bool)} {x y:Int} {b1 b2:Bool} (h1:PC Tryz.prog q [(.agg [zhp L,zhp A]),.int .i64 x,.int .i64 y] (.bool b1) true) (h2:PC Tryz.prog q [(.agg [zhp L,zhp A]),.int .i64 y,.int .i64 x] (.bool b2) true):PC Tryz.prog 141 [.int .i64 x,.int .i64 y,.ip [.bm q (.agg [zhp L,zhp A])] 0] (.int .i64 (cmV b1 b2)) true:=by
 refine PC.of ⟨Tryz.func141,by kernel_rfl,rfl,by kernel_rfl⟩ zao mixed (by show 3≤Tryz.f141.ntmps; decide) ?_
 refine W.r fun K hK=>?_
 simp(disch:=omega)only[↓RU,RV,RH,↓reduceIte,qE,reduceCtorEq,if_pos,↓RS,RG,qA,qM,qL]
 apply hK;clear hK K
 refine W.seq ?_
 refine W.block ?_
 refine W.r fun K hK=>?_
 simp(disch:=omega)only[↓RU,RV,RH,↓reduceIte,qE,reduceCtorEq,if_pos,qN,↓RS,RG,qA,qM,qL,yh8]
 refine zad.pc (h1) rfl (.inl rfl) ?_
 simp(disch:=omega)only[↓RU,RV,RH,↓reduceIte,qE,reduceCtorEq,if_pos,qN,↓RS,RG,qA,qM,qL,yh8]
 apply hK;clear hK K
 refine W.cond rfl (fun k1=>?_) (fun k1=>?_)
 ·try simp only[RL]at k1
  refine W.r fun K hK=>?_
  simp(disch:=omega)only[↓RU,RV,RH,↓reduceIte,qE,reduceCtorEq,if_pos,↓RS,RG,qA,qM,qL]
  apply hK;clear hK K
  refine W.ret ?_
  refine XBlock.ret ?_
  refine XThen.ret ?_
  refine Br rfl ?_
  subst k1
  rfl
 try simp only[RL]at k1
 refine W.r fun K hK=>?_
 simp(disch:=omega)only[↓RU,RV,RH,↓reduceIte,qE,reduceCtorEq,if_pos,qN,↓RS,RG,qA,qM,qL,yh8]
 refine zad.pc (h2) rfl (.inl rfl) ?_
 simp(disch:=omega)only[↓RU,RV,RH,↓reduceIte,qE,reduceCtorEq,if_pos,qN,↓RS,RG,qA,qM,qL,yh8]
 apply hK;clear hK K
 refine W.cond rfl (fun k2=>?_) (fun k2=>?_)
 ·try simp only[RL]at k2
  refine W.r fun K hK=>?_
  simp(disch:=omega)only[↓RU,RV,RH,↓reduceIte,qE,reduceCtorEq,if_pos,↓RS,RG,qA,qM,qL]
  apply hK;clear hK K
  refine W.ret ?_
  refine XBlock.ret ?_
  refine XThen.ret ?_
  refine Br rfl ?_
  have k1:b1=false:=by simpa using k1
  subst k1
  subst k2
  rfl
 try simp only[RL]at k2
 refine W.skip ?_
 refine XbN ?_
 refine xn ?_
 refine W.r fun K hK=>?_
 simp(disch:=omega)only[↓RU,RV,RH,↓reduceIte,qE,reduceCtorEq,if_pos,↓RS,RG,qA,qM,qL]
 apply hK;clear hK K
 refine W.ret ?_
 refine Br rfl ?_
 have k1:b1=false:=by simpa using k1
 have k2:b2=false:=by simpa using k2
 subst k1
 subst k2
 rfl
theorem zvo {L A:List (List Bool)}:zmy 10 (.agg [zhp L,zhp A])=true:=rfl
section
variable {S:Store} {fr:Nat→Bool} {f:Nat}
theorem yfp {o ver off:Nat}:rfq S fr (f+1) (.ref o ver off)=if fr o=true then (S.cellsOf o ver).bind fun cells=>(cells.mapM (rfq S fr f)).map (.ip · off) else none:=rfl
theorem yhv {g:FuncId} {b:PV}:rfq S fr (f+1) (.bm g b)=some (.bm g b):=rfl
theorem yat {g:FuncId} {b:PV}:(PV.bm g b).cells=[.bm g b]:=rfl
theorem yit {g:FuncId} {b:PV}:(PV.bm g b).isCell=true:=rfl
end
theorem zze {q:FuncId} {L A:List (List Bool)} {n:Nat} (hL:Sq n L) (h1:1≤n) (h9:n≤9) {bf:Nat→Nat→Bool} {f:Nat→Nat} (hq:∀ a b:Nat,a<n→b<n→PC Tryz.prog q [(.agg [zhp L,zhp A]),.int .i64 a,.int .i64 b] (.bool (bf a b)) true) (hf:∀ a b,a<n→b<n→(bf a b=true↔f a<f b)) {Z:List Int} (hZ:∀ z:List Int,z.Perm (rooms n)→(z.map fun x=>((f x.toNat:Nat):Int)).Pairwise (· ≤ ·)→z=Z):PN Tryz.prog 98 [(.agg [zhp L,zhp A]),.bm q (.agg [zhp L,zhp A])] (.loc 0 0 0 n) [.arr 0 3 1 (Z.map (.int .i64))] false:=by
 have hL1:=hL.1
 obtain ⟨l,hl,hln⟩:∃ l,l=rooms n∧l.length=n:=⟨_,rfl,zry⟩
 subst hln
 have hmem:∀ x,x∈l→∃ a:Nat,x=a∧a<l.length:=fun x hx=>by rw [hl,zq8]at hx; exact ⟨x.toNat,by omega,by omega⟩
 have hcm:∀ x y,x∈l→y∈l→PC Tryz.prog 141 [.int .i64 x,.int .i64 y,.ip [.bm q (.agg [zhp L,zhp A])] 0] (.int .i64 (cmV (bf x.toNat y.toNat) (bf y.toNat x.toNat))) true:=fun x y hx hy=>by
  obtain ⟨a,rfl,ha⟩:=hmem x hx
  obtain ⟨b,rfl,hb⟩:=hmem y hy
  exact z5s (hq a b ha hb) (hq b a hb ha)
 have hlt:∀ x y,x∈l→y∈l→(cmV (bf x.toNat y.toNat) (bf y.toNat x.toNat)<0↔(fun x:Int=>((f x.toNat:Nat):Int)) x<(fun x:Int=>((f x.toNat:Nat):Int)) y):=fun x y hx hy=>by
  obtain ⟨a,rfl,ha⟩:=hmem x hx
  obtain ⟨b,rfl,hb⟩:=hmem y hy
  rw [yg5,hf _ _ (by simpa using ha) (by simpa using hb)]
  simp only; omega
 refine PN.of ⟨Tryz.func98,by kernel_rfl,rfl,by kernel_rfl⟩ zao mixed (by show 2≤Tryz.f98.ntmps; decide) ?_
 refine W.r fun K hK=>?_
 simp(disch:=omega)only[↓RU,RV,RH,↓reduceIte,qE,reduceCtorEq,if_pos,↓RS,RG,qA,qM,qL,ty0,ty3,zam,yh8,zg1,zfb,zg2,yat,yit]
 apply hK;clear hK K
 refine W.joinS [3,5] (fun vs S=>∃ t tk:Nat,vs=[.ip [.bm q (.agg [zhp L,zhp A])] 0,.loc 0 t 0 l.length]∧S=⟨[.arr t 3 1 ((List.replicate l.length 0).map (.int .i64))],tk⟩) ?_ ?_
 ·
  refine W.k fun K hK=>?_
  simp(disch:=omega)only[↓RU,RV,RH,↓reduceIte,qE,reduceCtorEq,if_pos,↓RS,RG,qA,qM,qL,ty0,ty3,zab,zam,zg1,zfb,zaa,zg2,hL1,zel,zdv]
  apply hK;clear hK K
  refine xn ?_
  refine ⟨0,[2],[.ip [.bm q (.agg [zhp L,zhp A])] 0,.loc 0 3 0 l.length],⟨[.arr 3 3 1 ((List.replicate l.length 0).map (.int .i64))],4⟩,?_,?_,3,4,rfl,rfl⟩
  ·simp [-qU,Env.put,Env.of,zae,zbq,zag,zaj,zap,zar,zbz,zb0,zc9,zby,za2,zb1,zc8,zda,za4,za3,zas,zbx,zb2,zc7,za0,zaz,zaq,za1,zbw,ze9,qS,qP,qC,yfp,yhv,Store.cellsOf]
  simp [-qU,Env.put,Env.of,zae,zbq,zag,zaj,zap,zar,zbz,zb0,zc9,zby,za2,zb1,zc8,zda,za4,za3,zas,zbx,zb2,zc7,za0,zaz,zaq,za1,zbw,ze9,qS,qP,qC,z88]
 rintro vs S - ⟨t0,tk0,rfl,rfl⟩
 refine W.seq ?_
 refine W.r fun K hK=>?_
 simp(disch:=omega)only[↓RU,RV,RH,↓reduceIte,qE,reduceCtorEq,if_pos,↓RS,RG,qA,qM,qL,zab,zaa]
 apply hK;clear hK K
 refine W.block ?_
 refine W.loop [3,5,12,13] (fun n vs S=>∃ i t tk:Nat,n=l.length - i∧i≤l.length∧vs=[.ip [.bm q (.agg [zhp L,zhp A])] 0,.loc 0 t 0 l.length,.int .i64 l.length,.int .i64 i]∧S=⟨[.arr t 3 1 ((l.take i++List.replicate (l.length - i) 0).map (.int .i64))],tk⟩) l.length ?_ ?_
 ·refine ⟨1,0,t0,tk0,rfl,by omega,?_,by simp [Store.take]⟩
  simp [Env.put,Env.of,zae]
 rintro n vs S - ⟨i,t,tk,rfl,h_i,rfl,rfl⟩
 refine W.r fun K hK=>?_
 simp(disch:=omega)only[↓RU,RV,RH,↓reduceIte,qE,reduceCtorEq,if_pos,w64,↓RS,RG,qA,qM,qL,zaa]
 apply hK;clear hK K
 refine W.seq ?_
 refine W.cond rfl (fun h=>?_) (fun h=>?_)
 ·try simp only[RL]at h
  have hix:l[i]?=some (i:Int):=by rw [hl]; exact zvy (by omega)
  have hol:(l.take i++List.replicate (l.length - i) 0).length=l.length:=by simp; omega
  refine W.skip ?_
  refine xn ?_
  refine W.seq ?_
  refine W.block ?_
  refine W.r fun K hK=>?_
  simp(disch:=omega)only[↓RU,RV,RH,↓reduceIte,qE,reduceCtorEq,if_pos,↓RS,RG,qA,qM,qL]
  apply hK;clear hK K
  refine W.k fun K hK=>?_
  simp(disch:=omega)only[↓RU,RV,RH,↓reduceIte,qE,reduceCtorEq,if_pos,↓RS,RG,qA,qM,qL,zab,zaa,zbo,zdq,hol]
  apply hK;clear hK K
  refine XbN ?_
  refine xn ?_
  refine W.k fun K hK=>?_
  simp(disch:=omega)only[↓RU,RV,RH,↓reduceIte,qE,reduceCtorEq,if_pos,w64,↓RS,RG,qA,qM,qL,zaa]
  apply hK;clear hK K
  refine xn ?_
  refine ⟨l.length - (i+1),by omega,1,i+1,t,tk,rfl,by omega,?_,?_⟩
  ·simp [Env.put,Env.of]
  simp only[zay,zwx hix]; rfl
 try simp only[RL]at h
 obtain rfl:l.length=i:=by omega
 rw [List.take_length,Nat.sub_self]
 simp only[List.replicate_zero,qN]
 refine W.exit ?_
 refine xe ?_
 refine xe ?_
 refine XBlock.hit ?_
 refine xn ?_
 refine W.r fun K hK=>?_
 simp(disch:=omega)only[↓RU,RV,RH,↓reduceIte,qE,reduceCtorEq,if_pos,qN,↓RS,RG,qA,qM,qL]
 refine zad.ev (yca (F:=[]) (R:=[]) hcm hlt h9 h1) ?_
 rintro _ _ ⟨rfl,z,hz1,hz2,rfl⟩
 simp(disch:=omega)only[↓RU,RV,RH,↓reduceIte,qE,reduceCtorEq,if_pos,qN,↓RS,RG,qA,qM,qL]
 apply hK;clear hK K
 refine W.r fun K hK=>?_
 simp(disch:=omega)only[↓RU,RV,RH,↓reduceIte,qE,reduceCtorEq,if_pos,↓RS,RG,qA,qM,qL]
 apply hK;clear hK K
 refine W.ret ?_
 refine Br rfl ?_
 have e:=hZ z (by rw [← hl]; exact hz1) hz2
 subst e
 exact zzb rfl (zv3 _)
end

theorem zqk {f:Nat→Bool} {b:Nat}:(List.range (b+1)).countP f=(List.range b).countP f+(if f b then 1 else 0):=by
 rw [qS,List.countP_append]; simp
theorem zn7 {p:List Txt} (hp:zca p=true):zc1 p=true∧zaw p=(rP p).length∧(rP p).length≤9∧1≤(rP p).length∧(∀ a b,a<(rP p).length→b<(rP p).length→zqg (zwn p 0) a b=zdc (lfM p) a b)∧∀ a b,a<(rP p).length→b<(rP p).length→zqg (zwn p 1) a b=zdc (abM p) a b:=by
 have hpl:=zn6 hp
 have hN:=zds hpl
 have hr:=hN.rooms
 have h1:=hp
 rw [← zfh]at h1
 have hok:okB p=true:=by
  have h9:=h1
  unfold zc0 zgc at h9
  simp only[qB]at h9
  exact h9.1.1
 obtain ⟨s0,s1⟩:=yb2 hN.hg (n:=(rP p).length) (by omega) (fun i j hi hj=>hN.cell hi hj) zgk
 exact ⟨hN.hg,hr,zge hok,zkm hok,fun a b ha hb=>(s0.2.2 a b ha hb).symm,fun a b ha hb=>(s1.2.2 a b ha hb).symm⟩
theorem z0i {p:List Txt} (hs:Sm p) (hp:zca p=true) (below:Bool):PN Tryz.prog 92 [zan p,.bool below] (.loc 0 0 0 (rP p).length) [.arr 0 3 1 ((srt p below).map (.int .i64))] false:=by
 obtain ⟨hg,hr,hn9,hn1,e0,e1⟩:=zn7 hp
 have h9:zaw p≤9:=by omega
 have hm0:=zu0 hg h9 0
 have hm1:=zu0 hg h9 1
 obtain ⟨f,hf,hi⟩:=zlg hp below
 have hahl:∀ a,a<(rP p).length→ahK p below a<(rP p).length:=fun a ha=>by rw [zp7 hf ha]; exact zzs ha
 obtain ⟨nr,hnr⟩:∃ nr:Nat,(rP p).length=nr:=⟨_,rfl⟩
 unfold srt
 rw [hnr]at hr hn9 hn1 e0 e1 hahl ⊢
 rw [show (zaw p).toNat=nr by omega]at hm0 hm1
 have hml:=hm0.1
 have hml1:=hm1.1
 refine PN.of ⟨Tryz.func92,by kernel_rfl,rfl,by kernel_rfl⟩ zao mixed (by show 2≤Tryz.f92.ntmps; decide) ?_
 refine W.r fun K hK=>?_
 simp(disch:=omega)only[↓RU,RV,RH,↓reduceIte,qE,reduceCtorEq,if_pos,↓RS,RG,qA,qM,qL]
 apply hK;clear hK K
 refine W.r fun K hK=>?_
 simp(disch:=omega)only[↓RU,RV,RH,↓reduceIte,qE,reduceCtorEq,if_pos,qN,↓RS,RG,qA,qM,qL]
 refine zad.pc (z2h hs hg h9 0) rfl (.inl rfl) ?_
 simp(disch:=omega)only[↓RU,RV,RH,↓reduceIte,qE,reduceCtorEq,if_pos,qN,↓RS,RG,qA,qM,qL]
 apply hK;clear hK K
 refine W.r fun K hK=>?_
 simp(disch:=omega)only[↓RU,RV,RH,↓reduceIte,qE,reduceCtorEq,if_pos,qN,↓RS,RG,qA,qM,qL]
 refine zad.pc (z2h hs hg h9 1) rfl (.inl rfl) ?_
 simp(disch:=omega)only[↓RU,RV,RH,↓reduceIte,qE,reduceCtorEq,if_pos,qN,↓RS,RG,qA,qM,qL]
 apply hK;clear hK K
 refine W.r fun K hK=>?_
 simp(disch:=omega)only[↓RU,RV,RH,↓reduceIte,qE,reduceCtorEq,if_pos,↓RS,RG,qA,qM,qL,zab,zaa,hml]
 apply hK;clear hK K
 refine W.r fun K hK=>?_
 simp(disch:=omega)only[↓RU,RV,RH,↓reduceIte,qE,reduceCtorEq,if_pos,↓RS,RG,qA,qM,qL,zab,zaa,zel,zdv]
 apply hK;clear hK K
 refine W.seq ?_
 refine W.r fun K hK=>?_
 simp(disch:=omega)only[↓RU,RV,RH,↓reduceIte,qE,reduceCtorEq,if_pos,↓RS,RG,qA,qM,qL]
 apply hK;clear hK K
 refine W.block ?_
 refine W.loop [0,1,5,6,7,8,9] (fun n vs S=>∃ a:Nat,n=nr - a∧a≤nr∧vs=[zan p,.bool below,zz6 (zwn p 0),zz6 (zwn p 1),.int .i64 nr,.loc 0 0 0 nr,.int .i64 a]∧S=⟨[.arr 0 3 1 ((zgt (ahK p below) nr a).map (.int .i64))],1⟩) (nr) ?_ ?_
 ·refine ⟨1,0,rfl,Nat.zero_le _,?_,by simp [zay,zgt]⟩
  simp [Env.put,Env.of,zae]
 rintro n vs S - ⟨a,rfl,h_a,rfl,rfl⟩
 refine W.seq ?_
 refine W.r fun K hK=>?_
 simp(disch:=omega)only[↓RU,RV,RH,↓reduceIte,qE,reduceCtorEq,if_pos,w64,↓RS,RG,qA,qM,qL,zaa]
 apply hK;clear hK K
 refine W.cond rfl (fun h=>?_) (fun h=>?_)
 ·try simp only[RL]at h
  have hal:=zij (ah:=ahK p below) (n:=nr) a
  have hah:=hahl a (by omega)
  refine W.skip ?_
  refine xn ?_
  refine W.seq ?_
  refine W.block ?_
  refine W.r fun K hK=>?_
  simp(disch:=omega)only[↓RU,RV,RH,↓reduceIte,qE,reduceCtorEq,if_pos,↓RS,RG,qA,qM,qL]
  apply hK;clear hK K
  refine W.seq ?_
  refine W.r fun K hK=>?_
  simp(disch:=omega)only[↓RU,RV,RH,↓reduceIte,qE,reduceCtorEq,if_pos,↓RS,RG,qA,qM,qL]
  apply hK;clear hK K
  refine W.block ?_
  refine W.loop [0,1,5,6,7,8,9,10,11] (fun n vs S=>∃ b:Nat,n=nr - b∧b≤nr∧vs=[zan p,.bool below,zz6 (zwn p 0),zz6 (zwn p 1),.int .i64 nr,.loc 0 0 0 nr,.int .i64 a,.int .i64 (((List.range b).countP fun c=>bfK p below c a):Nat),.int .i64 b]∧S=⟨[.arr 0 3 1 ((zgt (ahK p below) nr a).map (.int .i64))],1⟩) nr ?_ ?_
  ·refine ⟨1,0,rfl,Nat.zero_le _,?_,rfl⟩
   simp [Env.put,Env.of]
  rintro n vs S - ⟨b,rfl,h_b,rfl,rfl⟩
  refine W.seq ?_
  refine W.r fun K hK=>?_
  simp(disch:=omega)only[↓RU,RV,RH,↓reduceIte,qE,reduceCtorEq,if_pos,w64,↓RS,RG,qA,qM,qL,zaa]
  apply hK;clear hK K
  refine W.cond rfl (fun h1=>?_) (fun h1=>?_)
  ·try simp only[RL]at h1
   have hcl:((List.range b).countP fun c=>bfK p below c a)≤b:=by have:=List.countP_le_length (p:=fun c=>bfK p below c a) (l:=List.range b); simpa using this
   obtain ⟨m,hm,hm5⟩:=hm0.at_ (show b<nr by omega)
   obtain ⟨k,hk,hk5⟩:=hm1.at_ (show a<nr by omega)
   obtain ⟨o,ho,ho5⟩:=hm1.at_ (show b<nr by omega)
   have e0m:=e0 b a (by omega) (by omega)
   have e1k:=e1 a b (by omega) (by omega)
   have e1o:=e1 b a (by omega) (by omega)
   rw [zin hm]at e0m
   rw [zin hk]at e1k
   rw [zin ho]at e1o
   refine W.skip ?_
   refine xn ?_
   refine W.seq ?_
   refine W.block ?_
   refine W.r fun K hK=>?_
   simp(disch:=omega)only[↓RU,RV,RH,↓reduceIte,qE,reduceCtorEq,if_pos,w64,↓RS,RG,qA,qM,qL,zab,zaa,hm,hml,ygl,z52]
   apply hK;clear hK K
   refine W.join [0,1,5,6,7,8,9,10,11,12] (fun vs S=>vs=[zan p,.bool below,zz6 (zwn p 0),zz6 (zwn p 1),.int .i64 nr,.loc 0 0 0 nr,.int .i64 a,.int .i64 (((List.range b).countP fun c=>bfK p below c a):Nat),.int .i64 b,.bool (bfK p below b a)]∧S=⟨[.arr 0 3 1 ((zgt (ahK p below) nr a).map (.int .i64))],1⟩) ?_ ?_
   ·
    refine W.r fun K hK=>?_
    simp(disch:=omega)only[↓RU,RV,RH,↓reduceIte,qE,reduceCtorEq,if_pos,↓RS,RG,qA,qM,qL]
    apply hK;clear hK K
    refine W.cond rfl (fun h2=>?_) (fun h2=>?_)
    ·try simp only[RL]at h2
     refine W.k fun K hK=>?_
     cases hx:m.testBit a
     ·skip
      simp(disch:=omega)only[↓RU,RV,RH,↓reduceIte,qE,reduceCtorEq,if_pos,w64,↓RS,RG,qA,qM,qL,zab,zaa,hk,hml1,ygl,z52]
      apply hK;clear hK K
      refine xn ?_
      refine ⟨1,?_,?_⟩
      ·simp [Env.put,Env.of,bfK,bf2,h2,← e0m,← e1k,hx]
      rfl
     skip
     simp(disch:=omega)only[↓RU,RV,RH,↓reduceIte,qE,reduceCtorEq,if_pos,w64,↓RS,RG,qA,qM,qL,zab,zaa,hk,hml1,ygl,z52]
     apply hK;clear hK K
     refine xn ?_
     refine ⟨1,?_,?_⟩
     ·simp [Env.put,Env.of,bfK,bf2,h2,← e0m,hx]
     rfl
    try simp only[RL]at h2
    refine W.k fun K hK=>?_
    cases hx:m.testBit a
    ·skip
     simp(disch:=omega)only[↓RU,RV,RH,↓reduceIte,qE,reduceCtorEq,if_pos,w64,↓RS,RG,qA,qM,qL,zab,zaa,ho,hml1,ygl,z52]
     apply hK;clear hK K
     refine xn ?_
     refine ⟨1,?_,?_⟩
     ·simp [Env.put,Env.of,bfK,bf1,h2,← e0m,← e1o,hx]
     rfl
    skip
    simp(disch:=omega)only[↓RU,RV,RH,↓reduceIte,qE,reduceCtorEq,if_pos,w64,↓RS,RG,qA,qM,qL,zab,zaa,ho,hml1,ygl,z52]
    apply hK;clear hK K
    refine xn ?_
    refine ⟨1,?_,?_⟩
    ·simp [Env.put,Env.of,bfK,bf1,h2,← e0m,hx]
    rfl
   rintro vs S - ⟨rfl,rfl⟩
   refine W.r fun K hK=>?_
   simp(disch:=omega)only[↓RU,RV,RH,↓reduceIte,qE,reduceCtorEq,if_pos,↓RS,RG,qA,qM,qL]
   apply hK;clear hK K
   refine W.cond rfl (fun h3=>?_) (fun h3=>?_)
   ·try simp only[RL]at h3
    refine W.k fun K hK=>?_
    simp(disch:=omega)only[↓RU,RV,RH,↓reduceIte,qE,reduceCtorEq,if_pos,w64,↓RS,RG,qA,qM,qL,zaa]
    apply hK;clear hK K
    refine XbN ?_
    refine xn ?_
    refine W.k fun K hK=>?_
    simp(disch:=omega)only[↓RU,RV,RH,↓reduceIte,qE,reduceCtorEq,if_pos,w64,↓RS,RG,qA,qM,qL,zaa]
    apply hK;clear hK K
    refine xn ?_
    refine ⟨nr - (b+1),by omega,1,b+1,rfl,by omega,?_,rfl⟩
    simp only[zqk,h3]
    simp [Env.put,Env.of]
   try simp only[RL]at h3
   refine W.skip ?_
   refine XbN ?_
   refine xn ?_
   refine W.k fun K hK=>?_
   simp(disch:=omega)only[↓RU,RV,RH,↓reduceIte,qE,reduceCtorEq,if_pos,w64,↓RS,RG,qA,qM,qL,zaa]
   apply hK;clear hK K
   refine xn ?_
   refine ⟨nr - (b+1),by omega,1,b+1,rfl,by omega,?_,rfl⟩
   simp only[zqk,h3]
   simp [Env.put,Env.of]
  try simp only[RL]at h1
  obtain rfl:nr=b:=by omega
  have hcq:((List.range nr).countP fun c=>bfK p below c a)=ahK p below a:=by unfold ahK; rw [hnr]
  refine W.exit ?_
  refine xe ?_
  refine xe ?_
  refine XBlock.hit ?_
  refine xn ?_
  refine W.k fun K hK=>?_
  rw [hcq]
  simp(disch:=omega)only[↓RU,RV,RH,↓reduceIte,qE,reduceCtorEq,if_pos,↓RS,RG,qA,qM,qL,zab,zaa,hal,zbo,zdq]
  apply hK;clear hK K
  refine XbN ?_
  refine xn ?_
  refine W.k fun K hK=>?_
  simp(disch:=omega)only[↓RU,RV,RH,↓reduceIte,qE,reduceCtorEq,if_pos,w64,↓RS,RG,qA,qM,qL,zaa]
  apply hK;clear hK K
  refine xn ?_
  refine ⟨nr - (a+1),by omega,1,a+1,rfl,by omega,?_,?_⟩
  ·simp [Env.put,Env.of]
  simp only[zay,zgt]; rfl
 try simp only[RL]at h
 obtain rfl:nr=a:=by omega
 refine W.exit ?_
 refine xe ?_
 refine xe ?_
 refine XBlock.hit ?_
 refine xn ?_
 refine W.r fun K hK=>?_
 simp(disch:=omega)only[↓RU,RV,RH,↓reduceIte,qE,reduceCtorEq,if_pos,↓RS,RG,qA,qM,qL]
 apply hK;clear hK K
 refine W.ret ?_
 refine Br rfl ?_
 rw [← hnr]
 exact zzb rfl (zv3 _)
section
section
variable {P:Program} {T:Tab} {F:Nat→Prop} {G:GSt} {w:World} {e:Env} {a:Act} {F0:Nat→Prop} {G0:GSt} {w0:World} {N:Nat}
theorem yaw (hT:zbr P T) (hi:Inv F G w) (he:ze7 w.heap F G e a) {o:Oper} {s d el:TypeId} {x:Operand} {str:List UInt8} (hop:o.op = .convert s d x) (hs:(T s).kd = .str) (hd:(T d).kd = .slice el) (hu8:(T el).kd = .int .u8)
  (hx0:e.ev x = .str str) (hlen63:str.length≤1048576) {K:PV→Store→Prop} (h:K (.loc G.er.obs.length G.er.tick 0 str.length) (G.er.push el 1 (str.map eB))) {next:Act→World→Prop} {Q:Exit→Act→World→Prop}
  (hk:Goes F G w K fun cv w'=>next (a.put o.dst cv) w'):o.wp P a w next Q:=by
 have hx:=he.ev x
 rw [hx0]at hx
 obtain ⟨b,ex,hb⟩:=hx.str
 have hr:(execOp a.eval o).run P w = .ok (.value (.slice (some ⟨w.heap.size,0,none⟩) b.size (grownCap w b.size 0 el))) (Lib.bytesWorld w el b):=by
  simp only[execOp,hop,ex]
  rw [Sem.run_bind,Lib.run_convert_string_bytes w s d el b (zib hT hs) (zck hT hd) (zlb hT hu8)]
  rfl
 have hlen:str.length=b.size:=by rw [← hb]; simp
 have hsz:(Lib.bytesWorld w el b).heap.size=w.heap.size+1:=Lib.bytesWorld_size w el b
 have hge:=grownCap_ge w b.size 0 el
 have hcs:(Lib.bytesCells w el b).size=grownCap w b.size 0 el:=by
  simp [Lib.bytesCells]; omega
 have hpush:(Lib.bytesWorld w el b).heap=w.heap.push (.cells (Lib.bytesCells w el b) el ((Lib.bytesCells w el b).size,(Lib.bytesCells w el b).size+1)):=by
  apply Array.ext_getElem?
  intro j
  rw [Array.getElem?_push]
  by_cases hj:j=w.heap.size
  ·subst hj; rw [if_pos rfl]; exact Lib.bytesWorld_at_new w el b
  rw [if_neg hj]
  by_cases hj2:j<w.heap.size
  ·exact Lib.bytesWorld_at_old w el b j hj2
  rw [Array.getElem?_eq_none (by omega),Array.getElem?_eq_none (by omega)]
 obtain ⟨k1,k2⟩:=zm0 hi (.arr G.tick el 1 (str.map eB)) (Lib.bytesCells w el b).size (Lib.bytesWorld w el b) (w.drawn+1) rfl (Nat.le_succ _) ⟨_,hpush⟩ rfl
  ⟨_,⟨_,Lib.bytesWorld_at_new w el b,.inr (qR _)⟩,rfl,by show (str.map eB).length≤(Lib.bytesCells w el b).size; rw [List.length_map,hcs]; omega,fun i p hp=>by
   have hil:i<str.length:=by have:=(List.getElem?_eq_some_iff.1 hp).1; simpa using this
   rw [List.getElem?_map,List.getElem?_eq_getElem hil]at hp
   cases hp
   refine ⟨rfl,.int .u8 (str[i].toNat:Int),?_,.imm _ _ (.int _ _)⟩
   have:=Lib.bytesWorld_cell w el b i (by omega)
   simp only[World.cell?,Lib.bytesWorld_at_new,Option.isSome_none,qF,if_false]at this
   rw [this,hb,List.getD_eq_getElem?_getD,List.getElem?_eq_getElem hil]
   rfl⟩
 unfold Oper.wp
 rw [hr]
 refine hk (.loc G.er.obs.length G.er.tick 0 str.length) _ _ _ _ (by rw [zqt]; exact h) k1 k2 ?_
 rw [hlen]
 exact zra (et:=el) (sz:=1) (cells:=str.map eB) (l:=⟨w.heap.size,(Lib.bytesCells w el b).size⟩) _ _ _ (by simp) (Nat.lt_succ_self _) rfl hge (grownCap_le_maxLen w _ _ _ (by unfold maxLen; omega)) (by rw [Nat.mul_one]; exact hcs.symm)
def z0o (P:Program) (T:Tab) (ops:Array Oper) (Q:Env→Store→Prop):Nat→List Oper→Env→Store→Prop
 | _,[],e,S=>Q e S
 | 0,o::l,e,S=>∃ (s d el:TypeId) (x:Operand) (str:List UInt8),o.guard=none∧o.op = .convert s d x∧(T s).kd = .str∧(T d).kd = .slice el∧(T el).kd = .int .u8∧e.ev x = .str str∧str.length≤1048576 ∧
   zyg P T ops Q l (e.put o.dst (.loc S.obs.length S.tick 0 str.length)) (S.push el 1 (str.map eB))
 | k+1,o::l,e,S=>o.guard=none∧pOp P T e S o.op fun v S'=>z0o P T ops Q k l (e.put o.dst v) S'
theorem zrl {R:Option Nat} {nn:Nat} (hT:zbr P T) {ops:Array Oper} {Q:Env→Store→Prop}:∀ (k:Nat) (l:List Oper) {e:Env} {F:Nat→Prop} {G:GSt} {a:Act} {w:World},z0o P T ops Q k l e G.er→Inv F G w→ze7 w.heap F G e a →
  Next F0 G0 w0 F G w→a.tmps.size=N→Marks w0 a.defers w→(∀ o∈l,∀ d,o.dst=some d→d<N)→wpListIn (fnc R) nn P ops (Sto F0 G0 w0 N (Nrm Q)) l a w
 | _,[],e,F,G,a,w,h,hi,he,hn,hs,hd,_=>by
  have h':Q e G.er:=by unfold z0o at h; exact h
  exact ⟨e,F,G,h',hi,he,hn,hs,hd⟩
 | 0,o::l,e,F,G,a,w,h,hi,he,hn,hs,hd,hdst=>by
  have ho:∀ t,o.dst=some t→t<a.tmps.size:=fun t ht=>by rw [hs]; exact hdst o (by simp) t ht
  have hl:∀ o∈l,∀ d,o.dst=some d→d<N:=fun o' h'=>hdst o' (by simp [h'])
  unfold z0o at h
  obtain ⟨s,d,el,x,str,hg,hop,q1,q2,q3,q4,q5,h⟩:=h
  unfold wpListIn
  have hw:Region.wanted o (yielded ops a.tmps)=true:=by unfold Region.wanted; rw [hg]
  rw [if_pos hw]
  refine yig (by rw [hop]; intro c q; cases q) (yaw hT hi he hop q1 q2 q3 q4 q5 (K:=fun v S'=>v = .loc G.er.obs.length G.er.tick 0 str.length∧S'=G.er.push el 1 (str.map eB)) ⟨rfl,rfl⟩ ?_)
  rintro v cv F' G' w' ⟨rfl,hE⟩ i1 i2 i3
  refine zif hT l (by rw [hE]; exact h) i1 ((he.next hi i2).put _ ho i3) (hn.trans i2) (by rw [zd7]; exact hs) (by rw [zcg]; exact hd.next hi i2) hl
 | k+1,o::l,e,F,G,a,w,h,hi,he,hn,hs,hd,hdst=>by
  have ho:∀ t,o.dst=some t→t<a.tmps.size:=fun t ht=>by rw [hs]; exact hdst o (by simp) t ht
  have hl:∀ o∈l,∀ d,o.dst=some d→d<N:=fun o' h'=>hdst o' (by simp [h'])
  unfold z0o at h
  obtain ⟨hg,h⟩:=h
  unfold wpListIn
  have hw:Region.wanted o (yielded ops a.tmps)=true:=by unfold Region.wanted; rw [hg]
  rw [if_pos hw]
  refine zf7 hT hi he h ?_
  intro v cv F' G' w' hK i1 i2 i3
  exact zrl hT k l hK i1 ((he.next hi i2).put _ ho i3) (hn.trans i2) (by rw [zd7]; exact hs) (by rw [zcg]; exact hd.next hi i2) hl
end
section
variable {P:Program} {T:Tab} {Q:Exit→Env→Store→Prop} {e:Env} {S:Store} {b:Code}
theorem W.region_t (k:Nat) {id:Nat} {ops:Array Oper} (h:z0o P T ops (Q .normal) k ops.toList e S):W P T (.region id ops false) Q e S:=by
 refine ⟨?_⟩
 intro hT hm F0 G0 w0 N F G a w h3 h4 h5 h6 h7 h8 h9 R nn
 subst h3
 refine wpIn_mono (wpIn_region_list (zrl hT k _ h h4 h5 h6 h7 h8 (znt h9))) ?_
 exact ztr
def yio (P:Program) (T:Tab) (ds:List (Option Tmp)) (o:Oper) (l:List Oper) (e:Env) (S:Store) (K:Env→Store→Prop):Prop :=
 ∃ (s d el:TypeId) (x:Operand) (str:List UInt8),o.guard=none∧o.op = .convert s d x∧(T s).kd = .str∧(T d).kd = .slice el∧(T el).kd = .int .u8∧e.ev x = .str str∧str.length≤1048576 ∧
  zbg false P T ds l (e.put o.dst (.loc S.obs.length S.tick 0 str.length)) (S.push el 1 (str.map eB)) K
theorem zrm {ops:Array Oper} {K K':Env→Store→Prop} (h:∀ e S,K e S→K' e S):∀ (l:List Oper) {e:Env} {S:Store},zyg P T ops K l e S→zyg P T ops K' l e S
 | [],e,S,k=>h e S k
 | o::l,e,S,k=>by
  unfold zyg zdi at k ⊢
  cases hg:gdec ops o e with
  | none=>rw [hg]at k; exact k.elim
  | some b =>
   rw [hg]at k
   cases b with
   | true=>exact zd6 (fun v S' k=>zrm h l k) k
   | false=>exact zrm h l k
theorem zyh {ops:Array Oper} {K:Env→Store→Prop} {o:Oper} {l2:List Oper}:∀ (l1:List Oper) {e:Env} {S:Store},l1.all (fun o=>o.guard.isNone)=true →
  zyg P T ops (fun e S=>∃ (s d el:TypeId) (x:Operand) (str:List UInt8),o.guard=none∧o.op = .convert s d x∧(T s).kd = .str∧(T d).kd = .slice el∧(T el).kd = .int .u8∧e.ev x = .str str∧str.length≤1048576 ∧
   zyg P T ops K l2 (e.put o.dst (.loc S.obs.length S.tick 0 str.length)) (S.push el 1 (str.map eB))) l1 e S→z0o P T ops K l1.length (l1++o::l2) e S
 | [],e,S,_,h=>h
 | q::l1,e,S,hg,h=>by
  simp only[List.all_cons,qB,Option.isNone_iff_eq_none]at hg
  show q.guard=none∧_
  refine ⟨hg.1,?_⟩
  unfold zyg zdi gdec at h
  rw [hg.1]at h
  exact zd6 (fun v S' h=>zyh l1 hg.2 h) h
theorem W.seq_thaw {id:Nat} {l1 l2:List Oper} {o:Oper} (hg:l1.all (fun o=>o.guard.isNone)=true) (h:∀ K:Env→Store→Prop,(∀ e S,W P T b Q e S→K e S)→zbg false P T (dsts (l1++o::l2)) l1 e S fun e S=>yio P T (dsts (l1++o::l2)) o l2 e S K) :
  W P T (.seq (.region id (l1++o::l2).toArray false) b) Q e S:=by
 refine W.seq (W.region_t l1.length ?_)
 have h1:=zg7 l1 e S (h _ fun _ _ h=>h)
 refine zyh l1 hg (zrm ?_ l1 h1)
 rintro e S ⟨s,d,el,x,str,q1,q2,q3,q4,q5,q6,q7,q8⟩
 exact ⟨s,d,el,x,str,q1,q2,q3,q4,q5,q6,q7,zg7 l2 _ _ q8⟩
end
end
abbrev eBy (l:Txt):PV := .sl (l.map eB) l.length
theorem z08 {a b:Nat}:((a:Nat):Int).tmod ((b:Nat):Int)=((a % b:Nat):Int):=(Int.ofNat_tmod a b).symm
theorem yf9 {a b:Nat}:((a:Nat):Int).tdiv ((b:Nat):Int)=((a / b:Nat):Int):=(Int.ofNat_tdiv a b).symm
theorem yjb {a b:Nat} (ha:a<1099511627776) (hb:b<1099511627776):IntKind.i64.wrap ((BitVec.ofInt IntKind.i64.bits (a:Int) ^^^ BitVec.ofInt IntKind.i64.bits (b:Int)).toNat:Int)=((a ^^^ b:Nat):Int):=by
 have h1:(BitVec.ofInt 64 (a:Int)).toNat=a:=by simp [BitVec.toNat_ofInt]; omega
 have h2:(BitVec.ofInt 64 (b:Int)).toNat=b:=by simp [BitVec.toNat_ofInt]; omega
 have h3:(BitVec.ofInt IntKind.i64.bits (a:Int) ^^^ BitVec.ofInt IntKind.i64.bits (b:Int)).toNat=a ^^^ b:=by
  show (BitVec.ofInt 64 (a:Int) ^^^ BitVec.ofInt 64 (b:Int)).toNat=_
  rw [BitVec.toNat_xor,h1,h2]
 have h4:a ^^^ b<1099511627776:=Nat.xor_lt_two_pow (n:=40) ha hb
 rw [h3]
 exact w64 (by omega) (by omega)
theorem yh7 {k:Nat}:((k:Nat):Int).tdiv 64=((k / 64:Nat):Int):=(Int.ofNat_tdiv k 64).symm
theorem sf0:((64:Int)=0)=False:=by simp
def rdO (vr:Nat) (code:Txt) (q:Nat):Ob := .arr vr 118 2 [eBy code,.int .i64 (q:Int)]
theorem z7w {code:Txt} (hc:code.length≤1048576):PN Tryz.prog 55 [eBy code] (.ref 0 0 0) [rdO 0 (code.take 2000) 0] true:=by
 refine PN.of ⟨Tryz.func55,by kernel_rfl,rfl,by kernel_rfl⟩ zao mixed (by show 1≤Tryz.f55.ntmps; decide) ?_
 refine W.r fun K hK=>?_
 simp(disch:=omega)only[↓RU,RV,RH,↓reduceIte,qE,reduceCtorEq,if_pos,↓RS,RG,qA,qM,qL]
 apply hK;clear hK K
 refine W.seq ?_
 refine W.r fun K hK=>?_
 simp(disch:=omega)only[↓RU,RV,RH,↓reduceIte,qE,reduceCtorEq,if_pos,w64,↓RS,RG,qA,qM,qL,ty7,zaa,zd4]
 apply hK;clear hK K
 refine W.cond rfl (fun h=>?_) (fun h=>?_)
 ·try simp only[RL]at h
  refine W.k fun K hK=>?_
  simp(disch:=omega)only[↓RU,RV,RH,↓reduceIte,qE,reduceCtorEq,if_pos,Option.map_none,↓RS,RG,qA,qM,qL,ty7,zd4]
  apply hK;clear hK K
  refine xn ?_
  refine W.r fun K hK=>?_
  simp(disch:=omega)only[↓RU,RV,RH,↓reduceIte,qE,reduceCtorEq,if_pos,↓RS,RG,qA,qM,qL,ty7,zaa,ycd,yce,zd4]
  apply hK;clear hK K
  refine W.ret ?_
  refine Br rfl ?_
  have e:(code.take 2000).length=2000:=by rw [List.length_take]; omega
  refine ⟨1,rfl,?_⟩
  simp [Store.take,zf5,zy9,sh,rdO,eBy,e,List.map_take]
 try simp only[RL]at h
 refine W.skip ?_
 refine xn ?_
 refine W.r fun K hK=>?_
 simp(disch:=omega)only[↓RU,RV,RH,↓reduceIte,qE,reduceCtorEq,if_pos,↓RS,RG,qA,qM,qL,ty7,zaa,ycd,yce,zd4]
 apply hK;clear hK K
 refine W.ret ?_
 refine Br rfl ?_
 have e:code.take 2000=code:=qT (by omega)
 refine ⟨1,rfl,?_⟩
 simp [Store.take,zf5,zy9,sh,rdO,eBy,e]
theorem ybo {code:Txt} {q vr t:Nat} {R:List Ob} (hc:code.length≤1048576) (hq:q≤1000000) (n:Int) (hn:n≤1000000) (hn0 : -1000000≤n):Ev Tryz.prog 57 [.ref 0 vr 0,.int .i64 n] ⟨.arr vr 118 2 [eBy code,.int .i64 (q:Int)]::R,t⟩ fun v S=>∃ k:Nat,v = .int .i64 (k:Int)∧(n<1→k=0)∧(1≤n→(k:Int)<n)∧S=⟨.arr vr 118 2 [eBy code,.int .i64 ((q:Int)+1)]::R,t⟩:=by
 refine Ev.of ⟨Tryz.func57,by kernel_rfl,rfl,by kernel_rfl⟩ zao mixed (by show 2≤Tryz.f57.ntmps; decide) ?_
 refine W.r fun K hK=>?_
 simp(disch:=omega)only[↓RU,RV,RH,↓reduceIte,qE,reduceCtorEq,if_pos,↓RS,RG,qA,qM,qL]
 apply hK;clear hK K
 refine W.r fun K hK=>?_
 simp(disch:=omega)only[↓RU,RV,RH,↓reduceIte,qE,reduceCtorEq,if_pos,w64,↓RS,RG,qA,qM,qL,ty7,zaa,ycd,yce,zd4]
 apply hK;clear hK K
 refine W.seq ?_
 refine W.r fun K hK=>?_
 by_cases hn1:n<1
 ·skip
  have hd:decide (n<1)=true:=decide_eq_true hn1
  simp(disch:=omega)only[↓RU,RV,RH,↓reduceIte,qE,reduceCtorEq,if_pos,w64,↓RS,RG,qA,qM,qL,ty7,zaa,ycd,yce,zd4,hd]
  apply hK;clear hK K
  refine W.cond rfl (fun h0=>?_) (fun h0=>?_)
  ·try simp only[RL]at h0
   refine W.r fun K hK=>?_
   simp(disch:=omega)only[↓RU,RV,RH,↓reduceIte,qE,reduceCtorEq,if_pos,↓RS,RG,qA,qM,qL]
   apply hK;clear hK K
   refine W.ret ?_
   refine XThen.ret ?_
   refine Br rfl ?_
   exact ⟨_,0,rfl,fun _=>rfl,fun h9=>by omega,zah⟩
  try simp only[RL]at h0
  exact absurd h0 (by simp)
 skip
 have hd:decide (n<1)=false:=decide_eq_false hn1
 obtain ⟨m,rfl⟩:∃ m:Nat,n=m:=⟨n.toNat,by omega⟩
 simp(disch:=omega)only[↓RU,RV,RH,↓reduceIte,qE,reduceCtorEq,if_pos,w64,↓RS,RG,qA,qM,qL,ty7,zaa,ycd,yce,zd4,hd]
 apply hK;clear hK K
 refine W.cond rfl (fun h0=>?_) (fun h0=>?_)
 ·try simp only[RL]at h0
  have hl0:code.length=0:=by simpa using h0
  refine W.r fun K hK=>?_
  simp(disch:=omega)only[↓RU,RV,RH,↓reduceIte,qE,reduceCtorEq,if_pos,↓RS,RG,qA,qM,qL]
  apply hK;clear hK K
  refine W.ret ?_
  refine XThen.ret ?_
  refine Br rfl ?_
  exact ⟨_,0,rfl,fun _=>rfl,fun h9=>by omega,zah⟩
 try simp only[RL]at h0
 have hl0:code.length≠0:=by intro h9; rw [h9]at h0; simp at h0
 obtain ⟨L,hL⟩:∃ L:Nat,code.length=L:=⟨_,rfl⟩
 have hLi:((L:Int)=0)=False:=by simp; omega
 have hmi:((m:Int)=0)=False:=by simp; omega
 rw [hL]at hl0 hc
 refine W.skip ?_
 refine xn ?_
 refine W.r fun K hK=>?_
 simp(disch:=omega)only[↓RU,RV,RH,↓reduceIte,qE,reduceCtorEq,if_pos,w64,↓RS,RG,qA,qM,qL,ty7,zaa,ycd,yce,zd4]
 apply hK;clear hK K
 simp only[show ((q:Int)+1 - 1)=(q:Int) from by omega]
 refine W.seq ?_
 refine W.r fun K hK=>?_
 simp(disch:=omega)only[↓RU,RV,RH,↓reduceIte,qE,reduceCtorEq,if_pos,w64,↓RS,RG,qA,qM,qL,ty7,zaa,ycd,yce,zd4,hL]
 apply hK;clear hK K
 refine W.cond rfl (fun h1=>?_) (fun h1=>?_)
 ·try simp only[RL]at h1
  obtain ⟨c,hcq,-⟩:=zaf (show q<code.length by omega)
  have hc8:=c.toNat_lt
  refine W.r fun K hK=>?_
  simp(disch:=omega)only[↓RU,RV,RH,↓reduceIte,qE,reduceCtorEq,if_pos,w64,w64,↓RS,RG,qA,qM,qL,ty7,zaa,ycd,yce,zd4,hcq,hmi,z08]
  apply hK;clear hK K
  refine W.ret ?_
  refine XThen.ret ?_
  refine Br rfl ?_
  exact ⟨_,_,rfl,fun h9=>by omega,fun _=>by have:=Nat.mod_lt c.toNat (show 0<m by omega); omega,zah⟩
 try simp only[RL]at h1
 obtain ⟨c1,hc1,-⟩:=zaf (show q % L<code.length by rw [hL]; exact Nat.mod_lt _ (by omega))
 obtain ⟨c2,hc2,-⟩:=zaf (show (q*7+3) % L<code.length by rw [hL]; exact Nat.mod_lt _ (by omega))
 have hb1:=c1.toNat_lt
 have hb2:=c2.toNat_lt
 have hq7:(q:Int)*7+3=((q*7+3:Nat):Int):=by omega
 obtain ⟨d,hd⟩:∃ d,q / L=d:=⟨_,rfl⟩
 have hqL:d≤q:=hd ▸ Nat.div_le_self _ _
 have hml1:=Nat.mod_lt q (show 0<L by omega)
 have hml2:=Nat.mod_lt (q*7+3) (show 0<L by omega)
 refine W.skip ?_
 refine xn ?_
 refine W.seq_draw (by kernel_rfl) fun K hK=>?_
 simp(disch:=omega)only[↓RU,RV,RH,↓reduceIte,qE,reduceCtorEq,if_pos,w64,w64,↓RS,RG,qA,qM,qL,ty7,zaa,ycd,yce,zd4,hL,hLi,z08,yf9,hc1,hc2,hq7,hd]
 apply hK;clear hK K
 obtain ⟨Y,hY⟩:∃ Y:Nat,(c1.toNat:Int)*131+(c2.toNat:Int)*1117+(q:Int)*29+(d:Int)*53=Y:=⟨c1.toNat*131+c2.toNat*1117+q*29+d*53,by omega⟩
 have hYb:Y<1099511627776:=by omega
 have hYd:Y / 64<1099511627776:=by omega
 simp only[hY]
 refine W.r fun K hK=>?_
 simp(disch:=omega)only[↓RU,RV,RH,↓reduceIte,qE,reduceCtorEq,if_pos,w64,↓RS,RG,qA,qM,qL,zaa,sf0,yh7,yjb hYb hYd]
 apply hK;clear hK K
 refine W.r fun K hK=>?_
 simp(disch:=omega)only[↓RU,RV,RH,↓reduceIte,qE,reduceCtorEq,if_pos,w64,↓RS,RG,qA,qM,qL,zaa,hmi,z08]
 apply hK;clear hK K
 refine W.ret ?_
 refine Br rfl ?_
 exact ⟨_,_,rfl,fun h9=>by omega,fun _=>by have:=Nat.mod_lt (Y ^^^ Y / 64) (show 0<m by omega); omega,zah⟩
end Fw
end Go.Proofs.YtddhgiafpmghpaaGreat
